/- Part 5 of what FnOpen needs. No condition. -/
import Derived.Test.YthnjiffnjaaejaaGreatDoorFnOpenD
set_option linter.all false
namespace Go.Eng
open Go Go.Proofs
section
variable{R:bg}{n:Nat}(hD:kv R n){e:cf}(bc:e.ne=30- (n:Int))
include hD bc
theorem S2{r:aa}{pd:ao}{tr:Bool}(h:cD e r pd)(ag:bq r=some r)(ir:eZ (bt (r.dropWhile ca))=true):bM false e r (dv (a7 true n) r pd) (λst=>st) (λb _ _=>b=true) (B9 R (e.st r pd tr)):=by
 have CM:r.dropWhile ca<:+r:=Cx;have df:dv (a7 true n) r pd=ae (if bt (r.dropWhile ca)=[60,60] then hB false else if bt (r.dropWhile ca)=[60,60,45] then hB true else jM (a7 true n) [120]) (λ_=>aY true) ((r.dropWhile ca).drop (bt (r.dropWhile ca)).length) pd:=by
  have mO:fN r pd= .ok (some (bt (r.dropWhile ca))) ((r.dropWhile ca).drop (bt (r.dropWhile ca)).length) pd:=by simp_all[fN]
  unfold dv;grind[aM]
 rw[df];unfold B9 a8;have ad:(e.st r pd tr).1=e.S:=rfl;have af:(e.st r pd tr).2.1=ax e.S r:=rfl;refine bM.dW ?_ (amk (e:=e) (x0:=e.st r pd tr) rfl h.b0 bB r (lq (lL (eL h.sfx) h.b0)) h.sfx);have aE:=CM.trans h.sfx;have S3:=h.mono CM;generalize r.dropWhile ca=q at*;have hR:bt q<+:q:=Ro;have l8:=XG (r:=q);have h0:=Sh ir;have fD:hH ((e.st r pd tr).1,ax e.S q,(e.st r pd tr).2.2.1,(e.st r pd tr).2.2.2.1,(e.st r pd tr).2.2.2.2.1,(e.st r pd tr).2.2.2.2.2.1,(e.st r pd tr).2.2.2.2.2.2.1,(e.st r pd tr).2.2.2.2.2.2.2.1,(e.st r pd tr).2.2.2.2.2.2.2.2)=some (bt q):=IW h.b0 aE _ _ _ _ _ _ _;rw[fD,aO rfl];generalize aQ:bt q=o at*;obtain⟨v,rfl⟩:=hR;rw[o5];have fP:v<:+o++v:=gP o v;have ay:=S3.mono fP;have kH:W (ax e.S (o++v)+(o.length:Int))=ax e.S v:=ku h.b0 aE;have sH:v≠[]:=by
  rintro rfl;rw[rS] at aE;rcases h.nl.ia aE with m|⟨s,m⟩
  ·grind
  grind
 have R7:v.length<r.length:=by grind
 have bT:((e.st r pd tr).1,W (ax e.S (o++v)+(o.length:Int)),(e.st r pd tr).2.2.1,(e.st r pd tr).2.2.2.1,(e.st r pd tr).2.2.2.2.1,(e.st r pd tr).2.2.2.2.2.1,(e.st r pd tr).2.2.2.2.2.2.1,(e.st r pd tr).2.2.2.2.2.2.2.1,(e.st r pd tr).2.2.2.2.2.2.2.2)=e.st v pd tr:=by rw[kH];rfl
 rw[bT];have y1:v<:+r:=fP.trans CM;have asm:=ay.jO;have nF:=tH pd;have mx:=h.b0;have ama:=eL h.sfx;have asn:(bif decide (o=[60,60]) then true else decide (o=[60,60,45]))=(decide (o=[60,60])||decide (o=[60,60,45])):=by simp
 rcases xn ay ⟨tr,rfl,λC=>absurd C sH⟩ with⟨c,eH,bU,cG,ez,P,dB,hS⟩|⟨bU,cG⟩
 ·rw[cG,aO rfl];obtain⟨g,rfl,_⟩:=ez;have ZY:c≠[]:=Zw (h.nl.ia ay.sfx) sH bU;have j4:gz ((e.st c pd g).1,(e.st c pd g).2.1,(e.st c pd g).2.2.1,(e.st r pd tr).2.2.2.1,(e.st c pd g).2.2.2.2.1,(e.st c pd g).2.2.2.2.2.1,(e.st c pd g).2.2.2.2.2.2.1,(e.st r pd tr).2.2.2.2.2.2.2.1,(e.st c pd g).2.2.2.2.2.2.2.2)=some (decide (c=[])):=vZ e c _ _ _ _ _ _ _;rw[j4,aO rfl,e1 ZY];simp only[aU];have aml:vM ((e.st c pd g).1,(e.st c pd g).2.1,(e.st c pd g).2.2.1,(e.st r pd tr).2.2.2.1,(e.st c pd g).2.2.2.2.1,(e.st c pd g).2.2.2.2.2.1,(e.st c pd g).2.2.2.2.2.2.1,(e.st r pd tr).2.2.2.2.2.2.2.1,(e.st c pd g).2.2.2.2.2.2.2.2)=some (match ar c with| .word _ _=>false|_=>true):=MK P ZY;rw[aml,aO rfl];have u:c<:+r:=dB.trans y1
  have amm:∀t,ar c=t->(∀w p,t≠ .word w p)->(if o=[60,60] then hB false else if o=[60,60,45] then hB true else jM (a7 true n) [120]:ak Unit) v pd= .bad c:=by
   intro t ht aso
   have asp:∀tabs,hB tabs v pd= .bad c:=by grind[hB,lH]
   have q7:jM (a7 true n) [120] v pd= .bad c:=by
    unfold jM;rw[aM (cb bU)];cases hk:ar c with
    |eof=>grind[lH]
    |word w p=>grind
    |_=>rfl
   grind
  by_cases S:∃w p,ar c= .word w p
  ·obtain⟨w,p,S⟩:=S;rw[S];simp only[aU];have er:=FH hD bc (tr0:=g) P;obtain⟨⟨fE,hT,f⟩,T,i⟩:=er;have v_:qe R ((e.st c pd g).1,(e.st c pd g).2.1,(e.st c pd g).2.2.1,(e.st r pd tr).2.2.2.1,(e.st c pd g).2.2.2.2.1,(e.st c pd g).2.2.2.2.2.1,(e.st c pd g).2.2.2.2.2.2.1,(e.st r pd tr).2.2.2.2.2.2.2.1,(e.st c pd g).2.2.2.2.2.2.2.2)=some (fE,hT,f):=T;rw[v_,aO rfl];simp only;have D:=ami (l_ true n) _ c pd (cX _) (h.nl.ia P.sfx);by_cases aG:o=[60,60]\/o=[60,60,45]
   ·have E:(bif decide (o=[60,60]) then true else decide (o=[60,60,45]))=true:=by grind
    rw[E];simp only[g8,aU];have ML:(if o=[60,60] then hB false else if o=[60,60,45] then hB true else jM (a7 true n) [120]:ak Unit)=hB (decide (o=[60,60,45])):=by grind
    generalize decide (o=[60,60,45])=tabs at*;have j:hB tabs v pd=(match du c with
      |none=> .bad c
      |some (d,q,k)=>if d.contains 10 then .bad c else
       if tabs/\d.head?=some 9 then .bad c else
       if k≠[] then .more [k] k (pd++[(d,tabs)]) else
       if q=[] then .more [] [] (pd++[(d,tabs)]) else .ok () q (pd++[(d,tabs)])):=by
     grind[hB]
    have UO:f.2.2.2.2.2.2.1.length<=100*e.S.length+1000:=by
     cases hm:cI (a7 true n) c pd with
     |ok a I F=>rw[hm] at i;obtain⟨_,_,⟨U,m,_⟩,_⟩:=i;dsimp only at m;rw[m];show([]:aa).length<=_;simp
     |more op nd ds=>rw[hm] at i;have:=i.z.2.2.2.1.nd;grind
     |bad q=>rw[hm] at i;have:=i.2.nd;grind
     |deep q=>rw[hm] at i;have:=i.2.nd;grind
    have amn:ch f.2.2.2.2.2.2.1 ((e.st c pd g).2.2.2.2.2.2.1.length:Int) (f.2.2.2.2.2.2.1.length:Int)=f.2.2.2.2.2.2.1:=by show ch f.2.2.2.2.2.2.1 ((0:Nat):Int) _=_;simp[ch]
    rw[amn];have ZZ:f.1=e.S/\n4 e r f:=by
     cases hm:cI (a7 true n) c pd with
     |ok a I F=>rw[hm] at i;obtain⟨V,a2,⟨U,m,_⟩,_⟩:=i;dsimp only at m;rw[m];exact⟨rfl,ZX a2 (V.trans u)⟩
     |more op nd ds=>rw[hm] at i;exact⟨i.z.2.2.2.1.s,i.z.2.2.2.1.mono u⟩
     |bad q=>rw[hm] at i;exact⟨i.2.s,i.2.mono u⟩
     |deep q=>rw[hm] at i;exact⟨i.2.s,i.2.mono u⟩
    obtain⟨xk,vc⟩:=S0 P ZZ.1 T;dsimp only at xk vc;have xr:fE.length<=1000000:=by omega
    refine bM.dW ?_ (bZ (show 0<=((e.st c pd g).2.2.2.2.2.2.1.length:Int)/\((e.st c pd g).2.2.2.2.2.2.1.length:Int)<=(f.2.2.2.2.2.2.1.length:Int)/\(f.2.2.2.2.2.2.1.length:Int)<=(f.2.2.2.2.2.2.1.length:Int) from by show(0:Int)<=((0:Nat):Int)/\((0:Nat):Int)<=_/\_;omega))
    refine bM.dW ?_ (bZ (by omega));have X:((fE++f.2.2.2.2.2.2.1).length:Int)<=200000000:=by grind
    refine bM.dW ?_ (aO (akD _ X));have z:=ZZ.2;have amo:∀(l:aa)(J:Bool),(a4 (((bif tabs then(decide (0<(l.length:Int))) else false)=true)->((bif(decide (f.2.2.2.2.1=2)) then true else(!J))=false)->0<=(0:Int)/\0<(l.length:Int))<|
      (bif(bif(bif(decide (f.2.2.2.2.1=2)) then true else(!J)) then true else(bif(bif tabs then(decide (0<(l.length:Int))) else false) then(decide (((at' l 0).toNat:Int)=(9:Int))) else false)) then
      (au (hy f (e.st c pd g).2.1) λ(G:ah)=>
      some (G.1,G.2.1,G.2.2.1,f.2.2.2.1,G.2.2.2.2.1,G.2.2.2.2.2.1,G.2.2.2.2.2.2.1,f.2.2.2.2.2.2.2.1,G.2.2.2.2.2.2.2.2))
      else
      (a4 (f.2.2.2.1.length+([(l,tabs)]:ao).length<=536870912)<|
      some (f.1,f.2.1,f.2.2.1,(f.2.2.2.1++([(l,tabs)]:ao)),f.2.2.2.2.1,f.2.2.2.2.2.1,f.2.2.2.2.2.2.1,f.2.2.2.2.2.2.2.1,f.2.2.2.2.2.2.2.2))))=
      if(f.2.2.2.2.1=2\/J=false\/(tabs=true/\l.head?=some 9)) then some (f.1,f.2.1,f.2.2.1,f.2.2.2.1,2,(e.st c pd g).2.1,f.2.2.2.2.2.2.1,f.2.2.2.2.2.2.2.1,f.2.2.2.2.2.2.2.2)
      else some (f.1,f.2.1,f.2.2.1,(f.2.2.2.1++([(l,tabs)]:ao)),f.2.2.2.2.1,f.2.2.2.2.2.1,f.2.2.2.2.2.2.1,f.2.2.2.2.2.2.2.1,f.2.2.2.2.2.2.2.2):=by
     intro l J
     rw[bZ (by grind)]
     have Sf:(bif bif tabs then decide (0<(l.length:Int)) else false then decide (((at' l 0).toNat:Int)=9) else false)=decide (tabs=true/\l.head?=some 9):=by
      cases tabs with
      |false=>simp
      |true=>
       cases l with
       |nil=>simp
       |cons x y=>simp[at',IB]
     rw[Sf];have amp:f.2.2.2.1.length+[(l,tabs)].length<=536870912:=by have m:=tH f.2.2.2.1;have aV:=z.nd;grind
     rw[bZ amp];by_cases eS:f.2.2.2.2.1=2
     ·simp only[eS,bz,aK,true_or,cH];rfl
     ·by_cases dK:J=false
      ·subst dK;simp only[eS,bF,aU,e7,aK,false_or,true_or,cH];rfl
      ·have amq:J=true:=by grind
       subst amq;by_cases ju:tabs=true/\l.head?=some 9
       ·rw[bh (.inr (.inr ju)),decide_eq_true ju];simp only[eS,bF,aU,g8,aK];rfl
       grind
    refine bM.dW ?_ (amo _ _);rw[ML];have q8:bM false e r (.bad c:dD Bool) (λst=>st) (λb _ _=>b=true) (some (f.1,f.2.1,f.2.2.1,f.2.2.2.1,(2:Int),(e.st c pd g).2.1,f.2.2.2.2.2.2.1,f.2.2.2.2.2.2.2.1,f.2.2.2.2.2.2.2.2)):=
     ⟨_,rfl,rfl,z.s,z.lo,z.bf,z.nd,z.op⟩
    have H:=aI.sy (tabs:=tabs) (r0:=o++v) (v:=v) (pd:=pd) (by grind);have amr:=S3.jO;cases hm:cI (a7 true n) c pd with
    |bad q=>
     rw[hm] at i D;rw[bh (.inl i.1)];have:hB tabs v pd= .bad c:=by rw[j,show du c=none from D]
     grind[gZ]
    |deep q=>
     rw[hm] at i D;rw[bh (.inl i.1)];have:hB tabs v pd= .bad c:=by rw[j,show du c=none from D]
     grind[gZ]
    |ok a I F=>
     rw[hm] at i D;obtain⟨V,a2,⟨U,m,_⟩,bO,_⟩:=i;dsimp only at m bO;subst m;have ams:(e.st I F U).2.2.2.2.2.2.1=[]:=rfl;rw[ams,rS];obtain⟨w,Mu,sK⟩:=D;have S4:fE=w:=by simp_all
     subst S4;have amt:¬((e.st I F U).2.2.2.2.1=2):=by show¬((0:Int)=2);decide
     rcases sK with⟨Y,A⟩|⟨d,Y,A,rfl⟩
     ·rw[A];rw[bh (.inr (.inl rfl))];grind[gZ]
     ·rw[Y];rw[A] at j;simp only at j;unfold AA;simp only;by_cases K:d.contains 10=true
      ·rw[bh K] at j;rw[bh (.inr (.inl (by grind))),gZ j];grind
      ·rw[aP K] at j;by_cases Ih:tabs=true/\d.head?=some 9
       ·rw[bh Ih] at j;rw[bh (.inr (.inr (by grind))),gZ j];grind
       ·rw[aP Ih] at j;have Z0:I≠[]:=by
         rintro rfl;have hex:cI (a7 true n) c F= .ok a [] F:=hm
         have:∀(N:Nat)(r:aa)(pd:ao)(a:Unit)(q:aa)(aC:ao),r.length<=N->cI (a7 true n) r pd= .ok a q aC->q≠[]:=by
          intro N r pd a q aC nn C;unfold cI at C;refine Yy (Q:=λq=>q≠[]) (λs r pd a q aC MM=>?_) N _ _ _ _ _ _ nn C;cases r with
          |nil=>cases MM
          |cons b t=>
           simp only at MM;split at MM
           ·grind
           ·obtain⟨_,_,_,_,amu⟩:=b4 MM;cases amu
         grind
        rw[aP (by simp),aP Z0] at j;rw[aP (by grind),aM j,if_neg K];rw[j] at H;simp only[d_] at H;exact⟨_,rfl,V.trans u,⟨h.b0,h.nl,h.IV,a2.sfx,by omega⟩,⟨U,rfl,λC=>absurd C Z0⟩,rfl⟩
    |more op nd ds=>
     rw[hm] at i D;obtain⟨Z,L,M,FG,O⟩:=i.z;dsimp only at Z L M FG O;have S4:=vc O;rw[S4,L];have amt:¬(f.2.2.2.2.1=2):=by omega
     rcases D with⟨Y,A⟩|⟨d,Y,A,rfl⟩
     ·have yS:(AA (dl (c++nd) 0)).2=false:=by
       rcases A with A|⟨d,A,hI⟩
       ·rw[A];rfl
       simp_all[AA]
      simp_all[gZ]
     ·rw[A];rw[Y] at j;simp only at j;unfold AA;simp only;by_cases K:d.contains 10=true
      ·simp_all[gZ]
      ·rw[aP K] at j;by_cases Ih:tabs=true/\d.head?=some 9
       ·simp_all[gZ]
       ·rw[aP Ih] at j;rw[aP (by grind),if_neg K]
        have lr:∃lj,hB tabs v ds= .more lj nd (ds++[(d,tabs)]):=by grind
        obtain⟨lj,lr⟩:=lr;rw[db lr];rw[lr] at H;simp only[d_] at H;rw[M];exact⟨_,rfl,.inl ⟨Z,rfl,rfl,⟨z.s,z.lo,z.bf,by grind,z.op⟩,O⟩⟩
   ·have E:(bif decide (o=[60,60]) then true else decide (o=[60,60,45]))=false:=by grind
    rw[E];simp only[e7,aK];simp only[Gk] at aG;have B:(if o=[60,60] then hB false else if o=[60,60,45] then hB true else jM (a7 true n) [120]:ak Unit) v pd=cI (a7 true n) c pd:=by rw[aP aG.1,aP aG.2];unfold jM;rw[aM (cb bU),S]
    cases hm:cI (a7 true n) c pd with
    |ok a I F=>rw[hm] at i B;rw[aM B];obtain⟨V,a2,a3,_⟩:=i;exact⟨f,rfl,V.trans u,a2,a3,rfl⟩
    |more op nd ds=>rw[hm] at i B;rw[db B];exact⟨f,rfl,iD.mono i u⟩
    |bad q=>rw[hm] at i B;rw[gZ B];exact⟨f,rfl,iQ.mono i u⟩
    |deep q=>rw[hm] at i B;rw[jR B];exact⟨f,rfl,iQ.mono i u⟩
  ·have amv:(match ar c with| .word _ _=>false|_=>true)=true:=by grind
   rw[amv];simp only[aK];rw[gZ (amm _ rfl (λw p C=>S ⟨w,p,C⟩))];obtain⟨st,T,i⟩:=pQ (tr:=g) ((e.st c pd g).2.1) P u;have v_:hy ((e.st c pd g).1,(e.st c pd g).2.1,(e.st c pd g).2.2.1,(e.st r pd tr).2.2.2.1,(e.st c pd g).2.2.2.2.1,(e.st c pd g).2.2.2.2.2.1,(e.st c pd g).2.2.2.2.2.2.1,(e.st r pd tr).2.2.2.2.2.2.2.1,(e.st c pd g).2.2.2.2.2.2.2.2) (e.st c pd g).2.1=some st:=T;rw[v_,aO rfl];exact⟨_,rfl,by cases T;exact i⟩
 ·
  rw[cG,aO rfl];have j4:gz ((e.tt pd).1,(e.tt pd).2.1,(e.tt pd).2.2.1,(e.st r pd tr).2.2.2.1,(e.tt pd).2.2.2.2.1,(e.tt pd).2.2.2.2.2.1,(e.tt pd).2.2.2.2.2.2.1,(e.st r pd tr).2.2.2.2.2.2.2.1,(e.tt pd).2.2.2.2.2.2.2.2)=some true:=by have:=vZ e [] e.ne 0 0 pd [] [] true;rw[iu] at this;exact this
  rw[j4,aO rfl];simp only[aK];have amw:cD e [] pd:=ay.mono oA;obtain⟨aR,aZ,bk⟩:=FA (tr:=true) (x:=[120]) amw (by simp);rw[ZW] at bk;have tI:g5 ((e.tt pd).1,(e.tt pd).2.1,(e.tt pd).2.2.1,(e.st r pd tr).2.2.2.1,(e.tt pd).2.2.2.2.1,(e.tt pd).2.2.2.2.2.1,(e.tt pd).2.2.2.2.2.2.1,(e.st r pd tr).2.2.2.2.2.2.2.1,(e.tt pd).2.2.2.2.2.2.2.2) [120]=some aR:=by rw[<-aZ,<-xm];rfl
  rw[tI,aO rfl];obtain⟨Z,L,M,FG,O⟩:=bk;dsimp only at L M;have mO:([]:aa)<:+r:=oA;have et:=FG.mono mO;by_cases aG:o=[60,60]\/o=[60,60,45]
  ·have E:(bif decide (o=[60,60]) then true else decide (o=[60,60,45]))=true:=by grind
   rw[E];simp only[aK];have ML:(if o=[60,60] then hB false else if o=[60,60,45] then hB true else jM (a7 true n) [120]:ak Unit) v pd=hB (decide (o=[60,60,45])) v pd:=by grind
   have hm:hB (decide (o=[60,60,45])) v pd= .more [] [120] (pd++[([120],decide (o=[60,60,45]))]):=by grind[hB]
   rw[hm] at ML;rw[db ML];have H:=aI.sy (tabs:=decide (o=[60,60,45])) (r0:=o++v) (v:=v) (pd:=pd) (by grind);rw[hm] at H;simp only[d_] at H;have amr:=S3.jO;have asq:aR.2.2.2.1.length<=100000000:=by grind
   refine bM.dW ?_ (bZ (by grind));rw[M];exact⟨_,rfl,.inl ⟨Z,L,rfl,⟨et.s,et.lo,et.bf,by grind,et.op⟩,O⟩⟩
  ·have E:(bif decide (o=[60,60]) then true else decide (o=[60,60,45]))=false:=by grind
   rw[E];simp only[aU];simp only[Gk] at aG;have B:(if o=[60,60] then hB false else if o=[60,60,45] then hB true else jM (a7 true n) [120]:ak Unit) v pd= .more [] [120] pd:=by rw[aP aG.1,aP aG.2];unfold jM;grind[db,iB,b3,ZW]
   rw[db B];exact⟨_,rfl,.inl ⟨Z,L,M,et,O⟩⟩
end
theorem qz(e:cf)(r:aa)(pd:ao)(tr:Bool):gz (e.st r pd tr)=some (decide (r=[])):=vZ e r _ _ _ _ _ _ _
theorem oX(e:cf)(pd:ao):gz (e.tt pd)=some true:=by simp[xm,qz]
theorem rN{e:cf}{r:aa}{pd:ao}{tr:Bool}(h:cD e r pd):hH (e.st r pd tr)=some (bt r):=IW h.b0 h.sfx _ _ _ _ _ _ _
theorem FJ{e:cf}{r:aa}{pd:ao}{tr:Bool}(h:cD e r pd):ig (e.st r pd tr)=some (r.headD 0):=v3 h.sfx _ _ _ _ _ _ _
theorem amx:bt []=[]:=by decide
theorem FK{e:cf}(pd:ao)(h:e.S.length<=1000000):hH (e.tt pd)=some []:=by have:=IW (e:=e) (r:=[]) h oA e.ne 0 0 pd [] [] true;rw[amx] at this;rw[xm];exact this
theorem amy(e:cf)(pd:ao):ig (e.tt pd)=some 0:=by rw[xm];exact v3 (e:=e) (r:=[]) oA _ _ _ _ _ _ _
theorem cD.AK{e:cf}{r:aa}{pd:ao}(h:cD e r pd):cD e [] pd:=h.mono oA
theorem amz{e:cf}{pd:ao}(h:cD e [] pd):lF (e.tt pd)=some []:=by rw[xm,v8 h];rfl
theorem CX{e:cf}{pd:ao}{x:aa}(h:cD e [] pd)(b:x.length<=100):∃a,g5 (e.tt pd) x=some a/\n5 e [] (cQ [] pd x).1 (cQ [] pd x).2 a:=by rw[xm];exact FA h b
theorem uV{e:cf}{pd:ao}{tr:Bool}{x:aa}(h:cD e [] pd)(b:x.length<=100):∃a,g5 (e.st [] pd tr) x=some a/\n5 e [] (cQ [] pd x).1 (cQ [] pd x).2 a:=FA h b
theorem Z1{e:cf}(pd:ao):oi (e.tt pd)=some (e.tt pd):=by
 unfold oi;rw[CR,aO rfl];unfold a8
 obtain⟨n,aw⟩:∃n,bB=n+1:=⟨bB-1,by rw[gm]⟩
 dsimp only;rw[aw,e4];unfold yx;dsimp only;have a:ig ((e.tt pd).1,(e.tt pd).2.1,(e.tt pd).2.2.1,(e.tt pd).2.2.2.1,(e.tt pd).2.2.2.2.1,(e.tt pd).2.2.2.2.2.1,(e.tt pd).2.2.2.2.2.2.1,(e.tt pd).2.2.2.2.2.2.2.1,(e.tt pd).2.2.2.2.2.2.2.2)=some 0:=amy e pd;simp_all[gf]
theorem iD.tt{e:cf}{r:aa}(pd:ao):iD true e r [] pd (e.tt pd):= .inr ⟨rfl,rfl,rfl⟩
theorem gg.eta{e:cf}{r:aa}{pd:ao}{st:ah}(h:gg e r pd st):st.1=e.S/\st.2.1=ax e.S r/\st.2.2.1=e.ne/\st.2.2.2.1=pd/\st.2.2.2.2.1=0/\st.2.2.2.2.2.1=0/\st.2.2.2.2.2.2.1=[]/\st.2.2.2.2.2.2.2.1=[]:=by obtain⟨tr,rfl,_⟩:=h;exact⟨rfl,rfl,rfl,rfl,rfl,rfl,rfl,rfl⟩
section
variable{R:bg}{n:Nat}(hD:kv R n){e:cf}(bc:e.ne=30- (n:Int))
include hD bc
theorem Z2{r:aa}{pd:ao}{st:ah}(h:cD e r pd)(C:gg e r pd st):bM true e r (gI (a7 true n) r pd) (λst=>st) (λ_ _ _=>True) (Ch R st):=by
 have K:∀(N:Nat)(r:aa)(pd:ao)(st:ah),r.length+1<N->cD e r pd->gg e r pd st->bq r=some r->bM true e r (gI (a7 true n) r pd) (λst=>st) (λ_ _ _=>True) (fixF (Am R λx=>some x) N st):=by
  intro N;induction N with
  |zero=>omega
  |succ N D=>
   intro r pd st nn i L E;rw[e4]
   obtain⟨M,O⟩:∃M,N=M+1:=⟨N-1,by omega⟩
   have v:∀x:ah,(x.2.2.2.2.1≠0\/∃ds,x=e.tt ds)->fixF (Am R λx=>some x) N x=some x:=by
    intro x w;rw[O,e4];unfold Am;dsimp only;rcases w with w|⟨ds,rfl⟩
    ·simp only[w,bF,cY,eB,cr,aU,and_false]
    ·rw[show gz ((e.tt ds).1,(e.tt ds).2.1,(e.tt ds).2.2.1,(e.tt ds).2.2.2.1,(e.tt ds).2.2.2.2.1,(e.tt ds).2.2.2.2.2.1,(e.tt ds).2.2.2.2.2.2.1,(e.tt ds).2.2.2.2.2.2.2.1,(e.tt ds).2.2.2.2.2.2.2.2)=some true from oX e ds];rfl
   generalize ub:fixF (Am R λx=>some x) N=k at D v;obtain⟨tr,rfl,F⟩:=L;unfold Am a8;dsimp only;have P:gz ((e.st r pd tr).1,(e.st r pd tr).2.1,(e.st r pd tr).2.2.1,(e.st r pd tr).2.2.2.1,(e.st r pd tr).2.2.2.2.1,(e.st r pd tr).2.2.2.2.2.1,(e.st r pd tr).2.2.2.2.2.2.1,(e.st r pd tr).2.2.2.2.2.2.2.1,(e.st r pd tr).2.2.2.2.2.2.2.2)=some (decide (r=[])):=qz e r pd tr;have Q:hH ((e.st r pd tr).1,(e.st r pd tr).2.1,(e.st r pd tr).2.2.1,(e.st r pd tr).2.2.2.1,(e.st r pd tr).2.2.2.2.1,(e.st r pd tr).2.2.2.2.2.1,(e.st r pd tr).2.2.2.2.2.2.1,(e.st r pd tr).2.2.2.2.2.2.2.1,(e.st r pd tr).2.2.2.2.2.2.2.2)=some (bt r):=rN i;have y:Ac ((e.st r pd tr).1,(e.st r pd tr).2.1,(e.st r pd tr).2.2.1,(e.st r pd tr).2.2.2.1,(e.st r pd tr).2.2.2.2.1,(e.st r pd tr).2.2.2.2.2.1,(e.st r pd tr).2.2.2.2.2.2.1,(e.st r pd tr).2.2.2.2.2.2.2.1,(e.st r pd tr).2.2.2.2.2.2.2.2)=some (decide (r.dropWhile ca≠r)&&eZ (bt (r.dropWhile ca))):=SP i;have h0:(e.st r pd tr).2.2.2.2.1=0:=rfl;rw[P,gf,Q,gf,Fy,gf,y,gf,h0];simp only[bz,cH];by_cases S:r=[]
   ·subst S;have f:gI (a7 true n) [] pd= .ok () [] pd:=by unfold gI;rw[cq,aM (uU (r':=[]) lX (by decide))];rfl
    rw[f];simp only[bz,g8,aU,aK];exact⟨_,rfl,fT,i,⟨tr,rfl,F⟩,trivial⟩
   ·have T:(bif(bif true then !decide (r=[]) else false) then bif(if(bif true then !decide (r=[]) else false)=true then eZ (if(bif true then !decide (r=[]) else false)=true then bt r else []) else false) then true else(if((if(bif true then !decide (r=[]) else false)=true then eZ (if(bif true then !decide (r=[]) else false)=true then bt r else []) else false)=false/\(bif true then !decide (r=[]) else false)=true) then(decide (r.dropWhile ca≠r)&&eZ (bt (r.dropWhile ca))) else false) else false)=eZ (bt (r.dropWhile ca)):=by
     conv=>rhs;rw[<-MD r]
     grind
    refine bM.dW ?_ (show(bif(bif(bif true then !decide (r=[]) else false) then bif(if(bif true then !decide (r=[]) else false)=true then eZ (if(bif true then !decide (r=[]) else false)=true then bt r else []) else false) then true else(if((if(bif true then !decide (r=[]) else false)=true then eZ (if(bif true then !decide (r=[]) else false)=true then bt r else []) else false)=false/\(bif true then !decide (r=[]) else false)=true) then(decide (r.dropWhile ca≠r)&&eZ (bt (r.dropWhile ca))) else false) else false) then _ else _)=_ from by rw[T]);cases G:eZ (bt (r.dropWhile ca)) with
    |false=>
     have f:gI (a7 true n) r pd= .ok () r pd:=by unfold gI;rw[cq,aM (uU E G)];rfl
     rw[f];exact⟨_,rfl,fT,i,⟨tr,rfl,F⟩,trivial⟩
    |true=>
     simp only[aK];unfold gI;rw[cq];refine bM.iC c3.k (S2 hD bc (tr:=tr) i E G) (λb r1 aD c U s1 V H W=>?_) (λop nd ds c _ I=>?_) (λc t=>?_)
     ·subst W;have hl:=sz (l_ true n) U;have j:=H.eta;rw[j.2.2.2.2.1];simp only[bz,aK];show bM true e r (cP _ r (.ok (.inl ()) r1 aD)) _ _ _;refine bM.inl hl ?_;rcases xn V H with⟨d,a,l,g,o,u,p,z⟩|⟨l,g⟩
      ·rw[g,aO rfl];have af:=o.eta;rw[j.2.2.2.1,j.2.2.2.2.2.2.2];have A:a=(a.1,a.2.1,a.2.2.1,aD,a.2.2.2.2.1,a.2.2.2.2.2.1,a.2.2.2.2.2.2.1,([]:bl),a.2.2.2.2.2.2.2.2):=by grind
       rw[<-A];have f:gI (a7 true n) r1 aD=gI (a7 true n) d aD:=by
        unfold gI;rw[cq,cq];have X:dv (a7 true n) r1 aD=dv (a7 true n) d aD:=by unfold dv;grind[fN,ae]
        have B:ae (dv (a7 true n)) (λb=>(aY (if b=true then .inl () else .inr ()):ak (Unit⊕Unit))) r1 aD=ae (dv (a7 true n)) (λb=>aY (if b=true then .inl () else .inr ())) d aD:=by grind[ae]
        rw[B];cases hm:dv (a7 true n) d aD with
        |ok b s Y=>
         rw[aM hm];cases b with
         |true=>have Z:=sz (l_ true n) hm;have nG:=p.length_le;show(if s.length<r1.length then _ else _)=(if s.length<d.length then _ else _);grind
         |false=>rfl
        |more op nd ds=>rw[db hm];rfl
        |bad q=>rw[gZ hm];rfl
        |deep q=>rw[jR hm];rfl
       have:=(D d aD a (by grind) u o z).mono (p.trans s1);unfold gI at f this;grind
      ·rw[g,aO rfl,j.2.2.2.1,j.2.2.2.2.2.2.2];have f:b7 (λ_=>ae (dv (a7 true n)) λb=>aY (if b=true then .inl () else .inr ())) () r1 aD=(.more [] [] aD:dD Unit):=by
        rw[cq];have:dv (a7 true n) r1 aD= .more [] [] aD:=by unfold dv;exact db (by unfold fN;rw[l];rfl)
        rw[db this];rfl
       rw[f];exact⟨e.tt aD,v (e.tt aD) (.inr ⟨aD,rfl⟩),iD.tt aD⟩
     ·have ad:=I.z.1;refine⟨c,?_,I.up⟩;grind
     ·refine⟨c,?_,t⟩;rw[t.1];simp only[show¬((2:Int)=0) by decide,bF,aU];have:=v c (.inl (by rw[t.1];decide));have alO:c=(c.1,c.2.1,c.2.2.1,c.2.2.2.1,2,c.2.2.2.2.2.1,c.2.2.2.2.2.2.1,c.2.2.2.2.2.2.2.1,c.2.2.2.2.2.2.2.2):=by rw[<-t.1]
      grind
 unfold Ch a8;have J:=C.eta;rw[J.2.2.2.1,J.2.2.2.2.2.2.2];rcases xn h C with⟨d,a,l,g,o,u,p,z⟩|⟨l,g⟩
 ·rw[g,aO rfl];have A:a=(a.1,a.2.1,a.2.2.1,pd,a.2.2.2.2.1,a.2.2.2.2.2.1,a.2.2.2.2.2.2.1,([]:bl),a.2.2.2.2.2.2.2.2):=by obtain⟨cy,rfl,_⟩:=o;rfl
  rw[<-A];have:=(K bB d pd a (v7 u) u o z).mono p;have f:gI (a7 true n) r pd=gI (a7 true n) d pd:=by
   unfold gI;rw[cq,cq];have X:dv (a7 true n) r pd=dv (a7 true n) d pd:=by unfold dv;grind[fN,ae]
   have B:ae (dv (a7 true n)) (λb=>(aY (if b=true then .inl () else .inr ()):ak (Unit⊕Unit))) r pd=ae (dv (a7 true n)) (λb=>aY (if b=true then .inl () else .inr ())) d pd:=by grind[ae]
   rw[B];cases hm:dv (a7 true n) d pd with
   |ok b s Y=>
    rw[aM hm];cases b with
    |true=>have Z:=sz (l_ true n) hm;have nG:=p.length_le;show(if s.length<r.length then _ else _)=(if s.length<d.length then _ else _);grind
    |false=>rfl
   |more op nd ds=>rw[db hm];rfl
   |bad q=>rw[gZ hm];rfl
   |deep q=>rw[jR hm];rfl
  grind
 ·rw[g,aO rfl];have f:gI (a7 true n) r pd= .more [] [] pd:=by
   unfold gI;rw[cq];have:dv (a7 true n) r pd= .more [] [] pd:=by unfold dv;exact db (by unfold fN;rw[l];rfl)
   rw[db this];rfl
  rw[f];refine⟨e.tt pd,?_,iD.tt pd⟩
  obtain⟨m,hm⟩:∃m,bB=m+1:=⟨bB-1,by rw[gm]⟩
  dsimp only;rw[hm,e4];unfold Am;dsimp only;rw[show gz ((e.tt pd).1,(e.tt pd).2.1,(e.tt pd).2.2.1,pd,(e.tt pd).2.2.2.2.1,(e.tt pd).2.2.2.2.2.1,(e.tt pd).2.2.2.2.2.2.1,[],(e.tt pd).2.2.2.2.2.2.2.2)=some true from oX e pd];rfl
end
def sL:ak aa:=λr pd=> .ok (ja r) (r.drop (ja r).length) pd
theorem amB(r:aa):ja r<+:r:=by grind[ja]
theorem S5{r:aa}(h:ja r≠[]):r.drop (ja r).length≠[]:=by
 unfold ja at h⊢;split
 ·grind[List.takeWhile_append_dropWhile]
 grind
theorem FM{v:aa}{pd:ao}{w:aa}(a:bq v=some v)(b:ar v= .word w true):cZ w v pd= .ok () (v.drop w.length) pd:=by unfold cZ nb;rw[aM (cb a),b];simp[cB,bV]
theorem MN{β:Type}{m:Nat}{c:Ctx}{no:Bool}{kw x:aa}{K:ak β}(aF:c≠ .text)(f:∀t,dE c t=cB t kw)(d:kw≠[]/\kw.all gv=true){r:aa}{pd:ao}(g:c_ r):
  ae (((aS true m).ls c no).aJ x) (λ_=>ae (cZ kw) (λ_=>K)) r pd=ae (ae (((aS true m).ls c no).aJ x) (λ_=>sL)) (λ_=>K) r pd:=by
 rw[ks];cases hm:(((aS true m).ls c no).aJ x) r pd with
 |ok a r1 aD=>
  rw[aM hm,aM hm];have b:=hJ.1 hm;have h:=((qX true m).ls c no).sfx b;obtain⟨cV,e6⟩:=AF true m;rw[e6] at b;obtain⟨i,j⟩:=yQ aF b;rw[f] at j;have e:ar r1= .word kw true:=by grind[cB]
  have aB:=(rM (g.ia h) d.1 d.2).2 e;rw[aM (FM i e)];have:sL r1 aD= .ok kw (r1.drop kw.length) aD:=by grind[sL]
  grind[aM]
 |more op nd ds=>grind[db]
 |bad q=>grind[gZ]
 |deep q=>grind[jR]
theorem S6{m:Nat}{c:Ctx}{no:Bool}{kw x:aa}(aF:c≠ .text)(a:∀t,dE c t=cB t kw)(b:kw≠[]/\kw.all gv=true){r:aa}{pd:ao}(d:c_ r):
  ae (((aS true m).ls c no).aJ x) (λ_=>cZ kw) r pd=ae (ae (((aS true m).ls c no).aJ x) (λ_=>sL)) (λ_=>aY ()) r pd:=by
 have ad:(λ_:Nat=>cZ kw)=λ_=>ae (cZ kw) (λ_=>aY ()):=by grind[Fk]
 simp_all[MN]
section
variable{R:bg}{n:Nat}(bn:ow R n){e:cf}(bc:e.ne=30- (n:Int))
include bn bc
theorem CY{c:Ctx}{x:aa}(aF:jt c=[119])(s:c≠ .text)(u:∀t,dE c t=true->∃w,t= .word w true/\w≠[]/\w.all gv=true)(L:x.length<=100){r:aa}{pd:ao}{st:ah}(h:cD e r pd)(v:gg e r pd st):
  bM false e r (ae (((aS true n).ls c false).aJ x) (λ_=>sL) r pd) (λb=>b.2) (λa r' b=>b.1=a/\a≠[]/\dE c (.word a true)=true/\r'≠[]) (pD R st (oW c) x):=by
 unfold pD;obtain⟨⟨y,z⟩,i,d⟩:=bn.im e c false (by cases c<;>first|rfl|grind[jt]) bc r pd st h v;dsimp only at d;rw[aF] at i;have A:R.nQ st [119] (oW c) true=some (y,z):=i;rw[A,aO rfl];dsimp only;have j:=(tG true n).ls c false r pd;have B:=h.nl.ia h.sfx;cases hm:(aS true n).ls c false r pd with
 |ok a r1 aD=>
  rw[hm] at d;obtain⟨k,a2,a3,_⟩:=d;have f:(((aS true n).ls c false).aJ x) r pd= .ok a r1 aD:=hJ.2 hm;rw[aM f];obtain⟨cV,e6⟩:=AF true n;rw[e6] at hm;obtain⟨M,C⟩:=yQ s hm;obtain⟨w,D,l,E⟩:=u _ C;have aB:=(rM (B.ia k) l E).2 D;have h0:=a3.eta.2.2.2.2.1;rw[h0];simp only[bz,g8,aU];obtain⟨tr,F,_⟩:=a3;rw[F,v8 a2,aO rfl,aB];have G:sL r1 aD= .ok w (r1.drop w.length) aD:=by grind[sL]
  rw[G];have m:=amB r1;rw[aB] at m;have g:=S5 (r:=r1) (by grind);rw[aB] at g;obtain⟨q,rfl⟩:=m;rw[o5] at g⊢;have o:q<:+w++q:=gP w q;have H:W (ax e.S (w++q)+(w.length:Int))=ax e.S q:=ku h.b0 a2.sfx;refine⟨(w,e.st q aD tr),?_,o.trans k,a2.mono o,⟨tr,rfl,λI=>absurd I g⟩,rfl,l,?_,g⟩
  ·show some (w,(e.S,W (ax e.S (w++q)+(w.length:Int)),e.ne,aD,(0:Int),(0:Int),([]:aa),([]:bl),tr))=_;rw[H];rfl
  grind
 |more op nd ds=>
  rw[hm] at d j;simp only[d_] at j;have N:=h.jO;have p:=d.z;have f:(((aS true n).ls c false).aJ x) r pd= .more op (cQ nd ds x).1 (cQ nd ds x).2:=by grind[ak.aJ]
  rw[db f,p.1];simp only[show¬((1:Int)=0) by decide,bF,e7,aK];obtain⟨O,J,K⟩:=xo (e:=e) (nm:=[]) (x:=x) (r1:=r) (r0:=r) (nd:=nd) (ds:=ds) p fT h.sfx (.inl rfl) (by omega) h.b0 (by omega);rw[J,aO rfl];exact⟨_,rfl,K.s⟩
 |bad q=>
  rw[hm] at d;have f:(((aS true n).ls c false).aJ x) r pd= .bad q:=by grind[ak.aJ]
  rw[gZ f,d.1];simp only[show¬((2:Int)=0) by decide,bF,e7,aK];rw[pN (by rw[d.1];decide),aO rfl];exact⟨_,rfl,d⟩
 |deep q=>
  rw[hm] at d;have f:(((aS true n).ls c false).aJ x) r pd= .deep q:=by grind[ak.aJ]
  rw[jR f,d.1];simp only[show¬((2:Int)=0) by decide,bF,e7,aK];rw[pN (by rw[d.1];decide),aO rfl];exact⟨_,rfl,d⟩
end
theorem Z3(t:Tok):dE .rG t=cB t ih:=rfl
theorem Z4(t:Tok):dE .qh t=cB t [125]:=rfl
theorem Z5(t:Tok):dE .kh t=cB t fa:=rfl
theorem Z6(t:Tok):dE .pE t=cB t gO:=rfl
theorem MO(t:Tok):dE .done t=cB t iN:=rfl
theorem FO{t:Tok}{w:aa}(h:cB t w=true):t= .word w true:=by grind[cB]
theorem FP{c:Ctx}{kw:aa}(h:∀t,dE c t=cB t kw)(a:kw≠[]/\kw.all gv=true):∀t,dE c t=true->∃w,t= .word w true/\w≠[]/\w.all gv=true:=by grind[FO]
theorem I5{b:UInt8}{t:aa}:(b=10/\ar (b::t)= .line)\/(b≠10/\bt (b::t)≠[]/\ar (b::t)= .op (bt (b::t)))\/(b≠10/\bt (b::t)=[]/\ar (b::t)= .word (c5 (b::t)).1 (c5 (b::t)).2):=by rw[CT];grind
section
variable{R:bg}{n:Nat}(hD:kv R n){e:cf}(bc:e.ne=30- (n:Int))
include hD bc
theorem amC{r:aa}{pd:ao}{st:ah}(h:cD e r pd)(I:gg e r pd st):bM false e r (pF (a7 true n) r pd) (λst=>st) (λ_ _ _=>True) (EH R st):=by
 unfold pF EH a8;refine bM.rep (en:=λ_ r pd x=>gg e r pd x) (λk s r pd x w y J hk=>?_) bB () r pd _ (v7 h) h I
 have D:∀x:ah,x.2.2.2.2.1≠0->k x=some x:=by intro x y;obtain⟨k',ad⟩:=J x;simp_all[Lu]
 have he:=y.eta;unfold Lu;dsimp only;rw[he.2.2.2.2.1,he.2.2.2.1,he.2.2.2.2.2.2.2];simp only[bz,aK];have z:(x.1,x.2.1,x.2.2.1,pd,(0:Int),x.2.2.2.2.2.1,x.2.2.2.2.2.2.1,([]:bl),x.2.2.2.2.2.2.2.2)=x:=by grind
 rw[z];rcases xn w y with⟨d,eH,A,B,K,f,l,L⟩|⟨A,B⟩
 ·rw[B,aO rfl,aM (cb A)];obtain⟨c,rfl,M⟩:=K;have C:gz ((e.st d pd c).1,(e.st d pd c).2.1,(e.st d pd c).2.2.1,pd,(e.st d pd c).2.2.2.2.1,(e.st d pd c).2.2.2.2.2.1,(e.st d pd c).2.2.2.2.2.2.1,[],(e.st d pd c).2.2.2.2.2.2.2.2)=some (decide (d=[])):=qz e d pd c;have N:ig ((e.st d pd c).1,(e.st d pd c).2.1,(e.st d pd c).2.2.1,pd,(e.st d pd c).2.2.2.2.1,(e.st d pd c).2.2.2.2.2.1,(e.st d pd c).2.2.2.2.2.2.1,[],(e.st d pd c).2.2.2.2.2.2.2.2)=some (d.headD 0):=FJ f;have O:hH ((e.st d pd c).1,(e.st d pd c).2.1,(e.st d pd c).2.2.1,pd,(e.st d pd c).2.2.2.2.1,(e.st d pd c).2.2.2.2.2.1,(e.st d pd c).2.2.2.2.2.2.1,[],(e.st d pd c).2.2.2.2.2.2.2.2)=some (bt d):=rN f;rw[C,aO rfl];cases d with
  |nil=>simp only[bz,aK];obtain⟨g,j,m⟩:=uV (tr:=c) (x:=[]) f (by simp);have o:g5 ((e.st [] pd c).1,(e.st [] pd c).2.1,(e.st [] pd c).2.2.1,pd,(e.st [] pd c).2.2.2.2.1,(e.st [] pd c).2.2.2.2.2.1,(e.st [] pd c).2.2.2.2.2.2.1,[],(e.st [] pd c).2.2.2.2.2.2.2.2) []=some g:=j;rw[o,aO rfl];exact⟨g,rfl,(m.mono l).s⟩
  |cons b t=>
   simp only[reduceCtorEq,bF,aU];rw[N,aO rfl,O];simp only[zk,pK,n6];rcases I5 (b:=b) (t:=t) with⟨cm,p⟩|⟨cm,p,v⟩|⟨cm,p,v⟩
   ·subst cm;rw[p];simp only[bz,aK];exact⟨_,rfl,l,f,⟨c,rfl,M⟩,trivial⟩
   ·rw[v];simp only[cm,bF,aU];by_cases E:bt (b::t)=[59]
    ·simp only[E,bz,aK,cH];have P:ar (b::t)= .op [59]:=by grind
     obtain⟨q,aE⟩:=(iq P).2.1;have Q:b=59/\t=q:=by grind
     obtain⟨rfl,rfl⟩:=Q;have F:t<:+59::t:=ee 59 t;have S:W (ax e.S (59::t)+1)=ax e.S t:=iP w.b0 f.sfx;refine⟨e.st t pd c,?_,F.trans l,f.mono F,⟨c,rfl,λT=>absurd T (f.yX (by decide))⟩,trivial⟩;show some (e.S,W (ax e.S (59::t)+1),e.ne,pd,(0:Int),(0:Int),([]:aa),([]:bl),c)=_;rw[S];rfl
    ·simp only[E,p,bF,e7,aK,aU,cr];obtain⟨g,j,m⟩:=pQ (tr:=c) ((e.st (b::t) pd c).2.1) f l;have o:hy ((e.st (b::t) pd c).1,(e.st (b::t) pd c).2.1,(e.st (b::t) pd c).2.2.1,pd,(e.st (b::t) pd c).2.2.2.2.1,(e.st (b::t) pd c).2.2.2.2.2.1,(e.st (b::t) pd c).2.2.2.2.2.2.1,[],(e.st (b::t) pd c).2.2.2.2.2.2.2.2) (e.st (b::t) pd c).2.1=some g:=j;rw[o,aO rfl];exact⟨_,rfl,by cases j;exact m⟩
   ·rw[v];simp only[cm,p,bF,bz,g8,aU,reduceCtorEq];have U:=FH hD bc (tr0:=c) f;have V:cW (b::t)=false:=(yU L v).2;refine bM.iC c3.k (U.mono l) (λa G X i Y Z eX y2 _=>?_) (λop nd ds i _ u=>?_) (λi u=>?_)
    ·have hl:=vP (l_ true n) (by simp) V Y;have H:G.length<r.length:=by grind
     exact bM.inl H (hk () G X i.2.2 Z eX H y2)
    ·exact⟨i.2.2,D i.2.2 (by rw[u.z.1];decide),u⟩
    ·exact⟨i.2.2,D i.2.2 (by rw[u.1];decide),u⟩
 ·rw[B,aO rfl,db (op:=[]) (nd:=[]) (ds:=pd) (by rw[iB A];rfl)];have C:gz ((e.tt pd).1,(e.tt pd).2.1,(e.tt pd).2.2.1,pd,(e.tt pd).2.2.2.2.1,(e.tt pd).2.2.2.2.2.1,(e.tt pd).2.2.2.2.2.2.1,[],(e.tt pd).2.2.2.2.2.2.2.2)=some true:=oX e pd;rw[C,aO rfl];simp only[aK];obtain⟨g,j,m⟩:=CX (x:=[]) w.AK (by simp);have o:g5 ((e.tt pd).1,(e.tt pd).2.1,(e.tt pd).2.2.1,pd,(e.tt pd).2.2.2.2.1,(e.tt pd).2.2.2.2.2.1,(e.tt pd).2.2.2.2.2.2.1,[],(e.tt pd).2.2.2.2.2.2.2.2) []=some g:=j;rw[o,aO rfl];exact⟨g,rfl,(m.mono oA).s⟩
end
theorem I6{α β:Type}(a:ak α)(k:α->ak β)(x:aa):(ae a k).aJ x=ae (a.aJ x) (λv=>(k v).aJ x):=by grind[ak.aJ,ae]
theorem Z7{α:Type}{p:Prop}[Decidable p](a b:ak α)(x:aa):(if p then a else b).aJ x=if p then a.aJ x else b.aJ x:=by grind
theorem S7{α:Type}(a:α)(x:aa):(aY a).aJ x=aY a:=rfl
theorem Z8(k:Nat)(x:aa):(bV k).aJ x=bV k:=rfl
theorem I7{α β:Type}(a:α)(k:α->ak β):ae (aY a) k=k a:=rfl
theorem Z9{D:ak Unit}:∀(r w:aa)(pd:ao),c5 r=(w,true)->r.drop w.length≠[]->cI D r pd= .ok () (r.drop w.length) pd
 |[],w,pd,h,aw=>by simp[c5] at h;subst h;exact absurd rfl aw
 |b::t,w,pd,h,aw=>by
  by_cases c:cW (b::t)=true
  ·have:w=[]:=by unfold c5 at h;rw[bh c] at h;cases h;rfl
   subst this;unfold cI;rw[cq];simp[c,cP]
  ·have d:cW (b::t)=false:=by simpa using c
   have a:¬(b=92\/b=39\/b=34\/b=96\/fQ (b::t)=true):=by intro e;rw[SZ d e] at h;cases h
   have h0:c5 (b::t)=(match c5 t with|(w,true)=>(b::w,true)|(_,false)=>([],false)):=by
    rw[c5,d,aP (by simp),aP a];cases c5 t with
    |mk w p=>cases p<;>rfl
   rw[h0] at h;cases aB:c5 t with
   |mk f p=>
    rw[aB] at h;cases p with
    |false=>cases h
    |true=>
     simp only at h;cases h;simp only[mv,Gg] at aw⊢;simp only[Gk,Bool.not_eq_true] at a;have g:cA D (some (eF D)) (b::t) pd= .ok () t pd:=by unfold cA;simp only;rw[aP a.1,aP a.2.2.2.1,a.2.2.2.2,aP (by simp)];simp[a.2.1,a.2.2.1]
     rw[CB d g (by simp)];exact Z9 t f pd aB aw
noncomputable def AM(R:bg):ah->Option ah:=λx=>
 (bif(!(decide (x.2.2.2.2.1=0))) then(au (gA x ([]) ([10,100,111,32,120,10,100,111,110,101]:aa)) λ(a:ah)=>some a) else(au (pD R (x.1,(W (x.2.1+2)),x.2.2.1,x.2.2.2.1,x.2.2.2.2.1,x.2.2.2.2.2.1,x.2.2.2.2.2.2.1,x.2.2.2.2.2.2.2.1,x.2.2.2.2.2.2.2.2) ([([100,111,110,101]:aa)]:bl) ([10,100,111,110,101]:aa)) λ(c,b)=>some b))
noncomputable def AN(R:bg):ah->Option ah:=λa=>
 (cY ((decide (a.2.2.2.2.1=0))=true) (gz a) false λ(c:Bool)=>(cY ((bif(decide (a.2.2.2.2.1=0)) then(!c) else false)=true) (lF a) [] λ(d:aa)=>(bif(bif(bif(decide (a.2.2.2.2.1=0)) then(!c) else false) then(!(decide (d=([100,111]:aa)))) else false) then(au (hy a a.2.1) λ(b:ah)=>some (b.1,b.2.1,b.2.2.1,a.2.2.2.1,b.2.2.2.2.1,b.2.2.2.2.2.1,b.2.2.2.2.2.2.1,a.2.2.2.2.2.2.2.1,b.2.2.2.2.2.2.2.2)) else(cY ((decide (a.2.2.2.2.1=0))=true) (gz a) false λ(e:Bool)=>(bif(bif(decide (a.2.2.2.2.1=0)) then e else false) then(au (g5 a ([])) λ(f:ah)=>AM R f) else AM R a)))))
noncomputable def xy(R:bg):ah->Option ah:=λx=>
 (bif(!(decide (x.2.2.2.2.1=0))) then(au (gA x ([]) ([10,100,111,32,120,10,100,111,110,101]:aa)) λ(a:ah)=>some a) else(au (oi x) λ(b:ah)=>AN R b))
theorem MQ:([10,100,111,32,120,10,100,111,110,101]:aa)=eo:=rfl
theorem wa:(gO:aa)≠[]/\gO.all gv=true:=by decide
theorem FQ:(iN:aa)≠[]/\iN.all gv=true:=by decide
theorem AO:(fb:aa)≠[]/\fb.all gv=true:=by decide
section
variable{R:bg}{n:Nat}(bn:ow R n){e:cf}(bc:e.ne=30- (n:Int))
theorem Z_{r:aa}{nd:aa}{ds:ao}{st:ah}{pd0:ao}(h0:cD e r pd0)(hm:iD true e r nd ds st)(d:nd.length+ep ds<=100*e.S.length+500):∃a,AN R st=some a/\iD false e r (cQ nd ds eo).1 (cQ nd ds eo).2 a:=by
 have i:eo.length=10:=rfl;rcases hm with ad|⟨_,rfl,rfl⟩
 ·obtain⟨a,b,c⟩:=xo (e:=e) (nm:=[]) (x:=eo) (r1:=r) (r0:=r) (nd:=nd) (ds:=ds) ad fT h0.sfx (.inl rfl) (by omega) h0.b0 (by omega);unfold AN;rw[ad.1];simp only[show¬((1:Int)=0) by decide,bF,cY,eB,cr,aU];unfold AM;rw[ad.1];simp only[show¬((1:Int)=0) by decide,bF,e7,aK];rw[MQ,b,aO rfl];exact⟨a,rfl,c.s⟩
 ·simp only[A5,Nat.zero_add] at d;have f:(e.tt ds).2.2.2.2.1=0:=rfl;unfold AN;rw[f,oX,gf];have j:=tH ds;have g:g5 (e.tt ds) []=some (e.S,(e.S.length:Int),e.ne,ds,1,0,[],[],true):=by unfold g5 a8 cf.tt;simp only[bz,aK];have:=h0.b0;rw[CS _ _ _ _ _ _ _ _ _ _ (by simp) (by grind) (by omega),aO rfl];rfl
  have h:n5 e r [] ds (e.S,(e.S.length:Int),e.ne,ds,1,0,[],[],true):=by
   refine⟨rfl,rfl,rfl,⟨rfl,?_,?_,?_,?_⟩,?_⟩
   ·grind[ax]
   ·grind
   ·grind
   ·simp
   simp
  simp only[bz,cH,g8,aK,aU,cY,eB,cr,n6];rw[g,aO rfl];obtain⟨a,b,c⟩:=xo (e:=e) (nm:=[]) (x:=eo) (r1:=r) (r0:=r) (nd:=[]) (ds:=ds) h fT h0.sfx (.inl rfl) (by grind) h0.b0 (by omega);unfold AM;simp only[show¬((1:Int)=0) by decide,bF,e7,aK];rw[MQ,b,aO rfl];exact⟨a,rfl,c.s⟩
theorem S8{r:aa}{nd:aa}{ds:ao}{st:ah}{pd0:ao}(h0:cD e r pd0)(hm:iD true e r nd ds st)(b:nd.length+ep ds<=100*e.S.length+500):∃a,xy R st=some a/\iD false e r (cQ nd ds eo).1 (cQ nd ds eo).2 a:=by
 have h:eo.length=10:=rfl;rcases hm with ad|⟨c,rfl,rfl⟩
 ·obtain⟨a,d,f⟩:=xo (e:=e) (nm:=[]) (x:=eo) (r1:=r) (r0:=r) (nd:=nd) (ds:=ds) ad fT h0.sfx (.inl rfl) (by omega) h0.b0 (by omega);unfold xy;rw[ad.1,MQ];simp only[show¬((1:Int)=0) by decide,bF,e7,aK];rw[d,aO rfl];exact⟨a,rfl,f.s⟩
 ·have g:(e.tt ds).2.2.2.2.1=0:=rfl;unfold xy;rw[g];simp only[bz,g8,aU];rw[Z1,aO rfl];exact Z_ h0 (.inr ⟨c,rfl,rfl⟩) b
theorem aaa{r:aa}{st:ah}(hm:iQ e r st):∃a,AN R st=some a/\iQ e r a:=by unfold AN;rw[hm.1];simp only[show¬((2:Int)=0) by decide,bF,cY,eB,cr,aU];unfold AM;rw[hm.1];simp only[show¬((2:Int)=0) by decide,bF,e7,aK];rw[pN (by rw[hm.1];decide),aO rfl];grind
theorem S9{r:aa}{st:ah}(hm:iQ e r st):∃a,xy R st=some a/\iQ e r a:=by unfold xy;rw[hm.1];simp only[show¬((2:Int)=0) by decide,bF,e7,aK];rw[pN (by rw[hm.1];decide),aO rfl];grind
include bn bc
theorem amE{r r0:aa}{pd:ao}{tr:Bool}(h:cD e r pd)(h0:r<:+r0)(i:bq r=some r)(d:ar r= .word gO true):bM false e r0 (iO (aS true n) eo r pd) (λst=>st) (λ_ _ _=>True) (AM R (e.st r pd tr)):=by
 unfold iO AM;have j:(e.st r pd tr).2.2.2.2.1=0:=rfl;rw[j];simp only[bz,g8,aU];rw[aM (hJ.2 (FM i d))];obtain⟨q,rfl⟩:=(qp d).1;rw[o5];have f:q<:+gO++q:=gP gO q;have k:W (ax e.S (gO++q)+2)=ax e.S q:=ku (w:=gO) h.b0 h.sfx;have l:q≠[]:=by have:=S5 (r:=gO++q);rw[(rM (h.nl.ia h.sfx) wa.1 wa.2).2 d] at this;grind[wa]
 have g:=h.mono f;have m:((e.st (gO++q) pd tr).1,W ((e.st (gO++q) pd tr).2.1+2),(e.st (gO++q) pd tr).2.2.1,(e.st (gO++q) pd tr).2.2.2.1,(0:Int),(e.st (gO++q) pd tr).2.2.2.2.2.1,(e.st (gO++q) pd tr).2.2.2.2.2.2.1,(e.st (gO++q) pd tr).2.2.2.2.2.2.2.1,(e.st (gO++q) pd tr).2.2.2.2.2.2.2.2)=e.st q pd tr:=by show(e.S,W (ax e.S (gO++q)+2),e.ne,pd,(0:Int),(0:Int),([]:aa),([]:bl),tr)=_;rw[k];rfl
 rw[m,S6 (by simp) MO FQ (h.nl.ia g.sfx)];refine bM.iC (C:=λx=>x) c3.id ((CY bn bc (c:= .done) rfl (by simp) (FP MO FQ) (by decide) g ⟨tr,rfl,λo=>absurd o l⟩).mono (f.trans h0)) (λa r1 aD b t s1 p s _=>?_) (λop nd ds b _ u=>?_) (λb v=>?_)
 ·exact⟨b.2,rfl,s1,p,s,trivial⟩
 ·grind
 grind
theorem amF{r r0:aa}{pd:ao}{st:ah}(h:cD e r pd)(i:gg e r pd st)(h0:r<:+r0)(j:r0<:+e.S)(k:bq r=some r):bM false e r0 (iO (aS true n) eo r pd) (λst=>st) (λ_ _ _=>True) (AN R st):=by
 obtain⟨tr,rfl,t⟩:=i;unfold AN;have l:(e.st r pd tr).2.2.2.2.1=0:=rfl;rw[l,qz,gf,v8 h,gf];by_cases c:r=[]
 ·subst c;simp only[bz,cH,g8,aK,aU,cY,eB,cr,n6];obtain⟨m,a,b⟩:=uV (tr:=tr) (x:=[]) h (by simp);rw[a,aO rfl];have d:iO (aS true n) eo [] pd= .more [] (cQ [] pd eo).1 (cQ [] pd eo).2:=by unfold iO;refine db ?_;unfold ak.aJ cZ nb;rw[aM (cb lX)];rfl
  rw[d];have u:=tH pd;have aB:=h.jO;simp only[A5] at aB;obtain⟨o,p,q⟩:=xo (e:=e) (nm:=[]) (x:=eo) (r1:=[]) (r0:=r0) (nd:=[]) (ds:=pd) b h0 j (.inl rfl) (by simp only[A5];have:eo.length=10:=rfl;omega) h.b0 (by decide);unfold AM;rw[b.1];simp only[show¬((1:Int)=0) by decide,bF,e7,aK];rw[MQ,p,aO rfl];exact⟨o,rfl,q.s⟩
 ·simp only[c,bF,bz,e7,aK,cH];have g:=h.nl.ia h.sfx;by_cases aG:ja r=[100,111]
  ·have s:=(rM g wa.1 wa.2).1 aG;simp only[aG,bz,g8,aU];simp_all[gf,amE]
  ·simp only[aG,bF,e7,aK];have s:ar r≠ .word gO true:=λf=>aG ((rM g wa.1 wa.2).2 f);have d:iO (aS true n) eo r pd= .bad r:=by unfold iO;refine gZ ?_;unfold ak.aJ cZ nb;rw[aM (cb k)];have ad:ar r≠ .eof:=λf=>c (lH.1 f);rw[aP ad,aP (by grind[FO])];rfl
   rw[d];obtain⟨m,a,b⟩:=pQ (tr:=tr) ((e.st r pd tr).2.1) h h0;rw[a,aO rfl];exact⟨_,rfl,by cases a;exact b⟩
theorem S_{r r0:aa}{pd:ao}{st:ah}(h:cD e r pd)(j:gg e r pd st)(h0:r<:+r0)(o:r0<:+e.S):bM false e r0 (ae (cR.aJ eo) (λ_=>iO (aS true n) eo) r pd) (λst=>st) (λ_ _ _=>True) (xy R st):=by
 unfold xy;rw[j.eta.2.2.2.2.1];simp only[bz,g8,aU];have l:=FB h j;obtain⟨p,m,b⟩:=l;rw[m,aO rfl];have k:=aI.lines (c:=0) r pd;have aB:=h.jO;cases hm:cR r pd with
 |ok a r1 aD=>grind[aM,hJ,amF]
 |more op nd ds=>
  rw[hm] at b k;simp only[d_] at k;have d:(cR.aJ eo) r pd= .more op (cQ nd ds eo).1 (cQ nd ds eo).2:=by grind[ak.aJ]
  rw[db d];obtain⟨f,g,i⟩:=Z_ (R:=R) h b (by omega);exact⟨f,g,iD.mono i h0⟩
 |bad q=>
  rw[hm] at b;have d:(cR.aJ eo) r pd= .bad q:=by grind[ak.aJ]
  rw[gZ d];obtain⟨f,g,i⟩:=aaa (R:=R) b;exact⟨f,g,i.mono h0⟩
 |deep q=>
  rw[hm] at b;have d:(cR.aJ eo) r pd= .deep q:=by grind[ak.aJ]
  rw[jR d];obtain⟨f,g,i⟩:=aaa (R:=R) b;exact⟨f,g,i.mono h0⟩
end
theorem amG(l:dT)(D:ak Unit):pG l D=ae (bN tm) (λt=>match t with
  | .eof=>b3 tm
  | .word w true=>if l7 w then ae (bV w.length) λ_=>ae ((bN []).aJ eo) λt=>if t= .op [59] then ae (bV 1) λ_=>ae (cR.aJ eo) λ_=>iO l eo else
    ae (cR.aJ eo) λ_=>ae ((bN []).aJ eo) λt=>if cB t fb then ae (bV 2) λ_=>ae ((pF D).aJ eo) λ_=>ae (cR.aJ eo) λ_=>iO l eo else iO l eo
   else bK
  |_=>bK):=by
 unfold pG;congr 1
 funext t
 cases t with
 |word w p=>
  cases p with
  |true=>
   simp only[I6,ks];congr 1;congr 1
   funext _
   congr 1
   funext t
   rw[Z7,yL];congr 1
   ·simp[I6,ks,Z8,S7,I7]
   ·simp only[I6,ks,S7];congr 1
    funext _
    congr 1
    funext t
    rw[Z7,yL];simp[I6,ks,Z8,S7,I7]
  |false=>rfl
 |_=>rfl
theorem aab:∀(r w:aa),c_ r->r≠[]->c5 r=(w,true)->r.drop w.length≠[]
 |[],w,_,c,_=>absurd rfl c
 |b::t,w,a,_,h=>by
  by_cases i:cW (b::t)=true
  ·simp_all[c5]
  ·have d:cW (b::t)=false:=by grind
   have e:¬(b=92\/b=39\/b=34\/b=96\/fQ (b::t)=true):=by grind[SZ]
   have h0:c5 (b::t)=(match c5 t with|(w,true)=>(b::w,true)|(_,false)=>([],false)):=by rw[c5,d,aP (by simp),aP e];grind
   rw[h0] at h;have j:b≠10:=by simp_all[cW]
   have f:t≠[]:=by
    rintro rfl;rcases a with ad|⟨x,ad⟩
    ·cases ad
    ·cases x with
     |nil=>grind
     |cons y ys=>simp_all
   cases aB:c5 t with
   |mk g p=>
    rw[aB] at h;cases p with
    |false=>cases h
    |true=>simp only at h;cases h;simp only[mv,Gg];exact aab t g (a.ia (ee b t)) f aB
noncomputable def AP(R:bg):ah->Option ah:=λa=>
 (cY ((decide (a.2.2.2.2.1=0))=true) (lF a) [] λ(b:aa)=>(bif(bif(decide (a.2.2.2.2.1=0)) then(decide (b=([105,110]:aa))) else false) then(au (EH R (a.1,(W (a.2.1+2)),a.2.2.1,a.2.2.2.1,a.2.2.2.2.1,a.2.2.2.2.2.1,a.2.2.2.2.2.2.1,a.2.2.2.2.2.2.2.1,a.2.2.2.2.2.2.2.2)) λ(c:ah)=>xy R c) else xy R a))
noncomputable def I8(R:bg):ah->Option ah:=λx=>
 (au (hH x) λ(a:aa)=>(bif(decide (a=([59]:aa))) then xy R (x.1,(W (x.2.1+1)),x.2.2.1,x.2.2.2.1,x.2.2.2.2.1,x.2.2.2.2.2.1,x.2.2.2.2.2.2.1,x.2.2.2.2.2.2.2.1,x.2.2.2.2.2.2.2.2) else(au (oi x) λ(b:ah)=>AP R b)))
noncomputable def MR(R:bg)(p:Int):(aa×Bool×ah)->Option ah:=λ(e,d,a)=>
 (cY ((bif(!(decide (a.2.2.2.2.1=0))) then true else(!d))=false) (Ai e) false λ(f:Bool)=>(bif(bif(bif(!(decide (a.2.2.2.2.1=0))) then true else(!d)) then true else(!f)) then(au (hy a p) λ(b:ah)=>some (b.1,b.2.1,b.2.2.1,a.2.2.2.1,b.2.2.2.2.1,b.2.2.2.2.2.1,b.2.2.2.2.2.2.1,a.2.2.2.2.2.2.2.1,b.2.2.2.2.2.2.2.2)) else(au (g4 a) λ(c:ah)=>I8 R (c.1,c.2.1,c.2.2.1,a.2.2.2.1,c.2.2.2.2.1,c.2.2.2.2.2.1,c.2.2.2.2.2.2.1,a.2.2.2.2.2.2.2.1,c.2.2.2.2.2.2.2.2))))
noncomputable def Ta(R:bg):ah->Option ah:=λx=>
 (au (gz x) λ(b:Bool)=>(bif b then(au (g5 x ([120,10,100,111,32,120,10,100,111,110,101]:aa)) λ(c:ah)=>some c) else(au (vM x) λ(d:Bool)=>(bif d then(au (hy x x.2.1) λ(a:ah)=>some (a.1,a.2.1,a.2.2.1,x.2.2.2.1,a.2.2.2.2.1,a.2.2.2.2.2.1,a.2.2.2.2.2.2.1,x.2.2.2.2.2.2.2.1,a.2.2.2.2.2.2.2.2)) else(au (qe R x) λy=>MR R x.2.1 y)))))
theorem amH(R:bg)(x0:ah):EI R x0=au (g4 x0) λa=>Ta R (a.1,a.2.1,a.2.2.1,x0.2.2.2.1,a.2.2.2.2.1,a.2.2.2.2.2.1,a.2.2.2.2.2.2.1,x0.2.2.2.2.2.2.2.1,a.2.2.2.2.2.2.2.2):=rfl
theorem amI(fr:Bool)(n:Nat):(aS fr n).dl=a7 fr n:=by cases n<;>rfl
def Tb(l:dT)(D:ak Unit):ak Unit:=ae ((bN []).aJ eo) λt=>if cB t fb then ae (bV 2) λ_=>ae ((pF D).aJ eo) λ_=>ae (cR.aJ eo) λ_=>iO l eo else iO l eo
def y3(l:dT)(D:ak Unit):ak Unit:=ae ((bN []).aJ eo) λt=>if t= .op [59] then ae (bV 1) λ_=>ae (cR.aJ eo) λ_=>iO l eo else ae (cR.aJ eo) λ_=>Tb l D
theorem amJ(l:dT)(D:ak Unit):pG l D=ae (bN tm) (λt=>match t with
 | .eof=>b3 tm
 | .word w true=>if l7 w then ae (bV w.length) λ_=>y3 l D else bK
 |_=>bK):=amG l D
theorem pR{α:Type}{m:ak α}{x:aa}{r:aa}{pd:ao}{a:α}{r1:aa}{aD:ao}(h:m r pd= .ok a r1 aD):(m.aJ x) r pd= .ok a r1 aD:=hJ.2 h
theorem sM{α:Type}{m:ak α}{x:aa}{r:aa}{pd:ao}{op:bl}{nd:aa}{ds:ao}(h:m r pd= .more op nd ds):(m.aJ x) r pd= .more op (cQ nd ds x).1 (cQ nd ds x).2:=by grind[ak.aJ]
theorem uW{α:Type}{m:ak α}{x:aa}{r q:aa}{pd:ao}(h:m r pd= .bad q):(m.aJ x) r pd= .bad q:=by grind[ak.aJ]
theorem uX{α:Type}{m:ak α}{x:aa}{r q:aa}{pd:ao}(h:m r pd= .deep q):(m.aJ x) r pd= .deep q:=by grind[ak.aJ]
theorem aI.low{α:Type}{c:Nat}{f:ak α}(aB:aI c f){e:cf}{r:aa}{pd:ao}(h:cD e r pd):∀(op:bl)(nd:aa)(ds:ao)(hm:f r pd= .more op nd ds),nd.length+ep ds<=100*e.S.length+c:=by intro op nd ds hm;have:=aB r pd;rw[hm] at this;simp only[d_] at this;have:=h.jO;omega
theorem Tc{e:cf}{ds pd0:ao}{r:aa}(h:cD e r pd0):lF (e.tt ds)=some []:=by
 have ad:lF (e.tt ds)=lF (e.tt pd0):=by rfl
 rw[ad];exact amz h.AK
theorem aac{r w:aa}{p:Bool}(h:ar r= .word w p):c5 r=(w,p):=by
 cases r with
 |nil=>grind[lH]
 |cons b t=>grind[I5]
theorem MS{α:Type}{q:Bool}{e:cf}{r0 r1:aa}{st:ah}{cv:α->aa->ah->Prop}(p:Int)(h:n4 e r0 st):bM q e r0 (.bad r1:dD α) (λst=>st) cv (hy st p):=⟨_,rfl,rfl,h.s,h.lo,h.bf,h.nd,h.op⟩
theorem Td{R:bg}{p:Int}{b:aa}{c:Bool}{a:ah}(h:a.2.2.2.2.1≠0):MR R p (b,c,a)=hy a p:=by unfold MR;simp only[h,bF,e7,aK,cY,tR,cr];rfl
section
variable{R:bg}{n:Nat}(bn:ow R n)(hD:kv R n){e:cf}(bc:e.ne=30- (n:Int))
theorem aad{r:aa}{nd:aa}{ds:ao}{st:ah}{pd0:ao}(h0:cD e r pd0)(hm:iD true e r nd ds st)(a:nd.length+ep ds<=100*e.S.length+500):∃b,AP R st=some b/\iD false e r (cQ nd ds eo).1 (cQ nd ds eo).2 b:=by
 rcases hm with ad|⟨_,rfl,rfl⟩
 ·unfold AP;rw[ad.1];simp only[show¬((1:Int)=0) by decide,bF,cY,eB,cr,aU];exact S8 h0 (.inl ad) a
 ·unfold AP;have c:(e.tt ds).2.2.2.2.1=0:=rfl;rw[c,Tc h0,gf];simp only[bz,cH,reduceCtorEq,bF,aK,aU];exact S8 h0 (.inr ⟨rfl,rfl,rfl⟩) a
theorem aae{r:aa}{st:ah}(hm:iQ e r st):∃a,AP R st=some a/\iQ e r a:=by unfold AP;rw[hm.1];simp only[show¬((2:Int)=0) by decide,bF,cY,eB,cr,aU];exact S9 hm
include bn hD bc
theorem amK{r r0:aa}{pd:ao}{st:ah}(h:cD e r pd)(k:gg e r pd st)(h0:r<:+r0)(o:r0<:+e.S)(l:bq r=some r)(hl:ar r≠ .line):bM false e r0 (Tb (aS true n) (a7 true n) r pd) (λst=>st) (λ_ _ _=>True) (AP R st):=by
 have m:=h.nl.ia h.sfx;unfold Tb AP;rw[aM (pR (cb l)),k.eta.2.2.2.2.1];obtain⟨tr,rfl,p⟩:=k;rw[v8 h,gf];simp only[bz,cH,aK];by_cases aG:ja r=[105,110]
 ·have s:=(rM m AO.1 AO.2).1 aG;have bf:cB (ar r) fb=true:=by grind[cB]
  simp only[aG,bz,aK];rw[bh bf];obtain⟨q,rfl⟩:=(qp s).1;have t:bV 2 (fb++q) pd= .ok () q pd:=rfl;rw[aM t];have i:q<:+fb++q:=gP fb q;have u:W (ax e.S (fb++q)+2)=ax e.S q:=ku (w:=fb) h.b0 h.sfx;have v:q≠[]:=by grind[S5,fb]
  have j:=h.mono i;have x:((e.st (fb++q) pd tr).1,W ((e.st (fb++q) pd tr).2.1+2),(e.st (fb++q) pd tr).2.2.1,(e.st (fb++q) pd tr).2.2.2.1,(0:Int),(e.st (fb++q) pd tr).2.2.2.2.2.1,(e.st (fb++q) pd tr).2.2.2.2.2.2.1,(e.st (fb++q) pd tr).2.2.2.2.2.2.2.1,(e.st (fb++q) pd tr).2.2.2.2.2.2.2.2)=e.st q pd tr:=by show(e.S,W (ax e.S (fb++q)+2),e.ne,pd,(0:Int),(0:Int),([]:aa),([]:bl),tr)=_;rw[u];rfl
  rw[x];have c:=amC hD bc j ⟨tr,rfl,λy=>absurd y v⟩;obtain⟨b,z,c⟩:=c;rw[z,aO rfl];have A:=aI.low (aI.words (tG true n)) j;rw[amI] at A;cases hm:pF (a7 true n) q pd with
  |ok a r1 aD=>grind[aM,pR,S_]
  |more op nd ds=>rw[hm] at c;rw[db (sM hm)];obtain⟨d,f,g⟩:=S8 (R:=R) j (iD.up c) (by grind);exact⟨d,f,g.mono (i.trans h0)⟩
  |bad B=>rw[hm] at c;rw[gZ (uW hm)];obtain⟨d,f,g⟩:=S9 (R:=R) c;exact⟨d,f,g.mono (i.trans h0)⟩
  |deep B=>rw[hm] at c;rw[jR (uX hm)];obtain⟨d,f,g⟩:=S9 (R:=R) c;exact⟨d,f,g.mono (i.trans h0)⟩
 ·have bf:cB (ar r) fb=false:=by rw[<-IZ m AO.1 AO.2];exact e1 aG
  simp only[aG,bF,aU];rw[aP (by grind)];have C:ae (cR.aJ eo) (λ_=>iO (aS true n) eo) r pd=iO (aS true n) eo r pd:=aM (pR (Mr l hl));rw[<-C];exact S_ bn bc h ⟨tr,rfl,p⟩ h0 o
theorem amL{r r0:aa}{pd:ao}{st:ah}(h:cD e r pd)(j:gg e r pd st)(h0:r<:+r0)(p:r0<:+e.S)(s:bq r=some r):bM false e r0 (y3 (aS true n) (a7 true n) r pd) (λst=>st) (λ_ _ _=>True) (I8 R st):=by
 unfold y3 I8;rw[aM (pR (cb s))];have he:=j.eta;have u:hH st=some (bt r):=by obtain⟨tr,rfl,v⟩:=j;exact rN h
 rw[u,aO rfl];by_cases k:bt r=[59]
 ·have l:ar r= .op [59]:=(mS (by simp)).2 k;simp only[k,decide_true,cond_true];rw[if_pos l];obtain⟨q,rfl⟩:=(iq l).2.1;have x:bV 1 ([59]++q) pd= .ok () q pd:=rfl;rw[aM x];have o:q<:+[59]++q:=List.suffix_append _ q;have y:=h.mono o;have z:q≠[]:=cD.yX (b:=59) (t:=q) h (by decide);obtain⟨tr,rfl,v⟩:=j;have A:W (ax e.S ([59]++q)+1)=ax e.S q:=ku (w:=[59]) h.b0 h.sfx;have B:((e.st ([59]++q) pd tr).1,W ((e.st ([59]++q) pd tr).2.1+1),(e.st ([59]++q) pd tr).2.2.1,(e.st ([59]++q) pd tr).2.2.2.1,(e.st ([59]++q) pd tr).2.2.2.2.1,(e.st ([59]++q) pd tr).2.2.2.2.2.1,(e.st ([59]++q) pd tr).2.2.2.2.2.2.1,(e.st ([59]++q) pd tr).2.2.2.2.2.2.2.1,(e.st ([59]++q) pd tr).2.2.2.2.2.2.2.2)=e.st q pd tr:=by show(e.S,W (ax e.S ([59]++q)+1),e.ne,pd,(0:Int),(0:Int),([]:aa),([]:bl),tr)=_;rw[A];rfl
  rw[B];exact S_ bn bc y ⟨tr,rfl,λm=>absurd m z⟩ (o.trans h0) p
 ·have l:ar r≠ .op [59]:=λm=>k ((mS (by simp)).1 m);simp only[k,decide_false,cond_false];rw[if_neg l];obtain⟨D,C,d⟩:=FB h j;rw[C,aO rfl];have E:=aI.low (aI.lines (c:=0)) h;cases hm:cR r pd with
  |ok a r1 aD=>grind[aM,pR,amK]
  |more op nd ds=>rw[hm] at d;rw[db (sM hm)];obtain⟨f,g,i⟩:=aad (R:=R) h d (by grind);exact⟨f,g,i.mono h0⟩
  |bad q=>rw[hm] at d;rw[gZ (uW hm)];obtain⟨f,g,i⟩:=aae (R:=R) d;exact⟨f,g,i.mono h0⟩
  |deep q=>rw[hm] at d;rw[jR (uX hm)];obtain⟨f,g,i⟩:=aae (R:=R) d;exact⟨f,g,i.mono h0⟩
omit bn hD bc in
theorem amM{r r0:aa}{pd0 pd:ao}(h:cD e r pd0)(h0:r<:+r0)(d:ep pd<=100*e.S.length+400):∃a,I8 R (e.tt pd)=some a/\iD false e r0 (cQ [] pd eo).1 (cQ [] pd eo).2 a:=by unfold I8;rw[FK pd h.b0,aO rfl];simp only[reduceCtorEq,bF,aU];rw[Z1,aO rfl];obtain⟨a,b,c⟩:=aad (R:=R) h (iD.tt (e:=e) (r:=r) pd) (by grind);exact⟨a,b,c.mono h0⟩
theorem amN{r:aa}{pd:ao}{st:ah}(h:cD e r pd)(S:gg e r pd st)(T:r<:+e.S):bM false e r (pG (aS true n) (a7 true n) r pd) (λst=>st) (λ_ _ _=>True) (EI R st):=by
 rw[amJ,amH];obtain⟨tr,rfl,U⟩:=S;rcases xn h ⟨tr,rfl,U⟩ with⟨b,eH,z,A,V,m,s,hS⟩|⟨z,A⟩
 ·rw[A,aO rfl,aM (cb z)];obtain⟨d,rfl,MP⟩:=V;have B:((e.st b pd d).1,(e.st b pd d).2.1,(e.st b pd d).2.2.1,(e.st r pd tr).2.2.2.1,(e.st b pd d).2.2.2.2.1,(e.st b pd d).2.2.2.2.2.1,(e.st b pd d).2.2.2.2.2.2.1,(e.st r pd tr).2.2.2.2.2.2.2.1,(e.st b pd d).2.2.2.2.2.2.2.2)=e.st b pd d:=rfl;rw[B];unfold Ta;rw[qz,aO rfl];by_cases t:b=[]
  ·subst t;simp only[bz,aK];obtain⟨g,f,k⟩:=uV (tr:=d) (x:=tm) m (by decide);rw[show([120,10,100,111,32,120,10,100,111,110,101]:aa)=tm from rfl,f,aO rfl];exact⟨g,rfl,(k.mono s).s⟩
  ·simp only[t,bF,aU];rw[MK m t,aO rfl];have J:∃g,hy (e.st b pd d) (e.st b pd d).2.1=some g/\iQ e r g:=pQ _ m s
   have pM:ar b≠ .eof:=λC=>t (lH.1 C);cases W:ar b with
   |eof=>grind
   |line=>simp only[aK];obtain⟨g,f,k⟩:=J;rw[f,aO rfl];exact⟨_,rfl,by cases f;exact k⟩
   |op o=>simp only[aK];obtain⟨g,f,k⟩:=J;rw[f,aO rfl];exact⟨_,rfl,by cases f;exact k⟩
   |word w p=>
    simp only[aU];have v:=aac W;have X:=h.nl.ia m.sfx;obtain⟨⟨i,Y,K⟩,L,c⟩:=FH hD bc (tr0:=d) m;rw[L,aO rfl];have M:K.1=e.S->i.length<=1000000:=λZ=>lL (S0 m Z L).1 h.b0;unfold MR;dsimp only at c⊢;by_cases N:p=true/\l7 w=true
    ·obtain⟨rfl,rL⟩:=N;dsimp only;have AL:=aab b w X t v;have xv:=Z9 (D:=a7 true n) b w pd v AL;rw[xv] at c;obtain⟨E,a2,a3, -,j,l⟩:=c;rw[v] at j l;dsimp only at j l;have F:=l j;subst F j;have G:=(yT i (M a3.eta.1)).2;rw[G,a3.eta.2.2.2.2.1,rL];simp only[bz,g8,aU,cH];rw[gf];simp only[cH,g8,aU];rw[aM (show bV i.length b pd= .ok () (b.drop i.length) pd from rfl)];obtain⟨O,rfl,P⟩:=a3;rcases xn a2 ⟨O,rfl,P⟩ with⟨bY,amO,H,I,tv,lp,xt,Q⟩|⟨H,I⟩
     ·rw[I,aO rfl];obtain⟨hM,rfl,MU⟩:=tv;have u:y3 (aS true n) (a7 true n) (b.drop i.length) pd=y3 (aS true n) (a7 true n) bY pd:=by unfold y3;rw[aM (pR (cb H)),aM (pR (cb Q))]
      rw[u];exact amL bn hD bc lp ⟨hM,rfl,MU⟩ (xt.trans (E.trans s)) T Q
     ·rw[I,aO rfl];have u:y3 (aS true n) (a7 true n) (b.drop i.length) pd= .more [] (cQ [] pd eo).1 (cQ [] pd eo).2:=by unfold y3;exact db (sM (by rw[iB H];rfl))
      rw[u];have vV:=h.jO;exact amM (R:=R) h fT (by show ep pd<=_;omega)
    ·have u:(match Tok.word w p with| .eof=>b3 tm| .word w true=>if l7 w then ae (bV w.length) λ_=>y3 (aS true n) (a7 true n) else bK|_=>bK:ak Unit) b pd= .bad b:=by
      cases p with
      |false=>rfl
      |true=>dsimp only;rw[if_neg (λC=>N ⟨rfl,C⟩)];rfl
     refine bM.dW (y:=hy K (e.st b pd d).2.1) ?_ ?_
     ·rw[u];cases hm:cI (a7 true n) b pd with
      |ok a cx b5=>rw[hm] at c;obtain⟨E,a2,⟨O,rfl,P⟩,_⟩:=c;grind[MS,ZX]
      |more op nd ds=>rw[hm] at c;exact MS _ (c.z.2.2.2.1.mono s)
      |bad q=>rw[hm] at c;exact MS _ (c.2.mono s)
      |deep q=>rw[hm] at c;exact MS _ (c.2.mono s)
     ·cases hm:cI (a7 true n) b pd with
      |ok a cx b5=>
       rw[hm] at c;obtain⟨E,a2,a3, -,j,l⟩:=c;rw[v] at j l;dsimp only at j l;subst j;have G:=(yT i (M a3.eta.1)).2;rw[G,a3.eta.2.2.2.2.1];cases Y with
       |false=>rfl
       |true=>
        have F:=l rfl;subst F;have aw:l7 i=false:=by grind
        rw[aw];rfl
      |more op nd ds=>rw[hm] at c;exact Td (by rw[c.z.1];decide)
      |bad q=>rw[hm] at c;exact Td (by rw[c.1];decide)
      |deep q=>rw[hm] at c;exact Td (by rw[c.1];decide)
 ·rw[A,aO rfl,db (op:=[]) (nd:=(cQ [] pd tm).1) (ds:=(cQ [] pd tm).2) (by rw[iB z];rfl)];have B:((e.tt pd).1,(e.tt pd).2.1,(e.tt pd).2.2.1,(e.st r pd tr).2.2.2.1,(e.tt pd).2.2.2.2.1,(e.tt pd).2.2.2.2.2.1,(e.tt pd).2.2.2.2.2.2.1,(e.st r pd tr).2.2.2.2.2.2.2.1,(e.tt pd).2.2.2.2.2.2.2.2)=e.tt pd:=rfl;rw[B];unfold Ta;rw[oX,aO rfl];simp only[aK];obtain⟨g,f,k⟩:=CX (x:=tm) h.AK (by decide);rw[show([120,10,100,111,32,120,10,100,111,110,101]:aa)=tm from rfl,f,aO rfl];exact⟨g,rfl,(k.mono oA).s⟩
end
theorem amP{σ α β:Type}(f:σ->ak (σ⊕α))(K:α->ak β):∀(N:Nat)(s:σ)(r:aa)(pd:ao),r.length<=N->ae (b7 f s) K r pd=b7 (λs=>ae (f s) λx=>match x with| .inl s'=>aY (.inl s')| .inr a=>ae (K a) λb=>aY (.inr b)) s r pd:=by
 intro N;induction N with
 |zero=>
  intro s r pd h;have d:r.length=0:=by omega
  rw[cq];unfold ae;rw[cq];cases ad:f s r pd with
  |ok x r1 aD=>
   cases x with
   |inl s'=>grind[cP,aY]
   |inr a=>grind[cP,aY]
  |more op nd ds=>rfl
  |bad q=>rfl
  |deep q=>rfl
 |succ N c=>
  intro s r pd h;rw[cq];unfold ae;rw[cq];cases ad:f s r pd with
  |ok x r1 aD=>
   cases x with
   |inl s'=>
    simp only[cP,aY];by_cases hl:r1.length<r.length
    ·rw[bh hl,bh hl];exact c s' r1 aD (by omega)
    grind
   |inr a=>grind[cP,aY]
  |more op nd ds=>rfl
  |bad q=>rfl
  |deep q=>rfl
theorem amQ{σ α β:Type}(f:σ->ak (σ⊕α))(K:α->ak β)(s:σ):ae (b7 f s) K=b7 (λs=>ae (f s) λx=>match x with| .inl s'=>aY (.inl s')| .inr a=>ae (K a) λb=>aY (.inr b)) s:=by
 funext r pd;exact amP f K r.length s r pd (cX _)
def C1(e:cf)(r:aa)(pd:ao)(x:ah):Prop:=(∃r' tr,bq r=some r'/\x=e.st r' pd tr/\(r'=[]->tr=false)/\cD e r' pd/\r'<:+r/\bq r'=some r')\/(bq r=none/\x=e.tt pd)
theorem xz{e:cf}{r:aa}{pd:ao}{st:ah}(h:cD e r pd)(d:gg e r pd st):∃x,g4 st=some x/\C1 e r pd x:=by
 rcases xn h d with⟨f,g,a,b,⟨tr,i,c⟩,j,k,l⟩|⟨a,b⟩
 ·exact⟨g,b,.inl ⟨f,tr,a,i,c,j,k,l⟩⟩
 ·exact⟨_,b,.inr ⟨a,rfl⟩⟩
theorem FR{q:Bool}{e:cf}{r r0:aa}{nd:aa}{ds:ao}{st:ah}{pd0:ao}{x:aa}(h0:cD e r pd0)(hm:iD false e r nd ds st)(h:r<:+r0)(d:nd.length+ep ds<=100*e.S.length+500)(f:x.length<=100):∃a,gA st [] x=some a/\iD q e r0 (cQ nd ds x).1 (cQ nd ds x).2 a:=by obtain⟨a,b,c⟩:=xo (e:=e) (nm:=[]) (x:=x) (r1:=r) (r0:=r) (nd:=nd) (ds:=ds) hm.z fT h0.sfx (.inl rfl) (by omega) h0.b0 (by omega);exact⟨a,b,(n5.mono c h).s⟩
theorem rO{e:cf}{r:aa}{st:ah}{nm x:aa}(hm:iQ e r st):gA st nm x=some st:=pN (by rw[hm.1];decide)
theorem sN{e:cf}{w q:aa}{pd:ao}{tr:Bool}(h:cD e (w++q) pd)(k:Nat)(hk:w.length=k):(e.S,W (ax e.S (w++q)+(k:Int)),e.ne,pd,(0:Int),(0:Int),([]:aa),([]:bl),tr)=e.st q pd tr:=by subst hk;have a:W (ax e.S (w++q)+(w.length:Int))=ax e.S q:=ku (w:=w) h.b0 h.sfx;rw[a];rfl
theorem cD.tL{e:cf}{w q:aa}{pd:ao}(h:cD e (w++q) pd)(a:w≠[])(b:(10:UInt8)∉w):q≠[]:=by
 rintro rfl;rw[rS] at h;rcases h.nl.ia h.sfx with ad|⟨t,ad⟩
 ·grind
 grind
def FT(l:dT):ak Unit:=ae (l.ls .item true) λ_=>ae (bN []) λt=>if t= .op [59,59] then bV 2 else aY ()
def AR(l:dT)(D:ak Unit)(t:Tok):ak Unit:=ae ((if t= .op [40] then bV 1 else aY ())) λ_=>ae (kq D) λ_=>FT l
def oZ(l:dT)(D:ak Unit):Unit->ak (Unit⊕Unit):=λ_=>ae cR λ_=>ae (bN []) λt=>if t= .eof then b3 [] else if cB t ew then ae (bV 4) λ_=>aY (.inr ()) else ae (AR l D t) λ_=>aY (.inl ())
theorem aaf(l:dT)(D:ak Unit):(λ(_:Unit)=>ae cR λ_=>ae (bN []) λt=>if t= .eof then b3 [] else if cB t ew then ae (bV 4) λ_=>aY (.inr ()) else
 ae ((if t= .op [40] then bV 1 else aY ())) λ_=>ae (kq D) λ_=>ae (l.ls .item true) λ_=>ae (bN []) λt=>if t= .op [59,59] then ae (bV 2) λ_=>aY (.inl ()) else aY (.inl ()))=oZ l D:=by
 unfold oZ
 funext _
 congr 1
 funext _
 congr 1
 funext t
 congr 1;congr 1;unfold AR FT;simp only[ks];congr 1
 funext _
 congr 1
 funext _
 congr 1
 funext _
 congr 1
 funext t
 rw[yL];congr 1
theorem amS(l:dT)(D:ak Unit):nc l D=b7 (oZ l D) ():=by simp[nc,aaf]
theorem amT{n:Nat}{s':Unit}{r:aa}{pd:ao}{r':aa}{a:ao}(h:oZ (aS true n) (a7 true n) () r pd= .ok (.inl s') r' a):r'.length<r.length:=by rw[<-aaf] at h;exact(XI (qX true n) (l_ true n)).lt (s:=()) h
noncomputable def y4(R:bg):ah->Option ah:=λx=>
 (au (R.nQ x ([59,59]:aa) ([]:bl) false) λ(c,a)=>(cY ((decide (a.2.2.2.2.1=0))=true) (hH a) [] λ(b:aa)=>(bif(bif(decide (a.2.2.2.2.1=0)) then(decide (b=([59,59]:aa))) else false) then some (a.1,(W (a.2.1+2)),a.2.2.1,a.2.2.2.1,a.2.2.2.2.1,a.2.2.2.2.2.1,a.2.2.2.2.2.2.1,a.2.2.2.2.2.2.2.1,a.2.2.2.2.2.2.2.2) else some a)))
noncomputable def I9(R:bg)(x0 x:ah):Option ah:=fixF (Ak R (y4 R)) bB (x.1,x.2.1,x.2.2.1,x0.2.2.2.1,x.2.2.2.2.1,x.2.2.2.2.2.1,x.2.2.2.2.2.2.1,x0.2.2.2.2.2.2.2.1,x.2.2.2.2.2.2.2.2)
theorem amU(R:bg)(x0:ah):EE R x0=(au (hH x0) λ(a:aa)=>
 (bif(decide (a=([40]:aa))) then
 (au (g4 (x0.1,(W (x0.2.1+1)),x0.2.2.1,x0.2.2.2.1,x0.2.2.2.2.1,x0.2.2.2.2.2.1,x0.2.2.2.2.2.2.1,x0.2.2.2.2.2.2.2.1,x0.2.2.2.2.2.2.2.2)) λ(b:ah)=>I9 R x0 b)
 else I9 R x0 x0)):=rfl
section
variable{R:bg}{n:Nat}(bn:ow R n)(hD:kv R n){e:cf}(bc:e.ne=30- (n:Int))
include bn bc
theorem amV{r:aa}{pd:ao}{st:ah}(h:cD e r pd)(p:gg e r pd st):bM false e r (FT (aS true n) r pd) (λst=>st) (λ_ _ _=>True) (y4 R st):=by
 unfold FT y4;refine bM.iC (C:=λx=>x) c3.id (bn.im e .item true rfl bc r pd st h p) (λa r1 aD b k s1 c i _=>?_) (λop nd ds b _ l=>?_) (λb d=>?_)
 ·obtain⟨d,m⟩:=b;dsimp only at i⊢;obtain⟨cV,e6⟩:=AF true n;rw[e6] at k;obtain⟨s,u⟩:=yQ (by simp) k;rw[aM (cb s),i.eta.2.2.2.2.1];obtain⟨tr,rfl,t⟩:=i;rw[rN c,gf];simp only[bz,cH,aK];by_cases f:bt r1=[59,59]
  ·have g:ar r1= .op [59,59]:=(mS (by simp)).2 f;simp only[f,bz,aK];rw[bh g];obtain⟨q,rfl⟩:=(iq g).2.1;have o:q<:+[59,59]++q:=gP _ q;exact⟨_,ma some (sN c 2 rfl),o.trans s1,c.mono o,⟨tr,rfl,λj=>absurd j (c.tL (by simp) (by decide))⟩,trivial⟩
  ·have g:ar r1≠ .op [59,59]:=λj=>f ((mS (by simp)).1 j);simp only[f,bF,aU];rw[aP g];exact⟨_,rfl,s1,c,⟨tr,rfl,t⟩,trivial⟩
 ·obtain⟨d,m⟩:=b;dsimp only at l⊢;rw[l.z.1];simp only[show¬((1:Int)=0) by decide,bF,cY,eB,cr,aU];grind
 ·obtain⟨eS,m⟩:=b;dsimp only at d⊢;rw[d.1];simp only[show¬((2:Int)=0) by decide,bF,cY,eB,cr,aU];grind
include hD
theorem aag{r0 r:aa}{pd:ao}{x:ah}(h:cD e r pd)(L:C1 e r pd x):bM false e r (ae (kq (a7 true n)) (λ_=>FT (aS true n)) r pd) (λst=>st) (λ_ _ _=>True) (fixF (Ak R (y4 R)) bB x):=by
 unfold kq;rw[amQ];refine bM.rep (en:=λ_ r pd x=>C1 e r pd x) (λk s r pd x ay L mP hk=>?_) bB () r pd _ (v7 h) h L;simp only[ks] at hk⊢;rcases L with⟨i,m,M,rfl,MP,E,F,hS⟩|⟨M,rfl⟩
 ·rw[aM (cb M)];unfold Ak;have N:((e.st i pd m).1,(e.st i pd m).2.1,(e.st i pd m).2.2.1,(e.st i pd m).2.2.2.1,(e.st i pd m).2.2.2.2.1,(e.st i pd m).2.2.2.2.2.1,(e.st i pd m).2.2.2.2.2.2.1,(e.st i pd m).2.2.2.2.2.2.2.1,(e.st i pd m).2.2.2.2.2.2.2.2)=e.st i pd m:=rfl;dsimp only;rw[N,qz,aO rfl];by_cases H:i=[]
  ·subst H;simp only[bz,aK];obtain⟨f,j,t⟩:=uV (tr:=m) (x:=[120,41]) E (by decide);rw[j,aO rfl];exact⟨f,rfl,(t.mono F).s⟩
  ·simp only[H,bF,aU];rw[MK E H,aO rfl];have X:∃f,hy (e.st i pd m) (e.st i pd m).2.1=some f/\iQ e r f:=pQ _ E F
   have pM:ar i≠ .eof:=λC=>H (lH.1 C);cases ht:ar i with
   |eof=>grind
   |line=>simp only[aK];obtain⟨f,j,t⟩:=X;rw[j,aO rfl];exact⟨_,rfl,by cases j;exact t⟩
   |op o=>simp only[aK];obtain⟨f,j,t⟩:=X;rw[j,aO rfl];exact⟨_,rfl,by cases j;exact t⟩
   |word w p=>
    simp only[aU,ks];have gR:cW i=false:=(yU hS ht).2;have l:=FH hD bc (tr0:=m) E;have hE:=aI.low (aI.cI (xh true n▸(tG true n).dl)) E;obtain⟨⟨dy,e8,hI⟩,hb,l⟩:=l;rw[hb,aO rfl];dsimp only at l⊢;cases hm:cI (a7 true n) i pd with
    |ok a v c=>
     rw[hm] at l;obtain⟨cS,a2,a3, -, -, -⟩:=l;rw[aM (pR hm),a3.eta.2.2.2.2.1];simp only[bz,g8,aU];have hl:=vP (l_ true n) H gR hm;obtain⟨u,rfl,MT⟩:=a3;obtain⟨jQ,O,pP⟩:=xz a2 ⟨u,rfl,MT⟩;rw[O,aO rfl];rcases pP with⟨g,d,P,rfl,MU,y,xt,C0⟩|⟨P,rfl⟩
     ·rw[aM (cb P)];have Q:((e.st g c d).1,(e.st g c d).2.1,(e.st g c d).2.2.1,(e.st v c u).2.2.2.1,(e.st g c d).2.2.2.2.1,(e.st g c d).2.2.2.2.2.1,(e.st g c d).2.2.2.2.2.2.1,(e.st v c u).2.2.2.2.2.2.2.1,(e.st g c d).2.2.2.2.2.2.2.2)=e.st g c d:=rfl;rw[Q,qz,aO rfl];have I:g<:+r:=xt.trans (cS.trans F);by_cases S:g=[]
      ·subst S;simp only[bz,aK];obtain⟨f,j,t⟩:=uV (tr:=d) (x:=[41]) y (by decide);rw[j,aO rfl];exact⟨f,rfl,(t.mono I).s⟩
      ·simp only[S,bF,aU];rw[rN y,aO rfl];have asr:ar g≠ .eof:=λC=>S (lH.1 C);have T:∃f,hy (e.st g c d) (e.st g c d).2.1=some f/\iQ e r f:=pQ _ y I
       by_cases J:bt g=[124]
       ·have D:ar g= .op [124]:=(mS (by simp)).2 J;obtain⟨q,rfl⟩:=(iq D).2.1;rw[D,J];simp only[bz,g8,aU,cH,ks,Dh,and_true,show¬((124:UInt8)=41) by decide,bF,e7];have G:q<:+[124]++q:=gP _ q;have U:=y.tL (by simp) (by decide);rw[aM (show bV 1 ([124]++q) c= .ok () q c from rfl)];obtain⟨z,I_,Y⟩:=xz (y.mono G) ⟨d,rfl,λC=>absurd C U⟩;have V:g4 ((e.st ([124]++q) c d).1,W ((e.st ([124]++q) c d).2.1+1),(e.st ([124]++q) c d).2.2.1,(e.st v c u).2.2.2.1,(e.st ([124]++q) c d).2.2.2.2.1,(e.st ([124]++q) c d).2.2.2.2.2.1,(e.st ([124]++q) c d).2.2.2.2.2.2.1,(e.st v c u).2.2.2.2.2.2.2.1,(e.st ([124]++q) c d).2.2.2.2.2.2.2.2)=some z:=by rw[<-I_];exact ma g4 (sN y 1 rfl)
        rw[V,aO rfl];have Z:q.length<r.length:=by grind
        have C3:(z.1,z.2.1,z.2.2.1,(e.st v c u).2.2.2.1,z.2.2.2.2.1,z.2.2.2.2.2.1,z.2.2.2.2.2.2.1,(e.st v c u).2.2.2.2.2.2.2.1,z.2.2.2.2.2.2.2.2)=z:=by rcases Y with⟨nN,Tg, -,rfl, -⟩|⟨-,rfl⟩<;>rfl
        rw[C3];exact bM.inl Z (hk () q c z (G.trans I) (y.mono G) Z Y)
       ·by_cases K:bt g=[41]
        ·have D:ar g= .op [41]:=(mS (by simp)).2 K;obtain⟨q,rfl⟩:=(iq D).2.1;rw[D,K];simp only[bz,g8,aU,cH,ks,Dh,and_true,show¬((41:UInt8)=124) by decide,bF,e7,aK,cr];have G:q<:+[41]++q:=gP _ q;have U:=y.tL (by simp) (by decide);rw[aM (show bV 1 ([41]++q) c= .ok () q c from rfl)];have cw:=amV bn bc (y.mono G) (st:=e.st q c d) ⟨d,rfl,λC=>absurd C U⟩;have V:y4 R ((e.st ([41]++q) c d).1,W ((e.st ([41]++q) c d).2.1+1),(e.st ([41]++q) c d).2.2.1,(e.st v c u).2.2.2.1,(e.st ([41]++q) c d).2.2.2.2.1,(e.st ([41]++q) c d).2.2.2.2.2.1,(e.st ([41]++q) c d).2.2.2.2.2.2.1,(e.st v c u).2.2.2.2.2.2.2.1,(e.st ([41]++q) c d).2.2.2.2.2.2.2.2)=y4 R (e.st q c d):=ma (y4 R) (sN y 1 rfl);rw[V];obtain⟨b,pc,A⟩:=cw.mono (G.trans I);rw[pc,I7];dsimp only;cases B:FT (aS true n) q c with
         |ok a eQ lk=>rw[B] at A;rw[aM B];exact⟨b,rfl,A⟩
         |more op nd ds=>rw[B] at A;rw[db B];exact⟨b,rfl,A⟩
         |bad q=>rw[B] at A;rw[gZ B];exact⟨b,rfl,A⟩
         |deep q=>rw[B] at A;rw[jR B];exact⟨b,rfl,A⟩
        ·simp only[J,K,bF,e7,aK];obtain⟨f,j,t⟩:=T;rw[j,aO rfl]
         have fin:∃b:ah,some (f.1,f.2.1,f.2.2.1,(e.st v c u).2.2.2.1,f.2.2.2.2.1,f.2.2.2.2.2.1,f.2.2.2.2.2.2.1,(e.st v c u).2.2.2.2.2.2.2.1,f.2.2.2.2.2.2.2.2)=some b/\iQ e r b:=⟨_,rfl,by cases j;exact t⟩
         cases D:ar g with
         |eof=>grind
         |line=>exact fin
         |word _ _=>exact fin
         |op o=>have aQ:=(iq D).1;subst aQ;simp only[J,K,cr];exact fin
     ·rw[db (op:=[]) (by rw[iB P];rfl)];have Q:((e.tt c).1,(e.tt c).2.1,(e.tt c).2.2.1,(e.st v c u).2.2.2.1,(e.tt c).2.2.2.2.1,(e.tt c).2.2.2.2.2.1,(e.tt c).2.2.2.2.2.2.1,(e.st v c u).2.2.2.2.2.2.2.1,(e.tt c).2.2.2.2.2.2.2.2)=e.tt c:=rfl;rw[Q,oX,aO rfl];simp only[aK];obtain⟨f,j,t⟩:=CX (x:=[41]) a2.AK (by decide);rw[j,aO rfl];exact⟨f,rfl,(t.mono oA).s⟩
    |more op nd ds=>rw[hm] at l;rw[db (sM hm),l.z.1];simp only[show¬((1:Int)=0) by decide,bF,e7,aK];obtain⟨f,al,bd⟩:=FR (q:=false) (x:=[41]) E l F (by grind) (by decide);rw[al,aO rfl];exact⟨f,rfl,bd⟩
    |bad q=>rw[hm] at l;rw[gZ (uW hm),l.1];simp only[show¬((2:Int)=0) by decide,bF,e7,aK];rw[rO l,aO rfl];exact⟨_,rfl,l.mono F⟩
    |deep q=>rw[hm] at l;rw[jR (uX hm),l.1];simp only[show¬((2:Int)=0) by decide,bF,e7,aK];rw[rO l,aO rfl];exact⟨_,rfl,l.mono F⟩
 ·rw[db (op:=[]) (by rw[iB M];rfl)];unfold Ak;have N:((e.tt pd).1,(e.tt pd).2.1,(e.tt pd).2.2.1,(e.tt pd).2.2.2.1,(e.tt pd).2.2.2.2.1,(e.tt pd).2.2.2.2.2.1,(e.tt pd).2.2.2.2.2.2.1,(e.tt pd).2.2.2.2.2.2.2.1,(e.tt pd).2.2.2.2.2.2.2.2)=e.tt pd:=rfl;dsimp only;rw[N,oX,aO rfl];simp only[aK];obtain⟨f,j,t⟩:=CX (x:=[120,41]) ay.AK (by decide);rw[j,aO rfl];exact⟨f,rfl,(t.mono oA).s⟩
end
theorem Ja:(ew:aa)≠[]/\ew.all gv=true:=by decide
def y5:aa:=10::ew
def FU:aa:=[32]++fb++[10]++ew
def AT:aa:=[120,32]++fb++[10]++ew
theorem amY{σ α:Type}(f:σ->ak (σ⊕α))(x:aa):∀(N:Nat)(s:σ)(r:aa)(pd:ao),r.length<=N->(b7 f s).aJ x r pd=b7 (λs=>(f s).aJ x) s r pd:=by
 intro N;induction N with
 |zero=>
  intro s r pd h;have c:r.length=0:=by omega
  rw[cq];unfold ak.aJ;rw[cq];cases ad:f s r pd with
  |ok y r1 aD=>grind[cP]
  |more op nd ds=>rfl
  |bad q=>rfl
  |deep q=>rfl
 |succ N b=>
  intro s r pd h;rw[cq];unfold ak.aJ;rw[cq];cases ad:f s r pd with
  |ok y r1 aD=>
   cases y with
   |inl s'=>
    simp only[cP];by_cases hl:r1.length<r.length
    ·rw[bh hl,bh hl];exact b s' r1 aD (by omega)
    grind
   |inr a=>rfl
  |more op nd ds=>rfl
  |bad q=>rfl
  |deep q=>rfl
noncomputable def y6:ah->Option ah:=λx=>(au (gA x ([]) ([10,101,115,97,99]:aa)) λ(a:ah)=>some a)
noncomputable def Jb(R:bg)(a:ah->Option ah):ah->Option ah:=λx=>
 (cY ((decide (x.2.2.2.2.1=0))=true) (lF x) [] λ(b:aa)=>(bif(bif(decide (x.2.2.2.2.1=0)) then(decide (b=([101,115,97,99]:aa))) else false) then some (x.1,(W (x.2.1+4)),x.2.2.1,x.2.2.2.1,x.2.2.2.2.1,x.2.2.2.2.2.1,x.2.2.2.2.2.2.1,x.2.2.2.2.2.2.2.1,x.2.2.2.2.2.2.2.2) else(bif(decide (x.2.2.2.2.1=0)) then(au (EE R x) λ(c:ah)=>a c) else a x)))
noncomputable def Jc(R:bg)(b:ah->Option ah):ah->Option ah:=λa=>
 (cY ((decide (a.2.2.2.2.1=0))=true) (gz a) false λ(c:Bool)=>(bif(bif(decide (a.2.2.2.2.1=0)) then c else false) then(au (g5 a ([])) λ(d:ah)=>Jb R b d) else Jb R b a))
theorem aah(R:bg)(j k:ah->Option ah)(x:ah):EF R j k x=(bif(decide (x.2.2.2.2.1=0)) then(au (oi x) λ(a:ah)=>Jc R k a) else j x):=rfl
noncomputable def xA(R:bg):ah->Option ah:=λx=>
 (bif(!(decide (x.2.2.2.2.1=0))) then(au (gA x ([]) ([32,105,110,10,101,115,97,99]:aa)) λ(b:ah)=>some b) else(au (lF x) λ(c:aa)=>(bif(!(decide (c=([105,110]:aa)))) then(au (hy x x.2.1) λ(a:ah)=>some (a.1,a.2.1,a.2.2.1,x.2.2.2.1,a.2.2.2.2.1,a.2.2.2.2.2.1,a.2.2.2.2.2.2.1,x.2.2.2.2.2.2.2.1,a.2.2.2.2.2.2.2.2)) else(fixF (EF R y6) bB (x.1,(W (x.2.1+2)),x.2.2.1,x.2.2.2.1,x.2.2.2.2.1,x.2.2.2.2.2.1,x.2.2.2.2.2.2.1,x.2.2.2.2.2.2.2.1,x.2.2.2.2.2.2.2.2)))))
noncomputable def Jd(R:bg):ah->Option ah:=λb=>
 (bif(decide (b.2.2.2.2.1=0)) then(au (oi b) λ(a:ah)=>(cY ((decide (a.2.2.2.2.1=0))=true) (gz a) false λ(c:Bool)=>(bif(bif(decide (a.2.2.2.2.1=0)) then c else false) then(au (g5 a ([])) λ(d:ah)=>xA R d) else xA R a))) else xA R b)
noncomputable def Th(R:bg):ah->Option ah:=λx=>
 (au (gz x) λ(b:Bool)=>(bif b then(au (g5 x ([120,32,105,110,10,101,115,97,99]:aa)) λ(c:ah)=>some c) else(au (vM x) λ(d:Bool)=>(bif d then(au (hy x x.2.1) λ(a:ah)=>some (a.1,a.2.1,a.2.2.1,x.2.2.2.1,a.2.2.2.2.1,a.2.2.2.2.2.1,a.2.2.2.2.2.2.1,x.2.2.2.2.2.2.2.1,a.2.2.2.2.2.2.2.2)) else(au (qe R x) λy=>Jd R y.2.2)))))
theorem amZ(R:bg)(x0:ah):EG R x0=au (g4 x0) λa=>Th R (a.1,a.2.1,a.2.2.1,x0.2.2.2.1,a.2.2.2.2.1,a.2.2.2.2.2.1,a.2.2.2.2.2.2.1,x0.2.2.2.2.2.2.2.1,a.2.2.2.2.2.2.2.2):=rfl
theorem FV{e:cf}{r:aa}{pd0 pd:ao}{x:aa}(h:cD e r pd0)(c:ep pd<=100*e.S.length+800)(d:x.length<=100):∃a,g5 (e.tt pd) x=some a/\n5 e r (cQ [] pd x).1 (cQ [] pd x).2 a:=by
 have h0:=h.b0;have f:=tH pd;have b:=AI x [] pd;refine⟨(e.S,(e.S.length:Int),e.ne,(cQ [] pd x).2,1,0,(cQ [] pd x).1,[],true),?_,rfl,rfl,rfl,⟨rfl,?_,?_,?_,?_⟩,?_⟩
 ·unfold g5 a8 cf.tt;simp only[bz,aK];rw[CS _ _ _ _ _ _ _ _ _ _ (by omega) (by grind) (by omega),aO rfl]
 ·grind[ax]
 ·grind
 ·grind
 ·simp
 simp
theorem am0{l:dT}{D:ak Unit}(aG:l.dl=D)(hl:yW l)(t:Tok):aI 50 (AR l D t):=by subst aG;exact(aI.ite (aI.dm _) (aI.ret _)).ae λ_=>((aI.xc hl).mono (by decide)).ae λ_=>(hl.ls _ _).ae λ_=>(aI.dN (by simp)).ae λt=>aI.ite (aI.dm _) (aI.ret _)
section
variable{R:bg}{n:Nat}(bn:ow R n)(hD:kv R n){e:cf}(bc:e.ne=30- (n:Int))
include bn hD bc
theorem am1{r:aa}{pd:ao}{st:ah}(h:cD e r pd)(k:gg e r pd st)(i:bq r=some r):bM false e r (AR (aS true n) (a7 true n) (ar r) r pd) (λst=>st) (λ_ _ _=>True) (EE R st):=by
 unfold AR;rw[amU];obtain⟨tr,rfl,l⟩:=k;rw[rN h,aO rfl];by_cases a:bt r=[40]
 ·have b:ar r= .op [40]:=(mS (by simp)).2 a;simp only[a,b,bz,aK,cH];obtain⟨q,rfl⟩:=(iq b).2.1;rw[aM (show bV 1 ([40]++q) pd= .ok () q pd from rfl)];have c:q<:+[40]++q:=gP _ q;have m:=h.tL (by simp) (by decide);obtain⟨d,o,j⟩:=xz (h.mono c) (st:=e.st q pd tr) ⟨tr,rfl,λf=>absurd f m⟩;have p:g4 ((e.st ([40]++q) pd tr).1,W ((e.st ([40]++q) pd tr).2.1+1),(e.st ([40]++q) pd tr).2.2.1,(e.st ([40]++q) pd tr).2.2.2.1,(e.st ([40]++q) pd tr).2.2.2.2.1,(e.st ([40]++q) pd tr).2.2.2.2.2.1,(e.st ([40]++q) pd tr).2.2.2.2.2.2.1,(e.st ([40]++q) pd tr).2.2.2.2.2.2.2.1,(e.st ([40]++q) pd tr).2.2.2.2.2.2.2.2)=some d:=by rw[<-o];exact ma g4 (sN h 1 rfl)
  rw[p,aO rfl];have g:I9 R (e.st ([40]++q) pd tr) d=fixF (Ak R (y4 R)) bB d:=by unfold I9;rcases j with⟨s,t, -,rfl, -⟩|⟨-,rfl⟩<;>rfl
  rw[g];exact(aag (r0:=[40]++q) bn hD bc (h.mono c) j).mono c
 ·have b:ar r≠ .op [40]:=λf=>a ((mS (by simp)).1 f);simp only[a,b,bF,aU,cr];rw[I7];have g:I9 R (e.st r pd tr) (e.st r pd tr)=fixF (Ak R (y4 R)) bB (e.st r pd tr):=rfl;rw[g];exact aag (r0:=r) bn hD bc h (.inl ⟨r,tr,i,rfl,l,h,fT,i⟩)
omit bn hD bc in
theorem Ti{k:ah->Option ah}{x:ah}(h:x.2.2.2.2.1≠0):Jb R k x=k x:=by unfold Jb;simp_all[cY]
omit bn hD bc in
theorem Tj{k:ah->Option ah}{x:ah}(h:x.2.2.2.2.1≠0):Jc R k x=k x:=by unfold Jc;simp only[h,bF,cY,eB,cr,aU];exact Ti h
theorem am2{r:aa}{pd:ao}{st:ah}(h:cD e r pd)(H:gg e r pd st):bM false e r ((nc (aS true n) (a7 true n)).aJ y5 r pd) (λst=>st) (λ_ _ _=>True) (fixF (EF R y6) bB st):=by
 rw[amS,amY _ _ _ _ _ _ (cX _)];refine bM.rep (en:=λ_ r pd x=>gg e r pd x) (λk s r pd x o v I hk=>?_) bB () r pd _ (v7 h) h H
 have l:∀x:ah,x.2.2.2.2.1≠0->k x=y6 x:=by intro x v;obtain⟨k',ad⟩:=I x;simp_all[aah]
 have J:y5.length<=100:=by decide
 have w:∀{r1:aa}{nd:aa}{ds:ao}{st:ah}{op:bl},r1<:+r->iD false e r1 nd ds st->nd.length+ep ds<=100*e.S.length+500->oZ (aS true n) (a7 true n) s r pd= .more op nd ds->bM false e r (cP (λs=>(oZ (aS true n) (a7 true n) s).aJ y5) r ((oZ (aS true n) (a7 true n) s).aJ y5 r pd)) (λst=>st) (λ_ _ _=>True) (k st):=by intro r1 nd ds st op ad C K L;rw[sM L,l st (by rw[C.z.1];decide)];obtain⟨y,M,N⟩:=FR (q:=false) (x:=y5) (o.mono ad) C ad K J;unfold y6;rw[show([10,101,115,97,99]:aa)=y5 from rfl,M];exact⟨y,rfl,N⟩
 rw[aah,v.eta.2.2.2.2.1];simp only[bz,aK];obtain⟨U,O,f⟩:=FB o v;rw[O,aO rfl];have P:=aI.low (aI.lines (c:=0)) o;cases hm:cR r pd with
 |ok a r1 aD=>
  rw[hm] at f;obtain⟨p,a2,a3,t,V⟩:=f;obtain⟨tr,rfl,Q⟩:=a3;unfold Jc;have u:(e.st r1 aD tr).2.2.2.2.1=0:=rfl;rw[u,qz,gf];simp only[bz,cH,aK];by_cases z:r1=[]
  ·subst z;simp only[bz,aK];obtain⟨y,A,m⟩:=uV (tr:=tr) (x:=[]) a2 (by decide);rw[A,aO rfl,Ti (by rw[m.1];decide)];have g:oZ (aS true n) (a7 true n) s r pd= .more [] [] aD:=by unfold oZ;rw[aM hm,aM (cb t)];rfl
   exact w p m.s (by have:=a2.jO;show([]:aa).length+ep aD<=_;omega) g
  ·simp only[z,bF,aU];unfold Jb;rw[u,v8 a2,gf];simp only[bz,cH,aK];have D:=h.nl.ia a2.sfx;have S:ar r1≠ .eof:=λB=>z (lH.1 B);by_cases aG:ja r1=[101,115,97,99]
   ·have E:=(rM D Ja.1 Ja.2).1 aG;simp only[aG,bz,aK];obtain⟨q,rfl⟩:=(qp E).1;have F:q<:+ew++q:=gP _ q;have g:oZ (aS true n) (a7 true n) s r pd= .ok (.inr ()) q aD:=by unfold oZ;rw[aM hm,aM (cb t),E];rfl
    rw[pR g];exact⟨_,ma some (sN a2 4 rfl),F.trans p,a2.mono F,⟨tr,rfl,λB=>absurd B (a2.tL (by decide) (by decide))⟩,trivial⟩
   ·have bf:cB (ar r1) ew=false:=by rw[<-IZ D Ja.1 Ja.2];exact e1 aG
    simp only[aG,bF,aU];have i:oZ (aS true n) (a7 true n) s r pd=ae (AR (aS true n) (a7 true n) (ar r1)) (λ_=>aY (.inl ())) r1 aD:=by unfold oZ;rw[aM hm,aM (cb t),aP S,aP (by grind)]
    have d:=am1 bn hD bc a2 ⟨tr,rfl,Q⟩ t;obtain⟨b,G,d⟩:=d;rw[G,aO rfl];have T:∀op nd ds,AR (aS true n) (a7 true n) (ar r1) r1 aD= .more op nd ds->nd.length+ep ds<=100*e.S.length+50:=aI.low (am0 (xh true n) (tG true n) _) a2
    cases j:AR (aS true n) (a7 true n) (ar r1) r1 aD with
    |ok a2 W X=>rw[j] at d;obtain⟨Y,Z,hI,_⟩:=d;rw[aM j] at i;have hl:=amT (s':=()) i;rw[pR i];grind[bM.inl]
    |more op nd ds=>grind[db]
    |bad q=>rw[j] at d;rw[gZ j] at i;rw[uW i];rw[l b (by rw[d.1];decide)];unfold y6;rw[rO d];exact⟨_,rfl,d.mono p⟩
    |deep q=>rw[j] at d;rw[jR j] at i;rw[uX i];rw[l b (by rw[d.1];decide)];unfold y6;rw[rO d];exact⟨_,rfl,d.mono p⟩
 |more op nd ds=>
  rw[hm] at f;have g:oZ (aS true n) (a7 true n) s r pd= .more op nd ds:=by unfold oZ;grind[db]
  have G:=P _ _ _ hm;rcases f with f|⟨_,rfl,rfl⟩
  ·rw[Tj (by grind)];exact w List.suffix_rfl (.inl f) (by omega) g
  ·unfold Jc;have u:(e.tt ds).2.2.2.2.1=0:=rfl;rw[u,oX,gf];simp only[decide_true,if_true,cond_true];obtain⟨y,A,m⟩:=FV (pd:=ds) (x:=[]) o (by omega) (by simp);rw[A,aO rfl,Ti (by rw[m.1];decide)];exact w fT m.s (by show([]:aa).length+ep ds<=_;omega) g
 |bad q=>
  rw[hm] at f;have g:oZ (aS true n) (a7 true n) s r pd= .bad q:=by simp_all[oZ,gZ]
  rw[uW g,Tj (by rw[f.1];decide),l _ (by rw[f.1];decide)];unfold y6;rw[rO f];exact⟨_,rfl,f⟩
 |deep q=>
  rw[hm] at f;have g:oZ (aS true n) (a7 true n) s r pd= .deep q:=by simp_all[oZ,jR]
  rw[uX g,Tj (by rw[f.1];decide),l _ (by rw[f.1];decide)];unfold y6;rw[rO f];exact⟨_,rfl,f⟩
end
def pS(D:ak Unit):ak Tok:=ae (cI D) λ_=>ae cR λ_=>ae (bN []) λt=>if t= .eof then b3 [] else aY t
theorem am3(l:dT)(D:ak Unit):qk l D=ae (bN AT) λt=>match t with
 | .eof=>b3 AT
 | .word _ _=>ae ((pS D).aJ FU) λt=>if cB t fb then ae (bV 2) λ_=>(nc l D).aJ y5 else bK
 |_=>bK:=rfl
section
variable{R:bg}{n:Nat}(bn:ow R n)(hD:kv R n){e:cf}(bc:e.ne=30- (n:Int))
theorem MW{r r0:aa}{nd:aa}{ds:ao}{st:ah}{pd0:ao}(h0:cD e r pd0)(hm:iD false e r nd ds st)(b:r<:+r0)(c:nd.length+ep ds<=100*e.S.length+500):∃a,xA R st=some a/\iD false e r0 (cQ nd ds FU).1 (cQ nd ds FU).2 a:=by obtain⟨a,d,f⟩:=FR (q:=false) (x:=FU) h0 hm b c (by decide);unfold xA;rw[hm.z.1];simp only[show¬((1:Int)=0) by decide,bF,e7,aK];rw[show([32,105,110,10,101,115,97,99]:aa)=FU from rfl,d];exact⟨a,rfl,f⟩
theorem MX{r:aa}{st:ah}(hm:iQ e r st):xA R st=some st:=by unfold xA;rw[hm.1];simp only[show¬((2:Int)=0) by decide,bF,e7,aK];rw[rO hm];rfl
theorem Tk{st:ah}(hm:st.2.2.2.2.1≠0):Jd R st=xA R st:=by simp_all[Jd]
include bn hD bc
theorem am4{r r0:aa}{pd:ao}{st:ah}(h:cD e r pd)(d:gg e r pd st)(h0:r<:+r0)(k:bq r=some r)(l:r≠[]):bM false e r0 ((if cB (ar r) fb then ae (bV 2) λ_=>(nc (aS true n) (a7 true n)).aJ y5 else bK:ak Unit) r pd) (λst=>st) (λ_ _ _=>True) (xA R st):=by
 obtain⟨tr,rfl,m⟩:=d;have f:(e.st r pd tr).2.2.2.2.1=0:=rfl;unfold xA;rw[f,v8 h,aO rfl];simp only[bz,g8,aU];have a:=h.nl.ia h.sfx;by_cases aG:ja r=[105,110]
 ·have g:=(rM a AO.1 AO.2).1 aG;simp only[aG,bz,g8,aU];have bf:cB (ar r) fb=true:=by grind[cB]
  rw[bh bf];obtain⟨q,rfl⟩:=(qp g).1;rw[aM (show bV 2 (fb++q) pd= .ok () q pd from rfl)];have b:q<:+fb++q:=gP _ q;have aF:=am2 bn hD bc (h.mono b) (st:=e.st q pd tr) ⟨tr,rfl,λi=>absurd i (h.tL (by decide) (by decide))⟩;refine bM.dW (aF.mono (b.trans h0)) ?_;exact ma (fixF (EF R y6) bB) (sN h 2 rfl)
 ·have bf:cB (ar r) fb=false:=by rw[<-IZ a AO.1 AO.2];exact e1 aG
  simp only[aG,bF,e7,aK];rw[aP (by grind)];obtain⟨o,c,j⟩:=pQ (tr:=tr) (e.st r pd tr).2.1 h h0;rw[c,aO rfl];exact⟨_,rfl,by cases c;exact j⟩
theorem am5{r r0:aa}{pd:ao}{tr0:Bool}(h:cD e r pd)(g:r<:+r0){w:aa}{p:Bool}(N:ar r= .word w p):bM false e r0 (ae ((pS (a7 true n)).aJ FU) (λt=>if cB t fb then ae (bV 2) λ_=>(nc (aS true n) (a7 true n)).aJ y5 else bK) r pd) (λst=>st) (λ_ _ _=>True) (au (qe R (e.st r pd tr0)) λy=>Jd R y.2.2):=by
 have b:=FH hD bc (tr0:=tr0) h;have O:=aI.low (aI.cI (xh true n▸(tG true n).dl)) h;obtain⟨⟨P,Q,S⟩,E,b⟩:=b;rw[E,aO rfl];dsimp only at b⊢;cases hm:cI (a7 true n) r pd with
 |ok a F G=>
  rw[hm] at b;obtain⟨m,a2,a3, -, -, -⟩:=b;unfold Jd;rw[a3.eta.2.2.2.2.1];simp only[bz,aK];obtain⟨T,H,d⟩:=FB a2 a3;rw[H,aO rfl];have z:=aI.low (aI.lines (c:=0)) a2;cases i:cR F G with
  |ok U o s=>
   rw[i] at d;obtain⟨eS,u,I,A,V⟩:=d;obtain⟨tr,rfl,J⟩:=I;have B:(e.st o s tr).2.2.2.2.1=0:=rfl;rw[B,qz,gf];simp only[bz,cH,aK];by_cases v:o=[]
   ·subst v;simp only[bz,aK];obtain⟨K,C,D⟩:=uV (tr:=tr) (x:=[]) u (by decide);rw[C,aO rfl];have f:pS (a7 true n) r pd= .more [] [] s:=by unfold pS;rw[aM hm,aM i,aM (cb A)];rfl
    rw[db (sM f)];have:=u.jO;obtain⟨j,k,l⟩:=MW (R:=R) u D.s (eS.trans (m.trans g)) (by show([]:aa).length+ep s<=_;omega);exact⟨j,k,l⟩
   ·simp only[v,bF,aU];have L:ar o≠ .eof:=λM=>v (lH.1 M);have f:pS (a7 true n) r pd= .ok (ar o) o s:=by unfold pS;rw[aM hm,aM i,aM (cb A),aP L];rfl
    rw[aM (pR f)];exact am4 bn hD bc u ⟨tr,rfl,J⟩ (eS.trans (m.trans g)) A v
  |more op nd ds=>
   rw[i] at d;have f:pS (a7 true n) r pd= .more op nd ds:=by unfold pS;grind[aM,db]
   rw[db (sM f)];have W:=z _ _ _ i;rcases d with d|⟨_,rfl,rfl⟩
   ·rw[d.1];simp only[show¬((1:Int)=0) by decide,bF,cY,eB,cr,aU];obtain⟨j,k,l⟩:=MW (R:=R) a2 (.inl d) (m.trans g) (by omega);exact⟨j,k,l⟩
   ·have B:(e.tt ds).2.2.2.2.1=0:=rfl;rw[B,oX,gf];simp only[bz,cH,aK];obtain⟨K,C,D⟩:=FV (pd:=ds) (x:=[]) a2 (by omega) (by simp);rw[C,aO rfl];obtain⟨j,k,l⟩:=MW (R:=R) a2 D.s (m.trans g) (by show([]:aa).length+ep ds<=_;omega);exact⟨j,k,l⟩
  |bad q=>
   rw[i] at d;have f:pS (a7 true n) r pd= .bad q:=by unfold pS;grind[aM,gZ]
   rw[gZ (uW f),d.1];simp only[show¬((2:Int)=0) by decide,bF,cY,eB,cr,aU];rw[MX d];exact⟨_,rfl,d.mono (m.trans g)⟩
  |deep q=>
   rw[i] at d;have f:pS (a7 true n) r pd= .deep q:=by unfold pS;grind[aM,jR]
   rw[jR (uX f),d.1];simp only[show¬((2:Int)=0) by decide,bF,cY,eB,cr,aU];rw[MX d];exact⟨_,rfl,d.mono (m.trans g)⟩
 |more op nd ds=>
  rw[hm] at b;have f:pS (a7 true n) r pd= .more op nd ds:=by unfold pS;rw[db hm]
  rw[db (sM f),Tk (by rw[b.z.1];decide)];obtain⟨j,k,l⟩:=MW (R:=R) h b g (by grind);exact⟨j,k,l⟩
 |bad q=>
  rw[hm] at b;have f:pS (a7 true n) r pd= .bad q:=by simp_all[pS,gZ]
  rw[gZ (uW f),Tk (by rw[b.1];decide),MX b];exact⟨_,rfl,b.mono g⟩
 |deep q=>
  rw[hm] at b;have f:pS (a7 true n) r pd= .deep q:=by simp_all[pS,jR]
  rw[jR (uX f),Tk (by rw[b.1];decide),MX b];exact⟨_,rfl,b.mono g⟩
theorem am6{r:aa}{pd:ao}{st:ah}(h:cD e r pd)(s:gg e r pd st):bM false e r (qk (aS true n) (a7 true n) r pd) (λst=>st) (λ_ _ _=>True) (EG R st):=by
 rw[am3,amZ];obtain⟨tr,rfl,t⟩:=s;rcases xn h ⟨tr,rfl,t⟩ with⟨a,y,i,j,u,k,m,z⟩|⟨i,j⟩
 ·rw[j,aO rfl,aM (cb i)];obtain⟨b,rfl,A⟩:=u;have l:((e.st a pd b).1,(e.st a pd b).2.1,(e.st a pd b).2.2.1,(e.st r pd tr).2.2.2.1,(e.st a pd b).2.2.2.2.1,(e.st a pd b).2.2.2.2.2.1,(e.st a pd b).2.2.2.2.2.2.1,(e.st r pd tr).2.2.2.2.2.2.2.1,(e.st a pd b).2.2.2.2.2.2.2.2)=e.st a pd b:=rfl;rw[l];unfold Th;rw[qz,aO rfl];by_cases g:a=[]
  ·subst g;simp only[bz,aK];obtain⟨d,c,f⟩:=uV (tr:=b) (x:=AT) k (by decide);rw[show([120,32,105,110,10,101,115,97,99]:aa)=AT from rfl,c,aO rfl];exact⟨d,rfl,(f.mono m).s⟩
  ·simp only[g,bF,aU];rw[MK k g,aO rfl];have q:∃d,hy (e.st a pd b) (e.st a pd b).2.1=some d/\iQ e r d:=pQ _ k m
   have B:ar a≠ .eof:=λv=>g (lH.1 v);cases C:ar a with
   |eof=>grind
   |line=>simp only[aK];obtain⟨d,c,f⟩:=q;rw[c,aO rfl];exact⟨_,rfl,by cases c;exact f⟩
   |op o=>simp only[aK];obtain⟨d,c,f⟩:=q;rw[c,aO rfl];exact⟨_,rfl,by cases c;exact f⟩
   |word w p=>simp only[aU];grind[am5]
 ·rw[j,aO rfl,db (op:=[]) (nd:=(cQ [] pd AT).1) (ds:=(cQ [] pd AT).2) (by rw[iB i];rfl)];have l:((e.tt pd).1,(e.tt pd).2.1,(e.tt pd).2.2.1,(e.st r pd tr).2.2.2.1,(e.tt pd).2.2.2.2.1,(e.tt pd).2.2.2.2.2.1,(e.tt pd).2.2.2.2.2.2.1,(e.st r pd tr).2.2.2.2.2.2.2.1,(e.tt pd).2.2.2.2.2.2.2.2)=e.tt pd:=rfl;rw[l];unfold Th;rw[oX,aO rfl];simp only[aK];obtain⟨d,c,f⟩:=CX (x:=AT) h.AK (by decide);rw[show([120,32,105,110,10,101,115,97,99]:aa)=AT from rfl,c,aO rfl];exact⟨d,rfl,(f.mono oA).s⟩
end
theorem MY:(ih:aa)≠[]/\ih.all gv=true:=by decide
theorem C5:(fa:aa)≠[]/\fa.all gv=true:=by decide
theorem Tl:(h2:aa)≠[]/\h2.all gv=true:=by decide
theorem Tm:(ij:aa)≠[]/\ij.all gv=true:=by decide
theorem MZ:([125]:aa)≠[]/\([125]:aa).all gv=true:=by decide
theorem Tn(t:Tok)(h:dE .qi t=true):∃w,t= .word w true/\w≠[]/\w.all gv=true/\(w=ij\/w=h2\/w=fa):=by
 simp only[dE,A3] at h;rcases h with(h|h)|h
 ·exact⟨ij,FO h,Tm.1,Tm.2,.inl rfl⟩
 ·exact⟨h2,FO h,Tl.1,Tl.2,.inr (.inl rfl)⟩
 ·exact⟨fa,FO h,C5.1,C5.2,.inr (.inr rfl)⟩
theorem am7{β:Type}{m:Nat}{c:Ctx}{no:Bool}{kw x y:aa}{K:ak β}(aF:c≠ .text)(b:∀t,dE c t=cB t kw)(e:kw≠[]/\kw.all gv=true){r:aa}{pd:ao}(f:c_ r):
  ae (((aS true m).ls c no).aJ x) (λ_=>ae ((cZ kw).aJ y) (λ_=>K)) r pd=ae (ae (((aS true m).ls c no).aJ x) (λ_=>sL)) (λ_=>K) r pd:=by
 rw[<-MN aF b e f];cases hm:(((aS true m).ls c no).aJ x) r pd with
 |ok a r1 aD=>
  rw[aM hm,aM hm];have d:=hJ.1 hm;obtain⟨cV,e6⟩:=AF true m;rw[e6] at d;obtain⟨g,h⟩:=yQ aF d;rw[b] at h;have i:ar r1= .word kw true:=by grind[cB]
  have:=FM (pd:=aD) g i;grind[aM,pR]
 |more op nd ds=>grind[db]
 |bad q=>grind[gZ]
 |deep q=>grind[jR]
def To:aa:=[10]++ih++[32,120,10]++fa
def xB:aa:=10::fa
def M0(l:dT):Unit->ak (Unit⊕Unit):=λ_=>ae ((l.ls .rG false).aJ To) λ_=>ae (cZ ih) λ_=>ae ((l.ls .qi false).aJ xB) λ_=>
    ae (bN []) λt=>if cB t ij then ae (cZ ij) λ_=>aY (.inl ()) else
     if cB t h2 then ae (cZ h2) λ_=>ae ((l.ls .kh false).aJ xB) λ_=>ae (cZ fa) λ_=>aY (.inr ()) else ae (cZ fa) λ_=>aY (.inr ())
theorem am8(l:dT):qj l=b7 (M0 l) ():=rfl
theorem am9{n:Nat}{s':Unit}{r:aa}{pd:ao}{r':aa}{a:ao}(h:M0 (aS true n) () r pd= .ok (.inl s') r' a):r'.length<r.length:=(XH (qX true n)).lt (s:=()) h
def M1(l:dT):ak (Unit⊕Unit):=ae ((l.ls .qi false).aJ xB) λ_=>
    ae (bN []) λt=>if cB t ij then ae (cZ ij) λ_=>aY (.inl ()) else
     if cB t h2 then ae (cZ h2) λ_=>ae ((l.ls .kh false).aJ xB) λ_=>ae (cZ fa) λ_=>aY (.inr ()) else ae (cZ fa) λ_=>aY (.inr ())
def Tp(l:dT):ak (Unit⊕Unit):=ae (ae ((l.ls .qi false).aJ xB) λ_=>sL) λa=>if a=ij then aY (.inl ()) else if a=h2 then ae (ae ((l.ls .kh false).aJ xB) λ_=>sL) λ_=>aY (.inr ()) else aY (.inr ())
theorem am_{n:Nat}{s:Unit}{r:aa}{pd:ao}(a:c_ r):M0 (aS true n) s r pd=ae (ae (((aS true n).ls .rG false).aJ To) λ_=>sL) (λ_=>M1 (aS true n)) r pd:=by show ae (((aS true n).ls .rG false).aJ To) (λ_=>ae (cZ ih) λ_=>M1 (aS true n)) r pd=_;exact MN (by simp) Z3 MY a
theorem ana{r:aa}{pd:ao}{w:aa}(a:c_ r)(b:w≠[]/\w.all gv=true)(c:ar r= .word w true):sL r pd= .ok w (r.drop w.length) pd:=by grind[rM,sL]
theorem anb{n:Nat}{r:aa}{pd:ao}(g:c_ r):M1 (aS true n) r pd=Tp (aS true n) r pd:=by
 unfold M1 Tp;rw[ks];cases hm:(((aS true n).ls .qi false).aJ xB) r pd with
 |ok a r1 aD=>
  rw[aM hm,aM hm];have f:=hJ.1 hm;have h:=((qX true n).ls .qi false).sfx f;have b:=g.ia h;obtain⟨cV,e6⟩:=AF true n;rw[e6] at f;obtain⟨e,i⟩:=yQ (by simp) f;obtain⟨w,d,j,k,l⟩:=Tn _ i;rw[aM (cb e),aM (ana b ⟨j,k⟩ d),d];rcases l with rfl|rfl|rfl
  ·rw[bh (by decide),bh rfl,aM (FM e d)]
  ·rw[aP (by decide),bh (by decide),aP (by decide),bh rfl,aM (FM e d)];have aG:c_ (r1.drop h2.length):=b.ia (lK _ _);have:=MN (β:=Unit⊕Unit) (m:=n) (no:=false) (x:=xB) (K:=aY (.inr ())) (c:= .kh) (by simp) Z5 C5 aG (pd:=aD);omega
  ·rw[aP (by decide),aP (by decide),aP (by decide),aP (by decide),aM (FM e d)]
 |more op nd ds=>grind[db]
 |bad q=>grind[gZ]
 |deep q=>grind[jR]
noncomputable def C6(R:bg):aa×ah->Option ah:=λy=>
 (bif(bif(decide (y.2.2.2.2.2.1=0)) then(decide (y.1=([101,108,115,101]:aa))) else false) then(au (pD R y.2 ([([102,105]:aa)]:bl) ([10,102,105]:aa)) λ(b,a)=>some a) else some y.2)
theorem aal(R:bg)(j:aa×ah->Option ah)(k:aa×ah->Option ah)(y:aa×ah):H5 R j k y=(bif(bif(decide (y.2.2.2.2.2.1=0)) then(decide (y.1=([101,108,105,102]:aa))) else false) then
 (au (pD R y.2 ([([116,104,101,110]:aa)]:bl) ([10,116,104,101,110,32,120,10,102,105]:aa)) λz=>
 (bif(decide (z.2.2.2.2.2.1=0)) then
 (au (pD R z.2 ([([101,108,105,102]:aa),([101,108,115,101]:aa),([102,105]:aa)]:bl) ([10,102,105]:aa)) λv=>k v)
 else k (y.1,z.2)))
 else j y):=rfl
section
variable{R:bg}{n:Nat}(bn:ow R n)(hD:kv R n){e:cf}(bc:e.ne=30- (n:Int))
theorem M3{y:aa×ah}(h:y.2.2.2.2.2.1≠0):C6 R y=some y.2:=by simp_all[C6]
include bn bc
theorem anc{r:aa}{pd:ao}{st:ah}(h:cD e r pd)(E:gg e r pd st):bM false e r (qj (aS true n) r pd) (λst=>st) (λ_ _ _=>True) (fixF (H5 R (C6 R)) bB (ij,st)):=by
 rw[am8];refine bM.rep (en:=λ_ r pd (x:aa×ah)=>x.1=ij/\gg e r pd x.2) (λk s r pd x l i F hk=>?_) bB () r pd _ (v7 h) h ⟨rfl,E⟩;obtain⟨W,x⟩:=x;obtain⟨rfl,i⟩:=i;dsimp only at i
 have g:∀y:aa×ah,(y.2.2.2.2.2.1≠0\/y.1≠ij)->k y=C6 R y:=by
  intro y bx;obtain⟨k',ad⟩:=F y;rw[ad,aal];rcases bx with bx|bx
  ·grind
  ·have:decide (y.1=([101,108,105,102]:aa))=false:=e1 bx;grind
 rw[aal];dsimp only;rw[i.eta.2.2.2.2.1,decide_eq_true (show(ij:aa)=[101,108,105,102] from rfl)];simp only[bz,aK];have d:∀{u:aa}{m:ao},M0 (aS true n) s r pd= .ok (.inl ()) u m->u.length<r.length:=λG=>am9 (s':=()) G
 rw[am_ (l.nl.ia l.sfx)] at d⊢;refine bM.iC (C:=cP _ r) c3.k (CY bn bc (c:= .rG) rfl (by simp) (FP Z3 MY) (by decide) l i) (λa r1 aD b H s1 o z X=>?_) (λop nd ds b _ p=>?_) (λb q=>?_)
 ·rw[aM H] at d;rw[z.eta.2.2.2.2.1];simp only[bz,aK];rw[anb (o.nl.ia o.sfx)] at d⊢;unfold Tp at d⊢;have I:=(CY bn bc (c:= .qi) (x:=xB) rfl (by simp) (λt Y=>by grind[Tn]) (by decide) o z).mono s1;refine bM.iC (C:=cP _ r) c3.k I (λa2 J K f L s2 v j M=>?_) (λop nd ds f _ A=>?_) (λf B=>?_)
  ·rw[aM L] at d;obtain⟨rfl, -,N, -⟩:=M;obtain⟨w,O,Z,hK,P⟩:=Tn _ N;cases O;rcases P with sK|sK|sK
   ·rw[sK] at d⊢;rw[bh rfl] at d⊢;have hl:=d rfl;exact bM.inl hl (hk () J K f s2 v hl ⟨sK,j⟩)
   ·rw[sK,aP (by decide),bh rfl,g f (.inr (by rw[sK];decide))];unfold C6;rw[j.eta.2.2.2.2.1,sK,decide_eq_true (show(h2:aa)=[101,108,115,101] from rfl)];simp only[bz,aK];have Q:=(CY bn bc (c:= .kh) (x:=xB) rfl (by simp) (FP Z5 C5) (by decide) v j).mono s2;refine bM.iC (C:=cP _ r) c3.k Q (λa3 cx b5 D Ms S T U V=>?_) (λop nd ds D _ oP=>?_) (λD ju=>?_)
    ·exact⟨_,rfl,S,T,U,trivial⟩
    ·grind
    grind
   ·rw[sK,aP (by decide),aP (by decide),g f (.inr (by rw[sK];decide))];unfold C6;rw[sK,e1 (show¬(fa:aa)=[101,108,115,101] by decide)]
    have:∀b:Bool,(bif b then false else false)=false:=by decide
    rw[this];exact⟨_,rfl,s2,v,j,trivial⟩
  ·rw[g f (.inl (by rw[A.z.1];decide)),M3 (by rw[A.z.1];decide)];grind
  ·rw[g f (.inl (by rw[B.1];decide)),M3 (by rw[B.1];decide)];grind
 ·rw[p.z.1];simp only[show¬((1:Int)=0) by decide,bF,aU];rw[g _ (.inl (by show b.2.2.2.2.2.1≠0;rw[p.z.1];decide)),M3 (by show b.2.2.2.2.2.1≠0;rw[p.z.1];decide)];grind
 ·rw[q.1];simp only[show¬((2:Int)=0) by decide,bF,aU];rw[g _ (.inl (by show b.2.2.2.2.2.1≠0;rw[q.1];decide)),M3 (by show b.2.2.2.2.2.1≠0;rw[q.1];decide)];grind
end
theorem C7{α:Type}(m:Option α):au m (λy=>some y)=m:=by cases m<;>rfl
def y7(l:dT)(w:aa):ak Unit:=if w=[123] then ae ((l.ls .qh false).aJ [10,125]) λ_=>cZ [125]
 else if w=lV then qj l
 else if w=nz then pG l l.dl
 else if w=nA then qk l l.dl
 else ae ((l.ls .pE false).aJ eo) λ_=>iO l eo
section
variable{R:bg}{n:Nat}(bn:ow R n)(hD:kv R n){e:cf}(bc:e.ne=30- (n:Int))
noncomputable def Tr(R:bg)(x0:ah):Option ah:=
 (au (pD R x0 ([([100,111]:aa)]:bl) ([10,100,111,32,120,10,100,111,110,101]:aa)) λz=>(bif(decide (z.2.2.2.2.2.1=0)) then(au (pD R z.2 ([([100,111,110,101]:aa)]:bl) ([10,100,111,110,101]:aa)) λv=>some v.2) else some z.2))
theorem anf(R:bg)(x0:ah)(w:aa):Cf R x0 w=(bif(decide (w=([123]:aa))) then(au (pD R x0 ([([125]:aa)]:bl) ([10,125]:aa)) λz=>some z.2) else
 (bif(bif(decide (w=([119,104,105,108,101]:aa))) then(decide (w=([119,104,105,108,101]:aa))) else(decide (w=([117,110,116,105,108]:aa)))) then Tr R x0 else
 (bif(decide (w=([105,102]:aa))) then fixF (H5 R (C6 R)) bB (ij,x0) else
 (bif(decide (w=([102,111,114]:aa))) then(au (EI R x0) λy=>some y) else
 (bif(decide (w=([99,97,115,101]:aa))) then(au (EG R x0) λy=>some y) else some x0))))):=by
 unfold Cf a8;cases decide (w=([123]:aa)) with
 |true=>rfl
 |false=>cases decide (w=([119,104,105,108,101]:aa))<;>rfl
include bn bc
theorem aam{r:aa}{pd:ao}{st:ah}(h:cD e r pd)(i:gg e r pd st):bM false e r (ae (((aS true n).ls .pE false).aJ eo) (λ_=>iO (aS true n) eo) r pd) (λst=>st) (λ_ _ _=>True) (Tr R st):=by
 have j:ae (((aS true n).ls .pE false).aJ eo) (λ_=>iO (aS true n) eo) r pd=ae (ae (((aS true n).ls .pE false).aJ eo) (λ_=>sL)) (λ_=>ae (((aS true n).ls .done false).aJ (10::iN)) λ_=>cZ iN) r pd:=by unfold iO;exact am7 (by simp) Z6 wa (h.nl.ia h.sfx)
 rw[j];unfold Tr;refine bM.iC (C:=λx=>x) c3.id (CY bn bc (c:= .pE) rfl (by simp) (FP Z6 wa) (by decide) h i) (λa r1 aD b p s1 d f q=>?_) (λop nd ds b _ k=>?_) (λb l=>?_)
 ·rw[f.eta.2.2.2.2.1];simp only[bz,aK];rw[S6 (by simp) MO FQ (d.nl.ia d.sfx)];refine bM.iC (C:=λx=>x) c3.id ((CY bn bc (c:= .done) rfl (by simp) (FP MO FQ) (by decide) d f).mono s1) (λa s t g u s2 m o v=>?_) (λop nd ds g _ w=>?_) (λg y=>?_)
  ·exact⟨_,rfl,s2,m,o,trivial⟩
  ·grind
  grind
 ·rw[k.z.1];grind
 ·rw[l.1];grind
include hD
theorem ang{r:aa}{pd:ao}{st:ah}(h:cD e r pd)(b:gg e r pd st){w:aa}(j:qg w=true):bM false e r (y7 (aS true n) w r pd) (λst=>st) (λ_ _ _=>True) (Cf R st w):=by
 rw[anf];unfold y7;have f:w=lV\/w=w9\/w=Ij\/w=nz\/w=nA\/w=[123]:=by grind[qg]
 rcases f with rfl|rfl|rfl|rfl|rfl|rfl
 ·rw[aP (by decide),bh rfl];exact anc bn bc h b
 ·rw[aP (by decide),aP (by decide),aP (by decide),aP (by decide)];exact aam bn bc h b
 ·rw[aP (by decide),aP (by decide),aP (by decide),aP (by decide)];exact aam bn bc h b
 ·rw[aP (by decide),aP (by decide),bh rfl,xh];refine bM.dW (amN bn hD bc h b h.sfx) ?_;exact C7 _
 ·rw[aP (by decide),aP (by decide),aP (by decide),bh rfl,xh];refine bM.dW (am6 bn hD bc h b) ?_;exact C7 _
 ·rw[bh rfl,S6 (by simp) Z4 MZ (h.nl.ia h.sfx)];refine bM.iC (C:=λx=>x) c3.id (CY bn bc (c:= .qh) rfl (by simp) (FP Z4 MZ) (by decide) h b) (λa k l d m s2 g i o=>?_) (λop nd ds d _ p=>?_) (λd q=>?_)
  ·exact⟨_,rfl,s2,g,i,trivial⟩
  ·grind
  grind
end
def setAt(y:ah)(a:Int):ah:=(y.1,a,y.2.2.1,y.2.2.2.1,y.2.2.2.2.1,y.2.2.2.2.2.1,y.2.2.2.2.2.2.1,y.2.2.2.2.2.2.2.1,y.2.2.2.2.2.2.2.2)
noncomputable def AU(R:bg)(nm:aa):ah->Option ah:=λx=>
 (au (gA x nm ([])) λ(a:ah)=>(bif(decide (a.2.2.2.2.1=0)) then(au (Ch R (sJ a)) λ(b:ah)=>some b) else some (sJ a)))
noncomputable def aan(R:bg):ah->Option ah:=λx=>
 (au (hH x) λ(c:aa)=>(bif(decide (c=([40]:aa))) then(au (R.nQ (setAt x (W (x.2.1+1))) ([41]:aa) ([]:bl) true) λz=>(au (gA z.2 ([]) ([41]:aa)) λ(b:ah)=>AU R [40] (setAt b (W (b.2.1+1))))) else(au (lF x) λ(a:aa)=>(au (Cf R (setAt x (W (x.2.1+(a.length:Int)))) a) λ(d:ah)=>AU R a d))))
theorem anh(R:bg)(x0:ah):yF R x0=(au (yy x0 x0.2.1) λz=>
 (bif(!z.1) then
 some (z.2.1,z.2.2.1,z.2.2.2.1,x0.2.2.2.1,z.2.2.2.2.2.1,z.2.2.2.2.2.2.1,z.2.2.2.2.2.2.2.1,x0.2.2.2.2.2.2.2.1,z.2.2.2.2.2.2.2.2.2)
 else aan R (z.2.1,z.2.2.1,z.2.2.2.1,x0.2.2.2.1,z.2.2.2.2.2.1,z.2.2.2.2.2.2.1,z.2.2.2.2.2.2.2.1,x0.2.2.2.2.2.2.2.1,z.2.2.2.2.2.2.2.2.2))):=rfl
theorem aao{st:ah}{nm:aa}(h:st.2.2.2.2.1=1)(aw:nm≠[])(i:st.2.2.2.2.2.2.2.1.length<=2000000)(j:st.2.2.2.2.2.2.1.length+ep st.2.2.2.1<=1000000000):gA st nm []=some (st.1,st.2.1,st.2.2.1,st.2.2.2.1,st.2.2.2.2.1,st.2.2.2.2.2.1,st.2.2.2.2.2.2.1,[nm]++st.2.2.2.2.2.2.2.1,st.2.2.2.2.2.2.2.2):=by
 obtain⟨a,b,c,d,SJ,f,g,op,tr⟩:=st;simp only at h i j⊢;subst h;have l:=tH d
 have k:∀e,vI (a,b,c,d,1,f,g,e,tr) []=some (a,b,c,(cQ g d []).2,1,f,(cQ g d []).1,e,tr):=λe=>CS _ _ _ _ _ _ _ _ _ _ (by simp) (by omega) (by omega)
 unfold gA a8;simp only[bz,aK];simp only[aw,bF,e7,aK];rw[bZ (by grind),k,aO rfl];rfl
theorem aap{R:bg}{e:cf}{q r:aa}{nd:aa}{ds:ao}{y:ah}{nm:aa}(hm:n5 e.up q nd ds y)(i:q<:+r)(hl:q.length<r.length)(f:r<:+e.S)(j:e.S.length<=1000000)(k:nd.length+ep ds<=100*e.S.length+1000)(aw:nm≠[])(a:Int)(l:y.2.1<=a/\a<=y.2.1+1):∃c,AU R nm (setAt y a)=some c/\iD true e r nd ds c:=by
 obtain⟨ad,g,h,b,m⟩:=hm;have d:=f.length_le;have n:=b.op;unfold AU;rw[aao (st:=setAt y a) ad aw (by show y.2.2.2.2.2.2.2.1.length<=_;omega) (by show y.2.2.2.2.2.2.1.length+ep y.2.2.2.1<=_;grind),aO rfl];show∃c,(bif decide (y.2.2.2.2.1=0) then _ else _)=some c/\_
 rw[ad];simp only[show¬((1:Int)=0) by decide,decide_false,cond_false];refine⟨_,rfl,.inl ⟨ad,g,h,⟨b.s,?_,?_,b.nd,?_⟩,?_⟩⟩
 ·show ax e.S r<=a;have:ax e.S r<=ax e.S q:=by grind[ax]
  have:=b.lo;have hu:ax e.up.S q=ax e.S q:=rfl;omega
 ·show a<=_;have:=b.bf;have hu:e.up.S=e.S:=rfl;grind
 ·show([nm]++y.2.2.2.2.2.2.2.1).length<=_;grind
 ·show _<=a;have hu:e.up.S=e.S:=rfl;grind
theorem M4{R:bg}{e:cf}{q r:aa}{y:ah}{nm:aa}(hm:iQ e.up q y)(d:q<:+r)(hl:q.length<r.length)(a:Int)(f:y.2.1<=a/\a<=y.2.1+1):∃c,AU R nm (setAt y a)=some c/\iQ e r c:=by
 obtain⟨ad,b⟩:=hm;have g:=b.op;unfold AU;rw[pN (st:=setAt y a) (by show y.2.2.2.2.1≠1;omega),aO rfl];show∃c,(bif decide (y.2.2.2.2.1=0) then _ else _)=some c/\_
 rw[ad];simp only[show¬((2:Int)=0) by decide,bF,aU];refine⟨_,rfl,ad,⟨b.s,?_,?_,b.nd,?_⟩⟩
 ·show ax e.S r<=a;have:ax e.S r<=ax e.S q:=by grind[ax]
  have:=b.lo;have hu:ax e.up.S q=ax e.S q:=rfl;omega
 ·show a<=_;have:=b.bf;have hu:e.up.S=e.S:=rfl;grind
 ·show y.2.2.2.2.2.2.2.1.length<=_;omega
theorem aaq{R:bg}{e:cf}{q:aa}{pd:ao}{tr:Bool}{nm:aa}{n:Nat}(bc:e.ne=30- (n:Int))(aw:n<=30):AU R nm (e.up.st q pd tr)=Ch R (e.st q pd tr):=by
 unfold AU;rw[pN (by show(0:Int)≠1;decide),aO rfl];have h0:(e.up.st q pd tr).2.2.2.2.1=0:=rfl;rw[h0];simp only[bz,aK];have:sJ (e.up.st q pd tr)=e.st q pd tr:=by
  show(e.S,ax e.S q,W (e.ne+1-1),pd,(0:Int),(0:Int),([]:aa),([]:bl),tr)=_;have ad:e.ne+1-1=e.ne:=by omega
  rw[ad,dV (by omega) (by omega)];rfl
 grind[C7]
section
variable{R:bg}{n:Nat}(gJ:∀m,n=m+1->kv R m/\ow R m)(hD:kv R n)(aw:n<=30){e:cf}(bc:e.ne=30- (n:Int))
include gJ hD aw bc
theorem aar{r:aa}{pd:ao}{st:ah}(h:cD e r pd)(X:gg e r pd st)(ag:bq r=some r)(aF:gX (ar r)=true):bM true e r (ae ((aS true n).cp (ar r)) (λ_=>gI (a7 true n)) r pd) (λst=>st) (λ_ _ _=>True) (yF R st):=by
 obtain⟨tr,rfl,g0⟩:=X;rw[anh];unfold yy;have Y:=h.nl.ia h.sfx;cases n with
 |zero=>
  have C:decide (30<=(e.st r pd tr).2.2.1)=true:=by show decide (30<=e.ne)=true;grind
  rw[C];have aB:(aS true 0).cp (ar r) r pd= .deep r:=rfl;rw[jR aB];obtain⟨st,j,c⟩:=pQ (tr:=tr) ((e.st r pd tr).2.1) h fT;simp only[aK,sI];rw[j,aO rfl,aO rfl];exact⟨_,rfl,by cases j;exact c⟩
 |succ m=>
  obtain⟨Z,N⟩:=gJ m rfl;have C:decide (30<=(e.st r pd tr).2.2.1)=false:=by show decide (30<=e.ne)=false;grind
  rw[C];simp only[aU,n6,g8];have xr:W ((e.st r pd tr).2.2.1+1)=e.ne+1:=dV (by show-_<=e.ne+1;omega) (by grind);rw[xr];have I1:((e.st r pd tr).1,(e.st r pd tr).2.1,e.ne+1,(e.st r pd tr).2.2.2.1,(e.st r pd tr).2.2.2.2.1,(e.st r pd tr).2.2.2.2.2.1,(e.st r pd tr).2.2.2.2.2.2.1,(e.st r pd tr).2.2.2.2.2.2.2.1,(e.st r pd tr).2.2.2.2.2.2.2.2)=e.up.st r pd tr:=rfl;rw[I1];unfold aan;rw[rN h.xq,aO rfl];have O:e.up.ne=30- (m:Int):=by show e.ne+1=_;omega
  have Fw:(aS true (m+1)).cp (ar r)=(gY (aS true m) (ar r)).named (mH (ar r)):=rfl;rw[Fw];by_cases A:bt r=[40]
  ·have P:ar r= .op [40]:=(mS (by simp)).2 A;simp only[A,bz,aK];rw[P];obtain⟨q,rfl⟩:=(iq P).2.1;have f:q<:+[40]++q:=gP _ q;have hl:q.length<([40]++q).length:=by simp
   have D:=h.tL (by simp) (by decide);have k:=(h.mono f).xq;have E:setAt (e.up.st ([40]++q) pd tr) (W ((e.up.st ([40]++q) pd tr).2.1+1))=e.up.st q pd tr:=sN h.xq 1 rfl;rw[E];obtain⟨b,j,c⟩:=N.im e.up .paren false rfl O q pd (e.up.st q pd tr) k ⟨tr,rfl,λi=>absurd i D⟩;have v_:R.nQ (e.up.st q pd tr) [41] [] true=some b:=j;rw[v_,aO rfl];have o:=aI.low ((tG true m).ls .paren false) k;have F:∀x,((gY (aS true m) (.op [40])).named x) ([40]++q) pd=((ae (((aS true m).ls .paren false).aJ [41]) (λ_=>jA [41])).named x) q pd:=λx=>rfl
   have G:∀(x:aa),(ae ((gY (aS true m) (.op [40])).named x) (λ_=>gI (a7 true (m+1)))) ([40]++q) pd=ae ((ae (((aS true m).ls .paren false).aJ [41]) (λ_=>jA [41])).named x) (λ_=>gI (a7 true (m+1))) q pd:=λx=>rfl
   rw[G];have p:e.up.S=e.S:=rfl;cases hk:(aS true m).ls .paren false q pd with
   |ok a r1 aD=>
    rw[hk] at c;obtain⟨H,a2,⟨l,a3,Q⟩,e3⟩:=c;dsimp only at a3;have mP:=hk;obtain⟨cV,e6⟩:=AF true m;rw[e6] at hk;obtain⟨hT,mB⟩:=yQ (by simp) hk;have I:ar r1= .op [41]:=by grind[dE]
    obtain⟨v,rfl⟩:=(iq I).2.1;have d:(ae (((aS true m).ls .paren false).aJ [41]) (λ_=>jA [41])).named (mH (.op [40])) q pd= .ok () v aD:=by grind[ak.named,aM,pR,Fl]
    rw[aM d];have nE:gA b.2 [] [41]=some b.2:=pN (by rw[a3];show(0:Int)≠1;decide);rw[nE,aO rfl,a3];have S:v<:+[41]++v:=gP [41] v;have J:setAt (e.up.st ([41]++v) aD l) (W ((e.up.st ([41]++v) aD l).2.1+1))=e.up.st v aD l:=sN a2 1 rfl;rw[J,aaq bc aw];have sH:=a2.tL (by simp) (by decide);exact(Z2 hD bc (a2.tJ.mono S) ⟨l,rfl,λi=>absurd i sH⟩).mono (S.trans (H.trans f))
   |more op nd ds=>
    rw[hk] at c;have hb:=o _ _ _ hk;rw[p] at hb;have d:(ae (((aS true m).ls .paren false).aJ [41]) (λ_=>jA [41])).named (mH (.op [40])) q pd= .more ([40]::op) (cQ nd ds [41]).1 (cQ nd ds [41]).2:=by unfold ak.named;rw[db (sM hk)];rfl
    rw[db d];obtain⟨T,al,K⟩:=xo (e:=e.up) (nm:=[]) (x:=[41]) (r1:=q) (r0:=q) c.z fT k.sfx (.inl rfl) (by grind) k.b0 (by simp);rw[al,aO rfl];have aai:=AI [41] nd ds;have s:=K.2.2.2.1.bf;have j1:=K.2.2.2.1.lo;have t:=f.length_le;have hle:=h.sfx.length_le;have U:0<=ax e.up.S q:=by grind[ax]
    have V:=h.b0;rw[p] at s;have y:W (T.2.1+1)=T.2.1+1:=dV (by omega) (by omega);rw[y];exact aap K f hl h.sfx h.b0 (by grind) (by simp) _ ⟨by omega,by omega⟩
   |bad u=>
    rw[hk] at c;have d:(ae (((aS true m).ls .paren false).aJ [41]) (λ_=>jA [41])).named (mH (.op [40])) q pd= .bad u:=by grind[ak.named,gZ,uW]
    rw[gZ d,rO c,aO rfl];have g:iQ e.up q b.2:=c;have s:=g.2.bf;have j1:=g.2.lo;have hle:=h.sfx.length_le;have t:=f.length_le;have U:0<=ax e.up.S q:=by grind[ax]
    have V:=h.b0;rw[p] at s;have y:W (b.2.2.1+1)=b.2.2.1+1:=dV (by omega) (by omega);rw[y];exact M4 g f hl _ ⟨by omega,by omega⟩
   |deep u=>
    rw[hk] at c;have d:(ae (((aS true m).ls .paren false).aJ [41]) (λ_=>jA [41])).named (mH (.op [40])) q pd= .deep u:=by grind[ak.named,jR,uX]
    rw[jR d,rO c,aO rfl];have g:iQ e.up q b.2:=c;have s:=g.2.bf;have j1:=g.2.lo;have hle:=h.sfx.length_le;have t:=f.length_le;have U:0<=ax e.up.S q:=by grind[ax]
    have V:=h.b0;rw[p] at s;have y:W (b.2.2.1+1)=b.2.2.1+1:=dV (by omega) (by omega);rw[y];exact M4 g f hl _ ⟨by omega,by omega⟩
  ·have ast:ar r≠ .op [40]:=λi=>A ((mS (by simp)).1 i);simp only[A,bF,aU];rw[v8 h.xq,aO rfl]
   obtain⟨w,z,L⟩:∃w,ar r= .word w true/\qg w=true:=by unfold gX at aF;grind
   have B:w≠[]/\w.all gv=true:=by
    have gR:w=lV\/w=w9\/w=Ij\/w=nz\/w=nA\/w=[123]:=by grind[qg]
    rcases gR with rfl|rfl|rfl|rfl|rfl|rfl<;>decide
   have aB:=(rM Y B.1 B.2).2 z;rw[aB,z];have hR:=(qp z).1;have l8:=(qp z).2;obtain⟨q,rfl⟩:=hR;have f:q<:+w++q:=gP _ q;have hl:q.length<(w++q).length:=by grind[List.length_pos_iff]
   have D:=h.tL B.1 l8;have k:=(h.mono f).xq;have E:setAt (e.up.st (w++q) pd tr) (W ((e.up.st (w++q) pd tr).2.1+(w.length:Int)))=e.up.st q pd tr:=sN h.xq w.length rfl;rw[E];obtain⟨b,j,c⟩:=ang N Z O k (st:=e.up.st q pd tr) ⟨tr,rfl,λi=>absurd i D⟩ L;rw[j,aO rfl];have F:(gY (aS true m) (.word w true)) (w++q) pd=y7 (aS true m) w q pd:=by show ae (bV w.length) (λ_=>y7 (aS true m) w) (w++q) pd=_;rw[aM (show bV w.length (w++q) pd= .ok () q pd from by simp[bV])]
   have o:=d_.kind (tG true m) (r:=w++q) (pd:=pd) (by omega);rw[z,F] at o;have p:e.up.S=e.S:=rfl;have vV:=h.jO;have M:setAt b b.2.1=b:=rfl;cases hk:y7 (aS true m) w q pd with
   |ok a r1 aD=>
    rw[hk] at c;obtain⟨H,a2,⟨l,a3,Q⟩,e3⟩:=c;have d:((gY (aS true m) (.word w true)).named (mH (.word w true))) (w++q) pd= .ok () r1 aD:=by grind[ak.named]
    rw[aM d];dsimp only at a3;rw[a3,aaq bc aw];exact(Z2 hD bc a2.tJ ⟨l,rfl,Q⟩).mono (H.trans f)
   |more op nd ds=>
    rw[hk] at c o;simp only[d_] at o;have d:((gY (aS true m) (.word w true)).named (mH (.word w true))) (w++q) pd= .more (w::op) nd ds:=by unfold ak.named;rw[F,hk];rfl
    rw[db d];have g:iD false e.up q nd ds b:=c;have:=aap (R:=R) (nm:=w) g.z f hl h.sfx h.b0 (by omega) B.1 b.2.1 ⟨by omega,by omega⟩;rw[M] at this;exact this
   |bad u=>
    rw[hk] at c;have d:((gY (aS true m) (.word w true)).named (mH (.word w true))) (w++q) pd= .bad u:=by grind[ak.named]
    rw[gZ d];have g:iQ e.up q b:=c;have:=M4 (R:=R) (nm:=w) g f hl b.2.1 ⟨by omega,by omega⟩;rw[M] at this;exact this
   |deep u=>
    rw[hk] at c;have d:((gY (aS true m) (.word w true)).named (mH (.word w true))) (w++q) pd= .deep u:=by grind[ak.named]
    rw[jR d];have g:iQ e.up q b:=c;have:=M4 (R:=R) (nm:=w) g f hl b.2.1 ⟨by omega,by omega⟩;rw[M] at this;exact this
end
noncomputable def q9:ah->Option ah:=λx=>
 (au (gA x ([102,40,41]:aa) ([])) λ(a:ah)=>some (sJ a))
theorem anm{e:cf}{q r:aa}{nd:aa}{ds:ao}{y:ah}(hm:n5 e.up q nd ds y)(k:q<:+r)(hl:q.length<r.length)(f:r<:+e.S)(l:e.S.length<=1000000)(m:nd.length+ep ds<=100*e.S.length+1000):∃b,q9 y=some b/\iD true e r nd ds b:=by
 obtain⟨ad,g,h,a,c⟩:=hm;have d:=f.length_le;have n:=a.op;have hu:e.up.S=e.S:=rfl;have i:ax e.up.S q=ax e.S q:=rfl;unfold q9;rw[aao (st:=y) ad (by simp) (by omega) (by grind),aO rfl];have o:ax e.S r<=ax e.S q:=by grind[ax]
 have j1:=a.lo;have j:=a.bf;rw[hu] at j c;refine⟨_,rfl,.inl ⟨ad,g,h,⟨a.s,?_,?_,a.nd,?_⟩,c⟩⟩
 ·show ax e.S r<=y.2.1;omega
 ·show y.2.1<=_;omega
 ·show([[102,40,41]]++y.2.2.2.2.2.2.2.1).length<=_;grind
theorem aat{e:cf}{q r:aa}{y:ah}(hm:iQ e.up q y)(b:q<:+r):∃a,q9 y=some a/\iQ e r a:=by unfold q9;rw[rO hm,aO rfl];exact⟨_,rfl,(iQ.mono (e:=e) ⟨hm.1,hm.2.tJ.sJ⟩ b)⟩
theorem ann{e:cf}{q:aa}{pd:ao}{tr:Bool}{n:Nat}(bc:e.ne=30- (n:Int))(aw:n<=30):sJ (e.up.st q pd tr)=e.st q pd tr:=by
 show(e.S,ax e.S q,W (e.ne+1-1),pd,(0:Int),(0:Int),([]:aa),([]:bl),tr)=_;have ad:e.ne+1-1=e.ne:=by omega
 rw[ad,dV (by omega) (by omega)];rfl
theorem aau{e:cf}{q:aa}{pd:ao}{tr:Bool}{n:Nat}(bc:e.ne=30- (n:Int))(aw:n<=30):q9 (e.up.st q pd tr)=some (e.st q pd tr):=by unfold q9;rw[pN (by show(0:Int)≠1;decide),aO rfl,ann bc aw]
theorem ano{e:cf}{pd:ao}{n:Nat}(bc:e.ne=30- (n:Int))(aw:n<=30):q9 (e.up.tt pd)=some (e.tt pd):=by grind[xm,aau]
noncomputable def Tt(R:bg):ah->Option ah:=λa=>
 (au (gz a) λ(d:Bool)=>(bif d then(au (g5 a ([123,32,120,10,125]:aa)) λ(e:ah)=>q9 e) else(au (hH a) λ(c:aa)=>(cY ((decide (c=([40]:aa)))=false) (lF a) [] λ(f:aa)=>(cY ((decide (c=([40]:aa)))=false) (yu f) false λ(g:Bool)=>(bif(bif(decide (c=([40]:aa))) then true else g) then(au (yF R a) λ(h:ah)=>q9 h) else(au (hy a a.2.1) λ(b:ah)=>q9 (b.1,b.2.1,b.2.2.1,a.2.2.2.1,b.2.2.2.2.1,b.2.2.2.2.2.1,b.2.2.2.2.2.2.1,a.2.2.2.2.2.2.2.1,b.2.2.2.2.2.2.2.2))))))))
noncomputable def Tu(R:bg):ah->Option ah:=λx=>
 (au (gz x) λ(c:Bool)=>(bif c then(au (g5 x ([41,32,123,32,120,10,125]:aa)) λ(d:ah)=>q9 d) else(au (hH x) λ(e:aa)=>(bif(!(decide (e=([41]:aa)))) then(au (hy x x.2.1) λ(a:ah)=>q9 (a.1,a.2.1,a.2.2.1,x.2.2.2.1,a.2.2.2.2.1,a.2.2.2.2.2.1,a.2.2.2.2.2.2.1,x.2.2.2.2.2.2.2.1,a.2.2.2.2.2.2.2.2)) else(au (oi (setAt x (W (x.2.1+1)))) λ(b:ah)=>(bif(!(decide (b.2.2.2.2.1=0))) then(au (gA b ([]) ([123,32,120,10,125]:aa)) λ(f:ah)=>q9 f) else Tt R b))))))
theorem anp(R:bg)(x0:ah):EK R x0=(bif(decide (28<x0.2.2.1)) then
 (au (hy x0 x0.2.1) λ(a:ah)=>
 some (a.1,a.2.1,a.2.2.1,x0.2.2.2.1,a.2.2.2.2.1,a.2.2.2.2.2.1,a.2.2.2.2.2.2.1,x0.2.2.2.2.2.2.2.1,a.2.2.2.2.2.2.2.2))
 else
 (au (g4 (x0.1,(W (x0.2.1+1)),(W (x0.2.2.1+1)),x0.2.2.2.1,x0.2.2.2.2.1,x0.2.2.2.2.2.1,x0.2.2.2.2.2.2.1,x0.2.2.2.2.2.2.2.1,x0.2.2.2.2.2.2.2.2)) λ(b:ah)=>
 Tu R (b.1,b.2.1,b.2.2.1,x0.2.2.2.1,b.2.2.2.2.1,b.2.2.2.2.2.1,b.2.2.2.2.2.2.1,x0.2.2.2.2.2.2.2.1,b.2.2.2.2.2.2.2.2))):=rfl
noncomputable def FW(R:bg):ah->Option ah:=λa=>
 (au (gz a) λ(d:Bool)=>(bif d then g5 a ([123,32,120,10,125]:aa) else(au (hH a) λ(c:aa)=>(cY ((decide (c=([40]:aa)))=false) (lF a) [] λ(e:aa)=>(cY ((decide (c=([40]:aa)))=false) (yu e) false λ(f:Bool)=>(bif(bif(decide (c=([40]:aa))) then true else f) then yF R a else(au (hy a a.2.1) λ(b:ah)=>some (b.1,b.2.1,b.2.2.1,a.2.2.2.1,b.2.2.2.2.1,b.2.2.2.2.2.1,b.2.2.2.2.2.2.1,a.2.2.2.2.2.2.2.1,b.2.2.2.2.2.2.2.2))))))))
noncomputable def M6(R:bg):ah->Option ah:=λx=>
 (au (gz x) λ(c:Bool)=>(bif c then g5 x ([41,32,123,32,120,10,125]:aa) else(au (hH x) λ(d:aa)=>(bif(!(decide (d=([41]:aa)))) then(au (hy x x.2.1) λ(a:ah)=>some (a.1,a.2.1,a.2.2.1,x.2.2.2.1,a.2.2.2.2.1,a.2.2.2.2.2.1,a.2.2.2.2.2.2.1,x.2.2.2.2.2.2.2.1,a.2.2.2.2.2.2.2.2)) else(au (oi (setAt x (W (x.2.1+1)))) λ(b:ah)=>(bif(!(decide (b.2.2.2.2.1=0))) then gA b ([]) ([123,32,120,10,125]:aa) else FW R b))))))
theorem aav{α β:Type}(c:Bool)(a b:Option α)(k:α->Option β):au (bif c then a else b) k=bif c then au a k else au b k:=by grind
theorem anq(R:bg)(x:ah):Tt R x=au (FW R x) q9:=by unfold Tt FW;simp[sI,aav,ZO,n6]
theorem anr(R:bg)(x:ah):Tu R x=au (M6 R x) q9:=by unfold Tu M6;simp[sI,aav,n6,anq]
theorem ans{q:Bool}{e:cf}{r1 r:aa}{X:dD Unit}{y:Option ah}{n:Nat}(bc:e.ne=30- (n:Int))(aw:n<=30)(h:bM q e.up r1 X (λst=>st) (λ_ _ _=>True) y)(ad:r1<:+r)(hl:r1.length<r.length)(f:r<:+e.S)(g:e.S.length<=1000000):bM true e r X (λst=>st) (λ_ _ _=>True) (au y q9):=by
 obtain⟨b,rfl,h⟩:=h;rw[aO rfl];cases X with
 |ok a r' l=>obtain⟨i,a2,⟨tr,a3,j⟩,_⟩:=h;dsimp only at a3;subst a3;rw[aau bc aw];exact⟨_,rfl,i.trans ad,a2.tJ,⟨tr,rfl,j⟩,trivial⟩
 |more op nd ds=>
  rcases h with h|⟨_,k,d⟩
  ·have c:n5 e.up r1 nd ds b:=h;exact anm c ad hl f g (by have:=c.2.2.2.1.nd;rw[c.2.1,c.2.2.1] at this;exact this)
  ·dsimp only at d;subst k d;rw[ano bc aw];exact⟨_,rfl,.inr ⟨rfl,rfl,rfl⟩⟩
 |bad u=>exact aat h ad
 |deep u=>exact aat h ad
theorem bM.named{q:Bool}{α β:Type}{e:cf}{r0 r:aa}{pd:ao}{m:ak α}{x:aa}{pr:β->ah}{cv:α->aa->β->Prop}{y:Option β}(h:bM q e r0 (m r pd) pr cv y):bM q e r0 (m.named x r pd) pr cv y:=by unfold ak.named;cases hm:m r pd<;>rw[hm] at h<;>exact h
def FX:aa:=[41,32,123,32,120,10,125]
def y8:aa:=[123,32,120,10,125]
def Tv(l:dT):ak Unit:=ae (bN y8) λt=>if t= .eof then b3 y8 else if gX t then ae (l.cp t) λ_=>l.rd else bK
def Tw(l:dT):ak Unit:=ae (bN FX) λt=>if t= .eof then b3 FX else if t= .op [41] then ae (bV 1) λ_=>ae (cR.aJ y8) λ_=>Tv l else bK
section
variable{R:bg}{n:Nat}(gJ:∀m,n=m+1->kv R m/\ow R m)(hD:kv R n)(aw:n<=30){e:cf}(bc:e.ne=30- (n:Int))
include gJ hD aw bc
theorem ant{r:aa}{pd:ao}{st:ah}(h:cD e r pd)(f:gg e r pd st)(g:bq r=some r):bM true e r (Tv (aS true n) r pd) (λst=>st) (λ_ _ _=>True) (FW R st):=by
 unfold Tv;rw[aM (cb g)];have k:= @aar R n gJ hD aw e bc r pd st h f g;obtain⟨tr,rfl,q⟩:=f;unfold FW;rw[qz,aO rfl];by_cases b:r=[]
 ·subst b;simp only[bz,aK];obtain⟨i,a,c⟩:=uV (tr:=tr) (x:=y8) h (by decide);rw[show([123,32,120,10,125]:aa)=y8 from rfl,a];exact⟨i,rfl,c.s⟩
 ·simp only[b,bF,aU];have l:ar r≠ .eof:=λm=>b (lH.1 m);rw[aP l,rN h,aO rfl,v8 h];have o:=h.nl.ia h.sfx;have s:=ZD o;by_cases j:bt r=[40]
  ·simp only[j,bz,cY,tR,cr,aK];have aF:gX (ar r)=true:=by grind
   rw[bh aF];have p:(aS true n).rd=gI (a7 true n):=by cases n<;>rfl
   grind
  ·simp only[j,bF];rw[gf,Zu,gf];simp only[cH,aU];have d:qg (ja r)=gX (ar r):=by grind
   rw[d];by_cases aF:gX (ar r)=true
   ·rw[aF,bh rfl];have p:(aS true n).rd=gI (a7 true n):=by cases n<;>rfl
    grind
   ·rw[aP aF,Ge.2 aF];simp only[aU];obtain⟨i,a,c⟩:=pQ (tr:=tr) (e.st r pd tr).2.1 h fT;rw[a,aO rfl];exact⟨_,rfl,by cases a;exact c⟩
theorem anv{u:aa}{pd:ao}{x:ah}(h:cD e u pd)(z:C1 e u pd x):bM true e u (Tw (aS true n) u pd) (λst=>st) (λ_ _ _=>True) (M6 R x):=by
 unfold Tw M6;rcases z with⟨r,tr,p,rfl,K,i,s,L⟩|⟨p,rfl⟩
 ·rw[aM (cb p),qz,aO rfl];by_cases t:r=[]
  ·subst t;simp only[bz,aK];obtain⟨d,f,g⟩:=uV (tr:=tr) (x:=FX) i (by decide);rw[show([41,32,123,32,120,10,125]:aa)=FX from rfl,f];exact⟨d,rfl,(g.mono s).s⟩
  ·simp only[t,bF,aU];have A:ar r≠ .eof:=λj=>t (lH.1 j);rw[aP A,rN i,aO rfl];by_cases l:bt r=[41]
   ·have m:ar r= .op [41]:=(mS (by simp)).2 l;simp only[l,bz,g8,aU];rw[bh m];obtain⟨v,rfl⟩:=(iq m).2.1;have y:v<:+[41]++v:=gP [41] v;have B:=i.tL (by simp) (by decide);have C:setAt (e.st ([41]++v) pd tr) (W ((e.st ([41]++v) pd tr).2.1+1))=e.st v pd tr:=sN i 1 rfl;rw[C,aM (show bV 1 ([41]++v) pd= .ok () v pd from rfl)];have o:=i.mono y;obtain⟨M,D,b⟩:=FB o (st:=e.st v pd tr) ⟨tr,rfl,λj=>absurd j B⟩;rw[D,aO rfl];have E:=aI.low (aI.lines (c:=0)) o;have k:v<:+u:=y.trans s;cases hm:cR v pd with
    |ok a r1 aD=>rw[hm] at b;obtain⟨F,a2,a3,G,N⟩:=b;rw[aM (pR hm),a3.eta.2.2.2.2.1];simp only[bz,g8,aU];exact(ant gJ hD aw bc a2 a3 G).mono (F.trans k)
    |more op nd ds=>
     rw[hm] at b;rw[db (sM hm)];have O:=E _ _ _ hm;rcases b with b|⟨_,rfl,rfl⟩
     ·rw[b.1];simp only[show¬((1:Int)=0) by decide,bF,e7,aK];obtain⟨d,H,I⟩:=FR (q:=true) (x:=y8) o (.inl b) k (by omega) (by decide);rw[show([123,32,120,10,125]:aa)=y8 from rfl,H];exact⟨d,rfl,I⟩
     ·have J:(e.tt ds).2.2.2.2.1=0:=rfl;rw[J];simp only[bz,g8,aU];unfold FW;rw[oX,aO rfl];simp only[aK];obtain⟨d,f,g⟩:=FV (pd:=ds) (x:=y8) o (by omega) (by decide);rw[show([123,32,120,10,125]:aa)=y8 from rfl,f];exact⟨d,rfl,(g.mono k).s⟩
    |bad w=>rw[hm] at b;rw[gZ (uW hm),b.1];simp only[show¬((2:Int)=0) by decide,bF,e7,aK];rw[rO b];exact⟨_,rfl,b.mono k⟩
    |deep w=>rw[hm] at b;rw[jR (uX hm),b.1];simp only[show¬((2:Int)=0) by decide,bF,e7,aK];rw[rO b];exact⟨_,rfl,b.mono k⟩
   ·have m:ar r≠ .op [41]:=λj=>l ((mS (by simp)).1 j);simp only[l,bF,e7,aK];rw[aP m];obtain⟨d,f,g⟩:=pQ (tr:=tr) (e.st r pd tr).2.1 i s;rw[f,aO rfl];exact⟨_,rfl,by cases f;exact g⟩
 ·rw[db (op:=[]) (by rw[iB p];rfl),oX,aO rfl];simp only[aK];obtain⟨d,f,g⟩:=CX (x:=FX) h.AK (by decide);rw[show([41,32,123,32,120,10,125]:aa)=FX from rfl,f];exact⟨d,rfl,(g.mono oA).s⟩
omit gJ hD in
theorem anw(a:n<2)(r:aa)(pd:ao):lW true (js true n) r pd= .deep r:=by
 match n,a with
 |0,_=>rfl
 |1,_=>rfl
end
section
variable{R:bg}{n:Nat}(gJ:∀k m,n=m+1+k->kv R m/\ow R m)(aw:n<=30){e:cf}(bc:e.ne=30- (n:Int))
include gJ aw bc
theorem anx{u:aa}{pd:ao}{tr:Bool}(h:cD e (40::u) pd):bM true e (40::u) (lW true (js true n) (40::u) pd) (λst=>st) (λ_ _ _=>True) (EK R (e.st (40::u) pd tr)):=by
 rw[anp];by_cases i:n<2
 ·have b:decide (28<(e.st (40::u) pd tr).2.2.1)=true:=by show decide (28<e.ne)=true;grind
  rw[b,anw aw bc i];simp only[aK];obtain⟨y,c,j⟩:=pQ (tr:=tr) (e.st (40::u) pd tr).2.1 h fT;rw[c,aO rfl];exact⟨_,rfl,by cases c;exact j⟩
 ·have b:decide (28<(e.st (40::u) pd tr).2.2.1)=false:=by show decide (28<e.ne)=false;grind
  rw[b];simp only[aU]
  obtain⟨m,rfl⟩:∃m,n=m+2:=⟨n-2,by omega⟩
  have l:W ((e.st (40::u) pd tr).2.2.1+1)=e.ne+1:=dV (by show-_<=e.ne+1;omega) (by grind);rw[l];have d:u<:+40::u:=ee _ u;have o:u≠[]:=h.yX (by decide);have f:=(h.mono d).xq;obtain⟨a,p,g⟩:=xz f (st:=e.up.st u pd tr) ⟨tr,rfl,λr=>absurd r o⟩;have s:g4 ((e.st (40::u) pd tr).1,W ((e.st (40::u) pd tr).2.1+1),e.ne+1,(e.st (40::u) pd tr).2.2.2.1,(e.st (40::u) pd tr).2.2.2.2.1,(e.st (40::u) pd tr).2.2.2.2.2.1,(e.st (40::u) pd tr).2.2.2.2.2.2.1,(e.st (40::u) pd tr).2.2.2.2.2.2.2.1,(e.st (40::u) pd tr).2.2.2.2.2.2.2.2)=some a:=by rw[<-p];exact ma g4 (sN (w:=[40]) (q:=u) h.xq 1 rfl)
  rw[s,aO rfl];have t:(a.1,a.2.1,a.2.2.1,(e.st (40::u) pd tr).2.2.2.1,a.2.2.2.2.1,a.2.2.2.2.2.1,a.2.2.2.2.2.2.1,(e.st (40::u) pd tr).2.2.2.2.2.2.2.1,a.2.2.2.2.2.2.2.2)=a:=by rcases g with⟨z,A, -,rfl, -⟩|⟨-,rfl⟩<;>rfl
  rw[t,anr];have v:lW true (js true (m+2)) (40::u) pd=((Tw (aS true (m+1))).named [102,40,41]) u pd:=rfl;rw[v]
  have x:∀k,m+1=k+1->kv R k/\ow R k:=λk hk=>gJ 1 k (by omega)
  have:=anv x (gJ 0 (m+1) (by omega)).1 (by omega) (e:=e.up) (by show e.ne+1=_;omega) f g;exact(ans bc aw this d (by simp) h.sfx h.b0).named
end
def wb{X:Type}(D:ak Unit)(A:ak X)(B:aa->Bool->ak X)(E:ak X):ak X:=ae (dv D) λb=>if b then A else ae (bN []) λt=>match t with
 | .word w p=>ae (cI D) λ_=>B w p
 | .op o=>if o=[40] then bK else E
 |_=>E
noncomputable def FY(R:bg)(k:(Int×Int×Bool×ah)->Option ah)(a b:Int)(f:Bool):ah->Option ah:=λx=>
 (au (gz x) λ(e:Bool)=>(cY (e=false) (ig x) (0:UInt8) λ(h:UInt8)=>(bif(bif e then true else(decide ((h.toNat:Int)=(10:Int)))) then some x else(au (hH x) λ(d:aa)=>(bif(decide (d=([40]:aa))) then(bif(bif(bif(decide (a=1)) then(decide (b=0)) else false) then f else false) then(au (EK R x) λ(i:ah)=>some i) else(au (hy x x.2.1) λ(c:ah)=>some (c.1,c.2.1,c.2.2.1,x.2.2.2.1,c.2.2.2.2.1,c.2.2.2.2.2.1,c.2.2.2.2.2.2.1,x.2.2.2.2.2.2.2.1,c.2.2.2.2.2.2.2.2))) else(au (vK d) λ(g:Bool)=>(cY (g=false) (Ac x) false λ(j:Bool)=>(bif(bif g then true else j) then(au (B9 R x) λ(l:ah)=>k (a,(W (b+1)),f,l)) else(bif(!(decide (d=[]))) then some x else(au (qe R x) λ(z:aa×Bool×ah)=>(cY (z.2.1=true) (Ai z.1) false λ(m:Bool)=>k ((W (a+1)),b,(bif z.2.1 then m else false),z.2.2))))))))))))
theorem aaw(R:bg)(j:ah->Option ah)(k:(Int×Int×Bool×ah)->Option ah)(a b:Int)(f:Bool)(x:ah):H6 R j k (a,b,f,x)=(bif(decide (x.2.2.2.2.1=0)) then
 (au (g4 x) λ(c:ah)=>FY R k a b f (c.1,c.2.1,c.2.2.1,x.2.2.2.1,c.2.2.2.2.1,c.2.2.2.2.2.1,c.2.2.2.2.2.2.1,x.2.2.2.2.2.2.2.1,c.2.2.2.2.2.2.2.2)) else j x):=rfl
section
variable{R:bg}{n:Nat}(hD:kv R n){e:cf}(bc:e.ne=30- (n:Int))
include hD bc
theorem Tz{X:Type}{C:dD X->dD Unit}(y:c3 C){A:ak X}{B:aa->Bool->ak X}{E:ak X}(uI:∀r pd,C (E r pd)= .ok () r pd)
  {k:(Int×Int×Bool×ah)->Option ah} {a b:Int} {f:Bool} {r:aa} {pd:ao} {x:ah} (h:cD e r pd) (hx:C1 e r pd x)
  (z:∀a b f (x:ah),x.2.2.2.2.1≠0->k (a,b,f,x)=some x)
  (hA:∀r' D J,r'<:+r->cD e r' D->r'.length<r.length->gg e r' D J->bM true e r (C (A r' D)) (λst=>st) (λ_ _ _=>True) (k (a,W (b+1),f,J)))
  (et:∀j w p r' D J,bq r=some j->ar j= .word w p->r'<:+r->cD e r' D->r'.length<r.length->gg e r' D J->bM true e r (C (B w p r' D)) (λst=>st) (λ_ _ _=>True) (k (W (a+1),b,p&&l7 w,J)))
  (bs:∀j,bq r=some j->bt j=[40]->(bif(bif(decide (a=1)) then(decide (b=0)) else false) then f else false)=false):
  bM true e r (C (wb (a7 true n) A B E r pd)) (λst=>st) (λ_ _ _=>True) (FY R k a b f x):=by
 unfold wb FY;rcases hx with⟨j,tr,K,rfl,T,d,l,L⟩|⟨K,rfl⟩
 ·rw[qz,aO rfl,FJ d];by_cases U:j=[]
  ·subst U;simp only[bz,aK,cY,tR,cr];rw[aM (uU K (by decide))];simp only[eB,cr];rw[aM (cb L)];show bM true e r (C (E [] pd)) _ _ _;rw[uI];exact⟨_,rfl,l,d,⟨tr,rfl,T⟩,trivial⟩
  ·rw[e1 U,gf];simp only[cH,aU];have pM:ar j≠ .eof:=λV=>U (lH.1 V);cases j with
   |nil=>grind
   |cons c t=>
    simp only[zk,pK];have P:=MD (c::t);have Q:eZ (bt ((c::t).dropWhile ca))=false->ae (dv (a7 true n)) (λb=>if b then A else ae (bN []) λt=>match t with
      | .word w p=>ae (cI (a7 true n)) λ_=>B w p
      | .op o=>if o=[40] then bK else E
      |_=>E) r pd=(match ar (c::t) with
      | .word w p=>ae (cI (a7 true n)) λ_=>B w p
      | .op o=>if o=[40] then bK else E
      |_=>E) (c::t) pd:=by
     intro V;rw[aM (uU K V)];simp only[eB,cr];rw[aM (cb L)]
    have fD:hH (e.st (c::t) pd tr)=some (bt (c::t)):=rN d;rcases I5 (b:=c) (t:=t) with⟨cm,M⟩|⟨cm,M,N⟩|⟨cm,M,N⟩
    ·subst cm;have aG:eZ (bt ((10::t).dropWhile ca))=false:=by rfl
     rw[Q aG,M];simp only[bz,aK];rw[uI];exact⟨_,rfl,l,d,⟨tr,rfl,T⟩,trivial⟩
    ·simp only[cm,bF,aU];rw[fD,aO rfl];by_cases H:bt (c::t)=[40]
     ·have aG:eZ (bt ((c::t).dropWhile ca))=false:=by
       have aF:c=40:=by
        have gB:ar (c::t)= .op [40]:=by grind
        obtain⟨v,ay⟩:=(iq gB).2.1;grind
       subst aF;rfl
      rw[Q aG,N,H,bs (c::t) K H];simp only[bz,aK,aU,cH];show bM true e r (C (.bad (c::t))) _ _ _;rw[y.bad];obtain⟨aR,aZ,bk⟩:=pQ (tr:=tr) (e.st (c::t) pd tr).2.1 d l;rw[aZ,aO rfl];exact⟨_,rfl,by cases aZ;exact bk⟩
     ·simp only[H,bF,aU];rw[Fy,aO rfl,SP d,gf];cases m:eZ (bt ((c::t).dropWhile ca)) with
      |true=>
       rw[m] at P;have F:(bif eZ (bt (c::t)) then true else if eZ (bt (c::t))=false then(decide ((c::t).dropWhile ca≠c::t)&&true) else false)=true:=by grind
       rw[F];simp only[aK];have Mv:dv (a7 true n) r pd=dv (a7 true n) (c::t) pd:=by simp_all[dv,ae,fN]
       have Y:ae (dv (a7 true n)) (λb=>if b then A else ae (bN []) λt=>match t with
         | .word w p=>ae (cI (a7 true n)) λ_=>B w p
         | .op o=>if o=[40] then bK else E
         |_=>E) r pd=ae (dv (a7 true n)) (λb=>if b then A else ae (bN []) λt=>match t with
         | .word w p=>ae (cI (a7 true n)) λ_=>B w p
         | .op o=>if o=[40] then bK else E
         |_=>E) (c::t) pd:=by
        grind[ae]
       rw[Y];refine bM.iC y ((S2 hD bc (tr:=tr) d L m).mono l) (λvd r1 aD s IX s1 v1 gF Z=>?_) (λop nd ds s _ O=>?_) (λs g=>?_)
       ·subst Z;rw[bh rfl];grind[sz,l_]
       ·exact⟨s,z _ _ _ _ (by rw[O.z.1];decide),O.up⟩
       ·exact⟨s,z _ _ _ _ (by rw[g.1];decide),g⟩
      |false=>
       rw[m] at P;have F:(bif eZ (bt (c::t)) then true else if eZ (bt (c::t))=false then(decide ((c::t).dropWhile ca≠c::t)&&false) else false)=false:=by grind
       rw[F,Q m,N];simp only[M,H,aU,bF,e7,aK,cr];rw[uI];exact⟨_,rfl,l,d,⟨tr,rfl,T⟩,trivial⟩
    ·simp only[cm,bF,aU];rw[fD,aO rfl];have H:¬bt (c::t)=[40]:=by grind
     simp only[H,bF,aU];rw[Fy,aO rfl,SP d,gf];cases m:eZ (bt ((c::t).dropWhile ca)) with
     |true=>
      rw[m] at P;have F:(bif eZ (bt (c::t)) then true else if eZ (bt (c::t))=false then(decide ((c::t).dropWhile ca≠c::t)&&true) else false)=true:=by grind
      rw[F];simp only[aK];have Mv:dv (a7 true n) r pd=dv (a7 true n) (c::t) pd:=by simp_all[dv,ae,fN]
      have Y:ae (dv (a7 true n)) (λb=>if b then A else ae (bN []) λt=>match t with
        | .word w p=>ae (cI (a7 true n)) λ_=>B w p
        | .op o=>if o=[40] then bK else E
        |_=>E) r pd=ae (dv (a7 true n)) (λb=>if b then A else ae (bN []) λt=>match t with
        | .word w p=>ae (cI (a7 true n)) λ_=>B w p
        | .op o=>if o=[40] then bK else E
        |_=>E) (c::t) pd:=by
       grind[ae]
      rw[Y];refine bM.iC y ((S2 hD bc (tr:=tr) d L m).mono l) (λvd r1 aD s IX s1 v1 gF Z=>?_) (λop nd ds s _ O=>?_) (λs g=>?_)
      ·subst Z;rw[bh rfl];grind[sz,l_]
      ·exact⟨s,z _ _ _ _ (by rw[O.z.1];decide),O.up⟩
      ·exact⟨s,z _ _ _ _ (by rw[g.1];decide),g⟩
     |false=>
      rw[m] at P;have F:(bif eZ (bt (c::t)) then true else if eZ (bt (c::t))=false then(decide ((c::t).dropWhile ca≠c::t)&&false) else false)=false:=by grind
      rw[F,Q m,N];simp only[M,aU,bz,g8];have gR:cW (c::t)=false:=(yU L N).2;obtain⟨⟨g,e8,G⟩,hb,u⟩:=FH hD bc (tr0:=tr) d;have S:G.1=e.S->g.length<=1000000:=λag=>lL (S0 d ag hb).1 h.b0;rw[hb,aO rfl];dsimp only at u⊢;cases hm:cI (a7 true n) (c::t) pd with
      |ok anz r1 aD=>rw[hm] at u;obtain⟨cS,a2,a3, -,bO,e3⟩:=u;rw[aM hm];have I:=(yT g (S a3.eta.1)).2;grind[vP,l_,gf]
      |more op nd ds=>rw[hm] at u;have i:iD false e (c::t) nd ds G:=u;have I:=(yT g (S i.z.2.2.2.1.s)).2;rw[db hm,y.more,I,gf,z _ _ _ _ (by rw[i.z.1];decide)];exact⟨G,rfl,(i.mono l).up⟩
      |bad q=>rw[hm] at u;have i:iQ e (c::t) G:=u;have I:=(yT g (S i.2.s)).2;rw[gZ hm,y.bad,I,gf,z _ _ _ _ (by rw[i.1];decide)];exact⟨G,rfl,i.mono l⟩
      |deep q=>rw[hm] at u;have i:iQ e (c::t) G:=u;have I:=(yT g (S i.2.s)).2;rw[jR hm,y.deep,I,gf,z _ _ _ _ (by rw[i.1];decide)];exact⟨G,rfl,i.mono l⟩
 ·have E5:dv (a7 true n) r pd= .more [] [] pd:=by
   unfold dv;have:fN r pd= .more [] [] pd:=by unfold fN;rw[K];rfl
   grind[db]
  rw[db E5,y.more,oX,aO rfl];simp only[cY,tR,cr,aK];exact⟨_,rfl,.inr ⟨rfl,rfl,rfl⟩⟩
end
def y_(D:ak Unit):Unit->ak (Unit⊕Unit):=λ_=>wb D (aY (.inl ())) (λ_ _=>aY (.inl ())) (aY (.inr ()))
theorem Jg(D:ak Unit):hg true D=b7 (y_ D) ():=by unfold hg y_ wb;grind
structure FZ(a b:Int)(f:Bool)(r:aa):Prop where
 g:1<=b\/2<=a\/(a=1/\f=false)
 a0:0<=a
 aax:0<=b
 anA:a+r.length<=1000001
 anB:b+r.length<=1000001
theorem FZ.no{a b:Int}{f:Bool}{r:aa}(h:FZ a b f r):(bif(bif(decide (a=1)) then(decide (b=0)) else false) then f else false)=false:=by obtain⟨g,a0,aax,_,_⟩:=h;grind
theorem F0{a:Int}(h0:0<=a)(h:a<=1000001):W (a+1)=a+1:=dV (by omega) (by omega)
noncomputable abbrev uY(R:bg):((Int×Int×Bool×ah)->Option ah)->(Int×Int×Bool×ah)->Option ah:=H6 R (λx=>some x)
section
variable{R:bg}{n:Nat}(hD:kv R n){e:cf}(bc:e.ne=30- (n:Int))
theorem F1{r:aa}{pd:ao}{x y:ah}(a:C1 e r pd y)(b:gg e r pd x):(y.1,y.2.1,y.2.2.1,x.2.2.2.1,y.2.2.2.2.1,y.2.2.2.2.2.1,y.2.2.2.2.2.2.1,x.2.2.2.2.2.2.2.1,y.2.2.2.2.2.2.2.2)=y:=by obtain⟨tr,rfl,_⟩:=b;rcases a with⟨c,d, -,rfl, -⟩|⟨-,rfl⟩<;>rfl
theorem TA{k:(Int×Int×Bool×ah)->Option ah}{a b:Int}{f:Bool}{r:aa}{pd:ao}{x:ah}(h:cD e r pd)(c:gg e r pd x):∃y,C1 e r pd y/\uY R k (a,b,f,x)=FY R k a b f y:=by obtain⟨y,ad,d⟩:=xz h c;refine⟨y,d,?_⟩;show H6 R (λx=>some x) k (a,b,f,x)=_;rw[aaw,c.eta.2.2.2.2.1];simp only[bz,aK];rw[ad,aO rfl,F1 d c]
theorem aay{k:(Int×Int×Bool×ah)->Option ah}{a b:Int}{f:Bool}{x:ah}(h:x.2.2.2.2.1≠0):uY R k (a,b,f,x)=some x:=by simp_all[aaw]
include hD bc
theorem aaz{N:Nat}{a b:Int}{f:Bool}{r:aa}{pd:ao}{x:ah}(u:r.length+1<N)(h:cD e r pd)(c:gg e r pd x)(bs:FZ a b f r):bM true e r (hg true (a7 true n) r pd) (λst=>st) (λ_ _ _=>True) (fixF (uY R) N (a,b,f,x)):=by
 rw[Jg];refine bM.rep (en:=λ_ r pd (y:Int×Int×Bool×ah)=>gg e r pd y.2.2.2/\FZ y.1 y.2.1 y.2.2.1 r) (λk s r pd y t l v hk=>?_) N () r pd _ u h ⟨c,bs⟩;obtain⟨a,b,f,x⟩:=y;obtain⟨c,bs⟩:=l;dsimp only at c bs
 have z:∀a b f (x:ah),x.2.2.2.2.1≠0->k (a,b,f,x)=some x:=by intro a b f x c;obtain⟨k',ad⟩:=v (a,b,f,x);grind[aay]
 obtain⟨y,l,he⟩:=TA (R:=R) (k:=k) (a:=a) (b:=b) (f:=f) t c;rw[he];have E:=bs.anB;have A:=bs.anA;have d:=bs.a0;have i:=bs.aax;refine Tz hD bc (C:=cP (y_ (a7 true n)) r) c3.k (λ_ _=>rfl) t l z (λr' m B s1 o j q=>?_) (λD w p r' m B F G s1 o j q=>?_) (λD _ _=>bs.no)
 ·refine bM.inl j (hk () r' m _ s1 o j ⟨q,?_⟩);dsimp only;rw[F0 i (by omega)];exact⟨.inl (by omega),d,by omega,by omega,by omega⟩
 ·refine bM.inl j (hk () r' m _ s1 o j ⟨q,?_⟩);dsimp only;rw[F0 d (by omega)];refine⟨?_,by omega,i,by omega,by omega⟩;rcases bs.g with g|g|g
  ·omega
  ·omega
  omega
end
def C_(lo:Option dT)(D:ak Unit):ak Unit:=ae (bN []) λt=>if t= .op [40] then ae (lW true lo) λ_=>aY () else hg true D
theorem Jh{D:ak Unit}{r:aa}{pd:ao}(c:bq r=some r)(d:eZ (bt (r.dropWhile ca))=true){b:Bool}{r1:aa}{aD:ao}(h:dv D r pd= .ok b r1 aD):b=true:=by
 have a:fN r pd= .ok (some (bt (r.dropWhile ca))) ((r.dropWhile ca).drop (bt (r.dropWhile ca)).length) pd:=by simp_all[fN]
 unfold dv at h;rw[aM a] at h;obtain⟨_,e,f,_,h⟩:=b4 h;cases h;rfl
theorem anC{D:ak Unit}{r d:aa}{pd:ao}(n:bq r=some d)(f:bq d=some d)(hl:d.length<=r.length)(hD:h3 D):hg true D r pd=hg true D d pd:=by
 have s:dv D r pd=dv D d pd:=by simp_all[dv,ae,fN]
 have h:y_ D () r pd=y_ D () d pd:=by simp_all[y_,wb,ae]
 rw[Jg,cq,cq,h];unfold cP;cases hm:y_ D () d pd with
 |ok x r' t=>
  cases x with
  |inr a=>rfl
  |inl u=>
   have v:r'.length<d.length:=by
    have bs:=hm;unfold y_ wb at bs;obtain⟨b,i,j,k,c⟩:=b4 bs;cases b with
    |true=>simp only[cH] at c;cases c;exact sz hD k
    |false=>
     simp only[eB,cr] at c;have g:i=d/\j=pd:=by
      cases y:eZ (bt (d.dropWhile ca)) with
      |true=>grind[Jh]
      |false=>simp_all[uU]
     rw[g.1,g.2,aM (cb f)] at c;cases e:ar d with
     |eof=>rw[e] at c;cases c
     |line=>rw[e] at c;cases c
     |op o=>rw[e] at c;simp only at c;split at c<;>cases c
     |word w p=>rw[e] at c;simp only at c;obtain⟨_,z,A,l,m⟩:=b4 c;cases m;exact vP hD (yU f e).1 (yU f e).2 l
   grind
 |more op nd ds=>rfl
 |bad q=>rfl
 |deep q=>rfl
section
variable{R:bg}{n:Nat}(gJ:∀k m,n=m+1+k->kv R m/\ow R m)(hD:kv R n)(aw:n<=30){e:cf}(bc:e.ne=30- (n:Int))
theorem aaC{M:Nat}(c:0<M):∀a b f (x:ah),x.2.2.2.2.1≠0->fixF (uY R) M (a,b,f,x)=some x:=by
 intro a b f x d
 obtain⟨m,rfl⟩:∃m,M=m+1:=⟨M-1,by omega⟩
 grind[e4,aay]
include gJ hD aw bc
theorem anD{N:Nat}{r:aa}{pd:ao}{x:ah}(U:r.length+1<N)(h:cD e r pd)(F:gg e r pd x):bM true e r (C_ (js true n) (a7 true n) r pd) (λst=>st) (λ_ _ _=>True) (fixF (uY R) N (1,0,true,x)):=by
 obtain⟨M,rfl⟩:∃m,N=m+1:=⟨N-1,by omega⟩
 rw[e4];have D:=aaC (R:=R) (M:=M) (by omega)
 have l:∀{a b:Int}{f:Bool}{r':aa}{c:ao}{i:ah},r'.length<r.length->cD e r' c->gg e r' c i->FZ a b f r'->bM true e r' (hg true (a7 true n) r' c) (λst=>st) (λ_ _ _=>True) (fixF (uY R) M (a,b,f,i)):=λad G H I=>aaz hD bc (by omega) G H I
 generalize fixF (uY R) M=k at D l;obtain⟨y,J,he⟩:=TA (R:=R) (k:=k) (a:=1) (b:=0) (f:=true) h F;rw[he];have V:=h.b0;have hle:=h.sfx.length_le;rcases J with⟨d,tr,o,rfl,K,g,q,E⟩|⟨o,rfl⟩
 ·unfold C_;rw[aM (cb o)];by_cases s:bt d=[40]
  ·have j:ar d= .op [40]:=(mS (by simp)).2 s;rw[bh j];obtain⟨u,rfl⟩:=(iq j).2.1;have L:=anx gJ aw bc (tr:=tr) (u:=u) g;unfold FY;rw[qz,aO rfl,FJ g,e1 (by simp),gf];have O:(decide ((((40:UInt8)).toNat:Int)=(10:Int)))=false:=by decide
   have t:(([40]++u:aa)).headD 0=40:=rfl;simp only[cH,aU,t,O];rw[rN g,aO rfl,s];simp only[bz,aK];have v:ae (lW true (js true n)) (λ_=>aY ()) ([40]++u) pd=lW true (js true n) ([40]++u) pd:=Fk _ _ _;rw[v];exact bM.dW (L.mono q) (C7 _)
  ·have j:ar d≠ .op [40]:=λP=>s ((mS (by simp)).1 P);rw[aP j,Jg,cq];have W:=q.length_le;refine bM.mono ?_ q;refine Tz hD bc (C:=cP (y_ (a7 true n)) d) c3.k (λ_ _=>rfl) g (.inl ⟨d,tr,E,rfl,K,g,fT,E⟩) D (λr' c i s1 z A B=>?_) (λQ w p r' c i S T s1 z A B=>?_) (λQ S T=>?_)
   ·refine bM.inl A ?_;rw[<-Jg];refine(l (by omega) z B ?_).mono s1;rw[F0 (by omega) (by omega)];exact⟨.inl (by omega),by omega,by omega,by omega,by omega⟩
   ·refine bM.inl A ?_;rw[<-Jg];refine(l (by omega) z B ?_).mono s1;rw[F0 (by omega) (by omega)];exact⟨.inr (.inl (by omega)),by omega,by omega,by omega,by omega⟩
   grind
 ·unfold C_;rw[db (op:=[]) (nd:=[]) (ds:=pd) (by rw[iB o];rfl)];unfold FY;rw[oX,aO rfl];simp only[cY,tR,cr,aK];exact⟨_,rfl,.inr ⟨rfl,rfl,rfl⟩⟩
end
noncomputable def M8(R:bg):ah->Option ah:=λx=>
 (au (gz x) λ(e:Bool)=>(bif e then(au (g5 x ([120]:aa)) λ(f:ah)=>some f) else(au (hH x) λ(b:aa)=>(au (lF x) λ(y23:aa)=>(cY ((decide (b=([40]:aa)))=false) (yu y23) false λ(g:Bool)=>(bif(bif(decide (b=([40]:aa))) then true else g) then(au (yF R x) λ(h:ah)=>some h) else(au (ig x) λ(c:UInt8)=>(cY ((!(decide (b=[])))=true/\(decide ((c.toNat:Int)=(10:Int)))=false) (vK b) false λ(d:Bool)=>(cY ((bif(decide ((c.toNat:Int)=(10:Int))) then true else(bif(!(decide (b=[]))) then(!d) else false))=false) (Ev y23) false λ(i:Bool)=>(bif(bif(bif(decide ((c.toNat:Int)=(10:Int))) then true else(bif(!(decide (b=[]))) then(!d) else false)) then true else i) then(au (hy x x.2.1) λ(a:ah)=>some (a.1,a.2.1,a.2.2.1,x.2.2.2.1,a.2.2.2.2.1,a.2.2.2.2.2.1,a.2.2.2.2.2.2.1,x.2.2.2.2.2.2.2.1,a.2.2.2.2.2.2.2.2)) else(au (fixF (uY R) bB (0,0,false,x)) λ(j:ah)=>some j)))))))))))
theorem aaD(R:bg)(x0:ah):sq R x0=au (g4 x0) λa=>M8 R (a.1,a.2.1,a.2.2.1,x0.2.2.2.1,a.2.2.2.2.1,a.2.2.2.2.2.1,a.2.2.2.2.2.2.1,x0.2.2.2.2.2.2.2.1,a.2.2.2.2.2.2.2.2):=rfl
theorem TB{R:bg}{e:cf}{r:aa}{pd0 pd:ao}(h:cD e r pd0)(b:ep pd<=100*e.S.length+800):∃a,sq R (e.tt pd)=some a/\n5 e r (cQ [] pd [120]).1 (cQ [] pd [120]).2 a:=by rw[aaD,CR,aO rfl];obtain⟨a,d,f⟩:=FV (pd:=pd) (x:=[120]) h b (by simp);have c:((e.tt pd).1,(e.tt pd).2.1,(e.tt pd).2.2.1,(e.tt pd).2.2.2.1,(e.tt pd).2.2.2.2.1,(e.tt pd).2.2.2.2.2.1,(e.tt pd).2.2.2.2.2.2.1,(e.tt pd).2.2.2.2.2.2.2.1,(e.tt pd).2.2.2.2.2.2.2.2)=e.tt pd:=rfl;rw[c];simp_all[M8,oX,aO]
section
variable{R:bg}{n:Nat}(gJ:∀k m,n=m+1+k->kv R m/\ow R m)(hD:kv R n)(aw:n<=30){e:cf}(bc:e.ne=30- (n:Int))
include gJ hD aw bc
theorem anG{r:aa}{pd:ao}{tr:Bool}(h:cD e r pd)(v:gg e r pd (e.st r pd tr))(G:bq r=some r)(H:bt r≠[40]):bM true e r (wb (a7 true n) (hg true (a7 true n)) (λw p=>if p&&l7 w then C_ (js true n) (a7 true n) else hg true (a7 true n)) (aY ()) r pd) (λst=>st) (λ_ _ _=>True) (fixF (uY R) bB (0,0,false,e.st r pd tr)):=by
 have z:r.length+1<bB:=v7 h
 obtain⟨M,o⟩:∃m,bB=m+1:=⟨bB-1,by omega⟩
 rw[o,e4];rw[o] at z;clear o;have u:=aaC (R:=R) (M:=M) (by omega)
 have q:∀{a b:Int}{f:Bool}{r':aa}{c:ao}{d:ah},r'.length<r.length->cD e r' c->gg e r' c d->FZ a b f r'->bM true e r' (hg true (a7 true n) r' c) (λst=>st) (λ_ _ _=>True) (fixF (uY R) M (a,b,f,d)):=λad s t A=>aaz hD bc (by omega) s t A
 have g:∀{r':aa}{c:ao}{d:ah},r'.length<r.length->cD e r' c->gg e r' c d->bM true e r' (C_ (js true n) (a7 true n) r' c) (λst=>st) (λ_ _ _=>True) (fixF (uY R) M (1,0,true,d)):=λad s t=>anD gJ hD aw bc (by omega) s t
 generalize fixF (uY R) M=k at u q g;obtain⟨y,B,he⟩:=TA (R:=R) (k:=k) (a:=0) (b:=0) (f:=false) h v;rw[he];have I:=h.b0;have hle:=h.sfx.length_le;refine Tz hD bc (C:=λx=>x) c3.id (λ_ _=>rfl) h B u (λr' c d s1 i j l=>?_) (λD w p r' c d E F s1 i j l=>?_) (λD E F=>?_)
 ·refine(q j i l ?_).mono s1;rw[F0 (by omega) (by omega)];exact⟨.inl (by omega),by omega,by omega,by omega,by omega⟩
 ·rw[F0 (by omega) (by omega)];cases aB:(p&&l7 w) with
  |true=>rw[bh rfl];exact(g j i l).mono s1
  |false=>rw[aP (by simp)];exact(q j i l ⟨.inr (.inr ⟨rfl,rfl⟩),by omega,by omega,by omega,by omega⟩).mono s1
 ·rfl
theorem aaF{r:aa}{pd:ao}{st:ah}(h:cD e r pd)(H:gg e r pd st):bM true e r (fl true (js true n) (a7 true n) r pd) (λst=>st) (λ_ _ _=>True) (sq R st):=by
 rw[aaD];obtain⟨y,M,I⟩:=xz h H;rw[M,aO rfl,F1 I H];rcases I with⟨a,tr,u,rfl,J,d,i,l⟩|⟨u,rfl⟩
 ·unfold fl;rw[aM (cb u)];unfold M8;rw[qz,aO rfl];by_cases v:a=[]
  ·subst v;simp only[bz,aK];obtain⟨o,g,j⟩:=uV (tr:=tr) (x:=[120]) d (by decide);rw[g];exact⟨o,rfl,(j.mono i).s⟩
  ·simp only[v,bF,aU];have N:ar a≠ .eof:=λz=>v (lH.1 z);rw[aP N,rN d,aO rfl,v8 d,aO rfl,Zu,gf];have K:=h.nl.ia d.sfx;have W:=ZD K;have A:(bif decide (bt a=[40]) then true else if decide (bt a=[40])=false then qg (ja a) else false)=gX (ar a):=by grind
   rw[A];cases aF:gX (ar a) with
   |true=>
    simp only[aK,cH]
    have O:∀m,n=m+1->kv R m/\ow R m:=λm hm=>gJ 0 m (by omega)
    have B:=aar O hD aw bc d ⟨tr,rfl,J⟩ l aF;have P:sw (js true n) (ar a)=(aS true n).cp (ar a):=by rw[Y9]
    rw[P];exact bM.dW (B.mono i) (C7 _)
   |false=>
    simp only[aU,eB,cr];rw[FJ d,aO rfl];have C:ar a≠ .op [40]:=by grind[gX]
    have Q:bt a≠[40]:=λz=>C ((mS (by simp)).2 z);have S:=anG gJ hD aw bc d ⟨tr,rfl,J⟩ l Q;have Y:=alU K;have D:∀X:dD Unit,X= .bad a->bM true e r X (λst=>st) (λ_ _ _=>True) (au (hy (e.st a pd tr) (e.st a pd tr).2.1) λ(f:ah)=>
      some (f.1,f.2.1,f.2.2.1,(e.st a pd tr).2.2.2.1,f.2.2.2.2.1,f.2.2.2.2.2.1,f.2.2.2.2.2.2.1,(e.st a pd tr).2.2.2.2.2.2.2.1,f.2.2.2.2.2.2.2.2)):=by
     rintro X rfl;obtain⟨o,g,j⟩:=pQ (tr:=tr) (e.st a pd tr).2.1 d i;rw[g,aO rfl];exact⟨_,rfl,by cases g;exact j⟩
    cases a with
    |nil=>grind
    |cons c t=>
     simp only[zk,pK];rcases I5 (b:=c) (t:=t) with⟨cm,k⟩|⟨cm,k,s⟩|⟨cm,k,s⟩
     ·subst cm;rw[k];simp only[bz,cY,tR,and_false,cr,aK];exact D _ rfl
     ·rw[s];have E:rF (ja (c::t))=false:=by grind
      rw[Fy,gf,Zv,gf,E];have T:decide (bt (c::t)=[])=false:=e1 k;simp only[cm,T,bF,e7,nJ,cH,aK,aU];have F:(if(!eZ (bt (c::t)))=false then false else false)=false:=by simp
      rw[F];cases U:eZ (bt (c::t)) with
      |false=>simp only[e7,aK,eB,cr];exact D _ rfl
      |true=>
       simp only[g8,aU,cH];refine bM.dW (bM.mono ?_ i) (C7 _);have G:eZ (bt ((c::t).dropWhile ca))=true:=by grind[MD]
       have V:ae (dv (a7 true n)) (λ_=>hg true (a7 true n)) (c::t) pd=wb (a7 true n) (hg true (a7 true n)) (λw p=>if p&&l7 w then C_ (js true n) (a7 true n) else hg true (a7 true n)) (aY ()) (c::t) pd:=by
        unfold wb;cases hm:dv (a7 true n) (c::t) pd with
        |ok b r1 aD=>have:=Jh l G hm;subst this;rw[aM hm,aM hm,bh rfl]
        |more op nd ds=>grind[db]
        |bad q=>grind[gZ]
        |deep q=>grind[jR]
       grind
     ·rw[s];have E:rF (ja (c::t))=((c5 (c::t)).2&&rF (c5 (c::t)).1):=by grind
      rw[Fy,gf,Zv,gf,E];simp only[cm,k,bz,bF,g8,aU,eB,false_and,cH];cases Z:((c5 (c::t)).2&&rF (c5 (c::t)).1) with
      |true=>simp only[aK,cH];exact D _ rfl
      |false=>
       simp only[aU,eB,cr];refine bM.dW (bM.mono ?_ i) (C7 _);have V:ae (dv (a7 true n)) (λb=>if b then hg true (a7 true n) else ae (cI (a7 true n)) λ_=>
         if(c5 (c::t)).2&&l7 (c5 (c::t)).1 then ae (bN []) λt=>if t= .op [40] then ae (lW true (js true n)) λ_=>aY () else hg true (a7 true n) else hg true (a7 true n)) (c::t) pd=wb (a7 true n) (hg true (a7 true n)) (λw p=>if p&&l7 w then C_ (js true n) (a7 true n) else hg true (a7 true n)) (aY ()) (c::t) pd:=by
        unfold wb;cases hm:dv (a7 true n) (c::t) pd with
        |ok b r1 aD=>
         rw[aM hm,aM hm];cases b with
         |true=>rfl
         |false=>
          simp only[eB,cr,cH];have L:r1=c::t/\aD=pd:=by
           cases U:eZ (bt ((c::t).dropWhile ca)) with
           |true=>grind[Jh]
           |false=>simp_all[uU]
          rw[L.1,L.2,aM (cb l),s];rfl
        |more op nd ds=>grind[db]
        |bad q=>grind[gZ]
        |deep q=>grind[jR]
       grind
 ·unfold fl;rw[db (op:=[]) (by rw[iB u];rfl)];unfold M8;rw[oX,aO rfl];simp only[aK];obtain⟨o,g,j⟩:=CX (x:=[120]) h.AK (by decide);rw[g];exact⟨o,rfl,(j.mono oA).s⟩
end
structure TC(e:cf)(c8:ak Unit)(F:ah->Option ah):Prop where
 im:∀{r:aa}{pd:ao}{st:ah},cD e r pd->gg e r pd st->bM true e r (c8 r pd) (λst=>st) (λ_ _ _=>True) (F st)
 tt:∀{r:aa}{pd0 pd:ao},cD e r pd0->ep pd<=100*e.S.length+800->∃aR,F (e.tt pd)=some aR/\n5 e r (cQ [] pd [120]).1 (cQ [] pd [120]).2 aR
 sfx:∀{r:aa}{pd:ao}{a:Unit}{r':aa}{aC:ao},c8 r pd= .ok a r' aC->r'<:+r
 pb:aI 50 c8
noncomputable def M9(tst:aa->Bool)(w:Int)(F k:ah->Option ah):ah->Option ah:=λx=>
 (au (hH x) λ(b:aa)=>(bif tst b then some x else(au (oi (setAt x (W (x.2.1+w)))) λ(a:ah)=>(bif(!(decide (a.2.2.2.2.1=0))) then(au (gA a ([]) ([120]:aa)) λ(c:ah)=>some c) else(au (F a) λ(d:ah)=>k d)))))
noncomputable def xC(tst:aa->Bool)(w:Int)(F:ah->Option ah)(k:ah->Option ah):ah->Option ah:=λx=>
 (bif(decide (x.2.2.2.2.1=0)) then(au (g4 x) λ(a:ah)=>M9 tst w F k (a.1,a.2.1,a.2.2.1,x.2.2.2.1,a.2.2.2.2.1,a.2.2.2.2.2.1,a.2.2.2.2.2.2.1,x.2.2.2.2.2.2.2.1,a.2.2.2.2.2.2.2.2)) else some x)
def qA(p:Tok->Bool)(w:Nat)(c8:ak Unit):ak Unit:=b7 (λ_=>ae (bN []) λt=>if p t=true then ae (bV w) λ_=>ae (cR.aJ [120]) λ_=>ae c8 λ_=>aY (.inl ()) else aY (.inr ())) ()
section
variable{e:cf}{c8:ak Unit}{F:ah->Option ah}(di:TC e c8 F){p:Tok->Bool}{tst:aa->Bool}{w:Nat}
 (aB:∀t,p t=true->∃o,t= .op o/\o.length=w/\0<w/\tst o=false) (xl:∀r,tst (bt r)=false->p (ar r)=true) (TD:tst []=true)
include di aB xl TD
theorem aaG{r:aa}{pd:ao}{st:ah}(h:cD e r pd)(S:gg e r pd st):bM true e r (qA p w c8 r pd) (λst=>st) (λ_ _ _=>True) (fixF (xC tst w F) bB st):=by
 unfold qA;refine bM.rep (en:=λ_ r pd x=>gg e r pd x) (λk s r pd x m f E hk=>?_) bB () r pd _ (v7 h) h S
 have n:∀x:ah,x.2.2.2.2.1≠0->k x=some x:=by intro x f;obtain⟨k',ad⟩:=E x;simp_all[xC]
 have ri:∀ds,k (e.tt ds)=some (e.tt ds):=by intro ds;obtain⟨k',ad⟩:=E (e.tt ds);rw[ad];unfold xC;have t:(e.tt ds).2.2.2.2.1=0:=rfl;rw[t,CR,aO rfl];have T:((e.tt ds).1,(e.tt ds).2.1,(e.tt ds).2.2.1,(e.tt ds).2.2.2.1,(e.tt ds).2.2.2.2.1,(e.tt ds).2.2.2.2.2.1,(e.tt ds).2.2.2.2.2.2.1,(e.tt ds).2.2.2.2.2.2.2.1,(e.tt ds).2.2.2.2.2.2.2.2)=e.tt ds:=rfl;rw[T];unfold M9;rw[FK ds m.b0,aO rfl,TD];rfl
 unfold xC;rw[f.eta.2.2.2.2.1];simp only[bz,aK];obtain⟨y,U,G⟩:=xz m f;have H:=F1 G f;rw[f.eta.2.2.2.1] at H;rw[U,aO rfl,f.eta.2.2.2.1,H];unfold M9;rcases G with⟨I,tr,z,rfl,V,g,J,hS⟩|⟨z,rfl⟩
 ·rw[aM (cb z),rN g,aO rfl];cases X:tst (bt I) with
  |true=>
   have j:¬p (ar I)=true:=by intro A;obtain⟨o,ad,K,_,Y⟩:=aB _ A;have:=(iq ad).1;grind
   rw[aP j];simp only[aK];exact⟨_,rfl,J,g,⟨tr,rfl,V⟩,trivial⟩
  |false=>
   have j:=xl _ X;rw[bh j];simp only[aU];obtain⟨o,ad,K,Y,_⟩:=aB _ j;obtain⟨aV,Z,b1,dc⟩:=iq ad;obtain⟨v,rfl⟩:=Z;have L:v<:+o++v:=gP o v;have sH:=g.tL dc b1;have kH:setAt (e.st (o++v) pd tr) (W ((e.st (o++v) pd tr).2.1+(w:Int)))=e.st v pd tr:=sN g w K;have TE:bV w (o++v) pd= .ok () v pd:=by grind[bV]
   rw[kH,aM TE];have l:=g.mono L;have i:v<:+r:=L.trans J;have eO:v.length<r.length:=by grind
   obtain⟨bW,bD,d⟩:=FB l (st:=e.st v pd tr) ⟨tr,rfl,λA=>absurd A sH⟩;rw[bD,aO rfl];have hE:=aI.low (aI.lines (c:=0)) l;cases hm:cR v pd with
   |ok a r1 aD=>
    rw[hm] at d;obtain⟨M,a2,a3,bO,e3⟩:=d;rw[aM (pR hm),a3.eta.2.2.2.2.1];simp only[bz,g8,aU];refine bM.iC (C:=cP _ r) c3.k ((di.im a2 a3).mono (M.trans i)) (λanz N b5 b bJ iZ eX y2 _=>?_) (λop nd ds b _ B=>?_) (λb O=>?_)
    ·have l1:=(di.sfx bJ).length_le;have l8:=M.length_le;have P:N.length<r.length:=by omega
     exact bM.inl P (hk () N b5 b iZ eX P y2)
    ·rcases B with B|⟨_,rfl,Q⟩
     ·exact⟨b,n b (by omega),.inl B⟩
     ·subst Q;exact⟨_,ri ds,.inr ⟨rfl,rfl,rfl⟩⟩
    ·exact⟨b,n b (by rw[O.1];decide),O⟩
   |more op nd ds=>
    rw[hm] at d;rw[db (sM hm)];have Q:=hE _ _ _ hm;rcases d with d|⟨_,rfl,rfl⟩
    ·rw[d.1];simp only[show¬((1:Int)=0) by decide,bF,e7,aK];obtain⟨D,al,bd⟩:=FR (q:=true) (x:=[120]) l (.inl d) i (by omega) (by decide);rw[al];exact⟨D,rfl,bd⟩
    ·have t:(e.tt ds).2.2.2.2.1=0:=rfl;rw[t];simp only[bz,g8,aU];obtain⟨D,aZ,R⟩:=di.tt l (pd:=ds) (by omega);rw[aZ,aO rfl,n _ (by rw[R.1];decide)];exact⟨D,rfl,(R.mono i).s⟩
   |bad u=>rw[hm] at d;rw[gZ (uW hm),d.1];simp only[show¬((2:Int)=0) by decide,bF,e7,aK];rw[rO d];exact⟨_,rfl,d.mono i⟩
   |deep u=>rw[hm] at d;rw[jR (uX hm),d.1];simp only[show¬((2:Int)=0) by decide,bF,e7,aK];rw[rO d];exact⟨_,rfl,d.mono i⟩
 ·rw[db (op:=[]) (nd:=[]) (ds:=pd) (by rw[iB z];rfl),FK pd m.b0,aO rfl,TD];exact⟨_,rfl,.inr ⟨rfl,rfl,rfl⟩⟩
end
def pT(t:Tok):Bool:=decide (t= .op [124])
def qB(t:Tok):Bool:=decide (t= .op [38,38])||decide (t= .op [124,124])
theorem TF(c8:ak Unit):ff c8=ae (bN [120]) λt=>ae (if cB t [33] then bV 1 else aY ()) λ_=>ae c8 λ_=>qA pT 1 c8:=by simp[ff,qA,pT]
theorem TG(a:ak Unit):hi a=ae a λ_=>qA qB 2 a:=by simp[hi,qA,qB]
noncomputable def Na(R:bg):ah->Option ah:=λa=>fixF (xC (λo=> !(decide (o=([124]:aa)))) 1 (sq R)) bB a
noncomputable def Jj(R:bg):ah->Option ah:=λx=>
 (au (lF x) λ(b:aa)=>(bif(decide (b=([33]:aa))) then(au (sq R (setAt x (W (x.2.1+1)))) λa=>Na R a) else(au (sq R x) λa=>Na R a)))
theorem aaH(R:bg)(x0:ah):w6 R x0=au (g4 x0) λa=>Jj R (a.1,a.2.1,a.2.2.1,x0.2.2.2.1,a.2.2.2.2.1,a.2.2.2.2.2.1,a.2.2.2.2.2.2.1,x0.2.2.2.2.2.2.2.1,a.2.2.2.2.2.2.2.2):=rfl
theorem anL(R:bg)(x0:ah):EM R x0=au (w6 R x0) λa=>fixF (xC (λo=>bif(!(decide (o=([38,38]:aa)))) then(!(decide (o=([124,124]:aa)))) else false) 2 (w6 R)) bB a:=rfl
theorem F2{tst:aa->Bool}{w:Int}{F:ah->Option ah}{x:ah}(h:x.2.2.2.2.1≠0):fixF (xC tst w F) bB x=some x:=by
 obtain⟨m,hm⟩:∃m,bB=m+1:=⟨bB-1,by rw[gm]⟩
 simp_all[e4,xC]
theorem aaI{tst:aa->Bool}{w:Int}{F:ah->Option ah}{e:cf}(ds:ao)(b:e.S.length<=1000000)(c:tst []=true):fixF (xC tst w F) bB (e.tt ds)=some (e.tt ds):=by
 obtain⟨m,hm⟩:∃m,bB=m+1:=⟨bB-1,by rw[gm]⟩
 rw[hm,e4];unfold xC;have a:(e.tt ds).2.2.2.2.1=0:=rfl;rw[a,CR,aO rfl];have d:((e.tt ds).1,(e.tt ds).2.1,(e.tt ds).2.2.1,(e.tt ds).2.2.2.1,(e.tt ds).2.2.2.2.1,(e.tt ds).2.2.2.2.2.1,(e.tt ds).2.2.2.2.2.2.1,(e.tt ds).2.2.2.2.2.2.2.1,(e.tt ds).2.2.2.2.2.2.2.2)=e.tt ds:=rfl;simp_all[M9,FK,aO]
theorem TH:([33]:aa)≠[]/\([33]:aa).all gv=true:=by decide
theorem Jk(n:Nat):∀l,js true n=some l->uJ l:=by
 intro l h;cases n with
 |zero=>cases h
 |succ m=>cases h;simp[qX]
theorem anM(n:Nat):∀l,js true n=some l->yW l:=by
 intro l h;cases n with
 |zero=>cases h
 |succ m=>cases h;simp[tG]
section
variable{R:bg}{n:Nat}(gJ:∀k m,n=m+1+k->kv R m/\ow R m)(hD:kv R n)(aw:n<=30){e:cf}(bc:e.ne=30- (n:Int))
include gJ hD aw bc
theorem aaJ:TC e (fl true (js true n) (a7 true n)) (sq R) where
 im:=λh b=>aaF gJ hD aw bc h b
 tt:=λh c=>TB h c
 sfx:=by intro r pd a r' d hm;exact(aq.command (λl hl=>Jk n l hl) (l_ true n)).sfx hm
 pb:=by grind[Fv,aI.command,anM]
theorem anN{r:aa}{pd:ao}{st:ah}(h:cD e r pd)(b:gg e r pd st):bM true e r (qA pT 1 (fl true (js true n) (a7 true n)) r pd) (λst=>st) (λ_ _ _=>True) (Na R st):=by
 refine aaG (aaJ gJ hD aw bc) (λt a=>?_) (λr a=>?_) rfl h b
 ·exact⟨[124],NO a,rfl,by decide,rfl⟩
 ·have:bt r=[124]:=by grind
  exact decide_eq_true ((mS (by simp)).2 this)
theorem anO{r c:aa}{pd:ao}{tr:Bool}(d:cD e c pd)(g:c=[]->tr=false)(k:c<:+r)(z:bq c=some c):bM true e r (ae (if cB (ar c) [33] then bV 1 else aY ()) (λ_=>ae (fl true (js true n) (a7 true n)) λ_=>qA pT 1 (fl true (js true n) (a7 true n))) c pd) (λst=>st) (λ_ _ _=>True) (Jj R (e.st c pd tr)):=by
 unfold Jj;rw[v8 d,aO rfl];have l:=d.nl.ia d.sfx
 have m:∀{v:aa}{tr:Bool},cD e v pd->(v=[]->tr=false)->v<:+r->bM true e r (ae (fl true (js true n) (a7 true n)) (λ_=>qA pT 1 (fl true (js true n) (a7 true n))) v pd) (λst=>st) (λ_ _ _=>True) (au (sq R (e.st v pd tr)) λo=>Na R o):=by
  intro v tr h g p;refine bM.iC (C:=λx=>x) c3.id ((aaF gJ hD aw bc h ⟨tr,rfl,g⟩).mono p) (λa r1 aD b A s1 q s _=>?_) (λop nd ds b _ f=>?_) (λb i=>?_)
  ·exact(anN gJ hD aw bc q s).mono s1
  ·rcases f with f|⟨_,rfl,t⟩
   ·exact⟨b,F2 (by omega),.inl f⟩
   ·subst t;exact⟨_,aaI ds h.b0 rfl,.inr ⟨rfl,rfl,rfl⟩⟩
  ·exact⟨b,F2 (by rw[i.1];decide),i⟩
 by_cases aG:ja c=[33]
 ·have u:=(rM l TH.1 TH.2).1 aG;simp only[aG,bz,aK];rw[bh (by grind[cB])];obtain⟨v,rfl⟩:=(qp u).1;have j:v<:+[33]++v:=gP _ v;rw[aM (show bV 1 ([33]++v) pd= .ok () v pd from rfl)];have w:setAt (e.st ([33]++v) pd tr) (W ((e.st ([33]++v) pd tr).2.1+1))=e.st v pd tr:=sN d 1 rfl;rw[w];exact m (d.mono j) (λy=>absurd y (d.tL (by simp) (by decide))) (j.trans k)
 ·have bf:cB (ar c) [33]=false:=by grind[IZ,TH]
  simp only[aG,bF,aU];rw[aP (by grind),I7];grind
theorem aaK{r:aa}{pd:ao}{st:ah}(h:cD e r pd)(b:gg e r pd st):bM true e r (ff (fl true (js true n) (a7 true n)) r pd) (λst=>st) (λ_ _ _=>True) (w6 R st):=by
 rw[TF,aaH];obtain⟨y,g,c⟩:=xz h b;rw[g,aO rfl,F1 c b];rcases c with⟨j,tr,a,rfl,k,l,m,p⟩|⟨a,rfl⟩
 ·rw[aM (cb a)];grind[anO]
 ·rw[db (op:=[]) (by rw[iB a];rfl)];unfold Jj;rw[Tc h,aO rfl];simp only[reduceCtorEq,bF,aU];have q:=h.jO;obtain⟨d,i,f⟩:=TB (R:=R) (pd:=pd) h (by omega);rw[i,aO rfl];have:=F2 (tst:=λo=> !(decide (o=([124]:aa)))) (w:=1) (F:=sq R) (x:=d) (by rw[f.1];decide);exact⟨d,this,f.s⟩
theorem anP{r:aa}{pd0 pd:ao}(h:cD e r pd0)(c:ep pd<=100*e.S.length+800):∃a,w6 R (e.tt pd)=some a/\n5 e r (cQ [] pd [120]).1 (cQ [] pd [120]).2 a:=by rw[aaH,CR,aO rfl];have d:((e.tt pd).1,(e.tt pd).2.1,(e.tt pd).2.2.1,(e.tt pd).2.2.2.1,(e.tt pd).2.2.2.2.1,(e.tt pd).2.2.2.2.2.1,(e.tt pd).2.2.2.2.2.2.1,(e.tt pd).2.2.2.2.2.2.2.1,(e.tt pd).2.2.2.2.2.2.2.2)=e.tt pd:=rfl;rw[d];unfold Jj;rw[Tc h,aO rfl];simp only[reduceCtorEq,bF,aU];obtain⟨a,f,b⟩:=TB (R:=R) (pd:=pd) h c;rw[f,aO rfl];have:=F2 (tst:=λo=> !(decide (o=([124]:aa)))) (w:=1) (F:=sq R) (x:=a) (by rw[b.1];decide);exact⟨a,this,b⟩
theorem aaL:TC e (ff (fl true (js true n) (a7 true n))) (w6 R) where
 im:=λh b=>aaK gJ hD aw bc h b
 tt:=λh c=>anP gJ hD aw bc h c
 sfx:=by intro r pd a r' d hm;exact(aq.pipe (aq.command (λl hl=>Jk n l hl) (l_ true n))).sfx hm
 pb:=aI.pipe (aaJ gJ hD aw bc).pb
theorem anQ{r:aa}{pd:ao}{st:ah}(h:cD e r pd)(g:gg e r pd st):bM true e r (hi (ff (fl true (js true n) (a7 true n))) r pd) (λst=>st) (λ_ _ _=>True) (EM R st):=by
 rw[TG,anL];refine bM.iC (C:=λx=>x) c3.id (aaK gJ hD aw bc h g) (λa r1 aD b l s1 i j _=>?_) (λop nd ds b _ c=>?_) (λb d=>?_)
 ·refine(aaG (aaL gJ hD aw bc) (λt f=>?_) (λr f=>?_) rfl i j).mono s1
  ·unfold qB at f;grind
  ·unfold qB;rw[A3];grind[mS]
 ·rcases c with c|⟨_,rfl,k⟩
  ·exact⟨b,F2 (by omega),.inl c⟩
  ·subst k;exact⟨_,aaI ds h.b0 rfl,.inr ⟨rfl,rfl,rfl⟩⟩
 ·exact⟨b,F2 (by rw[d.1];decide),d⟩
end
noncomputable def we(a:Bool):Int×ah->Option (Int×ah):=λy=>
 (bif(bif a then(decide (y.1=0)) else false) then(au (gA y.2 ([]) ([120]:aa)) λ(b:ah)=>some (y.1,b)) else some y)
noncomputable def TI(a:aa)(k:Int×ah->Option (Int×ah))(lJ:Int):ah->Option (Int×ah):=λx=>
 (au (hH x) λ(c:aa)=>(au (gz x) λ(d:Bool)=>(cY (d=false) (ig x) (0:UInt8) λ(e:UInt8)=>(bif(bif(bif d then true else(decide ((e.toNat:Int)=(10:Int)))) then true else(bif(decide (c=a)) then(!(decide (a=[]))) else false)) then k ((W (lJ+1)),x) else(bif(bif(!(decide (c=([59]:aa)))) then(!(decide (c=([38]:aa)))) else false) then(au (hy x x.2.1) λ(b:ah)=>some ((W (lJ+1)),(b.1,b.2.1,b.2.2.1,x.2.2.2.1,b.2.2.2.2.1,b.2.2.2.2.2.1,b.2.2.2.2.2.2.1,x.2.2.2.2.2.2.2.1,b.2.2.2.2.2.2.2.2))) else k ((W (lJ+1)),setAt x (W (x.2.1+1))))))))
noncomputable def aaM(R:bg)(b:aa)(k:Int×ah->Option (Int×ah))(lJ:Int):ah->Option (Int×ah):=λx=>
 (au (EM R x) λ(c:ah)=>(bif(!(decide (c.2.2.2.2.1=0))) then some ((W (lJ+1)),c) else(au (g4 c) λ(a:ah)=>TI b k lJ (a.1,a.2.1,a.2.2.1,c.2.2.2.1,a.2.2.2.2.1,a.2.2.2.2.2.1,a.2.2.2.2.2.2.1,c.2.2.2.2.2.2.2.1,a.2.2.2.2.2.2.2.2))))
noncomputable def Nb(R:bg)(a:aa)(b:bl)(c:Bool)(j k:Int×ah->Option (Int×ah))(lJ:Int):ah->Option (Int×ah):=λx=>
 (au (gz x) λ(f:Bool)=>(bif f then(bif(!(decide (a=[]))) then(au (g5 x ([])) λ(g:ah)=>j (lJ,g)) else j (lJ,x)) else(au (ig x) λ(h:UInt8)=>(bif(decide ((h.toNat:Int)=(10:Int))) then(au (Aa x) λ(i:ah)=>k (lJ,i)) else(au (hH x) λ(d:aa)=>(au (lF x) λ(e:aa)=>(cY ((decide (0<lJ))=true/\(bif(bif(decide (d=a)) then(!(decide (a=[]))) else false) then(bif(decide (0<lJ)) then true else(!c)) else false)=false) (yt e b) false λ(l:Bool)=>(bif(bif(bif(bif(bif(decide (d=a)) then(!(decide (a=[]))) else false) then(bif(decide (0<lJ)) then true else(!c)) else false) then true else(bif(decide (0<lJ)) then l else false)) then true else(bif(decide (a=([59,59]:aa))) then(decide (e=([101,115,97,99]:aa))) else false)) then some (lJ,x) else aaM R a k lJ x))))))))
theorem TJ(R:bg)(b:aa)(a:bl)(d:Bool)(j k:Int×ah->Option (Int×ah))(lJ:Int)(x:ah):An R b a d j k (lJ,x)=(bif(decide (x.2.2.2.2.1=0)) then
 (au (g4 x) λ(c:ah)=>Nb R b a d j k lJ (c.1,c.2.1,c.2.2.1,x.2.2.2.1,c.2.2.2.2.1,c.2.2.2.2.2.1,c.2.2.2.2.2.2.1,x.2.2.2.2.2.2.2.1,c.2.2.2.2.2.2.2.2)) else j (lJ,x)):=rfl
theorem anR(R:bg)(x0:ah)(b:aa)(a:bl)(c:Bool):EN R x0 b a c=fixF (An R b a c (we c)) bB (0,x0):=rfl
def tN(c:Ctx)(no:Bool):Bool:=xp c no||(decide (c= .text)&&no)
theorem aaN(r:aa):bt r≠[119]:=by
 intro h;have ad:(lh.find? λo=>o.isPrefixOf r)=some [119]\/¬(lh.find? λo=>o.isPrefixOf r)=some [119]:=Classical.em _;rcases ad with ad|ad
 ·have:=List.mem_of_find?_eq_some ad;revert this;decide
 ·unfold bt at h;cases a:(lh.find? λo=>o.isPrefixOf r) with
  |none=>grind
  |some o=>grind
theorem anS{c:Ctx}{no:Bool}(aF:tN c no=true){r:aa}(h:c_ r)(k:r≠[])(n:Nat)(a:Bool)(i:a=(if((decide (0<(n:Int)))=true/\(bif(bif(decide (bt r=jt c)) then(!(decide (jt c=[]))) else false) then(bif(decide (0<(n:Int))) then true else(!(!no))) else false)=false) then(oW c).contains (ja r) else false)):
  (bif(bif(bif(bif(decide (bt r=jt c)) then(!(decide (jt c=[]))) else false) then(bif(decide (0<(n:Int))) then true else(!(!no))) else false) then true else(bif(decide (0<(n:Int))) then a else false)) then true else(bif(decide (jt c=([59,59]:aa))) then(decide (ja r=([101,115,97,99]:aa))) else false))=((no||decide (n>0))&&dE c (ar r)):=by
 have aw:decide (0<(n:Int))=decide (n>0):=by simp
 rw[aw] at i⊢;subst i
 have e:∀j,jt j=[119]->decide (bt r=jt j)=false:=by grind[aaN]
 have l:decide (([119]:aa)=[59,59])=false:=by decide
 have m:∀{w:aa},w≠[]->w.all gv=true->(ja r=w↔ar r= .word w true):=λad f=>rM h ad f
 have d:∀{w:aa},w≠[]->w.all gv=true->cB (ar r) w=decide (ja r=w):=λad f=>(IZ h ad f).symm
 have g:∀{o:aa},o≠[]->(ar r== .op o)=decide (bt r=o):=by grind[mS]
 cases c with
 |text=>grind[dE,lH,jt,oW]
 |paren=>have:dE .paren (ar r)=decide (bt r=[41]):=g (by simp);grind[jt,oW]
 |item=>
  have b:no=true:=by grind[tN,xp]
  subst b;have:dE .item (ar r)=(decide (bt r=[59,59])||decide (ja r=ew)):=by show(ar r== .op [59,59]||cB (ar r) ew)=_;grind[Ja]
  grind[jt,oW,ew]
 |qh=>
  have b:no=false:=by grind[tN,xp]
  subst b;have:dE .qh (ar r)=decide (ja r=[125]):=d MZ.1 MZ.2;rw[this,e _ rfl];grind[jt,oW]
 |rG=>
  have b:no=false:=by grind[tN,xp]
  subst b;have:dE .rG (ar r)=decide (ja r=ih):=d MY.1 MY.2;rw[this,e _ rfl];grind[jt,oW]
 |qi=>
  have b:no=false:=by grind[tN,xp]
  subst b;have:dE .qi (ar r)=(decide (ja r=ij)||decide (ja r=h2)||decide (ja r=fa)):=by show(cB (ar r) ij||cB (ar r) h2||cB (ar r) fa)=_;grind[Tm,Tl,C5]
  rw[this,e _ rfl];grind[jt,oW]
 |kh=>
  have b:no=false:=by grind[tN,xp]
  subst b;have:dE .kh (ar r)=decide (ja r=fa):=d C5.1 C5.2;rw[this,e _ rfl];grind[jt,oW]
 |pE=>
  have b:no=false:=by grind[tN,xp]
  subst b;have:dE .pE (ar r)=decide (ja r=gO):=d wa.1 wa.2;rw[this,e _ rfl];grind[jt,oW]
 |done=>
  have b:no=false:=by grind[tN,xp]
  subst b;have:dE .done (ar r)=decide (ja r=iN):=d FQ.1 FQ.2;rw[this,e _ rfl];grind[jt,oW]
theorem anU{c:Ctx}{no:Bool}(aF:tN c no=true){r:aa}(d:c_ r){o:aa}(a:ar r= .op o):(bif(decide (bt r=jt c)) then(!(decide (jt c=[]))) else false)=dE c (.op o):=by
 have b:=(iq a).1;have bc:=(iq a).2.2.2;subst b;cases c with
 |text=>simp[jt,dE]
 |paren=>grind[jt,dE]
 |item=>grind[jt,dE,cB]
 |_=>simp[jt,dE,cB,aaN]
theorem anV{c:Ctx}{r:aa}(h:bt r=[]):(bif(decide (bt r=jt c)) then(!(decide (jt c=[]))) else false)=false:=by grind
def tO(cV:ak Unit)(c:Ctx)(no:Bool)(n:Nat):ak Nat:=ae (cR.aJ (if no||n>0 then [] else [120])) λ_=>b7 (eK cV c no) n
theorem Nd{cV:ak Unit}{c:Ctx}{no:Bool}{n:Nat}{r r1:aa}{pd:ao}(a:bq r=some r1)(b:ar r1≠ .line):tO cV c no n r pd=b7 (eK cV c no) n r1 pd:=by unfold tO;rw[aM (pR (qt a b))]
theorem anW{cV:ak Unit}{c:Ctx}{no:Bool}{n:Nat}{r:aa}{pd:ao}(a:bq r=none):tO cV c no n r pd= .more [] (cQ [] pd (if no||n>0 then [] else [120])).1 (cQ [] pd (if no||n>0 then [] else [120])).2:=by
 unfold tO;have:cR r pd= .more [] [] pd:=by rw[qq,cq];have:gu false r pd= .more [] (cQ [] pd []).1 (cQ [] pd []).2:=db (iB a);rw[this];rfl
 grind[db,sM]
theorem anX{r t:aa}{pd:ao}(d:bq r=some (10::t)):(∃a b r' c,cR r pd= .ok a r' c/\ae iW (λ_=>cR) (10::t) pd= .ok b r' c)\/cR r pd=ae iW (λ_=>cR) (10::t) pd:=by
 have ad:cR r pd=cP gu r (ae iW (λ_=>aY (.inl true)) (10::t) pd):=by rw[qq,cq,ts d]
 have f:=(dU d).length_le;cases hm:iW (10::t) pd with
 |ok a r1 aD=>
  obtain⟨g,_⟩:=SM hm;have hl:r1.length<r.length:=by grind
  rw[ad,aM hm,aM hm];have e:cP gu r (aY (.inl true) r1 aD)=b7 gu true r1 aD:=by show(if r1.length<r.length then b7 gu true r1 aD else _)=_;grind
  rw[e,qq];rcases XY r1.length true r1 aD (cX _) with⟨r',c,⟨x,i⟩,y,j⟩|h
  ·grind
  grind
 |more op nd ds=>right;rw[ad,db hm,db hm];rfl
 |bad q=>right;rw[ad,gZ hm,gZ hm];rfl
 |deep q=>right;rw[ad,jR hm,jR hm];rfl
theorem anY{cV:ak Unit}{c:Ctx}{no:Bool}{n:Nat}{r t:aa}{pd:ao}(a:bq r=some (10::t)):tO cV c no n r pd=ae (iW.aJ (if no||n>0 then [] else [120])) (λ_=>tO cV c no n) (10::t) pd:=by
 have hk:ae (iW.aJ (if no||n>0 then [] else [120])) (λ_=>tO cV c no n)=ae ((ae iW (λ_=>cR)).aJ (if no||n>0 then [] else [120])) (λ_=>b7 (eK cV c no) n):=by rw[I6,ks];rfl
 rw[hk];unfold tO;grind[anX,ae,ak.aJ]
theorem anZ(cV:ak Unit)(c:Ctx)(no:Bool):om cV c no=tO cV c no 0:=by simp[pI,tO]
theorem aaO{r r1:aa}{k:Nat}{pd aD:ao}{a:Unit}(hk:0<k)(b:r≠[])(h:bV k r pd= .ok a r1 aD):r1.length<r.length:=by cases h;grind[List.length_pos_iff]
theorem an0{l:dT}(hl:uJ l){r:aa}{pd:ao}{a:Unit}{r':aa}{b:ao}(aF:gX (ar r)=true)(h:gY l (ar r) r pd= .ok a r' b):r'.length<r.length:=by
 have g:r≠[]:=by rintro rfl;grind[ar,gX]
 cases c:ar r with
 |eof=>rw[c] at h;cases h
 |line=>rw[c] at h;cases h
 |op o=>rw[c] at h;have d:ae (bV 1) (λ_=>ae ((l.ls .paren false).aJ [41]) λ_=>jA [41]) r pd= .ok a r' b:=h;obtain⟨_,r1,aD,ad,e⟩:=b4 d;have f:aq (ae ((l.ls .paren false).aJ [41]) λ_=>jA [41]):=((hl.ls _ _).aJ _).ae λ_=>aq.op _;have:=(f.sfx e).length_le;have:=aaO (by decide) g ad;omega
 |word w p=>
  rw[c] at h aF;have i:w≠[]:=by rintro rfl;cases p<;>simp[gX] at aF;revert aF;decide
  have d:ae (bV w.length) (λ_=>y7 l w) r pd= .ok a r' b:=h;obtain⟨_,r1,aD,ad,e⟩:=b4 d;have f:aq (y7 l w):=by unfold y7;refine aq.ite (((hl.ls _ _).aJ _).ae λ_=>aq.res _) (aq.ite (aq.cond hl) (aq.ite (aq.for_ hl hl.dl) (aq.ite (aq.xd hl hl.dl) (((hl.ls _ _).aJ _).ae λ_=>aq.body hl _))))
  have j:y7 l w r1 aD= .ok a r' b:=e;have:=(f.sfx j).length_le;have:=aaO (JD.2 i) g ad;omega
theorem an1{n:Nat}{r:aa}{pd:ao}{a:Unit}{r':aa}{v:ao}(h:fl true (js true n) (a7 true n) r pd= .ok a r' v):r'.length<r.length:=by
 have hD:=l_ true n;have j1:=Jk n;unfold fl at h;obtain⟨t,r1,aD,ad,c⟩:=b4 h;obtain⟨q,rfl,rfl⟩:=nD ad;have F:=(dU q).length_le;split at c
 ·cases c
 ·rename_i bc;split at c
  ·rename_i aF;obtain⟨_,g,i,e,d⟩:=b4 c;have a2:=((aq.mL hD).sfx d).length_le;cases n with
   |zero=>cases e
   |succ m=>
    have s:((gY (aS true m) (ar r1)).named (mH (ar r1))) r1 aD= .ok () g i:=e;have j:gY (aS true m) (ar r1) r1 aD= .ok () g i:=by grind[ak.named]
    have:=an0 (qX true m) aF j;omega
  ·have G:r1≠[]:=λx=>bc (lH.2 x);have k:bq r1=some r1:=kG _ _ _ (cX _) q;cases f:ar r1 with
   |eof=>grind
   |line=>rw[f] at c;cases c
   |op o=>
    rw[f] at c;simp only at c;split at c
    ·rename_i y;obtain⟨b,g,i,e,d⟩:=b4 c;have a2:=((aq.simple hD true).sfx d).length_le;have z:=(iq f).1;subst z;have A:=Jh k (by grind[MD]) e;subst A;have:=sz hD e;omega
    ·cases c
   |word w p=>
    rw[f] at c;simp only at c;split at c
    ·cases c
    ·obtain⟨b,g,i,e,d⟩:=b4 c;cases b with
     |true=>simp only[cH] at d;have a2:=((aq.simple hD true).sfx d).length_le;have:=sz hD e;omega
     |false=>
      simp only[eB,cr] at d;have B:g=r1/\i=aD:=by
       cases y:eZ (bt (r1.dropWhile ca)) with
       |true=>grind[Jh]
       |false=>simp_all[uU]
      obtain⟨rfl,rfl⟩:=B;obtain⟨_,H,I,s,j⟩:=b4 d;have a3:=vP hD (yU k f).1 (yU k f).2 s;split at j
      ·obtain⟨t,J,K,C,l⟩:=b4 j;obtain⟨D,rfl,rfl⟩:=nD C;have L:=(dU D).length_le;split at l
       ·rename_i M;obtain⟨_,N,O,E,u⟩:=b4 l;have P:=((dY.function (fr:=true) j1).sfx E).length_le;simp only[cH] at u;cases u;omega
       ·have:=((aq.simple hD true).sfx l).length_le;omega
      ·have:=((aq.simple hD true).sfx j).length_le;omega
theorem an2{σ α:Type}{f:σ->ak (σ⊕α)}(hf:∀s r pd x r' c,f s r pd= .ok x r' c->r'.length<=r.length):∀(N:Nat)(s:σ)(r:aa)(pd:ao)(a:α)(r':aa)(c:ao),r.length<=N->b7 f s r pd= .ok a r' c->r'.length<=r.length:=by
 intro N;induction N with
 |zero=>
  intro s r pd a r' c aw h;rw[cq] at h;cases hm:f s r pd with
  |ok x r1 aD=>
   rw[hm] at h;have:=hf _ _ _ _ _ _ hm;cases x with
   |inl s'=>simp_all[cP]
   |inr b=>cases h;omega
  |more op nd ds=>rw[hm] at h;cases h
  |bad q=>rw[hm] at h;cases h
  |deep q=>rw[hm] at h;cases h
 |succ N d=>
  intro s r pd a r' c aw h;rw[cq] at h;cases hm:f s r pd with
  |ok x r1 aD=>
   rw[hm] at h;have:=hf _ _ _ _ _ _ hm;cases x with
   |inl s'=>unfold cP at h;grind
   |inr b=>cases h;omega
  |more op nd ds=>rw[hm] at h;cases h
  |bad q=>rw[hm] at h;cases h
  |deep q=>rw[hm] at h;cases h
theorem aaP{p:Tok->Bool}{w:Nat}{c8:ak Unit}(c:aq c8){r:aa}{pd:ao}{a:Unit}{r':aa}{b:ao}(h:qA p w c8 r pd= .ok a r' b):r'.length<=r.length:=by unfold qA at h;refine an2 (λs r pd x r' b h=>?_) _ _ _ _ _ _ _ (cX _) h;have ad:aq (ae (bN []) λt=>if p t=true then ae (bV w) λ_=>ae (cR.aJ [120]) λ_=>ae c8 λ_=>(aY (.inl ()):ak (Unit⊕Unit)) else aY (.inr ())):=(aq.dN _).ae λt=>aq.ite ((aq.dm _).ae λ_=>(aq.lines.aJ _).ae λ_=>c.ae λ_=>aq.ret _) (aq.ret _);exact(ad.sfx h).length_le
theorem an3{n:Nat}{r:aa}{pd:ao}{a:Unit}{r':aa}{c:ao}(h:ff (fl true (js true n) (a7 true n)) r pd= .ok a r' c):r'.length<r.length:=by
 rw[TF] at h;have d:aq (fl true (js true n) (a7 true n)):=aq.command (λl hl=>Jk n l hl) (l_ true n);obtain⟨t,r1,aD,ad,e⟩:=b4 h;obtain⟨f,rfl,rfl⟩:=nD ad;have m:=(dU f).length_le;obtain⟨_,g,o,b,i⟩:=b4 e;have a2:g.length<=r1.length:=by
  split at b
  ·cases b;simp
  ·cases b;omega
 obtain⟨_,p,q,j,k⟩:=b4 i;have a3:=an1 j;have s:=aaP d k;omega
theorem an4{n:Nat}{r:aa}{pd:ao}{a:Unit}{r':aa}{b:ao}(h:hi (ff (fl true (js true n) (a7 true n))) r pd= .ok a r' b):r'.length<r.length:=by rw[TG] at h;have c:aq (ff (fl true (js true n) (a7 true n))):=aq.pipe (aq.command (λl hl=>Jk n l hl) (l_ true n));obtain⟨_,f,g,d,e⟩:=b4 h;have a3:=an3 d;have i:=aaP c e;omega
def tP(no:Bool)(k:Nat):aa:=if no||k>0 then [] else [120]
theorem Nf{no:Bool}{k:Nat}(st:ah):we (!no) ((k:Int),st)=if no||k>0 then some ((k:Int),st) else au (gA st [] [120]) λy=>some ((k:Int),y):=by unfold we;grind
theorem TK{e:cf}{r r0:aa}{nd:aa}{ds:ao}{st:ah}{pd0:ao}{no:Bool}{k:Nat}{q:Bool}(h0:cD e r pd0)(hm:iD false e r nd ds st)(h:r<:+r0)(a:nd.length+ep ds<=100*e.S.length+500):∃b,we (!no) ((k:Int),st)=some b/\iD q e r0 (cQ nd ds (tP no k)).1 (cQ nd ds (tP no k)).2 b.2:=by
 rw[Nf];unfold tP;split
 ·exact⟨_,rfl,(hm.mono h).up⟩
 ·obtain⟨c,d,f⟩:=FR (q:=q) (x:=[120]) h0 hm h a (by decide);simp_all[aO]
theorem aaQ{e:cf}{r:aa}{st:ah}{no:Bool}{k:Nat}(hm:iQ e r st):we (!no) ((k:Int),st)=some ((k:Int),st):=by
 rw[Nf];split
 ·rfl
 ·rw[rO hm];rfl
section
variable{R:bg}{n:Nat}(gJ:∀k m,n=m+1+k->kv R m/\ow R m)(hD:kv R n)(aw:n<=30){e:cf}(bc:e.ne=30- (n:Int)){c:Ctx}{no:Bool}(aF:tN c no=true)
noncomputable abbrev Ng(R:bg)(c:Ctx)(no:Bool):(Int×ah->Option (Int×ah))->Int×ah->Option (Int×ah):=An R (jt c) (oW c) (!no) (we (!no))
abbrev uZ(n:Nat):ak Unit:=hi (ff (fl true (js true n) (a7 true n)))
include aF
theorem aaR(h:c= .text):no=true:=by grind[tN,xp]
theorem aaS{k:Int×ah->Option (Int×ah)}{m:Nat}{r:aa}{pd0 pd:ao}(h:cD e r pd0)(i:ep pd<=100*e.S.length+400):∃b,Nb R (jt c) (oW c) (!no) (we (!no)) k (m:Int) (e.tt pd)=some b/\iD (decide (c= .text)) e r (cQ [] pd (tP no m)).1 (cQ [] pd (tP no m)).2 b.2:=by
 unfold Nb;rw[oX,aO rfl];simp only[aK];by_cases a:c= .text
 ·have d:=aaR aF a;subst a d;have hk:decide (jt .text=[])=true:=rfl;rw[hk,Nf];exact⟨((m:Int),e.tt pd),rfl,.inr ⟨rfl,rfl,rfl⟩⟩
 ·have hk:decide (jt c=[])=false:=by cases c<;>first|rfl|grind
  rw[hk,e1 a];simp only[e7,aK];obtain⟨j,f,g⟩:=FV (pd:=pd) (x:=[]) h (by omega) (by simp);rw[f,aO rfl];exact TK h g.s fT (by grind)
theorem an5{N m:Nat}{r:aa}{pd0 pd:ao}(g:0<N)(h:cD e r pd0)(a:ep pd<=100*e.S.length+400):∃b,fixF (Ng R c no) N ((m:Int),e.tt pd)=some b/\iD (decide (c= .text)) e r (cQ [] pd (tP no m)).1 (cQ [] pd (tP no m)).2 b.2:=by
 obtain⟨d,rfl⟩:∃m,N=m+1:=⟨N-1,by omega⟩
 rw[e4];show∃b,An R (jt c) (oW c) (!no) (we (!no)) _ ((m:Int),e.tt pd)=some b/\_
 rw[TJ];have f:(e.tt pd).2.2.2.2.1=0:=rfl;rw[f,CR,aO rfl];simp only[bz,aK];exact aaS aF h a
theorem an7{N:Nat}{m:Int}{st:ah}(b:0<N)(h:st.2.2.2.2.1≠0):fixF (Ng R c no) N (m,st)=we (!no) (m,st):=by
 obtain⟨a,rfl⟩:∃m,N=m+1:=⟨N-1,by omega⟩
 rw[e4];show An R (jt c) (oW c) (!no) (we (!no)) _ (m,st)=_;simp_all[TJ]
include gJ hD aw bc
theorem an8:∀(N m:Nat)(r:aa)(pd:ao)(st:ah),r.length+1<N->m+r.length<=1000001->cD e r pd->gg e r pd st->bM (decide (c= .text)) e r (tO (uZ n) c no m r pd) (λb=>b.2) (λa _ b=>b.1=(a:Int)) (fixF (Ng R c no) N ((m:Int),st)):=by
 intro N;induction N with
 |zero=>omega
 |succ N S=>
  intro m r pd st nn hm D E;have K:0<N:=by omega
  rw[e4];have TL:∀(m:Nat)(r:aa)(pd0 pd:ao),cD e r pd0->ep pd<=100*e.S.length+400->_:=λm r pd0 pd h T=>an5 (R:=R) (N:=N) (m:=m) aF K h T
  have U:∀(m:Int)(st:ah),st.2.2.2.2.1≠0->_:=λm st h=>an7 (R:=R) (N:=N) (m:=m) aF K h
  generalize fixF (Ng R c no) N=k at S TL U;show bM _ e r _ _ _ (An R (jt c) (oW c) (!no) (we (!no)) k ((m:Int),st));rw[TJ,E.eta.2.2.2.2.1];simp only[bz,aK];obtain⟨y,ua,bx⟩:=xz D E;rw[ua,aO rfl,F1 bx E];rcases bx with⟨az,tr,L,rfl,g0,i,z,hS⟩|⟨L,rfl⟩
  ·have AH:=z.length_le;unfold Nb;rw[qz,aO rfl,FJ i];by_cases V:az=[]
   ·subst V;simp only[bz,aK];rw[Nd L (by decide)];rw[cq];by_cases ht:c= .text
    ·have jT:=aaR aF ht;subst ht jT;have hk:decide (jt .text=[])=true:=rfl;have M:eK (uZ n) .text true m [] pd= .ok (.inr m) [] pd:=by unfold eK;rw[aM (cb hS)];rfl
     rw[hk,Nf,M];exact⟨_,rfl,z,i,⟨tr,rfl,g0⟩,rfl⟩
    ·have hk:decide (jt c=[])=false:=by cases c<;>first|rfl|grind
     have M:eK (uZ n) c no m [] pd= .more [] (cQ [] pd (tP no m)).1 (cQ [] pd (tP no m)).2:=by unfold eK;rw[aM (cb hS),bh (by decide),aP ht];rfl
     rw[hk,M];simp only[e7,aK];obtain⟨aR,Y,bk⟩:=uV (tr:=tr) (x:=[]) i (by decide);rw[Y,aO rfl];have:=i.jO;obtain⟨b,A,p⟩:=TK (no:=no) (k:=m) (q:=decide (c= .text)) i bk.s z (by show([]:aa).length+ep pd<=_;omega);exact⟨b,A,p⟩
   ·rw[e1 V];simp only[aU];rw[aO rfl];have pM:ar az≠ .eof:=λhh=>V (lH.1 hh);have dA:=i.nl.ia i.sfx;cases az with
    |nil=>grind
    |cons b t=>
     simp only[zk,pK];by_cases Ji:b=10
     ·
      subst Ji;simp only[bz,aK];rw[anY L];obtain⟨bW,bD,j⟩:=Zy (q:=false) (tr:=tr) i;rw[bD,aO rfl];have hE:=aI.low (aI.nl (c:=0)) i;cases s:iW (10::t) pd with
      |ok a r1 aD=>rw[s] at j;obtain⟨cS,a2,a3,_⟩:=j;rw[aM (pR s)];have j5:=(SM s).1.length_le;simp only[mv] at AH;exact(S m r1 aD bW (by omega) (by omega) a2 a3).mono (cS.trans z)
      |more op nd ds=>rw[s] at j;rw[db (sM s),U _ _ (by rw[j.z.1];decide)];have T:=hE _ _ _ s;obtain⟨F,A,p⟩:=TK (no:=no) (k:=m) (q:=decide (c= .text)) i j z (by omega);exact⟨F,A,p⟩
      |bad u=>rw[s] at j;rw[gZ (uW s),U _ _ (by rw[j.1];decide),aaQ j];exact⟨_,rfl,j.mono z⟩
      |deep u=>rw[s] at j;rw[jR (uX s),U _ _ (by rw[j.1];decide),aaQ j];exact⟨_,rfl,j.mono z⟩
     ·simp only[Ji,bF,aU];have an9:ar (b::t)≠ .line:=by rw[CT,aP Ji];grind
      rw[Nd L an9,rN i,aO rfl,v8 i,aO rfl,My _ _ (by cases c<;>decide),gf,anS aF dA V m _ rfl];rw[cq]
      have TM:∀X,(X=eK (uZ n) c no m (b::t) pd)->X=(if((no||decide (m>0))&&dE c (ar (b::t)))=true then aY (.inr m) else ae (uZ n) λ_=>ae (bN []) (il c m)) (b::t) pd:=by rintro X rfl;unfold eK;rw[aM (cb hS),aP pM]
      rw[TM _ rfl];cases asw:((no||decide (m>0))&&dE c (ar (b::t))) with
      |true=>simp only[aK,cH];exact⟨_,rfl,z,i,⟨tr,rfl,g0⟩,rfl⟩
      |false=>
       simp only[aU,eB,cr];unfold aaM;have O:W ((m:Int)+1)=((m+1:Nat):Int):=by grind[dV]
       refine bM.iC (C:=cP _ (b::t)) c3.k ((anQ gJ hD aw bc i ⟨tr,rfl,g0⟩).mono z) (λa cx d hI bJ iZ eX y2 _=>?_) (λop nd ds hI CZ Z=>?_) (λhI ju=>?_)
       ·have eO:=an4 bJ;rw[y2.eta.2.2.2.2.1];simp only[bz,g8,aU];obtain⟨kP,an_,KB⟩:=xz eX y2;rw[an_,aO rfl,F1 KB y2];unfold TI;rw[O];rcases KB with⟨P,l,fE,rfl,MU,w,xt,C0⟩|⟨fE,rfl⟩
        ·have asx:=xt.length_le;have I:P<:+r:=xt.trans iZ;have nG:P.length<(b::t).length:=by omega
         have J:=S (m+1) P d (e.st P d l) (by omega) (by omega) w ⟨l,rfl,MU⟩;rw[aM (cb fE),rN w,aO rfl,qz,aO rfl,FJ w];have asy:(no||decide (m+1>0))=true:=by simp
         cases P with
         |nil=>
          simp only[bz,cY,tR,cr,aK];rw[Nd (r1:=[]) C0 (by decide)] at J;have:cP (eK (uZ n) c no) (b::t) (il c m (ar []) [] d)=b7 (eK (uZ n) c no) (m+1) [] d:=by rfl
          rw[this];exact J.mono I
         |cons g f=>
          rw[e1 (show¬(g::f=[]) by simp),gf];simp only[cH,aU,zk,pK]
          have sG:∀(x:aa)(Nh:ao),x.length<(b::t).length->cP (eK (uZ n) c no) (b::t) (ae cR (λ_=>aY (.inl (m+1))) x Nh)=tO (uZ n) c no (m+1) x Nh:=by
           intro x Nh E;unfold tO;rw[bh (by simp)];cases B:cR x Nh with
           |ok e3 eQ lk=>rw[aM B,aM (pR B)];have br:=(aq.lines.sfx B).length_le;show(if eQ.length<(b::t).length then b7 (eK (uZ n) c no) (m+1) eQ lk else .bad eQ)=_;grind
           |more op nd ds=>rw[db B,db (sM B)];rfl
           |bad q=>rw[gZ B,gZ (uW B)];rfl
           |deep q=>rw[jR B,jR (uX B)];rfl
          have q8:∀X:dD Nat,X= .bad (g::f)->bM (decide (c= .text)) e r X (λb=>b.2) (λa _ b=>b.1=(a:Int)) (au (hy (e.st (g::f) d l) (e.st (g::f) d l).2.1) λ(G:ah)=>
            some (((m+1:Nat):Int),(G.1,G.2.1,G.2.2.1,(e.st (g::f) d l).2.2.2.1,G.2.2.2.2.1,G.2.2.2.2.2.1,G.2.2.2.2.2.2.1,(e.st (g::f) d l).2.2.2.2.2.2.2.1,G.2.2.2.2.2.2.2.2))):=by
           rintro X rfl;obtain⟨aR,Y,bk⟩:=pQ (tr:=l) (e.st (g::f) d l).2.1 w I;rw[Y,aO rfl];exact⟨_,rfl,by cases Y;exact bk⟩
          rcases I5 (b:=g) (t:=f) with⟨cm,Q⟩|⟨cm,Q,H⟩|⟨cm,Q,H⟩
          ·subst cm;simp only[bz,aK];rw[Q];show bM _ e r (cP _ (b::t) (ae cR (λ_=>aY (.inl (m+1))) (10::f) d)) _ _ _;rw[sG _ _ nG];exact J.mono I
          ·simp only[cm,bF,aU];rw[anU aF (w.nl.ia w.sfx) H,H];unfold il;dsimp only;by_cases kY:bt (g::f)=[59]\/bt (g::f)=[38]
           ·have j4:dE c (.op (bt (g::f)))=false:=by rcases kY with kY|kY<;>rw[kY]<;>cases c<;>rfl
            rw[j4,bh kY];have x4:(bif !decide (bt (g::f)=[59]) then !decide (bt (g::f)=[38]) else false)=false:=by grind
            rw[x4];simp only[aU];have RP:(bt (g::f)).length=1:=by grind
            obtain⟨v,D⟩:=(iq H).2.1;have aoa:=(iq H).2.2.1;have aob:=(iq H).2.2.2;generalize bt (g::f)=o at*;rw[<-D] at w nG I⊢;have fP:v<:+o++v:=gP o v;have kH:setAt (e.st (o++v) d l) (W ((e.st (o++v) d l).2.1+1))=e.st v d l:=sN w 1 RP;have TE:bV 1 (o++v) d= .ok () v d:=by grind[bV]
            have R7:=fP.length_le;rw[kH,aM TE,sG _ _ (by omega)];have sH:=w.tL aob aoa;exact(S (m+1) v d (e.st v d l) (by omega) (by omega) (w.mono fP) ⟨l,rfl,λhh=>absurd hh sH⟩).mono (fP.trans I)
           ·rw[aP kY];have x4:(bif !decide (bt (g::f)=[59]) then !decide (bt (g::f)=[38]) else false)=true:=by grind
            rw[x4];cases j4:dE c (.op (bt (g::f))) with
            |true=>
             simp only[aK,cH];rw[Nd C0 (by grind),cq] at J;have M:eK (uZ n) c no (m+1) (g::f) d= .ok (.inr (m+1)) (g::f) d:=by unfold eK;rw[aM (cb C0),if_neg (by grind),if_pos (by grind)];rfl
             rw[M] at J;exact J.mono I
            |false=>simp only[cond_false,cond_true,Bool.false_eq_true,if_false];exact q8 _ rfl
          ·simp only[cm,decide_false,cond_false];rw[anV Q,H,Q];simp only[cond_false];exact q8 _ rfl
        ·rw[db (op:=[]) (nd:=[]) (ds:=d) (by rw[iB fE];rfl),FK d D.b0,aO rfl,oX,aO rfl];simp only[cY,tR,cr,aK];have:=eX.jO;obtain⟨F,A,p⟩:=TL (m+1) cx d d eX (by omega);have E:tP no (m+1)=[]:=by simp[tP]
         rw[E] at p;exact⟨F,A,p.mono iZ⟩
       ·rcases Z with Z|⟨_,rfl,T⟩
        ·rw[Z.1];simp only[show¬((1:Int)=0) by decide,bF,e7,aK];exact⟨_,rfl,.inl Z⟩
        ·subst T;have i_:(e.tt ds).2.2.2.2.1=0:=rfl;rw[i_,CR,aO rfl];simp only[bz,g8,aU];have IK:((e.tt ds).1,(e.tt ds).2.1,(e.tt ds).2.2.1,(e.tt ds).2.2.2.1,(e.tt ds).2.2.2.2.1,(e.tt ds).2.2.2.2.2.1,(e.tt ds).2.2.2.2.2.2.1,(e.tt ds).2.2.2.2.2.2.2.1,(e.tt ds).2.2.2.2.2.2.2.2)=e.tt ds:=rfl;rw[IK];unfold TI;rw[FK ds D.b0,aO rfl,oX,aO rfl,O];simp only[cY,tR,cr,aK];have tz:=aI.low (aI.pH (aaL gJ hD aw bc).pb) i _ _ _ CZ;obtain⟨F,A,p⟩:=TL (m+1) r pd ds D (by omega);have E:tP no (m+1)=[]:=by simp[tP]
         rw[E] at p;exact⟨F,A,p⟩
       ·rw[ju.1];grind
  ·rw[anW L];have:=D.jO;obtain⟨F,A,p⟩:=aaS (R:=R) (m:=m) (k:=k) aF D (pd:=pd) (by omega);exact⟨F,A,p⟩
end
theorem aoc(n:Nat)(c:Ctx)(no:Bool):(aS true n).ls c no=om (uZ n) c no:=by cases n<;>rfl
theorem aaV{R:bg}{n:Nat}(gJ:∀k m,n=m+1+k->kv R m/\ow R m)(hD:kv R n)(aw:n<=30){e:cf}(bc:e.ne=30- (n:Int)){c:Ctx}{no:Bool}(aF:tN c no=true){r:aa}{pd:ao}{st:ah}(h:cD e r pd)(d:gg e r pd st):bM (decide (c= .text)) e r ((aS true n).ls c no r pd) (λb=>b.2) (λa _ b=>b.1=(a:Int)) (EN R st (jt c) (oW c) (!no)):=by rw[aoc,anZ,anR];have ad:=h.b0;have f:=h.sfx.length_le;grind[an8,v7]
theorem TN:∀(k n:Nat),n<=30->(2*n+1<=k->kv (kF k) n)/\(2*n+2<=k->ow (kF k) n):=by
 intro k;induction k with
 |zero=>omega
 |succ k a=>
  intro n aw;refine⟨λh=>⟨λe bc t pd tr b=>?_⟩,λh=>⟨λe c no aF bc r pd st b d=>?_⟩⟩
  ·exact al4 (R:=kF k) (λm hm=>⟨(a m (by omega)).1 (by omega),(a m (by omega)).2 (by omega)⟩) aw bc b
  ·have f:decide (c= .text)=false:=e1 (by rintro rfl;cases aF);have:=aaV (R:=kF k) (λj m hm=>⟨(a m (by omega)).1 (by omega),(a m (by omega)).2 (by omega)⟩) ((a n aw).1 (by omega)) aw bc (c:=c) (no:=no) (by grind[tN]) b d;rw[f] at this;exact this
theorem TO(s:aa):c_ (dz s):=by
 unfold dz;split
 ·rename_i h;right;rcases List.eq_nil_or_concat s with rfl|⟨t,b,rfl⟩
  ·grind
  grind
 ·exact .inr ⟨s,rfl⟩
theorem Ni(s:aa):dz s≠[]:=by
 unfold dz;split
 ·grind
 ·simp
theorem aod(s:aa)(a:s.length<=1000000)(b:Bool):(bif b then some s else(a4 (((s.length+([10]:aa).length:Nat):Int)<=9223372036854775807)<|some (s++([10]:aa))))=some (bif b then s else s++[10]):=by
 cases b with
 |true=>rfl
 |false=>exact(aU _ _).trans (Zo s a)
theorem aoe(s:aa)(a:s.length<=1000000):EU s=some (dz s):=by
 unfold EU;rw[aod s a];unfold dz;rcases List.eq_nil_or_concat s with rfl|⟨t,b,rfl⟩
 ·decide
 ·rw[List.concat_eq_append] at*;have hl:(t++[b]).length=t.length+1:=by simp
  have c:W (((t++[b]).length:Int)-1)=(t.length:Int):=by grind[dV]
  have d:at' (t++[b]) (t.length:Int)=b:=by simp[at']
  simp only[c,d,pK];rw[bZ (by omega)];simp
def e0(S:aa):cf:=⟨S,0⟩
theorem aof{s:aa}(d:(dz s).length<=1000000):bM true (e0 (dz s)) (dz s) (gr true 30 (dz s)) (λb=>b.2) (λa _ b=>b.1=(a:Int)) (ss.nQ (dz s,0,0,([]:ao),0,0,[],([]:bl),false) ([]) ([]:bl) false):=by
 have hk:∃k,bB=k+1/\62<=k:=by
  refine⟨bB-1,?_,?_⟩
  ·rw[gm]
  simp[gm]
 obtain⟨k,hk,f⟩:=hk;have g:cD (e0 (dz s)) (dz s) []:=⟨d,TO s,Ni s,fT,by simp[e0,ep,lG]⟩;have:=aaV (R:=kF k) (n:=30) (e:=e0 (dz s)) (λj m hm=>⟨(TN k m (by omega)).1 (by omega),(TN k m (by omega)).2 (by omega)⟩) ((TN k 30 (by omega)).1 (by omega)) (cX _) (show(0:Int)=30- ((30:Nat):Int) by decide) (c:= .text) (no:=true) rfl g (st:=(e0 (dz s)).st (dz s) [] false) ⟨false,rfl,λh=>absurd h (Ni s)⟩;have i:(e0 (dz s)).st (dz s) [] false=(dz s,0,0,([]:ao),0,0,[],([]:bl),false):=by show(dz s,ax (dz s) (dz s),(0:Int),([]:ao),(0:Int),(0:Int),([]:aa),([]:bl),false)=_;rw[IA]
 rw[i] at this;have l:ss.nQ (dz s,0,0,([]:ao),0,0,[],([]:bl),false) [] [] false=EN (kF k) (dz s,0,0,([]:ao),0,0,[],([]:bl),false) [] [] false:=by unfold ss;rw[hk];rfl
 rw[l];exact this
theorem aog{fr:Bool}{m:Nat}{u:aa}{k:Nat}{r:aa}{pd:ao}(hu:c_ u)(d:u≠[])(h:gr fr m u= .ok k r pd):r=[]/\pd=[]:=by
 have e:=XX h;subst e;refine⟨rfl,?_⟩;unfold gr at h;rw[uM,pI] at h;obtain⟨b,r1,aD,ad,f⟩:=b4 h;have a:=hJ.1 ad;by_cases c:r1=[]
 ·subst c;rw[qq] at a;obtain⟨i,_,_⟩:=XL _ _ _ _ _ _ (cX _) hu d a;grind[cq,CA,cP]
 ·have g:c_ r1:=hu.ia (aq.lines.sfx a);exact(XN fr m .text true _ _ _ _ _ _ (cX _) g c f).1
noncomputable def Nj(c:Int):ah->Option (ah×Int):=λx=>
 (bif(!(decide (x.2.2.2.2.1=2))) then some ((x.1,x.2.1,x.2.2.1,x.2.2.2.1,x.2.2.2.2.1,(x.1.length:Int),x.2.2.2.2.2.2.1,x.2.2.2.2.2.2.2.1,x.2.2.2.2.2.2.2.2),c) else some ((x.1,x.2.1,x.2.2.1,x.2.2.2.1,x.2.2.2.2.1,x.2.2.2.2.2.1,x.2.2.2.2.2.2.1,x.2.2.2.2.2.2.2.1,x.2.2.2.2.2.2.2.2),c))
noncomputable def F5(c:Int):ah->Option (ah×Int):=λx=>
 (bif(decide (x.2.2.2.2.1=1)) then(au (vI x ([10]:aa)) λ(a:ah)=>Nj c a) else Nj c x)
theorem aoh(s:aa):Cr s=(au (EU s) λ(a:aa)=>
 (au (ss.nQ (a,0,0,([]:ao),0,0,[],([]:bl),false) ([]) ([]:bl) false) λy=>
 (bif(bif(decide (y.2.2.2.2.2.1=0)) then(bif y.2.2.2.2.2.2.2.2.2 then true else(decide (0<(y.2.2.2.2.1.length:Int)))) else false) then
 (au (g5 y.2 ([])) λ(b:ah)=>F5 y.1 b) else F5 y.1 y.2))):=rfl
theorem aaW{e:cf}{r:aa}{nd:aa}{ds:ao}{st:ah}{c:Int}(o:e.S.length<=1000000)(hm:n5 e r nd ds st):∃y,F5 c st=some y/\y.1.2.2.2.2.1=1/\y.1.2.2.2.2.2.2.1=(cQ nd ds [10]).1/\y.1.2.2.2.2.2.1=(e.S.length:Int):=by obtain⟨a,b,i,d,SJ,f,g,op,tr⟩:=st;obtain⟨ad,j,k,l,p⟩:=hm;have h:=l.nd;have m:=l.s;simp only at ad j k h m;subst ad j k m;have q:=tH d;have n:vI (e.S,b,i,d,1,f,g,op,tr) [10]=some (e.S,b,i,(cQ g d [10]).2,1,f,(cQ g d [10]).1,op,tr):=CS _ _ _ _ _ _ _ _ _ _ (by simp) (by grind) (by omega);unfold F5;simp only[bz,aK];rw[n,aO rfl];exact⟨_,rfl,rfl,rfl,rfl⟩
theorem aoi{s:aa}(f:(dz s).length<=1000000):match gr true 30 (dz s) with
  | .ok a _ _=>∃st,Cr s=some (st,(a:Int))/\st.2.2.2.2.1=0/\st.2.2.2.2.2.1=((dz s).length:Int)
  | .more _ nd ds=>∃st c,Cr s=some (st,c)/\st.2.2.2.2.1=1/\st.2.2.2.2.2.2.1=(cQ nd ds [10]).1/\st.2.2.2.2.2.1=((dz s).length:Int)
  |_=>∃st c,Cr s=some (st,c)/\st.2.2.2.2.1=2:=by
 have hl:s.length<=(dz s).length:=by grind[dz]
 have h:=aof f;rw[aoh,aoe s (by omega),aO rfl];have g:=(tG true 30).ls .text true (dz s) [];obtain⟨b,p,h⟩:=h;obtain⟨c,st⟩:=b;rw[p,aO rfl];have t:(aS true 30).ls .text true (dz s) []=gr true 30 (dz s):=rfl;rw[t] at g;cases aB:gr true 30 (dz s) with
 |ok a r pd=>rw[aB] at h;obtain⟨ad,C,⟨tr,i,u⟩,o⟩:=h;obtain⟨rfl,rfl⟩:=aog (TO s) (Ni s) aB;dsimp only at i o;have:=u rfl;subst this i o;exact⟨_,rfl,rfl,rfl⟩
 |more op nd ds=>
  rw[aB] at h g;simp only[d_] at g;dsimp only at h⊢;have v:ep ([]:ao)=0:=rfl;rw[v] at g;rcases h with h|⟨_,rfl,i⟩
  ·have d:n5 (e0 (dz s)) (dz s) nd ds st:=h;rw[d.1];simp only[show¬((1:Int)=0) by decide,bF,aU];obtain⟨y,j,k,l,m⟩:=aaW (c:=c) (e:=e0 (dz s)) f d;exact⟨y.1,y.2,j,k,l,m⟩
  ·subst i;have w:((e0 (dz s)).tt ds).2.2.2.2.1=0:=rfl;have n:((e0 (dz s)).tt ds).2.2.2.2.2.2.2.2=true:=rfl;rw[w,n];simp only[bz,aK];have z:cD (e0 (dz s)) (dz s) []:=⟨f,TO s,Ni s,fT,by simp[e0,ep,lG]⟩;obtain⟨D,A,B⟩:=FV (pd:=ds) (x:=[]) z (by show _<=100*(dz s).length+800;omega) (by simp);rw[A,aO rfl];obtain⟨y,j,k,l,m⟩:=aaW (c:=c) (e:=e0 (dz s)) f B;exact⟨y.1,y.2,j,k,l,m⟩
 |bad q=>rw[aB] at h;have d:iQ (e0 (dz s)) (dz s) st:=h;dsimp only;rw[d.1];simp only[show¬((2:Int)=0) by decide,bF,aU];unfold F5;rw[d.1];simp only[show¬((2:Int)=1) by decide,bF,aU];unfold Nj;rw[d.1];simp
 |deep q=>rw[aB] at h;have d:iQ (e0 (dz s)) (dz s) st:=h;dsimp only;rw[d.1];simp only[show¬((2:Int)=0) by decide,bF,aU];unfold F5;rw[d.1];simp only[show¬((2:Int)=1) by decide,bF,aU];unfold Nj;rw[d.1];simp
abbrev fi:=aa×Int×Int
structure fx(x0:aa)(st:fi):Prop where
 c:st.1=x0
 lo:0<=st.2.1
 bf:st.2.1<=x0.length
 b0:x0.length<=1048576
theorem Nk(a:Int):0<=W (((BitVec.ofInt (IntKind.bits .i64) a&&&BitVec.ofInt (IntKind.bits .i64) 255).toNat:Int))/\W (((BitVec.ofInt (IntKind.bits .i64) a&&&BitVec.ofInt (IntKind.bits .i64) 255).toNat:Int))<256:=by
 have h:(BitVec.ofInt (IntKind.bits .i64) a&&&BitVec.ofInt (IntKind.bits .i64) 255).toNat<256:=by grind[BitVec.ofInt,IntKind.bits,Nat.and_le_right]
 grind[dV]
theorem aok{x0:aa}{st:fi}(h:fx x0 st):∃v e,yG st=some (v,e)/\0<=v/\v<256/\fx x0 e:=by
 obtain⟨a,b,c⟩:=st;obtain⟨rfl,ad,f,d⟩:=h;simp only at ad f d;unfold yG a8;dsimp only;by_cases hl:b<(a.length:Int)
 ·rw[decide_eq_true hl];simp only[aK];rw[bZ ⟨ad,hl⟩];have g:W (b+1)=b+1:=dV (by omega) (by omega);rw[g];exact⟨_,_,rfl,(Nk _).1,(Nk _).2,rfl,by grind,by grind,d⟩
 ·rw[e1 hl];simp only[aU];exact⟨_,_,rfl,(Nk _).1,(Nk _).2,rfl,ad,f,d⟩
theorem za{x0:aa}{st:fi}(h:fx x0 st){n:Int}(ad:1<=n)(f:n<=256):∃v d,lf st n=some (v,d)/\0<=v/\v<n/\fx x0 d:=by unfold lf;obtain⟨v,d,g,i,j,e⟩:=aok h;rw[e1 (show¬n<=0 by omega),decide_eq_true f];simp only[aU,aK];rw[g,aO rfl];dsimp only;rw[bZ (show n≠0 by omega)];refine⟨_,_,rfl,Int.tmod_nonneg _ i,Int.tmod_lt_of_pos _ (by omega),?_⟩;obtain⟨a,b,c⟩:=d;exact⟨h.c,e.lo,e.bf,e.b0⟩
theorem aol(x0:aa)(e:x0.length<=1048576):∃st,ES x0=some st/\fx x0 (x0,st.2.1,st.2.2):=by
 have hl:∀(N:Nat)(a b:Int),0<=b->b<=4000->(4000-b)<N->∃c,fixF (LK x0 (λf=>some (x0,0,f))) N (a,b)=some (x0,0,c):=by
  intro N;induction N with
  |zero=>omega
  |succ N g=>
   intro a b h0 ad h;rw[e4];unfold LK;dsimp only;by_cases d:b<(x0.length:Int)/\b<4000
   ·rw[decide_eq_true d.1,decide_eq_true d.2];simp only[aK];rw[bZ ⟨h0,d.1⟩];have i:W (b+1)=b+1:=dV (by omega) (by omega);rw[i];exact g _ _ (by omega) (by omega) (by omega)
   ·have:(bif decide (b<(x0.length:Int)) then decide (b<4000) else false)=false:=by grind
    rw[this];simp
 unfold ES a8;obtain⟨c,aF⟩:=hl bB (W (600128+(x0.length:Int))) 0 (by omega) (by omega) (by simp[gm]);exact⟨_,aF,rfl,u5 0,by simp,e⟩
def F6:bl:=[([97]:aa),([98,49]:aa),([120,61,49]:aa),([102,105,108,101]:aa),([195,169]:aa),([105,110]:aa),([97,35,98]:aa)]
def o0:bl:=[[39,113,32,114,39],[34,97,32,98,34],[97,92,32,98],[36,120],[36,40,40,49,43,40,50,41,41,41],[96,99,32,100,96],[45,108],[97,92,10,98]]++F6
def sO:bl:=[([108,115]:aa),([101,99,104,111]:aa),([99,97,116]:aa),([120,61,49]:aa)]
def jD:bl:=[([32,38,38,32]:aa),([32,124,124,32]:aa),([32,124,32]:aa),([59,32]:aa),([32,38,32]:aa),([10]:aa),([32,124,10]:aa),([59,32,35,32,114,10]:aa)]
def aaX(L W:aa->Prop)(w:aa):Prop:=w∈o0\/(∃t,L t/\(w=[36,40]++t++[41]\/w=[34,120,36,40]++t++[41,34]))\/∃v,W v/\w=[36,123,120,58,45]++v++[125]
def jS(ws:bl):aa:=ws.flatMap (λw=>32::w)
def rP(W a:aa->Prop)(s:aa):Prop:=∃h ws r,h∈sO/\(∀w∈ws,W w)/\s=h++jS ws++r/\(r=[]\/r=[32,50,62,38,49]\/∃w,a w/\r=[32,62]++w)
def u3(L W:aa->Prop)(c:aa):Prop:=
 (∃t,L t/\c=[40]++t++[41])\/
 (∃t,L t/\c=[123,32]++(t++[10])++[125])\/
 (∃t u,L t/\L u/\c=[105,102,32]++(t++[59])++[32,116,104,101,110,32]++(u++[10])++[102,105])\/
 (∃t u,L t/\L u/\c=[105,102,32,97,59,32,116,104,101,110,10]++(t++[10])++[101,108,105,102,32,98,10,116,104,101,110,32,99,10,101,108,115,101,32]++(u++[59])++[102,105,32,50,62,102])\/
 (∃t u,L t/\L u/\c=[119,104,105,108,101,32]++(t++[10])++[100,111,32]++(u++[59])++[32,100,111,110,101])\/
 (∃w u,W w/\L u/\c=[102,111,114,32,120,32,105,110,32,97,32]++w++[59,32,100,111,32]++(u++[59])++[100,111,110,101])\/
 c=[102,111,114,32,120,10,100,111,32,97,10,100,111,110,101]\/
 (∃w u,W w/\L u/\c=[99,97,115,101,32]++w++[32,105,110,32,97,124,98,41,32]++(u++[])++[59,59,10,40,99,41,32,59,59,32,100,41,32,101,115,97,99])\/
 (∃t,L t/\c=[102,40,41,32,123,10]++(t++[10])++[125,32,62,102])
def c1(l:List (aa×aa)):aa:=l.flatMap (λp=>p.1++p.2)
def u4(C:aa->Prop)(t:aa):Prop:=∃c rest,C c/\(∀p∈rest,p.1∈jD/\C p.2)/\t=c++c1 rest
def AV:Nat->(aa->Prop)×(aa->Prop)
 |0=>(λw=>w∈o0,u4 (rP (λw=>w∈o0) (λw=>w∈o0)))
 |d+1=>(aaX (AV d).2 (AV d).1,u4 λc=>rP (aaX (AV d).2 (AV d).1) (λw=>w∈o0) c\/u3 (AV d).2 (AV d).1 c)
def h5(d:Nat):aa->Prop:=(AV d).1
def iv(d:Nat):aa->Prop:=(AV d).2
def zb:Nat->aa->Prop
 |0=>rP (h5 0) (h5 0)
 |d+1=>λc=>rP (h5 (d+1)) (h5 0) c\/u3 (iv d) (h5 d) c
theorem Nl(d:Nat):iv d=u4 (zb d):=by cases d<;>rfl
theorem aaY{d:Nat}{w:aa}(h:w∈o0):h5 d w:=by
 cases d with
 |zero=>exact h
 |succ d=>exact .inl h
def lens:Nat->Nat×Nat
 |0=>(10,200)
 |d+1=>let w:=(lens d).2+(lens d).1+10;(w,3*(2*(lens d).2+(lens d).1+2*w+80)+20)
def lw(d:Nat):Nat:=(lens d).1
def o1(d:Nat):Nat:=(lens d).2
def lc:Nat->Nat
 |0=>60
 |d+1=>2*o1 d+lw d+2*lw (d+1)+80
theorem TP(d:Nat):lw (d+1)=o1 d+lw d+10:=rfl
theorem aom(d:Nat):o1 d=3*lc d+20:=by cases d<;>rfl
theorem qC{d:Nat}(h:d<=3):lw d<=40000/\o1 d<=460000/\lc d<=160000/\10<=lw d:=by
 match d,h with
 |0,_=>decide
 |1,_=>decide
 |2,_=>decide
 |3,_=>decide
def o2(R:bg)(d:Nat):Prop:=∀(x0:aa)(st:fi),fx x0 st->∃t a,R.nR st (d:Int)=some (t,a)/\h5 d t/\t.length<=lw d/\fx x0 a
def Da(R:bg)(d:Nat):Prop:=∀(x0:aa)(st:fi)(sfx:aa),sfx.length<=1->fx x0 st->∃t a,R.hs st (d:Int) sfx=some (t++sfx,a)/\iv d t/\t.length<=o1 d/\fx x0 a
theorem kg{n:Nat}(h:n<=100000000):((n:Nat):Int)<=9223372036854775807:=by omega
theorem wh{d:Nat}(h:d<=3):W (((d+1:Nat):Int)-1)=(d:Int):=by grind[dV]
theorem at_mem{l:bl}{v:Int}(h0:0<=v)(ad:v<(l.length:Int)):at' l v∈l:=by grind[at']
theorem aaZ:∀w∈o0,w.length<=10:=by decide
theorem fx.st{x0:aa}{st:fi}(h:fx x0 st):(x0,st.2.1,st.2.2)=st:=by rw[<-h.c]
noncomputable def Nm(R:bg)(b:Int)(st:fi)(a:Int):Option (aa×fi):=
 (bif(decide (a=1)) then some (([39,113,32,114,39]:aa),st) else(bif(decide (a=2)) then some (([34,97,32,98,34]:aa),st) else(bif(decide (a=3)) then some (([97,92,32,98]:aa),st) else(bif(decide (a=4)) then some (([36,120]:aa),st) else(bif(decide (a=5)) then some (([36,40,40,49,43,40,50,41,41,41]:aa),st) else(bif(decide (a=6)) then some (([96,99,32,100,96]:aa),st) else(bif(decide (a=7)) then some (([45,108]:aa),st) else(bif(decide (a=8)) then(au (R.hs st (W (b-1)) ([])) λ(c,g)=>(a4 (((([36,40]:aa).length+c.length:Nat):Int)<=9223372036854775807)<|(a4 ((((([36,40]:aa)++c).length+([41]:aa).length:Nat):Int)<=9223372036854775807)<|some (((([36,40]:aa)++c)++([41]:aa)),(st.1,g.2.1,g.2.2))))) else(bif(decide (a=9)) then(au (R.hs st (W (b-1)) ([])) λ(d,h)=>(a4 (((([34,120,36,40]:aa).length+d.length:Nat):Int)<=9223372036854775807)<|(a4 ((((([34,120,36,40]:aa)++d).length+([41,34]:aa).length:Nat):Int)<=9223372036854775807)<|some (((([34,120,36,40]:aa)++d)++([41,34]:aa)),(st.1,h.2.1,h.2.2))))) else(bif(decide (a=10)) then(au (R.nR st (W (b-1))) λ(e,i)=>(a4 (((([36,123,120,58,45]:aa).length+e.length:Nat):Int)<=9223372036854775807)<|(a4 ((((([36,123,120,58,45]:aa)++e).length+([125]:aa).length:Nat):Int)<=9223372036854775807)<|some (((([36,123,120,58,45]:aa)++e)++([125]:aa)),(st.1,i.2.1,i.2.2))))) else(bif(decide (a=11)) then some (([97,92,10,98]:aa),st) else(au (lf st 7) λ(f,j)=>(a4 (0<=f/\f<(([([97]:aa),([98,49]:aa),([120,61,49]:aa),([102,105,108,101]:aa),([195,169]:aa),([105,110]:aa),([97,35,98]:aa)]:bl).length:Int))<|some ((at' ([([97]:aa),([98,49]:aa),([120,61,49]:aa),([102,105,108,101]:aa),([195,169]:aa),([105,110]:aa),([97,35,98]:aa)]:bl) f),(st.1,j.2.1,j.2.2)))))))))))))))
theorem aon(R:bg)(x0:fi)(a:Int):Ie R x0 a=au (lf x0 14) λz=>(bif(bif(decide (a<=0)) then(decide (8<=z.1)) else false) then Nm R a (x0.1,z.2.2.1,z.2.2.2) 0 else Nm R a (x0.1,z.2.2.1,z.2.2.2) z.1):=rfl
theorem aoo{R:bg}{d:Nat}(aG:d<=3)(bn:∀a,d=a+1->Da R a/\o2 R a){x0:aa}{st:fi}(h:fx x0 st){y:Int}(H:d=0->y<8):∃t c,Nm R (d:Int) st y=some (t,c)/\h5 d t/\t.length<=lw d/\fx x0 c:=by
 obtain⟨I,J,K,F⟩:=qC aG
 have e:∀{w:aa},w∈o0->∃t c,(some (w,st):Option (aa×fi))=some (t,c)/\h5 d t/\t.length<=lw d/\fx x0 c:=λ{w} G=>⟨w,st,rfl,aaY G,by grind[aaZ],h⟩
 unfold Nm;by_cases f:y=1
 ·simp only[f,bz,aK];exact e (by decide)
 by_cases i:y=2
 ·rw[e1 f];simp only[i,bz,aK,aU];exact e (by decide)
 by_cases k:y=3
 ·rw[e1 f,e1 i];simp only[k,bz,aK,aU];exact e (by decide)
 by_cases m:y=4
 ·rw[e1 f,e1 i,e1 k];simp only[m,bz,aK,aU];exact e (by decide)
 by_cases s:y=5
 ·rw[e1 f,e1 i,e1 k,e1 m];simp only[s,bz,aK,aU];exact e (by decide)
 by_cases z:y=6
 ·rw[e1 f,e1 i,e1 k,e1 m,e1 s];simp only[z,bz,aK,aU];exact e (by decide)
 by_cases B:y=7
 ·rw[e1 f,e1 i,e1 k,e1 m,e1 s,e1 z];simp only[B,bz,aK,aU];exact e (by decide)
 rw[e1 f,e1 i,e1 k,e1 m,e1 s,e1 z,e1 B];simp only[aU];by_cases o:y=8
 ·obtain⟨a,rfl⟩:∃a,d=a+1:=⟨d-1,by omega⟩
  obtain⟨t,c,j,g,u,b⟩:=(bn a rfl).1 x0 st [] (by simp) h;obtain⟨C,p,q,r⟩:=qC (d:=a) (by omega);simp only[o,bz,aK];rw[wh (by omega),j,aO rfl];dsimp only;rw[rS,bZ (kg (by grind)),bZ (kg (by grind)),h.c,b.st];refine⟨_,_,rfl,.inr (.inl ⟨t,g,.inl rfl⟩),?_,b⟩;grind[TP]
 by_cases x:y=9
 ·obtain⟨a,rfl⟩:∃a,d=a+1:=⟨d-1,by omega⟩
  obtain⟨t,c,j,g,u,b⟩:=(bn a rfl).1 x0 st [] (by simp) h;obtain⟨C,p,q,r⟩:=qC (d:=a) (by omega);rw[e1 o];simp only[x,bz,aK,aU];rw[wh (by omega),j,aO rfl];dsimp only;rw[rS,bZ (kg (by grind)),bZ (kg (by grind)),h.c,b.st];refine⟨_,_,rfl,.inr (.inl ⟨t,g,.inr rfl⟩),?_,b⟩;grind[TP]
 by_cases A:y=10
 ·obtain⟨a,rfl⟩:∃a,d=a+1:=⟨d-1,by omega⟩
  obtain⟨t,c,j,g,u,b⟩:=(bn a rfl).2 x0 st h;obtain⟨C,p,q,r⟩:=qC (d:=a) (by omega);rw[e1 o,e1 x];simp only[A,bz,aK,aU];rw[wh (by omega),j,aO rfl];dsimp only;rw[bZ (kg (by grind)),bZ (kg (by grind)),h.c,b.st];refine⟨_,_,rfl,.inr (.inr ⟨t,g,rfl⟩),?_,b⟩;grind[TP]
 by_cases D:y=11
 ·rw[e1 o,e1 x,e1 A];simp only[D,bz,aK,aU];exact e (by decide)
 rw[e1 o,e1 x,e1 A,e1 D];simp only[aU];obtain⟨v,c,j,g,u,b⟩:=za h (n:=7) (by decide) (by decide);rw[j,aO rfl];dsimp only;have hm:=at_mem (l:=F6) g (by show v<((7:Nat):Int);omega);rw[bZ ⟨g,u⟩,h.c,b.st];have E:at' F6 v∈o0:=xL _ hm;exact⟨_,_,rfl,aaY E,by have:=aaZ _ E;exact lL this F,b⟩
theorem aop{P:aa->Prop}{J:fi->Int->Option (aa×fi)}{d:Nat}{x0:aa}{st:fi}(h:fx x0 st)(c:∀st y,fx x0 st->(d=0->y<8)->∃t a,J st y=some (t,a)/\P t/\fx x0 a):∃t a,(au (lf st 14) λz=>(bif(bif(decide ((d:Int)<=0)) then(decide (8<=z.1)) else false) then J (st.1,z.2.2.1,z.2.2.2) 0 else J (st.1,z.2.2.1,z.2.2.2) z.1))=some (t,a)/\P t/\fx x0 a:=by
 obtain⟨y,e,b,f,g,ad⟩:=za h (n:=14) (by decide) (by decide);rw[b,aO rfl];dsimp only;rw[h.c,ad.st];cases i:(bif(decide ((d:Int)<=0)) then(decide (8<=y)) else false) with
 |true=>simp_all
 |false=>simp_all
theorem aoq{R:bg}{d:Nat}(aG:d<=3)(bn:∀a,d=a+1->Da R a/\o2 R a){x0:aa}{st:fi}(h:fx x0 st):∃t b,Ie R st (d:Int)=some (t,b)/\(h5 d t/\t.length<=lw d)/\fx x0 b:=by
 rw[aon]
 exact aop h (λst y ad c=>by obtain⟨t,b,e,a2,a3,f⟩:=aoo aG bn ad c;grind)
theorem aa3(R:bg)(x:fi)(d:Int)(j:aa×Int×Int->Option (aa×fi))(k:aa×Int×Int×Int->Option (aa×fi))(s:aa)(c a b:Int):Cj R x d j k (s,c,a,b)=bif(decide (0<c)) then
 (a4 (((s.length+([32]:aa).length:Nat):Int)<=9223372036854775807)<|(au (R.nR (x.1,a,b) d) λv=>(a4 ((((s++([32]:aa)).length+v.1.length:Nat):Int)<=9223372036854775807)<|k (((s++([32]:aa))++v.1),(W (c-1)),v.2.2.1,v.2.2.2)))) else j (s,a,b):=rfl
theorem xE(a b:aa)(c:a.length<=1000000)(d:b.length<=1000000):((a.length+b.length:Nat):Int)<=9223372036854775807:=kg (by omega)
theorem aor{R:bg}{x:fi}{d:Int}{j:aa×Int×Int->Option (aa×fi)}{k:aa×Int×Int×Int->Option (aa×fi)}{s:aa}{c:Nat}{x0:aa}{st a:fi}{t:aa}(aF:c<=10)(b:x.1=x0)(h:fx x0 st)(e:R.nR st d=some (t,a))(i:s.length<=900000)(f:t.length<=1000000):
  Cj R x d j k (s,((c+1:Nat):Int),st.2.1,st.2.2)=k (s++[32]++t,(c:Int),a.2.1,a.2.2):=by
 rw[aa3,decide_eq_true (show(0:Int)<((c+1:Nat):Int) by omega),aK,bZ (xE s [32] (by omega) (by decide)),b,h.st,e,aO rfl,bZ (xE (s++[32]) t (by grind) f)];have g:W (((c+1:Nat):Int)-1)=(c:Int):=by grind[dV]
 rw[g]
theorem aos{R:bg}{d:Nat}(aG:d<=3)(hW:o2 R d){x0:aa}{x:fi}(f:x.1=x0){j:aa×Int×Int->Option (aa×fi)}:∀(N c:Nat)(s:aa)(st:fi),c<N->c<=2->s.length<=100+(2-c) *40001->fx x0 st->
  ∃ws a,fixF (Cj R x (d:Int) j) N (s,(c:Int),st.2.1,st.2.2)=j (s++jS ws,a.2.1,a.2.2)/\(∀w∈ws,h5 d w)/\(jS ws).length<=c*(lw d+1)/\fx x0 a:=by
 obtain⟨o,_,_,_⟩:=qC aG;intro N;induction N with
 |zero=>omega
 |succ N e=>
  intro c s st aF p q h;rw[e4];generalize fixF (Cj R x (d:Int) j) N=k at e⊢;cases c with
  |zero=>rw[aa3];refine⟨[],st,?_,by simp,by simp[jS],h⟩;simp[jS]
  |succ c=>
   obtain⟨t,g,i,r,u,l⟩:=hW x0 st h;have b:(s++[32]++t).length<=100+(2-c) *40001:=by grind
   rw[aor (by omega) f h i (by omega) (by omega)];obtain⟨ws,a,m,a2,a3,n⟩:=e c (s++[32]++t) g (by omega) (by omega) b l;rw[m];refine⟨t::ws,a,?_,?_,?_,n⟩
   ·simp[jS]
   ·grind
   ·simp only[jS,List.flatMap_cons,Dj,mv] at a3⊢;grind
noncomputable def AW(c:aa)(n:Int)(s:aa)(st:fi):Option (aa×fi):=
 bif(decide (n=1)) then
 (a4 (((s.length+([32,50,62,38,49]:aa).length:Nat):Int)<=9223372036854775807)<|some ((s++([32,50,62,38,49]:aa)),(c,st.2.1,st.2.2)))
 else some (s,(c,st.2.1,st.2.2))
noncomputable def Db(R:bg)(c:aa)(s:aa)(st:fi):Option (aa×fi):=
 au (lf (c,st.2.1,st.2.2) 8) λz=>
 bif(decide (z.1=0)) then
 (a4 (((s.length+([32,62]:aa).length:Nat):Int)<=9223372036854775807)<|(au (R.nR (c,z.2.2.1,z.2.2.2) 0) λv=>(a4 ((((s++([32,62]:aa)).length+v.1.length:Nat):Int)<=9223372036854775807)<|AW c z.1 ((s++([32,62]:aa))++v.1) v.2)))
 else AW c z.1 s z.2
theorem aot(R:bg)(x0:fi)(a:Int):Ck R x0 a=(au (lf x0 4) λz=>
 (a4 (0<=z.1/\z.1<((sO).length:Int))<|
 (au (lf (x0.1,z.2.2.1,z.2.2.2) 3) λv=>
 (fixF (Cj R x0 a (λy=>Db R x0.1 y.1 (x0.1,y.2.1,y.2.2))) bB ((at' sO z.1),v.1,v.2.2.1,v.2.2.2))))):=rfl
theorem aou{c:aa}{s:aa}{st:fi}(a:s.length<=1000000):AW c 1 s st=some (s++[32,50,62,38,49],(c,st.2.1,st.2.2)):=by unfold AW;rw[decide_eq_true rfl,aK,bZ (xE s [32,50,62,38,49] a (by decide))]
theorem aa4{c:aa}{s:aa}{st:fi}{n:Int}(aw:¬n=1):AW c n s st=some (s,(c,st.2.1,st.2.2)):=by simp_all[AW]
theorem aov{R:bg}{x0:aa}{s t:aa}{st a b:fi}(h:fx x0 st)(ad:fx x0 a)(c:lf st 8=some (0,a))(d:R.nR a 0=some (t,b))(f:s.length<=900000)(e:t.length<=1000000):Db R x0 s st=AW x0 0 (s++[32,62]++t) b:=by unfold Db;rw[h.st,c,aO rfl];show(bif decide ((0:Int)=0) then _ else _)=_;rw[decide_eq_true rfl,aK,bZ (xE s [32,62] (by omega) (by decide))];show au (R.nR (x0,a.2.1,a.2.2) 0) _=_;rw[ad.st,d,aO rfl,bZ (xE (s++[32,62]) t (by grind) e)]
theorem aow{R:bg}{x0:aa}{s:aa}{st a:fi}{v:Int}(h:fx x0 st)(b:lf st 8=some (v,a))(c:¬v=0):Db R x0 s st=AW x0 v s a:=by unfold Db;rw[h.st,b,aO rfl];grind
theorem aox{R:bg}{x0:aa}(e:o2 R 0){s:aa}(f:s.length<=900000){st:fi}(h:fx x0 st):∃r b,Db R x0 s st=some (s++r,b)/\(r=[]\/r=[32,50,62,38,49]\/∃w,h5 0 w/\r=[32,62]++w)/\r.length<=12/\fx x0 b:=by
 obtain⟨v,c,d,k,l,a⟩:=za h (n:=8) (by decide) (by decide);by_cases h0:v=0
 ·subst h0;obtain⟨t,m,g,o,i,j⟩:=e x0 c a;have p:t.length<=10:=i;rw[aov h a d g f (by omega),aa4 (by decide),j.st];grind
 ·rw[aow h d h0];by_cases ad:v=1
  ·subst ad;rw[aou (by omega),a.st];grind
  ·rw[aa4 ad,a.st];exact⟨[],c,by simp,.inl rfl,by simp,a⟩
theorem aoy:∀h∈sO,h.length<=4:=by decide
theorem aoz{R:bg}{d:Nat}(aG:d<=3)(hW:o2 R d)(i:o2 R 0){x0:aa}{st:fi}(h:fx x0 st):∃t a,Ck R st (d:Int)=some (t,a)/\rP (h5 d) (h5 0) t/\t.length<=2*lw d+20/\fx x0 a:=by
 obtain⟨C,_,_,_⟩:=qC aG;obtain⟨v,D,m,b,e,f⟩:=za h (n:=4) (by decide) (by decide);rw[aot,m,aO rfl];dsimp only;rw[bZ ⟨b,e⟩,h.c,f.st];obtain⟨c,o,p,E,F,q⟩:=za f (n:=3) (by decide) (by decide);rw[p,aO rfl];dsimp only;have hm:=at_mem (l:=sO) b e;have G:=aoy _ hm
 obtain⟨k,rfl⟩:∃k:Nat,c=(k:Int):=⟨c.toNat,by omega⟩
 obtain⟨ws,H,u,a2,a3,g⟩:=aos aG hW (x:=st) h.c (j:=λy=>Db R x0 y.1 (x0,y.2.1,y.2.2)) bB k (at' sO v) o (by grind[gm]) (by omega) (by omega) q;rw[u];dsimp only;have hk:k*(lw d+1)<=2*(lw d+1):=sX _ (by omega);rw[g.st];obtain⟨r,w,z,A,I,B⟩:=aox i (s:=at' sO v++jS ws) (by grind) g;rw[z];exact⟨_,_,rfl,⟨_,ws,r,hm,a2,rfl,A⟩,by grind,B⟩
noncomputable def mT(R:bg)(a:Int)(st:fi)(b:Int):Option (aa×fi):=
 (bif(decide (b=1)) then(au (R.hs st (W (a-1)) ([])) λ(h,p)=>(a4 (((([40]:aa).length+h.length:Nat):Int)<=9223372036854775807)<|(a4 ((((([40]:aa)++h).length+([41]:aa).length:Nat):Int)<=9223372036854775807)<|some (((([40]:aa)++h)++([41]:aa)),(st.1,p.2.1,p.2.2))))) else(bif(decide (b=2)) then(au (R.hs st (W (a-1)) ([10]:aa)) λ(i,q)=>(a4 (((([123,32]:aa).length+i.length:Nat):Int)<=9223372036854775807)<|(a4 ((((([123,32]:aa)++i).length+([125]:aa).length:Nat):Int)<=9223372036854775807)<|some (((([123,32]:aa)++i)++([125]:aa)),(st.1,q.2.1,q.2.2))))) else(bif(decide (b=3)) then(au (R.hs st (W (a-1)) ([59]:aa)) λ(c,r)=>(a4 (((([105,102,32]:aa).length+c.length:Nat):Int)<=9223372036854775807)<|(a4 ((((([105,102,32]:aa)++c).length+([32,116,104,101,110,32]:aa).length:Nat):Int)<=9223372036854775807)<|(au (R.hs (st.1,r.2.1,r.2.2) (W (a-1)) ([10]:aa)) λ(j,s)=>(a4 (((((([105,102,32]:aa)++c)++([32,116,104,101,110,32]:aa)).length+j.length:Nat):Int)<=9223372036854775807)<|(a4 ((((((([105,102,32]:aa)++c)++([32,116,104,101,110,32]:aa))++j).length+([102,105]:aa).length:Nat):Int)<=9223372036854775807)<|some (((((([105,102,32]:aa)++c)++([32,116,104,101,110,32]:aa))++j)++([102,105]:aa)),(st.1,s.2.1,s.2.2)))))))) else(bif(decide (b=4)) then(au (R.hs st (W (a-1)) ([10]:aa)) λ(d,t)=>(a4 (((([105,102,32,97,59,32,116,104,101,110,10]:aa).length+d.length:Nat):Int)<=9223372036854775807)<|(a4 ((((([105,102,32,97,59,32,116,104,101,110,10]:aa)++d).length+([101,108,105,102,32,98,10,116,104,101,110,32,99,10,101,108,115,101,32]:aa).length:Nat):Int)<=9223372036854775807)<|(au (R.hs (st.1,t.2.1,t.2.2) (W (a-1)) ([59]:aa)) λ(k,u)=>(a4 (((((([105,102,32,97,59,32,116,104,101,110,10]:aa)++d)++([101,108,105,102,32,98,10,116,104,101,110,32,99,10,101,108,115,101,32]:aa)).length+k.length:Nat):Int)<=9223372036854775807)<|(a4 ((((((([105,102,32,97,59,32,116,104,101,110,10]:aa)++d)++([101,108,105,102,32,98,10,116,104,101,110,32,99,10,101,108,115,101,32]:aa))++k).length+([102,105,32,50,62,102]:aa).length:Nat):Int)<=9223372036854775807)<|some (((((([105,102,32,97,59,32,116,104,101,110,10]:aa)++d)++([101,108,105,102,32,98,10,116,104,101,110,32,99,10,101,108,115,101,32]:aa))++k)++([102,105,32,50,62,102]:aa)),(st.1,u.2.1,u.2.2)))))))) else(bif(decide (b=5)) then(au (R.hs st (W (a-1)) ([10]:aa)) λ(e,v)=>(a4 (((([119,104,105,108,101,32]:aa).length+e.length:Nat):Int)<=9223372036854775807)<|(a4 ((((([119,104,105,108,101,32]:aa)++e).length+([100,111,32]:aa).length:Nat):Int)<=9223372036854775807)<|(au (R.hs (st.1,v.2.1,v.2.2) (W (a-1)) ([59]:aa)) λ(l,w)=>(a4 (((((([119,104,105,108,101,32]:aa)++e)++([100,111,32]:aa)).length+l.length:Nat):Int)<=9223372036854775807)<|(a4 ((((((([119,104,105,108,101,32]:aa)++e)++([100,111,32]:aa))++l).length+([32,100,111,110,101]:aa).length:Nat):Int)<=9223372036854775807)<|some (((((([119,104,105,108,101,32]:aa)++e)++([100,111,32]:aa))++l)++([32,100,111,110,101]:aa)),(st.1,w.2.1,w.2.2)))))))) else(bif(decide (b=6)) then(au (R.nR st (W (a-1))) λ(f,x)=>(a4 (((([102,111,114,32,120,32,105,110,32,97,32]:aa).length+f.length:Nat):Int)<=9223372036854775807)<|(a4 ((((([102,111,114,32,120,32,105,110,32,97,32]:aa)++f).length+([59,32,100,111,32]:aa).length:Nat):Int)<=9223372036854775807)<|(au (R.hs (st.1,x.2.1,x.2.2) (W (a-1)) ([59]:aa)) λ(m,y)=>(a4 (((((([102,111,114,32,120,32,105,110,32,97,32]:aa)++f)++([59,32,100,111,32]:aa)).length+m.length:Nat):Int)<=9223372036854775807)<|(a4 ((((((([102,111,114,32,120,32,105,110,32,97,32]:aa)++f)++([59,32,100,111,32]:aa))++m).length+([100,111,110,101]:aa).length:Nat):Int)<=9223372036854775807)<|some (((((([102,111,114,32,120,32,105,110,32,97,32]:aa)++f)++([59,32,100,111,32]:aa))++m)++([100,111,110,101]:aa)),(st.1,y.2.1,y.2.2)))))))) else(bif(decide (b=7)) then some (([102,111,114,32,120,10,100,111,32,97,10,100,111,110,101]:aa),st) else(bif(decide (b=8)) then(au (R.nR st (W (a-1))) λ(g,z)=>(a4 (((([99,97,115,101,32]:aa).length+g.length:Nat):Int)<=9223372036854775807)<|(a4 ((((([99,97,115,101,32]:aa)++g).length+([32,105,110,32,97,124,98,41,32]:aa).length:Nat):Int)<=9223372036854775807)<|(au (R.hs (st.1,z.2.1,z.2.2) (W (a-1)) ([])) λ(n,A)=>(a4 (((((([99,97,115,101,32]:aa)++g)++([32,105,110,32,97,124,98,41,32]:aa)).length+n.length:Nat):Int)<=9223372036854775807)<|(a4 ((((((([99,97,115,101,32]:aa)++g)++([32,105,110,32,97,124,98,41,32]:aa))++n).length+([59,59,10,40,99,41,32,59,59,32,100,41,32,101,115,97,99]:aa).length:Nat):Int)<=9223372036854775807)<|some (((((([99,97,115,101,32]:aa)++g)++([32,105,110,32,97,124,98,41,32]:aa))++n)++([59,59,10,40,99,41,32,59,59,32,100,41,32,101,115,97,99]:aa)),(st.1,A.2.1,A.2.2)))))))) else(bif(decide (b=9)) then(au (R.hs st (W (a-1)) ([10]:aa)) λ(o,B)=>(a4 (((([102,40,41,32,123,10]:aa).length+o.length:Nat):Int)<=9223372036854775807)<|(a4 ((((([102,40,41,32,123,10]:aa)++o).length+([125,32,62,102]:aa).length:Nat):Int)<=9223372036854775807)<|some (((([102,40,41,32,123,10]:aa)++o)++([125,32,62,102]:aa)),(st.1,B.2.1,B.2.2))))) else(au (Ck R st a) λ(D,C)=>some (D,(st.1,C.2.1,C.2.2))))))))))))
theorem aoA(R:bg)(x0:fi)(a:Int):vN R x0 a=au (lf x0 16) λz=>(bif(decide (a<=0)) then mT R a (x0.1,z.2.2.1,z.2.2.2) 0 else mT R a (x0.1,z.2.2.1,z.2.2.2) z.1):=rfl
section
variable{R:bg}{d:Nat}(aG:d+1<=3)(bn:Da R d)(hW:o2 R d){x0:aa}{st:fi}(h:fx x0 st)
include aG bn hW h
theorem aoB:∃t a,mT R ((d+1:Nat):Int) st 1=some (t,a)/\u3 (iv d) (h5 d) t/\t.length<=2*o1 d+lw d+80/\fx x0 a:=by obtain⟨g,i,j,k⟩:=qC (d:=d) (by omega);have b:=wh (d:=d) (by omega);obtain⟨c,s1,e,f,l,r1⟩:=bn x0 st [] (by decide) h;unfold mT;rw[show decide ((1:Int)=1)=true from rfl,aK,b,e,aO rfl];dsimp only;rw[bZ (kg (by grind)),bZ (kg (by grind)),h.c,r1.st];refine⟨_,_,rfl,.inl ⟨c,f,by simp⟩,by grind,r1⟩
theorem aoC:∃t a,mT R ((d+1:Nat):Int) st 2=some (t,a)/\u3 (iv d) (h5 d) t/\t.length<=2*o1 d+lw d+80/\fx x0 a:=by obtain⟨g,i,j,k⟩:=qC (d:=d) (by omega);have b:=wh (d:=d) (by omega);obtain⟨c,s1,e,f,l,r1⟩:=bn x0 st [10] (by decide) h;unfold mT;rw[show decide ((2:Int)=1)=false from rfl,aU];rw[show decide ((2:Int)=2)=true from rfl,aK,b,e,aO rfl];dsimp only;rw[bZ (kg (by grind)),bZ (kg (by grind)),h.c,r1.st];refine⟨_,_,rfl,.inr (.inl ⟨c,f,rfl⟩),by grind,r1⟩
theorem aoD:∃t a,mT R ((d+1:Nat):Int) st 3=some (t,a)/\u3 (iv d) (h5 d) t/\t.length<=2*o1 d+lw d+80/\fx x0 a:=by obtain⟨l,m,n,o⟩:=qC (d:=d) (by omega);have c:=wh (d:=d) (by omega);obtain⟨e,s1,f,g,p,r1⟩:=bn x0 st [59] (by decide) h;obtain⟨i,s2,j,k,q,b⟩:=bn x0 s1 [10] (by decide) r1;unfold mT;rw[show decide ((3:Int)=1)=false from rfl,aU];rw[show decide ((3:Int)=2)=false from rfl,aU];rw[show decide ((3:Int)=3)=true from rfl,aK,c,f,aO rfl];dsimp only;rw[bZ (kg (by grind)),bZ (kg (by grind)),h.c,r1.st];rw[j,aO rfl];dsimp only;rw[bZ (kg (by grind)),bZ (kg (by grind)),b.st];refine⟨_,_,rfl,.inr (.inr (.inl ⟨e,i,g,k,rfl⟩)),by grind,b⟩
theorem aoE:∃t a,mT R ((d+1:Nat):Int) st 4=some (t,a)/\u3 (iv d) (h5 d) t/\t.length<=2*o1 d+lw d+80/\fx x0 a:=by obtain⟨l,m,n,o⟩:=qC (d:=d) (by omega);have c:=wh (d:=d) (by omega);obtain⟨e,s1,f,g,p,r1⟩:=bn x0 st [10] (by decide) h;obtain⟨i,s2,j,k,q,b⟩:=bn x0 s1 [59] (by decide) r1;unfold mT;rw[show decide ((4:Int)=1)=false from rfl,aU];rw[show decide ((4:Int)=2)=false from rfl,aU];rw[show decide ((4:Int)=3)=false from rfl,aU];rw[show decide ((4:Int)=4)=true from rfl,aK,c,f,aO rfl];dsimp only;rw[bZ (kg (by grind[List.length_cons])),bZ (kg (by grind[List.length_cons])),h.c,r1.st];rw[j,aO rfl];dsimp only;rw[bZ (kg (by grind[List.length_cons])),bZ (kg (by grind[List.length_cons])),b.st];refine⟨_,_,rfl,.inr (.inr (.inr (.inl ⟨e,i,g,k,rfl⟩))),by grind[List.length_cons],b⟩
theorem aoF:∃t a,mT R ((d+1:Nat):Int) st 5=some (t,a)/\u3 (iv d) (h5 d) t/\t.length<=2*o1 d+lw d+80/\fx x0 a:=by obtain⟨l,m,n,o⟩:=qC (d:=d) (by omega);have c:=wh (d:=d) (by omega);obtain⟨e,s1,f,g,p,r1⟩:=bn x0 st [10] (by decide) h;obtain⟨i,s2,j,k,q,b⟩:=bn x0 s1 [59] (by decide) r1;unfold mT;rw[show decide ((5:Int)=1)=false from rfl,aU];rw[show decide ((5:Int)=2)=false from rfl,aU];rw[show decide ((5:Int)=3)=false from rfl,aU];rw[show decide ((5:Int)=4)=false from rfl,aU];rw[show decide ((5:Int)=5)=true from rfl,aK,c,f,aO rfl];dsimp only;rw[bZ (kg (by grind)),bZ (kg (by grind)),h.c,r1.st];rw[j,aO rfl];dsimp only;rw[bZ (kg (by grind)),bZ (kg (by grind)),b.st];refine⟨_,_,rfl,.inr (.inr (.inr (.inr (.inl ⟨e,i,g,k,rfl⟩)))),by grind,b⟩
theorem aoG:∃t a,mT R ((d+1:Nat):Int) st 6=some (t,a)/\u3 (iv d) (h5 d) t/\t.length<=2*o1 d+lw d+80/\fx x0 a:=by obtain⟨l,m,n,o⟩:=qC (d:=d) (by omega);have c:=wh (d:=d) (by omega);obtain⟨e,s1,f,g,p,r1⟩:=hW x0 st h;obtain⟨i,s2,j,k,q,b⟩:=bn x0 s1 [59] (by decide) r1;unfold mT;rw[show decide ((6:Int)=1)=false from rfl,aU];rw[show decide ((6:Int)=2)=false from rfl,aU];rw[show decide ((6:Int)=3)=false from rfl,aU];rw[show decide ((6:Int)=4)=false from rfl,aU];rw[show decide ((6:Int)=5)=false from rfl,aU];rw[show decide ((6:Int)=6)=true from rfl,aK,c,f,aO rfl];dsimp only;rw[bZ (kg (by grind[List.length_cons])),bZ (kg (by grind[List.length_cons])),h.c,r1.st];rw[j,aO rfl];dsimp only;rw[bZ (kg (by grind[List.length_cons])),bZ (kg (by grind[List.length_cons])),b.st];refine⟨_,_,rfl,.inr (.inr (.inr (.inr (.inr (.inl ⟨e,i,g,k,rfl⟩))))),by grind[List.length_cons],b⟩
theorem aoH:∃t a,mT R ((d+1:Nat):Int) st 8=some (t,a)/\u3 (iv d) (h5 d) t/\t.length<=2*o1 d+lw d+80/\fx x0 a:=by obtain⟨l,m,n,o⟩:=qC (d:=d) (by omega);have c:=wh (d:=d) (by omega);obtain⟨e,s1,f,g,p,r1⟩:=hW x0 st h;obtain⟨i,s2,j,k,q,b⟩:=bn x0 s1 [] (by decide) r1;unfold mT;rw[show decide ((8:Int)=1)=false from rfl,aU];rw[show decide ((8:Int)=2)=false from rfl,aU];rw[show decide ((8:Int)=3)=false from rfl,aU];rw[show decide ((8:Int)=4)=false from rfl,aU];rw[show decide ((8:Int)=5)=false from rfl,aU];rw[show decide ((8:Int)=6)=false from rfl,aU];rw[show decide ((8:Int)=7)=false from rfl,aU];rw[show decide ((8:Int)=8)=true from rfl,aK,c,f,aO rfl];dsimp only;rw[bZ (kg (by grind)),bZ (kg (by grind)),h.c,r1.st];rw[j,aO rfl];dsimp only;rw[bZ (kg (by grind[List.length_cons])),bZ (kg (by grind[List.length_cons])),b.st];refine⟨_,_,rfl,.inr (.inr (.inr (.inr (.inr (.inr (.inr (.inl ⟨e,i,g,k,rfl⟩))))))),by grind[List.length_cons],b⟩
theorem aoI:∃t a,mT R ((d+1:Nat):Int) st 9=some (t,a)/\u3 (iv d) (h5 d) t/\t.length<=2*o1 d+lw d+80/\fx x0 a:=by obtain⟨g,i,j,k⟩:=qC (d:=d) (by omega);have b:=wh (d:=d) (by omega);obtain⟨c,s1,e,f,l,r1⟩:=bn x0 st [10] (by decide) h;unfold mT;rw[show decide ((9:Int)=1)=false from rfl,aU];rw[show decide ((9:Int)=2)=false from rfl,aU];rw[show decide ((9:Int)=3)=false from rfl,aU];rw[show decide ((9:Int)=4)=false from rfl,aU];rw[show decide ((9:Int)=5)=false from rfl,aU];rw[show decide ((9:Int)=6)=false from rfl,aU];rw[show decide ((9:Int)=7)=false from rfl,aU];rw[show decide ((9:Int)=8)=false from rfl,aU];rw[show decide ((9:Int)=9)=true from rfl,aK,b,e,aO rfl];dsimp only;rw[bZ (kg (by grind)),bZ (kg (by grind)),h.c,r1.st];refine⟨_,_,rfl,.inr (.inr (.inr (.inr (.inr (.inr (.inr (.inr ⟨c,f,rfl⟩))))))),by grind,r1⟩
theorem aoJ:∃t a,mT R ((d+1:Nat):Int) st 7=some (t,a)/\u3 (iv d) (h5 d) t/\t.length<=2*o1 d+lw d+80/\fx x0 a:=
 ⟨_,st,rfl,.inr (.inr (.inr (.inr (.inr (.inr (.inl rfl)))))),by simp,h⟩
end
theorem aoK{R:bg}{a:Int}{st:fi}{y:Int}(h:¬(1<=y/\y<=9)):mT R a st y=au (Ck R st a) λz=>some (z.1,(st.1,z.2.2.1,z.2.2.2)):=by unfold mT;rw[e1 (show¬y=1 by omega),e1 (show¬y=2 by omega),e1 (show¬y=3 by omega),e1 (show¬y=4 by omega),e1 (show¬y=5 by omega),e1 (show¬y=6 by omega),e1 (show¬y=7 by omega),e1 (show¬y=8 by omega),e1 (show¬y=9 by omega)];simp
theorem aa5{R:bg}{d:Nat}(aG:d<=3)(hW:o2 R d)(b:o2 R 0){x0:aa}{st:fi}(h:fx x0 st){y:Int}(c:¬(1<=y/\y<=9)):∃t a,mT R (d:Int) st y=some (t,a)/\rP (h5 d) (h5 0) t/\t.length<=2*lw d+20/\fx x0 a:=by rw[aoK c];obtain⟨t,a,e,g,i,f⟩:=aoz aG hW b h;rw[e,aO rfl];dsimp only;rw[h.c,f.st];grind
theorem aoL{R:bg}{d:Nat}(aG:d+1<=3)(bn:Da R d)(f:o2 R d)(hW:o2 R (d+1))(g:o2 R 0){x0:aa}{st:fi}(h:fx x0 st)(y:Int):∃t a,mT R ((d+1:Nat):Int) st y=some (t,a)/\zb (d+1) t/\t.length<=lc (d+1)/\fx x0 a:=by
 have k:lc (d+1)=2*o1 d+lw d+2*lw (d+1)+80:=rfl;by_cases i:1<=y/\y<=9
 ·have aF:∃t a,mT R ((d+1:Nat):Int) st y=some (t,a)/\u3 (iv d) (h5 d) t/\t.length<=2*o1 d+lw d+80/\fx x0 a:=by
   have:y=1\/y=2\/y=3\/y=4\/y=5\/y=6\/y=7\/y=8\/y=9:=by omega
   rcases this with rfl|rfl|rfl|rfl|rfl|rfl|rfl|rfl|rfl
   ·grind[aoB]
   ·grind[aoC]
   ·grind[aoD]
   ·grind[aoE]
   ·grind[aoF]
   ·grind[aoG]
   ·grind[aoJ]
   ·grind[aoH]
   grind[aoI]
  obtain⟨t,a,b,c,j,e⟩:=aF;exact⟨t,a,b,.inr c,by omega,e⟩
 ·obtain⟨t,a,b,c,j,e⟩:=aa5 aG hW g h i;exact⟨t,a,b,.inl c,by omega,e⟩
theorem aoM{P:aa->Prop}{J:fi->Int->Option (aa×fi)}{d:Nat}{x0:aa}{st:fi}(h:fx x0 st)(c:∀st y,fx x0 st->(d=0->y=0)->∃t a,J st y=some (t,a)/\P t/\fx x0 a):∃t a,(au (lf st 16) λz=>(bif(decide ((d:Int)<=0)) then J (st.1,z.2.2.1,z.2.2.2) 0 else J (st.1,z.2.2.1,z.2.2.2) z.1))=some (t,a)/\P t/\fx x0 a:=by
 obtain⟨y,e,b,f,g,ad⟩:=za h (n:=16) (by decide) (by decide);rw[b,aO rfl];dsimp only;rw[h.c,ad.st];by_cases aG:(d:Int)<=0
 ·simp_all
 simp_all
theorem aa6{R:bg}{d:Nat}(aG:d<=3)(bn:∀b,d=b+1->Da R b/\o2 R b)(hW:o2 R d)(c:o2 R 0){x0:aa}{st:fi}(h:fx x0 st):∃t a,vN R st (d:Int)=some (t,a)/\(zb d t/\t.length<=lc d)/\fx x0 a:=by
 rw[aoA];refine aoM h (λst y ad i=>?_);cases d with
 |zero=>have:=i rfl;subst this;obtain⟨t,a,e,f,j,g⟩:=aa5 aG hW c ad (y:=0) (by omega);have:lw 0=10:=rfl;exact⟨t,a,e,⟨f,by show _<=60;omega⟩,g⟩
 |succ d=>obtain⟨t,a,e,f,j,g⟩:=aoL aG (bn d rfl).1 (bn d rfl).2 hW c ad y;grind
theorem aa7(R:bg)(x:fi)(d:Int)(j:aa×Int×Int->Option (aa×fi))(k:aa×Int×Int×Int->Option (aa×fi))(s:aa)(c a b:Int):Cl R x d j k (s,c,a,b)=bif(decide (0<c)) then
 (au (lf (x.1,a,b) 8) λz=>(a4 (0<=z.1/\z.1<(jD.length:Int))<|(a4 (((s.length+(at' jD z.1).length:Nat):Int)<=9223372036854775807)<|(au (vN R (x.1,z.2.2.1,z.2.2.2) d) λv=>(a4 ((((s++(at' jD z.1)).length+v.1.length:Nat):Int)<=9223372036854775807)<|k (((s++(at' jD z.1))++v.1),(W (c-1)),v.2.2.1,v.2.2.2)))))) else j (s,a,b):=rfl
theorem aoN:∀h∈jD,h.length<=6:=by decide
theorem aoO{R:bg}{x:fi}{d:Int}{j:aa×Int×Int->Option (aa×fi)}{k:aa×Int×Int×Int->Option (aa×fi)}{s:aa}{c:Nat}{x0:aa}{st a b:fi}{t:aa}{v:Int}(aF:c<=10)(e:x.1=x0)(h:fx x0 st)(ad:fx x0 a)(f:lf st 8=some (v,a))(g:0<=v/\v<(jD.length:Int))(n:(at' jD v).length<=6)(i:vN R a d=some (t,b))(o:s.length<=900000)(l:t.length<=1000000):
  Cl R x d j k (s,((c+1:Nat):Int),st.2.1,st.2.2)=k (s++at' jD v++t,(c:Int),b.2.1,b.2.2):=by
 rw[aa7,decide_eq_true (show(0:Int)<((c+1:Nat):Int) by omega),aK,e,h.st,f,aO rfl];show a4 (0<=v/\v<(jD.length:Int)) _=_;rw[bZ g];show a4 (((s.length+(at' jD v).length:Nat):Int)<=9223372036854775807) (au (vN R (x0,a.2.1,a.2.2) d) _)=_;rw[bZ (xE s (at' jD v) (by omega) (by omega)),ad.st,i,aO rfl,bZ (xE (s++at' jD v) t (by grind) l)];have m:W (((c+1:Nat):Int)-1)=(c:Int):=by grind[dV]
 rw[m]
theorem aoP{R:bg}{d:Nat}(aG:d<=3)(m:∀{x0:aa}{st:fi},fx x0 st->∃t a,vN R st (d:Int)=some (t,a)/\(zb d t/\t.length<=lc d)/\fx x0 a){x0:aa}{x:fi}(o:x.1=x0){j:aa×Int×Int->Option (aa×fi)}:∀(N c:Nat)(s:aa)(st:fi),c<N->c<=2->s.length<=200000+(2-c) *160010->fx x0 st->
  ∃l a,fixF (Cl R x (d:Int) j) N (s,(c:Int),st.2.1,st.2.2)=j (s++c1 l,a.2.1,a.2.2)/\(∀p∈l,p.1∈jD/\zb d p.2)/\(c1 l).length<=c*(lc d+6)/\fx x0 a:=by
 obtain⟨_,_,B,_⟩:=qC aG;intro N;induction N with
 |zero=>omega
 |succ N e=>
  intro c s st aF C D h;rw[e4];generalize fixF (Cl R x (d:Int) j) N=k at e⊢;cases c with
  |zero=>rw[aa7];refine⟨[],st,?_,by simp,by simp[c1],h⟩;simp[c1]
  |succ c=>
   obtain⟨v,E,q,f,g,i⟩:=za h (n:=8) (by decide) (by decide);have hm:=at_mem (l:=jD) f g;have r:=aoN _ hm;obtain⟨t,u,w,⟨F,G⟩,y⟩:=m i;have b:(s++at' jD v++t).length<=200000+(2-c) *160010:=by grind
   rw[aoO (by omega) o h i q ⟨f,g⟩ r w (by omega) (by omega)];obtain⟨l,a,z,a2,a3,A⟩:=e c (s++at' jD v++t) u (by omega) (by omega) b y;rw[z];refine⟨(at' jD v,t)::l,a,?_,?_,?_,A⟩
   ·simp[c1]
   ·grind
   grind[c1]
theorem aoQ(R:bg)(x0:fi)(a:Int)(sfx:aa):Ib R x0 a sfx=au (vN R x0 a) λy=>au (lf (x0.1,y.2.2.1,y.2.2.2) 3) λv=>
 fixF (Cl R x0 a (λz=>a4 (((z.1.length+sfx.length:Nat):Int)<=9223372036854775807)<|some ((z.1++sfx),(x0.1,z.2.1,z.2.2)))) bB (y.1,v.1,v.2.2.1,v.2.2.2):=rfl
theorem aoR{R:bg}{d:Nat}(aG:d<=3)(bn:∀b,d=b+1->Da R b/\o2 R b)(hW:o2 R d)(f:o2 R 0){x0:aa}{st:fi}{sfx:aa}(w:sfx.length<=1)(h:fx x0 st):∃t a,Ib R st (d:Int) sfx=some (t++sfx,a)/\iv d t/\t.length<=o1 d/\fx x0 a:=by
 obtain⟨_,_,y,_⟩:=qC aG;obtain⟨t,g,o,⟨p,A⟩,i⟩:=aa6 aG bn hW f h;obtain⟨v,q,r,B,C,s⟩:=za i (n:=3) (by decide) (by decide)
 obtain⟨k,rfl⟩:∃k:Nat,v=(k:Int):=⟨v.toNat,by omega⟩
 obtain⟨l,c,u,a2,a3,m⟩:=aoP aG (λh=>aa6 aG bn hW f h) (x:=st) h.c (j:=λz=>a4 (((z.1.length+sfx.length:Nat):Int)<=9223372036854775807)<|some ((z.1++sfx),(x0,z.2.1,z.2.2))) bB k t q (by grind[gm]) (by omega) (by omega) s;have hk:k*(lc d+6)<=2*(lc d+6):=sX _ (by omega);rw[aoQ,o,aO rfl,h.c];show∃e a,(au (lf (x0,g.2.1,g.2.2) 3) _)=some (e++sfx,a)/\_
 rw[i.st,r,aO rfl,u];have D:=aom d;refine⟨t++c1 l,c,?_,?_,by grind,m⟩
 ·show a4 ((((t++c1 l).length+sfx.length:Nat):Int)<=9223372036854775807) (some ((t++c1 l++sfx),(x0,c.2.1,c.2.2)))=_;rw[bZ (xE _ _ (by grind) (by omega)),m.st]
 ·rw[Nl];exact⟨t,l,p,a2,rfl⟩
theorem aoS:∀(k d:Nat),d<=3->(2*d+1<=k->o2 (kF k) d)/\(2*d+2<=k->Da (kF k) d):=by
 intro k;induction k with
 |zero=>omega
 |succ k a=>
  intro d aG;refine⟨λh x0 st c=>?_,λh x0 st sfx e c=>?_⟩
  ·obtain⟨t,f,g,⟨i,j⟩,l⟩:=aoq (R:=kF k) aG (λb m=>⟨(a b (by omega)).2 (by omega),(a b (by omega)).1 (by omega)⟩) c;exact⟨t,f,g,i,j,l⟩
  ·exact aoR (R:=kF k) aG (λb m=>⟨(a b (by omega)).2 (by omega),(a b (by omega)).1 (by omega)⟩) ((a d aG).1 (by omega)) ((a 0 (by omega)).1 (by omega)) e c
theorem aoT{x0:aa}{st:fi}{sfx:aa}(b:sfx.length<=1)(h:fx x0 st):∃t a,ss.hs st 3 sfx=some (t++sfx,a)/\iv 3 t/\t.length<=o1 3/\fx x0 a:=by
 have hk:8<=bB:=by simp[gm]
 exact(aoS bB 3 (by omega)).2 hk x0 st sfx b h
def rQ:aa:=[99,97,116,32,60,60,69,59,32]
def mu:aa:=[10,98,111,100,121,10,69,10]
noncomputable def F7(c:aa)(t:aa):(Int×fi)->Option aa:=λz=>
 (bif(decide (z.1=0)) then(a4 (((rQ.length+t.length:Nat):Int)<=9223372036854775807)<|(a4 ((((rQ++t).length+mu.length:Nat):Int)<=9223372036854775807)<|some ((rQ++t)++mu))) else some t)
theorem mk_eq(x0:aa):Cn x0=au (ES x0) λa=>au (ss.hs (x0,a.2.1,a.2.2) 3 []) λv=>au (lf (x0,v.2.2.1,v.2.2.2) 4) λz=>F7 x0 v.1 z:=rfl
theorem aoU{c t:aa}{st:fi}(a:t.length<=900000):F7 c t (0,st)=some (rQ++t++mu):=by unfold F7;show(bif decide ((0:Int)=0) then _ else _)=_;rw[decide_eq_true rfl,aK,bZ (xE rQ t (by decide) (by omega)),bZ (xE (rQ++t) mu (by simp only[Dj];have:rQ.length=9:=rfl;omega) (by decide))]
theorem aoV{c t:aa}{v:Int}{st:fi}(a:¬v=0):F7 c t (v,st)=some t:=by unfold F7;grind
theorem aoW(x0:aa)(f:x0.length<=1048576):∃t T,Cn x0=some T/\iv 3 t/\t.length<=460000/\(T=t\/T=rQ++t++mu):=by
 obtain⟨st,g,ad⟩:=aol x0 f;obtain⟨t,a,b,j,k,c⟩:=aoT (sfx:=[]) (by decide) ad;rw[rS] at b;obtain⟨v,l,h,a2,a3,m⟩:=za c (n:=4) (by decide) (by decide);have hl:o1 3<=460000:=(qC (d:=3) (by decide)).2.1;rw[mk_eq,g,aO rfl,b,aO rfl];show∃i T,(au (lf (x0,a.2.1,a.2.2) 4) λz=>F7 x0 t z)=some T/\_
 rw[c.st,h,aO rfl];by_cases e:v=0
 ·subst e;rw[aoU (by omega)];grind
 ·rw[aoV e];grind
end Go.Eng
namespace Go.Eng
structure fm where
 E:ln
 ok:E.mY
 c0:Nat
def bX(X:fm)(P:aa->Prop)(pd:ao){α:Type}:dD α->Prop
 | .ok _ r' a=>(P r'/\a=pd)\/X.E.H X.c0 r' a
 | .deep _=>False
 |_=>True
theorem ln.H.Nn{E:ln}{n m:Nat}{r:aa}{pd:ao}(h:E.H n r pd)(hm:n<=m):E.H m r pd:=⟨h.sfx,by have:=h.le;omega,h.q⟩
theorem bX.TQ{X:fm}{P:aa->Prop}{pd0:ao}{α:Type}{n:Nat}(aw:X.c0<=n){f:ak α}(hf:ai X.E n f){r:aa}{pd:ao}(h:X.E.H X.c0 r pd):bX X P pd0 (f r pd):=by
 have:=hf r pd (h.Nn aw);cases hm:f r pd with
 |ok a r' b=>rw[hm] at this;exact .inr (h.down X.ok this.1 this.2)
 |more _ _ _=>trivial
 |bad _=>trivial
 |deep _=>rw[hm] at this;exact this
theorem bX.ae{X:fm}{P b:aa->Prop}{pd pd0:ao}{α β:Type}{n:Nat}(aw:X.c0<=n){m:ak α}{k:α->ak β}{r:aa}(h:bX X P pd (m r pd0))(hk:∀a r',m r pd0= .ok a r' pd->P r'->bX X b pd (k a r' pd))(he:∀a,ai X.E n (k a)):bX X b pd (Go.Eng.ae m k r pd0):=by
 unfold Go.Eng.ae;cases hm:m r pd0 with
 |ok a r' c=>
  rw[hm] at h;rcases h with⟨ad,rfl⟩|ad
  ·grind
  grind[bX.TQ]
 |more _ _ _=>trivial
 |bad _=>trivial
 |deep _=>rw[hm] at h;exact h
theorem bX.imp{X:fm}{P b:aa->Prop}{pd:ao}{α:Type}{x:dD α}(h:bX X P pd x)(aB:∀r,P r->b r):bX X b pd x:=by
 cases x with
 |ok a r' d=>
  rcases h with⟨ad,c⟩|ad
  ·exact .inl ⟨aB _ ad,c⟩
  ·exact .inr ad
 |more _ _ _=>trivial
 |bad _=>trivial
 |deep _=>exact h
theorem bX.aJ{X:fm}{P:aa->Prop}{pd pd0:ao}{α:Type}{m:ak α}{x r:aa}(h:bX X P pd (m r pd0)):bX X P pd (m.aJ x r pd0):=by unfold ak.aJ;cases hm:m r pd0<;>rw[hm] at h<;>first|exact h|trivial
theorem bX.named{X:fm}{P:aa->Prop}{pd pd0:ao}{α:Type}{m:ak α}{x r:aa}(h:bX X P pd (m r pd0)):bX X P pd (m.named x r pd0):=by unfold ak.named;cases hm:m r pd0<;>rw[hm] at h<;>first|exact h|trivial
def ox(X:fm){α:Type}(x:dD α):Prop:=match x with
 | .ok _ r' a=>X.E.H X.c0 r' a
 | .deep _=>False
 |_=>True
def jE(X:fm){α:Type}(x y:dD α):Prop:=x=y\/ox X x
theorem jE.refl{X:fm}{α:Type}(x:dD α):jE X x x:= .inl rfl
theorem jE.trans{X:fm}{α:Type}{x y z:dD α}(h:jE X x y)(a:jE X y z):jE X x z:=by
 rcases h with rfl|h
 ·exact a
 ·exact .inr h
theorem jE.Jo{X:fm}{P:aa->Prop}{pd:ao}{α:Type}{x y:dD α}(h:jE X x y)(b:bX X P pd y):bX X P pd x:=by
 rcases h with rfl|h
 ·exact b
 ·cases x with
  |ok a r' c=>exact .inr h
  |more _ _ _=>trivial
  |bad _=>trivial
  |deep _=>exact h
theorem jE.rep{X:fm}{σ α:Type}{n:Nat}(aw:X.c0<=n){f:σ->ak (σ⊕α)}(hf:∀s,ai X.E n (f s)){s s':σ}{r v:aa}{pd:ao}(hl:v.length<r.length)
  (h:f s r pd= .ok (.inl s') v pd\/ox X (f s r pd)):jE X (b7 f s r pd) (b7 f s' v pd):=by
 rw[cq f s r pd];rcases h with h|h
 ·rw[h];left;show(if v.length<r.length then b7 f s' v pd else .bad v)=_;grind
 ·right;cases hm:f s r pd with
  |ok x r' b=>
   rw[hm] at h;cases x with
   |inl s2=>
    unfold cP;simp only;by_cases ad:r'.length<r.length
    ·rw[bh ad];have:=ai.rep X.ok hf s2 r' b (h.Nn aw);cases c:b7 f s2 r' b with
     |ok a d e=>rw[c] at this;exact h.down X.ok this.1 this.2
     |more _ _ _=>trivial
     |bad _=>trivial
     |deep _=>rw[c] at this;exact this
    ·rw[aP ad];trivial
   |inr a=>exact h
  |more _ _ _=>trivial
  |bad _=>trivial
  |deep _=>rw[hm] at h;exact h
def dp(X:fm)(pd:ao)(u:aa):Prop:=∀t r',10::t<:+u->l6 pd t= .inl r'->pd=[]\/X.E.H X.c0 r' []
theorem dp.sfx{X:fm}{pd:ao}{u v:aa}(h:dp X pd u)(a:v<:+u):dp X pd v:=λt r' b c=>h t r' (b.trans a) c
theorem dp.nil{X:fm}{u:aa}:dp X [] u:=λ_ _ _ _=> .inl rfl
theorem aoX{X:fm}{t:aa}{pd:ao}(h:dp X pd (10::t)):bX X (λr=>r=t) pd (iW (10::t) pd):=by
 show bX X _ pd (match l6 pd t with| .inl r'=>dD.ok () r' []| .inr nd=> .more [[60,60]] nd []);cases a:l6 pd t with
 |inl r'=>
  rcases h t r' fT a with rfl|ad
  ·cases a;exact .inl ⟨rfl,rfl⟩
  ·exact .inr ad
 |inr nd=>trivial
abbrev wi(D:ak Unit):ak Unit:=cA D (some (eF D))
def Jp(D:ak Unit):Unit->ak (Unit⊕Unit):=λ_ r pd=>match r with
 |[]=>b3 [] r pd
 |_::_=>if cW r then .ok (.inr ()) r pd else(ae (wi D) λ_=>aY (.inl ())) r pd
def F8(c:UInt8)(p:ak Unit):Unit->ak (Unit⊕Unit):=λ_ r pd=>match r with
 |[]=>b3 [] r pd
 |b::t=>if b=c then .ok (.inr ()) t pd else(ae p λ_=>aY (.inl ())) r pd
theorem TR(D:ak Unit):cI D=b7 (Jp D) ():=rfl
theorem aa9(c:UInt8)(p:ak Unit):iX c p=b7 (F8 c p) ():=rfl
section
variable{X:fm}{m:Nat}(hm:X.c0<=m){D:ak Unit}(hD:ai X.E m D)
theorem aoY(hD:ai X.E m D)(s:Unit):ai X.E m (Jp D s):=by
 intro r pd h;unfold Jp;cases r with
 |nil=>trivial
 |cons b t=>
  simp only;by_cases a:cW (b::t)=true
  ·rw[bh a];exact⟨fT,h.q⟩
  ·rw[aP a];exact ai.ae X.ok (ai.yM X.ok hD) (λ_=>ai.ret _) _ _ h
theorem aoZ{p:ak Unit}(aB:ai X.E m p)(c:UInt8)(s:Unit):ai X.E m (F8 c p s):=by
 intro r pd h;unfold F8;cases r with
 |nil=>trivial
 |cons b t=>
  simp only;by_cases a:b=c
  ·rw[bh a];exact⟨ee _ _,(h.qu X.ok (ee b t)).q⟩
  ·rw[aP a];exact ai.ae X.ok aB (λ_=>ai.ret _) _ _ h
theorem ox.inl{x:ak Unit}{r:aa}{pd:ao}(h:ox X (x r pd)):ox X (ae x (λ_=>(aY (.inl ()):ak (Unit⊕Unit))) r pd):=by
 unfold ae;cases b:x r pd with
 |ok a r' c=>rw[b] at h;exact h
 |more _ _ _=>trivial
 |bad _=>trivial
 |deep _=>rw[b] at h;exact h
include hm hD
theorem aa_{p v:aa}{pd:ao}(a:cW (p++v)=false)(aB:p≠[])(h:wi D (p++v) pd= .ok () v pd\/ox X (wi D (p++v) pd)):jE X (cI D (p++v) pd) (cI D v pd):=by
 rw[TR];have hl:v.length<(p++v).length:=by grind[List.length_pos_iff]
 refine jE.rep hm (aoY hD) hl ?_;have he:Jp D () (p++v) pd=ae (wi D) (λ_=>aY (.inl ())) (p++v) pd:=by unfold Jp;grind
 rw[he];rcases h with h|h
 ·left;rw[aM h];rfl
 ·right;exact h.inl
theorem No{p v:aa}{pd:ao}{c:UInt8}{q:ak Unit}(a:ai X.E m q)(aF:p.head?≠some c)(aB:p≠[])(h:q (p++v) pd= .ok () v pd\/ox X (q (p++v) pd)):jE X (iX c q (p++v) pd) (iX c q v pd):=by
 rw[aa9];have hl:v.length<(p++v).length:=by grind[List.length_pos_iff]
 refine jE.rep hm (aoZ a c) hl ?_;have he:F8 c q () (p++v) pd=ae q (λ_=>aY (.inl ())) (p++v) pd:=by
  unfold F8;cases p with
  |nil=>grind
  |cons b t=>grind
 rw[he];rcases h with h|h
 ·left;rw[aM h];rfl
 ·right;exact h.inl
end
def eM(X:fm)(D:ak Unit)(w:aa):Prop:=∀v pd,v≠[]->dp X pd (w++v)->jE X (cI D (w++v) pd) (cI D v pd)/\jE X (iX 125 (wi D) (w++v) pd) (iX 125 (wi D) v pd)
theorem zc{b:UInt8}{t:aa}(ad:gb b=false)(a:b≠10)(c:oR b=false):cW (b::t)=false:=by show(gb b||b==10||bt (b::t)!=[])=false;grind[nY]
section
variable{X:fm}{m:Nat}(hm:X.c0<=m){D:ak Unit}(hD:ai X.E m D)
theorem eM.app{d c:aa}(ad:eM X D d)(f:eM X D c):eM X D (d++c):=by intro v pd e aw;rw[tS] at aw⊢;have a:=ad (c++v) pd (by simp[e]) aw;have b:=f v pd e (aw.sfx (gP _ _));exact⟨a.1.trans b.1,a.2.trans b.2⟩
include hm hD
theorem eM.part{p:aa}(b:∀v,cW (p++v)=false)(aB:p≠[])(aF:p.head?≠some 125)(h:∀v pd,v≠[]->dp X pd (p++v)->wi D (p++v) pd= .ok () v pd\/ox X (wi D (p++v) pd)):eM X D p:=by intro v pd a aw;exact⟨aa_ hm hD (b v) aB (h v pd a aw),No hm (hD:=hD) (ai.yM X.ok hD) aF aB (h v pd a aw)⟩
theorem eM.byte{b:UInt8}(ad:gb b=false)(a:b≠10)(c:oR b=false)(d:b≠92/\b≠39/\b≠34/\b≠96/\b≠36/\b≠125):eM X D [b]:=by refine eM.part hm hD (λv=>zc ad a c) (by simp) (by grind) (λv pd e aw=> .inl ?_);simp_all[cA,sD]
theorem eM.bytes:∀{w:aa},w≠[]->(w.all λb=> !gb b&&b !=10&& !oR b&&b !=92&&b !=39&&b !=34&&b !=96&&b !=36&&b !=125)=true->eM X D w
 |[],h,_=>absurd rfl h
 |[b],_,h=>by grind[eM.byte]
 |b::c::t,_,h=>by rw[A4,g7] at h;have h0:=h.1;simp at h0;have a:eM X D [b]:=eM.byte hm hD h0.1.1.1.1.1.1.1.1 h0.1.1.1.1.1.1.1.2 h0.1.1.1.1.1.1.2 ⟨h0.1.1.1.1.1.2,h0.1.1.1.1.2,h0.1.1.1.2,h0.1.1.2,h0.1.2,h0.2⟩;have d:=eM.bytes (w:=c::t) (by simp) h.2;have:=a.app d;exact this
theorem eM.single{x:aa}(a:(39:UInt8)∉x):eM X D (39::x++[39]):=by
 have c:∀v,gk (x++39::v)=some v:=by
  intro v;induction x with
  |nil=>rfl
  |cons b t d=>simp only[kZ,Gk] at a;simp_all[gk,xO]
 refine eM.part hm hD (λv=>zc (by decide) (by decide) (by decide)) (by simp) (by simp) (λv pd e aw=> .inl ?_);simp_all[cA,sD,jr]
theorem eM.tick{x:aa}(a:∀v,gW (x++96::v)=some v):eM X D (96::x++[96]):=by refine eM.part hm hD (λv=>zc (by decide) (by decide) (by decide)) (by simp) (by simp) (λv pd b aw=> .inl ?_);show cA D (some (eF D)) (96::(x++[96]++v)) pd=_;simp_all[cA,jr]
theorem eM.aba(b:UInt8):eM X D [92,b]:=by refine eM.part hm hD (λv=>zc (by decide) (by decide) (by decide)) (by simp) (by simp) (λv pd a aw=> .inl ?_);rfl
end
def tQ(X:fm)(D:ak Unit)(x:aa):Prop:=∀v pd,v≠[]->dp X pd (x++v)->jE X (iX 34 (cA D none) (x++v) pd) (iX 34 (cA D none) v pd)
theorem abb{c:UInt8}{p:ak Unit}{v:aa}{pd:ao}:iX c p (c::v) pd= .ok () v pd:=by simp[aa9,cq,F8,cP]
section
variable{X:fm}{m:Nat}(hm:X.c0<=m){D:ak Unit}(hD:ai X.E m D)
theorem tQ.app{b a:aa}(ad:tQ X D b)(d:tQ X D a):tQ X D (b++a):=by intro v pd c aw;rw[tS] at aw⊢;exact(ad (a++v) pd (by simp[c]) aw).trans (d v pd c (aw.sfx (gP _ _)))
theorem jE.named{x:aa}{α:Type}{f g:ak α}{r r':aa}{pd a:ao}(h:jE X (f r pd) (g r' a)):jE X (f.named x r pd) (g.named x r' a):=by
 rcases h with h|h
 ·left;grind[ak.named]
 ·right;unfold ak.named;cases hf:f r pd<;>rw[hf] at h<;>first|exact h|trivial
theorem jE.aJ{x:aa}{α:Type}{f g:ak α}{r r':aa}{pd a:ao}(h:jE X (f r pd) (g r' a)):jE X (f.aJ x r pd) (g.aJ x r' a):=by
 rcases h with h|h
 ·left;grind[ak.aJ]
 ·right;unfold ak.aJ;cases hf:f r pd<;>rw[hf] at h<;>first|exact h|trivial
include hm hD
theorem eM.double{x:aa}(a:tQ X D x):eM X D (34::x++[34]):=by
 refine eM.part hm hD (λv=>zc (by decide) (by decide) (by decide)) (by simp) (by simp) (λv pd d aw=>?_);have he:wi D (34::x++[34]++v) pd=eF D (x++34::v) pd:=by simp[cA,sD]
 rw[he];have b:dp X pd (x++34::v):=aw.sfx ⟨[34],by simp⟩;have ad:jE X (eF D (x++34::v) pd) (eF D (34::v) pd):=(a (34::v) pd (by simp) b).aJ.named;have c:eF D (34::v) pd= .ok () v pd:=by simp[eF,ak.named,ak.aJ,abb]
 rw[c] at ad;exact ad
theorem tQ.byte{b:UInt8}(c:b≠92/\b≠34/\b≠96/\b≠36):tQ X D [b]:=by intro v pd d aw;refine No hm (hD:=hD) (ai.part X.ok hD (λq a=>by cases a)) (by grind) (by simp) (.inl ?_);simp_all[cA,sD]
theorem eM.TS:eM X D [36,120]:=by
 intro v pd d aw;have ad:wi D (36::120::v) pd= .ok () (120::v) pd:=by rfl
 have a:=eM.byte hm hD (b:=120) (by decide) (by decide) (by decide) (by decide) v pd d (aw.sfx (ee _ _));have e:=aa_ hm hD (p:=[36]) (v:=120::v) (pd:=pd) (zc (by decide) (by decide) (by decide)) (by simp) (.inl ad);have a2:=No hm (hD:=hD) (p:=[36]) (v:=120::v) (pd:=pd) (c:=125) (ai.yM X.ok hD) (by simp) (by simp) (.inl ad);exact⟨e.trans a.1,a2.trans a.2⟩
theorem eM.arith{lo:Option dT}(hl:D=dw lo):eM X D [36,40,40,49,43,40,50,41,41,41]:=by refine eM.part hm hD (λv=>zc (by decide) (by decide) (by decide)) (by simp) (by simp) (λv pd a aw=> .inl ?_);show cA D (some (eF D)) (36::40::40::49::43::40::50::41::41::41::v) pd=_;unfold cA;simp only;rw[aP (by decide),aP (by decide),bh (by rfl),hl];rfl
theorem eM.consts{lo:Option dT}(hl:D=dw lo):∀w∈o0,eM X D w:=by
 have a:∀{w:aa},w≠[]->(w.all λb=> !gb b&&b !=10&& !oR b&&b !=92&&b !=39&&b !=34&&b !=96&&b !=36&&b !=125)=true->eM X D w:=λad d=>eM.bytes hm hD ad d
 intro w c;simp only[o0,F6,hF,sV,kZ,qD,tU] at c;rcases c with rfl|rfl|rfl|rfl|rfl|rfl|rfl|rfl|rfl|rfl|rfl|rfl|rfl|rfl|rfl
 ·exact eM.single hm hD (x:=[113,32,114]) (by decide)
 ·exact eM.double hm hD (x:=[97,32,98]) (((tQ.byte hm hD (b:=97) (by decide)).app (tQ.byte hm hD (b:=32) (by decide))).app (tQ.byte hm hD (b:=98) (by decide)))
 ·exact((a (w:=[97]) (by simp) (by decide)).app (eM.aba hm hD 32)).app (a (w:=[98]) (by simp) (by decide))
 ·grind[eM.TS]
 ·grind[eM.arith]
 ·exact eM.tick hm hD (x:=[99,32,100]) (λv=>by simp[gW];unfold gW;simp)
 ·exact a (by simp) (by decide)
 ·exact((a (w:=[97]) (by simp) (by decide)).app (eM.aba hm hD 10)).app (a (w:=[98]) (by simp) (by decide))
 ·exact a (by simp) (by decide)
 ·exact a (by simp) (by decide)
 ·exact a (by simp) (by decide)
 ·exact a (by simp) (by decide)
 ·exact a (by simp) (by decide)
 ·exact a (by simp) (by decide)
 ·exact a (by simp) (by decide)
end
def oy(d:Nat)(x:aa):Prop:=∀v,h1 d (x++v)=h1 d v\/∃q,h1 d (x++v)= .bad q
def dO(x:aa):Prop:=∀d,oy d x
theorem oy.app{d:Nat}{x y:aa}(ad:oy d x)(a:oy d y):oy d (x++y):=by
 intro v;rw[tS];rcases ad (y++v) with h|h
 ·rw[h];exact a v
 grind
theorem dO.app{x y:aa}(ad:dO x)(a:dO y):dO (x++y):=λd=>(ad d).app (a d)
theorem dO.nil:dO []:=λd v=> .inl rfl
theorem dO.bad{b:UInt8}{x:aa}(h:b=39\/b=34\/b=92\/b=96):dO (b::x):=by intro d v;right;rw[hF,vS,bh (by grind)];simp
theorem dO.opens{c:UInt8}{x:aa}(h:c=40\/c=123):dO (36::c::x):=by intro d v;right;rw[List.cons_append,vS,if_pos (by grind[fQ])];simp
theorem dO.byte{b:UInt8}(h:b≠39/\b≠34/\b≠92/\b≠96/\b≠36/\b≠40/\b≠41):dO [b]:=by intro d v;simp_all[vS,sD]
theorem dO.bytes:∀{w:aa},(w.all λb=>b !=39&&b !=34&&b !=92&&b !=96&&b !=36&&b !=40&&b !=41)=true->dO w
 |[],_=>dO.nil
 |b::t,h=>by rw[A4,g7] at h;have h0:=h.1;simp at h0;have:=(dO.byte (b:=b) ⟨h0.1.1.1.1.1.1,h0.1.1.1.1.1.2,h0.1.1.1.1.2,h0.1.1.1.2,h0.1.1.2,h0.1.2,h0.2⟩).app (dO.bytes h.2);exact this
theorem dO.paren{x:aa}(h:dO x):dO ([40]++x++[41]):=by
 intro d v;have ad:h1 d ([40]++x++[41]++v)=h1 (d+1) (x++41::v):=by show h1 d (40::(x++[41]++v))=_;simp[vS,fQ]
 rw[ad];rcases h (d+1) (41::v) with af|af
 ·simp_all[vS,fQ]
 grind
theorem dO.TS:dO [36,120]:=by intro d v;simp[vS,fQ]
theorem dO.consts:∀w∈o0,dO w:=by
 intro w a;simp only[o0,F6,hF,sV,kZ,qD,tU] at a;rcases a with rfl|rfl|rfl|rfl|rfl|rfl|rfl|rfl|rfl|rfl|rfl|rfl|rfl|rfl|rfl
 ·simp[dO.bad]
 ·simp[dO.bad]
 ·exact(dO.bytes (w:=[97]) (by decide)).app (dO.bad (b:=92) (x:=[32,98]) (by simp))
 ·exact dO.TS
 ·simp[dO.opens]
 ·simp[dO.bad]
 ·simp[dO.bytes]
 ·exact(dO.bytes (w:=[97]) (by decide)).app (dO.bad (b:=92) (x:=[10,98]) (by simp))
 ·simp[dO.bytes]
 ·simp[dO.bytes]
 ·simp[dO.bytes]
 ·simp[dO.bytes]
 ·simp[dO.bytes]
 ·simp[dO.bytes]
 simp[dO.bytes]
theorem dO.word{d:Nat}{w:aa}(h:h5 d w):dO w:=by
 cases d with
 |zero=>exact dO.consts w h
 |succ d=>
  rcases h with h|⟨t,_,h|h⟩|⟨v,_,h⟩
  ·grind[dO.consts]
  ·simp_all[dO.opens]
  ·grind[dO.bad]
  simp_all[dO.opens]
theorem dO.args{W:aa->Prop}(hW:∀w,W w->dO w):∀{ws:bl},(∀w∈ws,W w)->dO (jS ws)
 |[],_=>dO.nil
 |w::t,h=>by have:=(dO.bytes (w:=[32]) (by decide)).app ((hW w (h w (by simp))).app (dO.args hW (ws:=t) (λw a=>h w (by grind))));exact this
theorem ao0:∀h∈sO,dO h:=by intro h a;simp only[sO,kZ,qD,tU] at a;rcases a with rfl|rfl|rfl|rfl<;>exact dO.bytes (by decide)
theorem dO.simple{W a:aa->Prop}(hW:∀w,W w->dO w)(e:∀w,a w->dO w){s:aa}(h:rP W a s):dO s:=by
 obtain⟨c,ws,r,ad,b,rfl,d⟩:=h;refine((ao0 c ad).app (dO.args hW b)).app ?_;rcases d with rfl|rfl|⟨w,f,rfl⟩
 ·exact dO.nil
 ·simp[dO.bytes]
 grind[dO.bytes,dO.app]
theorem ao1:∀h∈jD,dO h:=by intro h a;simp only[jD,kZ,qD,tU] at a;rcases a with rfl|rfl|rfl|rfl|rfl|rfl|rfl|rfl<;>exact dO.bytes (by decide)
theorem oy.rest{d:Nat}{C:aa->Prop}(a:∀c,C c->oy d c):∀{l:List (aa×aa)},(∀p∈l,p.1∈jD/\C p.2)->oy d (c1 l)
 |[],_=>dO.nil d
 |p::t,h=>by have:=((ao1 p.1 (h p (by simp)).1 d).app (a p.2 (h p (by simp)).2)).app (oy.rest a (l:=t) (λq b=>h q (by grind)));exact this
theorem oy.ao2{c:aa}(h:zb 1 c):oy 0 c:=by
 rcases h with h|h
 ·exact dO.simple (λw f=>dO.word (d:=1) f) (λw f=>dO.word (d:=0) f) h 0
 ·have bn:∀t,iv 0 t->dO t:=λt j=>by
   intro d;obtain⟨c,l,ad,e,rfl⟩:=j;have i:∀c,rP (λw=>w∈o0) (λw=>w∈o0) c->oy d c:=λc aF=>dO.simple dO.consts dO.consts aF d
   exact(i c ad).app (oy.rest i e)
  have hW:∀w,h5 0 w->dO w:=λw f=>dO.consts w f
  have a:∀{w:aa},(w.all λb=>b !=39&&b !=34&&b !=92&&b !=96&&b !=36&&b !=40&&b !=41)=true->dO w:=λh=>dO.bytes h
  rcases h with⟨t,ad,rfl⟩|⟨t,ad,rfl⟩|⟨t,u,ad,e,rfl⟩|⟨t,u,ad,e,rfl⟩|⟨t,u,ad,e,rfl⟩|⟨w,u,ad,e,rfl⟩|rfl|⟨w,u,ad,e,rfl⟩|⟨t,ad,rfl⟩
  ·exact dO.paren (bn t ad) 0
  ·exact(((a (by decide)).app ((bn t ad).app (a (by decide)))).app (a (by decide))) 0
  ·exact(((((a (by decide)).app ((bn t ad).app (a (by decide)))).app (a (by decide))).app ((bn u e).app (a (by decide)))).app (a (by decide))) 0
  ·exact(((((a (by decide)).app ((bn t ad).app (a (by decide)))).app (a (by decide))).app ((bn u e).app (a (by decide)))).app (a (by decide))) 0
  ·exact(((((a (by decide)).app ((bn t ad).app (a (by decide)))).app (a (by decide))).app ((bn u e).app (a (by decide)))).app (a (by decide))) 0
  ·exact(((((a (by decide)).app (hW w ad)).app (a (by decide))).app ((bn u e).app (a (by decide)))).app (a (by decide))) 0
  ·exact a (by decide) 0
  ·
   have g:oy 0 ([99,97,115,101,32]++w++[32,105,110,32,97,124,98]):=(((a (by decide)).app (hW w ad)).app (a (by decide))) 0;intro v;have he:[99,97,115,101,32]++w++[32,105,110,32,97,124,98,41,32]++(u++[])++[59,59,10,40,99,41,32,59,59,32,100,41,32,101,115,97,99]++v=([99,97,115,101,32]++w++[32,105,110,32,97,124,98])++(41::32::(u++[59,59,10,40,99,41,32,59,59,32,100,41,32,101,115,97,99]++v)):=by simp
   rw[he];right;rcases g (41::32::(u++[59,59,10,40,99,41,32,59,59,32,100,41,32,101,115,97,99]++v)) with aV|aV
   ·simp_all[vS]
   omega
  ·have g:dO ([102]++([40]++[]++[41])++[32,123,10]++(t++[10])++[125,32,62,102]):=((((a (by decide)).app (dO.paren dO.nil)).app (a (by decide))).app ((bn t ad).app (a (by decide)))).app (a (by decide));exact g 0
theorem oy.ao3{d:Nat}(aG:d<=1){t:aa}(h:iv d t):oy 0 t:=by
 rw[Nl] at h;obtain⟨c,l,ad,e,rfl⟩:=h
 have b:∀c,zb d c->oy 0 c:=by
  intro c aF;rcases Nat.le_one_iff_eq_zero_or_eq_one.1 aG with rfl|rfl
  ·exact dO.simple (λw a=>dO.word (d:=0) a) (λw a=>dO.word (d:=0) a) aF 0
  grind[oy.ao2]
 exact(b c ad).app (oy.rest b e)
def TT(X:fm)(m d:Nat):Prop:=∀t v pd,iv d t->dp X pd (t++41::v)->bX X (λr=>r=41::v) pd ((aS true m).ls .paren true (t++41::v) pd)
theorem zd(v:aa):bq (41::v)=some (41::v):=by unfold bq;rfl
theorem ze(v:aa):ar (41::v)= .op [41]:=by rfl
theorem ao4{d:Nat}{c:aa}(h:zb d c):∃b t,c=b::t/\(b=40->∃a u,d=a+1/\iv a u/\c=[40]++u++[41]):=by
 have g:∀{W f:aa->Prop},rP W f c->∃b t,c=b::t/\(b=40->∃a u,d=a+1/\iv a u/\c=[40]++u++[41]):=by rintro W f ⟨x,ws,r,ad,e,rfl,i⟩;simp only[sO,kZ,qD,tU] at ad;grind
 cases d with
 |zero=>exact g h
 |succ d=>
  rcases h with h|h
  ·grind
  ·rcases h with⟨t,ad,rfl⟩|⟨t,ad,rfl⟩|⟨t,u,ad,e,rfl⟩|⟨t,u,ad,e,rfl⟩|⟨t,u,ad,e,rfl⟩|⟨w,u,ad,e,rfl⟩|rfl|⟨w,u,ad,e,rfl⟩|⟨t,ad,rfl⟩
   ·grind
   all_goals simp
theorem ao5:∀j∈jD,∃b t,j=b::t/\b≠41:=by simp[jD]
section
variable{X:fm}{m:Nat}(hm:X.c0<=m)
include hm in
theorem abc{d:Nat}(aG:d<=2)(ev:TT X m d)(bn:xe X.E m){t v:aa}{pd:ao}(ht:iv d t)(aw:dp X pd ([36,40]++t++[41]++v)):dw (some (aS true m)) ([36,40]++t++[41]++v) pd= .ok () v pd\/ox X (dw (some (aS true m)) ([36,40]++t++[41]++v) pd):=by
 have he:[36,40]++t++[41]++v=36::40::(t++41::v):=by simp
 rw[he] at aw⊢;have uQ:=ht;rw[Nl] at uQ;obtain⟨c,l,ad,af,my⟩:=uQ;obtain⟨b,mf,aF,gG⟩:=ao4 ad;by_cases hb:b=40
 ·
  obtain⟨d1,u,rfl,hu,MF⟩:=gG hb;subst my;have df:dw (some (aS true m)) (36::40::(c++c1 l++41::v)) pd=nB (u++(41::(c1 l++41::v))) pd:=by rw[MF];unfold dw;rw[bh (by simp)];show nB _ pd=_;simp
  rw[df];unfold nB;rcases oy.ao3 (by omega) hu (41::(c1 l++41::v)) with av|⟨q,av⟩
  ·rw[av];cases l with
   |nil=>left;rfl
   |cons p l=>
    obtain⟨ao6,ao7,cw,asA⟩:=ao5 p.1 (af p (by simp)).1;right
    have:∃q,h1 0 (41::(c1 (p::l)++41::v))= .bad q:=by
     have aj:c1 (p::l)++41::v=ao6::(ao7++p.2++c1 l++41::v):=by grind[c1]
     simp_all[vS]
    obtain⟨q,aE⟩:=this;rw[aE];trivial
  ·right;rw[av];trivial
 ·have df:dw (some (aS true m)) (36::40::(t++41::v)) pd=sv (aS true m) (t++41::v) pd:=by
   have abd:∃Ru,t=b::Ru:=⟨mf++c1 l,by grind⟩
   obtain⟨Ru,abd⟩:=abd;unfold dw;rw[aP (by grind),if_pos (by simp)];rfl
  rw[df];have hG:dp X pd (t++41::v):=aw.sfx ⟨[36,40],rfl⟩;have av:=ev t v pd ht hG;have aV:bX X (λr=>r=v) pd (sv (aS true m) (t++41::v) pd):=by unfold sv;refine bX.ae hm av.aJ.named (λa r' _ xj=>?_) (λa=>ai.jA X.ok _);subst xj;rw[Fl (zd v) (ze v)];exact .inl ⟨rfl,rfl⟩
  cases aB:sv (aS true m) (t++41::v) pd with
  |ok a r' aC=>
   rw[aB] at aV;rcases aV with⟨rfl,rfl⟩|aV
   ·simp
   ·exact .inr aV
  |more _ _ _=>right;trivial
  |bad _=>right;trivial
  |deep _=>rw[aB] at aV;exact aV.elim
end
theorem ao8(n:Nat):(aS true n).pm=qV (aS true n).dl:=by cases n<;>rfl
theorem abe{E:ln}(ok:E.mY){m:Nat}(bn:xe E m):ai E (m+1) (dw (some (aS true m))):=ai.RL ok (.inr ⟨m,rfl,rfl,bn⟩)
section
variable{X:fm}{m:Nat}(hm:X.c0<=m)(bn:xe X.E m)
include hm bn
theorem ao9{w v:aa}{pd:ao}(c:eM X (aS true m).dl w)(aw:dp X pd ([36,123,120,58,45]++w++[125]++v)):dw (some (aS true m)) ([36,123,120,58,45]++w++[125]++v) pd= .ok () v pd\/ox X (dw (some (aS true m)) ([36,123,120,58,45]++w++[125]++v) pd):=by
 have he:[36,123,120,58,45]++w++[125]++v=36::123::([120,58,45]++(w++125::v)):=by simp
 rw[he] at aw⊢;have d:dw (some (aS true m)) (36::123::([120,58,45]++(w++125::v))) pd=((aS true m).pm.named [36,123]) ([120,58,45]++(w++125::v)) pd:=by rfl
 rw[d,ao8];have a:dp X pd ([120,58,45]++(w++125::v)):=aw.sfx ⟨[36,123],rfl⟩;have ad:=(eM.bytes hm bn.dl (w:=[120,58,45]) (by simp) (by decide) (w++125::v) pd (by simp) a).2;have e:=(c (125::v) pd (by simp) (a.sfx (gP _ _))).2;have b:=(ad.trans e);rw[abb] at b;have f:jE X (((qV (aS true m).dl).named [36,123]) ([120,58,45]++(w++125::v)) pd) (.ok () v pd):=by have:jE X (((iX 125 (wi (aS true m).dl)).aJ [125]).named [36,123] ([120,58,45]++(w++125::v)) pd) (((aY ():ak Unit).aJ [125]).named [36,123] v pd):=jE.named (jE.aJ b);exact this
 exact f
theorem eM.TU{p:aa}(aB:∃c q,p=36::c::q/\(c=40\/c=123))(h:∀v pd,v≠[]->dp X pd (p++v)->dw (some (aS true m)) (p++v) pd= .ok () v pd\/ox X (dw (some (aS true m)) (p++v) pd)):eM X (dw (some (aS true m))) p/\tQ X (dw (some (aS true m))) p:=by
 obtain⟨c,q,rfl,aF⟩:=aB;have hD:=abe X.ok bn
 have d:∀dq v pd,cA (dw (some (aS true m))) dq (36::c::q++v) pd=dw (some (aS true m)) (36::c::q++v) pd:=by intro dq v pd;show cA (dw (some (aS true m))) dq (36::c::(q++v)) pd=_;unfold cA;simp only;rw[aP (by decide),aP (by decide),bh (by rcases aF with rfl|rfl<;>rfl)];rfl
 refine⟨eM.part (by omega) hD (λv=>zc (by decide) (by decide) (by decide)) (by simp) (by simp) (λv pd a aw=>?_),λv pd a aw=>?_⟩
 ·grind
 ·refine No (m:=m+1) (by omega) (hD:=hD) (ai.part X.ok hD (λq b=>by cases b)) (by simp) (by simp) ?_;grind
theorem abf{d:Nat}(aG:d<=2)(ev:TT X m d)(hW:∀w,h5 d w->eM X (aS true m).dl w):∀w,h5 (d+1) w->eM X (dw (some (aS true m))) w:=by
 have hD:=abe X.ok bn;intro w h;rcases h with h|⟨t,ad,h|h⟩|⟨v,ad,h⟩
 ·exact eM.consts (m:=m+1) (by omega) hD rfl w h
 ·subst h;exact(eM.TU hm bn ⟨40,t++[41],rfl,.inl rfl⟩ (λv pd a aw=>abc hm aG ev bn ad aw)).1
 ·subst h;have c:=(eM.TU hm bn (p:=[36,40]++t++[41]) ⟨40,t++[41],rfl,.inl rfl⟩ (λv pd a aw=>abc hm aG ev bn ad aw)).2;have e:=eM.double (m:=m+1) (by omega) hD (tQ.app (tQ.byte (m:=m+1) (by omega) hD (b:=120) (by decide)) c);grind
 ·subst h;exact(eM.TU hm bn ⟨123,[120,58,45]++v++[125],rfl,.inr rfl⟩ (λu pd hu aw=>ao9 hm bn (hW v ad) aw)).1
end
structure hN(v cF:aa):Prop where
 ne:v≠[]
 pU:cW v=true
 rR:bq v=some cF
 Np:ar cF= .line\/∃o,ar cF= .op o/\eZ o=false/\o≠[40]
theorem hN.idem{v a:aa}(h:hN v a):bq a=some a:=kG _ _ _ (cX _) h.rR
theorem hN.ao_{v c:aa}(h:hN v c):eZ (bt (c.dropWhile ca))=false:=by
 rcases h.Np with a|⟨o,a,ad,d⟩
 ·obtain⟨t,rfl⟩:=vT a;rfl
 ·have e:=(iq a).1;have bc:=(iq a).2.2.2;cases c with
  |nil=>simp_all
  |cons b t=>
   have f:ca b=false:=by
    cases aG:ca b with
    |false=>rfl
    |true=>simp_all[AB,nY]
   simp_all
theorem hN.ji{v a:aa}(h:hN v a)(D:ak Unit)(pd:ao):dv D v pd= .ok false a pd:=uU h.rR h.ao_
theorem hN.mL{v a:aa}(h:hN v a)(D:ak Unit)(pd:ao):gI D v pd= .ok () a pd:=by unfold gI;rw[cq,aM (h.ji D pd)];rfl
theorem hN.simple{v b:aa}(h:hN v b)(D:ak Unit)(pd:ao):hg true D v pd= .ok () b pd:=by
 unfold hg;rw[cq,aM (h.ji D pd)];simp only[eB,cr];rw[aM (cb h.idem)];rcases h.Np with a|⟨o,a,ad,c⟩
 ·rw[a];rfl
 ·rw[a];simp only;rw[aP (λd=>c d.2)];rfl
def xF(w:aa):Prop:=∃b t,w=b::t/\gb b=false/\b≠10/\b≠92/\b≠35/\oR b=false/\ca b=false
theorem Nq{d:Nat}{w:aa}(h:h5 d w):xF w:=by
 have hk:∀w∈o0,xF w:=by intro w a;simp only[o0,F6,hF,sV,kZ,qD,tU] at a;rcases a with rfl|rfl|rfl|rfl|rfl|rfl|rfl|rfl|rfl|rfl|rfl|rfl|rfl|rfl|rfl<;>exact⟨_,_,rfl,by decide,by decide,by decide,by decide,by decide,by decide⟩
 cases d with
 |zero=>exact hk w h
 |succ d=>
  rcases h with h|⟨t,_,h|h⟩|⟨v,_,h⟩
  ·grind
  all_goals (subst h;exact⟨_,_,rfl,by decide,by decide,by decide,by decide,by decide,by decide⟩)
theorem xF.tok{w u:aa}(h:xF w):bq (w++u)=some (w++u)/\(∃x p,ar (w++u)= .word x p)/\eZ (bt ((w++u).dropWhile ca))=false:=by
 obtain⟨b,t,rfl,ad,e,a,c,d,f⟩:=h;refine⟨j3 ad c a,?_,?_⟩
 ·show∃x p,ar (b::(t++u))= .word x p
  have:ar (b::(t++u))=if b=10 then Tok.line else if bt (b::(t++u))≠[] then .op (bt (b::(t++u))) else .word (c5 (b::(t++u))).1 (c5 (b::(t++u))).2:=rfl
  simp_all[nY]
 ·have:(b::t++u).dropWhile ca=b::t++u:=by simp_all
  rw[this,hF,nY d];decide
section
variable{X:fm}{m:Nat}(hm:X.c0<=m){D:ak Unit}(hD:ai X.E m D)
include hm hD
theorem apa{w u:aa}{pd:ao}(a:xF w)(c:eM X D w)(hu:cW u=true)(d:u≠[])(aw:dp X pd (w++u)):jE X (hg true D (32::(w++u)) pd) (hg true D u pd):=by
 obtain⟨cm,⟨x,p,e⟩,f⟩:=a.tok (u:=u);have g:bq (32::(w++u))=some (w++u):=by grind[jN]
 unfold hg;have h:cI D u pd= .ok () u pd:=by
  rw[TR,cq];cases u with
  |nil=>grind
  |cons b t=>show cP _ _ (if cW (b::t)=true then _ else _)=_;rw[bh hu];rfl
 have ad:=(c u pd d aw).1;rw[h] at ad;refine jE.rep hm (λs=>?_) (s:=()) (s':=()) (v:=u) (by grind) ?_
 ·refine ai.ae X.ok (ai.ji X.ok hD) λb=>ai.ite (ai.ret _) (ai.fS X.ok λt=>?_);cases t with
  |word _ _=>exact ai.ae X.ok (ai.cI X.ok hD) λ_=>ai.ret _
  |op o=>simp[ai.ite,ai.bK,ai.ret]
  |line=>simp[ai.ret]
  |eof=>simp[ai.ret]
 ·rw[aM (uU g f)];simp only[eB,cr];rw[aM (cb cm),e];simp only;rcases ad with ad|ad
  ·left;rw[aM ad];rfl
  ·right;exact ad.inl
end
theorem Jq{D:ak Unit}{u:aa}{pd:ao}(hu:cW u=true)(a:u≠[]):cI D u pd= .ok () u pd:=by
 rw[TR,cq];cases u with
 |nil=>grind
 |cons b t=>show cP _ _ (if cW (b::t)=true then _ else _)=_;rw[bh hu];rfl
def F9(D:ak Unit):Unit->ak (Unit⊕Unit):=λ_=>ae (dv D) λb=>if b then aY (.inl ()) else ae (bN []) λt=>match t with
 | .word _ _=>ae (cI D) λ_=>aY (.inl ())
 | .op o=>if true/\o=[40] then bK else aY (.inr ())
 |_=>aY (.inr ())
theorem abg{b:UInt8}{t:aa}(h:oR b=false):bt (62::b::t)=[62]:=by simp only[oR,Jw,NN,ne_eq] at h;simp_all[xO,bt,lh]
theorem ox.ae{X:fm}{n:Nat}(aw:X.c0<=n){α β:Type}{f:ak α}{k:α->ak β}{r:aa}{pd:ao}(h:ox X (f r pd))(hk:∀a,ai X.E n (k a)):ox X (Go.Eng.ae f k r pd):=by
 unfold Go.Eng.ae;cases b:f r pd with
 |ok a r' c=>
  rw[b] at h;have:=hk a r' c (ln.H.Nn h aw);simp only;cases d:k a r' c with
  |ok _ _ _=>rw[d] at this;exact ln.H.down X.ok h this.1 this.2
  |more _ _ _=>trivial
  |bad _=>trivial
  |deep _=>rw[d] at this;exact this
 |more _ _ _=>trivial
 |bad _=>trivial
 |deep _=>rw[b] at h;exact h
section
variable{X:fm}{m:Nat}(hm:X.c0<=m){D:ak Unit}(hD:ai X.E m D)
include hm hD
theorem abh{W:aa->Prop}(hW:∀w,W w->xF w/\eM X D w){u:aa}(hu:cW u=true)(c:u≠[]):∀{ws:bl}{pd:ao},(∀w∈ws,W w)->dp X pd (jS ws++u)->jE X (hg true D (jS ws++u) pd) (hg true D u pd)
 |[],pd,_,_=>jE.refl _
 |w::t,pd,h,aw=>by
  have he:jS (w::t)++u=32::(w++(jS t++u)):=by simp[jS]
  rw[he] at aw⊢;have b:dp X pd (w++(jS t++u)):=aw.sfx (ee _ _);have d:cW (jS t++u)=true:=by
   cases t with
   |nil=>grind[jS]
   |cons a t=>rfl
  obtain⟨ad,e⟩:=hW w (h w (by simp));exact(apa hm hD ad e d (by simp_all) b).trans (abh hW hu c (ws:=t) (λw f=>h w (by grind)) (b.sfx (List.suffix_append _ _)))
theorem apb{W:aa->Prop}(hW:∀w,W w->xF w/\eM X D w){r v c:aa}{pd:ao}(j:r=[]\/r=[32,50,62,38,49]\/∃w,W w/\r=[32,62]++w)(a:hN v c)(aw:dp X pd (r++v)):bX X (λq=>q=c) pd (hg true D (r++v) pd):=by
 have f:bX X (λq=>q=c) pd (hg true D v pd):=by rw[a.simple];exact .inl ⟨rfl,rfl⟩
 have d:∀s,ai X.E m (F9 D s):=λs=>by
  unfold F9;refine ai.ae X.ok (ai.ji X.ok hD) λb=>ai.ite (ai.ret _) (ai.fS X.ok λt=>?_);cases t with
  |word _ _=>exact ai.ae X.ok (ai.cI X.ok hD) λ_=>ai.ret _
  |op o=>simp[ai.ite,ai.bK,ai.ret]
  |line=>simp[ai.ret]
  |eof=>simp[ai.ret]
 have g:∀{u:aa},v.length<u.length->(dv D u pd= .ok true v pd\/ox X (dv D u pd))->jE X (hg true D u pd) (hg true D v pd):=by
  intro u hl h;show jE X (b7 (F9 D) () u pd) (b7 (F9 D) () v pd);refine jE.rep hm d hl ?_;rcases h with h|h
  ·left;unfold F9;rw[aM h];rfl
  ·right;unfold F9;refine ox.ae hm h λb=>ai.ite (ai.ret _) (ai.fS X.ok λt=>?_);cases t with
   |word _ _=>exact ai.ae X.ok (ai.cI X.ok hD) λ_=>ai.ret _
   |op o=>simp[ai.ite,ai.bK,ai.ret]
   |line=>simp[ai.ret]
   |eof=>simp[ai.ret]
 rcases j with rfl|rfl|⟨w,k,rfl⟩
 ·grind
 ·refine(g (u:=32::50::62::38::49::v) (by grind) (.inl ?_)).Jo f;have ad:fN (32::50::62::38::49::v) pd= .ok (some [62,38]) (49::v) pd:=by unfold fN;rw[jN,j3 (by decide) (by decide) (by decide)];rfl
  unfold dv;rw[aM ad];simp only;rw[aP (by decide),aP (by decide)];have e:jM D [120] (49::v) pd= .ok () v pd:=by
   unfold jM;rw[aM (cb (j3 (by decide) (by decide) (by decide)))]
   have:∃x p,ar (49::v)= .word x p:=by
    have:ar (49::v)=if(49:UInt8)=10 then Tok.line else if bt (49::v)≠[] then .op (bt (49::v)) else .word (c5 (49::v)).1 (c5 (49::v)).2:=rfl
    rw[this,aP (by decide),nY (by decide)];simp
   obtain⟨x,p,l⟩:=this;rw[l];simp only;rw[CB (zc (by decide) (by decide) (by decide)) (X1 (by decide)) (by simp),Jq a.pU a.ne]
  rw[aM e];rfl
 ·obtain⟨ad,e⟩:=hW w k;refine(g (u:=32::62::(w++v)) (by grind) ?_).Jo f;obtain⟨cm,⟨x,p,n⟩,C⟩:=ad.tok (u:=v);have y:fN (32::62::(w++v)) pd= .ok (some [62]) (w++v) pd:=by
   unfold fN;rw[jN,j3 (by decide) (by decide) (by decide)];obtain⟨b,t,rfl,_,_,_,_,br,_⟩:=ad;have z:bt (62::(b::t++v))=[62]:=abg br;have aG:(62::(b::t++v):aa).dropWhile ca=62::(b::t++v):=by rfl
   simp only;rw[aG,z,bh (by decide)];rfl
  have A:dp X pd (w++v):=aw.sfx ⟨[32,62],rfl⟩;have i:=(e v pd a.ne A).1;rw[Jq a.pU a.ne] at i;have br:jM D [120] (w++v) pd= .ok () v pd\/ox X (jM D [120] (w++v) pd):=by unfold jM;rw[aM (cb cm),n];exact i
  have B:dv D (32::62::(w++v)) pd=ae (jM D [120]) (λ_=>aY true) (w++v) pd:=by unfold dv;rw[aM y];simp
  rw[B];rcases br with br|br
  ·left;rw[aM br];rfl
  grind[ox.ae,ai.ret]
end
def abi(h:aa):Prop:=h≠[]/\h.all qs=true/\rF h=false/\qg h=false/\(∃b t,h=b::t/\gb b=false/\b≠92/\b≠35/\ca b=false/\oR b=false)
theorem apc:∀h∈sO,abi h:=by intro h a;simp only[sO,kZ,qD,tU] at a;rcases a with rfl|rfl|rfl|rfl<;>exact⟨by decide,by decide,by decide,by decide,_,_,rfl,by decide,by decide,by decide,by decide,by decide⟩
theorem apd{ws:bl}{r v:aa}(b:r=[]\/∃t,r=32::t)(c:cW v=true):cW (jS ws++(r++v))=true:=by
 cases ws with
 |nil=>
  rcases b with rfl|⟨t,rfl⟩
  ·grind[jS]
  ·rfl
 |cons a t=>rfl
def wj(W a:aa->Prop)(s:aa):Prop:=∃h ws r,abi h/\(∀w∈ws,W w)/\s=h++jS ws++r/\(r=[]\/r=[32,50,62,38,49]\/∃w,a w/\r=[32,62]++w)
theorem rP.q{W a:aa->Prop}{s:aa}(h:rP W a s):wj W a s:=by obtain⟨h,ws,r,ad,b⟩:=h;exact⟨h,ws,r,apc h ad,b⟩
theorem wj.one{W a:aa->Prop}{b:UInt8}(h:b=97\/b=98\/b=99):wj W a [b]:=by refine⟨[b],[],[],?_,by simp,by rfl,.inl rfl⟩;rcases h with rfl|rfl|rfl<;>exact⟨by decide,by decide,by decide,by decide,_,_,rfl,by decide,by decide,by decide,by decide,by decide⟩
section
variable{X:fm}{m:Nat}(hm:X.c0<=m){D:ak Unit}(hD:ai X.E m D)
include hm hD
theorem ape(F:h3 D){W n:aa->Prop}(hW:∀w,W w->xF w/\eM X D w)(y:∀w,n w->xF w/\eM X D w){s v g:aa}{pd:ao}{lo:Option dT}(G:wj W n s)(e:hN v g)(aw:dp X pd (s++v)):bX X (λq=>q=g) pd (fl true lo D (s++v) pd):=by
 obtain⟨h,ws,r,ad,z,rfl,A⟩:=G;obtain⟨H,a2,a3,P,b,t,I,Q,R,S,T,J⟩:=ad
 have B:r=[]\/∃t,r=32::t:=by grind
 have he:h++jS ws++r++v=h++(jS ws++(r++v)):=by simp
 rw[he] at aw⊢;have hu:=apd (ws:=ws) B e.pU;have U:bX X (λq=>q=g) pd (hg true D (jS ws++(r++v)) pd):=by
  have i:cW (r++v)=true:=by
   rcases B with rfl|⟨t,rfl⟩
   ·exact e.pU
   ·rfl
  have C:dp X pd (jS ws++(r++v)):=aw.sfx (gP _ _);exact(abh hm hD hW i (by simp[e.ne]) z C).Jo (apb hm hD y A e (C.sfx (gP _ _)))
 have K:∀a,bq (jS ws++(r++v))=some a->ar a≠ .op [40]:=by
  intro a j;cases ws with
  |cons w ws=>
   have V:jS (w::ws)++(r++v)=32::(w++(jS ws++(r++v))):=by simp[jS]
   obtain⟨cm,⟨x,p,Y⟩,_⟩:=(hW w (z w (by simp))).1.tok (u:=jS ws++(r++v));grind[jN]
  |nil=>
   rcases A with rfl|rfl|⟨w,k,rfl⟩
   ·have d:bq v=some a:=j;rw[e.rR] at d;cases d;rcases e.Np with L|⟨o,L,_,Z⟩
    ·grind
    grind
   ·have d:bq (32::50::62::38::49::v)=some a:=j;rw[jN,j3 (by decide) (by decide) (by decide)] at d;cases d;intro l;have:=(mS (by simp)).1 l;rw[nY (by decide)] at this;grind
   ·have d:bq (32::62::(w++v))=some a:=j;rw[jN,j3 (by decide) (by decide) (by decide)] at d;cases d;intro l;have dc:=(mS (by simp)).1 l;obtain⟨c,t,rfl,_,_,_,_,fy,_⟩:=(y w k).1;grind[abg]
 generalize gJ:jS ws++(r++v)=u at*;have k5:u≠[]:=by rw[<-gJ];simp[e.ne]
 have M:=tu H a2 hu;have E:bq (h++u)=some (h++u):=by grind[j3]
 have N:eZ (bt ((h++u).dropWhile ca))=false:=by
  rw[I];have:(b::t++u).dropWhile ca=b::t++u:=by simp_all
  rw[this,hF,nY J];decide
 unfold fl;rw[aM (cb E),M,aP (by simp),aP (by grind[gX])];simp only[NC];rw[aP (by grind),aM (uU E N)];simp only[Bool.false_eq_true,if_false];have k:cI D (h++u) pd= .ok () u pd:=by grind[CC,Jq]
 rw[aM k];by_cases O:l7 h=true
 ·rw[bh O];cases f:bq u with
  |none=>rw[db (op:=[]) (nd:=(cQ [] pd []).1) (ds:=(cQ [] pd []).2) (iB f)];trivial
  |some a=>rw[aM (cb f)];rw[aP (K a f)];have m:=kG _ _ _ (cX _) f;rw[<-anC f m (dU f).length_le F];omega
 grind
end
theorem aph{E:ln}(ok:E.mY){n:Nat}(b:Bool):ai E n (gu b):=ai.fS ok λt=>ai.ite (ai.ae ok (ai.nl ok) λ_=>ai.ret _) (ai.ret _)
section
variable{X:fm}{m:Nat}(hm:X.c0<=m)
include hm
theorem abj{x:aa}{pd:ao}{b:Bool}{u:aa}(hu:bq u=some (10::x))(c:bq x=some x)(d:ar x≠ .line)(aw:dp X pd (10::x)):bX X (λr=>r=x) pd (b7 gu b u pd):=by
 have ad:=aoX aw;have h:=(dU hu).length_le;have e:gu b u pd= .ok (.inl true) x pd\/ox X (gu b u pd):=by
  rw[ts hu];unfold Go.Eng.ae;cases aB:iW (10::x) pd with
  |ok a r' i=>
   rw[aB] at ad;rcases ad with⟨rfl,rfl⟩|ad
   ·exact .inl rfl
   ·exact .inr ad
  |more _ _ _=>right;trivial
  |bad _=>right;trivial
  |deep _=>rw[aB] at ad;exact ad.elim
 have g:=jE.rep hm (f:=gu) (λs=>aph X.ok s) (s:=b) (s':=true) (r:=u) (v:=x) (pd:=pd) (by grind) e;refine g.Jo ?_;rw[cq,pJ c d];exact .inl ⟨rfl,rfl⟩
theorem zf{j x:aa}{pd:ao}(b:j=[32]\/j=[10]\/j=[32,35,32,114,10])(c:bq x=some x)(a:ar x≠ .line)(aw:dp X pd (j++x)):bX X (λr=>r=x) pd (cR (j++x) pd):=by
 rw[qq];rcases b with rfl|rfl|rfl
 ·have:bq ([32]++x)=some x:=by grind[jN]
  rw[cq,pJ this a];exact .inl ⟨rfl,rfl⟩
 ·grind[abj,nC,gb]
 ·have:bq ([32,35,32,114,10]++x)=some (10::x):=by simp[nC,gb,lg]
  exact abj hm this c a (aw.sfx ⟨[32,35,32,114],rfl⟩)
end
theorem Ns{j:aa}(h:j∈jD):j=[10]\/∃o a,(a=[32]\/a=[10]\/a=[32,35,32,114,10])/\(o=[38,38]\/o=[124,124]\/o=[124]\/o=[59]\/o=[38])/\cW j=true/\(∀x,bq (j++x)=some (o++(a++x))/\ar (o++(a++x))= .op o)/\(o++a).length<=j.length:=by
 have Np:∀{b:UInt8}{t o:aa},b≠10->bt (b::t)=o->o≠[]->ar (b::t)= .op o:=by
  intro b t o c d aw;have:ar (b::t)=if b=10 then Tok.line else if bt (b::t)≠[] then .op (bt (b::t)) else .word (c5 (b::t)).1 (c5 (b::t)).2:=rfl
  grind
 simp only[jD,kZ,qD,tU] at h;rcases h with rfl|rfl|rfl|rfl|rfl|rfl|rfl|rfl
 ·refine .inr ⟨[38,38],[32],by simp,by simp,rfl,λx=>⟨?_,?_⟩,by decide⟩
  ·show bq (32::38::38::32::x)=_;rw[jN,j3 (by decide) (by decide) (by decide)];rfl
  rfl
 ·refine .inr ⟨[124,124],[32],by simp,by simp,rfl,λx=>⟨?_,?_⟩,by decide⟩
  ·show bq (32::124::124::32::x)=_;rw[jN,j3 (by decide) (by decide) (by decide)];rfl
  rfl
 ·refine .inr ⟨[124],[32],by simp,by simp,rfl,λx=>⟨?_,?_⟩,by decide⟩
  ·show bq (32::124::32::x)=_;rw[jN,j3 (by decide) (by decide) (by decide)];rfl
  rfl
 ·refine .inr ⟨[59],[32],by simp,by simp,rfl,λx=>⟨?_,?_⟩,by decide⟩
  ·show bq (59::32::x)=_;rw[j3 (by decide) (by decide) (by decide)];rfl
  rfl
 ·refine .inr ⟨[38],[32],by simp,by simp,rfl,λx=>⟨?_,?_⟩,by decide⟩
  ·show bq (32::38::32::x)=_;rw[jN,j3 (by decide) (by decide) (by decide)];rfl
  rfl
 ·simp
 ·refine .inr ⟨[124],[10],by simp,by simp,rfl,λx=>⟨?_,?_⟩,by decide⟩
  ·show bq (32::124::10::x)=_;rw[jN,j3 (by decide) (by decide) (by decide)];rfl
  rfl
 ·refine .inr ⟨[59],[32,35,32,114,10],by simp,by simp,rfl,λx=>⟨?_,?_⟩,by decide⟩
  ·show bq (59::32::35::32::114::10::x)=_;rw[j3 (by decide) (by decide) (by decide)];rfl
  rfl
theorem api{j x:aa}(h:j∈jD):∃c,hN (j++x) c:=by
 rcases Ns h with rfl|⟨o,e,ad,d,f,a,g⟩
 ·refine⟨10::x,by simp,rfl,by simp[nC,gb],.inl rfl⟩
 ·refine⟨_,?_,?_,(a x).1,.inr ⟨o,(a x).2,?_,?_⟩⟩
  ·grind
  ·cases j with
   |nil=>grind
   |cons b t=>revert h;intro h;simp only[jD,kZ,qD,tU] at h;rcases h with h|h|h|h|h|h|h|h<;>cases h<;>first|rfl|(show(gb _||_||bt _ !=[])=true;simp[bt,lh,xJ,List.isPrefixOf])
  ·rcases d with rfl|rfl|rfl|rfl|rfl<;>decide
  grind
theorem bX.abk{X:fm}{n:Nat}(aw:X.c0<=n){σ α:Type}{f:σ->ak (σ⊕α)}(hf:∀s,ai X.E n (f s)){b P:aa->Prop}{s:σ}{r:aa}{pd:ao}(h:bX X b pd (f s r pd))
  (hl:∀s' r1,f s r pd= .ok (.inl s') r1 pd->b r1->r1.length<r.length/\bX X P pd (b7 f s' r1 pd)) (c:∀a r1,f s r pd= .ok (.inr a) r1 pd->b r1->P r1):bX X P pd (b7 f s r pd):=by
 rw[cq];cases hm:f s r pd with
 |ok x r1 aD=>
  rw[hm] at h;cases x with
  |inl s'=>
   show bX X P pd (if r1.length<r.length then b7 f s' r1 aD else .bad r1);rcases h with⟨ad,rfl⟩|ad
   ·grind
   ·split
    ·exact bX.TQ aw (ai.rep X.ok hf s') ad
    ·trivial
  |inr a=>
   rcases h with⟨ad,rfl⟩|ad
   ·exact .inl ⟨c a r1 hm ad,rfl⟩
   ·exact .inr ad
 |more _ _ _=>trivial
 |bad _=>trivial
 |deep _=>rw[hm] at h;exact h
structure zg(X:fm)(c8:ak Unit)(C:aa->Prop):Prop where
 run:∀{c v cF:aa}{pd:ao},C c->hN v cF->dp X pd (c++v)->bX X (λq=>q=cF) pd (c8 (c++v) pd)
 head:∀{c:aa}(x:aa),C c->bq (c++x)=some (c++x)/\ar (c++x)≠ .line/\ar (c++x)≠ .eof/\cB (ar (c++x)) [33]=false/\c≠[]
def TV(p:Tok->Bool)(l:List (aa×aa))(v:aa)(q:aa):Prop:=∃fV,fV<:+l/\bq (c1 fV++v)=some q/\p (ar q)=false
theorem abl{C:aa->Prop}{l:List (aa×aa)}(h:∀p∈l,p.1∈jD/\C p.2){v a:aa}(b:hN v a):∃c,hN (c1 l++v) c:=by
 cases l with
 |nil=>exact⟨a,b⟩
 |cons p l=>grind[api,c1]
theorem Nt{E:ln}(ok:E.mY){n:Nat}{c8:ak Unit}(aF:ai E n c8)(p:Tok->Bool)(w:Nat)(s:Unit):ai E n ((λ(_:Unit)=>ae (bN []) λt=>if p t=true then ae (bV w) λ_=>ae (cR.aJ [120]) λ_=>ae c8 λ_=>aY (.inl ()) else aY (.inr ()):Unit->ak (Unit⊕Unit)) s):=
 ai.fS ok λt=>ai.ite (ai.ae ok (ai.dm ok _) λ_=>ai.ae ok ((ai.lines ok).aJ _) λ_=>ai.ae ok aF λ_=>ai.ret _) (ai.ret _)
theorem Nu{p:Tok->Bool}{w:Nat}{c8:ak Unit}{q:aa}{pd:ao}(a:bq q=some q)(aB:p (ar q)=false):qA p w c8 q pd= .ok () q pd:=by unfold qA;rw[cq,aM (cb a),aP (by grind)];rfl
section
variable{X:fm}{m:Nat}(hm:X.c0<=m){c8:ak Unit}(kf:ai X.E m c8){C:aa->Prop}(ev:zg X c8 C)
include hm kf ev
theorem abm{p:Tok->Bool}{w:Nat}(aB:∀t,p t=true->∃o,t= .op o/\o.length=w/\0<w){v n:aa}(e:hN v n)(k:p (ar n)=false):∀(l:List (aa×aa))(q:aa)(pd:ao),(∀x∈l,x.1∈jD/\C x.2)->bq (c1 l++v)=some q->dp X pd q->bX X (TV p l v) pd (qA p w c8 q pd)
 |[],q,pd,_,d,aw=>by have s:bq v=some q:=d;rw[e.rR] at s;cases s;rw[Nu e.idem k];exact .inl ⟨⟨[],List.suffix_rfl,e.rR,k⟩,rfl⟩
 |(j,c)::l,q,pd,h,d,aw=>by
  have m:=kG _ _ _ (Nat.le_refl _) d;cases f:p (ar q) with
  |false=>rw[Nu m f];exact .inl ⟨⟨(j,c)::l,List.suffix_rfl,d,f⟩,rfl⟩
  |true=>
   obtain⟨o,u,L,M⟩:=aB _ f;obtain⟨D,aF⟩:=h (j,c) (by simp);have he:c1 ((j,c)::l)++v=j++(c++(c1 l++v)):=by simp[c1]
   rw[he] at d;rcases Ns D with rfl|⟨N,i,ad,O,P,E,Q⟩
   ·have:bq ([10]++(c++(c1 l++v)))=some (10::(c++(c1 l++v))):=by simp[nC,gb]
    simp_all[ar]
   ·obtain⟨cm,F⟩:=E (c++(c1 l++v));rw[cm] at d;cases d;rw[F] at u;cases u;obtain⟨y,hu⟩:=abl (l:=l) (λx G=>h x (by grind)) e;obtain⟨eS,H,R,S,T⟩:=ev.head (c1 l++v) aF;have z:dp X pd (i++(c++(c1 l++v))):=aw.sfx (gP _ _);have A:dp X pd (c++(c1 l++v)):=z.sfx (gP _ _);have I:dp X pd y:=(A.sfx (gP _ _)).sfx (dU hu.rR);unfold qA;have J:bX X (λr=>r=y) pd ((ae (bN []) λt=>if p t=true then ae (bV w) λ_=>ae (cR.aJ [120]) λ_=>ae c8 λ_=>(aY (.inl ()):ak (Unit⊕Unit)) else aY (.inr ())) (o++(i++(c++(c1 l++v)))) pd):=by rw[aM (cb m),bh f];rw[aM (show bV w (o++(i++(c++(c1 l++v)))) pd= .ok () (i++(c++(c1 l++v))) pd from by grind[bV])];refine bX.ae hm (zf hm ad eS H z).aJ (λa r' _ g=>?_) (λa=>ai.ae X.ok kf λ_=>ai.ret _);subst g;refine bX.ae hm (ev.run aF hu A) (λa r' _ g=>?_) (λa=>ai.ret _);exact .inl ⟨g,rfl⟩
    refine bX.abk hm (Nt X.ok kf p w) J (λs' r1 b B=>?_) (λa r1 b B=>?_)
    ·subst B;refine⟨?_,?_⟩
     ·have U:=(dU hu.rR).length_le;grind
     ·have:=abm aB e k l r1 pd (λx G=>h x (by grind)) hu.rR I;exact this.imp λr g=>by obtain⟨fV,hl,K⟩:=g;exact⟨fV,hl.trans (ee _ _),K⟩
    ·
     exfalso;rw[aM (cb m),bh f] at b;obtain⟨_,V,W,_,b⟩:=b4 b;obtain⟨_,Y,Z,_,b⟩:=b4 b;obtain⟨_,bY,hj,_,b⟩:=b4 b;cases b
end
theorem apj(t:Tok)(h:pT t=true):∃o,t= .op o/\o.length=1/\0<1:=⟨_,NO h,rfl,by decide⟩
section
variable{X:fm}{m:Nat}(hm:X.c0<=m){c8:ak Unit}(kf:ai X.E m c8){C:aa->Prop}(ev:zg X c8 C)
include hm kf ev
theorem abn{c v b:aa}{l:List (aa×aa)}{pd:ao}(aF:C c)(h:∀x∈l,x.1∈jD/\C x.2)(d:hN v b)(e:pT (ar b)=false)(aw:dp X pd (c++(c1 l++v))):bX X (TV pT l v) pd (ff c8 (c++(c1 l++v)) pd):=by obtain⟨eS,k,m,f,n⟩:=ev.head (c1 l++v) aF;obtain⟨g,hu⟩:=abl (l:=l) h d;have i:dp X pd g:=(aw.sfx (gP _ _)).sfx (dU hu.rR);rw[TF,aM (cb eS),f];simp only[eB,cr];rw[aM (show aY () (c++(c1 l++v)) pd= .ok () (c++(c1 l++v)) pd from rfl)];refine bX.ae hm (ev.run aF hu aw) (λa r' _ j=>?_) (λa=>ai.rep X.ok (λs=>Nt X.ok kf pT 1 s) ());subst j;exact abm hm kf ev apj d e l r' pd h hu.rR i
end
def abo(l:List (aa×aa))(v:aa)(q:aa):Prop:=∃fV,fV<:+l/\bq (c1 fV++v)=some q/\pT (ar q)=false/\qB (ar q)=false
section
variable{X:fm}{m:Nat}(hm:X.c0<=m){c8:ak Unit}(kf:ai X.E m c8){C:aa->Prop}(ev:zg X c8 C)
include hm kf ev
theorem apk{v p:aa}(k:hN v p)(A:pT (ar p)=false)(B:qB (ar p)=false):∀(N:Nat)(l:List (aa×aa))(q:aa)(pd:ao),l.length<=N->(∀x∈l,x.1∈jD/\C x.2)->bq (c1 l++v)=some q->pT (ar q)=false->dp X pd q->bX X (abo l v) pd (qA qB 2 (ff c8) q pd):=by
 have D:ai X.E m (ff c8):=ai.pipe X.ok kf;intro N;induction N with
 |zero=>intro l q pd hl h d e aw;have:l=[]:=n7.1 (by omega);subst this;have E:bq v=some q:=d;rw[k.rR] at E;cases E;rw[Nu k.idem B];exact .inl ⟨⟨[],fT,k.rR,A,B⟩,rfl⟩
 |succ N K=>
  intro l q pd hl h d e aw;have s:=kG _ _ _ (cX _) d;cases f:qB (ar q) with
  |false=>rw[Nu s f];exact .inl ⟨⟨l,fT,d,e,f⟩,rfl⟩
  |true=>
   cases l with
   |nil=>grind
   |cons y l=>
    obtain⟨j,c⟩:=y;obtain⟨L,aF⟩:=h (j,c) (by simp)
    have g:∀x∈l,x.1∈jD/\C x.2:=λx F=>h x (by grind)
    have he:c1 ((j,c)::l)++v=j++(c++(c1 l++v)):=by simp[c1]
    rw[he] at d
    obtain⟨o,G,Y⟩:∃o,ar q= .op o/\o.length=2:=by unfold qB at f;grind
    rcases Ns L with rfl|⟨Z,n,ad,af,av,M,br⟩
    ·have:bq ([10]++(c++(c1 l++v)))=some (10::(c++(c1 l++v))):=by simp[nC,gb]
     simp_all[ar]
    ·obtain⟨cm,O⟩:=M (c++(c1 l++v));rw[cm] at d;cases d;rw[O] at G;cases G;obtain⟨eS,P,ju,lU,hX⟩:=ev.head (c1 l++v) aF;have H:dp X pd (n++(c++(c1 l++v))):=aw.sfx (gP _ _);have I:dp X pd (c++(c1 l++v)):=H.sfx (gP _ _);unfold qA;have Q:bX X (TV pT l v) pd ((ae (bN []) λt=>if qB t=true then ae (bV 2) λ_=>ae (cR.aJ [120]) λ_=>ae (ff c8) λ_=>(aY (.inl ()):ak (Unit⊕Unit)) else aY (.inr ())) (o++(n++(c++(c1 l++v)))) pd):=by rw[aM (cb s),bh f];rw[aM (show bV 2 (o++(n++(c++(c1 l++v)))) pd= .ok () (n++(c++(c1 l++v))) pd from by grind[bV])];refine bX.ae hm (zf hm ad eS P H).aJ (λa r' _ i=>?_) (λa=>ai.ae X.ok D λ_=>ai.ret _);subst i;refine bX.ae hm (abn hm kf ev aF g k A I) (λa r' _ i=>?_) (λa=>ai.ret _);exact .inl ⟨i,rfl⟩
     refine bX.abk hm (Nt X.ok D qB 2) Q (λs' r1 b J=>?_) (λa r1 b J=>?_)
     ·obtain⟨fV,u,w,R⟩:=J;have S:c1 fV++v<:+c++(c1 l++v):=by obtain⟨z,rfl⟩:=u;grind[c1]
      refine⟨?_,?_⟩
      ·have cS:=(dU w).length_le;grind
      ·have T:dp X pd r1:=(I.sfx S).sfx (dU w);have:=K fV r1 pd (by grind) (λx F=>g x (u.subset F)) w R T;exact this.imp λr i=>by obtain⟨U,V,W⟩:=i;exact⟨U,(V.trans u).trans (ee _ _),W⟩
     ·exfalso;rw[aM (cb s),bh f] at b;obtain⟨_,az,dP,_,b⟩:=b4 b;obtain⟨_,cx,b5,_,b⟩:=b4 b;obtain⟨_,bY,hj,_,b⟩:=b4 b;cases b
end
section
variable{X:fm}{m:Nat}(hm:X.c0<=m){c8:ak Unit}(kf:ai X.E m c8){C:aa->Prop}(ev:zg X c8 C)
include hm kf ev
theorem apl{c v b:aa}{l:List (aa×aa)}{pd:ao}(aF:C c)(h:∀x∈l,x.1∈jD/\C x.2)(e:hN v b)(f:pT (ar b)=false)(i:qB (ar b)=false)(aw:dp X pd (c++(c1 l++v))):bX X (abo l v) pd (hi (ff c8) (c++(c1 l++v)) pd):=by
 have j:ai X.E m (ff c8):=ai.pipe X.ok kf;rw[TG];refine bX.ae hm (abn hm kf ev aF h e f aw) (λa q _ k=>?_) (λa=>ai.rep X.ok (λs=>Nt X.ok j qB 2 s) ());obtain⟨fV,d,g,n⟩:=k;have o:c1 fV++v<:+c++(c1 l++v):=by obtain⟨z,rfl⟩:=d;grind[c1]
 have p:dp X pd q:=(aw.sfx o).sfx (dU g);have:=apk hm kf ev e f i fV.length fV q pd (cX _) (λx t=>h x (d.subset t)) g n p;exact this.imp λr u=>by obtain⟨w,y,A⟩:=u;exact⟨w,y.trans d,A⟩
end
theorem Jr{E:ln}(ok:E.mY){n:Nat}{cV:ak Unit}(h:ai E n cV)(c:Ctx)(no:Bool)(s:Nat):ai E n (eK cV c no s):=by
 unfold eK;refine ai.fS ok λt=>ai.ite (ai.ite (ai.ret _) (ai.b3 _)) (ai.ite (ai.ret _) (ai.ae ok h λ_=>ai.fS ok λt=>?_));unfold il;cases t with
 |eof=>simp[ai.ret]
 |line=>grind[ai.ae,ai.lines,ai.ret]
 |word _ _=>exact ai.bK
 |op o=>exact ai.ite (ai.ae ok (ai.dm ok _) λ_=>ai.ae ok (ai.lines ok) λ_=>ai.ret _) (ai.ite (ai.ret _) ai.bK)
theorem bX.sQ{X:fm}{n:Nat}(aw:X.c0<=n){σ α β:Type}{f:σ->ak (σ⊕α)}(hf:∀s,ai X.E n (f s)){i P:aa->Prop}{m:ak β}{k:β->ak (σ⊕α)}{r r0:aa}{pd:ao}(h:bX X i pd (m r pd))
  (hk:∀a r',m r pd= .ok a r' pd->i r'->bX X P pd (cP f r0 (k a r' pd))) (he:∀a,ai X.E n (k a)):bX X P pd (cP f r0 (Go.Eng.ae m k r pd)):=by
 unfold Go.Eng.ae;cases hm:m r pd with
 |ok a r' e=>
  rw[hm] at h;rcases h with⟨ad,rfl⟩|ad
  ·grind
  ·simp only;have c:ox X (k a r' e):=by
    have:=he a r' e (ln.H.Nn ad aw);cases d:k a r' e with
    |ok _ _ _=>rw[d] at this;exact ln.H.down X.ok ad this.1 this.2
    |more _ _ _=>trivial
    |bad _=>trivial
    |deep _=>rw[d] at this;exact this
   cases d:k a r' e with
   |ok x g j=>
    rw[d] at c;cases x with
    |inl s'=>
     show bX X P pd (if g.length<r0.length then b7 f s' g j else .bad g);split
     ·exact bX.TQ aw (ai.rep X.ok hf s') c
     ·trivial
    |inr b=>exact .inr c
   |more _ _ _=>trivial
   |bad _=>trivial
   |deep _=>rw[d] at c;exact c
 |more _ _ _=>trivial
 |bad _=>trivial
 |deep _=>rw[hm] at h;exact h
section
variable{X:fm}{m:Nat}(hm:X.c0<=m){c8:ak Unit}(kf:ai X.E m c8){C:aa->Prop}(ev:zg X c8 C)(uI:∀{c:aa}(x:aa)(k:Ctx),C c->dE k (ar (c++x))=false)
include hm kf ev uI
theorem abr{v g i:aa}{ctx:Ctx}{no:Bool}{pd:ao}(A:hN v g)(G:pT (ar g)=false)(H:qB (ar g)=false)
  (bm:∀k r0,g.length<r0.length->bX X (λr=>r=i) pd (cP (eK (hi (ff c8)) ctx no) r0 (il ctx k (ar g) g pd))) {l:List (aa×aa)} {c:aa} {k:Nat} (aF:C c) (h:∀x∈l,x.1∈jD/\C x.2) (aw:dp X pd (c++(c1 l++v)))
  (qH:∀(j b:aa)(d:List (aa×aa)),(j,b)::d<:+l->∀(n:Nat),C b->dp X pd (b++(c1 d++v))->bX X (λr=>r=i) pd (b7 (eK (hi (ff c8)) ctx no) n (b++(c1 d++v)) pd)):bX X (λr=>r=i) pd (b7 (eK (hi (ff c8)) ctx no) k (c++(c1 l++v)) pd):=by
 have e6:ai X.E m (hi (ff c8)):=ai.pH X.ok (ai.pipe X.ok kf);obtain⟨eS,b,I,lU,J⟩:=ev.head (c1 l++v) aF;rw[cq];have K:eK (hi (ff c8)) ctx no k (c++(c1 l++v)) pd=ae (hi (ff c8)) (λ_=>ae (bN []) (il ctx k)) (c++(c1 l++v)) pd:=by unfold eK;rw[aM (cb eS),aP I,aP (by grind)]
 rw[K]
 have p:∀k,ai X.E m (ae (bN []) (il ctx k)):=λk=>ai.fS X.ok λt=>by
  unfold il;cases t with
  |eof=>simp[ai.ret]
  |line=>exact ai.ae X.ok (ai.lines X.ok) λ_=>ai.ret _
  |word _ _=>exact ai.bK
  |op o=>exact ai.ite (ai.ae X.ok (ai.dm X.ok _) λ_=>ai.ae X.ok (ai.lines X.ok) λ_=>ai.ret _) (ai.ite (ai.ret _) ai.bK)
 refine bX.sQ hm (Jr X.ok e6 ctx no) (apl hm kf ev aF h A G H aw) (λa q bJ L=>?_) (λ_=>p k);obtain⟨fV,s,e,M,N⟩:=L;have O:=kG _ _ _ (Nat.le_refl _) e;rw[aM (cb O)];have my:=List.length_pos_iff.2 J;have P:c1 fV++v<:+c++(c1 l++v):=by obtain⟨z,rfl⟩:=s;grind[c1]
 have Q:(c1 fV++v).length<=(c1 l++v).length:=by obtain⟨z,rfl⟩:=s;simp[c1]
 have R:=(dU e).length_le;have S:q.length<(c++(c1 l++v)).length:=by grind
 have u:dp X pd q:=(aw.sfx P).sfx (dU e);cases fV with
 |nil=>have T:bq v=some q:=e;rw[A.rR] at T;grind
 |cons y d=>
  obtain⟨j,b⟩:=y;obtain⟨U,V⟩:=h (j,b) (s.subset (by simp));have he:c1 ((j,b)::d)++v=j++(b++(c1 d++v)):=by simp[c1]
  rw[he] at e Q R;obtain⟨B,D,d3,d4,d5⟩:=ev.head (c1 d++v) V
  have E:∀(r:aa),r=b++(c1 d++v)->r.length<(c++(c1 l++v)).length->dp X pd r->bX X (λr=>r=i) pd (cP (eK (hi (ff c8)) ctx no) (c++(c1 l++v)) (aY (.inl (k+1)) r pd)):=by rintro r rfl f Nr;show bX X _ pd (if(b++(c1 d++v)).length<(c++(c1 l++v)).length then b7 (eK (hi (ff c8)) ctx no) (k+1) (b++(c1 d++v)) pd else .bad _);grind
  rcases Ns U with rfl|⟨o,w,ad,af,av,W,br⟩
  ·have Y:bq ([10]++(b++(c1 d++v)))=some (10::(b++(c1 d++v))):=by simp[nC,gb]
   rw[Y] at e;cases e;have Z:ar (10::(b++(c1 d++v)))= .line:=rfl;rw[Z];unfold il;simp only;refine bX.sQ hm (Jr X.ok e6 ctx no) (zf hm (j:=[10]) (.inr (.inl rfl)) B D u) (λa r _ f=>?_) (λ_=>ai.ret _);refine E r f ?_ (by rw[f];exact u.sfx (ee _ _));rw[f];exact Nat.lt_trans (xN _) S
  ·obtain⟨cm,n⟩:=W (b++(c1 d++v));rw[cm] at e;cases e;rw[n] at M N⊢;have aQ:o=[59]\/o=[38]:=by simp_all[qB,pT]
   unfold il;simp only;rw[bh aQ];have hw:o.length=1:=by grind
   rw[aM (show bV 1 (o++(w++(b++(c1 d++v)))) pd= .ok () (w++(b++(c1 d++v))) pd from by grind[bV])];have F:dp X pd (w++(b++(c1 d++v))):=u.sfx (gP _ _);refine bX.sQ hm (Jr X.ok e6 ctx no) (zf hm ad B D F) (λa r _ f=>?_) (λ_=>ai.ret _);refine E r f ?_ (by rw[f];exact F.sfx (gP _ _));grind
theorem abt{v a b:aa}{ctx:Ctx}{no:Bool}{pd:ao}(d:hN v a)(e:pT (ar a)=false)(f:qB (ar a)=false)
  (bm:∀k r0,a.length<r0.length->bX X (λr=>r=b) pd (cP (eK (hi (ff c8)) ctx no) r0 (il ctx k (ar a) a pd))):∀(N:Nat)(l:List (aa×aa))(c:aa)(k:Nat),l.length<=N->C c->(∀x∈l,x.1∈jD/\C x.2)->dp X pd (c++(c1 l++v))->bX X (λr=>r=b) pd (b7 (eK (hi (ff c8)) ctx no) k (c++(c1 l++v)) pd):=by
 have e6:ai X.E m (hi (ff c8)):=ai.pH X.ok (ai.pipe X.ok kf);intro N;induction N with
 |zero=>
  intro l c k hl aF h aw;have:l=[]:=n7.1 (by omega);subst this
  exact abr hm kf ev uI d e f bm aF h aw (λj g i n=>by grind)
 |succ N o=>intro l c k hl aF h aw;refine abr hm kf ev uI d e f bm aF h aw (λj g i n p q s=>?_);grind
end
theorem apn{X:fm}{cV:ak Unit}{ctx:Ctx}{no:Bool}{pd:ao}{a o:aa}(b:ar a= .op o)(ad:o≠[59])(c:o≠[38])(he:dE ctx (.op o)=true)(k:Nat)(r0:aa):bX X (λr=>r=a) pd (cP (eK cV ctx no) r0 (il ctx k (ar a) a pd)):=by rw[b];unfold il;simp only;rw[aP (by grind),if_pos he];exact .inl ⟨rfl,rfl⟩
theorem apo{X:fm}{cV:ak Unit}{ctx:Ctx}{no:Bool}{pd:ao}{x:aa}{k:Nat}(a:bq x=some x)(bc:ar x≠ .eof)(he:dE ctx (ar x)=true):bX X (λr=>r=x) pd (b7 (eK cV ctx no) (k+1) x pd):=by
 rw[cq];have:eK cV ctx no (k+1) x pd= .ok (.inr (k+1)) x pd:=by unfold eK;rw[aM (cb a),if_neg bc,if_pos (by grind)];rfl
 rw[this];exact .inl ⟨rfl,rfl⟩
section
variable{X:fm}{m:Nat}(hm:X.c0<=m){cV:ak Unit}(e6:ai X.E m cV)
include hm e6
theorem abu{ctx:Ctx}{no:Bool}{pd:ao}{u x:aa}{k:Nat}{r0:aa}(hl:bX X (λr=>r=x) pd (cR u pd))(b:x.length<r0.length)(d:bq x=some x)(bc:ar x≠ .eof)(he:dE ctx (ar x)=true):bX X (λr=>r=x) pd (cP (eK cV ctx no) r0 (ae cR (λ_=>aY (.inl (k+1))) u pd)):=by refine bX.sQ hm (Jr X.ok e6 ctx no) hl (λa r _ c=>?_) (λ_=>ai.ret _);subst c;show bX X _ pd (if r.length<r0.length then b7 (eK cV ctx no) (k+1) r pd else .bad r);simp_all[apo]
theorem apq{ctx:Ctx}{no:Bool}{pd:ao}{x:aa}(b:bq x=some x)(c:ar x≠ .line)(bc:ar x≠ .eof)(he:dE ctx (ar x)=true)(aw:dp X pd (10::x))(k:Nat)(r0:aa)(a:(10::x).length<r0.length):bX X (λr=>r=x) pd (cP (eK cV ctx no) r0 (il ctx k (ar (10::x)) (10::x) pd)):=by have d:ar (10::x)= .line:=rfl;rw[d];unfold il;simp only;exact abu hm e6 (zf hm (j:=[10]) (.inr (.inl rfl)) b c aw) (Nat.lt_trans (Nat.lt_succ_self _) a) b bc he
theorem apr{ctx:Ctx}{no:Bool}{pd:ao}{y x:aa}(a:bq y=some x)(c:ar x≠ .line)(bc:ar x≠ .eof)(he:dE ctx (ar x)=true)(d:ar (59::y)= .op [59])(k:Nat)(r0:aa)(b:(59::y).length<r0.length):bX X (λr=>r=x) pd (cP (eK cV ctx no) r0 (il ctx k (ar (59::y)) (59::y) pd)):=by have e:=kG _ _ _ (Nat.le_refl _) a;have hl:=(dU a).length_le;rw[d];unfold il;simp only;rw[if_pos (by simp),aM (show bV 1 (59::y) pd= .ok () y pd from rfl)];refine abu hm e6 ?_ (by grind) e bc he;rw[qt a c];exact .inl ⟨rfl,rfl⟩
end
structure jb(X:fm)(cV:ak Unit)(ctx:Ctx)(no:Bool)(v cF eX:aa)(pd:ao):Prop where
 ce:hN v cF
 abv:pT (ar cF)=false
 abw:qB (ar cF)=false
 go:∀k r0,cF.length<r0.length->bX X (λr=>r=eX) pd (cP (eK cV ctx no) r0 (il ctx k (ar cF) cF pd))
theorem hN.op{o:aa}{t:aa}(c:bq t=some t)(a:ar t= .op o)(ad:eZ o=false)(d:o≠[40]):hN t t:=by
 have e:=iq a;refine⟨?_,?_,c,.inr ⟨o,a,ad,d⟩⟩
 ·grind
 ·cases t with
  |nil=>rfl
  |cons b u=>show(gb b||b==10||bt (b::u)!=[])=true;grind
theorem hN.nl(x:aa):hN (10::x) (10::x):=⟨by simp,rfl,by simp[nC,gb],.inl rfl⟩
section
variable{X:fm}{m:Nat}(hm:X.c0<=m){c8:ak Unit}(kf:ai X.E m c8){C:aa->Prop}(ev:zg X c8 C)(uI:∀{c:aa}(x:aa)(k:Ctx),C c->dE k (ar (c++x))=false)
theorem jb.op{cV:ak Unit}{ctx:Ctx}{no:Bool}{pd:ao}{v o:aa}(c:bq v=some v)(a:ar v= .op o)(he:dE ctx (.op o)=true):jb X cV ctx no v v v pd:=by
 have b:o=[41]\/o=[59,59]:=by cases ctx<;>simp[dE,cB] at he<;>first|grind|grind
 refine⟨hN.op c a ?_ ?_,?_,?_,λk r0 _=>apn a ?_ ?_ he k r0⟩
 ·rcases b with rfl|rfl<;>decide
 ·grind
 ·rw[a];rcases b with rfl|rfl<;>decide
 ·rw[a];rcases b with rfl|rfl<;>decide
 ·grind
 grind
include hm in
theorem jb.nl{cV:ak Unit}(e6:ai X.E m cV){ctx:Ctx}{no:Bool}{pd:ao}{x:aa}(hx:bq x=some x)(ht:ar x≠ .line)(bc:ar x≠ .eof)(he:dE ctx (ar x)=true)(aw:dp X pd (10::x)):jb X cV ctx no (10::x) (10::x) x pd:=
 ⟨hN.nl x,rfl,rfl,λk r0 hl=>apq hm e6 hx ht bc he aw k r0 hl⟩
include hm in
theorem jb.abx{cV:ak Unit}(e6:ai X.E m cV){ctx:Ctx}{no:Bool}{pd:ao}{y x:aa}(bx:bq y=some x)(ht:ar x≠ .line)(bc:ar x≠ .eof)(he:dE ctx (ar x)=true)(fD:ar (59::y)= .op [59]):jb X cV ctx no (59::y) (59::y) x pd:=
 ⟨hN.op (j3 (by decide) (by decide) (by decide)) fD (by decide) (by decide),by rw[fD];decide,by rw[fD];decide,λk r0 hl=>apr hm e6 bx ht bc he fD k r0 hl⟩
include hm kf ev uI
theorem aps{pre t v e d:aa}{ctx:Ctx}{no:Bool}{pd:ao}(aB:pre=[]\/pre=[32]\/pre=[10])(f:u4 C t)(bm:jb X (hi (ff c8)) ctx no v e d pd)(aw:dp X pd (pre++(t++v))):bX X (λr=>r=d) pd (om (hi (ff c8)) ctx no (pre++(t++v)) pd):=by
 obtain⟨c,l,ad,g,rfl⟩:=f;rw[tS] at aw⊢;obtain⟨eS,b,j,k,n⟩:=ev.head (c1 l++v) ad;have h:dp X pd (c++(c1 l++v)):=aw.sfx (gP _ _);rw[pI];have e6:ai X.E m (hi (ff c8)):=ai.pH X.ok (ai.pipe X.ok kf);refine bX.ae (P:=λr=>r=c++(c1 l++v)) hm (bX.aJ ?_) (λa r' _ i=>?_) (λ_=>ai.rep X.ok (λs=>Jr X.ok e6 ctx no s) 0)
 ·rcases aB with rfl|rfl|rfl
  ·rw[sV,qt eS b];exact .inl ⟨rfl,rfl⟩
  ·exact zf hm (.inl rfl) eS b aw
  ·exact zf hm (.inr (.inl rfl)) eS b aw
 ·subst i;exact abt hm kf ev uI bm.ce bm.abv bm.abw bm.go l.length l c 0 (cX _) ad g h
end
def AX(c:aa):Prop:=∃b t,c=b::t/\gb b=false/\b≠35/\b≠92/\b≠10/\b≠33/\(b=40\/oR b=false/\(([125,116,101,102,100]:aa).contains b=false\/∃k u,t=k::u/\(b=101/\k=99\/b=102/\k≠105)))
theorem apt{r w:aa}(h:cB (ar r) w=true):w<+:r:=by grind[FO,E4,aac]
theorem AX.facts{c:aa}(h:AX c)(x:aa):(bq (c++x)=some (c++x)/\ar (c++x)≠ .line/\ar (c++x)≠ .eof/\cB (ar (c++x)) [33]=false/\c≠[])/\∀k,dE k (ar (c++x))=false:=by
 obtain⟨b,t,rfl,ad,f,g,i,o,e⟩:=h
 have bc:∀w:aa,w<+:b::t++x->w.head?≠none->w.head?=some b:=by
  intro w d aw;cases w with
  |nil=>grind
  |cons a w=>grind
 have hW:∀w∈([[33],[125],ih,ij,h2,fa,gO,iN,ew]:bl),cB (ar (b::t++x)) w=false:=by
  intro w d;cases bf:cB (ar (b::t++x)) w with
  |false=>rfl
  |true=>
   exfalso;have aB:=apt bf;have j:=bc w aB ((by decide:∀w∈([[33],[125],ih,ij,h2,fa,gO,iN,ew]:bl),w.head?≠none) w d);rcases e with rfl|⟨l,aF|⟨k,u,rfl,hk⟩⟩
   ·exact(by decide:∀w∈([[33],[125],ih,ij,h2,fa,gO,iN,ew]:bl),w.head?≠some 40) w d j
   ·have:([33,125,116,101,102,100]:aa).contains b=true:=by
     have:∀w∈([[33],[125],ih,ij,h2,fa,gO,iN,ew]:bl),∀b,w.head?=some b->([33,125,116,101,102,100]:aa).contains b=true:=by decide
     grind
    grind
   ·simp only[kZ,qD,tU] at d;rcases hk with⟨rfl,rfl⟩|⟨rfl,hk⟩
    ·rcases d with rfl|rfl|rfl|rfl|rfl|rfl|rfl|rfl|rfl<;>simp[ih,ij,h2,fa,gO,iN,ew] at aB
    ·rcases d with rfl|rfl|rfl|rfl|rfl|rfl|rfl|rfl|rfl<;>simp[ih,ij,h2,fa,gO,iN,ew] at aB;grind
 have q:ar (b::t++x)= .op [40]\/∃w p,ar (b::t++x)= .word w p:=by
  rw[hF,CT,aP i];rcases e with rfl|⟨l,_⟩
  ·simp[X6]
  simp_all[nY]
 refine⟨⟨j3 ad f g,?_,?_,hW _ (by simp),by simp⟩,λk=>?_⟩
 ·grind
 ·grind
 ·have m:(ar (b::t++x)== .eof)=false:=by grind
  have n:(ar (b::t++x)== .op [41])=false:=by grind
  have r:(ar (b::t++x)== .op [59,59])=false:=by grind
  unfold dE;cases k
  ·exact m
  ·exact n
  ·grind
  ·grind
  ·grind
  ·grind
  ·grind
  ·simp_all
  simp_all
def zh(d:Nat)(c:aa):Prop:=zb d c\/c=[97]\/c=[98]\/c=[99]
theorem zh.aG{d:Nat}{c:aa}(h:zh d c):AX c:=by
 have f:∀{W e:aa->Prop},rP W e c->AX c:=by
  rintro W e ⟨x,ws,r,ad,a,rfl,n⟩;simp only[sO,kZ,qD,tU] at ad;rcases ad with rfl|rfl|rfl|rfl
  ·exact⟨_,_,rfl,by decide,by decide,by decide,by decide,by decide,.inr ⟨by decide,.inl (by decide)⟩⟩
  ·exact⟨_,_,rfl,by decide,by decide,by decide,by decide,by decide,.inr ⟨by decide,.inr ⟨_,_,rfl,.inl ⟨rfl,rfl⟩⟩⟩⟩
  ·exact⟨_,_,rfl,by decide,by decide,by decide,by decide,by decide,.inr ⟨by decide,.inl (by decide)⟩⟩
  ·exact⟨_,_,rfl,by decide,by decide,by decide,by decide,by decide,.inr ⟨by decide,.inl (by decide)⟩⟩
 rcases h with h|rfl|rfl|rfl
 ·cases d with
  |zero=>exact f h
  |succ d=>
   rcases h with h|h
   ·grind
   ·have h0:∀{b:UInt8}{t:aa},gb b=false/\b≠35/\b≠92/\b≠10/\b≠33/\oR b=false/\([125,116,101,102,100]:aa).contains b=false->AX (b::t):=λ⟨g,a2,a3,i,j,l,m⟩=>⟨_,_,rfl,g,a2,a3,i,j,.inr ⟨l,.inl m⟩⟩
    have hf:∀{k:UInt8}{t:aa},k≠105->AX (102::k::t):=λhk=>⟨_,_,rfl,by decide,by decide,by decide,by decide,by decide,.inr ⟨by decide,.inr ⟨_,_,rfl,.inr ⟨rfl,hk⟩⟩⟩⟩
    rcases h with⟨t,ad,rfl⟩|⟨t,ad,rfl⟩|⟨t,u,ad,a,rfl⟩|⟨t,u,ad,a,rfl⟩|⟨t,u,ad,a,rfl⟩|⟨w,u,ad,a,rfl⟩|rfl|⟨w,u,ad,a,rfl⟩|⟨t,ad,rfl⟩
    ·exact⟨40,_,rfl,by decide,by decide,by decide,by decide,by decide,.inl rfl⟩
    ·exact h0 (by decide)
    ·exact h0 (by decide)
    ·exact h0 (by decide)
    ·exact h0 (by decide)
    ·grind
    ·grind
    ·exact h0 (by decide)
    grind
 all_goals exact⟨_,_,rfl,by decide,by decide,by decide,by decide,by decide,.inr ⟨by decide,.inl (by decide)⟩⟩
structure sR(X:fm)(d n:Nat):Prop where
 ls:∀{pre t v cF eX:aa}{ctx:Ctx}{no:Bool}{pd:ao},(pre=[]\/pre=[32]\/pre=[10])->u4 (zh d) t->jb X (jB true n) ctx no v cF eX pd->dp X pd (pre++(t++v))->bX X (λr=>r=eX) pd ((aS true n).ls ctx no (pre++(t++v)) pd)
 wd:∀w,h5 d w->eM X (aS true n).dl w
 rd:∀{t v cF eX:aa}{ctx:Ctx}{no:Bool}{pd:ao}(k:Nat),u4 (zh d) t->jb X (jB true n) ctx no v cF eX pd->dp X pd (t++v)->bX X (λr=>r=eX) pd (b7 (eK (jB true n) ctx no) k (t++v) pd)
theorem u4.imp{C a:aa->Prop}(h:∀c,C c->a c){t:aa}(d:u4 C t):u4 a t:=by obtain⟨c,l,ad,b,e⟩:=d;exact⟨c,l,h c ad,λp aB=>⟨(b p aB).1,h _ (b p aB).2⟩,e⟩
theorem iv.cc{d:Nat}{t:aa}(h:iv d t):u4 (zh d) t:=by rw[Nl] at h;exact h.imp λc aF=> .inl aF
theorem Nv{d:Nat}{b:UInt8}(h:b=97\/b=98\/b=99):u4 (zh d) [b]:=by
 refine⟨[b],[],?_,by simp,by rfl⟩;rcases h with rfl|rfl|rfl
 ·exact .inr (.inl rfl)
 ·exact .inr (.inr (.inl rfl))
 ·exact .inr (.inr (.inr rfl))
theorem sR.abz{X:fm}{d n:Nat}(h:sR X d n):TT X n d:=by intro t v pd a aw;have:=h.ls (pre:=[]) (t:=t) (v:=41::v) (ctx:= .paren) (no:=true) (pd:=pd) (.inl rfl) a.cc (jb.op (zd v) (ze v) rfl) aw;grind
theorem apu{l:dT}{o r:aa}{pd:ao}:gY l (.op o) r pd=ae ((l.ls .paren false).aJ [41]) (λ_=>jA [41]) (r.drop 1) pd:=rfl
theorem AY{l:dT}{w r:aa}{p:Bool}{pd:ao}:gY l (.word w p) r pd=(if w=[123] then ae ((l.ls .qh false).aJ [10,125]) λ_=>cZ [125]
 else if w=lV then qj l
 else if w=nz then pG l l.dl
 else if w=nA then qk l l.dl
 else ae ((l.ls .pE false).aJ eo) λ_=>iO l eo:ak Unit) (r.drop w.length) pd:=rfl
def Gb(l:dT):Unit->ak (Unit⊕Unit):=λ_=>ae ((l.ls .rG false).aJ ([10]++ih++[32,120,10]++fa)) λ_=>ae (cZ ih) λ_=>ae ((l.ls .qi false).aJ (10::fa)) λ_=>
    ae (bN []) λt=>if cB t ij then ae (cZ ij) λ_=>aY (.inl ()) else
     if cB t h2 then ae (cZ h2) λ_=>ae ((l.ls .kh false).aJ (10::fa)) λ_=>ae (cZ fa) λ_=>aY (.inr ()) else ae (cZ fa) λ_=>aY (.inr ())
theorem abA(l:dT):qj l=b7 (Gb l) ():=rfl
theorem Nw{b:UInt8}{t:aa}(h:b≠59):ar (59::b::t)= .op [59]:=by rw[mS (by simp)];simp[bt,lh,xJ,List.isPrefixOf,h.symm]
theorem Js{t:aa}:ar (59::59::t)= .op [59,59]:=by rfl
theorem xG(t:aa):bq (59::t)=some (59::t):=j3 (by decide) (by decide) (by decide)
theorem jb.AZ{X:fm}{n m:Nat}(hm:X.c0<=m)(e6:ai X.E m (jB true n)){ctx:Ctx}{no:Bool}{pd:ao}{w v:aa}(aw:w≠[])(a:w.all qs=true)(b:w.head?≠some 35)(c:cW v=true)(he:dE ctx (.word w true)=true)(d:dp X pd (10::(w++v))):jb X (jB true n) ctx no (10::(w++v)) (10::(w++v)) (w++v) pd:=by grind[kt,jb.nl]
theorem jb.abB{X:fm}{n m:Nat}(hm:X.c0<=m)(e6:ai X.E m (jB true n)){ctx:Ctx}{no:Bool}{pd:ao}{w v:aa}(aw:w≠[])(a:w.all qs=true)(c:w.head?≠some 35)(d:cW v=true)(he:dE ctx (.word w true)=true)(e:w.head?≠some 59):jb X (jB true n) ctx no (59::(w++v)) (59::(w++v)) (w++v) pd:=by
 obtain⟨f,g⟩:=kt aw a c d;cases w with
 |nil=>grind
 |cons b t=>grind[jb.abx,Nw]
theorem jb.TX{X:fm}{n m:Nat}(hm:X.c0<=m)(e6:ai X.E m (jB true n)){ctx:Ctx}{no:Bool}{pd:ao}{w v:aa}(aw:w≠[])(a:w.all qs=true)(b:w.head?≠some 35)(c:cW v=true)(he:dE ctx (.word w true)=true):jb X (jB true n) ctx no (59::32::(w++v)) (59::32::(w++v)) (w++v) pd:=by grind[kt,jb.abx,jN,Nw]
theorem bX.ok{X:fm}{α:Type}{a:α}{r:aa}{pd:ao}:bX X (λq=>q=r) pd (.ok a r pd):= .inl ⟨rfl,rfl⟩
theorem Dc{E:ln}(ok:E.mY){m:Nat}(hm:xe E m)(s:Unit):ai E m (Gb (aS true m) s):=ai.ae ok ((hm.ls _ _).aJ _) λ_=>ai.ae ok (ai.cZ ok _) λ_=>ai.ae ok ((hm.ls _ _).aJ _) λ_=>
 ai.fS ok λt=>ai.ite (ai.ae ok (ai.cZ ok _) λ_=>ai.ret _) (ai.ite (ai.ae ok (ai.cZ ok _) λ_=>ai.ae ok ((hm.ls _ _).aJ _) λ_=>ai.ae ok (ai.cZ ok _) λ_=>ai.ret _) (ai.ae ok (ai.cZ ok _) λ_=>ai.ret _))
theorem abC{E:ln}(ok:E.mY)(m:Nat):ai E (m+1) (jB true (m+1)):=ai.pH ok (ai.pipe ok (ai.command ok (oq ok m)))
section
variable{X:fm}{m:Nat}(hm:X.c0<=m)(e6:ai X.E m (jB true m)){d:Nat}(kw:sR X d m)
include hm e6 kw
theorem apv{t v:aa}{pd:ao}(b:iv d t)(aw:dp X pd ([40]++t++[41]++v)):bX X (λr=>r=v) pd (gY (aS true m) (.op [40]) ([40]++t++[41]++v) pd):=by
 have he:[40]++t++[41]++v=40::(t++(41::v)):=by simp
 rw[he] at aw⊢;rw[apu];refine bX.ae hm (kw.ls (pre:=[]) (v:=41::v) (.inl rfl) b.cc (jb.op (zd v) (ze v) rfl) (aw.sfx ⟨[40],rfl⟩)).aJ (λa r' _ c=>?_) (λ_=>ai.jA X.ok _);grind[Fl,zd,ze,bX.ok]
theorem apw{t v:aa}{pd:ao}(b:cW v=true)(e:iv d t)(aw:dp X pd ([123,32]++(t++[10])++[125]++v)):bX X (λr=>r=v) pd (gY (aS true m) (.word [123] true) ([123,32]++(t++[10])++[125]++v) pd):=by
 have he:[123,32]++(t++[10])++[125]++v=123::([32]++(t++(10::([125]++v)))):=by simp
 rw[he] at aw⊢;rw[AY,bh rfl];have c:dp X pd ([32]++(t++(10::([125]++v)))):=aw.sfx ⟨[123],rfl⟩;refine bX.ae hm (kw.ls (.inr (.inl rfl)) e.cc (jb.AZ (w:=[125]) hm e6 (by simp) (by decide) (by decide) b rfl (c.sfx ⟨32::t,by simp⟩)) c).aJ (λa r' _ f=>?_) (λ_=>ai.cZ X.ok _);subst f;rw[sB (by simp) (by decide) (by decide) b];exact bX.ok
theorem apx{t u v:aa}{pd:ao}(b:cW v=true)(g:iv d t)(hu:iv d u)(aw:dp X pd ([105,102,32]++(t++[59])++[32,116,104,101,110,32]++(u++[10])++[102,105]++v)):bX X (λr=>r=v) pd (gY (aS true m) (.word lV true) ([105,102,32]++(t++[59])++[32,116,104,101,110,32]++(u++[10])++[102,105]++v) pd):=by
 have bn:=oq X.ok m;have he:[105,102,32]++(t++[59])++[32,116,104,101,110,32]++(u++[10])++[102,105]++v=lV++([32]++(t++(59::32::(ih++([32]++(u++(10::(fa++v)))))))):=by simp[lV,ih,fa]
 rw[he] at aw⊢;rw[AY,aP (by decide),bh rfl,o5,abA,cq];have e:=aw.sfx (gP lV _);have f:dp X pd ([32]++(u++(10::(fa++v)))):=e.sfx ⟨32::t++59::32::ih,by simp⟩;have h:dp X pd (10::(fa++v)):=f.sfx ⟨32::u,by simp⟩;unfold Gb;refine bX.sQ hm (Dc X.ok bn) (kw.ls (.inr (.inl rfl)) g.cc (jb.TX (w:=ih) hm e6 (by decide) (by decide) (by decide) rfl rfl) e).aJ (λa r' _ c=>?_) (λ_=>ai.ae X.ok (ai.cZ X.ok _) λ_=>ai.ae X.ok ((bn.ls _ _).aJ _) λ_=>ai.fS X.ok λt=>ai.ite (ai.ae X.ok (ai.cZ X.ok _) λ_=>ai.ret _) (ai.ite (ai.ae X.ok (ai.cZ X.ok _) λ_=>ai.ae X.ok ((bn.ls _ _).aJ _) λ_=>ai.ae X.ok (ai.cZ X.ok _) λ_=>ai.ret _) (ai.ae X.ok (ai.cZ X.ok _) λ_=>ai.ret _)));subst c;rw[aM (sB (by decide) (by decide) (by decide) rfl)];refine bX.sQ hm (Dc X.ok bn) (kw.ls (.inr (.inl rfl)) hu.cc (jb.AZ (w:=fa) hm e6 (by decide) (by decide) (by decide) b rfl h) f).aJ (λa r' _ c=>?_) (λ_=>ai.fS X.ok λt=>ai.ite (ai.ae X.ok (ai.cZ X.ok _) λ_=>ai.ret _) (ai.ite (ai.ae X.ok (ai.cZ X.ok _) λ_=>ai.ae X.ok ((bn.ls _ _).aJ _) λ_=>ai.ae X.ok (ai.cZ X.ok _) λ_=>ai.ret _) (ai.ae X.ok (ai.cZ X.ok _) λ_=>ai.ret _)));subst c;obtain⟨i,j⟩:=kt (w:=fa) (r:=v) (by decide) (by decide) (by decide) b;rw[aM (cb j),i,aP (by decide),aP (by decide),aM (sB (by decide) (by decide) (by decide) b)];exact bX.ok
theorem apy{t u v:aa}{pd:ao}(q:iv d t)(hu:iv d u)(aw:dp X pd ([105,102,32,97,59,32,116,104,101,110,10]++(t++[10])++[101,108,105,102,32,98,10,116,104,101,110,32,99,10,101,108,115,101,32]++(u++[59])++[102,105,32,50,62,102]++v)):bX X (λr=>r=[32,50,62,102]++v) pd (gY (aS true m) (.word lV true) ([105,102,32,97,59,32,116,104,101,110,10]++(t++[10])++[101,108,105,102,32,98,10,116,104,101,110,32,99,10,101,108,115,101,32]++(u++[59])++[102,105,32,50,62,102]++v) pd):=by
 have bn:=oq X.ok m;have he:[105,102,32,97,59,32,116,104,101,110,10]++(t++[10])++[101,108,105,102,32,98,10,116,104,101,110,32,99,10,101,108,115,101,32]++(u++[59])++[102,105,32,50,62,102]++v=lV++([32]++([97]++(59::32::(ih++([10]++(t++(10::(ij++([32]++([98]++(10::(ih++([32]++([99]++(10::(h2++([32]++(u++(59::(fa++([32,50,62,102]++v))))))))))))))))))))):=by simp[lV,ih,fa,ij,h2]
 rw[he] at aw⊢;rw[AY,aP (by decide),bh rfl,o5,abA,cq];have l:=aw.sfx (gP lV _);have n:dp X pd ([10]++(t++(10::(ij++([32]++([98]++(10::(ih++([32]++([99]++(10::(h2++([32]++(u++(59::(fa++([32,50,62,102]++v))))))))))))))))):=l.sfx ⟨[32]++([97]++(59::32::ih)),by simp⟩;have o:dp X pd (10::(ij++([32]++([98]++(10::(ih++([32]++([99]++(10::(h2++([32]++(u++(59::(fa++([32,50,62,102]++v))))))))))))))):=n.sfx ⟨10::t,by simp⟩;have p:dp X pd ([32]++([98]++(10::(ih++([32]++([99]++(10::(h2++([32]++(u++(59::(fa++([32,50,62,102]++v))))))))))))):=o.sfx ⟨10::ij,by simp⟩;have c:dp X pd (10::(ih++([32]++([99]++(10::(h2++([32]++(u++(59::(fa++([32,50,62,102]++v))))))))))):=p.sfx ⟨[32,98],by simp⟩;have e:dp X pd ([32]++([99]++(10::(h2++([32]++(u++(59::(fa++([32,50,62,102]++v))))))))):=c.sfx ⟨10::ih,by simp⟩;have f:dp X pd (10::(h2++([32]++(u++(59::(fa++([32,50,62,102]++v))))))):=e.sfx ⟨[32,99],by simp⟩;have h:dp X pd ([32]++(u++(59::(fa++([32,50,62,102]++v))))):=f.sfx ⟨10::h2,by simp⟩;have i:ai X.E m (ae (cZ fa) λ_=>(aY (.inr ()):ak (Unit⊕Unit))):=ai.ae X.ok (ai.cZ X.ok _) λ_=>ai.ret _;have g:ai X.E m (ae (bN []) λt=>if cB t ij then ae (cZ ij) λ_=>(aY (.inl ()):ak (Unit⊕Unit)) else
  if cB t h2 then ae (cZ h2) λ_=>ae (((aS true m).ls .kh false).aJ (10::fa)) λ_=>ae (cZ fa) λ_=>aY (.inr ()) else ae (cZ fa) λ_=>aY (.inr ())):=ai.fS X.ok λt=>ai.ite (ai.ae X.ok (ai.cZ X.ok _) λ_=>ai.ret _) (ai.ite (ai.ae X.ok (ai.cZ X.ok _) λ_=>ai.ae X.ok ((bn.ls _ _).aJ _) λ_=>i) i)
 unfold Gb;refine bX.sQ hm (Dc X.ok bn) (kw.ls (.inr (.inl rfl)) (Nv (.inl rfl)) (jb.TX (w:=ih) hm e6 (by decide) (by decide) (by decide) rfl rfl) l).aJ (λa r' _ b=>?_) (λ_=>ai.ae X.ok (ai.cZ X.ok _) λ_=>ai.ae X.ok ((bn.ls _ _).aJ _) λ_=>g);subst b;rw[aM (sB (by decide) (by decide) (by decide) rfl)];refine bX.sQ hm (Dc X.ok bn) (kw.ls (.inr (.inr rfl)) q.cc (jb.AZ (w:=ij) hm e6 (by decide) (by decide) (by decide) rfl rfl o) n).aJ (λa r' _ b=>?_) (λ_=>g);subst b;obtain⟨j,k⟩:=kt (w:=ij) (r:=[32]++([98]++(10::(ih++([32]++([99]++(10::(h2++([32]++(u++(59::(fa++([32,50,62,102]++v))))))))))))) (by decide) (by decide) (by decide) rfl;rw[aM (cb k),j,bh (by decide),aM (sB (by decide) (by decide) (by decide) rfl)];show bX X _ pd (if _ then b7 (Gb (aS true m)) () _ pd else .bad _);rw[bh (by grind[List.length_cons]),cq];unfold Gb;refine bX.sQ hm (Dc X.ok bn) (kw.ls (.inr (.inl rfl)) (Nv (.inr (.inl rfl))) (jb.AZ (w:=ih) hm e6 (by decide) (by decide) (by decide) rfl rfl c) p).aJ (λa r' _ b=>?_) (λ_=>ai.ae X.ok (ai.cZ X.ok _) λ_=>ai.ae X.ok ((bn.ls _ _).aJ _) λ_=>g);subst b;rw[aM (sB (by decide) (by decide) (by decide) rfl)];refine bX.sQ hm (Dc X.ok bn) (kw.ls (.inr (.inl rfl)) (Nv (.inr (.inr rfl))) (jb.AZ (w:=h2) hm e6 (by decide) (by decide) (by decide) rfl rfl f) e).aJ (λa r' _ b=>?_) (λ_=>g);subst b;obtain⟨j,k⟩:=kt (w:=h2) (r:=[32]++(u++(59::(fa++([32,50,62,102]++v))))) (by decide) (by decide) (by decide) rfl;rw[aM (cb k),j,aP (by decide),bh (by decide),aM (sB (by decide) (by decide) (by decide) rfl)];refine bX.sQ hm (Dc X.ok bn) (kw.ls (.inr (.inl rfl)) hu.cc (jb.abB (w:=fa) hm e6 (by decide) (by decide) (by decide) rfl rfl (by decide)) h).aJ (λa r' _ b=>?_) (λ_=>i);subst b;rw[aM (sB (by decide) (by decide) (by decide) rfl)];exact bX.ok
theorem abG{x u v:aa}{pd:ao}(b:cW v=true){e:aa}(he:e=[]\/e=[32])(hu:iv d u)(aw:dp X pd (gO++([32]++(u++(59::(e++(iN++v))))))):bX X (λr=>r=v) pd (iO (aS true m) x (gO++([32]++(u++(59::(e++(iN++v)))))) pd):=by
 have bn:=oq X.ok m;unfold iO;rw[aM (hJ.2 (sB (by decide) (by decide) (by decide) rfl))];have bm:jb X (jB true m) .done false (59::(e++(iN++v))) (59::(e++(iN++v))) (iN++v) pd:=by
  rcases he with rfl|rfl
  ·exact jb.abB (w:=iN) hm e6 (by decide) (by decide) (by decide) b rfl (by decide)
  ·exact jb.TX (w:=iN) hm e6 (by decide) (by decide) (by decide) b rfl
 refine bX.ae hm (kw.ls (.inr (.inl rfl)) hu.cc bm (aw.sfx (gP gO _))).aJ (λa r' _ c=>?_) (λ_=>ai.cZ X.ok _);subst c;rw[sB (by decide) (by decide) (by decide) b];exact bX.ok
theorem apA{t u v:aa}{pd:ao}(e:cW v=true)(f:iv d t)(hu:iv d u)(aw:dp X pd ([119,104,105,108,101,32]++(t++[10])++[100,111,32]++(u++[59])++[32,100,111,110,101]++v)):bX X (λr=>r=v) pd (gY (aS true m) (.word w9 true) ([119,104,105,108,101,32]++(t++[10])++[100,111,32]++(u++[59])++[32,100,111,110,101]++v) pd):=by
 have bn:=oq X.ok m;have he:[119,104,105,108,101,32]++(t++[10])++[100,111,32]++(u++[59])++[32,100,111,110,101]++v=w9++([32]++(t++(10::(gO++([32]++(u++(59::([32]++(iN++v))))))))):=by simp[w9,gO,iN]
 rw[he] at aw⊢;rw[AY,aP (by decide),aP (by decide),aP (by decide),aP (by decide),o5];have b:=aw.sfx (gP w9 _);have c:dp X pd (10::(gO++([32]++(u++(59::([32]++(iN++v))))))):=b.sfx ⟨32::t,by simp⟩;refine bX.ae hm (kw.ls (.inr (.inl rfl)) f.cc (jb.AZ (w:=gO) hm e6 (by decide) (by decide) (by decide) rfl rfl c) b).aJ (λa r' _ g=>?_) (λ_=>ai.body X.ok bn _);subst g;exact abG hm e6 kw e (.inr rfl) hu (c.sfx (ee _ _))
end
theorem abH{X:fm}{D:ak Unit}{w u:aa}{pd:ao}(b:eM X D w)(hu:cW u=true)(a:u≠[])(aw:dp X pd (w++u)):bX X (λr=>r=u) pd (cI D (w++u) pd):=by have:=(b u pd a aw).1;rw[Jq hu a] at this;exact this.Jo bX.ok
theorem Gc{D:ak Unit}{w u:aa}{pd:ao}(a:w.all qs=true)(hu:cW u=true)(b:u≠[]):cI D (w++u) pd= .ok () u pd:=by grind[CC,Jq]
theorem abI{b:UInt8}{t:aa}{pd:ao}:bV 1 (b::t) pd= .ok () t pd:=rfl
def Dd(D:ak Unit):Unit->ak (Unit⊕Unit):=λ_=>ae (bN []) λt=>match t with
 | .eof=>b3 []
 | .word _ _=>ae (cI D) λ_=>aY (.inl ())
 | .line=>aY (.inr ())
 | .op o=>if o=[59] then ae (bV 1) λ_=>aY (.inr ()) else bK
theorem apB(D:ak Unit):pF D=b7 (Dd D) ():=rfl
theorem apC{E:ln}(ok:E.mY){m:Nat}(hm:xe E m)(s:Unit):ai E m (Dd (aS true m).dl s):=ai.fS ok λt=>by
 cases t with
 |eof=>simp[ai.b3]
 |word _ _=>exact ai.ae ok (ai.cI ok hm.dl) λ_=>ai.ret _
 |line=>simp[ai.ret]
 |op o=>exact ai.ite (ai.ae ok (ai.dm ok _) λ_=>ai.ret _) ai.bK
section
variable{X:fm}{m:Nat}(hm:X.c0<=m)(e6:ai X.E m (jB true m)){d:Nat}(kw:sR X d m)
include hm e6 kw
theorem apD{w v:aa}{pd:ao}(b:h5 d w)(aw:dp X pd (32::97::32::(w++(59::32::v)))):bX X (λr=>r=32::v) pd (pF (aS true m).dl (32::97::32::(w++(59::32::v))) pd):=by have bn:=oq X.ok m;have hf:=λs=>apC X.ok bn s;rw[apB,cq];unfold Dd;obtain⟨e,f⟩:=kt (w:=[97]) (r:=32::(w++(59::32::v))) (by simp) (by decide) (by decide) rfl;rw[aM (cb (by rw[jN];exact f)),e];simp only;rw[aM (Gc (by decide) rfl (by simp))];show bX X _ pd (if _ then b7 (Dd (aS true m).dl) () (32::(w++(59::32::v))) pd else .bad _);rw[bh (by simp),cq];unfold Dd;obtain⟨cm,⟨x,p,g⟩,j⟩:=(Nq b).tok (u:=59::32::v);rw[aM (cb (by rw[jN];exact cm)),g];simp only;have c:ar (59::32::v)= .op [59]:=Nw (by decide);have h:cW (59::32::v)=true:=(hN.op (xG _) c (by decide) (by decide)).pU;refine bX.sQ hm hf (abH (kw.wd w b) h (by simp) (aw.sfx ⟨[32,97,32],rfl⟩)) (λa r' _ i=>?_) (λ_=>ai.ret _);subst i;show bX X _ pd (if _ then b7 (Dd (aS true m).dl) () (59::32::v) pd else .bad _);rw[bh (by grind),cq];unfold Dd;rw[aM (cb (xG _)),c];simp only;rw[if_pos trivial,aM abI];exact bX.ok
theorem apE{w u v:aa}{pd:ao}(i:cW v=true)(j:h5 d w)(hu:iv d u)(aw:dp X pd ([102,111,114,32,120,32,105,110,32,97,32]++w++[59,32,100,111,32]++(u++[59])++[100,111,110,101]++v)):bX X (λr=>r=v) pd (gY (aS true m) (.word nz true) ([102,111,114,32,120,32,105,110,32,97,32]++w++[59,32,100,111,32]++(u++[59])++[100,111,110,101]++v) pd):=by
 have bn:=oq X.ok m;have he:[102,111,114,32,120,32,105,110,32,97,32]++w++[59,32,100,111,32]++(u++[59])++[100,111,110,101]++v=nz++(32::([120]++(32::(fb++(32::97::32::(w++(59::32::(gO++([32]++(u++(59::([]++(iN++v))))))))))))):=by simp[nz,fb,gO,iN]
 rw[he] at aw⊢;generalize g:gO++([32]++(u++(59::([]++(iN++v)))))=z at aw⊢;have b:dp X pd (32::97::32::(w++(59::32::z))):=aw.sfx ⟨nz++(32::([120]++(32::fb))),by simp⟩;have c:dp X pd z:=b.sfx ⟨32::97::32::(w++[59,32]),by simp⟩;rw[AY,if_neg (by decide),if_neg (by decide),if_pos rfl,List.drop_left];unfold pG;obtain⟨k,l⟩:=kt (w:=[120]) (r:=32::(fb++(32::97::32::(w++(59::32::z))))) (by simp) (by decide) (by decide) rfl;rw[aM (cb (by rw[jN];exact l)),k];simp only;rw[bh (by decide),aM L5];refine bX.ae (P:=λr=>r=z) hm (bX.aJ ?_) (λa r' _ e=>?_) (λ_=>ai.body X.ok bn _)
 ·obtain⟨h,f⟩:=kt (w:=fb) (r:=32::97::32::(w++(59::32::z))) (by decide) (by decide) (by decide) rfl;rw[aM (cb (by rw[jN];exact f)),h,aP (by simp),aM (qt f (by grind)),aM (cb f),h,if_pos (by decide)];rw[aM (show bV 2 (fb++(32::97::32::(w++(59::32::z)))) pd= .ok () (32::97::32::(w++(59::32::z))) pd from rfl)];refine bX.ae hm (apD hm e6 kw j b) (λa r' _ e=>?_) (λ_=>ai.ae X.ok (ai.lines X.ok) λ_=>ai.ret _);subst e;subst g;obtain⟨o,n⟩:=kt (w:=gO) (r:=[32]++(u++(59::([]++(iN++v))))) (by decide) (by decide) (by decide) rfl;rw[aM (qt (by rw[jN];exact n) (by grind))];exact bX.ok
 ·subst e;subst g;exact abG hm e6 kw i (.inl rfl) hu c
theorem apG{v:aa}{pd:ao}(e:cW v=true)(aw:dp X pd ([102,111,114,32,120,10,100,111,32,97,10,100,111,110,101]++v)):bX X (λr=>r=v) pd (gY (aS true m) (.word nz true) ([102,111,114,32,120,10,100,111,32,97,10,100,111,110,101]++v) pd):=by
 have bn:=oq X.ok m;have he:[102,111,114,32,120,10,100,111,32,97,10,100,111,110,101]++v=nz++(32::([120]++(10::(gO++([32]++([97]++(10::(iN++v)))))))):=by rfl
 rw[he] at aw⊢;have c:dp X pd (10::(gO++([32]++([97]++(10::(iN++v)))))):=aw.sfx ⟨nz++[32,120],by simp⟩;have f:dp X pd ([32]++([97]++(10::(iN++v)))):=c.sfx ⟨10::gO,by simp⟩;rw[AY,if_neg (by decide),if_neg (by decide),if_pos rfl,List.drop_left];unfold pG;obtain⟨h,i⟩:=kt (w:=[120]) (r:=10::(gO++([32]++([97]++(10::(iN++v)))))) (by simp) (by decide) (by decide) rfl;rw[aM (cb (by rw[jN];exact i)),h];simp only;rw[bh (by decide),aM L5];obtain⟨g,d⟩:=kt (w:=gO) (r:=[32]++([97]++(10::(iN++v)))) (by decide) (by decide) (by decide) rfl;generalize k:gO++([32]++([97]++(10::(iN++v))))=z at c g d⊢;refine bX.ae (P:=λr=>r=z) hm (bX.aJ ?_) (λa r' _ b=>?_) (λ_=>ai.body X.ok bn _)
 ·rw[aM (cb (hN.nl _).rR),aP (by simp[ar])];refine bX.ae hm (zf hm (j:=[10]) (x:=z) (.inr (.inl rfl)) d (by grind) c) (λa r' _ b=>?_) (λ_=>ai.fS X.ok λt=>ai.ite (ai.ae X.ok (ai.dm X.ok _) λ_=>ai.ae X.ok (ai.words X.ok bn) λ_=>ai.ae X.ok (ai.lines X.ok) λ_=>ai.ret _) (ai.ret _));subst b;rw[aM (cb d),g,aP (by decide)];exact bX.ok
 ·subst b;subst k;unfold iO;rw[aM (hJ.2 (sB (by decide) (by decide) (by decide) rfl))];refine bX.ae hm (kw.ls (.inr (.inl rfl)) (Nv (.inl rfl)) (jb.AZ (w:=iN) hm e6 (by decide) (by decide) (by decide) e rfl (f.sfx ⟨[32,97],rfl⟩)) f).aJ (λa r' _ b=>?_) (λ_=>ai.cZ X.ok _);subst b;rw[sB (by decide) (by decide) (by decide) e];exact bX.ok
end
def Nx(D:ak Unit):Unit->ak (Unit⊕Unit):=λ_=>ae (bN [120,41]) λt=>match t with
 | .eof=>b3 [120,41]
 | .word _ _=>ae ((cI D).aJ [41]) λ_=>ae (bN [41]) λt=>match t with
   | .eof=>b3 [41]
   | .op o=>if o=[124] then ae (bV 1) λ_=>aY (.inl ()) else if o=[41] then ae (bV 1) λ_=>aY (.inr ()) else bK
   |_=>bK
 |_=>bK
theorem TY(D:ak Unit):kq D=b7 (Nx D) ():=rfl
theorem abK{b:UInt8}{t:aa}(h:b≠124):ar (124::b::t)= .op [124]:=by rw[mS (by simp)];simp[bt,lh,xJ,List.isPrefixOf,h.symm]
theorem TZ{D:ak Unit}{b:UInt8}{x y:aa}{pd:ao}(d:qs b=true)(e:b≠35)(a:bq y=some (b::41::x)):kq D y pd= .ok () x pd:=by have ad:ar (b::41::x)= .word [b] true:=tu (w:=[b]) (by simp) (by grind) (hN.op (zd x) (ze x) (by decide) (by decide)).pU;rw[TY,cq];unfold Nx;rw[aM (cb a),ad];simp only;have c:cI D (b::41::x) pd= .ok () (41::x) pd:=Gc (w:=[b]) (u:=41::x) (by grind) (hN.op (zd x) (ze x) (by decide) (by decide)).pU (by simp);rw[aM (hJ.2 c),aM (cb (zd x)),ze];rfl
theorem apH{D:ak Unit}{x:aa}{pd:ao}:kq D (97::124::98::41::x) pd= .ok () x pd:=by have a:ar (124::98::41::x)= .op [124]:=abK (by decide);have b:bq (124::98::41::x)=some (124::98::41::x):=j3 (by decide) (by decide) (by decide);have c:=(hN.op b a (by decide) (by decide)).pU;have ad:ar (97::124::98::41::x)= .word [97] true:=tu (w:=[97]) (by simp) (by decide) c;rw[TY,cq];unfold Nx;rw[aM (cb (j3 (by decide) (by decide) (by decide))),ad];simp only;have d:cI D (97::124::98::41::x) pd= .ok () (124::98::41::x) pd:=Gc (w:=[97]) (u:=124::98::41::x) (by decide) c (by simp);rw[aM (hJ.2 d),aM (cb b),a];simp only;rw[bh trivial,aM abI];show(if _ then b7 (Nx D) () (98::41::x) pd else .bad _)=_;rw[bh (by simp),<-TY];exact TZ (by decide) (by decide) (j3 (by decide) (by decide) (by decide))
theorem abL{m:Nat}{y x:aa}{pd:ao}(a:bq y=some x)(ad:ar x≠ .eof)(b:ar x≠ .line)(he:dE .item (ar x)=true):(aS true m).ls .item true y pd= .ok 0 x pd:=by rw[uM,pI,aM (hJ.2 (qt a b)),cq];have c:=kG _ _ _ (cX _) a;rw[XM c ad he rfl];rfl
def zi(l:dT)(D:ak Unit):Unit->ak (Unit⊕Unit):=λ_=>ae cR λ_=>ae (bN []) λt=>if t= .eof then b3 [] else if cB t ew then ae (bV 4) λ_=>aY (.inr ()) else
 ae ((if t= .op [40] then bV 1 else aY ())) λ_=>ae (kq D) λ_=>ae (l.ls .item true) λ_=>ae (bN []) λt=>if t= .op [59,59] then ae (bV 2) λ_=>aY (.inl ()) else aY (.inl ())
theorem Df(l:dT)(D:ak Unit):nc l D=b7 (zi l D) ():=rfl
theorem abM{E:ln}(ok:E.mY){m:Nat}:ai E m (ae (bN []) λt=>if t= .op [59,59] then ae (bV 2) λ_=>(aY (.inl ()):ak (Unit⊕Unit)) else aY (.inl ())):=ai.fS ok λt=>ai.ite (ai.ae ok (ai.dm ok _) λ_=>ai.ret _) (ai.ret _)
theorem abN{E:ln}(ok:E.mY){m:Nat}(hm:xe E m):ai E m (ae (bN []) λt=>if t= .eof then b3 [] else if cB t ew then ae (bV 4) λ_=>(aY (.inr ()):ak (Unit⊕Unit)) else
 ae ((if t= .op [40] then bV 1 else aY ())) λ_=>ae (kq (aS true m).dl) λ_=>ae ((aS true m).ls .item true) λ_=>ae (bN []) λt=>if t= .op [59,59] then ae (bV 2) λ_=>aY (.inl ()) else aY (.inl ())):=ai.fS ok λt=>ai.ite (ai.b3 _) (ai.ite (ai.ae ok (ai.dm ok _) λ_=>ai.ret _)
 (ai.ae ok (ai.ite (ai.dm ok _) (ai.ret _)) λ_=>ai.ae ok (ai.xc ok hm) λ_=>ai.ae ok (hm.ls _ _) λ_=>abM ok))
theorem apI{E:ln}(ok:E.mY){m:Nat}(hm:xe E m)(s:Unit):ai E m (zi (aS true m) (aS true m).dl s):=ai.ae ok (ai.lines ok) λ_=>abN ok hm
end Go.Eng
