/- Part 5 of what FnBad needs. No condition. -/
import Derived.Test.YthnjiffnjaaejaaGreatDoorFnBadD
set_option linter.all false
namespace Go.Eng
open Go Go.Proofs
section
variable{R:bj}{n:Nat}(hD:k7 R n){e:cn}(bc:e.ne=30- (n:Int))
include hD bc
theorem T5{r:H}{F:ai}{ah:Bool}(h:cG e r F)(Y:bn r=some r)(iO:fg (bu (r.dropWhile cf))=true):bR false e r (dI (a9 true n) r F) (λst=>st) (λb _ _=>b=true) (Fa R (e.st r F ah)):=by
 have Db:r.dropWhile cf<:+r:=C1;have c_:dI (a9 true n) r F=N (if bu (r.dropWhile cf)=[60,60] then gS false else if bu (r.dropWhile cf)=[60,60,45] then gS true else jK (a9 true n) [120]) (λ_=>aZ true) ((r.dropWhile cf).drop (bu (r.dropWhile cf)).length) F:=by
  have nf:fX r F= .ok (some (bu (r.dropWhile cf))) ((r.dropWhile cf).drop (bu (r.dropWhile cf)).length) F:=by simp_all[fX]
  unfold dI;grind[aT]
 rw[c_];unfold Fa a6;have M:(e.st r F ah).1=e.S:=rfl;have U:(e.st r F ah).2.1=ar e.S r:=rfl;refine bR.eh ?_ (anP (e:=e) (I:=e.st r F ah) rfl h.b3 bC r (mj (kN (eY h.sfx) h.b3)) h.sfx);have aE:=Db.trans h.sfx;have T6:=h.mono Db;generalize r.dropWhile cf=q at*;have iG:bu q<+:q:=Sz;have lZ:=YR (r:=q);have h0:=Tm iO;have fO:iq ((e.st r F ah).1,ar e.S q,(e.st r F ah).2.2.1,(e.st r F ah).2.2.2.1,(e.st r F ah).2.2.2.2.1,(e.st r F ah).2.2.2.2.2.1,(e.st r F ah).2.2.2.2.2.2.1,(e.st r F ah).2.2.2.2.2.2.2.1,(e.st r F ah).2.2.2.2.2.2.2.2)=some (bu q):=Jl h.b3 aE _ _ _ _ _ _ _;rw[fO,aP rfl];generalize aN:bu q=o at*;obtain⟨v,rfl⟩:=iG;rw[oO];have g2:v<:+o++v:=fR o v;have aB:=T6.mono g2;have lq:W (ar e.S (o++v)+(o.length:Int))=ar e.S v:=kK h.b3 aE;have s9:v≠[]:=by
  rintro rfl;rw[k8] at aE;rcases h.nl.iD aE with m|⟨s,m⟩
  ·grind
  grind
 have Tc:v.length<r.length:=by grind
 have bU:((e.st r F ah).1,W (ar e.S (o++v)+(o.length:Int)),(e.st r F ah).2.2.1,(e.st r F ah).2.2.2.1,(e.st r F ah).2.2.2.2.1,(e.st r F ah).2.2.2.2.2.1,(e.st r F ah).2.2.2.2.2.2.1,(e.st r F ah).2.2.2.2.2.2.2.1,(e.st r F ah).2.2.2.2.2.2.2.2)=e.st v F ah:=by rw[lq];rfl
 rw[bU];have zB:v<:+r:=g2.trans Db;have atT:=aB.kb;have o1:=uf F;have nR:=h.b3;have anF:=eY h.sfx;have atU:(bif decide (o=[60,60]) then true else decide (o=[60,60,45]))=(decide (o=[60,60])||decide (o=[60,60,45])):=by simp
 rcases xR aB ⟨ah,rfl,λC=>absurd C s9⟩ with⟨c,eS,b0,cL,eV,X,dP,iI⟩|⟨b0,cL⟩
 ·rw[cL,aP rfl];obtain⟨g,rfl,_⟩:=eV;have Z:c≠[]:=aaC (h.nl.iD aB.sfx) s9 b0;have kq:gY ((e.st c F g).1,(e.st c F g).2.1,(e.st c F g).2.2.1,(e.st r F ah).2.2.2.1,(e.st c F g).2.2.2.2.1,(e.st c F g).2.2.2.2.2.1,(e.st c F g).2.2.2.2.2.2.1,(e.st r F ah).2.2.2.2.2.2.2.1,(e.st c F g).2.2.2.2.2.2.2.2)=some (decide (c=[])):=wI e c _ _ _ _ _ _ _;rw[kq,aP rfl,eu Z];simp only[aU];have anQ:xz ((e.st c F g).1,(e.st c F g).2.1,(e.st c F g).2.2.1,(e.st r F ah).2.2.2.1,(e.st c F g).2.2.2.2.1,(e.st c F g).2.2.2.2.2.1,(e.st c F g).2.2.2.2.2.2.1,(e.st r F ah).2.2.2.2.2.2.2.1,(e.st c F g).2.2.2.2.2.2.2.2)=some (match an c with| .word _ _=>false|_=>true):=Nz X Z;rw[anQ,aP rfl];have u:c<:+r:=dP.trans zB
  have anR:∀t,an c=t->(∀w p,t≠ .word w p)->(if o=[60,60] then gS false else if o=[60,60,45] then gS true else jK (a9 true n) [120]:ad Unit) v F= .bad c:=by
   intro t al atV
   have atW:∀tabs,gS tabs v F= .bad c:=by grind[gS,lX]
   have rV:jK (a9 true n) [120] v F= .bad c:=by
    unfold jK;rw[aT (cu b0)];cases aw:an c with
    |eof=>grind[lX]
    |word w p=>grind
    |_=>rfl
   grind
  by_cases hw:∃w p,an c= .word w p
  ·obtain⟨w,p,hw⟩:=hw;rw[hw];simp only[aU];have eD:=F6 hD bc (tr0:=g) X;obtain⟨⟨fw,hI,f⟩,bs,i⟩:=eD;have wO:rD R ((e.st c F g).1,(e.st c F g).2.1,(e.st c F g).2.2.1,(e.st r F ah).2.2.2.1,(e.st c F g).2.2.2.2.1,(e.st c F g).2.2.2.2.2.1,(e.st c F g).2.2.2.2.2.2.1,(e.st r F ah).2.2.2.2.2.2.2.1,(e.st c F g).2.2.2.2.2.2.2.2)=some (fw,hI,f):=bs;rw[wO,aP rfl];simp only;have D:=anN (mI true n) _ c F (cS _) (h.nl.iD X.sfx);by_cases aD:o=[60,60]\/o=[60,60,45]
   ·have E:(bif decide (o=[60,60]) then true else decide (o=[60,60,45]))=true:=by grind
    rw[E];simp only[hE,aU];have NA:(if o=[60,60] then gS false else if o=[60,60,45] then gS true else jK (a9 true n) [120]:ad Unit)=gS (decide (o=[60,60,45])):=by grind
    generalize decide (o=[60,60,45])=tabs at*;have j:gS tabs v F=(match dr c with
      |none=> .bad c
      |some (d,q,k)=>if d.contains 10 then .bad c else
       if tabs/\d.head?=some 9 then .bad c else
       if k≠[] then .more [k] k (F++[(d,tabs)]) else
       if q=[] then .more [] [] (F++[(d,tabs)]) else .ok () q (F++[(d,tabs)])):=by
     grind[gS]
    have V4:f.2.2.2.2.2.2.1.length<=100*e.S.length+1000:=by
     cases hm:cO (a9 true n) c F with
     |ok a L G=>rw[hm] at i;obtain⟨_,_,⟨n9,m,_⟩,_⟩:=i;dsimp only at m;rw[m];show([]:H).length<=_;simp
     |more op nd ds=>rw[hm] at i;have:=i.z.2.2.2.1.nd;grind
     |bad q=>rw[hm] at i;have:=i.2.nd;grind
     |deep q=>rw[hm] at i;have:=i.2.nd;grind
    have anS:b1 f.2.2.2.2.2.2.1 ((e.st c F g).2.2.2.2.2.2.1.length:Int) (f.2.2.2.2.2.2.1.length:Int)=f.2.2.2.2.2.2.1:=by show b1 f.2.2.2.2.2.2.1 ((0:Nat):Int) _=_;simp[b1]
    rw[anS];have aa5:f.1=e.S/\oJ e r f:=by
     cases hm:cO (a9 true n) c F with
     |ok a L G=>rw[hm] at i;obtain⟨cB,aj,⟨n9,m,_⟩,_⟩:=i;dsimp only at m;rw[m];exact⟨rfl,aa3 aj (cB.trans u)⟩
     |more op nd ds=>rw[hm] at i;exact⟨i.z.2.2.2.1.s,i.z.2.2.2.1.mono u⟩
     |bad q=>rw[hm] at i;exact⟨i.2.s,i.2.mono u⟩
     |deep q=>rw[hm] at i;exact⟨i.2.s,i.2.mono u⟩
    obtain⟨xN,BI⟩:=T3 X aa5.1 bs;dsimp only at xN BI;have xW:fw.length<=1000000:=by omega
    refine bR.eh ?_ (bX (show 0<=((e.st c F g).2.2.2.2.2.2.1.length:Int)/\((e.st c F g).2.2.2.2.2.2.1.length:Int)<=(f.2.2.2.2.2.2.1.length:Int)/\(f.2.2.2.2.2.2.1.length:Int)<=(f.2.2.2.2.2.2.1.length:Int) from by show(0:Int)<=((0:Nat):Int)/\((0:Nat):Int)<=_/\_;omega))
    refine bR.eh ?_ (bX (by omega));have hlen:((fw++f.2.2.2.2.2.2.1).length:Int)<=200000000:=by grind
    refine bR.eh ?_ (aP (al8 _ hlen));have z:=aa5.2;have anT:∀(l:H)(O:Bool),(a2 (((bif tabs then(decide (0<(l.length:Int))) else false)=true)->((bif(decide (f.2.2.2.2.1=2)) then true else(!O))=false)->0<=(0:Int)/\0<(l.length:Int))<|
      (bif(bif(bif(decide (f.2.2.2.2.1=2)) then true else(!O)) then true else(bif(bif tabs then(decide (0<(l.length:Int))) else false) then(decide (((at' l 0).toNat:Int)=(9:Int))) else false)) then
      (au (h9 f (e.st c F g).2.1) λ(J:aa)=>
      some (J.1,J.2.1,J.2.2.1,f.2.2.2.1,J.2.2.2.2.1,J.2.2.2.2.2.1,J.2.2.2.2.2.2.1,f.2.2.2.2.2.2.2.1,J.2.2.2.2.2.2.2.2))
      else
      (a2 (f.2.2.2.1.length+([(l,tabs)]:ai).length<=536870912)<|
      some (f.1,f.2.1,f.2.2.1,(f.2.2.2.1++([(l,tabs)]:ai)),f.2.2.2.2.1,f.2.2.2.2.2.1,f.2.2.2.2.2.2.1,f.2.2.2.2.2.2.2.1,f.2.2.2.2.2.2.2.2))))=
      if(f.2.2.2.2.1=2\/O=false\/(tabs=true/\l.head?=some 9)) then some (f.1,f.2.1,f.2.2.1,f.2.2.2.1,2,(e.st c F g).2.1,f.2.2.2.2.2.2.1,f.2.2.2.2.2.2.2.1,f.2.2.2.2.2.2.2.2)
      else some (f.1,f.2.1,f.2.2.1,(f.2.2.2.1++([(l,tabs)]:ai)),f.2.2.2.2.1,f.2.2.2.2.2.1,f.2.2.2.2.2.2.1,f.2.2.2.2.2.2.2.1,f.2.2.2.2.2.2.2.2):=by
     intro l O
     rw[bX (by grind)]
     have Tl:(bif bif tabs then decide (0<(l.length:Int)) else false then decide (((at' l 0).toNat:Int)=9) else false)=decide (tabs=true/\l.head?=some 9):=by
      cases tabs with
      |false=>simp
      |true=>
       cases l with
       |nil=>simp
       |cons x y=>simp[at',I2]
     rw[Tl];have anU:f.2.2.2.1.length+[(l,tabs)].length<=536870912:=by have m:=uf f.2.2.2.1;have aX:=z.nd;grind
     rw[bX anU];by_cases e1:f.2.2.2.2.1=2
     ·simp only[e1,bA,aL,true_or,cU];rfl
     ·by_cases dO:O=false
      ·subst dO;simp only[e1,bH,aU,fp,aL,false_or,true_or,cU];rfl
      ·have anV:O=true:=by grind
       subst anV;by_cases jo:tabs=true/\l.head?=some 9
       ·rw[bh (.inr (.inr jo)),decide_eq_true jo];simp only[e1,bH,aU,hE,aL];rfl
       grind
    refine bR.eh ?_ (anT _ _);rw[NA];have rW:bR false e r (.bad c:dD Bool) (λst=>st) (λb _ _=>b=true) (some (f.1,f.2.1,f.2.2.1,f.2.2.2.1,(2:Int),(e.st c F g).2.1,f.2.2.2.2.2.2.1,f.2.2.2.2.2.2.2.1,f.2.2.2.2.2.2.2.2)):=
     ⟨_,rfl,rfl,z.s,z.lo,z.bg,z.nd,z.op⟩
    have K:=aJ.qO (tabs:=tabs) (r0:=o++v) (v:=v) (F:=F) (by grind);have anW:=T6.kb;cases hm:cO (a9 true n) c F with
    |bad q=>
     rw[hm] at i D;rw[bh (.inl i.1)];have:gS tabs v F= .bad c:=by rw[j,show dr c=none from D]
     grind[hp]
    |deep q=>
     rw[hm] at i D;rw[bh (.inl i.1)];have:gS tabs v F= .bad c:=by rw[j,show dr c=none from D]
     grind[hp]
    |ok a L G=>
     rw[hm] at i D;obtain⟨cB,aj,⟨n9,m,_⟩,bP,_⟩:=i;dsimp only at m bP;subst m;have anX:(e.st L G n9).2.2.2.2.2.2.1=[]:=rfl;rw[anX,k8];obtain⟨w,FW,tb⟩:=D;have T7:fw=w:=by simp_all
     subst T7;have anY:¬((e.st L G n9).2.2.2.2.1=2):=by show¬((0:Int)=2);decide
     rcases tb with⟨dT,A⟩|⟨d,dT,A,rfl⟩
     ·rw[A];rw[bh (.inr (.inl rfl))];grind[hp]
     ·rw[dT];rw[A] at j;simp only at j;unfold A3;simp only;by_cases P:d.contains 10=true
      ·rw[bh P] at j;rw[bh (.inr (.inl (by grind))),hp j];grind
      ·rw[aO P] at j;by_cases IJ:tabs=true/\d.head?=some 9
       ·rw[bh IJ] at j;rw[bh (.inr (.inr (by grind))),hp j];grind
       ·rw[aO IJ] at j;have aa6:L≠[]:=by
         rintro rfl;have hex:cO (a9 true n) c G= .ok a [] G:=hm
         have:∀(bz:Nat)(r:H)(F:ai)(a:Unit)(q:H)(aF:ai),r.length<=bz->cO (a9 true n) r F= .ok a q aF->q≠[]:=by
          intro bz r F a q aF fh C;unfold cO at C;refine ZD (Q:=λq=>q≠[]) (λs r F a q aF NB=>?_) bz _ _ _ _ _ _ fh C;cases r with
          |nil=>cases NB
          |cons b t=>
           simp only at NB;split at NB
           ·grind
           ·obtain⟨_,_,_,_,anZ⟩:=b7 NB;cases anZ
         grind
        rw[aO (by simp),aO aa6] at j;rw[aO (by grind),aT j,if_neg P];rw[j] at K;simp only[ek] at K;exact⟨_,rfl,cB.trans u,⟨h.b3,h.nl,h.Jk,aj.sfx,by omega⟩,⟨n9,rfl,λC=>absurd C aa6⟩,rfl⟩
    |more op nd ds=>
     rw[hm] at i D;obtain⟨mq,S,T,F5,V⟩:=i.z;dsimp only at mq S T F5 V;have T7:=BI V;rw[T7,S];have anY:¬(f.2.2.2.2.1=2):=by omega
     rcases D with⟨dT,A⟩|⟨d,dT,A,rfl⟩
     ·have zq:(A3 (dl (c++nd) 0)).2=false:=by
       rcases A with A|⟨d,A,jB⟩
       ·rw[A];rfl
       simp_all[A3]
      simp_all[hp]
     ·rw[A];rw[dT] at j;simp only at j;unfold A3;simp only;by_cases P:d.contains 10=true
      ·simp_all[hp]
      ·rw[aO P] at j;by_cases IJ:tabs=true/\d.head?=some 9
       ·simp_all[hp]
       ·rw[aO IJ] at j;rw[aO (by grind),if_neg P]
        have l2:∃lW,gS tabs v ds= .more lW nd (ds++[(d,tabs)]):=by grind
        obtain⟨lW,l2⟩:=l2;rw[dm l2];rw[l2] at K;simp only[ek] at K;rw[T];exact⟨_,rfl,.inl ⟨mq,rfl,rfl,⟨z.s,z.lo,z.bg,by grind,z.op⟩,V⟩⟩
   ·have E:(bif decide (o=[60,60]) then true else decide (o=[60,60,45]))=false:=by grind
    rw[E];simp only[fp,aL];simp only[BC] at aD;have B:(if o=[60,60] then gS false else if o=[60,60,45] then gS true else jK (a9 true n) [120]:ad Unit) v F=cO (a9 true n) c F:=by rw[aO aD.1,aO aD.2];unfold jK;rw[aT (cu b0),hw]
    cases hm:cO (a9 true n) c F with
    |ok a L G=>rw[hm] at i B;rw[aT B];obtain⟨cB,aj,a3,_⟩:=i;exact⟨f,rfl,cB.trans u,aj,a3,rfl⟩
    |more op nd ds=>rw[hm] at i B;rw[dm B];exact⟨f,rfl,ja.mono i u⟩
    |bad q=>rw[hm] at i B;rw[hp B];exact⟨f,rfl,jk.mono i u⟩
    |deep q=>rw[hm] at i B;rw[kd B];exact⟨f,rfl,jk.mono i u⟩
  ·have an0:(match an c with| .word _ _=>false|_=>true)=true:=by grind
   rw[an0];simp only[aL];rw[hp (anR _ rfl (λw p C=>hw ⟨w,p,C⟩))];obtain⟨st,bs,i⟩:=qe (ah:=g) ((e.st c F g).2.1) X u;have wO:h9 ((e.st c F g).1,(e.st c F g).2.1,(e.st c F g).2.2.1,(e.st r F ah).2.2.2.1,(e.st c F g).2.2.2.2.1,(e.st c F g).2.2.2.2.2.1,(e.st c F g).2.2.2.2.2.2.1,(e.st r F ah).2.2.2.2.2.2.2.1,(e.st c F g).2.2.2.2.2.2.2.2) (e.st c F g).2.1=some st:=bs;rw[wO,aP rfl];exact⟨_,rfl,by cases bs;exact i⟩
 ·
  rw[cL,aP rfl];have kq:gY ((e.tt F).1,(e.tt F).2.1,(e.tt F).2.2.1,(e.st r F ah).2.2.2.1,(e.tt F).2.2.2.2.1,(e.tt F).2.2.2.2.2.1,(e.tt F).2.2.2.2.2.2.1,(e.st r F ah).2.2.2.2.2.2.2.1,(e.tt F).2.2.2.2.2.2.2.2)=some true:=by have:=wI e [] e.ne 0 0 F [] [] true;rw[iv] at this;exact this
  rw[kq,aP rfl];simp only[aL];have an1:cG e [] F:=aB.mono n_;obtain⟨aK,aW,ba⟩:=F0 (ah:=true) (x:=[120]) an1 (by simp);rw[aa2] at ba;have ss:hQ ((e.tt F).1,(e.tt F).2.1,(e.tt F).2.2.1,(e.st r F ah).2.2.2.1,(e.tt F).2.2.2.2.1,(e.tt F).2.2.2.2.2.1,(e.tt F).2.2.2.2.2.2.1,(e.st r F ah).2.2.2.2.2.2.2.1,(e.tt F).2.2.2.2.2.2.2.2) [120]=some aK:=by rw[<-aW,<-xQ];rfl
  rw[ss,aP rfl];obtain⟨mq,S,T,F5,V⟩:=ba;dsimp only at S T;have nf:([]:H)<:+r:=n_;have c7:=F5.mono nf;by_cases aD:o=[60,60]\/o=[60,60,45]
  ·have E:(bif decide (o=[60,60]) then true else decide (o=[60,60,45]))=true:=by grind
   rw[E];simp only[aL];have NA:(if o=[60,60] then gS false else if o=[60,60,45] then gS true else jK (a9 true n) [120]:ad Unit) v F=gS (decide (o=[60,60,45])) v F:=by grind
   have hm:gS (decide (o=[60,60,45])) v F= .more [] [120] (F++[([120],decide (o=[60,60,45]))]):=by grind[gS]
   rw[hm] at NA;rw[dm NA];have K:=aJ.qO (tabs:=decide (o=[60,60,45])) (r0:=o++v) (v:=v) (F:=F) (by grind);rw[hm] at K;simp only[ek] at K;have anW:=T6.kb;have atX:aK.2.2.2.1.length<=100000000:=by grind
   refine bR.eh ?_ (bX (by grind));rw[T];exact⟨_,rfl,.inl ⟨mq,S,rfl,⟨c7.s,c7.lo,c7.bg,by grind,c7.op⟩,V⟩⟩
  ·have E:(bif decide (o=[60,60]) then true else decide (o=[60,60,45]))=false:=by grind
   rw[E];simp only[aU];simp only[BC] at aD;have B:(if o=[60,60] then gS false else if o=[60,60,45] then gS true else jK (a9 true n) [120]:ad Unit) v F= .more [] [120] F:=by rw[aO aD.1,aO aD.2];unfold jK;grind[dm,iN,cb,aa2]
   rw[dm B];exact⟨_,rfl,.inl ⟨mq,S,T,c7,V⟩⟩
end
theorem q4(e:cn)(r:H)(F:ai)(ah:Bool):gY (e.st r F ah)=some (decide (r=[])):=wI e r _ _ _ _ _ _ _
theorem pB(e:cn)(F:ai):gY (e.tt F)=some true:=by simp[xQ,q4]
theorem su{e:cn}{r:H}{F:ai}{ah:Bool}(h:cG e r F):iq (e.st r F ah)=some (bu r):=Jl h.b3 h.sfx _ _ _ _ _ _ _
theorem F9{e:cn}{r:H}{F:ai}{ah:Bool}(h:cG e r F):je (e.st r F ah)=some (r.headD 0):=wJ h.sfx _ _ _ _ _ _ _
theorem an2:bu []=[]:=by decide
theorem F_{e:cn}(F:ai)(h:e.S.length<=1000000):iq (e.tt F)=some []:=by have:=Jl (e:=e) (r:=[]) h n_ e.ne 0 0 F [] [] true;rw[an2] at this;rw[xQ];exact this
theorem an3(e:cn)(F:ai):je (e.tt F)=some 0:=by rw[xQ];exact wJ (e:=e) (r:=[]) n_ _ _ _ _ _ _ _
theorem cG.Bc{e:cn}{r:H}{F:ai}(h:cG e r F):cG e [] F:=h.mono n_
theorem an4{e:cn}{F:ai}(h:cG e [] F):mx (e.tt F)=some []:=by rw[xQ,wM h];rfl
theorem Dm{e:cn}{F:ai}{x:H}(h:cG e [] F)(b:x.length<=100):∃a,hQ (e.tt F) x=some a/\oK e [] (cV [] F x).1 (cV [] F x).2 a:=by rw[xQ];exact F0 h b
theorem vt{e:cn}{F:ai}{ah:Bool}{x:H}(h:cG e [] F)(b:x.length<=100):∃a,hQ (e.st [] F ah) x=some a/\oK e [] (cV [] F x).1 (cV [] F x).2 a:=F0 h b
theorem aa7{e:cn}(F:ai):ps (e.tt F)=some (e.tt F):=by
 unfold ps;rw[Dh,aP rfl];unfold a6
 obtain⟨n,av⟩:∃n,bC=n+1:=⟨bC-1,by rw[gF]⟩
 dsimp only;rw[av,fm];unfold AJ;dsimp only;have a:je ((e.tt F).1,(e.tt F).2.1,(e.tt F).2.2.1,(e.tt F).2.2.2.1,(e.tt F).2.2.2.2.1,(e.tt F).2.2.2.2.2.1,(e.tt F).2.2.2.2.2.2.1,(e.tt F).2.2.2.2.2.2.2.1,(e.tt F).2.2.2.2.2.2.2.2)=some 0:=an3 e F;simp_all[gd]
theorem ja.tt{e:cn}{r:H}(F:ai):ja true e r [] F (e.tt F):= .inr ⟨rfl,rfl,rfl⟩
theorem gC.eta{e:cn}{r:H}{F:ai}{st:aa}(h:gC e r F st):st.1=e.S/\st.2.1=ar e.S r/\st.2.2.1=e.ne/\st.2.2.2.1=F/\st.2.2.2.2.1=0/\st.2.2.2.2.2.1=0/\st.2.2.2.2.2.2.1=[]/\st.2.2.2.2.2.2.2.1=[]:=by obtain⟨ah,rfl,_⟩:=h;exact⟨rfl,rfl,rfl,rfl,rfl,rfl,rfl,rfl⟩
section
variable{R:bj}{n:Nat}(hD:k7 R n){e:cn}(bc:e.ne=30- (n:Int))
include hD bc
theorem aa8{r:H}{F:ai}{st:aa}(h:cG e r F)(D:gC e r F st):bR true e r (g0 (a9 true n) r F) (λst=>st) (λ_ _ _=>True) (Fc R st):=by
 have P:∀(bz:Nat)(r:H)(F:ai)(st:aa),r.length+1<bz->cG e r F->gC e r F st->bn r=some r->bR true e r (g0 (a9 true n) r F) (λst=>st) (λ_ _ _=>True) (fixF (CP R λx=>some x) bz st):=by
  intro bz;induction bz with
  |zero=>omega
  |succ bz E=>
   intro r F st fh j Q G;rw[fm]
   obtain⟨fq,S⟩:∃fq,bz=fq+1:=⟨bz-1,by omega⟩
   have w:∀x:aa,(x.2.2.2.2.1≠0\/∃ds,x=e.tt ds)->fixF (CP R λx=>some x) bz x=some x:=by
    intro x y;rw[S,fm];unfold CP;dsimp only;rcases y with y|⟨ds,rfl⟩
    ·simp only[y,bH,cY,fo,cH,aU,and_false]
    ·rw[show gY ((e.tt ds).1,(e.tt ds).2.1,(e.tt ds).2.2.1,(e.tt ds).2.2.2.1,(e.tt ds).2.2.2.2.1,(e.tt ds).2.2.2.2.2.1,(e.tt ds).2.2.2.2.2.2.1,(e.tt ds).2.2.2.2.2.2.2.1,(e.tt ds).2.2.2.2.2.2.2.2)=some true from pB e ds];rfl
   generalize uK:fixF (CP R λx=>some x) bz=k at E w;obtain⟨ah,rfl,I⟩:=Q;unfold CP a6;dsimp only;have T:gY ((e.st r F ah).1,(e.st r F ah).2.1,(e.st r F ah).2.2.1,(e.st r F ah).2.2.2.1,(e.st r F ah).2.2.2.2.1,(e.st r F ah).2.2.2.2.2.1,(e.st r F ah).2.2.2.2.2.2.1,(e.st r F ah).2.2.2.2.2.2.2.1,(e.st r F ah).2.2.2.2.2.2.2.2)=some (decide (r=[])):=q4 e r F ah;have V:iq ((e.st r F ah).1,(e.st r F ah).2.1,(e.st r F ah).2.2.1,(e.st r F ah).2.2.2.1,(e.st r F ah).2.2.2.2.1,(e.st r F ah).2.2.2.2.2.1,(e.st r F ah).2.2.2.2.2.2.1,(e.st r F ah).2.2.2.2.2.2.2.1,(e.st r F ah).2.2.2.2.2.2.2.2)=some (bu r):=su j;have z:CC ((e.st r F ah).1,(e.st r F ah).2.1,(e.st r F ah).2.2.1,(e.st r F ah).2.2.2.1,(e.st r F ah).2.2.2.2.1,(e.st r F ah).2.2.2.2.2.1,(e.st r F ah).2.2.2.2.2.2.1,(e.st r F ah).2.2.2.2.2.2.2.1,(e.st r F ah).2.2.2.2.2.2.2.2)=some (decide (r.dropWhile cf≠r)&&fg (bu (r.dropWhile cf))):=TT j;have h0:(e.st r F ah).2.2.2.2.1=0:=rfl;rw[T,gd,V,gd,FY,gd,z,gd,h0];simp only[bA,cU];by_cases Z:r=[]
   ·subst Z;have g:g0 (a9 true n) [] F= .ok () [] F:=by unfold g0;rw[cK,aT (s7 (r':=[]) mg (by decide))];rfl
    rw[g];simp only[bA,hE,aU,aL];exact⟨_,rfl,fS,j,⟨ah,rfl,I⟩,trivial⟩
   ·have W:(bif(bif true then !decide (r=[]) else false) then bif(if(bif true then !decide (r=[]) else false)=true then fg (if(bif true then !decide (r=[]) else false)=true then bu r else []) else false) then true else(if((if(bif true then !decide (r=[]) else false)=true then fg (if(bif true then !decide (r=[]) else false)=true then bu r else []) else false)=false/\(bif true then !decide (r=[]) else false)=true) then(decide (r.dropWhile cf≠r)&&fg (bu (r.dropWhile cf))) else false) else false)=fg (bu (r.dropWhile cf)):=by
     conv=>rhs;rw[<-Ns r]
     grind
    refine bR.eh ?_ (show(bif(bif(bif true then !decide (r=[]) else false) then bif(if(bif true then !decide (r=[]) else false)=true then fg (if(bif true then !decide (r=[]) else false)=true then bu r else []) else false) then true else(if((if(bif true then !decide (r=[]) else false)=true then fg (if(bif true then !decide (r=[]) else false)=true then bu r else []) else false)=false/\(bif true then !decide (r=[]) else false)=true) then(decide (r.dropWhile cf≠r)&&fg (bu (r.dropWhile cf))) else false) else false) then _ else _)=_ from by rw[W]);cases J:fg (bu (r.dropWhile cf)) with
    |false=>
     have g:g0 (a9 true n) r F= .ok () r F:=by unfold g0;rw[cK,aT (s7 G J)];rfl
     rw[g];exact⟨_,rfl,fS,j,⟨ah,rfl,I⟩,trivial⟩
    |true=>
     simp only[aL];unfold g0;rw[cK];refine bR.iZ db.k (T5 hD bc (ah:=ah) j G J) (λb ae c d X s1 Y K rS=>?_) (λop nd ds d _ L=>?_) (λd u=>?_)
     ·subst rS;have ax:=s0 (mI true n) X;have l:=K.eta;rw[l.2.2.2.2.1];simp only[bA,aL];show bR true e r (cX _ r (.ok (.inl ()) ae c)) _ _ _;refine bR.inl ax ?_;rcases xR Y K with⟨f,a,o,i,p,v,s,A⟩|⟨o,i⟩
      ·rw[i,aP rfl];have U:=p.eta;rw[l.2.2.2.1,l.2.2.2.2.2.2.2];have B:a=(a.1,a.2.1,a.2.2.1,c,a.2.2.2.2.1,a.2.2.2.2.2.1,a.2.2.2.2.2.2.1,([]:bw),a.2.2.2.2.2.2.2.2):=by grind
       rw[<-B];have g:g0 (a9 true n) ae c=g0 (a9 true n) f c:=by
        unfold g0;rw[cK,cK];have Ga:dI (a9 true n) ae c=dI (a9 true n) f c:=by unfold dI;grind[fX,N]
        have C:N (dI (a9 true n)) (λb=>(aZ (if b=true then .inl () else .inr ()):ad (Unit⊕Unit))) ae c=N (dI (a9 true n)) (λb=>aZ (if b=true then .inl () else .inr ())) f c:=by grind[N]
        rw[C];cases hm:dI (a9 true n) f c with
        |ok b t b8=>
         rw[aT hm];cases b with
         |true=>have pC:=s0 (mI true n) hm;have n8:=s.length_le;show(if t.length<ae.length then _ else _)=(if t.length<f.length then _ else _);grind
         |false=>rfl
        |more op nd ds=>rw[dm hm];rfl
        |bad q=>rw[hp hm];rfl
        |deep q=>rw[kd hm];rfl
       have:=(E f c a (by grind) v p A).mono (s.trans s1);unfold g0 at g this;grind
      ·rw[i,aP rfl,l.2.2.2.1,l.2.2.2.2.2.2.2];have g:ck (λ_=>N (dI (a9 true n)) λb=>aZ (if b=true then .inl () else .inr ())) () ae c=(.more [] [] c:dD Unit):=by
        rw[cK];have:dI (a9 true n) ae c= .more [] [] c:=by unfold dI;exact dm (by unfold fX;rw[o];rfl)
        rw[dm this];rfl
       rw[g];exact⟨e.tt c,w (e.tt c) (.inr ⟨c,rfl⟩),ja.tt c⟩
     ·have M:=L.z.1;refine⟨d,?_,L.up⟩;grind
     ·refine⟨d,?_,u⟩;rw[u.1];simp only[show¬((2:Int)=0) by decide,bH,aU];have:=w d (.inl (by rw[u.1];decide));have anh:d=(d.1,d.2.1,d.2.2.1,d.2.2.2.1,2,d.2.2.2.2.2.1,d.2.2.2.2.2.2.1,d.2.2.2.2.2.2.2.1,d.2.2.2.2.2.2.2.2):=by rw[<-u.1]
      grind
 unfold Fc a6;have O:=D.eta;rw[O.2.2.2.1,O.2.2.2.2.2.2.2];rcases xR h D with⟨f,a,o,i,p,v,s,A⟩|⟨o,i⟩
 ·rw[i,aP rfl];have B:a=(a.1,a.2.1,a.2.2.1,F,a.2.2.2.2.1,a.2.2.2.2.2.1,a.2.2.2.2.2.2.1,([]:bw),a.2.2.2.2.2.2.2.2):=by obtain⟨cC,rfl,_⟩:=p;rfl
  rw[<-B];have:=(P bC f F a (wL v) v p A).mono s;have g:g0 (a9 true n) r F=g0 (a9 true n) f F:=by
   unfold g0;rw[cK,cK];have Ga:dI (a9 true n) r F=dI (a9 true n) f F:=by unfold dI;grind[fX,N]
   have C:N (dI (a9 true n)) (λb=>(aZ (if b=true then .inl () else .inr ()):ad (Unit⊕Unit))) r F=N (dI (a9 true n)) (λb=>aZ (if b=true then .inl () else .inr ())) f F:=by grind[N]
   rw[C];cases hm:dI (a9 true n) f F with
   |ok b t b8=>
    rw[aT hm];cases b with
    |true=>have pC:=s0 (mI true n) hm;have n8:=s.length_le;show(if t.length<r.length then _ else _)=(if t.length<f.length then _ else _);grind
    |false=>rfl
   |more op nd ds=>rw[dm hm];rfl
   |bad q=>rw[hp hm];rfl
   |deep q=>rw[kd hm];rfl
  grind
 ·rw[i,aP rfl];have g:g0 (a9 true n) r F= .more [] [] F:=by
   unfold g0;rw[cK];have:dI (a9 true n) r F= .more [] [] F:=by unfold dI;exact dm (by unfold fX;rw[o];rfl)
   rw[dm this];rfl
  rw[g];refine⟨e.tt F,?_,ja.tt F⟩
  obtain⟨m,hm⟩:∃m,bC=m+1:=⟨bC-1,by rw[gF]⟩
  dsimp only;rw[hm,fm];unfold CP;dsimp only;rw[show gY ((e.tt F).1,(e.tt F).2.1,(e.tt F).2.2.1,F,(e.tt F).2.2.2.2.1,(e.tt F).2.2.2.2.2.1,(e.tt F).2.2.2.2.2.2.1,[],(e.tt F).2.2.2.2.2.2.2.2)=some true from pB e F];rfl
end
def tc:ad H:=λr F=> .ok (jD r) (r.drop (jD r).length) F
theorem an6(r:H):jD r<+:r:=by grind[jD]
theorem T8{r:H}(h:jD r≠[]):r.drop (jD r).length≠[]:=by
 unfold jD at h⊢;split
 ·grind[List.takeWhile_append_dropWhile]
 grind
theorem Gb{v:H}{F:ai}{w:H}(Y:bn v=some v)(a:an v= .word w true):cF w v F= .ok () (v.drop w.length) F:=by unfold cF m9;rw[aT (cu Y),a];simp[cE,b5]
theorem NC{β:Type}{m:Nat}{c:Ctx}{no:Bool}{kw x:H}{K:ad β}(ay:c≠ .text)(g:∀t,ec c t=cE t kw)(d:kw≠[]/\kw.all gO=true){r:H}{F:ai}(h:dL r):
  N (((aS true m).ls c no).aI x) (λ_=>N (cF kw) (λ_=>K)) r F=N (N (((aS true m).ls c no).aI x) (λ_=>tc)) (λ_=>K) r F:=by
 rw[k2];cases hm:(((aS true m).ls c no).aI x) r F with
 |ok a ae e=>
  rw[aT hm,aT hm];have b:=iL.1 hm;have Y:=((qR true m).ls c no).sfx b;obtain⟨da,eR⟩:=A7 true m;rw[eR] at b;obtain⟨i,j⟩:=zo ay b;rw[g] at j;have f:an ae= .word kw true:=by grind[cE]
  have az:=(sr (h.iD Y) d.1 d.2).2 f;rw[aT (Gb i f)];have:tc ae e= .ok kw (ae.drop kw.length) e:=by grind[tc]
  grind[aT]
 |more op nd ds=>grind[dm]
 |bad q=>grind[hp]
 |deep q=>grind[kd]
theorem T9{m:Nat}{c:Ctx}{no:Bool}{kw x:H}(ay:c≠ .text)(a:∀t,ec c t=cE t kw)(b:kw≠[]/\kw.all gO=true){r:H}{F:ai}(d:dL r):
  N (((aS true m).ls c no).aI x) (λ_=>cF kw) r F=N (N (((aS true m).ls c no).aI x) (λ_=>tc)) (λ_=>aZ ()) r F:=by
 have M:(λ_:Nat=>cF kw)=λ_=>N (cF kw) (λ_=>aZ ()):=by grind[FM]
 simp_all[NC]
section
variable{R:bj}{n:Nat}(bk:o5 R n){e:cn}(bc:e.ne=30- (n:Int))
include bk bc
theorem Dn{c:Ctx}{x:H}(ay:jZ c=[119])(u:c≠ .text)(v:∀t,ec c t=true->∃w,t= .word w true/\w≠[]/\w.all gO=true)(P:x.length<=100){r:H}{F:ai}{st:aa}(h:cG e r F)(y:gC e r F st):
  bR false e r (N (((aS true n).ls c false).aI x) (λ_=>tc) r F) (λb=>b.2) (λa r' b=>b.1=a/\a≠[]/\ec c (.word a true)=true/\r'≠[]) (qF R st (pA c) x):=by
 unfold qF;obtain⟨⟨z,A⟩,j,d⟩:=bk.im e c false (by cases c<;>first|rfl|grind[jZ]) bc r F st h y;dsimp only at d;rw[ay] at j;have B:R.oo st [119] (pA c) true=some (z,A):=j;rw[B,aP rfl];dsimp only;have k:=(ue true n).ls c false r F;have C:=h.nl.iD h.sfx;cases hm:(aS true n).ls c false r F with
 |ok a ae g=>
  rw[hm] at d;obtain⟨l,aj,a3,_⟩:=d;have f:(((aS true n).ls c false).aI x) r F= .ok a ae g:=iL.2 hm;rw[aT f];obtain⟨da,eR⟩:=A7 true n;rw[eR] at hm;obtain⟨Q,D⟩:=zo u hm;obtain⟨w,E,m,G⟩:=v _ D;have az:=(sr (C.iD l) m G).2 E;have h0:=a3.eta.2.2.2.2.1;rw[h0];simp only[bA,hE,aU];obtain⟨ah,I,_⟩:=a3;rw[I,wM aj,aP rfl,az];have J:tc ae g= .ok w (ae.drop w.length) g:=by grind[tc]
  rw[J];have o:=an6 ae;rw[az] at o;have i:=T8 (r:=ae) (by grind);rw[az] at i;obtain⟨q,rfl⟩:=o;rw[oO] at i⊢;have p:q<:+w++q:=fR w q;have K:W (ar e.S (w++q)+(w.length:Int))=ar e.S q:=kK h.b3 aj.sfx;refine⟨(w,e.st q g ah),?_,p.trans l,aj.mono p,⟨ah,rfl,λL=>absurd L i⟩,rfl,m,?_,i⟩
  ·show some (w,(e.S,W (ar e.S (w++q)+(w.length:Int)),e.ne,g,(0:Int),(0:Int),([]:H),([]:bw),ah))=_;rw[K];rfl
  grind
 |more op nd ds=>
  rw[hm] at d k;simp only[ek] at k;have S:=h.kb;have s:=d.z;have f:(((aS true n).ls c false).aI x) r F= .more op (cV nd ds x).1 (cV nd ds x).2:=by grind[ad.aI]
  rw[dm f,s.1];simp only[show¬((1:Int)=0) by decide,bH,fp,aL];obtain⟨T,M,O⟩:=xS (e:=e) (nm:=[]) (x:=x) (ae:=r) (r0:=r) (nd:=nd) (ds:=ds) s fS h.sfx (.inl rfl) (by omega) h.b3 (by omega);rw[M,aP rfl];exact⟨_,rfl,O.s⟩
 |bad q=>
  rw[hm] at d;have f:(((aS true n).ls c false).aI x) r F= .bad q:=by grind[ad.aI]
  rw[hp f,d.1];simp only[show¬((2:Int)=0) by decide,bH,fp,aL];rw[qc (by rw[d.1];decide),aP rfl];exact⟨_,rfl,d⟩
 |deep q=>
  rw[hm] at d;have f:(((aS true n).ls c false).aI x) r F= .deep q:=by grind[ad.aI]
  rw[kd f,d.1];simp only[show¬((2:Int)=0) by decide,bH,fp,aL];rw[qc (by rw[d.1];decide),aP rfl];exact⟨_,rfl,d⟩
end
theorem aa9(t:Tok):ec .oZ t=cE t hj:=rfl
theorem aa_(t:Tok):ec .p7 t=cE t [125]:=rfl
theorem aba(t:Tok):ec .ku t=cE t eb:=rfl
theorem abb(t:Tok):ec .p8 t=cE t hn:=rfl
theorem ND(t:Tok):ec .done t=cE t jh:=rfl
theorem Gd{t:Tok}{w:H}(h:cE t w=true):t= .word w true:=by grind[cE]
theorem Ge{c:Ctx}{kw:H}(h:∀t,ec c t=cE t kw)(a:kw≠[]/\kw.all gO=true):∀t,ec c t=true->∃w,t= .word w true/\w≠[]/\w.all gO=true:=by grind[Gd]
theorem Ju{b:UInt8}{t:H}:(b=10/\an (b::t)= .line)\/(b≠10/\bu (b::t)≠[]/\an (b::t)= .op (bu (b::t)))\/(b≠10/\bu (b::t)=[]/\an (b::t)= .word (dg (b::t)).1 (dg (b::t)).2):=by rw[xT];grind
section
variable{R:bj}{n:Nat}(hD:k7 R n){e:cn}(bc:e.ne=30- (n:Int))
include hD bc
theorem an7{r:H}{F:ai}{st:aa}(h:cG e r F)(L:gC e r F st):bR false e r (pt (a9 true n) r F) (λst=>st) (λ_ _ _=>True) (Ip R st):=by
 unfold pt Ip a6;refine bR.rep (en:=λ_ r F x=>gC e r F x) (λk s r F x y z N aw=>?_) bC () r F _ (wL h) h L
 have E:∀x:aa,x.2.2.2.2.1≠0->k x=some x:=by intro x z;obtain⟨k',M⟩:=N x;simp_all[R0]
 have he:=z.eta;unfold R0;dsimp only;rw[he.2.2.2.2.1,he.2.2.2.1,he.2.2.2.2.2.2.2];simp only[bA,aL];have A:(x.1,x.2.1,x.2.2.1,F,(0:Int),x.2.2.2.2.2.1,x.2.2.2.2.2.2.1,([]:bw),x.2.2.2.2.2.2.2.2)=x:=by grind
 rw[A];rcases xR y z with⟨d,eS,B,C,O,f,l,P⟩|⟨B,C⟩
 ·rw[C,aP rfl,aT (cu B)];obtain⟨c,rfl,Q⟩:=O;have D:gY ((e.st d F c).1,(e.st d F c).2.1,(e.st d F c).2.2.1,F,(e.st d F c).2.2.2.2.1,(e.st d F c).2.2.2.2.2.1,(e.st d F c).2.2.2.2.2.2.1,[],(e.st d F c).2.2.2.2.2.2.2.2)=some (decide (d=[])):=q4 e d F c;have S:je ((e.st d F c).1,(e.st d F c).2.1,(e.st d F c).2.2.1,F,(e.st d F c).2.2.2.2.1,(e.st d F c).2.2.2.2.2.1,(e.st d F c).2.2.2.2.2.2.1,[],(e.st d F c).2.2.2.2.2.2.2.2)=some (d.headD 0):=F9 f;have T:iq ((e.st d F c).1,(e.st d F c).2.1,(e.st d F c).2.2.1,F,(e.st d F c).2.2.2.2.1,(e.st d F c).2.2.2.2.2.1,(e.st d F c).2.2.2.2.2.2.1,[],(e.st d F c).2.2.2.2.2.2.2.2)=some (bu d):=su f;rw[D,aP rfl];cases d with
  |nil=>simp only[bA,aL];obtain⟨g,j,m⟩:=vt (ah:=c) (x:=[]) f (by simp);have o:hQ ((e.st [] F c).1,(e.st [] F c).2.1,(e.st [] F c).2.2.1,F,(e.st [] F c).2.2.2.2.1,(e.st [] F c).2.2.2.2.2.1,(e.st [] F c).2.2.2.2.2.2.1,[],(e.st [] F c).2.2.2.2.2.2.2.2) []=some g:=j;rw[o,aP rfl];exact⟨g,rfl,(m.mono l).s⟩
  |cons b t=>
   simp only[reduceCtorEq,bH,aU];rw[S,aP rfl,T];simp only[zT,p_,oL];rcases Ju (b:=b) (t:=t) with⟨p,u⟩|⟨p,u,w⟩|⟨p,u,w⟩
   ·subst p;rw[u];simp only[bA,aL];exact⟨_,rfl,l,f,⟨c,rfl,Q⟩,trivial⟩
   ·rw[w];simp only[p,bH,aU];by_cases G:bu (b::t)=[59]
    ·simp only[G,bA,aL,cU];have U:an (b::t)= .op [59]:=by grind
     obtain⟨q,aE⟩:=(h4 U).2.1;have V:b=59/\t=q:=by grind
     obtain⟨rfl,rfl⟩:=V;have I:t<:+59::t:=dN 59 t;have X:W (ar e.S (59::t)+1)=ar e.S t:=iQ y.b3 f.sfx;refine⟨e.st t F c,?_,I.trans l,f.mono I,⟨c,rfl,λY=>absurd Y (f.zx (by decide))⟩,trivial⟩;show some (e.S,W (ar e.S (59::t)+1),e.ne,F,(0:Int),(0:Int),([]:H),([]:bw),c)=_;rw[X];rfl
    ·simp only[G,u,bH,fp,aL,aU,cH];obtain⟨g,j,m⟩:=qe (ah:=c) ((e.st (b::t) F c).2.1) f l;have o:h9 ((e.st (b::t) F c).1,(e.st (b::t) F c).2.1,(e.st (b::t) F c).2.2.1,F,(e.st (b::t) F c).2.2.2.2.1,(e.st (b::t) F c).2.2.2.2.2.1,(e.st (b::t) F c).2.2.2.2.2.2.1,[],(e.st (b::t) F c).2.2.2.2.2.2.2.2) (e.st (b::t) F c).2.1=some g:=j;rw[o,aP rfl];exact⟨_,rfl,by cases j;exact m⟩
   ·rw[w];simp only[p,u,bH,bA,hE,aU,reduceCtorEq];have Z:=F6 hD bc (tr0:=c) f;have hr:c4 (b::t)=false:=(zt P w).2;refine bR.iZ db.k (Z.mono l) (λa J b8 i bN i_ e7 zC _=>?_) (λop nd ds i _ v=>?_) (λi v=>?_)
    ·have ax:=wu (mI true n) (by simp) hr bN;have K:J.length<r.length:=by grind
     exact bR.inl K (aw () J b8 i.2.2 i_ e7 K zC)
    ·exact⟨i.2.2,E i.2.2 (by rw[v.z.1];decide),v⟩
    ·exact⟨i.2.2,E i.2.2 (by rw[v.1];decide),v⟩
 ·rw[C,aP rfl,dm (op:=[]) (nd:=[]) (ds:=F) (by rw[iN B];rfl)];have D:gY ((e.tt F).1,(e.tt F).2.1,(e.tt F).2.2.1,F,(e.tt F).2.2.2.2.1,(e.tt F).2.2.2.2.2.1,(e.tt F).2.2.2.2.2.2.1,[],(e.tt F).2.2.2.2.2.2.2.2)=some true:=pB e F;rw[D,aP rfl];simp only[aL];obtain⟨g,j,m⟩:=Dm (x:=[]) y.Bc (by simp);have o:hQ ((e.tt F).1,(e.tt F).2.1,(e.tt F).2.2.1,F,(e.tt F).2.2.2.2.1,(e.tt F).2.2.2.2.2.1,(e.tt F).2.2.2.2.2.2.1,[],(e.tt F).2.2.2.2.2.2.2.2) []=some g:=j;rw[o,aP rfl];exact⟨g,rfl,(m.mono n_).s⟩
end
theorem Jv{α β:Type}(a:ad α)(k:α->ad β)(x:H):(N a k).aI x=N (a.aI x) (λv=>(k v).aI x):=by grind[ad.aI,N]
theorem abc{α:Type}{p:Prop}[Decidable p](a b:ad α)(x:H):(if p then a else b).aI x=if p then a.aI x else b.aI x:=by grind
theorem T_{α:Type}(a:α)(x:H):(aZ a).aI x=aZ a:=rfl
theorem abd(k:Nat)(x:H):(b5 k).aI x=b5 k:=rfl
theorem Jw{α β:Type}(a:α)(k:α->ad β):N (aZ a) k=k a:=rfl
theorem abe{D:ad Unit}:∀(r w:H)(F:ai),dg r=(w,true)->r.drop w.length≠[]->cO D r F= .ok () (r.drop w.length) F
 |[],w,F,h,av=>by simp[dg] at h;subst h;exact absurd rfl av
 |b::t,w,F,h,av=>by
  by_cases c:c4 (b::t)=true
  ·have:w=[]:=by unfold dg at h;rw[bh c] at h;cases h;rfl
   subst this;unfold cO;rw[cK];simp[c,cX]
  ·have d:c4 (b::t)=false:=by simpa using c
   have a:¬(b=92\/b=39\/b=34\/b=96\/gI (b::t)=true):=by intro Y;rw[T2 d Y] at h;cases h
   have h0:dg (b::t)=(match dg t with|(w,true)=>(b::w,true)|(_,false)=>([],false)):=by
    rw[dg,d,aO (by simp),aO a];cases dg t with
    |mk w p=>cases p<;>rfl
   rw[h0] at h;cases az:dg t with
   |mk e p=>
    rw[az] at h;cases p with
    |false=>cases h
    |true=>
     simp only at h;cases h;simp only[nn,GJ] at av⊢;simp only[BC,Bool.not_eq_true] at a;have f:cD D (some (eJ D)) (b::t) F= .ok () t F:=by unfold cD;simp only;rw[aO a.1,aO a.2.2.2.1,a.2.2.2.2,aO (by simp)];simp[a.2.1,a.2.2.1]
     rw[C5 d f (by simp)];exact abe t e F az av
noncomputable def Be(R:bj):aa->Option aa:=λx=>
 (bif(!(decide (x.2.2.2.2.1=0))) then(au (gZ x ([]) ([10,100,111,32,120,10,100,111,110,101]:H)) λ(a:aa)=>some a) else(au (qF R (x.1,(W (x.2.1+2)),x.2.2.1,x.2.2.2.1,x.2.2.2.2.1,x.2.2.2.2.2.1,x.2.2.2.2.2.2.1,x.2.2.2.2.2.2.2.1,x.2.2.2.2.2.2.2.2) ([([100,111,110,101]:H)]:bw) ([10,100,111,110,101]:H)) λ(c,b)=>some b))
noncomputable def Bf(R:bj):aa->Option aa:=λa=>
 (cY ((decide (a.2.2.2.2.1=0))=true) (gY a) false λ(c:Bool)=>(cY ((bif(decide (a.2.2.2.2.1=0)) then(!c) else false)=true) (mx a) [] λ(d:H)=>(bif(bif(bif(decide (a.2.2.2.2.1=0)) then(!c) else false) then(!(decide (d=([100,111]:H)))) else false) then(au (h9 a a.2.1) λ(b:aa)=>some (b.1,b.2.1,b.2.2.1,a.2.2.2.1,b.2.2.2.2.1,b.2.2.2.2.2.1,b.2.2.2.2.2.2.1,a.2.2.2.2.2.2.2.1,b.2.2.2.2.2.2.2.2)) else(cY ((decide (a.2.2.2.2.1=0))=true) (gY a) false λ(e:Bool)=>(bif(bif(decide (a.2.2.2.2.1=0)) then e else false) then(au (hQ a ([])) λ(f:aa)=>Be R f) else Be R a)))))
noncomputable def x2(R:bj):aa->Option aa:=λx=>
 (bif(!(decide (x.2.2.2.2.1=0))) then(au (gZ x ([]) ([10,100,111,32,120,10,100,111,110,101]:H)) λ(a:aa)=>some a) else(au (ps x) λ(b:aa)=>Bf R b))
theorem NG:([10,100,111,32,120,10,100,111,110,101]:H)=eB:=rfl
theorem wP:(hn:H)≠[]/\hn.all gO=true:=by decide
theorem Gf:(jh:H)≠[]/\jh.all gO=true:=by decide
theorem Bg:(fW:H)≠[]/\fW.all gO=true:=by decide
section
variable{R:bj}{n:Nat}(bk:o5 R n){e:cn}(bc:e.ne=30- (n:Int))
theorem abf{r:H}{nd:H}{ds:ai}{st:aa}{d:ai}(h0:cG e r d)(hm:ja true e r nd ds st)(f:nd.length+eC ds<=100*e.S.length+500):∃a,Bf R st=some a/\ja false e r (cV nd ds eB).1 (cV nd ds eB).2 a:=by
 have j:eB.length=10:=rfl;rcases hm with M|⟨_,rfl,rfl⟩
 ·obtain⟨a,b,c⟩:=xS (e:=e) (nm:=[]) (x:=eB) (ae:=r) (r0:=r) (nd:=nd) (ds:=ds) M fS h0.sfx (.inl rfl) (by omega) h0.b3 (by omega);unfold Bf;rw[M.1];simp only[show¬((1:Int)=0) by decide,bH,cY,fo,cH,aU];unfold Be;rw[M.1];simp only[show¬((1:Int)=0) by decide,bH,fp,aL];rw[NG,b,aP rfl];exact⟨a,rfl,c.s⟩
 ·simp only[GK,Nat.zero_add] at f;have g:(e.tt ds).2.2.2.2.1=0:=rfl;unfold Bf;rw[g,pB,gd];have k:=uf ds;have h:hQ (e.tt ds) []=some (e.S,(e.S.length:Int),e.ne,ds,1,0,[],[],true):=by unfold hQ a6 cn.tt;simp only[bA,aL];have:=h0.b3;rw[Di _ _ _ _ _ _ _ _ _ _ (by simp) (by grind) (by omega),aP rfl];rfl
  have i:oK e r [] ds (e.S,(e.S.length:Int),e.ne,ds,1,0,[],[],true):=by
   refine⟨rfl,rfl,rfl,⟨rfl,?_,?_,?_,?_⟩,?_⟩
   ·grind[ar]
   ·grind
   ·grind
   ·simp
   simp
  simp only[bA,cU,hE,aL,aU,cY,fo,cH,oL];rw[h,aP rfl];obtain⟨a,b,c⟩:=xS (e:=e) (nm:=[]) (x:=eB) (ae:=r) (r0:=r) (nd:=[]) (ds:=ds) i fS h0.sfx (.inl rfl) (by grind) h0.b3 (by omega);unfold Be;simp only[show¬((1:Int)=0) by decide,bH,fp,aL];rw[NG,b,aP rfl];exact⟨a,rfl,c.s⟩
theorem Ua{r:H}{nd:H}{ds:ai}{st:aa}{b:ai}(h0:cG e r b)(hm:ja true e r nd ds st)(c:nd.length+eC ds<=100*e.S.length+500):∃a,x2 R st=some a/\ja false e r (cV nd ds eB).1 (cV nd ds eB).2 a:=by
 have i:eB.length=10:=rfl;rcases hm with M|⟨d,rfl,rfl⟩
 ·obtain⟨a,f,g⟩:=xS (e:=e) (nm:=[]) (x:=eB) (ae:=r) (r0:=r) (nd:=nd) (ds:=ds) M fS h0.sfx (.inl rfl) (by omega) h0.b3 (by omega);unfold x2;rw[M.1,NG];simp only[show¬((1:Int)=0) by decide,bH,fp,aL];rw[f,aP rfl];exact⟨a,rfl,g.s⟩
 ·have h:(e.tt ds).2.2.2.2.1=0:=rfl;unfold x2;rw[h];simp only[bA,hE,aU];rw[aa7,aP rfl];exact abf h0 (.inr ⟨d,rfl,rfl⟩) c
theorem abg{r:H}{st:aa}(hm:jk e r st):∃a,Bf R st=some a/\jk e r a:=by unfold Bf;rw[hm.1];simp only[show¬((2:Int)=0) by decide,bH,cY,fo,cH,aU];unfold Be;rw[hm.1];simp only[show¬((2:Int)=0) by decide,bH,fp,aL];rw[qc (by rw[hm.1];decide),aP rfl];grind
theorem Ub{r:H}{st:aa}(hm:jk e r st):∃a,x2 R st=some a/\jk e r a:=by unfold x2;rw[hm.1];simp only[show¬((2:Int)=0) by decide,bH,fp,aL];rw[qc (by rw[hm.1];decide),aP rfl];grind
include bk bc
theorem an9{r r0:H}{F:ai}{ah:Bool}(h:cG e r F)(h0:r<:+r0)(Y:bn r=some r)(d:an r= .word hn true):bR false e r0 (iX (aS true n) eB r F) (λst=>st) (λ_ _ _=>True) (Be R (e.st r F ah)):=by
 unfold iX Be;have i:(e.st r F ah).2.2.2.2.1=0:=rfl;rw[i];simp only[bA,hE,aU];rw[aT (iL.2 (Gb Y d))];obtain⟨q,rfl⟩:=(qS d).1;rw[oO];have f:q<:+hn++q:=fR hn q;have j:W (ar e.S (hn++q)+2)=ar e.S q:=kK (w:=hn) h.b3 h.sfx;have k:q≠[]:=by have:=T8 (r:=hn++q);rw[(sr (h.nl.iD h.sfx) wP.1 wP.2).2 d] at this;grind[wP]
 have g:=h.mono f;have l:((e.st (hn++q) F ah).1,W ((e.st (hn++q) F ah).2.1+2),(e.st (hn++q) F ah).2.2.1,(e.st (hn++q) F ah).2.2.2.1,(0:Int),(e.st (hn++q) F ah).2.2.2.2.2.1,(e.st (hn++q) F ah).2.2.2.2.2.2.1,(e.st (hn++q) F ah).2.2.2.2.2.2.2.1,(e.st (hn++q) F ah).2.2.2.2.2.2.2.2)=e.st q F ah:=by show(e.S,W (ar e.S (hn++q)+2),e.ne,F,(0:Int),(0:Int),([]:H),([]:bw),ah)=_;rw[j];rfl
 rw[l,T9 (by simp) ND Gf (h.nl.iD g.sfx)];refine bR.iZ (C:=λx=>x) db.id ((Dn bk bc (c:= .done) rfl (by simp) (Ge ND Gf) (by decide) g ⟨ah,rfl,λm=>absurd m k⟩).mono (f.trans h0)) (λa ae s b t s1 o p _=>?_) (λop nd ds b _ u=>?_) (λb v=>?_)
 ·exact⟨b.2,rfl,s1,o,p,trivial⟩
 ·grind
 grind
theorem an_{r r0:H}{F:ai}{st:aa}(h:cG e r F)(g:gC e r F st)(h0:r<:+r0)(i:r0<:+e.S)(Y:bn r=some r):bR false e r0 (iX (aS true n) eB r F) (λst=>st) (λ_ _ _=>True) (Bf R st):=by
 obtain⟨ah,rfl,q⟩:=g;unfold Bf;have j:(e.st r F ah).2.2.2.2.1=0:=rfl;rw[j,q4,gd,wM h,gd];by_cases Z:r=[]
 ·subst Z;simp only[bA,cU,hE,aL,aU,cY,fo,cH,oL];obtain⟨k,a,b⟩:=vt (ah:=ah) (x:=[]) h (by simp);rw[a,aP rfl];have c:iX (aS true n) eB [] F= .more [] (cV [] F eB).1 (cV [] F eB).2:=by unfold iX;refine dm ?_;unfold ad.aI cF m9;rw[aT (cu mg)];rfl
  rw[c];have s:=uf F;have az:=h.kb;simp only[GK] at az;obtain⟨l,m,o⟩:=xS (e:=e) (nm:=[]) (x:=eB) (ae:=[]) (r0:=r0) (nd:=[]) (ds:=F) b h0 i (.inl rfl) (by simp only[GK];have:eB.length=10:=rfl;omega) h.b3 (by decide);unfold Be;rw[b.1];simp only[show¬((1:Int)=0) by decide,bH,fp,aL];rw[NG,m,aP rfl];exact⟨l,rfl,o.s⟩
 ·simp only[Z,bH,bA,fp,aL,cU];have f:=h.nl.iD h.sfx;by_cases aD:jD r=[100,111]
  ·have p:=(sr f wP.1 wP.2).1 aD;simp only[aD,bA,hE,aU];simp_all[gd,an9]
  ·simp only[aD,bH,fp,aL];have p:an r≠ .word hn true:=λd=>aD ((sr f wP.1 wP.2).2 d);have c:iX (aS true n) eB r F= .bad r:=by unfold iX;refine hp ?_;unfold ad.aI cF m9;rw[aT (cu Y)];have M:an r≠ .eof:=λd=>Z (lX.1 d);rw[aO M,aO (by grind[Gd])];rfl
   rw[c];obtain⟨k,a,b⟩:=qe (ah:=ah) ((e.st r F ah).2.1) h h0;rw[a,aP rfl];exact⟨_,rfl,by cases a;exact b⟩
theorem Uc{r r0:H}{F:ai}{st:aa}(h:cG e r F)(j:gC e r F st)(h0:r<:+r0)(o:r0<:+e.S):bR false e r0 (N (c5.aI eB) (λ_=>iX (aS true n) eB) r F) (λst=>st) (λ_ _ _=>True) (x2 R st):=by
 unfold x2;rw[j.eta.2.2.2.2.1];simp only[bA,hE,aU];have l:=F1 h j;obtain⟨p,m,b⟩:=l;rw[m,aP rfl];have k:=aJ.lines (c:=0) r F;have az:=h.kb;cases hm:c5 r F with
 |ok a ae s=>grind[aT,iL,an_]
 |more op nd ds=>
  rw[hm] at b k;simp only[ek] at k;have d:(c5.aI eB) r F= .more op (cV nd ds eB).1 (cV nd ds eB).2:=by grind[ad.aI]
  rw[dm d];obtain⟨f,g,i⟩:=abf (R:=R) h b (by omega);exact⟨f,g,ja.mono i h0⟩
 |bad q=>
  rw[hm] at b;have d:(c5.aI eB) r F= .bad q:=by grind[ad.aI]
  rw[hp d];obtain⟨f,g,i⟩:=abg (R:=R) b;exact⟨f,g,i.mono h0⟩
 |deep q=>
  rw[hm] at b;have d:(c5.aI eB) r F= .deep q:=by grind[ad.aI]
  rw[kd d];obtain⟨f,g,i⟩:=abg (R:=R) b;exact⟨f,g,i.mono h0⟩
end
theorem aoa(l:dK)(D:ad Unit):pv l D=N (bQ tU) (λt=>match t with
  | .eof=>cb tU
  | .word w true=>if my w then N (b5 w.length) λ_=>N ((bQ []).aI eB) λt=>if t= .op [59] then N (b5 1) λ_=>N (c5.aI eB) λ_=>iX l eB else
    N (c5.aI eB) λ_=>N ((bQ []).aI eB) λt=>if cE t fW then N (b5 2) λ_=>N ((pt D).aI eB) λ_=>N (c5.aI eB) λ_=>iX l eB else iX l eB
   else bE
  |_=>bE):=by
 unfold pv;congr 1
 funext t
 cases t with
 |word w p=>
  cases p with
  |true=>
   simp only[Jv,k2];congr 1;congr 1
   funext _
   congr 1
   funext t
   rw[abc,zi];congr 1
   ·simp[Jv,k2,abd,T_,Jw]
   ·simp only[Jv,k2,T_];congr 1
    funext _
    congr 1
    funext t
    rw[abc,zi];simp[Jv,k2,abd,T_,Jw]
  |false=>rfl
 |_=>rfl
theorem abh:∀(r w:H),dL r->r≠[]->dg r=(w,true)->r.drop w.length≠[]
 |[],w,_,Z,_=>absurd rfl Z
 |b::t,w,a,_,h=>by
  by_cases g:c4 (b::t)=true
  ·simp_all[dg]
  ·have c:c4 (b::t)=false:=by grind
   have d:¬(b=92\/b=39\/b=34\/b=96\/gI (b::t)=true):=by grind[T2]
   have h0:dg (b::t)=(match dg t with|(w,true)=>(b::w,true)|(_,false)=>([],false)):=by rw[dg,c,aO (by simp),aO d];grind
   rw[h0] at h;have i:b≠10:=by simp_all[c4]
   have e:t≠[]:=by
    rintro rfl;rcases a with M|⟨x,M⟩
    ·cases M
    ·cases x with
     |nil=>grind
     |cons y ys=>simp_all
   cases az:dg t with
   |mk f p=>
    rw[az] at h;cases p with
    |false=>cases h
    |true=>simp only at h;cases h;simp only[nn,GJ];exact abh t f (a.iD (dN b t)) e az
noncomputable def Bh(R:bj):aa->Option aa:=λa=>
 (cY ((decide (a.2.2.2.2.1=0))=true) (mx a) [] λ(b:H)=>(bif(bif(decide (a.2.2.2.2.1=0)) then(decide (b=([105,110]:H))) else false) then(au (Ip R (a.1,(W (a.2.1+2)),a.2.2.1,a.2.2.2.1,a.2.2.2.2.1,a.2.2.2.2.2.1,a.2.2.2.2.2.2.1,a.2.2.2.2.2.2.2.1,a.2.2.2.2.2.2.2.2)) λ(c:aa)=>x2 R c) else x2 R a))
noncomputable def Jx(R:bj):aa->Option aa:=λx=>
 (au (iq x) λ(a:H)=>(bif(decide (a=([59]:H))) then x2 R (x.1,(W (x.2.1+1)),x.2.2.1,x.2.2.2.1,x.2.2.2.2.1,x.2.2.2.2.2.1,x.2.2.2.2.2.2.1,x.2.2.2.2.2.2.2.1,x.2.2.2.2.2.2.2.2) else(au (ps x) λ(b:aa)=>Bh R b)))
noncomputable def NH(R:bj)(p:Int):(H×Bool×aa)->Option aa:=λ(e,d,a)=>
 (cY ((bif(!(decide (a.2.2.2.2.1=0))) then true else(!d))=false) (CG e) false λ(f:Bool)=>(bif(bif(bif(!(decide (a.2.2.2.2.1=0))) then true else(!d)) then true else(!f)) then(au (h9 a p) λ(b:aa)=>some (b.1,b.2.1,b.2.2.1,a.2.2.2.1,b.2.2.2.2.1,b.2.2.2.2.2.1,b.2.2.2.2.2.2.1,a.2.2.2.2.2.2.2.1,b.2.2.2.2.2.2.2.2)) else(au (hP a) λ(c:aa)=>Jx R (c.1,c.2.1,c.2.2.1,a.2.2.2.1,c.2.2.2.2.1,c.2.2.2.2.2.1,c.2.2.2.2.2.2.1,a.2.2.2.2.2.2.2.1,c.2.2.2.2.2.2.2.2))))
noncomputable def Ud(R:bj):aa->Option aa:=λx=>
 (au (gY x) λ(b:Bool)=>(bif b then(au (hQ x ([120,10,100,111,32,120,10,100,111,110,101]:H)) λ(c:aa)=>some c) else(au (xz x) λ(d:Bool)=>(bif d then(au (h9 x x.2.1) λ(a:aa)=>some (a.1,a.2.1,a.2.2.1,x.2.2.2.1,a.2.2.2.2.1,a.2.2.2.2.2.1,a.2.2.2.2.2.2.1,x.2.2.2.2.2.2.2.1,a.2.2.2.2.2.2.2.2)) else(au (rD R x) λy=>NH R x.2.1 y)))))
theorem aob(R:bj)(I:aa):Iq R I=au (hP I) λa=>Ud R (a.1,a.2.1,a.2.2.1,I.2.2.2.1,a.2.2.2.2.1,a.2.2.2.2.2.1,a.2.2.2.2.2.2.1,I.2.2.2.2.2.2.2.1,a.2.2.2.2.2.2.2.2):=rfl
theorem aoc(fr:Bool)(n:Nat):(aS fr n).dl=a9 fr n:=by cases n<;>rfl
def Ue(l:dK)(D:ad Unit):ad Unit:=N ((bQ []).aI eB) λt=>if cE t fW then N (b5 2) λ_=>N ((pt D).aI eB) λ_=>N (c5.aI eB) λ_=>iX l eB else iX l eB
def zD(l:dK)(D:ad Unit):ad Unit:=N ((bQ []).aI eB) λt=>if t= .op [59] then N (b5 1) λ_=>N (c5.aI eB) λ_=>iX l eB else N (c5.aI eB) λ_=>Ue l D
theorem aod(l:dK)(D:ad Unit):pv l D=N (bQ tU) (λt=>match t with
 | .eof=>cb tU
 | .word w true=>if my w then N (b5 w.length) λ_=>zD l D else bE
 |_=>bE):=aoa l D
theorem qf{α:Type}{m:ad α}{x:H}{r:H}{F:ai}{a:α}{ae:H}{b:ai}(h:m r F= .ok a ae b):(m.aI x) r F= .ok a ae b:=iL.2 h
theorem td{α:Type}{m:ad α}{x:H}{r:H}{F:ai}{op:bw}{nd:H}{ds:ai}(h:m r F= .more op nd ds):(m.aI x) r F= .more op (cV nd ds x).1 (cV nd ds x).2:=by grind[ad.aI]
theorem vu{α:Type}{m:ad α}{x:H}{r q:H}{F:ai}(h:m r F= .bad q):(m.aI x) r F= .bad q:=by grind[ad.aI]
theorem vv{α:Type}{m:ad α}{x:H}{r q:H}{F:ai}(h:m r F= .deep q):(m.aI x) r F= .deep q:=by grind[ad.aI]
theorem aJ.low{α:Type}{c:Nat}{f:ad α}(az:aJ c f){e:cn}{r:H}{F:ai}(h:cG e r F):∀(op:bw)(nd:H)(ds:ai)(hm:f r F= .more op nd ds),nd.length+eC ds<=100*e.S.length+c:=by intro op nd ds hm;have:=az r F;rw[hm] at this;simp only[ek] at this;have:=h.kb;omega
theorem Uf{e:cn}{ds a:ai}{r:H}(h:cG e r a):mx (e.tt ds)=some []:=by
 have M:mx (e.tt ds)=mx (e.tt a):=by rfl
 rw[M];exact an4 h.Bc
theorem Ug{r w:H}{p:Bool}(h:an r= .word w p):dg r=(w,p):=by
 cases r with
 |nil=>grind[lX]
 |cons b t=>grind[Ju]
theorem NI{α:Type}{q:Bool}{e:cn}{r0 ae:H}{st:aa}{cv:α->H->aa->Prop}(p:Int)(h:oJ e r0 st):bR q e r0 (.bad ae:dD α) (λst=>st) cv (h9 st p):=⟨_,rfl,rfl,h.s,h.lo,h.bg,h.nd,h.op⟩
theorem Uh{R:bj}{p:Int}{b:H}{c:Bool}{a:aa}(h:a.2.2.2.2.1≠0):NH R p (b,c,a)=h9 a p:=by unfold NH;simp only[h,bH,fp,aL,cY,uz,cH];rfl
section
variable{R:bj}{n:Nat}(bk:o5 R n)(hD:k7 R n){e:cn}(bc:e.ne=30- (n:Int))
theorem abi{r:H}{nd:H}{ds:ai}{st:aa}{c:ai}(h0:cG e r c)(hm:ja true e r nd ds st)(a:nd.length+eC ds<=100*e.S.length+500):∃b,Bh R st=some b/\ja false e r (cV nd ds eB).1 (cV nd ds eB).2 b:=by
 rcases hm with M|⟨_,rfl,rfl⟩
 ·unfold Bh;rw[M.1];simp only[show¬((1:Int)=0) by decide,bH,cY,fo,cH,aU];exact Ua h0 (.inl M) a
 ·unfold Bh;have d:(e.tt ds).2.2.2.2.1=0:=rfl;rw[d,Uf h0,gd];simp only[bA,cU,reduceCtorEq,bH,aL,aU];exact Ua h0 (.inr ⟨rfl,rfl,rfl⟩) a
theorem abj{r:H}{st:aa}(hm:jk e r st):∃a,Bh R st=some a/\jk e r a:=by unfold Bh;rw[hm.1];simp only[show¬((2:Int)=0) by decide,bH,cY,fo,cH,aU];exact Ub hm
include bk hD bc
theorem aoe{r r0:H}{F:ai}{st:aa}(h:cG e r F)(k:gC e r F st)(h0:r<:+r0)(m:r0<:+e.S)(Y:bn r=some r)(ax:an r≠ .line):bR false e r0 (Ue (aS true n) (a9 true n) r F) (λst=>st) (λ_ _ _=>True) (Bh R st):=by
 have l:=h.nl.iD h.sfx;unfold Ue Bh;rw[aT (qf (cu Y)),k.eta.2.2.2.2.1];obtain⟨ah,rfl,o⟩:=k;rw[wM h,gd];simp only[bA,cU,aL];by_cases aD:jD r=[105,110]
 ·have p:=(sr l Bg.1 Bg.2).1 aD;have bg:cE (an r) fW=true:=by grind[cE]
  simp only[aD,bA,aL];rw[bh bg];obtain⟨q,rfl⟩:=(qS p).1;have s:b5 2 (fW++q) F= .ok () q F:=rfl;rw[aT s];have i:q<:+fW++q:=fR fW q;have t:W (ar e.S (fW++q)+2)=ar e.S q:=kK (w:=fW) h.b3 h.sfx;have u:q≠[]:=by grind[T8,fW]
  have j:=h.mono i;have v:((e.st (fW++q) F ah).1,W ((e.st (fW++q) F ah).2.1+2),(e.st (fW++q) F ah).2.2.1,(e.st (fW++q) F ah).2.2.2.1,(0:Int),(e.st (fW++q) F ah).2.2.2.2.2.1,(e.st (fW++q) F ah).2.2.2.2.2.2.1,(e.st (fW++q) F ah).2.2.2.2.2.2.2.1,(e.st (fW++q) F ah).2.2.2.2.2.2.2.2)=e.st q F ah:=by show(e.S,W (ar e.S (fW++q)+2),e.ne,F,(0:Int),(0:Int),([]:H),([]:bw),ah)=_;rw[t];rfl
  rw[v];have c:=an7 hD bc j ⟨ah,rfl,λx=>absurd x u⟩;obtain⟨b,y,c⟩:=c;rw[y,aP rfl];have z:=aJ.low (aJ.words (ue true n)) j;rw[aoc] at z;cases hm:pt (a9 true n) q F with
  |ok a ae C=>grind[aT,qf,Uc]
  |more op nd ds=>rw[hm] at c;rw[dm (td hm)];obtain⟨d,f,g⟩:=Ua (R:=R) j (ja.up c) (by grind);exact⟨d,f,g.mono (i.trans h0)⟩
  |bad A=>rw[hm] at c;rw[hp (vu hm)];obtain⟨d,f,g⟩:=Ub (R:=R) c;exact⟨d,f,g.mono (i.trans h0)⟩
  |deep A=>rw[hm] at c;rw[kd (vv hm)];obtain⟨d,f,g⟩:=Ub (R:=R) c;exact⟨d,f,g.mono (i.trans h0)⟩
 ·have bg:cE (an r) fW=false:=by rw[<-Jo l Bg.1 Bg.2];exact eu aD
  simp only[aD,bH,aU];rw[aO (by grind)];have B:N (c5.aI eB) (λ_=>iX (aS true n) eB) r F=iX (aS true n) eB r F:=aT (qf (Ni Y ax));rw[<-B];exact Uc bk bc h ⟨ah,rfl,o⟩ h0 m
theorem aof{r r0:H}{F:ai}{st:aa}(h:cG e r F)(j:gC e r F st)(h0:r<:+r0)(p:r0<:+e.S)(Y:bn r=some r):bR false e r0 (zD (aS true n) (a9 true n) r F) (λst=>st) (λ_ _ _=>True) (Jx R st):=by
 unfold zD Jx;rw[aT (qf (cu Y))];have he:=j.eta;have s:iq st=some (bu r):=by obtain⟨ah,rfl,u⟩:=j;exact su h
 rw[s,aP rfl];by_cases k:bu r=[59]
 ·have l:an r= .op [59]:=(mK (by simp)).2 k;simp only[k,decide_true,cond_true];rw[if_pos l];obtain⟨q,rfl⟩:=(h4 l).2.1;have v:b5 1 ([59]++q) F= .ok () q F:=rfl;rw[aT v];have o:q<:+[59]++q:=List.suffix_append _ q;have x:=h.mono o;have y:q≠[]:=cG.zx (b:=59) (t:=q) h (by decide);obtain⟨ah,rfl,u⟩:=j;have z:W (ar e.S ([59]++q)+1)=ar e.S q:=kK (w:=[59]) h.b3 h.sfx;have A:((e.st ([59]++q) F ah).1,W ((e.st ([59]++q) F ah).2.1+1),(e.st ([59]++q) F ah).2.2.1,(e.st ([59]++q) F ah).2.2.2.1,(e.st ([59]++q) F ah).2.2.2.2.1,(e.st ([59]++q) F ah).2.2.2.2.2.1,(e.st ([59]++q) F ah).2.2.2.2.2.2.1,(e.st ([59]++q) F ah).2.2.2.2.2.2.2.1,(e.st ([59]++q) F ah).2.2.2.2.2.2.2.2)=e.st q F ah:=by show(e.S,W (ar e.S ([59]++q)+1),e.ne,F,(0:Int),(0:Int),([]:H),([]:bw),ah)=_;rw[z];rfl
  rw[A];exact Uc bk bc x ⟨ah,rfl,λm=>absurd m y⟩ (o.trans h0) p
 ·have l:an r≠ .op [59]:=λm=>k ((mK (by simp)).1 m);simp only[k,decide_false,cond_false];rw[if_neg l];obtain⟨C,B,d⟩:=F1 h j;rw[B,aP rfl];have D:=aJ.low (aJ.lines (c:=0)) h;cases hm:c5 r F with
  |ok a ae E=>grind[aT,qf,aoe]
  |more op nd ds=>rw[hm] at d;rw[dm (td hm)];obtain⟨f,g,i⟩:=abi (R:=R) h d (by grind);exact⟨f,g,i.mono h0⟩
  |bad q=>rw[hm] at d;rw[hp (vu hm)];obtain⟨f,g,i⟩:=abj (R:=R) d;exact⟨f,g,i.mono h0⟩
  |deep q=>rw[hm] at d;rw[kd (vv hm)];obtain⟨f,g,i⟩:=abj (R:=R) d;exact⟨f,g,i.mono h0⟩
omit bk hD bc in
theorem aog{r r0:H}{b F:ai}(h:cG e r b)(h0:r<:+r0)(f:eC F<=100*e.S.length+400):∃a,Jx R (e.tt F)=some a/\ja false e r0 (cV [] F eB).1 (cV [] F eB).2 a:=by unfold Jx;rw[F_ F h.b3,aP rfl];simp only[reduceCtorEq,bH,aU];rw[aa7,aP rfl];obtain⟨a,c,d⟩:=abi (R:=R) h (ja.tt (e:=e) (r:=r) F) (by grind);exact⟨a,c,d.mono h0⟩
theorem aoh{r:H}{F:ai}{st:aa}(h:cG e r F)(U:gC e r F st)(V:r<:+e.S):bR false e r (pv (aS true n) (a9 true n) r F) (λst=>st) (λ_ _ _=>True) (Iq R st):=by
 rw[aod,aob];obtain⟨ah,rfl,W⟩:=U;rcases xR h ⟨ah,rfl,W⟩ with⟨b,eS,v,z,X,m,s,iI⟩|⟨v,z⟩
 ·rw[z,aP rfl,aT (cu v)];obtain⟨d,rfl,NF⟩:=X;have A:((e.st b F d).1,(e.st b F d).2.1,(e.st b F d).2.2.1,(e.st r F ah).2.2.2.1,(e.st b F d).2.2.2.2.1,(e.st b F d).2.2.2.2.2.1,(e.st b F d).2.2.2.2.2.2.1,(e.st r F ah).2.2.2.2.2.2.2.1,(e.st b F d).2.2.2.2.2.2.2.2)=e.st b F d:=rfl;rw[A];unfold Ud;rw[q4,aP rfl];by_cases Z:b=[]
  ·subst Z;simp only[bA,aL];obtain⟨g,f,k⟩:=vt (ah:=d) (x:=tU) m (by decide);rw[show([120,10,100,111,32,120,10,100,111,110,101]:H)=tU from rfl,f,aP rfl];exact⟨g,rfl,(k.mono s).s⟩
  ·simp only[Z,bH,aU];rw[Nz m Z,aP rfl];have K:∃g,h9 (e.st b F d) (e.st b F d).2.1=some g/\jk e r g:=qe _ m s
   have qb:an b≠ .eof:=λB=>Z (lX.1 B);cases al:an b with
   |eof=>grind
   |line=>simp only[aL];obtain⟨g,f,k⟩:=K;rw[f,aP rfl];exact⟨_,rfl,by cases f;exact k⟩
   |op o=>simp only[aL];obtain⟨g,f,k⟩:=K;rw[f,aP rfl];exact⟨_,rfl,by cases f;exact k⟩
   |word w p=>
    simp only[aU];have u:=Ug al;have dH:=h.nl.iD m.sfx;obtain⟨⟨i,fN,L⟩,M,c⟩:=F6 hD bc (tr0:=d) m;rw[M,aP rfl];have O:L.1=e.S->i.length<=1000000:=λY=>kN (T3 m Y M).1 h.b3;unfold NH;dsimp only at c⊢;by_cases P:p=true/\my w=true
    ·obtain⟨rfl,q1⟩:=P;dsimp only;have Bd:=abh b w dH Z u;have xY:=abe (D:=a9 true n) b w F u Bd;rw[xY] at c;obtain⟨C,aj,a3, -,j,l⟩:=c;rw[u] at j l;dsimp only at j l;have E:=l j;subst E j;have G:=(zr i (O a3.eta.1)).2;rw[G,a3.eta.2.2.2.2.1,q1];simp only[bA,hE,aU,cU];rw[gd];simp only[cU,hE,aU];rw[aT (show b5 i.length b F= .ok () (b.drop i.length) F from rfl)];obtain⟨Q,rfl,S⟩:=a3;rcases xR aj ⟨Q,rfl,S⟩ with⟨bZ,aoi,I,J,sn,ln,vs,T⟩|⟨I,J⟩
     ·rw[J,aP rfl];obtain⟨ia,rfl,NK⟩:=sn;have t:zD (aS true n) (a9 true n) (b.drop i.length) F=zD (aS true n) (a9 true n) bZ F:=by unfold zD;rw[aT (qf (cu I)),aT (qf (cu T))]
      rw[t];exact aof bk hD bc ln ⟨ia,rfl,NK⟩ (vs.trans (C.trans s)) V T
     ·rw[J,aP rfl];have t:zD (aS true n) (a9 true n) (b.drop i.length) F= .more [] (cV [] F eB).1 (cV [] F eB).2:=by unfold zD;exact dm (td (by rw[iN I];rfl))
      rw[t];have wD:=h.kb;exact aog (R:=R) h fS (by show eC F<=_;omega)
    ·have t:(match Tok.word w p with| .eof=>cb tU| .word w true=>if my w then N (b5 w.length) λ_=>zD (aS true n) (a9 true n) else bE|_=>bE:ad Unit) b F= .bad b:=by
      cases p with
      |false=>rfl
      |true=>dsimp only;rw[if_neg (λB=>P ⟨rfl,B⟩)];rfl
     refine bR.eh (y:=h9 L (e.st b F d).2.1) ?_ ?_
     ·rw[t];cases hm:cO (a9 true n) b F with
      |ok a cy b8=>rw[hm] at c;obtain⟨C,aj,⟨Q,rfl,S⟩,_⟩:=c;grind[NI,aa3]
      |more op nd ds=>rw[hm] at c;exact NI _ (c.z.2.2.2.1.mono s)
      |bad q=>rw[hm] at c;exact NI _ (c.2.mono s)
      |deep q=>rw[hm] at c;exact NI _ (c.2.mono s)
     ·cases hm:cO (a9 true n) b F with
      |ok a cy b8=>
       rw[hm] at c;obtain⟨C,aj,a3, -,j,l⟩:=c;rw[u] at j l;dsimp only at j l;subst j;have G:=(zr i (O a3.eta.1)).2;rw[G,a3.eta.2.2.2.2.1];cases fN with
       |false=>rfl
       |true=>
        have E:=l rfl;subst E;have av:my i=false:=by grind
        rw[av];rfl
      |more op nd ds=>rw[hm] at c;exact Uh (by rw[c.z.1];decide)
      |bad q=>rw[hm] at c;exact Uh (by rw[c.1];decide)
      |deep q=>rw[hm] at c;exact Uh (by rw[c.1];decide)
 ·rw[z,aP rfl,dm (op:=[]) (nd:=(cV [] F tU).1) (ds:=(cV [] F tU).2) (by rw[iN v];rfl)];have A:((e.tt F).1,(e.tt F).2.1,(e.tt F).2.2.1,(e.st r F ah).2.2.2.1,(e.tt F).2.2.2.2.1,(e.tt F).2.2.2.2.2.1,(e.tt F).2.2.2.2.2.2.1,(e.st r F ah).2.2.2.2.2.2.2.1,(e.tt F).2.2.2.2.2.2.2.2)=e.tt F:=rfl;rw[A];unfold Ud;rw[pB,aP rfl];simp only[aL];obtain⟨g,f,k⟩:=Dm (x:=tU) h.Bc (by decide);rw[show([120,10,100,111,32,120,10,100,111,110,101]:H)=tU from rfl,f,aP rfl];exact⟨g,rfl,(k.mono n_).s⟩
end
theorem aoj{σ α β:Type}(f:σ->ad (σ⊕α))(K:α->ad β):∀(bz:Nat)(s:σ)(r:H)(F:ai),r.length<=bz->N (ck f s) K r F=ck (λs=>N (f s) λx=>match x with| .inl s'=>aZ (.inl s')| .inr a=>N (K a) λb=>aZ (.inr b)) s r F:=by
 intro bz;induction bz with
 |zero=>
  intro s r F h;have Z:r.length=0:=by omega
  rw[cK];unfold N;rw[cK];cases M:f s r F with
  |ok x ae c=>
   cases x with
   |inl s'=>grind[cX,aZ]
   |inr a=>grind[cX,aZ]
  |more op nd ds=>rfl
  |bad q=>rfl
  |deep q=>rfl
 |succ bz d=>
  intro s r F h;rw[cK];unfold N;rw[cK];cases M:f s r F with
  |ok x ae c=>
   cases x with
   |inl s'=>
    simp only[cX,aZ];by_cases ax:ae.length<r.length
    ·rw[bh ax,bh ax];exact d s' ae c (by omega)
    grind
   |inr a=>grind[cX,aZ]
  |more op nd ds=>rfl
  |bad q=>rfl
  |deep q=>rfl
theorem aok{σ α β:Type}(f:σ->ad (σ⊕α))(K:α->ad β)(s:σ):N (ck f s) K=ck (λs=>N (f s) λx=>match x with| .inl s'=>aZ (.inl s')| .inr a=>N (K a) λb=>aZ (.inr b)) s:=by
 funext r F;exact aoj f K r.length s r F (cS _)
def Dq(e:cn)(r:H)(F:ai)(x:aa):Prop:=(∃r' ah,bn r=some r'/\x=e.st r' F ah/\(r'=[]->ah=false)/\cG e r' F/\r'<:+r/\bn r'=some r')\/(bn r=none/\x=e.tt F)
theorem x3{e:cn}{r:H}{F:ai}{st:aa}(h:cG e r F)(d:gC e r F st):∃x,hP st=some x/\Dq e r F x:=by
 rcases xR h d with⟨f,g,a,b,⟨ah,i,c⟩,j,k,l⟩|⟨a,b⟩
 ·exact⟨g,b,.inl ⟨f,ah,a,i,c,j,k,l⟩⟩
 ·exact⟨_,b,.inr ⟨a,rfl⟩⟩
theorem Gg{q:Bool}{e:cn}{r r0:H}{nd:H}{ds:ai}{st:aa}{b:ai}{x:H}(h0:cG e r b)(hm:ja false e r nd ds st)(h:r<:+r0)(f:nd.length+eC ds<=100*e.S.length+500)(g:x.length<=100):∃a,gZ st [] x=some a/\ja q e r0 (cV nd ds x).1 (cV nd ds x).2 a:=by obtain⟨a,c,d⟩:=xS (e:=e) (nm:=[]) (x:=x) (ae:=r) (r0:=r) (nd:=nd) (ds:=ds) hm.z fS h0.sfx (.inl rfl) (by omega) h0.b3 (by omega);exact⟨a,c,(oK.mono d h).s⟩
theorem sv{e:cn}{r:H}{st:aa}{nm x:H}(hm:jk e r st):gZ st nm x=some st:=qc (by rw[hm.1];decide)
theorem te{e:cn}{w q:H}{F:ai}{ah:Bool}(h:cG e (w++q) F)(k:Nat)(aw:w.length=k):(e.S,W (ar e.S (w++q)+(k:Int)),e.ne,F,(0:Int),(0:Int),([]:H),([]:bw),ah)=e.st q F ah:=by subst aw;have a:W (ar e.S (w++q)+(w.length:Int))=ar e.S q:=kK (w:=w) h.b3 h.sfx;rw[a];rfl
theorem cG.ui{e:cn}{w q:H}{F:ai}(h:cG e (w++q) F)(a:w≠[])(b:(10:UInt8)∉w):q≠[]:=by
 rintro rfl;rw[k8] at h;rcases h.nl.iD h.sfx with M|⟨t,M⟩
 ·grind
 grind
def Gh(l:dK):ad Unit:=N (l.ls .item true) λ_=>N (bQ []) λt=>if t= .op [59,59] then b5 2 else aZ ()
def Bj(l:dK)(D:ad Unit)(t:Tok):ad Unit:=N ((if t= .op [40] then b5 1 else aZ ())) λ_=>N (lj D) λ_=>Gh l
def pD(l:dK)(D:ad Unit):Unit->ad (Unit⊕Unit):=λ_=>N c5 λ_=>N (bQ []) λt=>if t= .eof then cb [] else if cE t eK then N (b5 4) λ_=>aZ (.inr ()) else N (Bj l D t) λ_=>aZ (.inl ())
theorem abk(l:dK)(D:ad Unit):(λ(_:Unit)=>N c5 λ_=>N (bQ []) λt=>if t= .eof then cb [] else if cE t eK then N (b5 4) λ_=>aZ (.inr ()) else
 N ((if t= .op [40] then b5 1 else aZ ())) λ_=>N (lj D) λ_=>N (l.ls .item true) λ_=>N (bQ []) λt=>if t= .op [59,59] then N (b5 2) λ_=>aZ (.inl ()) else aZ (.inl ()))=pD l D:=by
 unfold pD
 funext _
 congr 1
 funext _
 congr 1
 funext t
 congr 1;congr 1;unfold Bj Gh;simp only[k2];congr 1
 funext _
 congr 1
 funext _
 congr 1
 funext _
 congr 1
 funext t
 rw[zi];congr 1
theorem aom(l:dK)(D:ad Unit):nJ l D=ck (pD l D) ():=by simp[nJ,abk]
theorem aon{n:Nat}{s':Unit}{r:H}{F:ai}{r':H}{a:ai}(h:pD (aS true n) (a9 true n) () r F= .ok (.inl s') r' a):r'.length<r.length:=by rw[<-abk] at h;exact(YT (qR true n) (mI true n)).lt (s:=()) h
noncomputable def zF(R:bj):aa->Option aa:=λx=>
 (au (R.oo x ([59,59]:H) ([]:bw) false) λ(c,a)=>(cY ((decide (a.2.2.2.2.1=0))=true) (iq a) [] λ(b:H)=>(bif(bif(decide (a.2.2.2.2.1=0)) then(decide (b=([59,59]:H))) else false) then some (a.1,(W (a.2.1+2)),a.2.2.1,a.2.2.2.1,a.2.2.2.2.1,a.2.2.2.2.2.1,a.2.2.2.2.2.2.1,a.2.2.2.2.2.2.2.1,a.2.2.2.2.2.2.2.2) else some a)))
noncomputable def Jy(R:bj)(I x:aa):Option aa:=fixF (AL R (zF R)) bC (x.1,x.2.1,x.2.2.1,I.2.2.2.1,x.2.2.2.2.1,x.2.2.2.2.2.1,x.2.2.2.2.2.2.1,I.2.2.2.2.2.2.2.1,x.2.2.2.2.2.2.2.2)
theorem aoo(R:bj)(I:aa):Ig R I=(au (iq I) λ(a:H)=>
 (bif(decide (a=([40]:H))) then
 (au (hP (I.1,(W (I.2.1+1)),I.2.2.1,I.2.2.2.1,I.2.2.2.2.1,I.2.2.2.2.2.1,I.2.2.2.2.2.2.1,I.2.2.2.2.2.2.2.1,I.2.2.2.2.2.2.2.2)) λ(b:aa)=>Jy R I b)
 else Jy R I I)):=rfl
section
variable{R:bj}{n:Nat}(bk:o5 R n)(hD:k7 R n){e:cn}(bc:e.ne=30- (n:Int))
include bk bc
theorem aop{r:H}{F:ai}{st:aa}(h:cG e r F)(p:gC e r F st):bR false e r (Gh (aS true n) r F) (λst=>st) (λ_ _ _=>True) (zF R st):=by
 unfold Gh zF;refine bR.iZ (C:=λx=>x) db.id (bk.im e .item true rfl bc r F st h p) (λa ae u b k s1 c i _=>?_) (λop nd ds b _ l=>?_) (λb d=>?_)
 ·obtain⟨d,m⟩:=b;dsimp only at i⊢;obtain⟨da,eR⟩:=A7 true n;rw[eR] at k;obtain⟨s,v⟩:=zo (by simp) k;rw[aT (cu s),i.eta.2.2.2.2.1];obtain⟨ah,rfl,t⟩:=i;rw[su c,gd];simp only[bA,cU,aL];by_cases f:bu ae=[59,59]
  ·have g:an ae= .op [59,59]:=(mK (by simp)).2 f;simp only[f,bA,aL];rw[bh g];obtain⟨q,rfl⟩:=(h4 g).2.1;have o:q<:+[59,59]++q:=fR _ q;exact⟨_,mL some (te c 2 rfl),o.trans s1,c.mono o,⟨ah,rfl,λj=>absurd j (c.ui (by simp) (by decide))⟩,trivial⟩
  ·have g:an ae≠ .op [59,59]:=λj=>f ((mK (by simp)).1 j);simp only[f,bH,aU];rw[aO g];exact⟨_,rfl,s1,c,⟨ah,rfl,t⟩,trivial⟩
 ·obtain⟨d,m⟩:=b;dsimp only at l⊢;rw[l.z.1];simp only[show¬((1:Int)=0) by decide,bH,cY,fo,cH,aU];grind
 ·obtain⟨e1,m⟩:=b;dsimp only at d⊢;rw[d.1];simp only[show¬((2:Int)=0) by decide,bH,cY,fo,cH,aU];grind
include hD
theorem abl{r0 r:H}{F:ai}{x:aa}(h:cG e r F)(M:Dq e r F x):bR false e r (N (lj (a9 true n)) (λ_=>Gh (aS true n)) r F) (λst=>st) (λ_ _ _=>True) (fixF (AL R (zF R)) bC x):=by
 unfold lj;rw[aok];refine bR.rep (en:=λ_ r F x=>Dq e r F x) (λk s r F x aB M ng aw=>?_) bC () r F _ (wL h) h M;simp only[k2] at aw⊢;rcases M with⟨i,m,O,rfl,NF,E,G,iI⟩|⟨O,rfl⟩
 ·rw[aT (cu O)];unfold AL;have P:((e.st i F m).1,(e.st i F m).2.1,(e.st i F m).2.2.1,(e.st i F m).2.2.2.1,(e.st i F m).2.2.2.2.1,(e.st i F m).2.2.2.2.2.1,(e.st i F m).2.2.2.2.2.2.1,(e.st i F m).2.2.2.2.2.2.2.1,(e.st i F m).2.2.2.2.2.2.2.2)=e.st i F m:=rfl;dsimp only;rw[P,q4,aP rfl];by_cases Z:i=[]
  ·subst Z;simp only[bA,aL];obtain⟨f,j,t⟩:=vt (ah:=m) (x:=[120,41]) E (by decide);rw[j,aP rfl];exact⟨f,rfl,(t.mono G).s⟩
  ·simp only[Z,bH,aU];rw[Nz E Z,aP rfl];have rW:∃f,h9 (e.st i F m) (e.st i F m).2.1=some f/\jk e r f:=qe _ E G
   have qb:an i≠ .eof:=λC=>Z (lX.1 C);cases al:an i with
   |eof=>grind
   |line=>simp only[aL];obtain⟨f,j,t⟩:=rW;rw[j,aP rfl];exact⟨_,rfl,by cases j;exact t⟩
   |op o=>simp only[aL];obtain⟨f,j,t⟩:=rW;rw[j,aP rfl];exact⟨_,rfl,by cases j;exact t⟩
   |word w p=>
    simp only[aU,k2];have hr:c4 i=false:=(zt iI al).2;have l:=F6 hD bc (tr0:=m) E;have h6:=aJ.low (aJ.cO (xK true n▸(ue true n).dl)) E;obtain⟨⟨dT,fN,jB⟩,hb,l⟩:=l;rw[hb,aP rfl];dsimp only at l⊢;cases hm:cO (a9 true n) i F with
    |ok a v c=>
     rw[hm] at l;obtain⟨cB,aj,a3, -, -, -⟩:=l;rw[aT (qf hm),a3.eta.2.2.2.2.1];simp only[bA,hE,aU];have ax:=wu (mI true n) Z hr hm;obtain⟨u,rfl,NJ⟩:=a3;obtain⟨k6,Q,qd⟩:=x3 aj ⟨u,rfl,NJ⟩;rw[Q,aP rfl];rcases qd with⟨g,d,S,rfl,NK,y,vs,zE⟩|⟨S,rfl⟩
     ·rw[aT (cu S)];have T:((e.st g c d).1,(e.st g c d).2.1,(e.st g c d).2.2.1,(e.st v c u).2.2.2.1,(e.st g c d).2.2.2.2.1,(e.st g c d).2.2.2.2.2.1,(e.st g c d).2.2.2.2.2.2.1,(e.st v c u).2.2.2.2.2.2.2.1,(e.st g c d).2.2.2.2.2.2.2.2)=e.st g c d:=rfl;rw[T,q4,aP rfl];have J:g<:+r:=vs.trans (cB.trans G);by_cases U:g=[]
      ·subst U;simp only[bA,aL];obtain⟨f,j,t⟩:=vt (ah:=d) (x:=[41]) y (by decide);rw[j,aP rfl];exact⟨f,rfl,(t.mono J).s⟩
      ·simp only[U,bH,aU];rw[su y,aP rfl];have atY:an g≠ .eof:=λC=>U (lX.1 C);have V:∃f,h9 (e.st g c d) (e.st g c d).2.1=some f/\jk e r f:=qe _ y J
       by_cases K:bu g=[124]
       ·have D:an g= .op [124]:=(mK (by simp)).2 K;obtain⟨q,rfl⟩:=(h4 D).2.1;rw[D,K];simp only[bA,hE,aU,cU,k2,DP,and_true,show¬((124:UInt8)=41) by decide,bH,fp];have I:q<:+[124]++q:=fR _ q;have X:=y.ui (by simp) (by decide);rw[aT (show b5 1 ([124]++q) c= .ok () q c from rfl)];obtain⟨z,Jz,Bk⟩:=x3 (y.mono I) ⟨d,rfl,λC=>absurd C X⟩;have Y:hP ((e.st ([124]++q) c d).1,W ((e.st ([124]++q) c d).2.1+1),(e.st ([124]++q) c d).2.2.1,(e.st v c u).2.2.2.1,(e.st ([124]++q) c d).2.2.2.2.1,(e.st ([124]++q) c d).2.2.2.2.2.1,(e.st ([124]++q) c d).2.2.2.2.2.2.1,(e.st v c u).2.2.2.2.2.2.2.1,(e.st ([124]++q) c d).2.2.2.2.2.2.2.2)=some z:=by rw[<-Jz];exact mL hP (te y 1 rfl)
        rw[Y,aP rfl];have h5:q.length<r.length:=by grind
        have Ds:(z.1,z.2.1,z.2.2.1,(e.st v c u).2.2.2.1,z.2.2.2.2.1,z.2.2.2.2.2.1,z.2.2.2.2.2.2.1,(e.st v c u).2.2.2.2.2.2.2.1,z.2.2.2.2.2.2.2.2)=z:=by rcases Bk with⟨og,Uk, -,rfl, -⟩|⟨-,rfl⟩<;>rfl
        rw[Ds];exact bR.inl h5 (aw () q c z (I.trans J) (y.mono I) h5 Bk)
       ·by_cases L:bu g=[41]
        ·have D:an g= .op [41]:=(mK (by simp)).2 L;obtain⟨q,rfl⟩:=(h4 D).2.1;rw[D,L];simp only[bA,hE,aU,cU,k2,DP,and_true,show¬((41:UInt8)=124) by decide,bH,fp,aL,cH];have I:q<:+[41]++q:=fR _ q;have X:=y.ui (by simp) (by decide);rw[aT (show b5 1 ([41]++q) c= .ok () q c from rfl)];have cA:=aop bk bc (y.mono I) (st:=e.st q c d) ⟨d,rfl,λC=>absurd C X⟩;have Y:zF R ((e.st ([41]++q) c d).1,W ((e.st ([41]++q) c d).2.1+1),(e.st ([41]++q) c d).2.2.1,(e.st v c u).2.2.2.1,(e.st ([41]++q) c d).2.2.2.2.1,(e.st ([41]++q) c d).2.2.2.2.2.1,(e.st ([41]++q) c d).2.2.2.2.2.2.1,(e.st v c u).2.2.2.2.2.2.2.1,(e.st ([41]++q) c d).2.2.2.2.2.2.2.2)=zF R (e.st q c d):=mL (zF R) (te y 1 rfl);rw[Y];obtain⟨b,oc,A⟩:=cA.mono (I.trans J);rw[oc,Jw];dsimp only;cases B:Gh (aS true n) q c with
         |ok a eW lK=>rw[B] at A;rw[aT B];exact⟨b,rfl,A⟩
         |more op nd ds=>rw[B] at A;rw[dm B];exact⟨b,rfl,A⟩
         |bad q=>rw[B] at A;rw[hp B];exact⟨b,rfl,A⟩
         |deep q=>rw[B] at A;rw[kd B];exact⟨b,rfl,A⟩
        ·simp only[K,L,bH,fp,aL];obtain⟨f,j,t⟩:=V;rw[j,aP rfl]
         have fin:∃b:aa,some (f.1,f.2.1,f.2.2.1,(e.st v c u).2.2.2.1,f.2.2.2.2.1,f.2.2.2.2.2.1,f.2.2.2.2.2.2.1,(e.st v c u).2.2.2.2.2.2.2.1,f.2.2.2.2.2.2.2.2)=some b/\jk e r b:=⟨_,rfl,by cases j;exact t⟩
         cases D:an g with
         |eof=>grind
         |line=>exact fin
         |word _ _=>exact fin
         |op o=>have aN:=(h4 D).1;subst aN;simp only[K,L,cH];exact fin
     ·rw[dm (op:=[]) (by rw[iN S];rfl)];have T:((e.tt c).1,(e.tt c).2.1,(e.tt c).2.2.1,(e.st v c u).2.2.2.1,(e.tt c).2.2.2.2.1,(e.tt c).2.2.2.2.2.1,(e.tt c).2.2.2.2.2.2.1,(e.st v c u).2.2.2.2.2.2.2.1,(e.tt c).2.2.2.2.2.2.2.2)=e.tt c:=rfl;rw[T,pB,aP rfl];simp only[aL];obtain⟨f,j,t⟩:=Dm (x:=[41]) aj.Bc (by decide);rw[j,aP rfl];exact⟨f,rfl,(t.mono n_).s⟩
    |more op nd ds=>rw[hm] at l;rw[dm (td hm),l.z.1];simp only[show¬((1:Int)=0) by decide,bH,fp,aL];obtain⟨f,af,bf⟩:=Gg (q:=false) (x:=[41]) E l G (by grind) (by decide);rw[af,aP rfl];exact⟨f,rfl,bf⟩
    |bad q=>rw[hm] at l;rw[hp (vu hm),l.1];simp only[show¬((2:Int)=0) by decide,bH,fp,aL];rw[sv l,aP rfl];exact⟨_,rfl,l.mono G⟩
    |deep q=>rw[hm] at l;rw[kd (vv hm),l.1];simp only[show¬((2:Int)=0) by decide,bH,fp,aL];rw[sv l,aP rfl];exact⟨_,rfl,l.mono G⟩
 ·rw[dm (op:=[]) (by rw[iN O];rfl)];unfold AL;have P:((e.tt F).1,(e.tt F).2.1,(e.tt F).2.2.1,(e.tt F).2.2.2.1,(e.tt F).2.2.2.2.1,(e.tt F).2.2.2.2.2.1,(e.tt F).2.2.2.2.2.2.1,(e.tt F).2.2.2.2.2.2.2.1,(e.tt F).2.2.2.2.2.2.2.2)=e.tt F:=rfl;dsimp only;rw[P,pB,aP rfl];simp only[aL];obtain⟨f,j,t⟩:=Dm (x:=[120,41]) aB.Bc (by decide);rw[j,aP rfl];exact⟨f,rfl,(t.mono n_).s⟩
end
theorem JA:(eK:H)≠[]/\eK.all gO=true:=by decide
def zG:H:=10::eK
def Gi:H:=[32]++fW++[10]++eK
def Bl:H:=[120,32]++fW++[10]++eK
theorem aos{σ α:Type}(f:σ->ad (σ⊕α))(x:H):∀(bz:Nat)(s:σ)(r:H)(F:ai),r.length<=bz->(ck f s).aI x r F=ck (λs=>(f s).aI x) s r F:=by
 intro bz;induction bz with
 |zero=>
  intro s r F h;have Z:r.length=0:=by omega
  rw[cK];unfold ad.aI;rw[cK];cases M:f s r F with
  |ok y ae b=>grind[cX]
  |more op nd ds=>rfl
  |bad q=>rfl
  |deep q=>rfl
 |succ bz c=>
  intro s r F h;rw[cK];unfold ad.aI;rw[cK];cases M:f s r F with
  |ok y ae b=>
   cases y with
   |inl s'=>
    simp only[cX];by_cases ax:ae.length<r.length
    ·rw[bh ax,bh ax];exact c s' ae b (by omega)
    grind
   |inr a=>rfl
  |more op nd ds=>rfl
  |bad q=>rfl
  |deep q=>rfl
noncomputable def zH:aa->Option aa:=λx=>(au (gZ x ([]) ([10,101,115,97,99]:H)) λ(a:aa)=>some a)
noncomputable def JB(R:bj)(a:aa->Option aa):aa->Option aa:=λx=>
 (cY ((decide (x.2.2.2.2.1=0))=true) (mx x) [] λ(b:H)=>(bif(bif(decide (x.2.2.2.2.1=0)) then(decide (b=([101,115,97,99]:H))) else false) then some (x.1,(W (x.2.1+4)),x.2.2.1,x.2.2.2.1,x.2.2.2.2.1,x.2.2.2.2.2.1,x.2.2.2.2.2.2.1,x.2.2.2.2.2.2.2.1,x.2.2.2.2.2.2.2.2) else(bif(decide (x.2.2.2.2.1=0)) then(au (Ig R x) λ(c:aa)=>a c) else a x)))
noncomputable def JC(R:bj)(b:aa->Option aa):aa->Option aa:=λa=>
 (cY ((decide (a.2.2.2.2.1=0))=true) (gY a) false λ(c:Bool)=>(bif(bif(decide (a.2.2.2.2.1=0)) then c else false) then(au (hQ a ([])) λ(d:aa)=>JB R b d) else JB R b a))
theorem abm(R:bj)(j k:aa->Option aa)(x:aa):Ih R j k x=(bif(decide (x.2.2.2.2.1=0)) then(au (ps x) λ(a:aa)=>JC R k a) else j x):=rfl
noncomputable def x4(R:bj):aa->Option aa:=λx=>
 (bif(!(decide (x.2.2.2.2.1=0))) then(au (gZ x ([]) ([32,105,110,10,101,115,97,99]:H)) λ(b:aa)=>some b) else(au (mx x) λ(c:H)=>(bif(!(decide (c=([105,110]:H)))) then(au (h9 x x.2.1) λ(a:aa)=>some (a.1,a.2.1,a.2.2.1,x.2.2.2.1,a.2.2.2.2.1,a.2.2.2.2.2.1,a.2.2.2.2.2.2.1,x.2.2.2.2.2.2.2.1,a.2.2.2.2.2.2.2.2)) else(fixF (Ih R zH) bC (x.1,(W (x.2.1+2)),x.2.2.1,x.2.2.2.1,x.2.2.2.2.1,x.2.2.2.2.2.1,x.2.2.2.2.2.2.1,x.2.2.2.2.2.2.2.1,x.2.2.2.2.2.2.2.2)))))
noncomputable def JD(R:bj):aa->Option aa:=λb=>
 (bif(decide (b.2.2.2.2.1=0)) then(au (ps b) λ(a:aa)=>(cY ((decide (a.2.2.2.2.1=0))=true) (gY a) false λ(c:Bool)=>(bif(bif(decide (a.2.2.2.2.1=0)) then c else false) then(au (hQ a ([])) λ(d:aa)=>x4 R d) else x4 R a))) else x4 R b)
noncomputable def Ul(R:bj):aa->Option aa:=λx=>
 (au (gY x) λ(b:Bool)=>(bif b then(au (hQ x ([120,32,105,110,10,101,115,97,99]:H)) λ(c:aa)=>some c) else(au (xz x) λ(d:Bool)=>(bif d then(au (h9 x x.2.1) λ(a:aa)=>some (a.1,a.2.1,a.2.2.1,x.2.2.2.1,a.2.2.2.2.1,a.2.2.2.2.2.1,a.2.2.2.2.2.2.1,x.2.2.2.2.2.2.2.1,a.2.2.2.2.2.2.2.2)) else(au (rD R x) λy=>JD R y.2.2)))))
theorem aot(R:bj)(I:aa):Ik R I=au (hP I) λa=>Ul R (a.1,a.2.1,a.2.2.1,I.2.2.2.1,a.2.2.2.2.1,a.2.2.2.2.2.1,a.2.2.2.2.2.2.1,I.2.2.2.2.2.2.2.1,a.2.2.2.2.2.2.2.2):=rfl
theorem Gj{e:cn}{r:H}{b F:ai}{x:H}(h:cG e r b)(d:eC F<=100*e.S.length+800)(f:x.length<=100):∃a,hQ (e.tt F) x=some a/\oK e r (cV [] F x).1 (cV [] F x).2 a:=by
 have h0:=h.b3;have g:=uf F;have c:=Ba x [] F;refine⟨(e.S,(e.S.length:Int),e.ne,(cV [] F x).2,1,0,(cV [] F x).1,[],true),?_,rfl,rfl,rfl,⟨rfl,?_,?_,?_,?_⟩,?_⟩
 ·unfold hQ a6 cn.tt;simp only[bA,aL];rw[Di _ _ _ _ _ _ _ _ _ _ (by omega) (by grind) (by omega),aP rfl]
 ·grind[ar]
 ·grind
 ·grind
 ·simp
 simp
theorem aou{l:dK}{D:ad Unit}(aD:l.dl=D)(ax:zw l)(t:Tok):aJ 50 (Bj l D t):=by subst aD;exact(aJ.ite (aJ.cQ _) (aJ.ret _)).N λ_=>((aJ.vk ax).mono (by decide)).N λ_=>(ax.ls _ _).N λ_=>(aJ.cW (by simp)).N λt=>aJ.ite (aJ.cQ _) (aJ.ret _)
section
variable{R:bj}{n:Nat}(bk:o5 R n)(hD:k7 R n){e:cn}(bc:e.ne=30- (n:Int))
include bk hD bc
theorem aov{r:H}{F:ai}{st:aa}(h:cG e r F)(j:gC e r F st)(Y:bn r=some r):bR false e r (Bj (aS true n) (a9 true n) (an r) r F) (λst=>st) (λ_ _ _=>True) (Ig R st):=by
 unfold Bj;rw[aoo];obtain⟨ah,rfl,k⟩:=j;rw[su h,aP rfl];by_cases a:bu r=[40]
 ·have b:an r= .op [40]:=(mK (by simp)).2 a;simp only[a,b,bA,aL,cU];obtain⟨q,rfl⟩:=(h4 b).2.1;rw[aT (show b5 1 ([40]++q) F= .ok () q F from rfl)];have c:q<:+[40]++q:=fR _ q;have l:=h.ui (by simp) (by decide);obtain⟨d,m,i⟩:=x3 (h.mono c) (st:=e.st q F ah) ⟨ah,rfl,λf=>absurd f l⟩;have o:hP ((e.st ([40]++q) F ah).1,W ((e.st ([40]++q) F ah).2.1+1),(e.st ([40]++q) F ah).2.2.1,(e.st ([40]++q) F ah).2.2.2.1,(e.st ([40]++q) F ah).2.2.2.2.1,(e.st ([40]++q) F ah).2.2.2.2.2.1,(e.st ([40]++q) F ah).2.2.2.2.2.2.1,(e.st ([40]++q) F ah).2.2.2.2.2.2.2.1,(e.st ([40]++q) F ah).2.2.2.2.2.2.2.2)=some d:=by rw[<-m];exact mL hP (te h 1 rfl)
  rw[o,aP rfl];have g:Jy R (e.st ([40]++q) F ah) d=fixF (AL R (zF R)) bC d:=by unfold Jy;rcases i with⟨p,s, -,rfl, -⟩|⟨-,rfl⟩<;>rfl
  rw[g];exact(abl (r0:=[40]++q) bk hD bc (h.mono c) i).mono c
 ·have b:an r≠ .op [40]:=λf=>a ((mK (by simp)).1 f);simp only[a,b,bH,aU,cH];rw[Jw];have g:Jy R (e.st r F ah) (e.st r F ah)=fixF (AL R (zF R)) bC (e.st r F ah):=rfl;rw[g];exact abl (r0:=r) bk hD bc h (.inl ⟨r,ah,Y,rfl,k,h,fS,Y⟩)
omit bk hD bc in
theorem Um{k:aa->Option aa}{x:aa}(h:x.2.2.2.2.1≠0):JB R k x=k x:=by unfold JB;simp_all[cY]
omit bk hD bc in
theorem Un{k:aa->Option aa}{x:aa}(h:x.2.2.2.2.1≠0):JC R k x=k x:=by unfold JC;simp only[h,bH,cY,fo,cH,aU];exact Um h
theorem aow{r:H}{F:ai}{st:aa}(h:cG e r F)(J:gC e r F st):bR false e r ((nJ (aS true n) (a9 true n)).aI zG r F) (λst=>st) (λ_ _ _=>True) (fixF (Ih R zH) bC st):=by
 rw[aom,aos _ _ _ _ _ _ (cS _)];refine bR.rep (en:=λ_ r F x=>gC e r F x) (λk s r F x p w K aw=>?_) bC () r F _ (wL h) h J
 have m:∀x:aa,x.2.2.2.2.1≠0->k x=zH x:=by intro x w;obtain⟨k',M⟩:=K x;simp_all[abm]
 have L:zG.length<=100:=by decide
 have y:∀{ae:H}{nd:H}{ds:ai}{st:aa}{op:bw},ae<:+r->ja false e ae nd ds st->nd.length+eC ds<=100*e.S.length+500->pD (aS true n) (a9 true n) s r F= .more op nd ds->bR false e r (cX (λs=>(pD (aS true n) (a9 true n) s).aI zG) r ((pD (aS true n) (a9 true n) s).aI zG r F)) (λst=>st) (λ_ _ _=>True) (k st):=by intro ae nd ds st op M U O P;rw[td P,m st (by rw[U.z.1];decide)];obtain⟨z,Q,S⟩:=Gg (q:=false) (x:=zG) (p.mono M) U M O L;unfold zH;rw[show([10,101,115,97,99]:H)=zG from rfl,Q];exact⟨z,rfl,S⟩
 rw[abm,w.eta.2.2.2.2.1];simp only[bA,aL];obtain⟨Z,T,f⟩:=F1 p w;rw[T,aP rfl];have V:=aJ.low (aJ.lines (c:=0)) p;cases hm:c5 r F with
 |ok a ae i=>
  rw[hm] at f;obtain⟨t,aj,a3,u,fj⟩:=f;obtain⟨ah,rfl,W⟩:=a3;unfold JC;have v:(e.st ae i ah).2.2.2.2.1=0:=rfl;rw[v,q4,gd];simp only[bA,cU,aL];by_cases A:ae=[]
  ·subst A;simp only[bA,aL];obtain⟨z,B,o⟩:=vt (ah:=ah) (x:=[]) aj (by decide);rw[B,aP rfl,Um (by rw[o.1];decide)];have g:pD (aS true n) (a9 true n) s r F= .more [] [] i:=by unfold pD;rw[aT hm,aT (cu u)];rfl
   exact y t o.s (by have:=aj.kb;show([]:H).length+eC i<=_;omega) g
  ·simp only[A,bH,aU];unfold JB;rw[v,wM aj,gd];simp only[bA,cU,aL];have D:=h.nl.iD aj.sfx;have X:an ae≠ .eof:=λC=>A (lX.1 C);by_cases aD:jD ae=[101,115,97,99]
   ·have E:=(sr D JA.1 JA.2).1 aD;simp only[aD,bA,aL];obtain⟨q,rfl⟩:=(qS E).1;have G:q<:+eK++q:=fR _ q;have g:pD (aS true n) (a9 true n) s r F= .ok (.inr ()) q i:=by unfold pD;rw[aT hm,aT (cu u),E];rfl
    rw[qf g];exact⟨_,mL some (te aj 4 rfl),G.trans t,aj.mono G,⟨ah,rfl,λC=>absurd C (aj.ui (by decide) (by decide))⟩,trivial⟩
   ·have bg:cE (an ae) eK=false:=by rw[<-Jo D JA.1 JA.2];exact eu aD
    simp only[aD,bH,aU];have j:pD (aS true n) (a9 true n) s r F=N (Bj (aS true n) (a9 true n) (an ae)) (λ_=>aZ (.inl ())) ae i:=by unfold pD;rw[aT hm,aT (cu u),aO X,aO (by grind)]
    have d:=aov bk hD bc aj ⟨ah,rfl,W⟩ u;obtain⟨b,I,d⟩:=d;rw[I,aP rfl];have Y:∀op nd ds,Bj (aS true n) (a9 true n) (an ae) ae i= .more op nd ds->nd.length+eC ds<=100*e.S.length+50:=aJ.low (aou (xK true n) (ue true n) _) aj
    cases l:Bj (aS true n) (a9 true n) (an ae) ae i with
    |ok aj aC dY=>rw[l] at d;obtain⟨dT,fN,jB,_⟩:=d;rw[aT l] at j;have ax:=aon (s':=()) j;rw[qf j];grind[bR.inl]
    |more op nd ds=>grind[dm]
    |bad q=>rw[l] at d;rw[hp l] at j;rw[vu j];rw[m b (by rw[d.1];decide)];unfold zH;rw[sv d];exact⟨_,rfl,d.mono t⟩
    |deep q=>rw[l] at d;rw[kd l] at j;rw[vv j];rw[m b (by rw[d.1];decide)];unfold zH;rw[sv d];exact⟨_,rfl,d.mono t⟩
 |more op nd ds=>
  rw[hm] at f;have g:pD (aS true n) (a9 true n) s r F= .more op nd ds:=by unfold pD;grind[dm]
  have I:=V _ _ _ hm;rcases f with f|⟨_,rfl,rfl⟩
  ·rw[Un (by grind)];exact y List.suffix_rfl (.inl f) (by omega) g
  ·unfold JC;have v:(e.tt ds).2.2.2.2.1=0:=rfl;rw[v,pB,gd];simp only[decide_true,if_true,cond_true];obtain⟨z,B,o⟩:=Gj (F:=ds) (x:=[]) p (by omega) (by simp);rw[B,aP rfl,Um (by rw[o.1];decide)];exact y fS o.s (by show([]:H).length+eC ds<=_;omega) g
 |bad q=>
  rw[hm] at f;have g:pD (aS true n) (a9 true n) s r F= .bad q:=by simp_all[pD,hp]
  rw[vu g,Un (by rw[f.1];decide),m _ (by rw[f.1];decide)];unfold zH;rw[sv f];exact⟨_,rfl,f⟩
 |deep q=>
  rw[hm] at f;have g:pD (aS true n) (a9 true n) s r F= .deep q:=by simp_all[pD,kd]
  rw[vv g,Un (by rw[f.1];decide),m _ (by rw[f.1];decide)];unfold zH;rw[sv f];exact⟨_,rfl,f⟩
end
def qg(D:ad Unit):ad Tok:=N (cO D) λ_=>N c5 λ_=>N (bQ []) λt=>if t= .eof then cb [] else aZ t
theorem aox(l:dK)(D:ad Unit):qJ l D=N (bQ Bl) λt=>match t with
 | .eof=>cb Bl
 | .word _ _=>N ((qg D).aI Gi) λt=>if cE t fW then N (b5 2) λ_=>(nJ l D).aI zG else bE
 |_=>bE:=rfl
section
variable{R:bj}{n:Nat}(bk:o5 R n)(hD:k7 R n){e:cn}(bc:e.ne=30- (n:Int))
theorem NM{r r0:H}{nd:H}{ds:ai}{st:aa}{b:ai}(h0:cG e r b)(hm:ja false e r nd ds st)(Z:r<:+r0)(c:nd.length+eC ds<=100*e.S.length+500):∃a,x4 R st=some a/\ja false e r0 (cV nd ds Gi).1 (cV nd ds Gi).2 a:=by obtain⟨a,d,f⟩:=Gg (q:=false) (x:=Gi) h0 hm Z c (by decide);unfold x4;rw[hm.z.1];simp only[show¬((1:Int)=0) by decide,bH,fp,aL];rw[show([32,105,110,10,101,115,97,99]:H)=Gi from rfl,d];exact⟨a,rfl,f⟩
theorem NN{r:H}{st:aa}(hm:jk e r st):x4 R st=some st:=by unfold x4;rw[hm.1];simp only[show¬((2:Int)=0) by decide,bH,fp,aL];rw[sv hm];rfl
theorem Uo{st:aa}(hm:st.2.2.2.2.1≠0):JD R st=x4 R st:=by simp_all[JD]
include bk hD bc
theorem aoy{r r0:H}{F:ai}{st:aa}(h:cG e r F)(d:gC e r F st)(h0:r<:+r0)(Y:bn r=some r)(Z:r≠[]):bR false e r0 ((if cE (an r) fW then N (b5 2) λ_=>(nJ (aS true n) (a9 true n)).aI zG else bE:ad Unit) r F) (λst=>st) (λ_ _ _=>True) (x4 R st):=by
 obtain⟨ah,rfl,k⟩:=d;have f:(e.st r F ah).2.2.2.2.1=0:=rfl;unfold x4;rw[f,wM h,aP rfl];simp only[bA,hE,aU];have a:=h.nl.iD h.sfx;by_cases aD:jD r=[105,110]
 ·have g:=(sr a Bg.1 Bg.2).1 aD;simp only[aD,bA,hE,aU];have bg:cE (an r) fW=true:=by grind[cE]
  rw[bh bg];obtain⟨q,rfl⟩:=(qS g).1;rw[aT (show b5 2 (fW++q) F= .ok () q F from rfl)];have b:q<:+fW++q:=fR _ q;have ay:=aow bk hD bc (h.mono b) (st:=e.st q F ah) ⟨ah,rfl,λi=>absurd i (h.ui (by decide) (by decide))⟩;refine bR.eh (ay.mono (b.trans h0)) ?_;exact mL (fixF (Ih R zH) bC) (te h 2 rfl)
 ·have bg:cE (an r) fW=false:=by rw[<-Jo a Bg.1 Bg.2];exact eu aD
  simp only[aD,bH,fp,aL];rw[aO (by grind)];obtain⟨l,c,j⟩:=qe (ah:=ah) (e.st r F ah).2.1 h h0;rw[c,aP rfl];exact⟨_,rfl,by cases c;exact j⟩
theorem aoz{r r0:H}{F:ai}{tr0:Bool}(h:cG e r F)(Z:r<:+r0){w:H}{p:Bool}(P:an r= .word w p):bR false e r0 (N ((qg (a9 true n)).aI Gi) (λt=>if cE t fW then N (b5 2) λ_=>(nJ (aS true n) (a9 true n)).aI zG else bE) r F) (λst=>st) (λ_ _ _=>True) (au (rD R (e.st r F tr0)) λy=>JD R y.2.2):=by
 have b:=F6 hD bc (tr0:=tr0) h;have Q:=aJ.low (aJ.cO (xK true n▸(ue true n).dl)) h;obtain⟨⟨S,T,U⟩,D,b⟩:=b;rw[D,aP rfl];dsimp only at b⊢;cases hm:cO (a9 true n) r F with
 |ok a E G=>
  rw[hm] at b;obtain⟨l,aj,a3, -, -, -⟩:=b;unfold JD;rw[a3.eta.2.2.2.2.1];simp only[bA,aL];obtain⟨V,I,d⟩:=F1 aj a3;rw[I,aP rfl];have v:=aJ.low (aJ.lines (c:=0)) aj;cases g:c5 E G with
  |ok W m o=>
   rw[g] at d;obtain⟨e1,s,J,z,X⟩:=d;obtain⟨ah,rfl,K⟩:=J;have A:(e.st m o ah).2.2.2.2.1=0:=rfl;rw[A,q4,gd];simp only[bA,cU,aL];by_cases u:m=[]
   ·subst u;simp only[bA,aL];obtain⟨L,B,C⟩:=vt (ah:=ah) (x:=[]) s (by decide);rw[B,aP rfl];have f:qg (a9 true n) r F= .more [] [] o:=by unfold qg;rw[aT hm,aT g,aT (cu z)];rfl
    rw[dm (td f)];have:=s.kb;obtain⟨i,j,k⟩:=NM (R:=R) s C.s (e1.trans (l.trans Z)) (by show([]:H).length+eC o<=_;omega);exact⟨i,j,k⟩
   ·simp only[u,bH,aU];have M:an m≠ .eof:=λO=>u (lX.1 O);have f:qg (a9 true n) r F= .ok (an m) m o:=by unfold qg;rw[aT hm,aT g,aT (cu z),aO M];rfl
    rw[aT (qf f)];exact aoy bk hD bc s ⟨ah,rfl,K⟩ (e1.trans (l.trans Z)) z u
  |more op nd ds=>
   rw[g] at d;have f:qg (a9 true n) r F= .more op nd ds:=by unfold qg;grind[aT,dm]
   rw[dm (td f)];have Y:=v _ _ _ g;rcases d with d|⟨_,rfl,rfl⟩
   ·rw[d.1];simp only[show¬((1:Int)=0) by decide,bH,cY,fo,cH,aU];obtain⟨i,j,k⟩:=NM (R:=R) aj (.inl d) (l.trans Z) (by omega);exact⟨i,j,k⟩
   ·have A:(e.tt ds).2.2.2.2.1=0:=rfl;rw[A,pB,gd];simp only[bA,cU,aL];obtain⟨L,B,C⟩:=Gj (F:=ds) (x:=[]) aj (by omega) (by simp);rw[B,aP rfl];obtain⟨i,j,k⟩:=NM (R:=R) aj C.s (l.trans Z) (by show([]:H).length+eC ds<=_;omega);exact⟨i,j,k⟩
  |bad q=>
   rw[g] at d;have f:qg (a9 true n) r F= .bad q:=by unfold qg;grind[aT,hp]
   rw[hp (vu f),d.1];simp only[show¬((2:Int)=0) by decide,bH,cY,fo,cH,aU];rw[NN d];exact⟨_,rfl,d.mono (l.trans Z)⟩
  |deep q=>
   rw[g] at d;have f:qg (a9 true n) r F= .deep q:=by unfold qg;grind[aT,kd]
   rw[kd (vv f),d.1];simp only[show¬((2:Int)=0) by decide,bH,cY,fo,cH,aU];rw[NN d];exact⟨_,rfl,d.mono (l.trans Z)⟩
 |more op nd ds=>
  rw[hm] at b;have f:qg (a9 true n) r F= .more op nd ds:=by unfold qg;rw[dm hm]
  rw[dm (td f),Uo (by rw[b.z.1];decide)];obtain⟨i,j,k⟩:=NM (R:=R) h b Z (by grind);exact⟨i,j,k⟩
 |bad q=>
  rw[hm] at b;have f:qg (a9 true n) r F= .bad q:=by simp_all[qg,hp]
  rw[hp (vu f),Uo (by rw[b.1];decide),NN b];exact⟨_,rfl,b.mono Z⟩
 |deep q=>
  rw[hm] at b;have f:qg (a9 true n) r F= .deep q:=by simp_all[qg,kd]
  rw[kd (vv f),Uo (by rw[b.1];decide),NN b];exact⟨_,rfl,b.mono Z⟩
theorem aoA{r:H}{F:ai}{st:aa}(h:cG e r F)(q:gC e r F st):bR false e r (qJ (aS true n) (a9 true n) r F) (λst=>st) (λ_ _ _=>True) (Ik R st):=by
 rw[aox,aot];obtain⟨ah,rfl,s⟩:=q;rcases xR h ⟨ah,rfl,s⟩ with⟨a,v,g,i,t,j,l,y⟩|⟨g,i⟩
 ·rw[i,aP rfl,aT (cu g)];obtain⟨b,rfl,z⟩:=t;have k:((e.st a F b).1,(e.st a F b).2.1,(e.st a F b).2.2.1,(e.st r F ah).2.2.2.1,(e.st a F b).2.2.2.2.1,(e.st a F b).2.2.2.2.2.1,(e.st a F b).2.2.2.2.2.2.1,(e.st r F ah).2.2.2.2.2.2.2.1,(e.st a F b).2.2.2.2.2.2.2.2)=e.st a F b:=rfl;rw[k];unfold Ul;rw[q4,aP rfl];by_cases Z:a=[]
  ·subst Z;simp only[bA,aL];obtain⟨d,c,f⟩:=vt (ah:=b) (x:=Bl) j (by decide);rw[show([120,32,105,110,10,101,115,97,99]:H)=Bl from rfl,c,aP rfl];exact⟨d,rfl,(f.mono l).s⟩
  ·simp only[Z,bH,aU];rw[Nz j Z,aP rfl];have m:∃d,h9 (e.st a F b) (e.st a F b).2.1=some d/\jk e r d:=qe _ j l
   have A:an a≠ .eof:=λu=>Z (lX.1 u);cases B:an a with
   |eof=>grind
   |line=>simp only[aL];obtain⟨d,c,f⟩:=m;rw[c,aP rfl];exact⟨_,rfl,by cases c;exact f⟩
   |op o=>simp only[aL];obtain⟨d,c,f⟩:=m;rw[c,aP rfl];exact⟨_,rfl,by cases c;exact f⟩
   |word w p=>simp only[aU];grind[aoz]
 ·rw[i,aP rfl,dm (op:=[]) (nd:=(cV [] F Bl).1) (ds:=(cV [] F Bl).2) (by rw[iN g];rfl)];have k:((e.tt F).1,(e.tt F).2.1,(e.tt F).2.2.1,(e.st r F ah).2.2.2.1,(e.tt F).2.2.2.2.1,(e.tt F).2.2.2.2.2.1,(e.tt F).2.2.2.2.2.2.1,(e.st r F ah).2.2.2.2.2.2.2.1,(e.tt F).2.2.2.2.2.2.2.2)=e.tt F:=rfl;rw[k];unfold Ul;rw[pB,aP rfl];simp only[aL];obtain⟨d,c,f⟩:=Dm (x:=Bl) h.Bc (by decide);rw[show([120,32,105,110,10,101,115,97,99]:H)=Bl from rfl,c,aP rfl];exact⟨d,rfl,(f.mono n_).s⟩
end
theorem NO:(hj:H)≠[]/\hj.all gO=true:=by decide
theorem Du:(eb:H)≠[]/\eb.all gO=true:=by decide
theorem Up:(gi:H)≠[]/\gi.all gO=true:=by decide
theorem Uq:(ir:H)≠[]/\ir.all gO=true:=by decide
theorem NP:([125]:H)≠[]/\([125]:H).all gO=true:=by decide
theorem Ur(t:Tok)(h:ec .qH t=true):∃w,t= .word w true/\w≠[]/\w.all gO=true/\(w=ir\/w=gi\/w=eb):=by
 simp only[ec,yf] at h;rcases h with(h|h)|h
 ·exact⟨ir,Gd h,Uq.1,Uq.2,.inl rfl⟩
 ·exact⟨gi,Gd h,Up.1,Up.2,.inr (.inl rfl)⟩
 ·exact⟨eb,Gd h,Du.1,Du.2,.inr (.inr rfl)⟩
theorem aoB{β:Type}{m:Nat}{c:Ctx}{no:Bool}{kw x y:H}{K:ad β}(ay:c≠ .text)(b:∀t,ec c t=cE t kw)(e:kw≠[]/\kw.all gO=true){r:H}{F:ai}(f:dL r):
  N (((aS true m).ls c no).aI x) (λ_=>N ((cF kw).aI y) (λ_=>K)) r F=N (N (((aS true m).ls c no).aI x) (λ_=>tc)) (λ_=>K) r F:=by
 rw[<-NC ay b e f];cases hm:(((aS true m).ls c no).aI x) r F with
 |ok a ae g=>
  rw[aT hm,aT hm];have d:=iL.1 hm;obtain⟨da,eR⟩:=A7 true m;rw[eR] at d;obtain⟨h,i⟩:=zo ay d;rw[b] at i;have j:an ae= .word kw true:=by grind[cE]
  have:=Gb (F:=g) h j;grind[aT,qf]
 |more op nd ds=>grind[dm]
 |bad q=>grind[hp]
 |deep q=>grind[kd]
def Us:H:=[10]++hj++[32,120,10]++eb
def x5:H:=10::eb
def NQ(l:dK):Unit->ad (Unit⊕Unit):=λ_=>N ((l.ls .oZ false).aI Us) λ_=>N (cF hj) λ_=>N ((l.ls .qH false).aI x5) λ_=>
    N (bQ []) λt=>if cE t ir then N (cF ir) λ_=>aZ (.inl ()) else
     if cE t gi then N (cF gi) λ_=>N ((l.ls .ku false).aI x5) λ_=>N (cF eb) λ_=>aZ (.inr ()) else N (cF eb) λ_=>aZ (.inr ())
theorem aoC(l:dK):qI l=ck (NQ l) ():=rfl
theorem aoD{n:Nat}{s':Unit}{r:H}{F:ai}{r':H}{a:ai}(h:NQ (aS true n) () r F= .ok (.inl s') r' a):r'.length<r.length:=(YS (qR true n)).lt (s:=()) h
def NR(l:dK):ad (Unit⊕Unit):=N ((l.ls .qH false).aI x5) λ_=>
    N (bQ []) λt=>if cE t ir then N (cF ir) λ_=>aZ (.inl ()) else
     if cE t gi then N (cF gi) λ_=>N ((l.ls .ku false).aI x5) λ_=>N (cF eb) λ_=>aZ (.inr ()) else N (cF eb) λ_=>aZ (.inr ())
def Ut(l:dK):ad (Unit⊕Unit):=N (N ((l.ls .qH false).aI x5) λ_=>tc) λa=>if a=ir then aZ (.inl ()) else if a=gi then N (N ((l.ls .ku false).aI x5) λ_=>tc) λ_=>aZ (.inr ()) else aZ (.inr ())
theorem aoE{n:Nat}{s:Unit}{r:H}{F:ai}(a:dL r):NQ (aS true n) s r F=N (N (((aS true n).ls .oZ false).aI Us) λ_=>tc) (λ_=>NR (aS true n)) r F:=by show N (((aS true n).ls .oZ false).aI Us) (λ_=>N (cF hj) λ_=>NR (aS true n)) r F=_;exact NC (by simp) aa9 NO a
theorem aoF{r:H}{F:ai}{w:H}(a:dL r)(b:w≠[]/\w.all gO=true)(c:an r= .word w true):tc r F= .ok w (r.drop w.length) F:=by grind[sr,tc]
theorem aoG{n:Nat}{r:H}{F:ai}(g:dL r):NR (aS true n) r F=Ut (aS true n) r F:=by
 unfold NR Ut;rw[k2];cases hm:(((aS true n).ls .qH false).aI x5) r F with
 |ok a ae h=>
  rw[aT hm,aT hm];have f:=iL.1 hm;have Y:=((qR true n).ls .qH false).sfx f;have b:=g.iD Y;obtain⟨da,eR⟩:=A7 true n;rw[eR] at f;obtain⟨e,i⟩:=zo (by simp) f;obtain⟨w,d,j,k,l⟩:=Ur _ i;rw[aT (cu e),aT (aoF b ⟨j,k⟩ d),d];rcases l with rfl|rfl|rfl
  ·rw[bh (by decide),bh rfl,aT (Gb e d)]
  ·rw[aO (by decide),bh (by decide),aO (by decide),bh rfl,aT (Gb e d)];have aD:dL (ae.drop gi.length):=b.iD (lM _ _);have:=NC (β:=Unit⊕Unit) (m:=n) (no:=false) (x:=x5) (K:=aZ (.inr ())) (c:= .ku) (by simp) aba Du aD (F:=h);omega
  ·rw[aO (by decide),aO (by decide),aO (by decide),aO (by decide),aT (Gb e d)]
 |more op nd ds=>grind[dm]
 |bad q=>grind[hp]
 |deep q=>grind[kd]
noncomputable def Dv(R:bj):H×aa->Option aa:=λy=>
 (bif(bif(decide (y.2.2.2.2.2.1=0)) then(decide (y.1=([101,108,115,101]:H))) else false) then(au (qF R y.2 ([([102,105]:H)]:bw) ([10,102,105]:H)) λ(b,a)=>some a) else some y.2)
theorem abq(R:bj)(j:H×aa->Option aa)(k:H×aa->Option aa)(y:H×aa):Ir R j k y=(bif(bif(decide (y.2.2.2.2.2.1=0)) then(decide (y.1=([101,108,105,102]:H))) else false) then
 (au (qF R y.2 ([([116,104,101,110]:H)]:bw) ([10,116,104,101,110,32,120,10,102,105]:H)) λz=>
 (bif(decide (z.2.2.2.2.2.1=0)) then
 (au (qF R z.2 ([([101,108,105,102]:H),([101,108,115,101]:H),([102,105]:H)]:bw) ([10,102,105]:H)) λv=>k v)
 else k (y.1,z.2)))
 else j y):=rfl
section
variable{R:bj}{n:Nat}(bk:o5 R n)(hD:k7 R n){e:cn}(bc:e.ne=30- (n:Int))
theorem NS{y:H×aa}(h:y.2.2.2.2.2.1≠0):Dv R y=some y.2:=by simp_all[Dv]
include bk bc
theorem aoH{r:H}{F:ai}{st:aa}(h:cG e r F)(E:gC e r F st):bR false e r (qI (aS true n) r F) (λst=>st) (λ_ _ _=>True) (fixF (Ir R (Dv R)) bC (ir,st)):=by
 rw[aoC];refine bR.rep (en:=λ_ r F (x:H×aa)=>x.1=ir/\gC e r F x.2) (λk s r F x l i G aw=>?_) bC () r F _ (wL h) h ⟨rfl,E⟩;obtain⟨Z,x⟩:=x;obtain⟨rfl,i⟩:=i;dsimp only at i
 have g:∀y:H×aa,(y.2.2.2.2.2.1≠0\/y.1≠ir)->k y=Dv R y:=by
  intro y bm;obtain⟨k',M⟩:=G y;rw[M,abq];rcases bm with bm|bm
  ·grind
  ·have:decide (y.1=([101,108,105,102]:H))=false:=eu bm;grind
 rw[abq];dsimp only;rw[i.eta.2.2.2.2.1,decide_eq_true (show(ir:H)=[101,108,105,102] from rfl)];simp only[bA,aL];have d:∀{u:H}{m:ai},NQ (aS true n) s r F= .ok (.inl ()) u m->u.length<r.length:=λI=>aoD (s':=()) I
 rw[aoE (l.nl.iD l.sfx)] at d⊢;refine bR.iZ (C:=cX _ r) db.k (Dn bk bc (c:= .oZ) rfl (by simp) (Ge aa9 NO) (by decide) l i) (λa ae aG b J s1 o z hb=>?_) (λop nd ds b _ p=>?_) (λb q=>?_)
 ·rw[aT J] at d;rw[z.eta.2.2.2.2.1];simp only[bA,aL];rw[aoG (o.nl.iD o.sfx)] at d⊢;unfold Ut at d⊢;have U:=(Dn bk bc (c:= .qH) (x:=x5) rfl (by simp) (λt al=>by grind[Ur]) (by decide) o z).mono s1;refine bR.iZ (C:=cX _ r) db.k U (λaj K L f N s2 v j O=>?_) (λop nd ds f _ A=>?_) (λf B=>?_)
  ·rw[aT N] at d;obtain⟨rfl, -,P, -⟩:=O;obtain⟨w,Q,fw,iP,S⟩:=Ur _ P;cases Q;rcases S with tb|tb|tb
   ·rw[tb] at d⊢;rw[bh rfl] at d⊢;have ax:=d rfl;exact bR.inl ax (aw () K L f s2 v ax ⟨tb,j⟩)
   ·rw[tb,aO (by decide),bh rfl,g f (.inr (by rw[tb];decide))];unfold Dv;rw[j.eta.2.2.2.2.1,tb,decide_eq_true (show(gi:H)=[101,108,115,101] from rfl)];simp only[bA,aL];have T:=(Dn bk bc (c:= .ku) (x:=x5) rfl (by simp) (Ge aba Du) (by decide) v j).mono s2;refine bR.iZ (C:=cX _ r) db.k T (λa3 cy b8 D Nj V W X Y=>?_) (λop nd ds D _ n3=>?_) (λD jo=>?_)
    ·exact⟨_,rfl,V,W,X,trivial⟩
    ·grind
    grind
   ·rw[tb,aO (by decide),aO (by decide),g f (.inr (by rw[tb];decide))];unfold Dv;rw[tb,eu (show¬(eb:H)=[101,108,115,101] by decide)]
    have:∀b:Bool,(bif b then false else false)=false:=by decide
    rw[this];exact⟨_,rfl,s2,v,j,trivial⟩
  ·rw[g f (.inl (by rw[A.z.1];decide)),NS (by rw[A.z.1];decide)];grind
  ·rw[g f (.inl (by rw[B.1];decide)),NS (by rw[B.1];decide)];grind
 ·rw[p.z.1];simp only[show¬((1:Int)=0) by decide,bH,aU];rw[g _ (.inl (by show b.2.2.2.2.2.1≠0;rw[p.z.1];decide)),NS (by show b.2.2.2.2.2.1≠0;rw[p.z.1];decide)];grind
 ·rw[q.1];simp only[show¬((2:Int)=0) by decide,bH,aU];rw[g _ (.inl (by show b.2.2.2.2.2.1≠0;rw[q.1];decide)),NS (by show b.2.2.2.2.2.1≠0;rw[q.1];decide)];grind
end
theorem Dw{α:Type}(m:Option α):au m (λy=>some y)=m:=by cases m<;>rfl
def zI(l:dK)(w:H):ad Unit:=if w=[123] then N ((l.ls .p7 false).aI [10,125]) λ_=>cF [125]
 else if w=jW then qI l
 else if w=mz then pv l l.dl
 else if w=oA then qJ l l.dl
 else N ((l.ls .p8 false).aI eB) λ_=>iX l eB
section
variable{R:bj}{n:Nat}(bk:o5 R n)(hD:k7 R n){e:cn}(bc:e.ne=30- (n:Int))
noncomputable def Uv(R:bj)(I:aa):Option aa:=
 (au (qF R I ([([100,111]:H)]:bw) ([10,100,111,32,120,10,100,111,110,101]:H)) λz=>(bif(decide (z.2.2.2.2.2.1=0)) then(au (qF R z.2 ([([100,111,110,101]:H)]:bw) ([10,100,111,110,101]:H)) λv=>some v.2) else some z.2))
theorem aoJ(R:bj)(I:aa)(w:H):CN R I w=(bif(decide (w=([123]:H))) then(au (qF R I ([([125]:H)]:bw) ([10,125]:H)) λz=>some z.2) else
 (bif(bif(decide (w=([119,104,105,108,101]:H))) then(decide (w=([119,104,105,108,101]:H))) else(decide (w=([117,110,116,105,108]:H)))) then Uv R I else
 (bif(decide (w=([105,102]:H))) then fixF (Ir R (Dv R)) bC (ir,I) else
 (bif(decide (w=([102,111,114]:H))) then(au (Iq R I) λy=>some y) else
 (bif(decide (w=([99,97,115,101]:H))) then(au (Ik R I) λy=>some y) else some I))))):=by
 unfold CN a6;cases decide (w=([123]:H)) with
 |true=>rfl
 |false=>cases decide (w=([119,104,105,108,101]:H))<;>rfl
include bk bc
theorem abr{r:H}{F:ai}{st:aa}(h:cG e r F)(i:gC e r F st):bR false e r (N (((aS true n).ls .p8 false).aI eB) (λ_=>iX (aS true n) eB) r F) (λst=>st) (λ_ _ _=>True) (Uv R st):=by
 have j:N (((aS true n).ls .p8 false).aI eB) (λ_=>iX (aS true n) eB) r F=N (N (((aS true n).ls .p8 false).aI eB) (λ_=>tc)) (λ_=>N (((aS true n).ls .done false).aI (10::jh)) λ_=>cF jh) r F:=by unfold iX;exact aoB (by simp) abb wP (h.nl.iD h.sfx)
 rw[j];unfold Uv;refine bR.iZ (C:=λx=>x) db.id (Dn bk bc (c:= .p8) rfl (by simp) (Ge abb wP) (by decide) h i) (λa ae p b q s1 d f s=>?_) (λop nd ds b _ k=>?_) (λb l=>?_)
 ·rw[f.eta.2.2.2.2.1];simp only[bA,aL];rw[T9 (by simp) ND Gf (d.nl.iD d.sfx)];refine bR.iZ (C:=λx=>x) db.id ((Dn bk bc (c:= .done) rfl (by simp) (Ge ND Gf) (by decide) d f).mono s1) (λa t u g v s2 m o w=>?_) (λop nd ds g _ y=>?_) (λg z=>?_)
  ·exact⟨_,rfl,s2,m,o,trivial⟩
  ·grind
  grind
 ·rw[k.z.1];grind
 ·rw[l.1];grind
include hD
theorem aoK{r:H}{F:ai}{st:aa}(h:cG e r F)(b:gC e r F st){w:H}(j:oB w=true):bR false e r (zI (aS true n) w r F) (λst=>st) (λ_ _ _=>True) (CN R st w):=by
 rw[aoJ];unfold zI;have f:w=jW\/w=tT\/w=Fk\/w=mz\/w=oA\/w=[123]:=by grind[oB]
 rcases f with rfl|rfl|rfl|rfl|rfl|rfl
 ·rw[aO (by decide),bh rfl];exact aoH bk bc h b
 ·rw[aO (by decide),aO (by decide),aO (by decide),aO (by decide)];exact abr bk bc h b
 ·rw[aO (by decide),aO (by decide),aO (by decide),aO (by decide)];exact abr bk bc h b
 ·rw[aO (by decide),aO (by decide),bh rfl,xK];refine bR.eh (aoh bk hD bc h b h.sfx) ?_;exact Dw _
 ·rw[aO (by decide),aO (by decide),aO (by decide),bh rfl,xK];refine bR.eh (aoA bk hD bc h b) ?_;exact Dw _
 ·rw[bh rfl,T9 (by simp) aa_ NP (h.nl.iD h.sfx)];refine bR.iZ (C:=λx=>x) db.id (Dn bk bc (c:= .p7) rfl (by simp) (Ge aa_ NP) (by decide) h b) (λa k l d m s2 g i o=>?_) (λop nd ds d _ p=>?_) (λd q=>?_)
  ·exact⟨_,rfl,s2,g,i,trivial⟩
  ·grind
  grind
end
def setAt(y:aa)(a:Int):aa:=(y.1,a,y.2.2.1,y.2.2.2.1,y.2.2.2.2.1,y.2.2.2.2.2.1,y.2.2.2.2.2.2.1,y.2.2.2.2.2.2.2.1,y.2.2.2.2.2.2.2.2)
noncomputable def Bm(R:bj)(nm:H):aa->Option aa:=λx=>
 (au (gZ x nm ([])) λ(a:aa)=>(bif(decide (a.2.2.2.2.1=0)) then(au (Fc R (ta a)) λ(b:aa)=>some b) else some (ta a)))
noncomputable def abt(R:bj):aa->Option aa:=λx=>
 (au (iq x) λ(c:H)=>(bif(decide (c=([40]:H))) then(au (R.oo (setAt x (W (x.2.1+1))) ([41]:H) ([]:bw) true) λz=>(au (gZ z.2 ([]) ([41]:H)) λ(b:aa)=>Bm R [40] (setAt b (W (b.2.1+1))))) else(au (mx x) λ(a:H)=>(au (CN R (setAt x (W (x.2.1+(a.length:Int)))) a) λ(d:aa)=>Bm R a d))))
theorem aoL(R:bj)(I:aa):AN R I=(au (AK I I.2.1) λz=>
 (bif(!z.1) then
 some (z.2.1,z.2.2.1,z.2.2.2.1,I.2.2.2.1,z.2.2.2.2.2.1,z.2.2.2.2.2.2.1,z.2.2.2.2.2.2.2.1,I.2.2.2.2.2.2.2.1,z.2.2.2.2.2.2.2.2.2)
 else abt R (z.2.1,z.2.2.1,z.2.2.2.1,I.2.2.2.1,z.2.2.2.2.2.1,z.2.2.2.2.2.2.1,z.2.2.2.2.2.2.2.1,I.2.2.2.2.2.2.2.1,z.2.2.2.2.2.2.2.2.2))):=rfl
theorem abu{st:aa}{nm:H}(h:st.2.2.2.2.1=1)(av:nm≠[])(i:st.2.2.2.2.2.2.2.1.length<=2000000)(j:st.2.2.2.2.2.2.1.length+eC st.2.2.2.1<=1000000000):gZ st nm []=some (st.1,st.2.1,st.2.2.1,st.2.2.2.1,st.2.2.2.2.1,st.2.2.2.2.2.1,st.2.2.2.2.2.2.1,[nm]++st.2.2.2.2.2.2.2.1,st.2.2.2.2.2.2.2.2):=by
 obtain⟨a,b,c,d,vr,f,g,op,ah⟩:=st;simp only at h i j⊢;subst h;have l:=uf d
 have k:∀e,xv (a,b,c,d,1,f,g,e,ah) []=some (a,b,c,(cV g d []).2,1,f,(cV g d []).1,e,ah):=λe=>Di _ _ _ _ _ _ _ _ _ _ (by simp) (by omega) (by omega)
 unfold gZ a6;simp only[bA,aL];simp only[av,bH,fp,aL];rw[bX (by grind),k,aP rfl];rfl
theorem abv{R:bj}{e:cn}{q r:H}{nd:H}{ds:ai}{y:aa}{nm:H}(hm:oK e.up q nd ds y)(g:q<:+r)(ax:q.length<r.length)(Z:r<:+e.S)(h:e.S.length<=1000000)(i:nd.length+eC ds<=100*e.S.length+1000)(av:nm≠[])(a:Int)(j:y.2.1<=a/\a<=y.2.1+1):∃c,Bm R nm (setAt y a)=some c/\ja true e r nd ds c:=by
 obtain⟨M,U,f,b,k⟩:=hm;have d:=Z.length_le;have l:=b.op;unfold Bm;rw[abu (st:=setAt y a) M av (by show y.2.2.2.2.2.2.2.1.length<=_;omega) (by show y.2.2.2.2.2.2.1.length+eC y.2.2.2.1<=_;grind),aP rfl];show∃c,(bif decide (y.2.2.2.2.1=0) then _ else _)=some c/\_
 rw[M];simp only[show¬((1:Int)=0) by decide,decide_false,cond_false];refine⟨_,rfl,.inl ⟨M,U,f,⟨b.s,?_,?_,b.nd,?_⟩,?_⟩⟩
 ·show ar e.S r<=a;have:ar e.S r<=ar e.S q:=by grind[ar]
  have:=b.lo;have hu:ar e.up.S q=ar e.S q:=rfl;omega
 ·show a<=_;have:=b.bg;have hu:e.up.S=e.S:=rfl;grind
 ·show([nm]++y.2.2.2.2.2.2.2.1).length<=_;grind
 ·show _<=a;have hu:e.up.S=e.S:=rfl;grind
theorem NT{R:bj}{e:cn}{q r:H}{y:aa}{nm:H}(hm:jk e.up q y)(d:q<:+r)(ax:q.length<r.length)(a:Int)(f:y.2.1<=a/\a<=y.2.1+1):∃c,Bm R nm (setAt y a)=some c/\jk e r c:=by
 obtain⟨M,b⟩:=hm;have g:=b.op;unfold Bm;rw[qc (st:=setAt y a) (by show y.2.2.2.2.1≠1;omega),aP rfl];show∃c,(bif decide (y.2.2.2.2.1=0) then _ else _)=some c/\_
 rw[M];simp only[show¬((2:Int)=0) by decide,bH,aU];refine⟨_,rfl,M,⟨b.s,?_,?_,b.nd,?_⟩⟩
 ·show ar e.S r<=a;have:ar e.S r<=ar e.S q:=by grind[ar]
  have:=b.lo;have hu:ar e.up.S q=ar e.S q:=rfl;omega
 ·show a<=_;have:=b.bg;have hu:e.up.S=e.S:=rfl;grind
 ·show y.2.2.2.2.2.2.2.1.length<=_;omega
theorem abw{R:bj}{e:cn}{q:H}{F:ai}{ah:Bool}{nm:H}{n:Nat}(bc:e.ne=30- (n:Int))(av:n<=30):Bm R nm (e.up.st q F ah)=Fc R (e.st q F ah):=by
 unfold Bm;rw[qc (by show(0:Int)≠1;decide),aP rfl];have h0:(e.up.st q F ah).2.2.2.2.1=0:=rfl;rw[h0];simp only[bA,aL];have:ta (e.up.st q F ah)=e.st q F ah:=by
  show(e.S,ar e.S q,W (e.ne+1-1),F,(0:Int),(0:Int),([]:H),([]:bw),ah)=_;have M:e.ne+1-1=e.ne:=by omega
  rw[M,dJ (by omega) (by omega)];rfl
 grind[Dw]
section
variable{R:bj}{n:Nat}(g6:∀m,n=m+1->k7 R m/\o5 R m)(hD:k7 R n)(av:n<=30){e:cn}(bc:e.ne=30- (n:Int))
include g6 hD av bc
theorem abx{r:H}{F:ai}{st:aa}(h:cG e r F)(aN:gC e r F st)(Y:bn r=some r)(ay:gz (an r)=true):bR true e r (N ((aS true n).cp (an r)) (λ_=>g0 (a9 true n)) r F) (λst=>st) (λ_ _ _=>True) (AN R st):=by
 obtain⟨ah,rfl,hC⟩:=aN;rw[aoL];unfold AK;have dH:=h.nl.iD h.sfx;cases n with
 |zero=>
  have D:decide (30<=(e.st r F ah).2.2.1)=true:=by show decide (30<=e.ne)=true;grind
  rw[D];have az:(aS true 0).cp (an r) r F= .deep r:=rfl;rw[kd az];obtain⟨st,j,c⟩:=qe (ah:=ah) ((e.st r F ah).2.1) h fS;simp only[aL,s_];rw[j,aP rfl,aP rfl];exact⟨_,rfl,by cases j;exact c⟩
 |succ m=>
  obtain⟨Nv,S⟩:=g6 m rfl;have D:decide (30<=(e.st r F ah).2.2.1)=false:=by show decide (30<=e.ne)=false;grind
  rw[D];simp only[aU,oL,hE];have xW:W ((e.st r F ah).2.2.1+1)=e.ne+1:=dJ (by show-_<=e.ne+1;omega) (by grind);rw[xW];have Jq:((e.st r F ah).1,(e.st r F ah).2.1,e.ne+1,(e.st r F ah).2.2.2.1,(e.st r F ah).2.2.2.2.1,(e.st r F ah).2.2.2.2.2.1,(e.st r F ah).2.2.2.2.2.2.1,(e.st r F ah).2.2.2.2.2.2.2.1,(e.st r F ah).2.2.2.2.2.2.2.2)=e.up.st r F ah:=rfl;rw[Jq];unfold abt;rw[su h.xV,aP rfl];have T:e.up.ne=30- (m:Int):=by show e.ne+1=_;omega
  have zv:(aS true (m+1)).cp (an r)=(gA (aS true m) (an r)).named (lJ (an r)):=rfl;rw[zv];by_cases B:bu r=[40]
  ·have U:an r= .op [40]:=(mK (by simp)).2 B;simp only[B,bA,aL];rw[U];obtain⟨q,rfl⟩:=(h4 U).2.1;have f:q<:+[40]++q:=fR _ q;have ax:q.length<([40]++q).length:=by simp
   have E:=h.ui (by simp) (by decide);have k:=(h.mono f).xV;have G:setAt (e.up.st ([40]++q) F ah) (W ((e.up.st ([40]++q) F ah).2.1+1))=e.up.st q F ah:=te h.xV 1 rfl;rw[G];obtain⟨b,j,c⟩:=S.im e.up .paren false rfl T q F (e.up.st q F ah) k ⟨ah,rfl,λi=>absurd i E⟩;have wO:R.oo (e.up.st q F ah) [41] [] true=some b:=j;rw[wO,aP rfl];have p:=aJ.low ((ue true m).ls .paren false) k;have I:∀x,((gA (aS true m) (.op [40])).named x) ([40]++q) F=((N (((aS true m).ls .paren false).aI [41]) (λ_=>ji [41])).named x) q F:=λx=>rfl
   have J:∀(x:H),(N ((gA (aS true m) (.op [40])).named x) (λ_=>g0 (a9 true (m+1)))) ([40]++q) F=N ((N (((aS true m).ls .paren false).aI [41]) (λ_=>ji [41])).named x) (λ_=>g0 (a9 true (m+1))) q F:=λx=>rfl
   rw[J];have s:e.up.S=e.S:=rfl;cases aw:(aS true m).ls .paren false q F with
   |ok a ae l=>
    rw[aw] at c;obtain⟨K,aj,⟨o,a3,V⟩,fj⟩:=c;dsimp only at a3;have ng:=aw;obtain⟨da,eR⟩:=A7 true m;rw[eR] at aw;obtain⟨hI,j1⟩:=zo (by simp) aw;have L:an ae= .op [41]:=by grind[ec]
    obtain⟨v,rfl⟩:=(h4 L).2.1;have d:(N (((aS true m).ls .paren false).aI [41]) (λ_=>ji [41])).named (lJ (.op [40])) q F= .ok () v l:=by grind[ad.named,aT,qf,A1]
    rw[aT d];have n5:gZ b.2 [] [41]=some b.2:=qc (by rw[a3];show(0:Int)≠1;decide);rw[n5,aP rfl,a3];have X:v<:+[41]++v:=fR [41] v;have M:setAt (e.up.st ([41]++v) l o) (W ((e.up.st ([41]++v) l o).2.1+1))=e.up.st v l o:=te aj 1 rfl;rw[M,abw bc av];have s9:=aj.ui (by simp) (by decide);exact(aa8 hD bc (aj.ug.mono X) ⟨o,rfl,λi=>absurd i s9⟩).mono (X.trans (K.trans f))
   |more op nd ds=>
    rw[aw] at c;have hb:=p _ _ _ aw;rw[s] at hb;have d:(N (((aS true m).ls .paren false).aI [41]) (λ_=>ji [41])).named (lJ (.op [40])) q F= .more ([40]::op) (cV nd ds [41]).1 (cV nd ds [41]).2:=by unfold ad.named;rw[dm (td aw)];rfl
    rw[dm d];obtain⟨Z,af,O⟩:=xS (e:=e.up) (nm:=[]) (x:=[41]) (ae:=q) (r0:=q) c.z fS k.sfx (.inl rfl) (by grind) k.b3 (by simp);rw[af,aP rfl];have abn:=Ba [41] nd ds;have t:=O.2.2.2.1.bg;have ko:=O.2.2.2.1.lo;have y:=f.length_le;have hle:=h.sfx.length_le;have lu:0<=ar e.up.S q:=by grind[ar]
    have nR:=h.b3;rw[s] at t;have z:W (Z.2.1+1)=Z.2.1+1:=dJ (by omega) (by omega);rw[z];exact abv O f ax h.sfx h.b3 (by grind) (by simp) _ ⟨by omega,by omega⟩
   |bad u=>
    rw[aw] at c;have d:(N (((aS true m).ls .paren false).aI [41]) (λ_=>ji [41])).named (lJ (.op [40])) q F= .bad u:=by grind[ad.named,hp,vu]
    rw[hp d,sv c,aP rfl];have g:jk e.up q b.2:=c;have t:=g.2.bg;have ko:=g.2.lo;have hle:=h.sfx.length_le;have y:=f.length_le;have lu:0<=ar e.up.S q:=by grind[ar]
    have nR:=h.b3;rw[s] at t;have z:W (b.2.2.1+1)=b.2.2.1+1:=dJ (by omega) (by omega);rw[z];exact NT g f ax _ ⟨by omega,by omega⟩
   |deep u=>
    rw[aw] at c;have d:(N (((aS true m).ls .paren false).aI [41]) (λ_=>ji [41])).named (lJ (.op [40])) q F= .deep u:=by grind[ad.named,kd,vv]
    rw[kd d,sv c,aP rfl];have g:jk e.up q b.2:=c;have t:=g.2.bg;have ko:=g.2.lo;have hle:=h.sfx.length_le;have y:=f.length_le;have lu:0<=ar e.up.S q:=by grind[ar]
    have nR:=h.b3;rw[s] at t;have z:W (b.2.2.1+1)=b.2.2.1+1:=dJ (by omega) (by omega);rw[z];exact NT g f ax _ ⟨by omega,by omega⟩
  ·have at0:an r≠ .op [40]:=λi=>B ((mK (by simp)).1 i);simp only[B,bH,aU];rw[wM h.xV,aP rfl]
   obtain⟨w,A,P⟩:∃w,an r= .word w true/\oB w=true:=by unfold gz at ay;grind
   have C:w≠[]/\w.all gO=true:=by
    have hr:w=jW\/w=tT\/w=Fk\/w=mz\/w=oA\/w=[123]:=by grind[oB]
    rcases hr with rfl|rfl|rfl|rfl|rfl|rfl<;>decide
   have az:=(sr dH C.1 C.2).2 A;rw[az,A];have iG:=(qS A).1;have lZ:=(qS A).2;obtain⟨q,rfl⟩:=iG;have f:q<:+w++q:=fR _ q;have ax:q.length<(w++q).length:=by grind[List.length_pos_iff]
   have E:=h.ui C.1 lZ;have k:=(h.mono f).xV;have G:setAt (e.up.st (w++q) F ah) (W ((e.up.st (w++q) F ah).2.1+(w.length:Int)))=e.up.st q F ah:=te h.xV w.length rfl;rw[G];obtain⟨b,j,c⟩:=aoK S Nv T k (st:=e.up.st q F ah) ⟨ah,rfl,λi=>absurd i E⟩ P;rw[j,aP rfl];have I:(gA (aS true m) (.word w true)) (w++q) F=zI (aS true m) w q F:=by show N (b5 w.length) (λ_=>zI (aS true m) w) (w++q) F=_;rw[aT (show b5 w.length (w++q) F= .ok () q F from by simp[b5])]
   have p:=ek.kind (ue true m) (r:=w++q) (F:=F) (by omega);rw[A,I] at p;have s:e.up.S=e.S:=rfl;have wD:=h.kb;have Q:setAt b b.2.1=b:=rfl;cases aw:zI (aS true m) w q F with
   |ok a ae l=>
    rw[aw] at c;obtain⟨K,aj,⟨o,a3,V⟩,fj⟩:=c;have d:((gA (aS true m) (.word w true)).named (lJ (.word w true))) (w++q) F= .ok () ae l:=by grind[ad.named]
    rw[aT d];dsimp only at a3;rw[a3,abw bc av];exact(aa8 hD bc aj.ug ⟨o,rfl,V⟩).mono (K.trans f)
   |more op nd ds=>
    rw[aw] at c p;simp only[ek] at p;have d:((gA (aS true m) (.word w true)).named (lJ (.word w true))) (w++q) F= .more (w::op) nd ds:=by unfold ad.named;rw[I,aw];rfl
    rw[dm d];have g:ja false e.up q nd ds b:=c;have:=abv (R:=R) (nm:=w) g.z f ax h.sfx h.b3 (by omega) C.1 b.2.1 ⟨by omega,by omega⟩;rw[Q] at this;exact this
   |bad u=>
    rw[aw] at c;have d:((gA (aS true m) (.word w true)).named (lJ (.word w true))) (w++q) F= .bad u:=by grind[ad.named]
    rw[hp d];have g:jk e.up q b:=c;have:=NT (R:=R) (nm:=w) g f ax b.2.1 ⟨by omega,by omega⟩;rw[Q] at this;exact this
   |deep u=>
    rw[aw] at c;have d:((gA (aS true m) (.word w true)).named (lJ (.word w true))) (w++q) F= .deep u:=by grind[ad.named]
    rw[kd d];have g:jk e.up q b:=c;have:=NT (R:=R) (nm:=w) g f ax b.2.1 ⟨by omega,by omega⟩;rw[Q] at this;exact this
end
noncomputable def rX:aa->Option aa:=λx=>
 (au (gZ x ([102,40,41]:H) ([])) λ(a:aa)=>some (ta a))
theorem aoQ{e:cn}{q r:H}{nd:H}{ds:ai}{y:aa}(hm:oK e.up q nd ds y)(i:q<:+r)(ax:q.length<r.length)(Z:r<:+e.S)(j:e.S.length<=1000000)(k:nd.length+eC ds<=100*e.S.length+1000):∃b,rX y=some b/\ja true e r nd ds b:=by
 obtain⟨M,U,f,a,c⟩:=hm;have d:=Z.length_le;have l:=a.op;have hu:e.up.S=e.S:=rfl;have g:ar e.up.S q=ar e.S q:=rfl;unfold rX;rw[abu (st:=y) M (by simp) (by omega) (by grind),aP rfl];have m:ar e.S r<=ar e.S q:=by grind[ar]
 have ko:=a.lo;have h:=a.bg;rw[hu] at h c;refine⟨_,rfl,.inl ⟨M,U,f,⟨a.s,?_,?_,a.nd,?_⟩,c⟩⟩
 ·show ar e.S r<=y.2.1;omega
 ·show y.2.1<=_;omega
 ·show([[102,40,41]]++y.2.2.2.2.2.2.2.1).length<=_;grind
theorem abz{e:cn}{q r:H}{y:aa}(hm:jk e.up q y)(b:q<:+r):∃a,rX y=some a/\jk e r a:=by unfold rX;rw[sv hm,aP rfl];exact⟨_,rfl,(jk.mono (e:=e) ⟨hm.1,hm.2.ug.ta⟩ b)⟩
theorem aoR{e:cn}{q:H}{F:ai}{ah:Bool}{n:Nat}(bc:e.ne=30- (n:Int))(av:n<=30):ta (e.up.st q F ah)=e.st q F ah:=by
 show(e.S,ar e.S q,W (e.ne+1-1),F,(0:Int),(0:Int),([]:H),([]:bw),ah)=_;have M:e.ne+1-1=e.ne:=by omega
 rw[M,dJ (by omega) (by omega)];rfl
theorem abA{e:cn}{q:H}{F:ai}{ah:Bool}{n:Nat}(bc:e.ne=30- (n:Int))(av:n<=30):rX (e.up.st q F ah)=some (e.st q F ah):=by unfold rX;rw[qc (by show(0:Int)≠1;decide),aP rfl,aoR bc av]
theorem aoS{e:cn}{F:ai}{n:Nat}(bc:e.ne=30- (n:Int))(av:n<=30):rX (e.up.tt F)=some (e.tt F):=by grind[xQ,abA]
noncomputable def Ux(R:bj):aa->Option aa:=λa=>
 (au (gY a) λ(d:Bool)=>(bif d then(au (hQ a ([123,32,120,10,125]:H)) λ(e:aa)=>rX e) else(au (iq a) λ(c:H)=>(cY ((decide (c=([40]:H)))=false) (mx a) [] λ(f:H)=>(cY ((decide (c=([40]:H)))=false) (AE f) false λ(g:Bool)=>(bif(bif(decide (c=([40]:H))) then true else g) then(au (AN R a) λ(h:aa)=>rX h) else(au (h9 a a.2.1) λ(b:aa)=>rX (b.1,b.2.1,b.2.2.1,a.2.2.2.1,b.2.2.2.2.1,b.2.2.2.2.2.1,b.2.2.2.2.2.2.1,a.2.2.2.2.2.2.2.1,b.2.2.2.2.2.2.2.2))))))))
noncomputable def Uy(R:bj):aa->Option aa:=λx=>
 (au (gY x) λ(c:Bool)=>(bif c then(au (hQ x ([41,32,123,32,120,10,125]:H)) λ(d:aa)=>rX d) else(au (iq x) λ(e:H)=>(bif(!(decide (e=([41]:H)))) then(au (h9 x x.2.1) λ(a:aa)=>rX (a.1,a.2.1,a.2.2.1,x.2.2.2.1,a.2.2.2.2.1,a.2.2.2.2.2.1,a.2.2.2.2.2.2.1,x.2.2.2.2.2.2.2.1,a.2.2.2.2.2.2.2.2)) else(au (ps (setAt x (W (x.2.1+1)))) λ(b:aa)=>(bif(!(decide (b.2.2.2.2.1=0))) then(au (gZ b ([]) ([123,32,120,10,125]:H)) λ(f:aa)=>rX f) else Ux R b))))))
theorem aoT(R:bj)(I:aa):Is R I=(bif(decide (28<I.2.2.1)) then
 (au (h9 I I.2.1) λ(a:aa)=>
 some (a.1,a.2.1,a.2.2.1,I.2.2.2.1,a.2.2.2.2.1,a.2.2.2.2.2.1,a.2.2.2.2.2.2.1,I.2.2.2.2.2.2.2.1,a.2.2.2.2.2.2.2.2))
 else
 (au (hP (I.1,(W (I.2.1+1)),(W (I.2.2.1+1)),I.2.2.2.1,I.2.2.2.2.1,I.2.2.2.2.2.1,I.2.2.2.2.2.2.1,I.2.2.2.2.2.2.2.1,I.2.2.2.2.2.2.2.2)) λ(b:aa)=>
 Uy R (b.1,b.2.1,b.2.2.1,I.2.2.2.1,b.2.2.2.2.1,b.2.2.2.2.2.1,b.2.2.2.2.2.2.1,I.2.2.2.2.2.2.2.1,b.2.2.2.2.2.2.2.2))):=rfl
noncomputable def Gk(R:bj):aa->Option aa:=λa=>
 (au (gY a) λ(d:Bool)=>(bif d then hQ a ([123,32,120,10,125]:H) else(au (iq a) λ(c:H)=>(cY ((decide (c=([40]:H)))=false) (mx a) [] λ(e:H)=>(cY ((decide (c=([40]:H)))=false) (AE e) false λ(f:Bool)=>(bif(bif(decide (c=([40]:H))) then true else f) then AN R a else(au (h9 a a.2.1) λ(b:aa)=>some (b.1,b.2.1,b.2.2.1,a.2.2.2.1,b.2.2.2.2.1,b.2.2.2.2.2.1,b.2.2.2.2.2.2.1,a.2.2.2.2.2.2.2.1,b.2.2.2.2.2.2.2.2))))))))
noncomputable def NV(R:bj):aa->Option aa:=λx=>
 (au (gY x) λ(c:Bool)=>(bif c then hQ x ([41,32,123,32,120,10,125]:H) else(au (iq x) λ(d:H)=>(bif(!(decide (d=([41]:H)))) then(au (h9 x x.2.1) λ(a:aa)=>some (a.1,a.2.1,a.2.2.1,x.2.2.2.1,a.2.2.2.2.1,a.2.2.2.2.2.1,a.2.2.2.2.2.2.1,x.2.2.2.2.2.2.2.1,a.2.2.2.2.2.2.2.2)) else(au (ps (setAt x (W (x.2.1+1)))) λ(b:aa)=>(bif(!(decide (b.2.2.2.2.1=0))) then gZ b ([]) ([123,32,120,10,125]:H) else Gk R b))))))
theorem abB{α β:Type}(c:Bool)(a b:Option α)(k:α->Option β):au (bif c then a else b) k=bif c then au a k else au b k:=by grind
theorem aoU(R:bj)(x:aa):Ux R x=au (Gk R x) rX:=by unfold Ux Gk;simp[s_,abB,aaU,oL]
theorem aoV(R:bj)(x:aa):Uy R x=au (NV R x) rX:=by unfold Uy NV;simp[s_,abB,oL,aoU]
theorem aoW{q:Bool}{e:cn}{ae r:H}{X:dD Unit}{y:Option aa}{n:Nat}(bc:e.ne=30- (n:Int))(av:n<=30)(h:bR q e.up ae X (λst=>st) (λ_ _ _=>True) y)(M:ae<:+r)(ax:ae.length<r.length)(Z:r<:+e.S)(f:e.S.length<=1000000):bR true e r X (λst=>st) (λ_ _ _=>True) (au y rX):=by
 obtain⟨b,rfl,h⟩:=h;rw[aP rfl];cases X with
 |ok a r' j=>obtain⟨g,aj,⟨ah,a3,i⟩,_⟩:=h;dsimp only at a3;subst a3;rw[abA bc av];exact⟨_,rfl,g.trans M,aj.ug,⟨ah,rfl,i⟩,trivial⟩
 |more op nd ds=>
  rcases h with h|⟨_,U,d⟩
  ·have c:oK e.up ae nd ds b:=h;exact aoQ c M ax Z f (by have:=c.2.2.2.1.nd;rw[c.2.1,c.2.2.1] at this;exact this)
  ·dsimp only at d;subst U d;rw[aoS bc av];exact⟨_,rfl,.inr ⟨rfl,rfl,rfl⟩⟩
 |bad u=>exact abz h M
 |deep u=>exact abz h M
theorem bR.named{q:Bool}{α β:Type}{e:cn}{r0 r:H}{F:ai}{m:ad α}{x:H}{pr:β->aa}{cv:α->H->β->Prop}{y:Option β}(h:bR q e r0 (m r F) pr cv y):bR q e r0 (m.named x r F) pr cv y:=by unfold ad.named;cases hm:m r F<;>rw[hm] at h<;>exact h
def Gl:H:=[41,32,123,32,120,10,125]
def zJ:H:=[123,32,120,10,125]
def Uz(l:dK):ad Unit:=N (bQ zJ) λt=>if t= .eof then cb zJ else if gz t then N (l.cp t) λ_=>l.rd else bE
def UA(l:dK):ad Unit:=N (bQ Gl) λt=>if t= .eof then cb Gl else if t= .op [41] then N (b5 1) λ_=>N (c5.aI zJ) λ_=>Uz l else bE
section
variable{R:bj}{n:Nat}(g6:∀m,n=m+1->k7 R m/\o5 R m)(hD:k7 R n)(av:n<=30){e:cn}(bc:e.ne=30- (n:Int))
include g6 hD av bc
theorem aoX{r:H}{F:ai}{st:aa}(h:cG e r F)(d:gC e r F st)(Y:bn r=some r):bR true e r (Uz (aS true n) r F) (λst=>st) (λ_ _ _=>True) (Gk R st):=by
 unfold Uz;rw[aT (cu Y)];have i:= @abx R n g6 hD av e bc r F st h d Y;obtain⟨ah,rfl,o⟩:=d;unfold Gk;rw[q4,aP rfl];by_cases Z:r=[]
 ·subst Z;simp only[bA,aL];obtain⟨f,a,b⟩:=vt (ah:=ah) (x:=zJ) h (by decide);rw[show([123,32,120,10,125]:H)=zJ from rfl,a];exact⟨f,rfl,b.s⟩
 ·simp only[Z,bH,aU];have j:an r≠ .eof:=λk=>Z (lX.1 k);rw[aO j,su h,aP rfl,wM h];have l:=h.nl.iD h.sfx;have p:=aaJ l;by_cases g:bu r=[40]
  ·simp only[g,bA,cY,uz,cH,aL];have ay:gz (an r)=true:=by grind
   rw[bh ay];have m:(aS true n).rd=g0 (a9 true n):=by cases n<;>rfl
   grind
  ·simp only[g,bH];rw[gd,aaA,gd];simp only[cU,aU];have c:oB (jD r)=gz (an r):=by grind
   rw[c];by_cases ay:gz (an r)=true
   ·rw[ay,bh rfl];have m:(aS true n).rd=g0 (a9 true n):=by cases n<;>rfl
    grind
   ·rw[aO ay,GI.2 ay];simp only[aU];obtain⟨f,a,b⟩:=qe (ah:=ah) (e.st r F ah).2.1 h fS;rw[a,aP rfl];exact⟨_,rfl,by cases a;exact b⟩
theorem aoZ{u:H}{F:ai}{x:aa}(h:cG e u F)(y:Dq e u F x):bR true e u (UA (aS true n) u F) (λst=>st) (λ_ _ _=>True) (NV R x):=by
 unfold UA NV;rcases y with⟨r,ah,p,rfl,L,i,s,M⟩|⟨p,rfl⟩
 ·rw[aT (cu p),q4,aP rfl];by_cases Z:r=[]
  ·subst Z;simp only[bA,aL];obtain⟨d,f,g⟩:=vt (ah:=ah) (x:=Gl) i (by decide);rw[show([41,32,123,32,120,10,125]:H)=Gl from rfl,f];exact⟨d,rfl,(g.mono s).s⟩
  ·simp only[Z,bH,aU];have z:an r≠ .eof:=λj=>Z (lX.1 j);rw[aO z,su i,aP rfl];by_cases l:bu r=[41]
   ·have m:an r= .op [41]:=(mK (by simp)).2 l;simp only[l,bA,hE,aU];rw[bh m];obtain⟨v,rfl⟩:=(h4 m).2.1;have t:v<:+[41]++v:=fR [41] v;have A:=i.ui (by simp) (by decide);have B:setAt (e.st ([41]++v) F ah) (W ((e.st ([41]++v) F ah).2.1+1))=e.st v F ah:=te i 1 rfl;rw[B,aT (show b5 1 ([41]++v) F= .ok () v F from rfl)];have o:=i.mono t;obtain⟨N,C,b⟩:=F1 o (st:=e.st v F ah) ⟨ah,rfl,λj=>absurd j A⟩;rw[C,aP rfl];have D:=aJ.low (aJ.lines (c:=0)) o;have k:v<:+u:=t.trans s;cases hm:c5 v F with
    |ok a ae O=>rw[hm] at b;obtain⟨E,aj,a3,G,P⟩:=b;rw[aT (qf hm),a3.eta.2.2.2.2.1];simp only[bA,hE,aU];exact(aoX g6 hD av bc aj a3 G).mono (E.trans k)
    |more op nd ds=>
     rw[hm] at b;rw[dm (td hm)];have Q:=D _ _ _ hm;rcases b with b|⟨_,rfl,rfl⟩
     ·rw[b.1];simp only[show¬((1:Int)=0) by decide,bH,fp,aL];obtain⟨d,I,J⟩:=Gg (q:=true) (x:=zJ) o (.inl b) k (by omega) (by decide);rw[show([123,32,120,10,125]:H)=zJ from rfl,I];exact⟨d,rfl,J⟩
     ·have K:(e.tt ds).2.2.2.2.1=0:=rfl;rw[K];simp only[bA,hE,aU];unfold Gk;rw[pB,aP rfl];simp only[aL];obtain⟨d,f,g⟩:=Gj (F:=ds) (x:=zJ) o (by omega) (by decide);rw[show([123,32,120,10,125]:H)=zJ from rfl,f];exact⟨d,rfl,(g.mono k).s⟩
    |bad w=>rw[hm] at b;rw[hp (vu hm),b.1];simp only[show¬((2:Int)=0) by decide,bH,fp,aL];rw[sv b];exact⟨_,rfl,b.mono k⟩
    |deep w=>rw[hm] at b;rw[kd (vv hm),b.1];simp only[show¬((2:Int)=0) by decide,bH,fp,aL];rw[sv b];exact⟨_,rfl,b.mono k⟩
   ·have m:an r≠ .op [41]:=λj=>l ((mK (by simp)).1 j);simp only[l,bH,fp,aL];rw[aO m];obtain⟨d,f,g⟩:=qe (ah:=ah) (e.st r F ah).2.1 i s;rw[f,aP rfl];exact⟨_,rfl,by cases f;exact g⟩
 ·rw[dm (op:=[]) (by rw[iN p];rfl),pB,aP rfl];simp only[aL];obtain⟨d,f,g⟩:=Dm (x:=Gl) h.Bc (by decide);rw[show([41,32,123,32,120,10,125]:H)=Gl from rfl,f];exact⟨d,rfl,(g.mono n_).s⟩
omit g6 hD in
theorem ao0(a:n<2)(r:H)(F:ai):kH true (jY true n) r F= .deep r:=by
 match n,a with
 |0,_=>rfl
 |1,_=>rfl
end
section
variable{R:bj}{n:Nat}(g6:∀k m,n=m+1+k->k7 R m/\o5 R m)(av:n<=30){e:cn}(bc:e.ne=30- (n:Int))
include g6 av bc
theorem ao1{u:H}{F:ai}{ah:Bool}(h:cG e (40::u) F):bR true e (40::u) (kH true (jY true n) (40::u) F) (λst=>st) (λ_ _ _=>True) (Is R (e.st (40::u) F ah)):=by
 rw[aoT];by_cases i:n<2
 ·have b:decide (28<(e.st (40::u) F ah).2.2.1)=true:=by show decide (28<e.ne)=true;grind
  rw[b,ao0 av bc i];simp only[aL];obtain⟨y,c,j⟩:=qe (ah:=ah) (e.st (40::u) F ah).2.1 h fS;rw[c,aP rfl];exact⟨_,rfl,by cases c;exact j⟩
 ·have b:decide (28<(e.st (40::u) F ah).2.2.1)=false:=by show decide (28<e.ne)=false;grind
  rw[b];simp only[aU]
  obtain⟨m,rfl⟩:∃m,n=m+2:=⟨n-2,by omega⟩
  have l:W ((e.st (40::u) F ah).2.2.1+1)=e.ne+1:=dJ (by show-_<=e.ne+1;omega) (by grind);rw[l];have d:u<:+40::u:=dN _ u;have o:u≠[]:=h.zx (by decide);have f:=(h.mono d).xV;obtain⟨a,p,g⟩:=x3 f (st:=e.up.st u F ah) ⟨ah,rfl,λr=>absurd r o⟩;have s:hP ((e.st (40::u) F ah).1,W ((e.st (40::u) F ah).2.1+1),e.ne+1,(e.st (40::u) F ah).2.2.2.1,(e.st (40::u) F ah).2.2.2.2.1,(e.st (40::u) F ah).2.2.2.2.2.1,(e.st (40::u) F ah).2.2.2.2.2.2.1,(e.st (40::u) F ah).2.2.2.2.2.2.2.1,(e.st (40::u) F ah).2.2.2.2.2.2.2.2)=some a:=by rw[<-p];exact mL hP (te (w:=[40]) (q:=u) h.xV 1 rfl)
  rw[s,aP rfl];have t:(a.1,a.2.1,a.2.2.1,(e.st (40::u) F ah).2.2.2.1,a.2.2.2.2.1,a.2.2.2.2.2.1,a.2.2.2.2.2.2.1,(e.st (40::u) F ah).2.2.2.2.2.2.2.1,a.2.2.2.2.2.2.2.2)=a:=by rcases g with⟨z,A, -,rfl, -⟩|⟨-,rfl⟩<;>rfl
  rw[t,aoV];have v:kH true (jY true (m+2)) (40::u) F=((UA (aS true (m+1))).named [102,40,41]) u F:=rfl;rw[v]
  have x:∀k,m+1=k+1->k7 R k/\o5 R k:=λk aw=>g6 1 k (by omega)
  have:=aoZ x (g6 0 (m+1) (by omega)).1 (by omega) (e:=e.up) (by show e.ne+1=_;omega) f g;exact(aoW bc av this d (by simp) h.sfx h.b3).named
end
def wQ{X:Type}(D:ad Unit)(a:ad X)(B:H->Bool->ad X)(E:ad X):ad X:=N (dI D) λb=>if b then a else N (bQ []) λt=>match t with
 | .word w p=>N (cO D) λ_=>B w p
 | .op o=>if o=[40] then bE else E
 |_=>E
noncomputable def Gm(R:bj)(k:(Int×Int×Bool×aa)->Option aa)(a b:Int)(f:Bool):aa->Option aa:=λx=>
 (au (gY x) λ(e:Bool)=>(cY (e=false) (je x) (0:UInt8) λ(h:UInt8)=>(bif(bif e then true else(decide ((h.toNat:Int)=(10:Int)))) then some x else(au (iq x) λ(d:H)=>(bif(decide (d=([40]:H))) then(bif(bif(bif(decide (a=1)) then(decide (b=0)) else false) then f else false) then(au (Is R x) λ(i:aa)=>some i) else(au (h9 x x.2.1) λ(c:aa)=>some (c.1,c.2.1,c.2.2.1,x.2.2.2.1,c.2.2.2.2.1,c.2.2.2.2.2.1,c.2.2.2.2.2.2.1,x.2.2.2.2.2.2.2.1,c.2.2.2.2.2.2.2.2))) else(au (xy d) λ(g:Bool)=>(cY (g=false) (CC x) false λ(j:Bool)=>(bif(bif g then true else j) then(au (Fa R x) λ(l:aa)=>k (a,(W (b+1)),f,l)) else(bif(!(decide (d=[]))) then some x else(au (rD R x) λ(z:H×Bool×aa)=>(cY (z.2.1=true) (CG z.1) false λ(m:Bool)=>k ((W (a+1)),b,(bif z.2.1 then m else false),z.2.2))))))))))))
theorem abC(R:bj)(j:aa->Option aa)(k:(Int×Int×Bool×aa)->Option aa)(a b:Int)(f:Bool)(x:aa):Mq R j k (a,b,f,x)=(bif(decide (x.2.2.2.2.1=0)) then
 (au (hP x) λ(c:aa)=>Gm R k a b f (c.1,c.2.1,c.2.2.1,x.2.2.2.1,c.2.2.2.2.1,c.2.2.2.2.2.1,c.2.2.2.2.2.2.1,x.2.2.2.2.2.2.2.1,c.2.2.2.2.2.2.2.2)) else j x):=rfl
section
variable{R:bj}{n:Nat}(hD:k7 R n){e:cn}(bc:e.ne=30- (n:Int))
include hD bc
theorem UD{X:Type}{C:dD X->dD Unit}(y:db C){z:ad X}{B:H->Bool->ad X}{E:ad X}(vg:∀r F,C (E r F)= .ok () r F)
  {k:(Int×Int×Bool×aa)->Option aa} {a b:Int} {f:Bool} {r:H} {F:ai} {x:aa} (h:cG e r F) (ak:Dq e r F x)
  (A:∀a b f (x:aa),x.2.2.2.2.1≠0->k (a,b,f,x)=some x)
  (hA:∀r' D L,r'<:+r->cG e r' D->r'.length<r.length->gC e r' D L->bR true e r (C (z r' D)) (λst=>st) (λ_ _ _=>True) (k (a,W (b+1),f,L)))
  (c7:∀j w p r' D L,bn r=some j->an j= .word w p->r'<:+r->cG e r' D->r'.length<r.length->gC e r' D L->bR true e r (C (B w p r' D)) (λst=>st) (λ_ _ _=>True) (k (W (a+1),b,p&&my w,L)))
  (bt:∀j,bn r=some j->bu j=[40]->(bif(bif(decide (a=1)) then(decide (b=0)) else false) then f else false)=false):
  bR true e r (C (wQ (a9 true n) z B E r F)) (λst=>st) (λ_ _ _=>True) (Gm R k a b f x):=by
 unfold wQ Gm;rcases ak with⟨j,ah,M,rfl,hC,d,l,O⟩|⟨M,rfl⟩
 ·rw[q4,aP rfl,F9 d];by_cases Z:j=[]
  ·subst Z;simp only[bA,aL,cY,uz,cH];rw[aT (s7 M (by decide))];simp only[fo,cH];rw[aT (cu O)];show bR true e r (C (E [] F)) _ _ _;rw[vg];exact⟨_,rfl,l,d,⟨ah,rfl,hC⟩,trivial⟩
  ·rw[eu Z,gd];simp only[cU,aU];have qb:an j≠ .eof:=λhh=>Z (lX.1 hh);cases j with
   |nil=>grind
   |cons c t=>
    simp only[zT,p_];have U:=Ns (c::t);have V:fg (bu ((c::t).dropWhile cf))=false->N (dI (a9 true n)) (λb=>if b then z else N (bQ []) λt=>match t with
      | .word w p=>N (cO (a9 true n)) λ_=>B w p
      | .op o=>if o=[40] then bE else E
      |_=>E) r F=(match an (c::t) with
      | .word w p=>N (cO (a9 true n)) λ_=>B w p
      | .op o=>if o=[40] then bE else E
      |_=>E) (c::t) F:=by
     intro hh;rw[aT (s7 M hh)];simp only[fo,cH];rw[aT (cu O)]
    have fO:iq (e.st (c::t) F ah)=some (bu (c::t)):=su d;rcases Ju (b:=c) (t:=t) with⟨P,Q⟩|⟨P,Q,S⟩|⟨P,Q,S⟩
    ·subst P;have aD:fg (bu ((10::t).dropWhile cf))=false:=by rfl
     rw[V aD,Q];simp only[bA,aL];rw[vg];exact⟨_,rfl,l,d,⟨ah,rfl,hC⟩,trivial⟩
    ·simp only[P,bH,aU];rw[fO,aP rfl];by_cases J:bu (c::t)=[40]
     ·have aD:fg (bu ((c::t).dropWhile cf))=false:=by
       have ay:c=40:=by
        have g7:an (c::t)= .op [40]:=by grind
        obtain⟨v,aB⟩:=(h4 g7).2.1;grind
       subst ay;rfl
      rw[V aD,S,J,bt (c::t) M J];simp only[bA,aL,aU,cU];show bR true e r (C (.bad (c::t))) _ _ _;rw[y.bad];obtain⟨aK,aW,ba⟩:=qe (ah:=ah) (e.st (c::t) F ah).2.1 d l;rw[aW,aP rfl];exact⟨_,rfl,by cases aW;exact ba⟩
     ·simp only[J,bH,aU];rw[FY,aP rfl,TT d,gd];cases m:fg (bu ((c::t).dropWhile cf)) with
      |true=>
       rw[m] at U;have G:(bif fg (bu (c::t)) then true else if fg (bu (c::t))=false then(decide ((c::t).dropWhile cf≠c::t)&&true) else false)=true:=by grind
       rw[G];simp only[aL];have Nk:dI (a9 true n) r F=dI (a9 true n) (c::t) F:=by simp_all[dI,N,fX]
       have c_:N (dI (a9 true n)) (λb=>if b then z else N (bQ []) λt=>match t with
         | .word w p=>N (cO (a9 true n)) λ_=>B w p
         | .op o=>if o=[40] then bE else E
         |_=>E) r F=N (dI (a9 true n)) (λb=>if b then z else N (bQ []) λt=>match t with
         | .word w p=>N (cO (a9 true n)) λ_=>B w p
         | .op o=>if o=[40] then bE else E
         |_=>E) (c::t) F:=by
        grind[N]
       rw[c_];refine bR.iZ y ((T5 hD bc (ah:=ah) d O m).mono l) (λvG ae aG s Jm s1 v1 hi rS=>?_) (λop nd ds s _ T=>?_) (λs g=>?_)
       ·subst rS;rw[bh rfl];grind[s0,mI]
       ·exact⟨s,A _ _ _ _ (by rw[T.z.1];decide),T.up⟩
       ·exact⟨s,A _ _ _ _ (by rw[g.1];decide),g⟩
      |false=>
       rw[m] at U;have G:(bif fg (bu (c::t)) then true else if fg (bu (c::t))=false then(decide ((c::t).dropWhile cf≠c::t)&&false) else false)=false:=by grind
       rw[G,V m,S];simp only[Q,J,aU,bH,fp,aL,cH];rw[vg];exact⟨_,rfl,l,d,⟨ah,rfl,hC⟩,trivial⟩
    ·simp only[P,bH,aU];rw[fO,aP rfl];have J:¬bu (c::t)=[40]:=by grind
     simp only[J,bH,aU];rw[FY,aP rfl,TT d,gd];cases m:fg (bu ((c::t).dropWhile cf)) with
     |true=>
      rw[m] at U;have G:(bif fg (bu (c::t)) then true else if fg (bu (c::t))=false then(decide ((c::t).dropWhile cf≠c::t)&&true) else false)=true:=by grind
      rw[G];simp only[aL];have Nk:dI (a9 true n) r F=dI (a9 true n) (c::t) F:=by simp_all[dI,N,fX]
      have c_:N (dI (a9 true n)) (λb=>if b then z else N (bQ []) λt=>match t with
        | .word w p=>N (cO (a9 true n)) λ_=>B w p
        | .op o=>if o=[40] then bE else E
        |_=>E) r F=N (dI (a9 true n)) (λb=>if b then z else N (bQ []) λt=>match t with
        | .word w p=>N (cO (a9 true n)) λ_=>B w p
        | .op o=>if o=[40] then bE else E
        |_=>E) (c::t) F:=by
       grind[N]
      rw[c_];refine bR.iZ y ((T5 hD bc (ah:=ah) d O m).mono l) (λvG ae aG s Jm s1 v1 hi rS=>?_) (λop nd ds s _ T=>?_) (λs g=>?_)
      ·subst rS;rw[bh rfl];grind[s0,mI]
      ·exact⟨s,A _ _ _ _ (by rw[T.z.1];decide),T.up⟩
      ·exact⟨s,A _ _ _ _ (by rw[g.1];decide),g⟩
     |false=>
      rw[m] at U;have G:(bif fg (bu (c::t)) then true else if fg (bu (c::t))=false then(decide ((c::t).dropWhile cf≠c::t)&&false) else false)=false:=by grind
      rw[G,V m,S];simp only[Q,aU,bA,hE];have hr:c4 (c::t)=false:=(zt O S).2;obtain⟨⟨g,fN,I⟩,hb,u⟩:=F6 hD bc (tr0:=ah) d;have Bi:I.1=e.S->g.length<=1000000:=λY=>kN (T3 d Y hb).1 h.b3;rw[hb,aP rfl];dsimp only at u⊢;cases hm:cO (a9 true n) (c::t) F with
      |ok ao2 ae aG=>rw[hm] at u;obtain⟨cB,aj,a3, -,bP,fj⟩:=u;rw[aT hm];have K:=(zr g (Bi a3.eta.1)).2;grind[wu,mI,gd]
      |more op nd ds=>rw[hm] at u;have i:ja false e (c::t) nd ds I:=u;have K:=(zr g (Bi i.z.2.2.2.1.s)).2;rw[dm hm,y.more,K,gd,A _ _ _ _ (by rw[i.z.1];decide)];exact⟨I,rfl,(i.mono l).up⟩
      |bad q=>rw[hm] at u;have i:jk e (c::t) I:=u;have K:=(zr g (Bi i.2.s)).2;rw[hp hm,y.bad,K,gd,A _ _ _ _ (by rw[i.1];decide)];exact⟨I,rfl,i.mono l⟩
      |deep q=>rw[hm] at u;have i:jk e (c::t) I:=u;have K:=(zr g (Bi i.2.s)).2;rw[kd hm,y.deep,K,gd,A _ _ _ _ (by rw[i.1];decide)];exact⟨I,rfl,i.mono l⟩
 ·have Fu:dI (a9 true n) r F= .more [] [] F:=by
   unfold dI;have:fX r F= .more [] [] F:=by unfold fX;rw[M];rfl
   grind[dm]
  rw[dm Fu,y.more,pB,aP rfl];simp only[cY,uz,cH,aL];exact⟨_,rfl,.inr ⟨rfl,rfl,rfl⟩⟩
end
def zL(D:ad Unit):Unit->ad (Unit⊕Unit):=λ_=>wQ D (aZ (.inl ())) (λ_ _=>aZ (.inl ())) (aZ (.inr ()))
theorem JG(D:ad Unit):ho true D=ck (zL D) ():=by unfold ho zL wQ;grind
structure Gn(a b:Int)(f:Bool)(r:H):Prop where
 g:1<=b\/2<=a\/(a=1/\f=false)
 a0:0<=a
 abD:0<=b
 ao3:a+r.length<=1000001
 ao4:b+r.length<=1000001
theorem Gn.no{a b:Int}{f:Bool}{r:H}(h:Gn a b f r):(bif(bif(decide (a=1)) then(decide (b=0)) else false) then f else false)=false:=by obtain⟨g,a0,abD,_,_⟩:=h;grind
theorem Gp{a:Int}(h0:0<=a)(h:a<=1000001):W (a+1)=a+1:=dJ (by omega) (by omega)
noncomputable abbrev vw(R:bj):((Int×Int×Bool×aa)->Option aa)->(Int×Int×Bool×aa)->Option aa:=Mq R (λx=>some x)
section
variable{R:bj}{n:Nat}(hD:k7 R n){e:cn}(bc:e.ne=30- (n:Int))
theorem Gq{r:H}{F:ai}{x y:aa}(a:Dq e r F y)(b:gC e r F x):(y.1,y.2.1,y.2.2.1,x.2.2.2.1,y.2.2.2.2.1,y.2.2.2.2.2.1,y.2.2.2.2.2.2.1,x.2.2.2.2.2.2.2.1,y.2.2.2.2.2.2.2.2)=y:=by obtain⟨ah,rfl,_⟩:=b;rcases a with⟨c,d, -,rfl, -⟩|⟨-,rfl⟩<;>rfl
theorem UE{k:(Int×Int×Bool×aa)->Option aa}{a b:Int}{f:Bool}{r:H}{F:ai}{x:aa}(h:cG e r F)(c:gC e r F x):∃y,Dq e r F y/\vw R k (a,b,f,x)=Gm R k a b f y:=by obtain⟨y,M,U⟩:=x3 h c;refine⟨y,U,?_⟩;show Mq R (λx=>some x) k (a,b,f,x)=_;rw[abC,c.eta.2.2.2.2.1];simp only[bA,aL];rw[M,aP rfl,Gq U c]
theorem abE{k:(Int×Int×Bool×aa)->Option aa}{a b:Int}{f:Bool}{x:aa}(h:x.2.2.2.2.1≠0):vw R k (a,b,f,x)=some x:=by simp_all[abC]
include hD bc
theorem abF{bz:Nat}{a b:Int}{f:Bool}{r:H}{F:ai}{x:aa}(u:r.length+1<bz)(h:cG e r F)(c:gC e r F x)(bt:Gn a b f r):bR true e r (ho true (a9 true n) r F) (λst=>st) (λ_ _ _=>True) (fixF (vw R) bz (a,b,f,x)):=by
 rw[JG];refine bR.rep (en:=λ_ r F (y:Int×Int×Bool×aa)=>gC e r F y.2.2.2/\Gn y.1 y.2.1 y.2.2.1 r) (λk s r F y t l v aw=>?_) bz () r F _ u h ⟨c,bt⟩;obtain⟨a,b,f,x⟩:=y;obtain⟨c,bt⟩:=l;dsimp only at c bt
 have z:∀a b f (x:aa),x.2.2.2.2.1≠0->k (a,b,f,x)=some x:=by intro a b f x c;obtain⟨k',M⟩:=v (a,b,f,x);grind[abE]
 obtain⟨y,l,he⟩:=UE (R:=R) (k:=k) (a:=a) (b:=b) (f:=f) t c;rw[he];have E:=bt.ao4;have A:=bt.ao3;have d:=bt.a0;have i:=bt.abD;refine UD hD bc (C:=cX (zL (a9 true n)) r) db.k (λ_ _=>rfl) t l z (λr' m B s1 o j q=>?_) (λD w p r' m B G I s1 o j q=>?_) (λD _ _=>bt.no)
 ·refine bR.inl j (aw () r' m _ s1 o j ⟨q,?_⟩);dsimp only;rw[Gp i (by omega)];exact⟨.inl (by omega),d,by omega,by omega,by omega⟩
 ·refine bR.inl j (aw () r' m _ s1 o j ⟨q,?_⟩);dsimp only;rw[Gp d (by omega)];refine⟨?_,by omega,i,by omega,by omega⟩;rcases bt.g with g|g|g
  ·omega
  ·omega
  omega
end
def Dz(lo:Option dK)(D:ad Unit):ad Unit:=N (bQ []) λt=>if t= .op [40] then N (kH true lo) λ_=>aZ () else ho true D
theorem JH{D:ad Unit}{r:H}{F:ai}(Y:bn r=some r)(d:fg (bu (r.dropWhile cf))=true){b:Bool}{ae:H}{a:ai}(h:dI D r F= .ok b ae a):b=true:=by
 have c:fX r F= .ok (some (bu (r.dropWhile cf))) ((r.dropWhile cf).drop (bu (r.dropWhile cf)).length) F:=by simp_all[fX]
 unfold dI at h;rw[aT c] at h;obtain⟨_,e,f,_,h⟩:=b7 h;cases h;rfl
theorem ao5{D:ad Unit}{r d:H}{F:ai}(Y:bn r=some d)(f:bn d=some d)(ax:d.length<=r.length)(hD:iu D):ho true D r F=ho true D d F:=by
 have n:dI D r F=dI D d F:=by simp_all[dI,N,fX]
 have h:zL D () r F=zL D () d F:=by simp_all[zL,wQ,N]
 rw[JG,cK,cK,h];unfold cX;cases hm:zL D () d F with
 |ok x r' s=>
  cases x with
  |inr a=>rfl
  |inl u=>
   have t:r'.length<d.length:=by
    have bt:=hm;unfold zL wQ at bt;obtain⟨b,i,j,k,c⟩:=b7 bt;cases b with
    |true=>simp only[cU] at c;cases c;exact s0 hD k
    |false=>
     simp only[fo,cH] at c;have g:i=d/\j=F:=by
      cases v:fg (bu (d.dropWhile cf)) with
      |true=>grind[JH]
      |false=>simp_all[s7]
     rw[g.1,g.2,aT (cu f)] at c;cases e:an d with
     |eof=>rw[e] at c;cases c
     |line=>rw[e] at c;cases c
     |op o=>rw[e] at c;simp only at c;split at c<;>cases c
     |word w p=>rw[e] at c;simp only at c;obtain⟨_,y,z,l,m⟩:=b7 c;cases m;exact wu hD (zt f e).1 (zt f e).2 l
   grind
 |more op nd ds=>rfl
 |bad q=>rfl
 |deep q=>rfl
section
variable{R:bj}{n:Nat}(g6:∀k m,n=m+1+k->k7 R m/\o5 R m)(hD:k7 R n)(av:n<=30){e:cn}(bc:e.ne=30- (n:Int))
theorem abI{fq:Nat}(c:0<fq):∀a b f (x:aa),x.2.2.2.2.1≠0->fixF (vw R) fq (a,b,f,x)=some x:=by
 intro a b f x d
 obtain⟨m,rfl⟩:∃m,fq=m+1:=⟨fq-1,by omega⟩
 grind[fm,abE]
include g6 hD av bc
theorem ao6{bz:Nat}{r:H}{F:ai}{x:aa}(W:r.length+1<bz)(h:cG e r F)(G:gC e r F x):bR true e r (Dz (jY true n) (a9 true n) r F) (λst=>st) (λ_ _ _=>True) (fixF (vw R) bz (1,0,true,x)):=by
 obtain⟨fq,rfl⟩:∃m,bz=m+1:=⟨bz-1,by omega⟩
 rw[fm];have D:=abI (R:=R) (fq:=fq) (by omega)
 have l:∀{a b:Int}{f:Bool}{r':H}{c:ai}{i:aa},r'.length<r.length->cG e r' c->gC e r' c i->Gn a b f r'->bR true e r' (ho true (a9 true n) r' c) (λst=>st) (λ_ _ _=>True) (fixF (vw R) fq (a,b,f,i)):=λM U I J=>abF hD bc (by omega) U I J
 generalize fixF (vw R) fq=k at D l;obtain⟨y,K,he⟩:=UE (R:=R) (k:=k) (a:=1) (b:=0) (f:=true) h G;rw[he];have X:=h.b3;have hle:=h.sfx.length_le;rcases K with⟨d,ah,o,rfl,L,g,q,E⟩|⟨o,rfl⟩
 ·unfold Dz;rw[aT (cu o)];by_cases s:bu d=[40]
  ·have j:an d= .op [40]:=(mK (by simp)).2 s;rw[bh j];obtain⟨u,rfl⟩:=(h4 j).2.1;have O:=ao1 g6 av bc (ah:=ah) (u:=u) g;unfold Gm;rw[q4,aP rfl,F9 g,eu (by simp),gd];have P:(decide ((((40:UInt8)).toNat:Int)=(10:Int)))=false:=by decide
   have t:(([40]++u:H)).headD 0=40:=rfl;simp only[cU,aU,t,P];rw[su g,aP rfl,s];simp only[bA,aL];have v:N (kH true (jY true n)) (λ_=>aZ ()) ([40]++u) F=kH true (jY true n) ([40]++u) F:=FM _ _ _;rw[v];exact bR.eh (O.mono q) (Dw _)
  ·have j:an d≠ .op [40]:=λQ=>s ((mK (by simp)).1 Q);rw[aO j,JG,cK];have Y:=q.length_le;refine bR.mono ?_ q;refine UD hD bc (C:=cX (zL (a9 true n)) d) db.k (λ_ _=>rfl) g (.inl ⟨d,ah,E,rfl,L,g,fS,E⟩) D (λr' c i s1 z A B=>?_) (λS w p r' c i T V s1 z A B=>?_) (λS T V=>?_)
   ·refine bR.inl A ?_;rw[<-JG];refine(l (by omega) z B ?_).mono s1;rw[Gp (by omega) (by omega)];exact⟨.inl (by omega),by omega,by omega,by omega,by omega⟩
   ·refine bR.inl A ?_;rw[<-JG];refine(l (by omega) z B ?_).mono s1;rw[Gp (by omega) (by omega)];exact⟨.inr (.inl (by omega)),by omega,by omega,by omega,by omega⟩
   grind
 ·unfold Dz;rw[dm (op:=[]) (nd:=[]) (ds:=F) (by rw[iN o];rfl)];unfold Gm;rw[pB,aP rfl];simp only[cY,uz,cH,aL];exact⟨_,rfl,.inr ⟨rfl,rfl,rfl⟩⟩
end
noncomputable def NX(R:bj):aa->Option aa:=λx=>
 (au (gY x) λ(e:Bool)=>(bif e then(au (hQ x ([120]:H)) λ(f:aa)=>some f) else(au (iq x) λ(b:H)=>(au (mx x) λ(y23:H)=>(cY ((decide (b=([40]:H)))=false) (AE y23) false λ(g:Bool)=>(bif(bif(decide (b=([40]:H))) then true else g) then(au (AN R x) λ(h:aa)=>some h) else(au (je x) λ(c:UInt8)=>(cY ((!(decide (b=[])))=true/\(decide ((c.toNat:Int)=(10:Int)))=false) (xy b) false λ(d:Bool)=>(cY ((bif(decide ((c.toNat:Int)=(10:Int))) then true else(bif(!(decide (b=[]))) then(!d) else false))=false) (H7 y23) false λ(i:Bool)=>(bif(bif(bif(decide ((c.toNat:Int)=(10:Int))) then true else(bif(!(decide (b=[]))) then(!d) else false)) then true else i) then(au (h9 x x.2.1) λ(a:aa)=>some (a.1,a.2.1,a.2.2.1,x.2.2.2.1,a.2.2.2.2.1,a.2.2.2.2.2.1,a.2.2.2.2.2.2.1,x.2.2.2.2.2.2.2.1,a.2.2.2.2.2.2.2.2)) else(au (fixF (vw R) bC (0,0,false,x)) λ(j:aa)=>some j)))))))))))
theorem abJ(R:bj)(I:aa):tR R I=au (hP I) λa=>NX R (a.1,a.2.1,a.2.2.1,I.2.2.2.1,a.2.2.2.2.1,a.2.2.2.2.2.1,a.2.2.2.2.2.2.1,I.2.2.2.2.2.2.2.1,a.2.2.2.2.2.2.2.2):=rfl
theorem UF{R:bj}{e:cn}{r:H}{b F:ai}(h:cG e r b)(c:eC F<=100*e.S.length+800):∃a,tR R (e.tt F)=some a/\oK e r (cV [] F [120]).1 (cV [] F [120]).2 a:=by rw[abJ,Dh,aP rfl];obtain⟨a,f,g⟩:=Gj (F:=F) (x:=[120]) h c (by simp);have d:((e.tt F).1,(e.tt F).2.1,(e.tt F).2.2.1,(e.tt F).2.2.2.1,(e.tt F).2.2.2.2.1,(e.tt F).2.2.2.2.2.1,(e.tt F).2.2.2.2.2.2.1,(e.tt F).2.2.2.2.2.2.2.1,(e.tt F).2.2.2.2.2.2.2.2)=e.tt F:=rfl;rw[d];simp_all[NX,pB,aP]
section
variable{R:bj}{n:Nat}(g6:∀k m,n=m+1+k->k7 R m/\o5 R m)(hD:k7 R n)(av:n<=30){e:cn}(bc:e.ne=30- (n:Int))
include g6 hD av bc
theorem ao9{r:H}{F:ai}{ah:Bool}(h:cG e r F)(u:gC e r F (e.st r F ah))(Y:bn r=some r)(G:bu r≠[40]):bR true e r (wQ (a9 true n) (ho true (a9 true n)) (λw p=>if p&&my w then Dz (jY true n) (a9 true n) else ho true (a9 true n)) (aZ ()) r F) (λst=>st) (λ_ _ _=>True) (fixF (vw R) bC (0,0,false,e.st r F ah)):=by
 have v:r.length+1<bC:=wL h
 obtain⟨fq,o⟩:∃m,bC=m+1:=⟨bC-1,by omega⟩
 rw[o,fm];rw[o] at v;clear o;have t:=abI (R:=R) (fq:=fq) (by omega)
 have q:∀{a b:Int}{f:Bool}{r':H}{c:ai}{d:aa},r'.length<r.length->cG e r' c->gC e r' c d->Gn a b f r'->bR true e r' (ho true (a9 true n) r' c) (λst=>st) (λ_ _ _=>True) (fixF (vw R) fq (a,b,f,d)):=λM U s z=>abF hD bc (by omega) U s z
 have g:∀{r':H}{c:ai}{d:aa},r'.length<r.length->cG e r' c->gC e r' c d->bR true e r' (Dz (jY true n) (a9 true n) r' c) (λst=>st) (λ_ _ _=>True) (fixF (vw R) fq (1,0,true,d)):=λM U s=>ao6 g6 hD av bc (by omega) U s
 generalize fixF (vw R) fq=k at t q g;obtain⟨y,A,he⟩:=UE (R:=R) (k:=k) (a:=0) (b:=0) (f:=false) h u;rw[he];have I:=h.b3;have hle:=h.sfx.length_le;refine UD hD bc (C:=λx=>x) db.id (λ_ _=>rfl) h A t (λr' c d s1 i j l=>?_) (λB w p r' c d D E s1 i j l=>?_) (λB D E=>?_)
 ·refine(q j i l ?_).mono s1;rw[Gp (by omega) (by omega)];exact⟨.inl (by omega),by omega,by omega,by omega,by omega⟩
 ·rw[Gp (by omega) (by omega)];cases az:(p&&my w) with
  |true=>rw[bh rfl];exact(g j i l).mono s1
  |false=>rw[aO (by simp)];exact(q j i l ⟨.inr (.inr ⟨rfl,rfl⟩),by omega,by omega,by omega,by omega⟩).mono s1
 ·rfl
theorem abL{r:H}{F:ai}{st:aa}(h:cG e r F)(J:gC e r F st):bR true e r (fM true (jY true n) (a9 true n) r F) (λst=>st) (λ_ _ _=>True) (tR R st):=by
 rw[abJ];obtain⟨y,Q,K⟩:=x3 h J;rw[Q,aP rfl,Gq K J];rcases K with⟨a,ah,v,rfl,L,d,i,o⟩|⟨v,rfl⟩
 ·unfold fM;rw[aT (cu v)];unfold NX;rw[q4,aP rfl];by_cases Z:a=[]
  ·subst Z;simp only[bA,aL];obtain⟨s,g,j⟩:=vt (ah:=ah) (x:=[120]) d (by decide);rw[g];exact⟨s,rfl,(j.mono i).s⟩
  ·simp only[Z,bH,aU];have S:an a≠ .eof:=λz=>Z (lX.1 z);rw[aO S,su d,aP rfl,wM d,aP rfl,aaA,gd];have M:=h.nl.iD d.sfx;have A2:=aaJ M;have A:(bif decide (bu a=[40]) then true else if decide (bu a=[40])=false then oB (jD a) else false)=gz (an a):=by grind
   rw[A];cases ay:gz (an a) with
   |true=>
    simp only[aL,cU]
    have T:∀m,n=m+1->k7 R m/\o5 R m:=λm hm=>g6 0 m (by omega)
    have B:=abx T hD av bc d ⟨ah,rfl,L⟩ o ay;have U:qK (jY true n) (an a)=(aS true n).cp (an a):=by rw[aad]
    rw[U];exact bR.eh (B.mono i) (Dw _)
   |false=>
    simp only[aU,fo,cH];rw[F9 d,aP rfl];have C:an a≠ .op [40]:=by grind[gz]
    have V:bu a≠[40]:=λz=>C ((mK (by simp)).2 z);have W:=ao9 g6 hD av bc d ⟨ah,rfl,L⟩ o V;have zq:=ann M;have D:∀X:dD Unit,X= .bad a->bR true e r X (λst=>st) (λ_ _ _=>True) (au (h9 (e.st a F ah) (e.st a F ah).2.1) λ(f:aa)=>
      some (f.1,f.2.1,f.2.2.1,(e.st a F ah).2.2.2.1,f.2.2.2.2.1,f.2.2.2.2.2.1,f.2.2.2.2.2.2.1,(e.st a F ah).2.2.2.2.2.2.2.1,f.2.2.2.2.2.2.2.2)):=by
     rintro X rfl;obtain⟨s,g,j⟩:=qe (ah:=ah) (e.st a F ah).2.1 d i;rw[g,aP rfl];exact⟨_,rfl,by cases g;exact j⟩
    cases a with
    |nil=>grind
    |cons c t=>
     simp only[zT,p_];rcases Ju (b:=c) (t:=t) with⟨k,l⟩|⟨k,l,u⟩|⟨k,l,u⟩
     ·subst k;rw[l];simp only[bA,cY,uz,and_false,cH,aL];exact D _ rfl
     ·rw[u];have E:rI (jD (c::t))=false:=by grind
      rw[FY,gd,aaB,gd,E];have Y:decide (bu (c::t)=[])=false:=eu l;simp only[k,Y,bH,fp,oa,cU,aL,aU];have G:(if(!fg (bu (c::t)))=false then false else false)=false:=by simp
      rw[G];cases iO:fg (bu (c::t)) with
      |false=>simp only[fp,aL,fo,cH];exact D _ rfl
      |true=>
       simp only[hE,aU,cU];refine bR.eh (bR.mono ?_ i) (Dw _);have I:fg (bu ((c::t).dropWhile cf))=true:=by grind[Ns]
       have c_:N (dI (a9 true n)) (λ_=>ho true (a9 true n)) (c::t) F=wQ (a9 true n) (ho true (a9 true n)) (λw p=>if p&&my w then Dz (jY true n) (a9 true n) else ho true (a9 true n)) (aZ ()) (c::t) F:=by
        unfold wQ;cases hm:dI (a9 true n) (c::t) F with
        |ok b ae O=>have:=JH o I hm;subst this;rw[aT hm,aT hm,bh rfl]
        |more op nd ds=>grind[dm]
        |bad q=>grind[hp]
        |deep q=>grind[kd]
       grind
     ·rw[u];have E:rI (jD (c::t))=((dg (c::t)).2&&rI (dg (c::t)).1):=by grind
      rw[FY,gd,aaB,gd,E];simp only[k,l,bA,bH,hE,aU,fo,false_and,cU];cases Nk:((dg (c::t)).2&&rI (dg (c::t)).1) with
      |true=>simp only[aL,cU];exact D _ rfl
      |false=>
       simp only[aU,fo,cH];refine bR.eh (bR.mono ?_ i) (Dw _);have c_:N (dI (a9 true n)) (λb=>if b then ho true (a9 true n) else N (cO (a9 true n)) λ_=>
         if(dg (c::t)).2&&my (dg (c::t)).1 then N (bQ []) λt=>if t= .op [40] then N (kH true (jY true n)) λ_=>aZ () else ho true (a9 true n) else ho true (a9 true n)) (c::t) F=wQ (a9 true n) (ho true (a9 true n)) (λw p=>if p&&my w then Dz (jY true n) (a9 true n) else ho true (a9 true n)) (aZ ()) (c::t) F:=by
        unfold wQ;cases hm:dI (a9 true n) (c::t) F with
        |ok b ae O=>
         rw[aT hm,aT hm];cases b with
         |true=>rfl
         |false=>
          simp only[fo,cH,cU];have P:ae=c::t/\O=F:=by
           cases iO:fg (bu ((c::t).dropWhile cf)) with
           |true=>grind[JH]
           |false=>simp_all[s7]
          rw[P.1,P.2,aT (cu o),u];rfl
        |more op nd ds=>grind[dm]
        |bad q=>grind[hp]
        |deep q=>grind[kd]
       grind
 ·unfold fM;rw[dm (op:=[]) (by rw[iN v];rfl)];unfold NX;rw[pB,aP rfl];simp only[aL];obtain⟨s,g,j⟩:=Dm (x:=[120]) h.Bc (by decide);rw[g];exact⟨s,rfl,(j.mono n_).s⟩
end
structure UG(e:cn)(de:ad Unit)(gG:aa->Option aa):Prop where
 im:∀{r:H}{F:ai}{st:aa},cG e r F->gC e r F st->bR true e r (de r F) (λst=>st) (λ_ _ _=>True) (gG st)
 tt:∀{r:H}{gM F:ai},cG e r gM->eC F<=100*e.S.length+800->∃aK,gG (e.tt F)=some aK/\oK e r (cV [] F [120]).1 (cV [] F [120]).2 aK
 sfx:∀{r:H}{F:ai}{a:Unit}{r':H}{aF:ai},de r F= .ok a r' aF->r'<:+r
 pb:aJ 50 de
noncomputable def NY(tst:H->Bool)(w:Int)(gG k:aa->Option aa):aa->Option aa:=λx=>
 (au (iq x) λ(b:H)=>(bif tst b then some x else(au (ps (setAt x (W (x.2.1+w)))) λ(a:aa)=>(bif(!(decide (a.2.2.2.2.1=0))) then(au (gZ a ([]) ([120]:H)) λ(c:aa)=>some c) else(au (gG a) λ(d:aa)=>k d)))))
noncomputable def x6(tst:H->Bool)(w:Int)(gG:aa->Option aa)(k:aa->Option aa):aa->Option aa:=λx=>
 (bif(decide (x.2.2.2.2.1=0)) then(au (hP x) λ(a:aa)=>NY tst w gG k (a.1,a.2.1,a.2.2.1,x.2.2.2.1,a.2.2.2.2.1,a.2.2.2.2.2.1,a.2.2.2.2.2.2.1,x.2.2.2.2.2.2.2.1,a.2.2.2.2.2.2.2.2)) else some x)
def q5(p:Tok->Bool)(w:Nat)(de:ad Unit):ad Unit:=ck (λ_=>N (bQ []) λt=>if p t=true then N (b5 w) λ_=>N (c5.aI [120]) λ_=>N de λ_=>aZ (.inl ()) else aZ (.inr ())) ()
section
variable{e:cn}{de:ad Unit}{gG:aa->Option aa}(dt:UG e de gG){p:Tok->Bool}{tst:H->Bool}{w:Nat}
 (az:∀t,p t=true->∃o,t= .op o/\o.length=w/\0<w/\tst o=false) (xO:∀r,tst (bu r)=false->p (an r)=true) (UH:tst []=true)
include dt az xO UH
theorem abM{r:H}{F:ai}{st:aa}(h:cG e r F)(T:gC e r F st):bR true e r (q5 p w de r F) (λst=>st) (λ_ _ _=>True) (fixF (x6 tst w gG) bC st):=by
 unfold q5;refine bR.rep (en:=λ_ r F x=>gC e r F x) (λk s r F x m f E aw=>?_) bC () r F _ (wL h) h T
 have n:∀x:aa,x.2.2.2.2.1≠0->k x=some x:=by intro x f;obtain⟨k',M⟩:=E x;simp_all[x6]
 have vI:∀ds,k (e.tt ds)=some (e.tt ds):=by intro ds;obtain⟨k',M⟩:=E (e.tt ds);rw[M];unfold x6;have t:(e.tt ds).2.2.2.2.1=0:=rfl;rw[t,Dh,aP rfl];have V:((e.tt ds).1,(e.tt ds).2.1,(e.tt ds).2.2.1,(e.tt ds).2.2.2.1,(e.tt ds).2.2.2.2.1,(e.tt ds).2.2.2.2.2.1,(e.tt ds).2.2.2.2.2.2.1,(e.tt ds).2.2.2.2.2.2.2.1,(e.tt ds).2.2.2.2.2.2.2.2)=e.tt ds:=rfl;rw[V];unfold NY;rw[F_ ds m.b3,aP rfl,UH];rfl
 unfold x6;rw[f.eta.2.2.2.2.1];simp only[bA,aL];obtain⟨y,X,G⟩:=x3 m f;have I:=Gq G f;rw[f.eta.2.2.2.1] at I;rw[X,aP rfl,f.eta.2.2.2.1,I];unfold NY;rcases G with⟨J,ah,z,rfl,Y,g,K,iI⟩|⟨z,rfl⟩
 ·rw[aT (cu z),su g,aP rfl];cases Z:tst (bu J) with
  |true=>
   have j:¬p (an J)=true:=by intro A;obtain⟨o,M,U,_,aq⟩:=az _ A;have:=(h4 M).1;grind
   rw[aO j];simp only[aL];exact⟨_,rfl,K,g,⟨ah,rfl,Y⟩,trivial⟩
  |false=>
   have j:=xO _ Z;rw[bh j];simp only[aU];obtain⟨o,M,U,aq,_⟩:=az _ j;obtain⟨aX,br,b4,dz⟩:=h4 M;obtain⟨v,rfl⟩:=br;have L:v<:+o++v:=fR o v;have s9:=g.ui dz b4;have lq:setAt (e.st (o++v) F ah) (W ((e.st (o++v) F ah).2.1+(w:Int)))=e.st v F ah:=te g w U;have UI:b5 w (o++v) F= .ok () v F:=by grind[b5]
   rw[lq,aT UI];have l:=g.mono L;have i:v<:+r:=L.trans K;have e9:v.length<r.length:=by grind
   obtain⟨bO,bs,d⟩:=F1 l (st:=e.st v F ah) ⟨ah,rfl,λA=>absurd A s9⟩;rw[bs,aP rfl];have h6:=aJ.low (aJ.lines (c:=0)) l;cases hm:c5 v F with
   |ok a ae aG=>
    rw[hm] at d;obtain⟨N,aj,a3,bP,fj⟩:=d;rw[aT (qf hm),a3.eta.2.2.2.2.1];simp only[bA,hE,aU];refine bR.iZ (C:=cX _ r) db.k ((dt.im aj a3).mono (N.trans i)) (λao2 O b8 b bN i_ e7 zC _=>?_) (λop nd ds b _ B=>?_) (λb P=>?_)
    ·have l7:=(dt.sfx bN).length_le;have lZ:=N.length_le;have Q:O.length<r.length:=by omega
     exact bR.inl Q (aw () O b8 b i_ e7 Q zC)
    ·rcases B with B|⟨_,rfl,R⟩
     ·exact⟨b,n b (by omega),.inl B⟩
     ·subst R;exact⟨_,vI ds,.inr ⟨rfl,rfl,rfl⟩⟩
    ·exact⟨b,n b (by rw[P.1];decide),P⟩
   |more op nd ds=>
    rw[hm] at d;rw[dm (td hm)];have R:=h6 _ _ _ hm;rcases d with d|⟨_,rfl,rfl⟩
    ·rw[d.1];simp only[show¬((1:Int)=0) by decide,bH,fp,aL];obtain⟨D,af,bf⟩:=Gg (q:=true) (x:=[120]) l (.inl d) i (by omega) (by decide);rw[af];exact⟨D,rfl,bf⟩
    ·have t:(e.tt ds).2.2.2.2.1=0:=rfl;rw[t];simp only[bA,hE,aU];obtain⟨D,aW,S⟩:=dt.tt l (F:=ds) (by omega);rw[aW,aP rfl,n _ (by rw[S.1];decide)];exact⟨D,rfl,(S.mono i).s⟩
   |bad u=>rw[hm] at d;rw[hp (vu hm),d.1];simp only[show¬((2:Int)=0) by decide,bH,fp,aL];rw[sv d];exact⟨_,rfl,d.mono i⟩
   |deep u=>rw[hm] at d;rw[kd (vv hm),d.1];simp only[show¬((2:Int)=0) by decide,bH,fp,aL];rw[sv d];exact⟨_,rfl,d.mono i⟩
 ·rw[dm (op:=[]) (nd:=[]) (ds:=F) (by rw[iN z];rfl),F_ F m.b3,aP rfl,UH];exact⟨_,rfl,.inr ⟨rfl,rfl,rfl⟩⟩
end
def qh(t:Tok):Bool:=decide (t= .op [124])
def q6(t:Tok):Bool:=decide (t= .op [38,38])||decide (t= .op [124,124])
theorem UJ(de:ad Unit):fv de=N (bQ [120]) λt=>N (if cE t [33] then b5 1 else aZ ()) λ_=>N de λ_=>q5 qh 1 de:=by simp[fv,q5,qh]
theorem UK(a:ad Unit):hT a=N a λ_=>q5 q6 2 a:=by simp[hT,q5,q6]
noncomputable def N0(R:bj):aa->Option aa:=λa=>fixF (x6 (λo=> !(decide (o=([124]:H)))) 1 (tR R)) bC a
noncomputable def JJ(R:bj):aa->Option aa:=λx=>
 (au (mx x) λ(b:H)=>(bif(decide (b=([33]:H))) then(au (tR R (setAt x (W (x.2.1+1)))) λa=>N0 R a) else(au (tR R x) λa=>N0 R a)))
theorem abN(R:bj)(I:aa):y_ R I=au (hP I) λa=>JJ R (a.1,a.2.1,a.2.2.1,I.2.2.2.1,a.2.2.2.2.1,a.2.2.2.2.2.1,a.2.2.2.2.2.2.1,I.2.2.2.2.2.2.2.1,a.2.2.2.2.2.2.2.2):=rfl
theorem apd(R:bj)(I:aa):Iv R I=au (y_ R I) λa=>fixF (x6 (λo=>bif(!(decide (o=([38,38]:H)))) then(!(decide (o=([124,124]:H)))) else false) 2 (y_ R)) bC a:=rfl
theorem Gr{tst:H->Bool}{w:Int}{gG:aa->Option aa}{x:aa}(h:x.2.2.2.2.1≠0):fixF (x6 tst w gG) bC x=some x:=by
 obtain⟨m,hm⟩:∃m,bC=m+1:=⟨bC-1,by rw[gF]⟩
 simp_all[fm,x6]
theorem abO{tst:H->Bool}{w:Int}{gG:aa->Option aa}{e:cn}(ds:ai)(b:e.S.length<=1000000)(c:tst []=true):fixF (x6 tst w gG) bC (e.tt ds)=some (e.tt ds):=by
 obtain⟨m,hm⟩:∃m,bC=m+1:=⟨bC-1,by rw[gF]⟩
 rw[hm,fm];unfold x6;have a:(e.tt ds).2.2.2.2.1=0:=rfl;rw[a,Dh,aP rfl];have d:((e.tt ds).1,(e.tt ds).2.1,(e.tt ds).2.2.1,(e.tt ds).2.2.2.1,(e.tt ds).2.2.2.2.1,(e.tt ds).2.2.2.2.2.1,(e.tt ds).2.2.2.2.2.2.1,(e.tt ds).2.2.2.2.2.2.2.1,(e.tt ds).2.2.2.2.2.2.2.2)=e.tt ds:=rfl;simp_all[NY,F_,aP]
theorem UL:([33]:H)≠[]/\([33]:H).all gO=true:=by decide
theorem JK(n:Nat):∀l,jY true n=some l->vh l:=by
 intro l h;cases n with
 |zero=>cases h
 |succ m=>cases h;simp[qR]
theorem ape(n:Nat):∀l,jY true n=some l->zw l:=by
 intro l h;cases n with
 |zero=>cases h
 |succ m=>cases h;simp[ue]
section
variable{R:bj}{n:Nat}(g6:∀k m,n=m+1+k->k7 R m/\o5 R m)(hD:k7 R n)(av:n<=30){e:cn}(bc:e.ne=30- (n:Int))
include g6 hD av bc
theorem abP:UG e (fM true (jY true n) (a9 true n)) (tR R) where
 im:=λh b=>abL g6 hD av bc h b
 tt:=λh c=>UF h c
 sfx:=by intro r F a r' d hm;exact(ao.command (λl ax=>JK n l ax) (mI true n)).sfx hm
 pb:=by grind[FV,aJ.command,ape]
theorem apf{r:H}{F:ai}{st:aa}(h:cG e r F)(b:gC e r F st):bR true e r (q5 qh 1 (fM true (jY true n) (a9 true n)) r F) (λst=>st) (λ_ _ _=>True) (N0 R st):=by
 refine abM (abP g6 hD av bc) (λt a=>?_) (λr a=>?_) rfl h b
 ·exact⟨[124],OM a,rfl,by decide,rfl⟩
 ·have:bu r=[124]:=by grind
  exact decide_eq_true ((mK (by simp)).2 this)
theorem apg{r c:H}{F:ai}{ah:Bool}(d:cG e c F)(g:c=[]->ah=false)(k:c<:+r)(z:bn c=some c):bR true e r (N (if cE (an c) [33] then b5 1 else aZ ()) (λ_=>N (fM true (jY true n) (a9 true n)) λ_=>q5 qh 1 (fM true (jY true n) (a9 true n))) c F) (λst=>st) (λ_ _ _=>True) (JJ R (e.st c F ah)):=by
 unfold JJ;rw[wM d,aP rfl];have l:=d.nl.iD d.sfx
 have m:∀{v:H}{ah:Bool},cG e v F->(v=[]->ah=false)->v<:+r->bR true e r (N (fM true (jY true n) (a9 true n)) (λ_=>q5 qh 1 (fM true (jY true n) (a9 true n))) v F) (λst=>st) (λ_ _ _=>True) (au (tR R (e.st v F ah)) λo=>N0 R o):=by
  intro v ah h g p;refine bR.iZ (C:=λx=>x) db.id ((abL g6 hD av bc h ⟨ah,rfl,g⟩).mono p) (λa ae A b B s1 q s _=>?_) (λop nd ds b _ f=>?_) (λb i=>?_)
  ·exact(apf g6 hD av bc q s).mono s1
  ·rcases f with f|⟨_,rfl,t⟩
   ·exact⟨b,Gr (by omega),.inl f⟩
   ·subst t;exact⟨_,abO ds h.b3 rfl,.inr ⟨rfl,rfl,rfl⟩⟩
  ·exact⟨b,Gr (by rw[i.1];decide),i⟩
 by_cases aD:jD c=[33]
 ·have u:=(sr l UL.1 UL.2).1 aD;simp only[aD,bA,aL];rw[bh (by grind[cE])];obtain⟨v,rfl⟩:=(qS u).1;have j:v<:+[33]++v:=fR _ v;rw[aT (show b5 1 ([33]++v) F= .ok () v F from rfl)];have w:setAt (e.st ([33]++v) F ah) (W ((e.st ([33]++v) F ah).2.1+1))=e.st v F ah:=te d 1 rfl;rw[w];exact m (d.mono j) (λy=>absurd y (d.ui (by simp) (by decide))) (j.trans k)
 ·have bg:cE (an c) [33]=false:=by grind[Jo,UL]
  simp only[aD,bH,aU];rw[aO (by grind),Jw];grind
theorem abQ{r:H}{F:ai}{st:aa}(h:cG e r F)(b:gC e r F st):bR true e r (fv (fM true (jY true n) (a9 true n)) r F) (λst=>st) (λ_ _ _=>True) (y_ R st):=by
 rw[UJ,abN];obtain⟨y,g,c⟩:=x3 h b;rw[g,aP rfl,Gq c b];rcases c with⟨j,ah,a,rfl,k,l,m,p⟩|⟨a,rfl⟩
 ·rw[aT (cu a)];grind[apg]
 ·rw[dm (op:=[]) (by rw[iN a];rfl)];unfold JJ;rw[Uf h,aP rfl];simp only[reduceCtorEq,bH,aU];have q:=h.kb;obtain⟨d,i,f⟩:=UF (R:=R) (F:=F) h (by omega);rw[i,aP rfl];have:=Gr (tst:=λo=> !(decide (o=([124]:H)))) (w:=1) (gG:=tR R) (x:=d) (by rw[f.1];decide);exact⟨d,this,f.s⟩
theorem aph{r:H}{c F:ai}(h:cG e r c)(d:eC F<=100*e.S.length+800):∃a,y_ R (e.tt F)=some a/\oK e r (cV [] F [120]).1 (cV [] F [120]).2 a:=by rw[abN,Dh,aP rfl];have f:((e.tt F).1,(e.tt F).2.1,(e.tt F).2.2.1,(e.tt F).2.2.2.1,(e.tt F).2.2.2.2.1,(e.tt F).2.2.2.2.2.1,(e.tt F).2.2.2.2.2.2.1,(e.tt F).2.2.2.2.2.2.2.1,(e.tt F).2.2.2.2.2.2.2.2)=e.tt F:=rfl;rw[f];unfold JJ;rw[Uf h,aP rfl];simp only[reduceCtorEq,bH,aU];obtain⟨a,g,b⟩:=UF (R:=R) (F:=F) h d;rw[g,aP rfl];have:=Gr (tst:=λo=> !(decide (o=([124]:H)))) (w:=1) (gG:=tR R) (x:=a) (by rw[b.1];decide);exact⟨a,this,b⟩
theorem abR:UG e (fv (fM true (jY true n) (a9 true n))) (y_ R) where
 im:=λh b=>abQ g6 hD av bc h b
 tt:=λh c=>aph g6 hD av bc h c
 sfx:=by intro r F a r' d hm;exact(ao.pipe (ao.command (λl ax=>JK n l ax) (mI true n))).sfx hm
 pb:=aJ.pipe (abP g6 hD av bc).pb
theorem api{r:H}{F:ai}{st:aa}(h:cG e r F)(g:gC e r F st):bR true e r (hT (fv (fM true (jY true n) (a9 true n))) r F) (λst=>st) (λ_ _ _=>True) (Iv R st):=by
 rw[UK,apd];refine bR.iZ (C:=λx=>x) db.id (abQ g6 hD av bc h g) (λa ae l b m s1 i j _=>?_) (λop nd ds b _ c=>?_) (λb d=>?_)
 ·refine(abM (abR g6 hD av bc) (λt f=>?_) (λr f=>?_) rfl i j).mono s1
  ·unfold q6 at f;grind
  ·unfold q6;rw[yf];grind[mK]
 ·rcases c with c|⟨_,rfl,k⟩
  ·exact⟨b,Gr (by omega),.inl c⟩
  ·subst k;exact⟨_,abO ds h.b3 rfl,.inr ⟨rfl,rfl,rfl⟩⟩
 ·exact⟨b,Gr (by rw[d.1];decide),d⟩
end
noncomputable def wS(a:Bool):Int×aa->Option (Int×aa):=λy=>
 (bif(bif a then(decide (y.1=0)) else false) then(au (gZ y.2 ([]) ([120]:H)) λ(b:aa)=>some (y.1,b)) else some y)
noncomputable def UM(a:H)(k:Int×aa->Option (Int×aa))(oM:Int):aa->Option (Int×aa):=λx=>
 (au (iq x) λ(c:H)=>(au (gY x) λ(d:Bool)=>(cY (d=false) (je x) (0:UInt8) λ(e:UInt8)=>(bif(bif(bif d then true else(decide ((e.toNat:Int)=(10:Int)))) then true else(bif(decide (c=a)) then(!(decide (a=[]))) else false)) then k ((W (oM+1)),x) else(bif(bif(!(decide (c=([59]:H)))) then(!(decide (c=([38]:H)))) else false) then(au (h9 x x.2.1) λ(b:aa)=>some ((W (oM+1)),(b.1,b.2.1,b.2.2.1,x.2.2.2.1,b.2.2.2.2.1,b.2.2.2.2.2.1,b.2.2.2.2.2.2.1,x.2.2.2.2.2.2.2.1,b.2.2.2.2.2.2.2.2))) else k ((W (oM+1)),setAt x (W (x.2.1+1))))))))
noncomputable def abS(R:bj)(b:H)(k:Int×aa->Option (Int×aa))(oM:Int):aa->Option (Int×aa):=λx=>
 (au (Iv R x) λ(c:aa)=>(bif(!(decide (c.2.2.2.2.1=0))) then some ((W (oM+1)),c) else(au (hP c) λ(a:aa)=>UM b k oM (a.1,a.2.1,a.2.2.1,c.2.2.2.1,a.2.2.2.2.1,a.2.2.2.2.2.1,a.2.2.2.2.2.2.1,c.2.2.2.2.2.2.2.1,a.2.2.2.2.2.2.2.2))))
noncomputable def N1(R:bj)(a:H)(b:bw)(c:Bool)(j k:Int×aa->Option (Int×aa))(oM:Int):aa->Option (Int×aa):=λx=>
 (au (gY x) λ(f:Bool)=>(bif f then(bif(!(decide (a=[]))) then(au (hQ x ([])) λ(g:aa)=>j (oM,g)) else j (oM,x)) else(au (je x) λ(h:UInt8)=>(bif(decide ((h.toNat:Int)=(10:Int))) then(au (CB x) λ(i:aa)=>k (oM,i)) else(au (iq x) λ(d:H)=>(au (mx x) λ(e:H)=>(cY ((decide (0<oM))=true/\(bif(bif(decide (d=a)) then(!(decide (a=[]))) else false) then(bif(decide (0<oM)) then true else(!c)) else false)=false) (AD e b) false λ(l:Bool)=>(bif(bif(bif(bif(bif(decide (d=a)) then(!(decide (a=[]))) else false) then(bif(decide (0<oM)) then true else(!c)) else false) then true else(bif(decide (0<oM)) then l else false)) then true else(bif(decide (a=([59,59]:H))) then(decide (e=([101,115,97,99]:H))) else false)) then some (oM,x) else abS R a k oM x))))))))
theorem UN(R:bj)(b:H)(a:bw)(d:Bool)(j k:Int×aa->Option (Int×aa))(oM:Int)(x:aa):AO R b a d j k (oM,x)=(bif(decide (x.2.2.2.2.1=0)) then
 (au (hP x) λ(c:aa)=>N1 R b a d j k oM (c.1,c.2.1,c.2.2.1,x.2.2.2.1,c.2.2.2.2.1,c.2.2.2.2.2.1,c.2.2.2.2.2.2.1,x.2.2.2.2.2.2.2.1,c.2.2.2.2.2.2.2.2)) else j (oM,x)):=rfl
theorem apj(R:bj)(I:aa)(b:H)(a:bw)(c:Bool):Ff R I b a c=fixF (AO R b a c (wS c)) bC (0,I):=rfl
def uk(c:Ctx)(no:Bool):Bool:=xU c no||(decide (c= .text)&&no)
theorem abT(r:H):bu r≠[119]:=by
 intro h;have M:(kG.find? λo=>o.isPrefixOf r)=some [119]\/¬(kG.find? λo=>o.isPrefixOf r)=some [119]:=Classical.em _;rcases M with M|M
 ·have:=List.mem_of_find?_eq_some M;revert this;decide
 ·unfold bu at h;cases U:(kG.find? λo=>o.isPrefixOf r) with
  |none=>grind
  |some o=>grind
theorem apk{c:Ctx}{no:Bool}(ay:uk c no=true){r:H}(g:dL r)(Z:r≠[])(n:Nat)(a:Bool)(h:a=(if((decide (0<(n:Int)))=true/\(bif(bif(decide (bu r=jZ c)) then(!(decide (jZ c=[]))) else false) then(bif(decide (0<(n:Int))) then true else(!(!no))) else false)=false) then(pA c).contains (jD r) else false)):
  (bif(bif(bif(bif(decide (bu r=jZ c)) then(!(decide (jZ c=[]))) else false) then(bif(decide (0<(n:Int))) then true else(!(!no))) else false) then true else(bif(decide (0<(n:Int))) then a else false)) then true else(bif(decide (jZ c=([59,59]:H))) then(decide (jD r=([101,115,97,99]:H))) else false))=((no||decide (n>0))&&ec c (an r)):=by
 have av:decide (0<(n:Int))=decide (n>0):=by simp
 rw[av] at h⊢;subst h
 have e:∀i,jZ i=[119]->decide (bu r=jZ i)=false:=by grind[abT]
 have j:decide (([119]:H)=[59,59])=false:=by decide
 have k:∀{w:H},w≠[]->w.all gO=true->(jD r=w↔an r= .word w true):=λM U=>sr g M U
 have d:∀{w:H},w≠[]->w.all gO=true->cE (an r) w=decide (jD r=w):=λM U=>(Jo g M U).symm
 have f:∀{o:H},o≠[]->(an r== .op o)=decide (bu r=o):=by grind[mK]
 cases c with
 |text=>grind[ec,lX,jZ,pA]
 |paren=>have:ec .paren (an r)=decide (bu r=[41]):=f (by simp);grind[jZ,pA]
 |item=>
  have b:no=true:=by grind[uk,xU]
  subst b;have:ec .item (an r)=(decide (bu r=[59,59])||decide (jD r=eK)):=by show(an r== .op [59,59]||cE (an r) eK)=_;grind[JA]
  grind[jZ,pA,eK]
 |p7=>
  have b:no=false:=by grind[uk,xU]
  subst b;have:ec .p7 (an r)=decide (jD r=[125]):=d NP.1 NP.2;rw[this,e _ rfl];grind[jZ,pA]
 |oZ=>
  have b:no=false:=by grind[uk,xU]
  subst b;have:ec .oZ (an r)=decide (jD r=hj):=d NO.1 NO.2;rw[this,e _ rfl];grind[jZ,pA]
 |qH=>
  have b:no=false:=by grind[uk,xU]
  subst b;have:ec .qH (an r)=(decide (jD r=ir)||decide (jD r=gi)||decide (jD r=eb)):=by show(cE (an r) ir||cE (an r) gi||cE (an r) eb)=_;grind[Uq,Up,Du]
  rw[this,e _ rfl];grind[jZ,pA]
 |ku=>
  have b:no=false:=by grind[uk,xU]
  subst b;have:ec .ku (an r)=decide (jD r=eb):=d Du.1 Du.2;rw[this,e _ rfl];grind[jZ,pA]
 |p8=>
  have b:no=false:=by grind[uk,xU]
  subst b;have:ec .p8 (an r)=decide (jD r=hn):=d wP.1 wP.2;rw[this,e _ rfl];grind[jZ,pA]
 |done=>
  have b:no=false:=by grind[uk,xU]
  subst b;have:ec .done (an r)=decide (jD r=jh):=d Gf.1 Gf.2;rw[this,e _ rfl];grind[jZ,pA]
theorem apm{c:Ctx}{no:Bool}(ay:uk c no=true){r:H}(d:dL r){o:H}(a:an r= .op o):(bif(decide (bu r=jZ c)) then(!(decide (jZ c=[]))) else false)=ec c (.op o):=by
 have b:=(h4 a).1;have bc:=(h4 a).2.2.2;subst b;cases c with
 |text=>simp[jZ,ec]
 |paren=>grind[jZ,ec]
 |item=>grind[jZ,ec,cE]
 |_=>simp[jZ,ec,cE,abT]
theorem apn{c:Ctx}{r:H}(h:bu r=[]):(bif(decide (bu r=jZ c)) then(!(decide (jZ c=[]))) else false)=false:=by grind
def um(da:ad Unit)(c:Ctx)(no:Bool)(n:Nat):ad Nat:=N (c5.aI (if no||n>0 then [] else [120])) λ_=>ck (fa da c no) n
theorem N3{da:ad Unit}{c:Ctx}{no:Bool}{n:Nat}{r ae:H}{F:ai}(Y:bn r=some ae)(a:an ae≠ .line):um da c no n r F=ck (fa da c no) n ae F:=by unfold um;rw[aT (qf (p9 Y a))]
theorem apo{da:ad Unit}{c:Ctx}{no:Bool}{n:Nat}{r:H}{F:ai}(Y:bn r=none):um da c no n r F= .more [] (cV [] F (if no||n>0 then [] else [120])).1 (cV [] F (if no||n>0 then [] else [120])).2:=by
 unfold um;have:c5 r F= .more [] [] F:=by rw[tW,cK];have:iC false r F= .more [] (cV [] F []).1 (cV [] F []).2:=dm (iN Y);rw[this];rfl
 grind[dm,td]
theorem apq{r t:H}{F:ai}(Y:bn r=some (10::t)):(∃a b r' d,c5 r F= .ok a r' d/\N jw (λ_=>c5) (10::t) F= .ok b r' d)\/c5 r F=N jw (λ_=>c5) (10::t) F:=by
 have M:c5 r F=cX iC r (N jw (λ_=>aZ (.inl true)) (10::t) F):=by rw[tW,cK,wz Y]
 have f:=(ef Y).length_le;cases hm:jw (10::t) F with
 |ok a ae c=>
  obtain⟨U,_⟩:=TQ hm;have ax:ae.length<r.length:=by grind
  rw[M,aT hm,aT hm];have e:cX iC r (aZ (.inl true) ae c)=ck iC true ae c:=by show(if ae.length<r.length then ck iC true ae c else _)=_;grind
  rw[e,tW];rcases ale ae.length true ae c (cS _) with⟨r',d,⟨x,g⟩,y,i⟩|h
  ·grind
  grind
 |more op nd ds=>right;rw[M,dm hm,dm hm];rfl
 |bad q=>right;rw[M,hp hm,hp hm];rfl
 |deep q=>right;rw[M,kd hm,kd hm];rfl
theorem apr{da:ad Unit}{c:Ctx}{no:Bool}{n:Nat}{r t:H}{F:ai}(Y:bn r=some (10::t)):um da c no n r F=N (jw.aI (if no||n>0 then [] else [120])) (λ_=>um da c no n) (10::t) F:=by
 have aw:N (jw.aI (if no||n>0 then [] else [120])) (λ_=>um da c no n)=N ((N jw (λ_=>c5)).aI (if no||n>0 then [] else [120])) (λ_=>ck (fa da c no) n):=by rw[Jv,k2];rfl
 rw[aw];unfold um;grind[apq,N,ad.aI]
theorem aps(da:ad Unit)(c:Ctx)(no:Bool):n4 da c no=um da c no 0:=by simp[sj,um]
theorem abU{r ae:H}{k:Nat}{F b:ai}{a:Unit}(aw:0<k)(Z:r≠[])(h:b5 k r F= .ok a ae b):ae.length<r.length:=by cases h;grind[List.length_pos_iff]
theorem apt{l:dK}(ax:vh l){r:H}{F:ai}{a:Unit}{r':H}{b:ai}(ay:gz (an r)=true)(h:gA l (an r) r F= .ok a r' b):r'.length<r.length:=by
 have Z:r≠[]:=by rintro rfl;grind[an,gz]
 cases c:an r with
 |eof=>rw[c] at h;cases h
 |line=>rw[c] at h;cases h
 |op o=>rw[c] at h;have d:N (b5 1) (λ_=>N ((l.ls .paren false).aI [41]) λ_=>ji [41]) r F= .ok a r' b:=h;obtain⟨_,ae,f,M,U⟩:=b7 d;have e:ao (N ((l.ls .paren false).aI [41]) λ_=>ji [41]):=((ax.ls _ _).aI _).N λ_=>ao.op _;have:=(e.sfx U).length_le;have:=abU (by decide) Z M;omega
 |word w p=>
  rw[c] at h ay;have g:w≠[]:=by rintro rfl;cases p<;>simp[gz] at ay;revert ay;decide
  have d:N (b5 w.length) (λ_=>zI l w) r F= .ok a r' b:=h;obtain⟨_,ae,f,M,U⟩:=b7 d;have e:ao (zI l w):=by unfold zI;refine ao.ite (((ax.ls _ _).aI _).N λ_=>ao.res _) (ao.ite (ao.cond ax) (ao.ite (ao.for_ ax ax.dl) (ao.ite (ao.vl ax ax.dl) (((ax.ls _ _).aI _).N λ_=>ao.body ax _))))
  have i:zI l w ae f= .ok a r' b:=U;have:=(e.sfx i).length_le;have:=abU (J_.2 g) Z M;omega
theorem apu{n:Nat}{r:H}{F:ai}{a:Unit}{r':H}{v:ai}(h:fM true (jY true n) (a9 true n) r F= .ok a r' v):r'.length<r.length:=by
 have hD:=mI true n;have ko:=JK n;unfold fM at h;obtain⟨t,ae,j,M,U⟩:=b7 h;obtain⟨q,rfl,rfl⟩:=nM M;have G:=(ef q).length_le;split at U
 ·cases U
 ·rename_i bc;split at U
  ·rename_i ay;obtain⟨_,f,g,d,c⟩:=b7 U;have aj:=((ao.lY hD).sfx c).length_le;cases n with
   |zero=>cases d
   |succ m=>
    have s:((gA (aS true m) (an ae)).named (lJ (an ae))) ae j= .ok () f g:=d;have i:gA (aS true m) (an ae) ae j= .ok () f g:=by grind[ad.named]
    have:=apt (qR true m) ay i;omega
  ·have I:ae≠[]:=λx=>bc (lX.2 x);have k:bn ae=some ae:=mi _ _ _ (cS _) q;cases e:an ae with
   |eof=>grind
   |line=>rw[e] at U;cases U
   |op o=>
    rw[e] at U;simp only at U;split at U
    ·rename_i y;obtain⟨b,f,g,d,c⟩:=b7 U;have aj:=((ao.simple hD true).sfx c).length_le;have z:=(h4 e).1;subst z;have A:=JH k (by grind[Ns]) d;subst A;have:=s0 hD d;omega
    ·cases U
   |word w p=>
    rw[e] at U;simp only at U;split at U
    ·cases U
    ·obtain⟨b,f,g,d,c⟩:=b7 U;cases b with
     |true=>simp only[cU] at c;have aj:=((ao.simple hD true).sfx c).length_le;have:=s0 hD d;omega
     |false=>
      simp only[fo,cH] at c;have B:f=ae/\g=j:=by
       cases y:fg (bu (ae.dropWhile cf)) with
       |true=>grind[JH]
       |false=>simp_all[s7]
      obtain⟨rfl,rfl⟩:=B;obtain⟨_,J,K,s,i⟩:=b7 c;have a3:=wu hD (zt k e).1 (zt k e).2 s;split at i
      ·obtain⟨t,L,N,C,l⟩:=b7 i;obtain⟨D,rfl,rfl⟩:=nM C;have O:=(ef D).length_le;split at l
       ·rename_i P;obtain⟨_,Q,R,E,u⟩:=b7 l;have S:=((ej.function (fr:=true) ko).sfx E).length_le;simp only[cU] at u;cases u;omega
       ·have:=((ao.simple hD true).sfx l).length_le;omega
      ·have:=((ao.simple hD true).sfx i).length_le;omega
theorem apv{σ α:Type}{f:σ->ad (σ⊕α)}(hf:∀s r F x r' c,f s r F= .ok x r' c->r'.length<=r.length):∀(bz:Nat)(s:σ)(r:H)(F:ai)(a:α)(r':H)(c:ai),r.length<=bz->ck f s r F= .ok a r' c->r'.length<=r.length:=by
 intro bz;induction bz with
 |zero=>
  intro s r F a r' c av h;rw[cK] at h;cases hm:f s r F with
  |ok x ae d=>
   rw[hm] at h;have:=hf _ _ _ _ _ _ hm;cases x with
   |inl s'=>simp_all[cX]
   |inr b=>cases h;omega
  |more op nd ds=>rw[hm] at h;cases h
  |bad q=>rw[hm] at h;cases h
  |deep q=>rw[hm] at h;cases h
 |succ bz e=>
  intro s r F a r' c av h;rw[cK] at h;cases hm:f s r F with
  |ok x ae d=>
   rw[hm] at h;have:=hf _ _ _ _ _ _ hm;cases x with
   |inl s'=>unfold cX at h;grind
   |inr b=>cases h;omega
  |more op nd ds=>rw[hm] at h;cases h
  |bad q=>rw[hm] at h;cases h
  |deep q=>rw[hm] at h;cases h
theorem abV{p:Tok->Bool}{w:Nat}{de:ad Unit}(c:ao de){r:H}{F:ai}{a:Unit}{r':H}{b:ai}(h:q5 p w de r F= .ok a r' b):r'.length<=r.length:=by unfold q5 at h;refine apv (λs r F x r' b h=>?_) _ _ _ _ _ _ _ (cS _) h;have M:ao (N (bQ []) λt=>if p t=true then N (b5 w) λ_=>N (c5.aI [120]) λ_=>N de λ_=>(aZ (.inl ()):ad (Unit⊕Unit)) else aZ (.inr ())):=(ao.cW _).N λt=>ao.ite ((ao.cQ _).N λ_=>(ao.lines.aI _).N λ_=>c.N λ_=>ao.ret _) (ao.ret _);exact(M.sfx h).length_le
theorem apw{n:Nat}{r:H}{F:ai}{a:Unit}{r':H}{c:ai}(h:fv (fM true (jY true n) (a9 true n)) r F= .ok a r' c):r'.length<r.length:=by
 rw[UJ] at h;have d:ao (fM true (jY true n) (a9 true n)):=ao.command (λl ax=>JK n l ax) (mI true n);obtain⟨t,ae,k,M,U⟩:=b7 h;obtain⟨e,rfl,rfl⟩:=nM M;have m:=(ef e).length_le;obtain⟨_,f,o,b,g⟩:=b7 U;have aj:f.length<=ae.length:=by
  split at b
  ·cases b;simp
  ·cases b;omega
 obtain⟨_,p,q,i,j⟩:=b7 g;have a3:=apu i;have s:=abV d j;omega
theorem apx{n:Nat}{r:H}{F:ai}{a:Unit}{r':H}{b:ai}(h:hT (fv (fM true (jY true n) (a9 true n))) r F= .ok a r' b):r'.length<r.length:=by rw[UK] at h;have c:ao (fv (fM true (jY true n) (a9 true n))):=ao.pipe (ao.command (λl ax=>JK n l ax) (mI true n));obtain⟨_,f,g,d,e⟩:=b7 h;have a3:=apw d;have i:=abV c e;omega
def uo(no:Bool)(k:Nat):H:=if no||k>0 then [] else [120]
theorem N4{no:Bool}{k:Nat}(st:aa):wS (!no) ((k:Int),st)=if no||k>0 then some ((k:Int),st) else au (gZ st [] [120]) λy=>some ((k:Int),y):=by unfold wS;grind
theorem UO{e:cn}{r r0:H}{nd:H}{ds:ai}{st:aa}{a:ai}{no:Bool}{k:Nat}{q:Bool}(h0:cG e r a)(hm:ja false e r nd ds st)(h:r<:+r0)(c:nd.length+eC ds<=100*e.S.length+500):∃b,wS (!no) ((k:Int),st)=some b/\ja q e r0 (cV nd ds (uo no k)).1 (cV nd ds (uo no k)).2 b.2:=by
 rw[N4];unfold uo;split
 ·exact⟨_,rfl,(hm.mono h).up⟩
 ·obtain⟨d,f,g⟩:=Gg (q:=q) (x:=[120]) h0 hm h c (by decide);simp_all[aP]
theorem abW{e:cn}{r:H}{st:aa}{no:Bool}{k:Nat}(hm:jk e r st):wS (!no) ((k:Int),st)=some ((k:Int),st):=by
 rw[N4];split
 ·rfl
 ·rw[sv hm];rfl
section
variable{R:bj}{n:Nat}(g6:∀k m,n=m+1+k->k7 R m/\o5 R m)(hD:k7 R n)(av:n<=30){e:cn}(bc:e.ne=30- (n:Int)){c:Ctx}{no:Bool}(ay:uk c no=true)
noncomputable abbrev N5(R:bj)(c:Ctx)(no:Bool):(Int×aa->Option (Int×aa))->Int×aa->Option (Int×aa):=AO R (jZ c) (pA c) (!no) (wS (!no))
abbrev vx(n:Nat):ad Unit:=hT (fv (fM true (jY true n) (a9 true n)))
include ay
theorem abX(h:c= .text):no=true:=by grind[uk,xU]
theorem abY{k:Int×aa->Option (Int×aa)}{m:Nat}{r:H}{d F:ai}(h:cG e r d)(j:eC F<=100*e.S.length+400):∃b,N1 R (jZ c) (pA c) (!no) (wS (!no)) k (m:Int) (e.tt F)=some b/\ja (decide (c= .text)) e r (cV [] F (uo no m)).1 (cV [] F (uo no m)).2 b.2:=by
 unfold N1;rw[pB,aP rfl];simp only[aL];by_cases a:c= .text
 ·have f:=abX ay a;subst a f;have aw:decide (jZ .text=[])=true:=rfl;rw[aw,N4];exact⟨((m:Int),e.tt F),rfl,.inr ⟨rfl,rfl,rfl⟩⟩
 ·have aw:decide (jZ c=[])=false:=by cases c<;>first|rfl|grind
  rw[aw,eu a];simp only[fp,aL];obtain⟨l,g,i⟩:=Gj (F:=F) (x:=[]) h (by omega) (by simp);rw[g,aP rfl];exact UO h i.s fS (by grind)
theorem apy{bz m:Nat}{r:H}{a F:ai}(i:0<bz)(h:cG e r a)(d:eC F<=100*e.S.length+400):∃b,fixF (N5 R c no) bz ((m:Int),e.tt F)=some b/\ja (decide (c= .text)) e r (cV [] F (uo no m)).1 (cV [] F (uo no m)).2 b.2:=by
 obtain⟨f,rfl⟩:∃m,bz=m+1:=⟨bz-1,by omega⟩
 rw[fm];show∃b,AO R (jZ c) (pA c) (!no) (wS (!no)) _ ((m:Int),e.tt F)=some b/\_
 rw[UN];have g:(e.tt F).2.2.2.2.1=0:=rfl;rw[g,Dh,aP rfl];simp only[bA,aL];exact abY ay h d
theorem apA{bz:Nat}{m:Int}{st:aa}(b:0<bz)(h:st.2.2.2.2.1≠0):fixF (N5 R c no) bz (m,st)=wS (!no) (m,st):=by
 obtain⟨a,rfl⟩:∃m,bz=m+1:=⟨bz-1,by omega⟩
 rw[fm];show AO R (jZ c) (pA c) (!no) (wS (!no)) _ (m,st)=_;simp_all[UN]
include g6 hD av bc
theorem apB:∀(bz m:Nat)(r:H)(F:ai)(st:aa),r.length+1<bz->m+r.length<=1000001->cG e r F->gC e r F st->bR (decide (c= .text)) e r (um (vx n) c no m r F) (λb=>b.2) (λa _ b=>b.1=(a:Int)) (fixF (N5 R c no) bz ((m:Int),st)):=by
 intro bz;induction bz with
 |zero=>omega
 |succ bz V=>
  intro m r F st fh hm D E;have M:0<bz:=by omega
  rw[fm];have DA:∀(m:Nat)(r:H)(gM F:ai),cG e r gM->eC F<=100*e.S.length+400->_:=λm r gM F h Y=>apy (R:=R) (bz:=bz) (m:=m) ay M h Y
  have bU:∀(m:Int)(st:aa),st.2.2.2.2.1≠0->_:=λm st h=>apA (R:=R) (bz:=bz) (m:=m) ay M h
  generalize fixF (N5 R c no) bz=k at V DA bU;show bR _ e r _ _ _ (AO R (jZ c) (pA c) (!no) (wS (!no)) k ((m:Int),st));rw[UN,E.eta.2.2.2.2.1];simp only[bA,aL];obtain⟨y,uJ,bm⟩:=x3 D E;rw[uJ,aP rfl,Gq bm E];rcases bm with⟨aC,ah,O,rfl,hC,i,z,iI⟩|⟨O,rfl⟩
  ·have A_:=z.length_le;unfold N1;rw[q4,aP rfl,F9 i];by_cases Z:aC=[]
   ·subst Z;simp only[bA,aL];rw[N3 O (by decide)];rw[cK];by_cases al:c= .text
    ·have ki:=abX ay al;subst al ki;have aw:decide (jZ .text=[])=true:=rfl;have P:fa (vx n) .text true m [] F= .ok (.inr m) [] F:=by unfold fa;rw[aT (cu iI)];rfl
     rw[aw,N4,P];exact⟨_,rfl,z,i,⟨ah,rfl,hC⟩,rfl⟩
    ·have aw:decide (jZ c=[])=false:=by cases c<;>first|rfl|grind
     have P:fa (vx n) c no m [] F= .more [] (cV [] F (uo no m)).1 (cV [] F (uo no m)).2:=by unfold fa;rw[aT (cu iI),bh (by decide),aO al];rfl
     rw[aw,P];simp only[fp,aL];obtain⟨aK,aW,ba⟩:=vt (ah:=ah) (x:=[]) i (by decide);rw[aW,aP rfl];have:=i.kb;obtain⟨b,A,p⟩:=UO (no:=no) (k:=m) (q:=decide (c= .text)) i ba.s z (by show([]:H).length+eC F<=_;omega);exact⟨b,A,p⟩
   ·rw[eu Z];simp only[aU];rw[aP rfl];have qb:an aC≠ .eof:=λhh=>Z (lX.1 hh);have dH:=i.nl.iD i.sfx;cases aC with
    |nil=>grind
    |cons b t=>
     simp only[zT,p_];by_cases JI:b=10
     ·
      subst JI;simp only[bA,aL];rw[apr O];obtain⟨bO,bs,j⟩:=aaE (q:=false) (ah:=ah) i;rw[bs,aP rfl];have h6:=aJ.low (aJ.nl (c:=0)) i;cases s:jw (10::t) F with
      |ok a ae aG=>rw[s] at j;obtain⟨cB,aj,a3,_⟩:=j;rw[aT (qf s)];have ks:=(TQ s).1.length_le;simp only[nn] at A_;exact(V m ae aG bO (by omega) (by omega) aj a3).mono (cB.trans z)
      |more op nd ds=>rw[s] at j;rw[dm (td s),bU _ _ (by rw[j.z.1];decide)];have Y:=h6 _ _ _ s;obtain⟨G,A,p⟩:=UO (no:=no) (k:=m) (q:=decide (c= .text)) i j z (by omega);exact⟨G,A,p⟩
      |bad u=>rw[s] at j;rw[hp (vu s),bU _ _ (by rw[j.1];decide),abW j];exact⟨_,rfl,j.mono z⟩
      |deep u=>rw[s] at j;rw[kd (vv s),bU _ _ (by rw[j.1];decide),abW j];exact⟨_,rfl,j.mono z⟩
     ·simp only[JI,bH,aU];have apC:an (b::t)≠ .line:=by rw[xT,aO JI];grind
      rw[N3 O apC,su i,aP rfl,wM i,aP rfl,Nn _ _ (by cases c<;>decide),gd,apk ay dH Z m _ rfl];rw[cK]
      have UP:∀X,(X=fa (vx n) c no m (b::t) F)->X=(if((no||decide (m>0))&&ec c (an (b::t)))=true then aZ (.inr m) else N (vx n) λ_=>N (bQ []) (iM c m)) (b::t) F:=by rintro X rfl;unfold fa;rw[aT (cu iI),aO qb]
      rw[UP _ rfl];cases at3:((no||decide (m>0))&&ec c (an (b::t))) with
      |true=>simp only[aL,cU];exact⟨_,rfl,z,i,⟨ah,rfl,hC⟩,rfl⟩
      |false=>
       simp only[aU,fo,cH];unfold abS;have Q:W ((m:Int)+1)=((m+1:Nat):Int):=by grind[dJ]
       refine bR.iZ (C:=cX _ (b::t)) db.k ((api g6 hD av bc i ⟨ah,rfl,hC⟩).mono z) (λa cy d jB bN i_ e7 zC _=>?_) (λop nd ds jB Dp n3=>?_) (λjB jo=>?_)
       ·have e9:=apx bN;rw[zC.eta.2.2.2.2.1];simp only[bA,hE,aU];obtain⟨kS,apD,La⟩:=x3 e7 zC;rw[apD,aP rfl,Gq La zC];unfold UM;rw[Q];rcases La with⟨S,l,fw,rfl,NK,w,vs,zE⟩|⟨fw,rfl⟩
        ·have at4:=vs.length_le;have K:S<:+r:=vs.trans i_;have n8:S.length<(b::t).length:=by omega
         have L:=V (m+1) S d (e.st S d l) (by omega) (by omega) w ⟨l,rfl,NK⟩;rw[aT (cu fw),su w,aP rfl,q4,aP rfl,F9 w];have at5:(no||decide (m+1>0))=true:=by simp
         cases S with
         |nil=>
          simp only[bA,cY,uz,cH,aL];rw[N3 (ae:=[]) zE (by decide)] at L;have:cX (fa (vx n) c no) (b::t) (iM c m (an []) [] d)=ck (fa (vx n) c no) (m+1) [] d:=by rfl
          rw[this];exact L.mono K
         |cons g f=>
          rw[eu (show¬(g::f=[]) by simp),gd];simp only[cU,aU,zT,p_]
          have s8:∀(x:H)(N6:ai),x.length<(b::t).length->cX (fa (vx n) c no) (b::t) (N c5 (λ_=>aZ (.inl (m+1))) x N6)=um (vx n) c no (m+1) x N6:=by
           intro x N6 E;unfold um;rw[bh (by simp)];cases B:c5 x N6 with
           |ok fj eW lK=>rw[aT B,aT (qf B)];have br:=(ao.lines.sfx B).length_le;show(if eW.length<(b::t).length then ck (fa (vx n) c no) (m+1) eW lK else .bad eW)=_;grind
           |more op nd ds=>rw[dm B,dm (td B)];rfl
           |bad q=>rw[hp B,hp (vu B)];rfl
           |deep q=>rw[kd B,kd (vv B)];rfl
          have rW:∀X:dD Nat,X= .bad (g::f)->bR (decide (c= .text)) e r X (λb=>b.2) (λa _ b=>b.1=(a:Int)) (au (h9 (e.st (g::f) d l) (e.st (g::f) d l).2.1) λ(I:aa)=>
            some (((m+1:Nat):Int),(I.1,I.2.1,I.2.2.1,(e.st (g::f) d l).2.2.2.1,I.2.2.2.2.1,I.2.2.2.2.2.1,I.2.2.2.2.2.2.1,(e.st (g::f) d l).2.2.2.2.2.2.2.1,I.2.2.2.2.2.2.2.2))):=by
           rintro X rfl;obtain⟨aK,aW,ba⟩:=qe (ah:=l) (e.st (g::f) d l).2.1 w K;rw[aW,aP rfl];exact⟨_,rfl,by cases aW;exact ba⟩
          rcases Ju (b:=g) (t:=f) with⟨T,U⟩|⟨T,U,J⟩|⟨T,U,J⟩
          ·subst T;simp only[bA,aL];rw[U];show bR _ e r (cX _ (b::t) (N c5 (λ_=>aZ (.inl (m+1))) (10::f) d)) _ _ _;rw[s8 _ _ n8];exact L.mono K
          ·simp only[T,bH,aU];rw[apm ay (w.nl.iD w.sfx) J,J];unfold iM;dsimp only;by_cases mJ:bu (g::f)=[59]\/bu (g::f)=[38]
           ·have kq:ec c (.op (bu (g::f)))=false:=by rcases mJ with mJ|mJ<;>rw[mJ]<;>cases c<;>rfl
            rw[kq,bh mJ];have yA:(bif !decide (bu (g::f)=[59]) then !decide (bu (g::f)=[38]) else false)=false:=by grind
            rw[yA];simp only[aU];have SV:(bu (g::f)).length=1:=by grind
            obtain⟨v,D⟩:=(h4 J).2.1;have apE:=(h4 J).2.2.1;have apF:=(h4 J).2.2.2;generalize bu (g::f)=o at*;rw[<-D] at w n8 K⊢;have g2:v<:+o++v:=fR o v;have lq:setAt (e.st (o++v) d l) (W ((e.st (o++v) d l).2.1+1))=e.st v d l:=te w 1 SV;have UI:b5 1 (o++v) d= .ok () v d:=by grind[b5]
            have Tc:=g2.length_le;rw[lq,aT UI,s8 _ _ (by omega)];have s9:=w.ui apF apE;exact(V (m+1) v d (e.st v d l) (by omega) (by omega) (w.mono g2) ⟨l,rfl,λhh=>absurd hh s9⟩).mono (g2.trans K)
           ·rw[aO mJ];have yA:(bif !decide (bu (g::f)=[59]) then !decide (bu (g::f)=[38]) else false)=true:=by grind
            rw[yA];cases kq:ec c (.op (bu (g::f))) with
            |true=>
             simp only[aL,cU];rw[N3 zE (by grind),cK] at L;have P:fa (vx n) c no (m+1) (g::f) d= .ok (.inr (m+1)) (g::f) d:=by unfold fa;rw[aT (cu zE),if_neg (by grind),if_pos (by grind)];rfl
             rw[P] at L;exact L.mono K
            |false=>simp only[cond_false,cond_true,Bool.false_eq_true,if_false];exact rW _ rfl
          ·simp only[T,decide_false,cond_false];rw[apn U,J,U];simp only[cond_false];exact rW _ rfl
        ·rw[dm (op:=[]) (nd:=[]) (ds:=d) (by rw[iN fw];rfl),F_ d D.b3,aP rfl,pB,aP rfl];simp only[cY,uz,cH,aL];have:=e7.kb;obtain⟨G,A,p⟩:=DA (m+1) cy d d e7 (by omega);have E:uo no (m+1)=[]:=by simp[uo]
         rw[E] at p;exact⟨G,A,p.mono i_⟩
       ·rcases n3 with n3|⟨_,rfl,Y⟩
        ·rw[n3.1];simp only[show¬((1:Int)=0) by decide,bH,fp,aL];exact⟨_,rfl,.inl n3⟩
        ·subst Y;have jC:(e.tt ds).2.2.2.2.1=0:=rfl;rw[jC,Dh,aP rfl];simp only[bA,hE,aU];have Jb:((e.tt ds).1,(e.tt ds).2.1,(e.tt ds).2.2.1,(e.tt ds).2.2.2.1,(e.tt ds).2.2.2.2.1,(e.tt ds).2.2.2.2.2.1,(e.tt ds).2.2.2.2.2.2.1,(e.tt ds).2.2.2.2.2.2.2.1,(e.tt ds).2.2.2.2.2.2.2.2)=e.tt ds:=rfl;rw[Jb];unfold UM;rw[F_ ds D.b3,aP rfl,pB,aP rfl,Q];simp only[cY,uz,cH,aL];have tZ:=aJ.low (aJ.oC (abR g6 hD av bc).pb) i _ _ _ Dp;obtain⟨G,A,p⟩:=DA (m+1) r F ds D (by omega);have E:uo no (m+1)=[]:=by simp[uo]
         rw[E] at p;exact⟨G,A,p⟩
       ·rw[jo.1];grind
  ·rw[apo O];have:=D.kb;obtain⟨G,A,p⟩:=abY (R:=R) (m:=m) (k:=k) ay D (F:=F) (by omega);exact⟨G,A,p⟩
end
theorem apG(n:Nat)(c:Ctx)(no:Bool):(aS true n).ls c no=n4 (vx n) c no:=by cases n<;>rfl
theorem ab1{R:bj}{n:Nat}(g6:∀k m,n=m+1+k->k7 R m/\o5 R m)(hD:k7 R n)(av:n<=30){e:cn}(bc:e.ne=30- (n:Int)){c:Ctx}{no:Bool}(ay:uk c no=true){r:H}{F:ai}{st:aa}(h:cG e r F)(d:gC e r F st):bR (decide (c= .text)) e r ((aS true n).ls c no r F) (λb=>b.2) (λa _ b=>b.1=(a:Int)) (Ff R st (jZ c) (pA c) (!no)):=by rw[apG,aps,apj];have M:=h.b3;have U:=h.sfx.length_le;grind[apB,wL]
theorem UQ:∀(k n:Nat),n<=30->(2*n+1<=k->k7 (lg k) n)/\(2*n+2<=k->o5 (lg k) n):=by
 intro k;induction k with
 |zero=>omega
 |succ k a=>
  intro n av;refine⟨λh=>⟨λe bc t F ah b=>?_⟩,λh=>⟨λe c no ay bc r F st b d=>?_⟩⟩
  ·exact anx (R:=lg k) (λm hm=>⟨(a m (by omega)).1 (by omega),(a m (by omega)).2 (by omega)⟩) av bc b
  ·have f:decide (c= .text)=false:=eu (by rintro rfl;cases ay);have:=ab1 (R:=lg k) (λj m hm=>⟨(a m (by omega)).1 (by omega),(a m (by omega)).2 (by omega)⟩) ((a n av).1 (by omega)) av bc (c:=c) (no:=no) (by grind[uk]) b d;rw[f] at this;exact this
theorem UR(s:H):dL (c6 s):=by
 unfold c6;split
 ·rename_i h;right;rcases List.eq_nil_or_concat s with rfl|⟨t,b,rfl⟩
  ·grind
  grind
 ·exact .inr ⟨s,rfl⟩
theorem N7(s:H):c6 s≠[]:=by
 unfold c6;split
 ·grind
 ·simp
theorem apH(s:H)(Y:s.length<=1000000)(b:Bool):(bif b then some s else(a2 (((s.length+([10]:H).length:Nat):Int)<=9223372036854775807)<|some (s++([10]:H))))=some (bif b then s else s++[10]):=by
 cases b with
 |true=>rfl
 |false=>exact(aU _ _).trans (aat s Y)
theorem apI(s:H)(Y:s.length<=1000000):IE s=some (c6 s):=by
 unfold IE;rw[apH s Y];unfold c6;rcases List.eq_nil_or_concat s with rfl|⟨t,b,rfl⟩
 ·decide
 ·rw[List.concat_eq_append] at*;have ax:(t++[b]).length=t.length+1:=by simp
  have a:W (((t++[b]).length:Int)-1)=(t.length:Int):=by grind[dJ]
  have c:at' (t++[b]) (t.length:Int)=b:=by simp[at']
  simp only[a,c,p_];rw[bX (by omega)];simp
def e0(S:H):cn:=⟨S,0⟩
theorem apJ{s:H}(Y:(c6 s).length<=1000000):bR true (e0 (c6 s)) (c6 s) (h3 true 30 (c6 s)) (λb=>b.2) (λa _ b=>b.1=(a:Int)) (sY.oo (c6 s,0,0,([]:ai),0,0,[],([]:bw),false) ([]) ([]:bw) false):=by
 have aw:∃k,bC=k+1/\62<=k:=by
  refine⟨bC-1,?_,?_⟩
  ·rw[gF]
  simp[gF]
 obtain⟨k,aw,d⟩:=aw;have f:cG (e0 (c6 s)) (c6 s) []:=⟨Y,UR s,N7 s,fS,by simp[e0,eC,mf]⟩;have:=ab1 (R:=lg k) (n:=30) (e:=e0 (c6 s)) (λj m hm=>⟨(UQ k m (by omega)).1 (by omega),(UQ k m (by omega)).2 (by omega)⟩) ((UQ k 30 (by omega)).1 (by omega)) (cS _) (show(0:Int)=30- ((30:Nat):Int) by decide) (c:= .text) (no:=true) rfl f (st:=(e0 (c6 s)).st (c6 s) [] false) ⟨false,rfl,λh=>absurd h (N7 s)⟩;have g:(e0 (c6 s)).st (c6 s) [] false=(c6 s,0,0,([]:ai),0,0,[],([]:bw),false):=by show(c6 s,ar (c6 s) (c6 s),(0:Int),([]:ai),(0:Int),(0:Int),([]:H),([]:bw),false)=_;rw[I1]
 rw[g] at this;have i:sY.oo (c6 s,0,0,([]:ai),0,0,[],([]:bw),false) [] [] false=Ff (lg k) (c6 s,0,0,([]:ai),0,0,[],([]:bw),false) [] [] false:=by unfold sY;rw[aw];rfl
 rw[i];exact this
theorem apK{fr:Bool}{m:Nat}{u:H}{k:Nat}{r:H}{F:ai}(hu:dL u)(d:u≠[])(h:h3 fr m u= .ok k r F):r=[]/\F=[]:=by
 have Z:=ald h;subst Z;refine⟨rfl,?_⟩;unfold h3 at h;rw[AV,sj] at h;obtain⟨b,ae,f,M,U⟩:=b7 h;have a:=iL.1 M;by_cases c:ae=[]
 ·subst c;rw[tW] at a;obtain⟨g,_,_⟩:=YW _ _ _ _ _ _ (cS _) hu d a;grind[cK,SJ,cX]
 ·have e:dL ae:=hu.iD (ao.lines.sfx a);exact(ak5 fr m .text true _ _ _ _ _ _ (cS _) e c U).1
noncomputable def N8(c:Int):aa->Option (aa×Int):=λx=>
 (bif(!(decide (x.2.2.2.2.1=2))) then some ((x.1,x.2.1,x.2.2.1,x.2.2.2.1,x.2.2.2.2.1,(x.1.length:Int),x.2.2.2.2.2.2.1,x.2.2.2.2.2.2.2.1,x.2.2.2.2.2.2.2.2),c) else some ((x.1,x.2.1,x.2.2.1,x.2.2.2.1,x.2.2.2.2.1,x.2.2.2.2.2.1,x.2.2.2.2.2.2.1,x.2.2.2.2.2.2.2.1,x.2.2.2.2.2.2.2.2),c))
noncomputable def Gu(c:Int):aa->Option (aa×Int):=λx=>
 (bif(decide (x.2.2.2.2.1=1)) then(au (xv x ([10]:H)) λ(a:aa)=>N8 c a) else N8 c x)
theorem apL(s:H):AQ s=(au (IE s) λ(a:H)=>
 (au (sY.oo (a,0,0,([]:ai),0,0,[],([]:bw),false) ([]) ([]:bw) false) λy=>
 (bif(bif(decide (y.2.2.2.2.2.1=0)) then(bif y.2.2.2.2.2.2.2.2.2 then true else(decide (0<(y.2.2.2.2.1.length:Int)))) else false) then
 (au (hQ y.2 ([])) λ(b:aa)=>Gu y.1 b) else Gu y.1 y.2))):=rfl
theorem ab2{e:cn}{r:H}{nd:H}{ds:ai}{st:aa}{c:Int}(m:e.S.length<=1000000)(hm:oK e r nd ds st):∃y,Gu c st=some y/\y.1.2.2.2.2.1=1/\y.1.2.2.2.2.2.2.1=(cV nd ds [10]).1/\y.1.2.2.2.2.2.1=(e.S.length:Int):=by obtain⟨a,b,i,d,vr,f,g,op,ah⟩:=st;obtain⟨M,U,j,k,n⟩:=hm;have h:=k.nd;have Y:=k.s;simp only at M U j h Y;subst M U j Y;have o:=uf d;have l:xv (e.S,b,i,d,1,f,g,op,ah) [10]=some (e.S,b,i,(cV g d [10]).2,1,f,(cV g d [10]).1,op,ah):=Di _ _ _ _ _ _ _ _ _ _ (by simp) (by grind) (by omega);unfold Gu;simp only[bA,aL];rw[l,aP rfl];exact⟨_,rfl,rfl,rfl,rfl⟩
theorem apM{s:H}(Y:(c6 s).length<=1000000):match h3 true 30 (c6 s) with
  | .ok a _ _=>∃st,AQ s=some (st,(a:Int))/\st.2.2.2.2.1=0/\st.2.2.2.2.2.1=((c6 s).length:Int)
  | .more _ nd ds=>∃st c,AQ s=some (st,c)/\st.2.2.2.2.1=1/\st.2.2.2.2.2.2.1=(cV nd ds [10]).1/\st.2.2.2.2.2.1=((c6 s).length:Int)
  |_=>∃st c,AQ s=some (st,c)/\st.2.2.2.2.1=2:=by
 have ax:s.length<=(c6 s).length:=by grind[c6]
 have h:=apJ Y;rw[apL,apI s (by omega),aP rfl];have f:=(ue true 30).ls .text true (c6 s) [];obtain⟨b,o,h⟩:=h;obtain⟨c,st⟩:=b;rw[o,aP rfl];have p:(aS true 30).ls .text true (c6 s) []=h3 true 30 (c6 s):=rfl;rw[p] at f;cases az:h3 true 30 (c6 s) with
 |ok a r F=>rw[az] at h;obtain⟨M,U,⟨ah,g,t⟩,n⟩:=h;obtain⟨rfl,rfl⟩:=apK (UR s) (N7 s) az;dsimp only at g n;have:=t rfl;subst this g n;exact⟨_,rfl,rfl,rfl⟩
 |more op nd ds=>
  rw[az] at h f;simp only[ek] at f;dsimp only at h⊢;have u:eC ([]:ai)=0:=rfl;rw[u] at f;rcases h with h|⟨_,rfl,g⟩
  ·have d:oK (e0 (c6 s)) (c6 s) nd ds st:=h;rw[d.1];simp only[show¬((1:Int)=0) by decide,bH,aU];obtain⟨y,i,j,k,l⟩:=ab2 (c:=c) (e:=e0 (c6 s)) Y d;exact⟨y.1,y.2,i,j,k,l⟩
  ·subst g;have v:((e0 (c6 s)).tt ds).2.2.2.2.1=0:=rfl;have m:((e0 (c6 s)).tt ds).2.2.2.2.2.2.2.2=true:=rfl;rw[v,m];simp only[bA,aL];have w:cG (e0 (c6 s)) (c6 s) []:=⟨Y,UR s,N7 s,fS,by simp[e0,eC,mf]⟩;obtain⟨B,z,A⟩:=Gj (F:=ds) (x:=[]) w (by show _<=100*(c6 s).length+800;omega) (by simp);rw[z,aP rfl];obtain⟨y,i,j,k,l⟩:=ab2 (c:=c) (e:=e0 (c6 s)) Y A;exact⟨y.1,y.2,i,j,k,l⟩
 |bad q=>rw[az] at h;have d:jk (e0 (c6 s)) (c6 s) st:=h;dsimp only;rw[d.1];simp only[show¬((2:Int)=0) by decide,bH,aU];unfold Gu;rw[d.1];simp only[show¬((2:Int)=1) by decide,bH,aU];unfold N8;rw[d.1];simp
 |deep q=>rw[az] at h;have d:jk (e0 (c6 s)) (c6 s) st:=h;dsimp only;rw[d.1];simp only[show¬((2:Int)=0) by decide,bH,aU];unfold Gu;rw[d.1];simp only[show¬((2:Int)=1) by decide,bH,aU];unfold N8;rw[d.1];simp
abbrev dM:=H×Int×Int
structure eH(I:H)(st:dM):Prop where
 c:st.1=I
 lo:0<=st.2.1
 bg:st.2.1<=I.length
 b3:I.length<=1048576
theorem N9(a:Int):0<=W (((BitVec.ofInt (IntKind.bits .i64) a&&&BitVec.ofInt (IntKind.bits .i64) 255).toNat:Int))/\W (((BitVec.ofInt (IntKind.bits .i64) a&&&BitVec.ofInt (IntKind.bits .i64) 255).toNat:Int))<256:=by
 have h:(BitVec.ofInt (IntKind.bits .i64) a&&&BitVec.ofInt (IntKind.bits .i64) 255).toNat<256:=by grind[BitVec.ofInt,IntKind.bits,Nat.and_le_right]
 grind[dJ]
theorem JM{I:H}{st:dM}(h:eH I st):∃v e,zb st=some (v,e)/\0<=v/\v<256/\eH I e:=by
 obtain⟨a,b,c⟩:=st;obtain⟨rfl,M,U,d⟩:=h;simp only at M U d;unfold zb a6;dsimp only;by_cases ax:b<(a.length:Int)
 ·rw[decide_eq_true ax];simp only[aL];rw[bX ⟨M,ax⟩];have f:W (b+1)=b+1:=dJ (by omega) (by omega);rw[f];exact⟨_,_,rfl,(N9 _).1,(N9 _).2,rfl,by grind,by grind,d⟩
 ·rw[eu ax];simp only[aU];exact⟨_,_,rfl,(N9 _).1,(N9 _).2,rfl,M,U,d⟩
theorem tf{I:H}{st:dM}(h:eH I st){n:Int}(M:1<=n)(U:n<=256):∃v d,iK st n=some (v,d)/\0<=v/\v<n/\eH I d:=by unfold iK;obtain⟨v,d,f,g,i,e⟩:=JM h;rw[eu (show¬n<=0 by omega),decide_eq_true U];simp only[aU,aL];rw[f,aP rfl];dsimp only;rw[bX (show n≠0 by omega)];refine⟨_,_,rfl,Int.tmod_nonneg _ g,Int.tmod_lt_of_pos _ (by omega),?_⟩;obtain⟨a,b,c⟩:=d;exact⟨h.c,e.lo,e.bg,e.b3⟩
theorem ab3(I:H)(e:I.length<=1048576):∃st,ID I=some st/\eH I (I,st.2.1,st.2.2):=by
 have ax:∀(bz:Nat)(a b:Int),0<=b->b<=4000->(4000-b)<bz->∃c,fixF (Sk I (λf=>some (I,0,f))) bz (a,b)=some (I,0,c):=by
  intro bz;induction bz with
  |zero=>omega
  |succ bz g=>
   intro a b h0 M h;rw[fm];unfold Sk;dsimp only;by_cases d:b<(I.length:Int)/\b<4000
   ·rw[decide_eq_true d.1,decide_eq_true d.2];simp only[aL];rw[bX ⟨h0,d.1⟩];have i:W (b+1)=b+1:=dJ (by omega) (by omega);rw[i];exact g _ _ (by omega) (by omega) (by omega)
   ·have:(bif decide (b<(I.length:Int)) then decide (b<4000) else false)=false:=by grind
    rw[this];simp
 unfold ID a6;obtain⟨c,ay⟩:=ax bC (W (600128+(I.length:Int))) 0 (by omega) (by omega) (by simp[gF]);exact⟨_,ay,rfl,sx 0,by simp,e⟩
def Gv:bw:=[([97]:H),([98,49]:H),([120,61,49]:H),([102,105,108,101]:H),([195,169]:H),([105,110]:H),([97,35,98]:H)]
def nj:bw:=[[39,113,32,114,39],[34,97,32,98,34],[97,92,32,98],[36,120],[36,40,40,49,43,40,50,41,41,41],[96,99,32,100,96],[45,108],[97,92,10,98]]++Gv
def q7:bw:=[([108,115]:H),([101,99,104,111]:H),([99,97,116]:H),([120,61,49]:H)]
def jl:bw:=[([32,38,38,32]:H),([32,124,124,32]:H),([32,124,32]:H),([59,32]:H),([32,38,32]:H),([10]:H),([32,124,10]:H),([59,32,35,32,114,10]:H)]
def ab4(L W:H->Prop)(w:H):Prop:=w∈nj\/(∃t,L t/\(w=[36,40]++t++[41]\/w=[34,120,36,40]++t++[41,34]))\/∃v,W v/\w=[36,123,120,58,45]++v++[125]
def jb(ws:bw):H:=ws.flatMap (λw=>32::w)
def qi(W a:H->Prop)(s:H):Prop:=∃h ws r,h∈q7/\(∀w∈ws,W w)/\s=h++jb ws++r/\(r=[]\/r=[32,50,62,38,49]\/∃w,a w/\r=[32,62]++w)
def tg(L W:H->Prop)(c:H):Prop:=
 (∃t,L t/\c=[40]++t++[41])\/
 (∃t,L t/\c=[123,32]++(t++[10])++[125])\/
 (∃t u,L t/\L u/\c=[105,102,32]++(t++[59])++[32,116,104,101,110,32]++(u++[10])++[102,105])\/
 (∃t u,L t/\L u/\c=[105,102,32,97,59,32,116,104,101,110,10]++(t++[10])++[101,108,105,102,32,98,10,116,104,101,110,32,99,10,101,108,115,101,32]++(u++[59])++[102,105,32,50,62,102])\/
 (∃t u,L t/\L u/\c=[119,104,105,108,101,32]++(t++[10])++[100,111,32]++(u++[59])++[32,100,111,110,101])\/
 (∃w u,W w/\L u/\c=[102,111,114,32,120,32,105,110,32,97,32]++w++[59,32,100,111,32]++(u++[59])++[100,111,110,101])\/
 c=[102,111,114,32,120,10,100,111,32,97,10,100,111,110,101]\/
 (∃w u,W w/\L u/\c=[99,97,115,101,32]++w++[32,105,110,32,97,124,98,41,32]++(u++[])++[59,59,10,40,99,41,32,59,59,32,100,41,32,101,115,97,99])\/
 (∃t,L t/\c=[102,40,41,32,123,10]++(t++[10])++[125,32,62,102])
def cR(l:List (H×H)):H:=l.flatMap (λp=>p.1++p.2)
def rY(C:H->Prop)(t:H):Prop:=∃c rest,C c/\(∀p∈rest,p.1∈jl/\C p.2)/\t=c++cR rest
def Bn:Nat->(H->Prop)×(H->Prop)
 |0=>(λw=>w∈nj,rY (qi (λw=>w∈nj) (λw=>w∈nj)))
 |d+1=>(ab4 (Bn d).2 (Bn d).1,rY λc=>qi (ab4 (Bn d).2 (Bn d).1) (λw=>w∈nj) c\/tg (Bn d).2 (Bn d).1 c)
def fY(d:Nat):H->Prop:=(Bn d).1
def gP(d:Nat):H->Prop:=(Bn d).2
def zM:Nat->H->Prop
 |0=>qi (fY 0) (fY 0)
 |d+1=>λc=>qi (fY (d+1)) (fY 0) c\/tg (gP d) (fY d) c
theorem N_(d:Nat):gP d=rY (zM d):=by cases d<;>rfl
theorem ab5{d:Nat}{w:H}(h:w∈nj):fY d w:=by
 cases d with
 |zero=>exact h
 |succ d=>exact .inl h
def lens:Nat->Nat×Nat
 |0=>(10,200)
 |d+1=>let w:=(lens d).2+(lens d).1+10;(w,3*(2*(lens d).2+(lens d).1+2*w+80)+20)
def lw(d:Nat):Nat:=(lens d).1
def pE(d:Nat):Nat:=(lens d).2
def lc:Nat->Nat
 |0=>60
 |d+1=>2*pE d+lw d+2*lw (d+1)+80
theorem US(d:Nat):lw (d+1)=pE d+lw d+10:=rfl
theorem apO(d:Nat):pE d=3*lc d+20:=by cases d<;>rfl
theorem q8{d:Nat}(h:d<=3):lw d<=40000/\pE d<=460000/\lc d<=160000/\10<=lw d:=by
 match d,h with
 |0,_=>decide
 |1,_=>decide
 |2,_=>decide
 |3,_=>decide
def pF(R:bj)(d:Nat):Prop:=∀(I:H)(st:dM),eH I st->∃t a,R.oq st (d:Int)=some (t,a)/\fY d t/\t.length<=lw d/\eH I a
def DB(R:bj)(d:Nat):Prop:=∀(I:H)(st:dM)(sfx:H),sfx.length<=1->eH I st->∃t a,R.hZ st (d:Int) sfx=some (t++sfx,a)/\gP d t/\t.length<=pE d/\eH I a
theorem kL{n:Nat}(h:n<=100000000):((n:Nat):Int)<=9223372036854775807:=by omega
theorem wU{d:Nat}(h:d<=3):W (((d+1:Nat):Int)-1)=(d:Int):=by grind[dJ]
theorem at_mem{l:bw}{v:Int}(h0:0<=v)(M:v<(l.length:Int)):at' l v∈l:=by grind[at']
theorem ab6:∀w∈nj,w.length<=10:=by decide
theorem eH.st{I:H}{st:dM}(h:eH I st):(I,st.2.1,st.2.2)=st:=by rw[<-h.c]
noncomputable def Oa(R:bj)(b:Int)(st:dM)(a:Int):Option (H×dM):=
 (bif(decide (a=1)) then some (([39,113,32,114,39]:H),st) else(bif(decide (a=2)) then some (([34,97,32,98,34]:H),st) else(bif(decide (a=3)) then some (([97,92,32,98]:H),st) else(bif(decide (a=4)) then some (([36,120]:H),st) else(bif(decide (a=5)) then some (([36,40,40,49,43,40,50,41,41,41]:H),st) else(bif(decide (a=6)) then some (([96,99,32,100,96]:H),st) else(bif(decide (a=7)) then some (([45,108]:H),st) else(bif(decide (a=8)) then(au (R.hZ st (W (b-1)) ([])) λ(c,g)=>(a2 (((([36,40]:H).length+c.length:Nat):Int)<=9223372036854775807)<|(a2 ((((([36,40]:H)++c).length+([41]:H).length:Nat):Int)<=9223372036854775807)<|some (((([36,40]:H)++c)++([41]:H)),(st.1,g.2.1,g.2.2))))) else(bif(decide (a=9)) then(au (R.hZ st (W (b-1)) ([])) λ(d,h)=>(a2 (((([34,120,36,40]:H).length+d.length:Nat):Int)<=9223372036854775807)<|(a2 ((((([34,120,36,40]:H)++d).length+([41,34]:H).length:Nat):Int)<=9223372036854775807)<|some (((([34,120,36,40]:H)++d)++([41,34]:H)),(st.1,h.2.1,h.2.2))))) else(bif(decide (a=10)) then(au (R.oq st (W (b-1))) λ(e,i)=>(a2 (((([36,123,120,58,45]:H).length+e.length:Nat):Int)<=9223372036854775807)<|(a2 ((((([36,123,120,58,45]:H)++e).length+([125]:H).length:Nat):Int)<=9223372036854775807)<|some (((([36,123,120,58,45]:H)++e)++([125]:H)),(st.1,i.2.1,i.2.2))))) else(bif(decide (a=11)) then some (([97,92,10,98]:H),st) else(au (iK st 7) λ(f,j)=>(a2 (0<=f/\f<(([([97]:H),([98,49]:H),([120,61,49]:H),([102,105,108,101]:H),([195,169]:H),([105,110]:H),([97,35,98]:H)]:bw).length:Int))<|some ((at' ([([97]:H),([98,49]:H),([120,61,49]:H),([102,105,108,101]:H),([195,169]:H),([105,110]:H),([97,35,98]:H)]:bw) f),(st.1,j.2.1,j.2.2)))))))))))))))
theorem apP(R:bj)(I:dM)(a:Int):Mu R I a=au (iK I 14) λz=>(bif(bif(decide (a<=0)) then(decide (8<=z.1)) else false) then Oa R a (I.1,z.2.2.1,z.2.2.2) 0 else Oa R a (I.1,z.2.2.1,z.2.2.2) z.1):=rfl
theorem apQ{R:bj}{d:Nat}(aD:d<=3)(bk:∀a,d=a+1->DB R a/\pF R a){I:H}{st:dM}(h:eH I st){y:Int}(J:d=0->y<8):∃t c,Oa R (d:Int) st y=some (t,c)/\fY d t/\t.length<=lw d/\eH I c:=by
 obtain⟨K,L,M,F⟩:=q8 aD
 have e:∀{w:H},w∈nj->∃t c,(some (w,st):Option (H×dM))=some (t,c)/\fY d t/\t.length<=lw d/\eH I c:=λ{w} G=>⟨w,st,rfl,ab5 G,by grind[ab6],h⟩
 unfold Oa;by_cases f:y=1
 ·simp only[f,bA,aL];exact e (by decide)
 by_cases i:y=2
 ·rw[eu f];simp only[i,bA,aL,aU];exact e (by decide)
 by_cases k:y=3
 ·rw[eu f,eu i];simp only[k,bA,aL,aU];exact e (by decide)
 by_cases m:y=4
 ·rw[eu f,eu i,eu k];simp only[m,bA,aL,aU];exact e (by decide)
 by_cases s:y=5
 ·rw[eu f,eu i,eu k,eu m];simp only[s,bA,aL,aU];exact e (by decide)
 by_cases z:y=6
 ·rw[eu f,eu i,eu k,eu m,eu s];simp only[z,bA,aL,aU];exact e (by decide)
 by_cases B:y=7
 ·rw[eu f,eu i,eu k,eu m,eu s,eu z];simp only[B,bA,aL,aU];exact e (by decide)
 rw[eu f,eu i,eu k,eu m,eu s,eu z,eu B];simp only[aU];by_cases o:y=8
 ·obtain⟨a,rfl⟩:∃a,d=a+1:=⟨d-1,by omega⟩
  obtain⟨t,c,j,g,u,b⟩:=(bk a rfl).1 I st [] (by simp) h;obtain⟨C,p,q,r⟩:=q8 (d:=a) (by omega);simp only[o,bA,aL];rw[wU (by omega),j,aP rfl];dsimp only;rw[k8,bX (kL (by grind)),bX (kL (by grind)),h.c,b.st];refine⟨_,_,rfl,.inr (.inl ⟨t,g,.inl rfl⟩),?_,b⟩;grind[US]
 by_cases x:y=9
 ·obtain⟨a,rfl⟩:∃a,d=a+1:=⟨d-1,by omega⟩
  obtain⟨t,c,j,g,u,b⟩:=(bk a rfl).1 I st [] (by simp) h;obtain⟨C,p,q,r⟩:=q8 (d:=a) (by omega);rw[eu o];simp only[x,bA,aL,aU];rw[wU (by omega),j,aP rfl];dsimp only;rw[k8,bX (kL (by grind)),bX (kL (by grind)),h.c,b.st];refine⟨_,_,rfl,.inr (.inl ⟨t,g,.inr rfl⟩),?_,b⟩;grind[US]
 by_cases A:y=10
 ·obtain⟨a,rfl⟩:∃a,d=a+1:=⟨d-1,by omega⟩
  obtain⟨t,c,j,g,u,b⟩:=(bk a rfl).2 I st h;obtain⟨C,p,q,r⟩:=q8 (d:=a) (by omega);rw[eu o,eu x];simp only[A,bA,aL,aU];rw[wU (by omega),j,aP rfl];dsimp only;rw[bX (kL (by grind)),bX (kL (by grind)),h.c,b.st];refine⟨_,_,rfl,.inr (.inr ⟨t,g,rfl⟩),?_,b⟩;grind[US]
 by_cases D:y=11
 ·rw[eu o,eu x,eu A];simp only[D,bA,aL,aU];exact e (by decide)
 rw[eu o,eu x,eu A,eu D];simp only[aU];obtain⟨v,c,j,g,u,b⟩:=tf h (n:=7) (by decide) (by decide);rw[j,aP rfl];dsimp only;have hm:=at_mem (l:=Gv) g (by show v<((7:Nat):Int);omega);rw[bX ⟨g,u⟩,h.c,b.st];have E:at' Gv v∈nj:=yi _ hm;exact⟨_,_,rfl,ab5 E,by have:=ab6 _ E;exact kN this F,b⟩
theorem apR{P:H->Prop}{nh:dM->Int->Option (H×dM)}{d:Nat}{I:H}{st:dM}(h:eH I st)(c:∀st y,eH I st->(d=0->y<8)->∃t a,nh st y=some (t,a)/\P t/\eH I a):∃t a,(au (iK st 14) λz=>(bif(bif(decide ((d:Int)<=0)) then(decide (8<=z.1)) else false) then nh (st.1,z.2.2.1,z.2.2.2) 0 else nh (st.1,z.2.2.1,z.2.2.2) z.1))=some (t,a)/\P t/\eH I a:=by
 obtain⟨y,e,b,f,g,M⟩:=tf h (n:=14) (by decide) (by decide);rw[b,aP rfl];dsimp only;rw[h.c,M.st];cases i:(bif(decide ((d:Int)<=0)) then(decide (8<=y)) else false) with
 |true=>simp_all
 |false=>simp_all
theorem apS{R:bj}{d:Nat}(aD:d<=3)(bk:∀a,d=a+1->DB R a/\pF R a){I:H}{st:dM}(h:eH I st):∃t b,Mu R st (d:Int)=some (t,b)/\(fY d t/\t.length<=lw d)/\eH I b:=by
 rw[apP]
 exact apR h (λst y M U=>by obtain⟨t,b,c,aj,a3,e⟩:=apQ aD bk M U;grind)
theorem ab_(R:bj)(x:dM)(d:Int)(j:H×Int×Int->Option (H×dM))(k:H×Int×Int×Int->Option (H×dM))(s:H)(c a b:Int):CQ R x d j k (s,c,a,b)=bif(decide (0<c)) then
 (a2 (((s.length+([32]:H).length:Nat):Int)<=9223372036854775807)<|(au (R.oq (x.1,a,b) d) λv=>(a2 ((((s++([32]:H)).length+v.1.length:Nat):Int)<=9223372036854775807)<|k (((s++([32]:H))++v.1),(W (c-1)),v.2.2.1,v.2.2.2)))) else j (s,a,b):=rfl
theorem q9(a b:H)(c:a.length<=1000000)(d:b.length<=1000000):((a.length+b.length:Nat):Int)<=9223372036854775807:=kL (by omega)
theorem apT{R:bj}{x:dM}{d:Int}{j:H×Int×Int->Option (H×dM)}{k:H×Int×Int×Int->Option (H×dM)}{s:H}{c:Nat}{I:H}{st a:dM}{t:H}(ay:c<=10)(b:x.1=I)(h:eH I st)(e:R.oq st d=some (t,a))(Y:s.length<=900000)(f:t.length<=1000000):
  CQ R x d j k (s,((c+1:Nat):Int),st.2.1,st.2.2)=k (s++[32]++t,(c:Int),a.2.1,a.2.2):=by
 rw[ab_,decide_eq_true (show(0:Int)<((c+1:Nat):Int) by omega),aL,bX (q9 s [32] (by omega) (by decide)),b,h.st,e,aP rfl,bX (q9 (s++[32]) t (by grind) f)];have g:W (((c+1:Nat):Int)-1)=(c:Int):=by grind[dJ]
 rw[g]
theorem apU{R:bj}{d:Nat}(aD:d<=3)(hW:pF R d){I:H}{x:dM}(f:x.1=I){j:H×Int×Int->Option (H×dM)}:∀(bz c:Nat)(s:H)(st:dM),c<bz->c<=2->s.length<=100+(2-c) *40001->eH I st->
  ∃ws a,fixF (CQ R x (d:Int) j) bz (s,(c:Int),st.2.1,st.2.2)=j (s++jb ws,a.2.1,a.2.2)/\(∀w∈ws,fY d w)/\(jb ws).length<=c*(lw d+1)/\eH I a:=by
 obtain⟨o,_,_,_⟩:=q8 aD;intro bz;induction bz with
 |zero=>omega
 |succ bz e=>
  intro c s st ay p Y h;rw[fm];generalize fixF (CQ R x (d:Int) j) bz=k at e⊢;cases c with
  |zero=>rw[ab_];refine⟨[],st,?_,by simp,by simp[jb],h⟩;simp[jb]
  |succ c=>
   obtain⟨t,g,i,q,r,l⟩:=hW I st h;have b:(s++[32]++t).length<=100+(2-c) *40001:=by grind
   rw[apT (by omega) f h i (by omega) (by omega)];obtain⟨ws,a,m,aj,a3,n⟩:=e c (s++[32]++t) g (by omega) (by omega) b l;rw[m];refine⟨t::ws,a,?_,?_,?_,n⟩
   ·simp[jb]
   ·grind
   ·simp only[jb,List.flatMap_cons,qk,nn] at a3⊢;grind
noncomputable def Bo(c:H)(n:Int)(s:H)(st:dM):Option (H×dM):=
 bif(decide (n=1)) then
 (a2 (((s.length+([32,50,62,38,49]:H).length:Nat):Int)<=9223372036854775807)<|some ((s++([32,50,62,38,49]:H)),(c,st.2.1,st.2.2)))
 else some (s,(c,st.2.1,st.2.2))
noncomputable def DC(R:bj)(c:H)(s:H)(st:dM):Option (H×dM):=
 au (iK (c,st.2.1,st.2.2) 8) λz=>
 bif(decide (z.1=0)) then
 (a2 (((s.length+([32,62]:H).length:Nat):Int)<=9223372036854775807)<|(au (R.oq (c,z.2.2.1,z.2.2.2) 0) λv=>(a2 ((((s++([32,62]:H)).length+v.1.length:Nat):Int)<=9223372036854775807)<|Bo c z.1 ((s++([32,62]:H))++v.1) v.2)))
 else Bo c z.1 s z.2
theorem apV(R:bj)(I:dM)(a:Int):CR R I a=(au (iK I 4) λz=>
 (a2 (0<=z.1/\z.1<((q7).length:Int))<|
 (au (iK (I.1,z.2.2.1,z.2.2.2) 3) λv=>
 (fixF (CQ R I a (λy=>DC R I.1 y.1 (I.1,y.2.1,y.2.2))) bC ((at' q7 z.1),v.1,v.2.2.1,v.2.2.2))))):=rfl
theorem apW{c:H}{s:H}{st:dM}(Y:s.length<=1000000):Bo c 1 s st=some (s++[32,50,62,38,49],(c,st.2.1,st.2.2)):=by unfold Bo;rw[decide_eq_true rfl,aL,bX (q9 s [32,50,62,38,49] Y (by decide))]
theorem aca{c:H}{s:H}{st:dM}{n:Int}(av:¬n=1):Bo c n s st=some (s,(c,st.2.1,st.2.2)):=by simp_all[Bo]
theorem apX{R:bj}{I:H}{s t:H}{st a b:dM}(h:eH I st)(M:eH I a)(c:iK st 8=some (0,a))(d:R.oq a 0=some (t,b))(Y:s.length<=900000)(e:t.length<=1000000):DC R I s st=Bo I 0 (s++[32,62]++t) b:=by unfold DC;rw[h.st,c,aP rfl];show(bif decide ((0:Int)=0) then _ else _)=_;rw[decide_eq_true rfl,aL,bX (q9 s [32,62] (by omega) (by decide))];show au (R.oq (I,a.2.1,a.2.2) 0) _=_;rw[M.st,d,aP rfl,bX (q9 (s++[32,62]) t (by grind) e)]
theorem apY{R:bj}{I:H}{s:H}{st a:dM}{v:Int}(h:eH I st)(b:iK st 8=some (v,a))(c:¬v=0):DC R I s st=Bo I v s a:=by unfold DC;rw[h.st,b,aP rfl];grind
theorem apZ{R:bj}{I:H}(e:pF R 0){s:H}(Y:s.length<=900000){st:dM}(h:eH I st):∃r b,DC R I s st=some (s++r,b)/\(r=[]\/r=[32,50,62,38,49]\/∃w,fY 0 w/\r=[32,62]++w)/\r.length<=12/\eH I b:=by
 obtain⟨v,c,d,j,k,a⟩:=tf h (n:=8) (by decide) (by decide);by_cases h0:v=0
 ·subst h0;obtain⟨t,l,f,m,g,i⟩:=e I c a;have o:t.length<=10:=g;rw[apX h a d f Y (by omega),aca (by decide),i.st];grind
 ·rw[apY h d h0];by_cases M:v=1
  ·subst M;rw[apW (by omega),a.st];grind
  ·rw[aca M,a.st];exact⟨[],c,by simp,.inl rfl,by simp,a⟩
theorem ap0:∀h∈q7,h.length<=4:=by decide
theorem ap1{R:bj}{d:Nat}(aD:d<=3)(hW:pF R d)(i:pF R 0){I:H}{st:dM}(h:eH I st):∃t a,CR R st (d:Int)=some (t,a)/\qi (fY d) (fY 0) t/\t.length<=2*lw d+20/\eH I a:=by
 obtain⟨C,_,_,_⟩:=q8 aD;obtain⟨v,D,m,b,e,f⟩:=tf h (n:=4) (by decide) (by decide);rw[apV,m,aP rfl];dsimp only;rw[bX ⟨b,e⟩,h.c,f.st];obtain⟨c,o,p,E,F,q⟩:=tf f (n:=3) (by decide) (by decide);rw[p,aP rfl];dsimp only;have hm:=at_mem (l:=q7) b e;have G:=ap0 _ hm
 obtain⟨k,rfl⟩:∃k:Nat,c=(k:Int):=⟨c.toNat,by omega⟩
 obtain⟨ws,J,u,aj,a3,g⟩:=apU aD hW (x:=st) h.c (j:=λy=>DC R I y.1 (I,y.2.1,y.2.2)) bC k (at' q7 v) o (by grind[gF]) (by omega) (by omega) q;rw[u];dsimp only;have aw:k*(lw d+1)<=2*(lw d+1):=tp _ (by omega);rw[g.st];obtain⟨r,w,z,A,K,B⟩:=apZ i (s:=at' q7 v++jb ws) (by grind) g;rw[z];exact⟨_,_,rfl,⟨_,ws,r,hm,aj,rfl,A⟩,by grind,B⟩
noncomputable def nk(R:bj)(a:Int)(st:dM)(b:Int):Option (H×dM):=
 (bif(decide (b=1)) then(au (R.hZ st (W (a-1)) ([])) λ(h,p)=>(a2 (((([40]:H).length+h.length:Nat):Int)<=9223372036854775807)<|(a2 ((((([40]:H)++h).length+([41]:H).length:Nat):Int)<=9223372036854775807)<|some (((([40]:H)++h)++([41]:H)),(st.1,p.2.1,p.2.2))))) else(bif(decide (b=2)) then(au (R.hZ st (W (a-1)) ([10]:H)) λ(i,q)=>(a2 (((([123,32]:H).length+i.length:Nat):Int)<=9223372036854775807)<|(a2 ((((([123,32]:H)++i).length+([125]:H).length:Nat):Int)<=9223372036854775807)<|some (((([123,32]:H)++i)++([125]:H)),(st.1,q.2.1,q.2.2))))) else(bif(decide (b=3)) then(au (R.hZ st (W (a-1)) ([59]:H)) λ(c,r)=>(a2 (((([105,102,32]:H).length+c.length:Nat):Int)<=9223372036854775807)<|(a2 ((((([105,102,32]:H)++c).length+([32,116,104,101,110,32]:H).length:Nat):Int)<=9223372036854775807)<|(au (R.hZ (st.1,r.2.1,r.2.2) (W (a-1)) ([10]:H)) λ(j,s)=>(a2 (((((([105,102,32]:H)++c)++([32,116,104,101,110,32]:H)).length+j.length:Nat):Int)<=9223372036854775807)<|(a2 ((((((([105,102,32]:H)++c)++([32,116,104,101,110,32]:H))++j).length+([102,105]:H).length:Nat):Int)<=9223372036854775807)<|some (((((([105,102,32]:H)++c)++([32,116,104,101,110,32]:H))++j)++([102,105]:H)),(st.1,s.2.1,s.2.2)))))))) else(bif(decide (b=4)) then(au (R.hZ st (W (a-1)) ([10]:H)) λ(d,t)=>(a2 (((([105,102,32,97,59,32,116,104,101,110,10]:H).length+d.length:Nat):Int)<=9223372036854775807)<|(a2 ((((([105,102,32,97,59,32,116,104,101,110,10]:H)++d).length+([101,108,105,102,32,98,10,116,104,101,110,32,99,10,101,108,115,101,32]:H).length:Nat):Int)<=9223372036854775807)<|(au (R.hZ (st.1,t.2.1,t.2.2) (W (a-1)) ([59]:H)) λ(k,u)=>(a2 (((((([105,102,32,97,59,32,116,104,101,110,10]:H)++d)++([101,108,105,102,32,98,10,116,104,101,110,32,99,10,101,108,115,101,32]:H)).length+k.length:Nat):Int)<=9223372036854775807)<|(a2 ((((((([105,102,32,97,59,32,116,104,101,110,10]:H)++d)++([101,108,105,102,32,98,10,116,104,101,110,32,99,10,101,108,115,101,32]:H))++k).length+([102,105,32,50,62,102]:H).length:Nat):Int)<=9223372036854775807)<|some (((((([105,102,32,97,59,32,116,104,101,110,10]:H)++d)++([101,108,105,102,32,98,10,116,104,101,110,32,99,10,101,108,115,101,32]:H))++k)++([102,105,32,50,62,102]:H)),(st.1,u.2.1,u.2.2)))))))) else(bif(decide (b=5)) then(au (R.hZ st (W (a-1)) ([10]:H)) λ(e,v)=>(a2 (((([119,104,105,108,101,32]:H).length+e.length:Nat):Int)<=9223372036854775807)<|(a2 ((((([119,104,105,108,101,32]:H)++e).length+([100,111,32]:H).length:Nat):Int)<=9223372036854775807)<|(au (R.hZ (st.1,v.2.1,v.2.2) (W (a-1)) ([59]:H)) λ(l,w)=>(a2 (((((([119,104,105,108,101,32]:H)++e)++([100,111,32]:H)).length+l.length:Nat):Int)<=9223372036854775807)<|(a2 ((((((([119,104,105,108,101,32]:H)++e)++([100,111,32]:H))++l).length+([32,100,111,110,101]:H).length:Nat):Int)<=9223372036854775807)<|some (((((([119,104,105,108,101,32]:H)++e)++([100,111,32]:H))++l)++([32,100,111,110,101]:H)),(st.1,w.2.1,w.2.2)))))))) else(bif(decide (b=6)) then(au (R.oq st (W (a-1))) λ(f,x)=>(a2 (((([102,111,114,32,120,32,105,110,32,97,32]:H).length+f.length:Nat):Int)<=9223372036854775807)<|(a2 ((((([102,111,114,32,120,32,105,110,32,97,32]:H)++f).length+([59,32,100,111,32]:H).length:Nat):Int)<=9223372036854775807)<|(au (R.hZ (st.1,x.2.1,x.2.2) (W (a-1)) ([59]:H)) λ(m,y)=>(a2 (((((([102,111,114,32,120,32,105,110,32,97,32]:H)++f)++([59,32,100,111,32]:H)).length+m.length:Nat):Int)<=9223372036854775807)<|(a2 ((((((([102,111,114,32,120,32,105,110,32,97,32]:H)++f)++([59,32,100,111,32]:H))++m).length+([100,111,110,101]:H).length:Nat):Int)<=9223372036854775807)<|some (((((([102,111,114,32,120,32,105,110,32,97,32]:H)++f)++([59,32,100,111,32]:H))++m)++([100,111,110,101]:H)),(st.1,y.2.1,y.2.2)))))))) else(bif(decide (b=7)) then some (([102,111,114,32,120,10,100,111,32,97,10,100,111,110,101]:H),st) else(bif(decide (b=8)) then(au (R.oq st (W (a-1))) λ(g,z)=>(a2 (((([99,97,115,101,32]:H).length+g.length:Nat):Int)<=9223372036854775807)<|(a2 ((((([99,97,115,101,32]:H)++g).length+([32,105,110,32,97,124,98,41,32]:H).length:Nat):Int)<=9223372036854775807)<|(au (R.hZ (st.1,z.2.1,z.2.2) (W (a-1)) ([])) λ(n,A)=>(a2 (((((([99,97,115,101,32]:H)++g)++([32,105,110,32,97,124,98,41,32]:H)).length+n.length:Nat):Int)<=9223372036854775807)<|(a2 ((((((([99,97,115,101,32]:H)++g)++([32,105,110,32,97,124,98,41,32]:H))++n).length+([59,59,10,40,99,41,32,59,59,32,100,41,32,101,115,97,99]:H).length:Nat):Int)<=9223372036854775807)<|some (((((([99,97,115,101,32]:H)++g)++([32,105,110,32,97,124,98,41,32]:H))++n)++([59,59,10,40,99,41,32,59,59,32,100,41,32,101,115,97,99]:H)),(st.1,A.2.1,A.2.2)))))))) else(bif(decide (b=9)) then(au (R.hZ st (W (a-1)) ([10]:H)) λ(o,B)=>(a2 (((([102,40,41,32,123,10]:H).length+o.length:Nat):Int)<=9223372036854775807)<|(a2 ((((([102,40,41,32,123,10]:H)++o).length+([125,32,62,102]:H).length:Nat):Int)<=9223372036854775807)<|some (((([102,40,41,32,123,10]:H)++o)++([125,32,62,102]:H)),(st.1,B.2.1,B.2.2))))) else(au (CR R st a) λ(D,C)=>some (D,(st.1,C.2.1,C.2.2))))))))))))
theorem ap2(R:bj)(I:dM)(a:Int):wq R I a=au (iK I 16) λz=>(bif(decide (a<=0)) then nk R a (I.1,z.2.2.1,z.2.2.2) 0 else nk R a (I.1,z.2.2.1,z.2.2.2) z.1):=rfl
section
variable{R:bj}{d:Nat}(aD:d+1<=3)(bk:DB R d)(hW:pF R d){I:H}{st:dM}(h:eH I st)
include aD bk hW h
theorem ap3:∃t a,nk R ((d+1:Nat):Int) st 1=some (t,a)/\tg (gP d) (fY d) t/\t.length<=2*pE d+lw d+80/\eH I a:=by obtain⟨g,i,j,k⟩:=q8 (d:=d) (by omega);have b:=wU (d:=d) (by omega);obtain⟨c,s1,e,f,l,ae⟩:=bk I st [] (by decide) h;unfold nk;rw[show decide ((1:Int)=1)=true from rfl,aL,b,e,aP rfl];dsimp only;rw[bX (kL (by grind)),bX (kL (by grind)),h.c,ae.st];refine⟨_,_,rfl,.inl ⟨c,f,by simp⟩,by grind,ae⟩
theorem ap4:∃t a,nk R ((d+1:Nat):Int) st 2=some (t,a)/\tg (gP d) (fY d) t/\t.length<=2*pE d+lw d+80/\eH I a:=by obtain⟨g,i,j,k⟩:=q8 (d:=d) (by omega);have b:=wU (d:=d) (by omega);obtain⟨c,s1,e,f,l,ae⟩:=bk I st [10] (by decide) h;unfold nk;rw[show decide ((2:Int)=1)=false from rfl,aU];rw[show decide ((2:Int)=2)=true from rfl,aL,b,e,aP rfl];dsimp only;rw[bX (kL (by grind)),bX (kL (by grind)),h.c,ae.st];refine⟨_,_,rfl,.inr (.inl ⟨c,f,rfl⟩),by grind,ae⟩
theorem ap5:∃t a,nk R ((d+1:Nat):Int) st 3=some (t,a)/\tg (gP d) (fY d) t/\t.length<=2*pE d+lw d+80/\eH I a:=by obtain⟨l,m,n,o⟩:=q8 (d:=d) (by omega);have c:=wU (d:=d) (by omega);obtain⟨e,s1,f,g,p,ae⟩:=bk I st [59] (by decide) h;obtain⟨i,s2,j,k,q,b⟩:=bk I s1 [10] (by decide) ae;unfold nk;rw[show decide ((3:Int)=1)=false from rfl,aU];rw[show decide ((3:Int)=2)=false from rfl,aU];rw[show decide ((3:Int)=3)=true from rfl,aL,c,f,aP rfl];dsimp only;rw[bX (kL (by grind)),bX (kL (by grind)),h.c,ae.st];rw[j,aP rfl];dsimp only;rw[bX (kL (by grind)),bX (kL (by grind)),b.st];refine⟨_,_,rfl,.inr (.inr (.inl ⟨e,i,g,k,rfl⟩)),by grind,b⟩
theorem ap6:∃t a,nk R ((d+1:Nat):Int) st 4=some (t,a)/\tg (gP d) (fY d) t/\t.length<=2*pE d+lw d+80/\eH I a:=by obtain⟨l,m,n,o⟩:=q8 (d:=d) (by omega);have c:=wU (d:=d) (by omega);obtain⟨e,s1,f,g,p,ae⟩:=bk I st [10] (by decide) h;obtain⟨i,s2,j,k,q,b⟩:=bk I s1 [59] (by decide) ae;unfold nk;rw[show decide ((4:Int)=1)=false from rfl,aU];rw[show decide ((4:Int)=2)=false from rfl,aU];rw[show decide ((4:Int)=3)=false from rfl,aU];rw[show decide ((4:Int)=4)=true from rfl,aL,c,f,aP rfl];dsimp only;rw[bX (kL (by grind[List.length_cons])),bX (kL (by grind[List.length_cons])),h.c,ae.st];rw[j,aP rfl];dsimp only;rw[bX (kL (by grind[List.length_cons])),bX (kL (by grind[List.length_cons])),b.st];refine⟨_,_,rfl,.inr (.inr (.inr (.inl ⟨e,i,g,k,rfl⟩))),by grind[List.length_cons],b⟩
theorem ap7:∃t a,nk R ((d+1:Nat):Int) st 5=some (t,a)/\tg (gP d) (fY d) t/\t.length<=2*pE d+lw d+80/\eH I a:=by obtain⟨l,m,n,o⟩:=q8 (d:=d) (by omega);have c:=wU (d:=d) (by omega);obtain⟨e,s1,f,g,p,ae⟩:=bk I st [10] (by decide) h;obtain⟨i,s2,j,k,q,b⟩:=bk I s1 [59] (by decide) ae;unfold nk;rw[show decide ((5:Int)=1)=false from rfl,aU];rw[show decide ((5:Int)=2)=false from rfl,aU];rw[show decide ((5:Int)=3)=false from rfl,aU];rw[show decide ((5:Int)=4)=false from rfl,aU];rw[show decide ((5:Int)=5)=true from rfl,aL,c,f,aP rfl];dsimp only;rw[bX (kL (by grind)),bX (kL (by grind)),h.c,ae.st];rw[j,aP rfl];dsimp only;rw[bX (kL (by grind)),bX (kL (by grind)),b.st];refine⟨_,_,rfl,.inr (.inr (.inr (.inr (.inl ⟨e,i,g,k,rfl⟩)))),by grind,b⟩
theorem ap8:∃t a,nk R ((d+1:Nat):Int) st 6=some (t,a)/\tg (gP d) (fY d) t/\t.length<=2*pE d+lw d+80/\eH I a:=by obtain⟨l,m,n,o⟩:=q8 (d:=d) (by omega);have c:=wU (d:=d) (by omega);obtain⟨e,s1,f,g,p,ae⟩:=hW I st h;obtain⟨i,s2,j,k,q,b⟩:=bk I s1 [59] (by decide) ae;unfold nk;rw[show decide ((6:Int)=1)=false from rfl,aU];rw[show decide ((6:Int)=2)=false from rfl,aU];rw[show decide ((6:Int)=3)=false from rfl,aU];rw[show decide ((6:Int)=4)=false from rfl,aU];rw[show decide ((6:Int)=5)=false from rfl,aU];rw[show decide ((6:Int)=6)=true from rfl,aL,c,f,aP rfl];dsimp only;rw[bX (kL (by grind[List.length_cons])),bX (kL (by grind[List.length_cons])),h.c,ae.st];rw[j,aP rfl];dsimp only;rw[bX (kL (by grind[List.length_cons])),bX (kL (by grind[List.length_cons])),b.st];refine⟨_,_,rfl,.inr (.inr (.inr (.inr (.inr (.inl ⟨e,i,g,k,rfl⟩))))),by grind[List.length_cons],b⟩
theorem ap9:∃t a,nk R ((d+1:Nat):Int) st 8=some (t,a)/\tg (gP d) (fY d) t/\t.length<=2*pE d+lw d+80/\eH I a:=by obtain⟨l,m,n,o⟩:=q8 (d:=d) (by omega);have c:=wU (d:=d) (by omega);obtain⟨e,s1,f,g,p,ae⟩:=hW I st h;obtain⟨i,s2,j,k,q,b⟩:=bk I s1 [] (by decide) ae;unfold nk;rw[show decide ((8:Int)=1)=false from rfl,aU];rw[show decide ((8:Int)=2)=false from rfl,aU];rw[show decide ((8:Int)=3)=false from rfl,aU];rw[show decide ((8:Int)=4)=false from rfl,aU];rw[show decide ((8:Int)=5)=false from rfl,aU];rw[show decide ((8:Int)=6)=false from rfl,aU];rw[show decide ((8:Int)=7)=false from rfl,aU];rw[show decide ((8:Int)=8)=true from rfl,aL,c,f,aP rfl];dsimp only;rw[bX (kL (by grind)),bX (kL (by grind)),h.c,ae.st];rw[j,aP rfl];dsimp only;rw[bX (kL (by grind[List.length_cons])),bX (kL (by grind[List.length_cons])),b.st];refine⟨_,_,rfl,.inr (.inr (.inr (.inr (.inr (.inr (.inr (.inl ⟨e,i,g,k,rfl⟩))))))),by grind[List.length_cons],b⟩
theorem ap_:∃t a,nk R ((d+1:Nat):Int) st 9=some (t,a)/\tg (gP d) (fY d) t/\t.length<=2*pE d+lw d+80/\eH I a:=by obtain⟨g,i,j,k⟩:=q8 (d:=d) (by omega);have b:=wU (d:=d) (by omega);obtain⟨c,s1,e,f,l,ae⟩:=bk I st [10] (by decide) h;unfold nk;rw[show decide ((9:Int)=1)=false from rfl,aU];rw[show decide ((9:Int)=2)=false from rfl,aU];rw[show decide ((9:Int)=3)=false from rfl,aU];rw[show decide ((9:Int)=4)=false from rfl,aU];rw[show decide ((9:Int)=5)=false from rfl,aU];rw[show decide ((9:Int)=6)=false from rfl,aU];rw[show decide ((9:Int)=7)=false from rfl,aU];rw[show decide ((9:Int)=8)=false from rfl,aU];rw[show decide ((9:Int)=9)=true from rfl,aL,b,e,aP rfl];dsimp only;rw[bX (kL (by grind)),bX (kL (by grind)),h.c,ae.st];refine⟨_,_,rfl,.inr (.inr (.inr (.inr (.inr (.inr (.inr (.inr ⟨c,f,rfl⟩))))))),by grind,ae⟩
theorem aqa:∃t a,nk R ((d+1:Nat):Int) st 7=some (t,a)/\tg (gP d) (fY d) t/\t.length<=2*pE d+lw d+80/\eH I a:=
 ⟨_,st,rfl,.inr (.inr (.inr (.inr (.inr (.inr (.inl rfl)))))),by simp,h⟩
end
theorem aqb{R:bj}{a:Int}{st:dM}{y:Int}(h:¬(1<=y/\y<=9)):nk R a st y=au (CR R st a) λz=>some (z.1,(st.1,z.2.2.1,z.2.2.2)):=by unfold nk;rw[eu (show¬y=1 by omega),eu (show¬y=2 by omega),eu (show¬y=3 by omega),eu (show¬y=4 by omega),eu (show¬y=5 by omega),eu (show¬y=6 by omega),eu (show¬y=7 by omega),eu (show¬y=8 by omega),eu (show¬y=9 by omega)];simp
theorem acb{R:bj}{d:Nat}(aD:d<=3)(hW:pF R d)(b:pF R 0){I:H}{st:dM}(h:eH I st){y:Int}(c:¬(1<=y/\y<=9)):∃t a,nk R (d:Int) st y=some (t,a)/\qi (fY d) (fY 0) t/\t.length<=2*lw d+20/\eH I a:=by rw[aqb c];obtain⟨t,a,e,g,i,f⟩:=ap1 aD hW b h;rw[e,aP rfl];dsimp only;rw[h.c,f.st];grind
theorem aqc{R:bj}{d:Nat}(aD:d+1<=3)(bk:DB R d)(f:pF R d)(hW:pF R (d+1))(g:pF R 0){I:H}{st:dM}(h:eH I st)(y:Int):∃t a,nk R ((d+1:Nat):Int) st y=some (t,a)/\zM (d+1) t/\t.length<=lc (d+1)/\eH I a:=by
 have k:lc (d+1)=2*pE d+lw d+2*lw (d+1)+80:=rfl;by_cases i:1<=y/\y<=9
 ·have ay:∃t a,nk R ((d+1:Nat):Int) st y=some (t,a)/\tg (gP d) (fY d) t/\t.length<=2*pE d+lw d+80/\eH I a:=by
   have:y=1\/y=2\/y=3\/y=4\/y=5\/y=6\/y=7\/y=8\/y=9:=by omega
   rcases this with rfl|rfl|rfl|rfl|rfl|rfl|rfl|rfl|rfl
   ·grind[ap3]
   ·grind[ap4]
   ·grind[ap5]
   ·grind[ap6]
   ·grind[ap7]
   ·grind[ap8]
   ·grind[aqa]
   ·grind[ap9]
   grind[ap_]
  obtain⟨t,a,b,c,j,e⟩:=ay;exact⟨t,a,b,.inr c,by omega,e⟩
 ·obtain⟨t,a,b,c,j,e⟩:=acb aD hW g h i;exact⟨t,a,b,.inl c,by omega,e⟩
theorem aqd{P:H->Prop}{nh:dM->Int->Option (H×dM)}{d:Nat}{I:H}{st:dM}(h:eH I st)(c:∀st y,eH I st->(d=0->y=0)->∃t a,nh st y=some (t,a)/\P t/\eH I a):∃t a,(au (iK st 16) λz=>(bif(decide ((d:Int)<=0)) then nh (st.1,z.2.2.1,z.2.2.2) 0 else nh (st.1,z.2.2.1,z.2.2.2) z.1))=some (t,a)/\P t/\eH I a:=by
 obtain⟨y,e,b,f,g,M⟩:=tf h (n:=16) (by decide) (by decide);rw[b,aP rfl];dsimp only;rw[h.c,M.st];by_cases aD:(d:Int)<=0
 ·simp_all
 simp_all
theorem acd{R:bj}{d:Nat}(aD:d<=3)(bk:∀b,d=b+1->DB R b/\pF R b)(hW:pF R d)(c:pF R 0){I:H}{st:dM}(h:eH I st):∃t a,wq R st (d:Int)=some (t,a)/\(zM d t/\t.length<=lc d)/\eH I a:=by
 rw[ap2];refine aqd h (λst y M U=>?_);cases d with
 |zero=>have:=U rfl;subst this;obtain⟨t,a,e,f,i,g⟩:=acb aD hW c M (y:=0) (by omega);have:lw 0=10:=rfl;exact⟨t,a,e,⟨f,by show _<=60;omega⟩,g⟩
 |succ d=>obtain⟨t,a,e,f,i,g⟩:=aqc aD (bk d rfl).1 (bk d rfl).2 hW c M y;grind
theorem ace(R:bj)(x:dM)(d:Int)(j:H×Int×Int->Option (H×dM))(k:H×Int×Int×Int->Option (H×dM))(s:H)(c a b:Int):CS R x d j k (s,c,a,b)=bif(decide (0<c)) then
 (au (iK (x.1,a,b) 8) λz=>(a2 (0<=z.1/\z.1<(jl.length:Int))<|(a2 (((s.length+(at' jl z.1).length:Nat):Int)<=9223372036854775807)<|(au (wq R (x.1,z.2.2.1,z.2.2.2) d) λv=>(a2 ((((s++(at' jl z.1)).length+v.1.length:Nat):Int)<=9223372036854775807)<|k (((s++(at' jl z.1))++v.1),(W (c-1)),v.2.2.1,v.2.2.2)))))) else j (s,a,b):=rfl
theorem aqe:∀h∈jl,h.length<=6:=by decide
theorem aqf{R:bj}{x:dM}{d:Int}{j:H×Int×Int->Option (H×dM)}{k:H×Int×Int×Int->Option (H×dM)}{s:H}{c:Nat}{I:H}{st a b:dM}{t:H}{v:Int}(ay:c<=10)(e:x.1=I)(h:eH I st)(M:eH I a)(f:iK st 8=some (v,a))(g:0<=v/\v<(jl.length:Int))(n:(at' jl v).length<=6)(i:wq R a d=some (t,b))(Y:s.length<=900000)(l:t.length<=1000000):
  CS R x d j k (s,((c+1:Nat):Int),st.2.1,st.2.2)=k (s++at' jl v++t,(c:Int),b.2.1,b.2.2):=by
 rw[ace,decide_eq_true (show(0:Int)<((c+1:Nat):Int) by omega),aL,e,h.st,f,aP rfl];show a2 (0<=v/\v<(jl.length:Int)) _=_;rw[bX g];show a2 (((s.length+(at' jl v).length:Nat):Int)<=9223372036854775807) (au (wq R (I,a.2.1,a.2.2) d) _)=_;rw[bX (q9 s (at' jl v) (by omega) (by omega)),M.st,i,aP rfl,bX (q9 (s++at' jl v) t (by grind) l)];have m:W (((c+1:Nat):Int)-1)=(c:Int):=by grind[dJ]
 rw[m]
theorem aqg{R:bj}{d:Nat}(aD:d<=3)(m:∀{I:H}{st:dM},eH I st->∃t a,wq R st (d:Int)=some (t,a)/\(zM d t/\t.length<=lc d)/\eH I a){I:H}{x:dM}(o:x.1=I){j:H×Int×Int->Option (H×dM)}:∀(bz c:Nat)(s:H)(st:dM),c<bz->c<=2->s.length<=200000+(2-c) *160010->eH I st->
  ∃l a,fixF (CS R x (d:Int) j) bz (s,(c:Int),st.2.1,st.2.2)=j (s++cR l,a.2.1,a.2.2)/\(∀p∈l,p.1∈jl/\zM d p.2)/\(cR l).length<=c*(lc d+6)/\eH I a:=by
 obtain⟨_,_,B,_⟩:=q8 aD;intro bz;induction bz with
 |zero=>omega
 |succ bz e=>
  intro c s st ay C Y h;rw[fm];generalize fixF (CS R x (d:Int) j) bz=k at e⊢;cases c with
  |zero=>rw[ace];refine⟨[],st,?_,by simp,by simp[cR],h⟩;simp[cR]
  |succ c=>
   obtain⟨v,D,q,f,g,i⟩:=tf h (n:=8) (by decide) (by decide);have hm:=at_mem (l:=jl) f g;have r:=aqe _ hm;obtain⟨t,u,w,⟨E,F⟩,y⟩:=m i;have b:(s++at' jl v++t).length<=200000+(2-c) *160010:=by grind
   rw[aqf (by omega) o h i q ⟨f,g⟩ r w (by omega) (by omega)];obtain⟨l,a,z,aj,a3,A⟩:=e c (s++at' jl v++t) u (by omega) (by omega) b y;rw[z];refine⟨(at' jl v,t)::l,a,?_,?_,?_,A⟩
   ·simp[cR]
   ·grind
   grind[cR]
theorem aqh(R:bj)(I:dM)(a:Int)(sfx:H):IB R I a sfx=au (wq R I a) λy=>au (iK (I.1,y.2.2.1,y.2.2.2) 3) λv=>
 fixF (CS R I a (λz=>a2 (((z.1.length+sfx.length:Nat):Int)<=9223372036854775807)<|some ((z.1++sfx),(I.1,z.2.1,z.2.2)))) bC (y.1,v.1,v.2.2.1,v.2.2.2):=rfl
theorem aqi{R:bj}{d:Nat}(aD:d<=3)(bk:∀b,d=b+1->DB R b/\pF R b)(hW:pF R d)(f:pF R 0){I:H}{st:dM}{sfx:H}(w:sfx.length<=1)(h:eH I st):∃t a,IB R st (d:Int) sfx=some (t++sfx,a)/\gP d t/\t.length<=pE d/\eH I a:=by
 obtain⟨_,_,y,_⟩:=q8 aD;obtain⟨t,g,o,⟨p,A⟩,i⟩:=acd aD bk hW f h;obtain⟨v,q,r,B,C,s⟩:=tf i (n:=3) (by decide) (by decide)
 obtain⟨k,rfl⟩:∃k:Nat,v=(k:Int):=⟨v.toNat,by omega⟩
 obtain⟨l,c,u,aj,a3,m⟩:=aqg aD (λh=>acd aD bk hW f h) (x:=st) h.c (j:=λz=>a2 (((z.1.length+sfx.length:Nat):Int)<=9223372036854775807)<|some ((z.1++sfx),(I,z.2.1,z.2.2))) bC k t q (by grind[gF]) (by omega) (by omega) s;have aw:k*(lc d+6)<=2*(lc d+6):=tp _ (by omega);rw[aqh,o,aP rfl,h.c];show∃e a,(au (iK (I,g.2.1,g.2.2) 3) _)=some (e++sfx,a)/\_
 rw[i.st,r,aP rfl,u];have D:=apO d;refine⟨t++cR l,c,?_,?_,by grind,m⟩
 ·show a2 ((((t++cR l).length+sfx.length:Nat):Int)<=9223372036854775807) (some ((t++cR l++sfx),(I,c.2.1,c.2.2)))=_;rw[bX (q9 _ _ (by grind) (by omega)),m.st]
 ·rw[N_];exact⟨t,l,p,aj,rfl⟩
theorem aqk:∀(k d:Nat),d<=3->(2*d+1<=k->pF (lg k) d)/\(2*d+2<=k->DB (lg k) d):=by
 intro k;induction k with
 |zero=>omega
 |succ k a=>
  intro d aD;refine⟨λh I st c=>?_,λh I st sfx e c=>?_⟩
  ·obtain⟨t,f,g,⟨i,j⟩,l⟩:=apS (R:=lg k) aD (λb m=>⟨(a b (by omega)).2 (by omega),(a b (by omega)).1 (by omega)⟩) c;exact⟨t,f,g,i,j,l⟩
  ·exact aqi (R:=lg k) aD (λb m=>⟨(a b (by omega)).2 (by omega),(a b (by omega)).1 (by omega)⟩) ((a d aD).1 (by omega)) ((a 0 (by omega)).1 (by omega)) e c
theorem aql{I:H}{st:dM}{sfx:H}(b:sfx.length<=1)(h:eH I st):∃t a,sY.hZ st 3 sfx=some (t++sfx,a)/\gP 3 t/\t.length<=pE 3/\eH I a:=by
 have aw:8<=bC:=by simp[gF]
 exact(aqk bC 3 (by omega)).2 aw I st sfx b h
end Go.Eng
namespace Go.Eng
structure fC where
 E:k4
 ok:E.mO
 c0:Nat
def bM(X:fC)(P:H->Prop)(F:ai){α:Type}:dD α->Prop
 | .ok _ r' a=>(P r'/\a=F)\/X.E.g_ X.c0 r' a
 | .deep _=>False
 |_=>True
theorem k4.g_.Ob{E:k4}{n m:Nat}{r:H}{F:ai}(h:E.g_ n r F)(hm:n<=m):E.g_ m r F:=⟨h.sfx,by have:=h.le;omega,h.q⟩
theorem bM.UT{X:fC}{P:H->Prop}{b:ai}{α:Type}{n:Nat}(av:X.c0<=n){f:ad α}(hf:ab X.E n f){r:H}{F:ai}(h:X.E.g_ X.c0 r F):bM X P b (f r F):=by
 have:=hf r F (h.Ob av);cases hm:f r F with
 |ok a r' c=>rw[hm] at this;exact .inr (h.down X.ok this.1 this.2)
 |more _ _ _=>trivial
 |bad _=>trivial
 |deep _=>rw[hm] at this;exact this
theorem bM.N{X:fC}{P c:H->Prop}{F b:ai}{α β:Type}{n:Nat}(av:X.c0<=n){m:ad α}{k:α->ad β}{r:H}(h:bM X P F (m r b))(aw:∀a r',m r b= .ok a r' F->P r'->bM X c F (k a r' F))(he:∀a,ab X.E n (k a)):bM X c F (Go.Eng.N m k r b):=by
 unfold Go.Eng.N;cases hm:m r b with
 |ok a r' d=>
  rw[hm] at h;rcases h with⟨M,rfl⟩|M
  ·grind
  grind[bM.UT]
 |more _ _ _=>trivial
 |bad _=>trivial
 |deep _=>rw[hm] at h;exact h
theorem bM.imp{X:fC}{P b:H->Prop}{F:ai}{α:Type}{x:dD α}(h:bM X P F x)(az:∀r,P r->b r):bM X b F x:=by
 cases x with
 |ok a r' c=>
  rcases h with⟨M,U⟩|M
  ·exact .inl ⟨az _ M,U⟩
  ·exact .inr M
 |more _ _ _=>trivial
 |bad _=>trivial
 |deep _=>exact h
theorem bM.aI{X:fC}{P:H->Prop}{F a:ai}{α:Type}{m:ad α}{x r:H}(h:bM X P F (m r a)):bM X P F (m.aI x r a):=by unfold ad.aI;cases hm:m r a<;>rw[hm] at h<;>first|exact h|trivial
theorem bM.named{X:fC}{P:H->Prop}{F a:ai}{α:Type}{m:ad α}{x r:H}(h:bM X P F (m r a)):bM X P F (m.named x r a):=by unfold ad.named;cases hm:m r a<;>rw[hm] at h<;>first|exact h|trivial
def o6(X:fC){α:Type}(x:dD α):Prop:=match x with
 | .ok _ r' a=>X.E.g_ X.c0 r' a
 | .deep _=>False
 |_=>True
def jN(X:fC){α:Type}(x y:dD α):Prop:=x=y\/o6 X x
theorem jN.refl{X:fC}{α:Type}(x:dD α):jN X x x:= .inl rfl
theorem jN.trans{X:fC}{α:Type}{x y z:dD α}(h:jN X x y)(U:jN X y z):jN X x z:=by
 rcases h with rfl|h
 ·exact U
 ·exact .inr h
theorem jN.DD{X:fC}{P:H->Prop}{F:ai}{α:Type}{x y:dD α}(h:jN X x y)(U:bM X P F y):bM X P F x:=by
 rcases h with rfl|h
 ·exact U
 ·cases x with
  |ok a r' b=>exact .inr h
  |more _ _ _=>trivial
  |bad _=>trivial
  |deep _=>exact h
theorem jN.rep{X:fC}{σ α:Type}{n:Nat}(av:X.c0<=n){f:σ->ad (σ⊕α)}(hf:∀s,ab X.E n (f s)){s s':σ}{r v:H}{F:ai}(ax:v.length<r.length)
  (h:f s r F= .ok (.inl s') v F\/o6 X (f s r F)):jN X (ck f s r F) (ck f s' v F):=by
 rw[cK f s r F];rcases h with h|h
 ·rw[h];left;show(if v.length<r.length then ck f s' v F else .bad v)=_;grind
 ·right;cases hm:f s r F with
  |ok x r' b=>
   rw[hm] at h;cases x with
   |inl s2=>
    unfold cX;simp only;by_cases M:r'.length<r.length
    ·rw[bh M];have:=ab.rep X.ok hf s2 r' b (h.Ob av);cases c:ck f s2 r' b with
     |ok a d e=>rw[c] at this;exact h.down X.ok this.1 this.2
     |more _ _ _=>trivial
     |bad _=>trivial
     |deep _=>rw[c] at this;exact this
    ·rw[aO M];trivial
   |inr a=>exact h
  |more _ _ _=>trivial
  |bad _=>trivial
  |deep _=>rw[hm] at h;exact h
def cZ(X:fC)(F:ai)(u:H):Prop:=∀t r',10::t<:+u->lh F t= .inl r'->F=[]\/X.E.g_ X.c0 r' []
theorem cZ.sfx{X:fC}{F:ai}{u v:H}(h:cZ X F u)(a:v<:+u):cZ X F v:=λt r' b c=>h t r' (b.trans a) c
theorem cZ.nil{X:fC}{u:H}:cZ X [] u:=λ_ _ _ _=> .inl rfl
theorem aqm{X:fC}{t:H}{F:ai}(h:cZ X F (10::t)):bM X (λr=>r=t) F (jw (10::t) F):=by
 show bM X _ F (match lh F t with| .inl r'=>dD.ok () r' []| .inr nd=> .more [[60,60]] nd []);cases a:lh F t with
 |inl r'=>
  rcases h t r' fS a with rfl|M
  ·cases a;exact .inl ⟨rfl,rfl⟩
  ·exact .inr M
 |inr nd=>trivial
abbrev wV(D:ad Unit):ad Unit:=cD D (some (eJ D))
def JO(D:ad Unit):Unit->ad (Unit⊕Unit):=λ_ r F=>match r with
 |[]=>cb [] r F
 |_::_=>if c4 r then .ok (.inr ()) r F else(N (wV D) λ_=>aZ (.inl ())) r F
def Gw(c:UInt8)(p:ad Unit):Unit->ad (Unit⊕Unit):=λ_ r F=>match r with
 |[]=>cb [] r F
 |b::t=>if b=c then .ok (.inr ()) t F else(N p λ_=>aZ (.inl ())) r F
theorem UU(D:ad Unit):cO D=ck (JO D) ():=rfl
theorem acf(c:UInt8)(p:ad Unit):jy c p=ck (Gw c p) ():=rfl
section
variable{X:fC}{m:Nat}(hm:X.c0<=m){D:ad Unit}(hD:ab X.E m D)
theorem aqn(hD:ab X.E m D)(s:Unit):ab X.E m (JO D s):=by
 intro r F h;unfold JO;cases r with
 |nil=>trivial
 |cons b t=>
  simp only;by_cases a:c4 (b::t)=true
  ·rw[bh a];exact⟨fS,h.q⟩
  ·rw[aO a];exact ab.N X.ok (ab.vn X.ok hD) (λ_=>ab.ret _) _ _ h
theorem aqo{p:ad Unit}(az:ab X.E m p)(c:UInt8)(s:Unit):ab X.E m (Gw c p s):=by
 intro r F h;unfold Gw;cases r with
 |nil=>trivial
 |cons b t=>
  simp only;by_cases a:b=c
  ·rw[bh a];exact⟨dN _ _,(h.qU X.ok (dN b t)).q⟩
  ·rw[aO a];exact ab.N X.ok az (λ_=>ab.ret _) _ _ h
theorem o6.inl{x:ad Unit}{r:H}{F:ai}(h:o6 X (x r F)):o6 X (N x (λ_=>(aZ (.inl ()):ad (Unit⊕Unit))) r F):=by
 unfold N;cases b:x r F with
 |ok a r' c=>rw[b] at h;exact h
 |more _ _ _=>trivial
 |bad _=>trivial
 |deep _=>rw[b] at h;exact h
include hm hD
theorem acg{p v:H}{F:ai}(a:c4 (p++v)=false)(az:p≠[])(h:wV D (p++v) F= .ok () v F\/o6 X (wV D (p++v) F)):jN X (cO D (p++v) F) (cO D v F):=by
 rw[UU];have ax:v.length<(p++v).length:=by grind[List.length_pos_iff]
 refine jN.rep hm (aqn hD) ax ?_;have he:JO D () (p++v) F=N (wV D) (λ_=>aZ (.inl ())) (p++v) F:=by unfold JO;grind
 rw[he];rcases h with h|h
 ·left;rw[aT h];rfl
 ·right;exact h.inl
theorem Oc{p v:H}{F:ai}{c:UInt8}{q:ad Unit}(a:ab X.E m q)(ay:p.head?≠some c)(az:p≠[])(h:q (p++v) F= .ok () v F\/o6 X (q (p++v) F)):jN X (jy c q (p++v) F) (jy c q v F):=by
 rw[acf];have ax:v.length<(p++v).length:=by grind[List.length_pos_iff]
 refine jN.rep hm (aqo a c) ax ?_;have he:Gw c q () (p++v) F=N q (λ_=>aZ (.inl ())) (p++v) F:=by
  unfold Gw;cases p with
  |nil=>grind
  |cons b t=>grind
 rw[he];rcases h with h|h
 ·left;rw[aT h];rfl
 ·right;exact h.inl
end
def eZ(X:fC)(D:ad Unit)(w:H):Prop:=∀v F,v≠[]->cZ X F (w++v)->jN X (cO D (w++v) F) (cO D v F)/\jN X (jy 125 (wV D) (w++v) F) (jy 125 (wV D) v F)
theorem zN{b:UInt8}{t:H}(M:fL b=false)(U:b≠10)(a:o0 b=false):c4 (b::t)=false:=by show(fL b||b==10||bu (b::t)!=[])=false;grind[mV]
section
variable{X:fC}{m:Nat}(hm:X.c0<=m){D:ad Unit}(hD:ab X.E m D)
theorem eZ.app{d c:H}(M:eZ X D d)(U:eZ X D c):eZ X D (d++c):=by intro v F e av;rw[rb] at av⊢;have a:=M (c++v) F (by simp[e]) av;have b:=U v F e (av.sfx (fR _ _));exact⟨a.1.trans b.1,a.2.trans b.2⟩
include hm hD
theorem eZ.part{p:H}(b:∀v,c4 (p++v)=false)(az:p≠[])(ay:p.head?≠some 125)(h:∀v F,v≠[]->cZ X F (p++v)->wV D (p++v) F= .ok () v F\/o6 X (wV D (p++v) F)):eZ X D p:=by intro v F a av;exact⟨acg hm hD (b v) az (h v F a av),Oc hm (hD:=hD) (ab.vn X.ok hD) ay az (h v F a av)⟩
theorem eZ.byte{b:UInt8}(M:fL b=false)(U:b≠10)(a:o0 b=false)(c:b≠92/\b≠39/\b≠34/\b≠96/\b≠36/\b≠125):eZ X D [b]:=by refine eZ.part hm hD (λv=>zN M U a) (by simp) (by grind) (λv F d av=> .inl ?_);simp_all[cD,s5]
theorem eZ.bytes:∀{w:H},w≠[]->(w.all λb=> !fL b&&b !=10&& !o0 b&&b !=92&&b !=39&&b !=34&&b !=96&&b !=36&&b !=125)=true->eZ X D w
 |[],h,_=>absurd rfl h
 |[b],_,h=>by grind[eZ.byte]
 |b::c::t,_,h=>by rw[By,hU] at h;have h0:=h.1;simp at h0;have a:eZ X D [b]:=eZ.byte hm hD h0.1.1.1.1.1.1.1.1 h0.1.1.1.1.1.1.1.2 h0.1.1.1.1.1.1.2 ⟨h0.1.1.1.1.1.2,h0.1.1.1.1.2,h0.1.1.1.2,h0.1.1.2,h0.1.2,h0.2⟩;have d:=eZ.bytes (w:=c::t) (by simp) h.2;have:=a.app d;exact this
theorem eZ.single{x:H}(a:(39:UInt8)∉x):eZ X D (39::x++[39]):=by
 have Y:∀v,gy (x++39::v)=some v:=by
  intro v;induction x with
  |nil=>rfl
  |cons b t c=>simp only[kM,BC] at a;simp_all[gy,yl]
 refine eZ.part hm hD (λv=>zN (by decide) (by decide) (by decide)) (by simp) (by simp) (λv F d av=> .inl ?_);simp_all[cD,s5,jx]
theorem eZ.tick{x:H}(a:∀v,hB (x++96::v)=some v):eZ X D (96::x++[96]):=by refine eZ.part hm hD (λv=>zN (by decide) (by decide) (by decide)) (by simp) (by simp) (λv F b av=> .inl ?_);show cD D (some (eJ D)) (96::(x++[96]++v)) F=_;simp_all[cD,jx]
theorem eZ.ach(b:UInt8):eZ X D [92,b]:=by refine eZ.part hm hD (λv=>zN (by decide) (by decide) (by decide)) (by simp) (by simp) (λv F a av=> .inl ?_);rfl
end
def uq(X:fC)(D:ad Unit)(x:H):Prop:=∀v F,v≠[]->cZ X F (x++v)->jN X (jy 34 (cD D none) (x++v) F) (jy 34 (cD D none) v F)
theorem aci{c:UInt8}{p:ad Unit}{v:H}{F:ai}:jy c p (c::v) F= .ok () v F:=by simp[acf,cK,Gw,cX]
section
variable{X:fC}{m:Nat}(hm:X.c0<=m){D:ad Unit}(hD:ab X.E m D)
theorem uq.app{b a:H}(M:uq X D b)(U:uq X D a):uq X D (b++a):=by intro v F c av;rw[rb] at av⊢;exact(M (a++v) F (by simp[c]) av).trans (U v F c (av.sfx (fR _ _)))
theorem jN.named{x:H}{α:Type}{f g:ad α}{r r':H}{F a:ai}(h:jN X (f r F) (g r' a)):jN X (f.named x r F) (g.named x r' a):=by
 rcases h with h|h
 ·left;grind[ad.named]
 ·right;unfold ad.named;cases hf:f r F<;>rw[hf] at h<;>first|exact h|trivial
theorem jN.aI{x:H}{α:Type}{f g:ad α}{r r':H}{F a:ai}(h:jN X (f r F) (g r' a)):jN X (f.aI x r F) (g.aI x r' a):=by
 rcases h with h|h
 ·left;grind[ad.aI]
 ·right;unfold ad.aI;cases hf:f r F<;>rw[hf] at h<;>first|exact h|trivial
include hm hD
theorem eZ.double{x:H}(a:uq X D x):eZ X D (34::x++[34]):=by
 refine eZ.part hm hD (λv=>zN (by decide) (by decide) (by decide)) (by simp) (by simp) (λv F c av=>?_);have he:wV D (34::x++[34]++v) F=eJ D (x++34::v) F:=by simp[cD,s5]
 rw[he];have b:cZ X F (x++34::v):=av.sfx ⟨[34],by simp⟩;have M:jN X (eJ D (x++34::v) F) (eJ D (34::v) F):=(a (34::v) F (by simp) b).aI.named;have U:eJ D (34::v) F= .ok () v F:=by simp[eJ,ad.named,ad.aI,aci]
 rw[U] at M;exact M
theorem uq.byte{b:UInt8}(c:b≠92/\b≠34/\b≠96/\b≠36):uq X D [b]:=by intro v F d av;refine Oc hm (hD:=hD) (ab.part X.ok hD (λq a=>by cases a)) (by grind) (by simp) (.inl ?_);simp_all[cD,s5]
theorem eZ.UW:eZ X D [36,120]:=by
 intro v F d av;have M:wV D (36::120::v) F= .ok () (120::v) F:=by rfl
 have a:=eZ.byte hm hD (b:=120) (by decide) (by decide) (by decide) (by decide) v F d (av.sfx (dN _ _));have e:=acg hm hD (p:=[36]) (v:=120::v) (F:=F) (zN (by decide) (by decide) (by decide)) (by simp) (.inl M);have aj:=Oc hm (hD:=hD) (p:=[36]) (v:=120::v) (F:=F) (c:=125) (ab.vn X.ok hD) (by simp) (by simp) (.inl M);exact⟨e.trans a.1,aj.trans a.2⟩
theorem eZ.arith{lo:Option dK}(ax:D=dy lo):eZ X D [36,40,40,49,43,40,50,41,41,41]:=by refine eZ.part hm hD (λv=>zN (by decide) (by decide) (by decide)) (by simp) (by simp) (λv F a av=> .inl ?_);show cD D (some (eJ D)) (36::40::40::49::43::40::50::41::41::41::v) F=_;unfold cD;simp only;rw[aO (by decide),aO (by decide),bh (by rfl),ax];rfl
theorem eZ.consts{lo:Option dK}(ax:D=dy lo):∀w∈nj,eZ X D w:=by
 have a:∀{w:H},w≠[]->(w.all λb=> !fL b&&b !=10&& !o0 b&&b !=92&&b !=39&&b !=34&&b !=96&&b !=36&&b !=125)=true->eZ X D w:=λM U=>eZ.bytes hm hD M U
 intro w c;simp only[nj,Gv,ib,re,kM,rf,uA] at c;rcases c with rfl|rfl|rfl|rfl|rfl|rfl|rfl|rfl|rfl|rfl|rfl|rfl|rfl|rfl|rfl
 ·exact eZ.single hm hD (x:=[113,32,114]) (by decide)
 ·exact eZ.double hm hD (x:=[97,32,98]) (((uq.byte hm hD (b:=97) (by decide)).app (uq.byte hm hD (b:=32) (by decide))).app (uq.byte hm hD (b:=98) (by decide)))
 ·exact((a (w:=[97]) (by simp) (by decide)).app (eZ.ach hm hD 32)).app (a (w:=[98]) (by simp) (by decide))
 ·grind[eZ.UW]
 ·grind[eZ.arith]
 ·exact eZ.tick hm hD (x:=[99,32,100]) (λv=>by simp[hB];unfold hB;simp)
 ·exact a (by simp) (by decide)
 ·exact((a (w:=[97]) (by simp) (by decide)).app (eZ.ach hm hD 10)).app (a (w:=[98]) (by simp) (by decide))
 ·exact a (by simp) (by decide)
 ·exact a (by simp) (by decide)
 ·exact a (by simp) (by decide)
 ·exact a (by simp) (by decide)
 ·exact a (by simp) (by decide)
 ·exact a (by simp) (by decide)
 ·exact a (by simp) (by decide)
end
def o7(d:Nat)(x:H):Prop:=∀v,hR d (x++v)=hR d v\/∃q,hR d (x++v)= .bad q
def dV(x:H):Prop:=∀d,o7 d x
theorem o7.app{d:Nat}{x y:H}(M:o7 d x)(U:o7 d y):o7 d (x++y):=by
 intro v;rw[rb];rcases M (y++v) with h|h
 ·rw[h];exact U v
 grind
theorem dV.app{x y:H}(M:dV x)(U:dV y):dV (x++y):=λd=>(M d).app (U d)
theorem dV.nil:dV []:=λd v=> .inl rfl
theorem dV.bad{b:UInt8}{x:H}(h:b=39\/b=34\/b=92\/b=96):dV (b::x):=by intro d v;right;rw[ib,vi,bh (by grind)];simp
theorem dV.opens{c:UInt8}{x:H}(h:c=40\/c=123):dV (36::c::x):=by intro d v;right;rw[List.cons_append,vi,if_pos (by grind[gI])];simp
theorem dV.byte{b:UInt8}(h:b≠39/\b≠34/\b≠92/\b≠96/\b≠36/\b≠40/\b≠41):dV [b]:=by intro d v;simp_all[vi,s5]
theorem dV.bytes:∀{w:H},(w.all λb=>b !=39&&b !=34&&b !=92&&b !=96&&b !=36&&b !=40&&b !=41)=true->dV w
 |[],_=>dV.nil
 |b::t,h=>by rw[By,hU] at h;have h0:=h.1;simp at h0;have:=(dV.byte (b:=b) ⟨h0.1.1.1.1.1.1,h0.1.1.1.1.1.2,h0.1.1.1.1.2,h0.1.1.1.2,h0.1.1.2,h0.1.2,h0.2⟩).app (dV.bytes h.2);exact this
theorem dV.paren{x:H}(h:dV x):dV ([40]++x++[41]):=by
 intro d v;have M:hR d ([40]++x++[41]++v)=hR (d+1) (x++41::v):=by show hR d (40::(x++[41]++v))=_;simp[vi,gI]
 rw[M];rcases h (d+1) (41::v) with U|U
 ·simp_all[vi,gI]
 grind
theorem dV.UW:dV [36,120]:=by intro d v;simp[vi,gI]
theorem dV.consts:∀w∈nj,dV w:=by
 intro w a;simp only[nj,Gv,ib,re,kM,rf,uA] at a;rcases a with rfl|rfl|rfl|rfl|rfl|rfl|rfl|rfl|rfl|rfl|rfl|rfl|rfl|rfl|rfl
 ·simp[dV.bad]
 ·simp[dV.bad]
 ·exact(dV.bytes (w:=[97]) (by decide)).app (dV.bad (b:=92) (x:=[32,98]) (by simp))
 ·exact dV.UW
 ·simp[dV.opens]
 ·simp[dV.bad]
 ·simp[dV.bytes]
 ·exact(dV.bytes (w:=[97]) (by decide)).app (dV.bad (b:=92) (x:=[10,98]) (by simp))
 ·simp[dV.bytes]
 ·simp[dV.bytes]
 ·simp[dV.bytes]
 ·simp[dV.bytes]
 ·simp[dV.bytes]
 ·simp[dV.bytes]
 simp[dV.bytes]
theorem dV.word{d:Nat}{w:H}(h:fY d w):dV w:=by
 cases d with
 |zero=>exact dV.consts w h
 |succ d=>
  rcases h with h|⟨t,_,h|h⟩|⟨v,_,h⟩
  ·grind[dV.consts]
  ·simp_all[dV.opens]
  ·grind[dV.bad]
  simp_all[dV.opens]
theorem dV.args{W:H->Prop}(hW:∀w,W w->dV w):∀{ws:bw},(∀w∈ws,W w)->dV (jb ws)
 |[],_=>dV.nil
 |w::t,h=>by have:=(dV.bytes (w:=[32]) (by decide)).app ((hW w (h w (by simp))).app (dV.args hW (ws:=t) (λw a=>h w (by grind))));exact this
theorem aqp:∀h∈q7,dV h:=by intro h a;simp only[q7,kM,rf,uA] at a;rcases a with rfl|rfl|rfl|rfl<;>exact dV.bytes (by decide)
theorem dV.simple{W a:H->Prop}(hW:∀w,W w->dV w)(d:∀w,a w->dV w){s:H}(h:qi W a s):dV s:=by
 obtain⟨c,ws,r,M,U,rfl,b⟩:=h;refine((aqp c M).app (dV.args hW U)).app ?_;rcases b with rfl|rfl|⟨w,e,rfl⟩
 ·exact dV.nil
 ·simp[dV.bytes]
 grind[dV.bytes,dV.app]
theorem aqq:∀h∈jl,dV h:=by intro h a;simp only[jl,kM,rf,uA] at a;rcases a with rfl|rfl|rfl|rfl|rfl|rfl|rfl|rfl<;>exact dV.bytes (by decide)
theorem o7.rest{d:Nat}{C:H->Prop}(a:∀c,C c->o7 d c):∀{l:List (H×H)},(∀p∈l,p.1∈jl/\C p.2)->o7 d (cR l)
 |[],_=>dV.nil d
 |p::t,h=>by have:=((aqq p.1 (h p (by simp)).1 d).app (a p.2 (h p (by simp)).2)).app (o7.rest a (l:=t) (λq b=>h q (by grind)));exact this
theorem o7.aqr{c:H}(h:zM 1 c):o7 0 c:=by
 rcases h with h|h
 ·exact dV.simple (λw e=>dV.word (d:=1) e) (λw e=>dV.word (d:=0) e) h 0
 ·have bk:∀t,gP 0 t->dV t:=λt i=>by
   intro d;obtain⟨c,l,M,U,rfl⟩:=i;have g:∀c,qi (λw=>w∈nj) (λw=>w∈nj) c->o7 d c:=λc ay=>dV.simple dV.consts dV.consts ay d
   exact(g c M).app (o7.rest g U)
  have hW:∀w,fY 0 w->dV w:=λw e=>dV.consts w e
  have a:∀{w:H},(w.all λb=>b !=39&&b !=34&&b !=92&&b !=96&&b !=36&&b !=40&&b !=41)=true->dV w:=λh=>dV.bytes h
  rcases h with⟨t,M,rfl⟩|⟨t,M,rfl⟩|⟨t,u,M,U,rfl⟩|⟨t,u,M,U,rfl⟩|⟨t,u,M,U,rfl⟩|⟨w,u,M,U,rfl⟩|rfl|⟨w,u,M,U,rfl⟩|⟨t,M,rfl⟩
  ·exact dV.paren (bk t M) 0
  ·exact(((a (by decide)).app ((bk t M).app (a (by decide)))).app (a (by decide))) 0
  ·exact(((((a (by decide)).app ((bk t M).app (a (by decide)))).app (a (by decide))).app ((bk u U).app (a (by decide)))).app (a (by decide))) 0
  ·exact(((((a (by decide)).app ((bk t M).app (a (by decide)))).app (a (by decide))).app ((bk u U).app (a (by decide)))).app (a (by decide))) 0
  ·exact(((((a (by decide)).app ((bk t M).app (a (by decide)))).app (a (by decide))).app ((bk u U).app (a (by decide)))).app (a (by decide))) 0
  ·exact(((((a (by decide)).app (hW w M)).app (a (by decide))).app ((bk u U).app (a (by decide)))).app (a (by decide))) 0
  ·exact a (by decide) 0
  ·
   have f:o7 0 ([99,97,115,101,32]++w++[32,105,110,32,97,124,98]):=(((a (by decide)).app (hW w M)).app (a (by decide))) 0;intro v;have he:[99,97,115,101,32]++w++[32,105,110,32,97,124,98,41,32]++(u++[])++[59,59,10,40,99,41,32,59,59,32,100,41,32,101,115,97,99]++v=([99,97,115,101,32]++w++[32,105,110,32,97,124,98])++(41::32::(u++[59,59,10,40,99,41,32,59,59,32,100,41,32,101,115,97,99]++v)):=by simp
   rw[he];right;rcases f (41::32::(u++[59,59,10,40,99,41,32,59,59,32,100,41,32,101,115,97,99]++v)) with aX|aX
   ·simp_all[vi]
   omega
  ·have f:dV ([102]++([40]++[]++[41])++[32,123,10]++(t++[10])++[125,32,62,102]):=((((a (by decide)).app (dV.paren dV.nil)).app (a (by decide))).app ((bk t M).app (a (by decide)))).app (a (by decide));exact f 0
theorem o7.aqs{d:Nat}(aD:d<=1){t:H}(h:gP d t):o7 0 t:=by
 rw[N_] at h;obtain⟨c,l,M,U,rfl⟩:=h
 have b:∀c,zM d c->o7 0 c:=by
  intro c ay;rcases Nat.le_one_iff_eq_zero_or_eq_one.1 aD with rfl|rfl
  ·exact dV.simple (λw a=>dV.word (d:=0) a) (λw a=>dV.word (d:=0) a) ay 0
  grind[o7.aqr]
 exact(b c M).app (o7.rest b U)
def UX(X:fC)(m d:Nat):Prop:=∀t v F,gP d t->cZ X F (t++41::v)->bM X (λr=>r=41::v) F ((aS true m).ls .paren true (t++41::v) F)
theorem oN(v:H):bn (41::v)=some (41::v):=by unfold bn;rfl
theorem m1(v:H):an (41::v)= .op [41]:=by rfl
theorem aqt{d:Nat}{c:H}(h:zM d c):∃b t,c=b::t/\(b=40->∃a u,d=a+1/\gP a u/\c=[40]++u++[41]):=by
 have Y:∀{W e:H->Prop},qi W e c->∃b t,c=b::t/\(b=40->∃a u,d=a+1/\gP a u/\c=[40]++u++[41]):=by rintro W e ⟨x,ws,r,M,U,rfl,f⟩;simp only[q7,kM,rf,uA] at M;grind
 cases d with
 |zero=>exact Y h
 |succ d=>
  rcases h with h|h
  ·grind
  ·rcases h with⟨t,M,rfl⟩|⟨t,M,rfl⟩|⟨t,u,M,U,rfl⟩|⟨t,u,M,U,rfl⟩|⟨t,u,M,U,rfl⟩|⟨w,u,M,U,rfl⟩|rfl|⟨w,u,M,U,rfl⟩|⟨t,M,rfl⟩
   ·grind
   all_goals simp
theorem aqu:∀j∈jl,∃b t,j=b::t/\b≠41:=by simp[jl]
section
variable{X:fC}{m:Nat}(hm:X.c0<=m)
include hm in
theorem UY{d:Nat}(aD:d<=2)(eF:UX X m d)(bk:xG X.E m){t v:H}{F:ai}(al:gP d t)(av:cZ X F ([36,40]++t++[41]++v)):dy (some (aS true m)) ([36,40]++t++[41]++v) F= .ok () v F\/o6 X (dy (some (aS true m)) ([36,40]++t++[41]++v) F):=by
 have he:[36,40]++t++[41]++v=36::40::(t++41::v):=by simp
 rw[he] at av⊢;have vo:=al;rw[N_] at vo;obtain⟨c,l,M,U,mB⟩:=vo;obtain⟨b,nw,ay,gB⟩:=aqt M;by_cases hb:b=40
 ·
  obtain⟨d1,u,rfl,hu,Nu⟩:=gB hb;subst mB;have c_:dy (some (aS true m)) (36::40::(c++cR l++41::v)) F=mG (u++(41::(cR l++41::v))) F:=by rw[Nu];unfold dy;rw[bh (by simp)];show mG _ F=_;simp
  rw[c_];unfold mG;rcases o7.aqs (by omega) hu (41::(cR l++41::v)) with aq|⟨q,aq⟩
  ·rw[aq];cases l with
   |nil=>left;rfl
   |cons p l=>
    obtain⟨aqv,aqw,cA,at7⟩:=aqu p.1 (U p (by simp)).1;right
    have:∃q,hR 0 (41::(cR (p::l)++41::v))= .bad q:=by
     have Z:cR (p::l)++41::v=aqv::(aqw++p.2++cR l++41::v):=by grind[cR]
     simp_all[vi]
    obtain⟨q,aE⟩:=this;rw[aE];trivial
  ·right;rw[aq];trivial
 ·have c_:dy (some (aS true m)) (36::40::(t++41::v)) F=vd (aS true m) (t++41::v) F:=by
   have acj:∃SE,t=b::SE:=⟨nw++cR l,by grind⟩
   obtain⟨SE,acj⟩:=acj;unfold dy;rw[aO (by grind),if_pos (by simp)];rfl
  rw[c_];have h7:cZ X F (t++41::v):=av.sfx ⟨[36,40],rfl⟩;have aq:=eF t v F al h7;have aX:bM X (λr=>r=v) F (vd (aS true m) (t++41::v) F):=by unfold vd;refine bM.N hm aq.aI.named (λa r' _ xM=>?_) (λa=>ab.ji X.ok _);subst xM;rw[A1 (oN v) (m1 v)];exact .inl ⟨rfl,rfl⟩
  cases az:vd (aS true m) (t++41::v) F with
  |ok a r' aF=>
   rw[az] at aX;rcases aX with⟨rfl,rfl⟩|aX
   ·simp
   ·exact .inr aX
  |more _ _ _=>right;trivial
  |bad _=>right;trivial
  |deep _=>rw[az] at aX;exact aX.elim
end
theorem aqx(n:Nat):(aS true n).pm=qG (aS true n).dl:=by cases n<;>rfl
theorem ack{E:k4}(ok:E.mO){m:Nat}(bk:xG E m):ab E (m+1) (dy (some (aS true m))):=ab.SR ok (.inr ⟨m,rfl,rfl,bk⟩)
section
variable{X:fC}{m:Nat}(hm:X.c0<=m)(bk:xG X.E m)
include hm bk
theorem acm{w v:H}{F:ai}(c:eZ X (aS true m).dl w)(av:cZ X F ([36,123,120,58,45]++w++[125]++v)):dy (some (aS true m)) ([36,123,120,58,45]++w++[125]++v) F= .ok () v F\/o6 X (dy (some (aS true m)) ([36,123,120,58,45]++w++[125]++v) F):=by
 have he:[36,123,120,58,45]++w++[125]++v=36::123::([120,58,45]++(w++125::v)):=by simp
 rw[he] at av⊢;have d:dy (some (aS true m)) (36::123::([120,58,45]++(w++125::v))) F=((aS true m).pm.named [36,123]) ([120,58,45]++(w++125::v)) F:=by rfl
 rw[d,aqx];have a:cZ X F ([120,58,45]++(w++125::v)):=av.sfx ⟨[36,123],rfl⟩;have M:=(eZ.bytes hm bk.dl (w:=[120,58,45]) (by simp) (by decide) (w++125::v) F (by simp) a).2;have U:=(c (125::v) F (by simp) (a.sfx (fR _ _))).2;have b:=(M.trans U);rw[aci] at b;have e:jN X (((qG (aS true m).dl).named [36,123]) ([120,58,45]++(w++125::v)) F) (.ok () v F):=by have:jN X (((jy 125 (wV (aS true m).dl)).aI [125]).named [36,123] ([120,58,45]++(w++125::v)) F) (((aZ ():ad Unit).aI [125]).named [36,123] v F):=jN.named (jN.aI b);exact this
 exact e
theorem eZ.UZ{p:H}(az:∃c q,p=36::c::q/\(c=40\/c=123))(h:∀v F,v≠[]->cZ X F (p++v)->dy (some (aS true m)) (p++v) F= .ok () v F\/o6 X (dy (some (aS true m)) (p++v) F)):eZ X (dy (some (aS true m))) p/\uq X (dy (some (aS true m))) p:=by
 obtain⟨c,q,rfl,ay⟩:=az;have hD:=ack X.ok bk
 have d:∀dq v F,cD (dy (some (aS true m))) dq (36::c::q++v) F=dy (some (aS true m)) (36::c::q++v) F:=by intro dq v F;show cD (dy (some (aS true m))) dq (36::c::(q++v)) F=_;unfold cD;simp only;rw[aO (by decide),aO (by decide),bh (by rcases ay with rfl|rfl<;>rfl)];rfl
 refine⟨eZ.part (by omega) hD (λv=>zN (by decide) (by decide) (by decide)) (by simp) (by simp) (λv F a av=>?_),λv F a av=>?_⟩
 ·grind
 ·refine Oc (m:=m+1) (by omega) (hD:=hD) (ab.part X.ok hD (λq b=>by cases b)) (by simp) (by simp) ?_;grind
theorem acn{d:Nat}(aD:d<=2)(eF:UX X m d)(hW:∀w,fY d w->eZ X (aS true m).dl w):∀w,fY (d+1) w->eZ X (dy (some (aS true m))) w:=by
 have hD:=ack X.ok bk;intro w h;rcases h with h|⟨t,M,h|h⟩|⟨v,M,h⟩
 ·exact eZ.consts (m:=m+1) (by omega) hD rfl w h
 ·subst h;exact(eZ.UZ hm bk ⟨40,t++[41],rfl,.inl rfl⟩ (λv F a av=>UY hm aD eF bk M av)).1
 ·subst h;have U:=(eZ.UZ hm bk (p:=[36,40]++t++[41]) ⟨40,t++[41],rfl,.inl rfl⟩ (λv F a av=>UY hm aD eF bk M av)).2;have c:=eZ.double (m:=m+1) (by omega) hD (uq.app (uq.byte (m:=m+1) (by omega) hD (b:=120) (by decide)) U);grind
 ·subst h;exact(eZ.UZ hm bk ⟨123,[120,58,45]++v++[125],rfl,.inr rfl⟩ (λu F hu av=>acm hm bk (hW v M) av)).1
end
structure et(v v':H):Prop where
 ne:v≠[]
 pH:c4 v=true
 qj:bn v=some v'
 Od:an v'= .line\/∃o,an v'= .op o/\fg o=false/\o≠[40]
theorem et.idem{v v':H}(h:et v v'):bn v'=some v':=mi _ _ _ (cS _) h.qj
theorem et.aqy{v v':H}(h:et v v'):fg (bu (v'.dropWhile cf))=false:=by
 rcases h.Od with a|⟨o,a,M,U⟩
 ·obtain⟨t,rfl⟩:=wy a;rfl
 ·have c:=(h4 a).1;have bc:=(h4 a).2.2.2;cases v' with
  |nil=>simp_all
  |cons b t=>
   have d:cf b=false:=by
    cases aD:cf b with
    |false=>rfl
    |true=>simp_all[A4,mV]
   simp_all
theorem et.iB{v v':H}(h:et v v')(D:ad Unit)(F:ai):dI D v F= .ok false v' F:=s7 h.qj h.aqy
theorem et.lY{v v':H}(h:et v v')(D:ad Unit)(F:ai):g0 D v F= .ok () v' F:=by unfold g0;rw[cK,aT (h.iB D F)];rfl
theorem et.simple{v v':H}(h:et v v')(D:ad Unit)(F:ai):ho true D v F= .ok () v' F:=by
 unfold ho;rw[cK,aT (h.iB D F)];simp only[fo,cH];rw[aT (cu h.idem)];rcases h.Od with a|⟨o,a,M,U⟩
 ·rw[a];rfl
 ·rw[a];simp only;rw[aO (λb=>U b.2)];rfl
def x9(w:H):Prop:=∃b t,w=b::t/\fL b=false/\b≠10/\b≠92/\b≠35/\o0 b=false/\cf b=false
theorem Oe{d:Nat}{w:H}(h:fY d w):x9 w:=by
 have aw:∀w∈nj,x9 w:=by intro w a;simp only[nj,Gv,ib,re,kM,rf,uA] at a;rcases a with rfl|rfl|rfl|rfl|rfl|rfl|rfl|rfl|rfl|rfl|rfl|rfl|rfl|rfl|rfl<;>exact⟨_,_,rfl,by decide,by decide,by decide,by decide,by decide,by decide⟩
 cases d with
 |zero=>exact aw w h
 |succ d=>
  rcases h with h|⟨t,_,h|h⟩|⟨v,_,h⟩
  ·grind
  all_goals (subst h;exact⟨_,_,rfl,by decide,by decide,by decide,by decide,by decide,by decide⟩)
theorem x9.tok{w u:H}(h:x9 w):bn (w++u)=some (w++u)/\(∃x p,an (w++u)= .word x p)/\fg (bu ((w++u).dropWhile cf))=false:=by
 obtain⟨b,t,rfl,M,U,a,c,d,e⟩:=h;refine⟨jX M c a,?_,?_⟩
 ·show∃x p,an (b::(t++u))= .word x p
  have:an (b::(t++u))=if b=10 then Tok.line else if bu (b::(t++u))≠[] then .op (bu (b::(t++u))) else .word (dg (b::(t++u))).1 (dg (b::(t++u))).2:=rfl
  simp_all[mV]
 ·have:(b::t++u).dropWhile cf=b::t++u:=by simp_all
  rw[this,ib,mV d];decide
section
variable{X:fC}{m:Nat}(hm:X.c0<=m){D:ad Unit}(hD:ab X.E m D)
include hm hD
theorem aqz{w u:H}{F:ai}(a:x9 w)(c:eZ X D w)(hu:c4 u=true)(d:u≠[])(av:cZ X F (w++u)):jN X (ho true D (32::(w++u)) F) (ho true D u F):=by
 obtain⟨e,⟨x,p,f⟩,g⟩:=a.tok (u:=u);have h:bn (32::(w++u))=some (w++u):=by grind[k3]
 unfold ho;have i:cO D u F= .ok () u F:=by
  rw[UU,cK];cases u with
  |nil=>grind
  |cons b t=>show cX _ _ (if c4 (b::t)=true then _ else _)=_;rw[bh hu];rfl
 have M:=(c u F d av).1;rw[i] at M;refine jN.rep hm (λs=>?_) (s:=()) (s':=()) (v:=u) (by grind) ?_
 ·refine ab.N X.ok (ab.iB X.ok hD) λb=>ab.ite (ab.ret _) (ab.gb X.ok λt=>?_);cases t with
  |word _ _=>exact ab.N X.ok (ab.cO X.ok hD) λ_=>ab.ret _
  |op o=>simp[ab.ite,ab.bE,ab.ret]
  |line=>simp[ab.ret]
  |eof=>simp[ab.ret]
 ·rw[aT (s7 h g)];simp only[fo,cH];rw[aT (cu e),f];simp only;rcases M with M|M
  ·left;rw[aT M];rfl
  ·right;exact M.inl
end
theorem JP{D:ad Unit}{u:H}{F:ai}(hu:c4 u=true)(a:u≠[]):cO D u F= .ok () u F:=by
 rw[UU,cK];cases u with
 |nil=>grind
 |cons b t=>show cX _ _ (if c4 (b::t)=true then _ else _)=_;rw[bh hu];rfl
def Gx(D:ad Unit):Unit->ad (Unit⊕Unit):=λ_=>N (dI D) λb=>if b then aZ (.inl ()) else N (bQ []) λt=>match t with
 | .word _ _=>N (cO D) λ_=>aZ (.inl ())
 | .op o=>if true/\o=[40] then bE else aZ (.inr ())
 |_=>aZ (.inr ())
theorem aco{b:UInt8}{t:H}(h:o0 b=false):bu (62::b::t)=[62]:=by simp only[o0,J3,OL,ne_eq] at h;simp_all[yl,bu,kG]
theorem o6.N{X:fC}{n:Nat}(av:X.c0<=n){α β:Type}{f:ad α}{k:α->ad β}{r:H}{F:ai}(h:o6 X (f r F))(aw:∀a,ab X.E n (k a)):o6 X (Go.Eng.N f k r F):=by
 unfold Go.Eng.N;cases b:f r F with
 |ok a r' c=>
  rw[b] at h;have:=aw a r' c (k4.g_.Ob h av);simp only;cases d:k a r' c with
  |ok _ _ _=>rw[d] at this;exact k4.g_.down X.ok h this.1 this.2
  |more _ _ _=>trivial
  |bad _=>trivial
  |deep _=>rw[d] at this;exact this
 |more _ _ _=>trivial
 |bad _=>trivial
 |deep _=>rw[b] at h;exact h
section
variable{X:fC}{m:Nat}(hm:X.c0<=m){D:ad Unit}(hD:ab X.E m D)
include hm hD
theorem acp{W:H->Prop}(hW:∀w,W w->x9 w/\eZ X D w){u:H}(hu:c4 u=true)(c:u≠[]):∀{ws:bw}{F:ai},(∀w∈ws,W w)->cZ X F (jb ws++u)->jN X (ho true D (jb ws++u) F) (ho true D u F)
 |[],F,_,_=>jN.refl _
 |w::t,F,h,av=>by
  have he:jb (w::t)++u=32::(w++(jb t++u)):=by simp[jb]
  rw[he] at av⊢;have b:cZ X F (w++(jb t++u)):=av.sfx (dN _ _);have d:c4 (jb t++u)=true:=by
   cases t with
   |nil=>grind[jb]
   |cons a t=>rfl
  obtain⟨M,U⟩:=hW w (h w (by simp));exact(aqz hm hD M U d (by simp_all) b).trans (acp hW hu c (ws:=t) (λw e=>h w (by grind)) (b.sfx (List.suffix_append _ _)))
theorem aqA{W:H->Prop}(hW:∀w,W w->x9 w/\eZ X D w){r v v':H}{F:ai}(Z:r=[]\/r=[32,50,62,38,49]\/∃w,W w/\r=[32,62]++w)(a:et v v')(av:cZ X F (r++v)):bM X (λq=>q=v') F (ho true D (r++v) F):=by
 have d:bM X (λq=>q=v') F (ho true D v F):=by rw[a.simple];exact .inl ⟨rfl,rfl⟩
 have c:∀s,ab X.E m (Gx D s):=λs=>by
  unfold Gx;refine ab.N X.ok (ab.iB X.ok hD) λb=>ab.ite (ab.ret _) (ab.gb X.ok λt=>?_);cases t with
  |word _ _=>exact ab.N X.ok (ab.cO X.ok hD) λ_=>ab.ret _
  |op o=>simp[ab.ite,ab.bE,ab.ret]
  |line=>simp[ab.ret]
  |eof=>simp[ab.ret]
 have e:∀{u:H},v.length<u.length->(dI D u F= .ok true v F\/o6 X (dI D u F))->jN X (ho true D u F) (ho true D v F):=by
  intro u ax h;show jN X (ck (Gx D) () u F) (ck (Gx D) () v F);refine jN.rep hm c ax ?_;rcases h with h|h
  ·left;unfold Gx;rw[aT h];rfl
  ·right;unfold Gx;refine o6.N hm h λb=>ab.ite (ab.ret _) (ab.gb X.ok λt=>?_);cases t with
   |word _ _=>exact ab.N X.ok (ab.cO X.ok hD) λ_=>ab.ret _
   |op o=>simp[ab.ite,ab.bE,ab.ret]
   |line=>simp[ab.ret]
   |eof=>simp[ab.ret]
 rcases Z with rfl|rfl|⟨w,g,rfl⟩
 ·grind
 ·refine(e (u:=32::50::62::38::49::v) (by grind) (.inl ?_)).DD d;have M:fX (32::50::62::38::49::v) F= .ok (some [62,38]) (49::v) F:=by unfold fX;rw[k3,jX (by decide) (by decide) (by decide)];rfl
  unfold dI;rw[aT M];simp only;rw[aO (by decide),aO (by decide)];have U:jK D [120] (49::v) F= .ok () v F:=by
   unfold jK;rw[aT (cu (jX (by decide) (by decide) (by decide)))]
   have:∃x p,an (49::v)= .word x p:=by
    have:an (49::v)=if(49:UInt8)=10 then Tok.line else if bu (49::v)≠[] then .op (bu (49::v)) else .word (dg (49::v)).1 (dg (49::v)).2:=rfl
    rw[this,aO (by decide),mV (by decide)];simp
   obtain⟨x,p,i⟩:=this;rw[i];simp only;rw[C5 (zN (by decide) (by decide) (by decide)) (Y8 (by decide)) (by simp),JP a.pH a.ne]
  rw[aT U];rfl
 ·obtain⟨M,U⟩:=hW w g;refine(e (u:=32::62::(w++v)) (by grind) ?_).DD d;obtain⟨j,⟨x,p,k⟩,A⟩:=M.tok (u:=v);have l:fX (32::62::(w++v)) F= .ok (some [62]) (w++v) F:=by
   unfold fX;rw[k3,jX (by decide) (by decide) (by decide)];obtain⟨b,t,rfl,_,_,_,_,br,_⟩:=M;have n:bu (62::(b::t++v))=[62]:=aco br;have aD:(62::(b::t++v):H).dropWhile cf=62::(b::t++v):=by rfl
   simp only;rw[aD,n,bh (by decide)];rfl
  have y:cZ X F (w++v):=av.sfx ⟨[32,62],rfl⟩;have f:=(U v F a.ne y).1;rw[JP a.pH a.ne] at f;have br:jK D [120] (w++v) F= .ok () v F\/o6 X (jK D [120] (w++v) F):=by unfold jK;rw[aT (cu j),k];exact f
  have z:dI D (32::62::(w++v)) F=N (jK D [120]) (λ_=>aZ true) (w++v) F:=by unfold dI;rw[aT l];simp
  rw[z];rcases br with br|br
  ·left;rw[aT br];rfl
  grind[o6.N,ab.ret]
end
def acq(h:H):Prop:=h≠[]/\h.all qT=true/\rI h=false/\oB h=false/\(∃b t,h=b::t/\fL b=false/\b≠92/\b≠35/\cf b=false/\o0 b=false)
theorem aqB:∀h∈q7,acq h:=by intro h a;simp only[q7,kM,rf,uA] at a;rcases a with rfl|rfl|rfl|rfl<;>exact⟨by decide,by decide,by decide,by decide,_,_,rfl,by decide,by decide,by decide,by decide,by decide⟩
theorem aqC{ws:bw}{r v:H}(Z:r=[]\/∃t,r=32::t)(b:c4 v=true):c4 (jb ws++(r++v))=true:=by
 cases ws with
 |nil=>
  rcases Z with rfl|⟨t,rfl⟩
  ·grind[jb]
  ·rfl
 |cons a t=>rfl
def wW(W a:H->Prop)(s:H):Prop:=∃h ws r,acq h/\(∀w∈ws,W w)/\s=h++jb ws++r/\(r=[]\/r=[32,50,62,38,49]\/∃w,a w/\r=[32,62]++w)
theorem qi.q{W a:H->Prop}{s:H}(h:qi W a s):wW W a s:=by obtain⟨h,ws,r,M,U⟩:=h;exact⟨h,ws,r,aqB h M,U⟩
theorem wW.one{W a:H->Prop}{b:UInt8}(h:b=97\/b=98\/b=99):wW W a [b]:=by refine⟨[b],[],[],?_,by simp,by rfl,.inl rfl⟩;rcases h with rfl|rfl|rfl<;>exact⟨by decide,by decide,by decide,by decide,_,_,rfl,by decide,by decide,by decide,by decide,by decide⟩
end Go.Eng
