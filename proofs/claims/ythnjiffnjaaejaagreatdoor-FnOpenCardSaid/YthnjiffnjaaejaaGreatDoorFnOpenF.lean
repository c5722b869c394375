/- Part 6 of what FnOpen needs. No condition. -/
import Derived.Test.YthnjiffnjaaejaaGreatDoorFnOpenE
set_option linter.all false
namespace Go.Eng
section
variable{X:fm}{m:Nat}(hm:X.c0<=m)(e6:ai X.E m (jB true m)){d:Nat}(kw:sR X d m)
include hm e6 kw
theorem apJ{u v:aa}{pd:ao}(n:cW v=true)(hu:iv d u)(aw:dp X pd ([32,97,124,98,41]++([32]++(u++([59,59]++([10]++([40,99,41,32,59,59,32,100,41,32]++(ew++v)))))))):bX X (λr=>r=v) pd (nc (aS true m) (aS true m).dl ([32,97,124,98,41]++([32]++(u++([59,59]++([10]++([40,99,41,32,59,59,32,100,41,32]++(ew++v))))))) pd):=by
 have bn:=oq X.ok m;have hf:=λs=>apI X.ok bn s;obtain⟨e,f⟩:=kt (w:=ew) (r:=v) (by decide) (by decide) (by decide) n;have o:nc (aS true m) (aS true m).dl (ew++v) pd= .ok () v pd:=by rw[Df,cq];unfold zi;rw[aM (qt f (by grind)),aM (cb f),e,if_neg (by simp),if_pos (by decide)];rfl
 have p:nc (aS true m) (aS true m).dl ([32,100,41,32]++(ew++v)) pd= .ok () v pd:=by
  rw[Df,cq];unfold zi;have b:bq ([32,100,41,32]++(ew++v))=some (100::41::32::(ew++v)):=by show bq (32::100::41::32::(ew++v))=_;rw[jN];exact j3 (by decide) (by decide) (by decide)
  have c:ar (100::41::32::(ew++v))= .word [100] true:=tu (w:=[100]) (by simp) (by decide) (hN.op (zd _) (ze _) (by decide) (by decide)).pU;have h:=kG _ _ _ (Nat.le_refl _) b
  rw[aM (qt b (by grind)),aM (cb h),c,if_neg (by simp),if_neg (by decide),if_neg (by simp),aM (show aY () (100::41::32::(ew++v)) pd= .ok () (100::41::32::(ew++v)) pd from rfl),aM (TZ (by decide) (by decide) h),
   aM (abL (x:=ew++v) (by grind[jN]) (by grind) (by grind) (by rw[e];decide)),aM (cb f),e,aP (by simp)]
  show(if _ then b7 (zi (aS true m) (aS true m).dl) () (ew++v) pd else .bad _)=_;rw[bh (by grind),<-Df];exact o
 have i:bX X (λr=>r=v) pd (nc (aS true m) (aS true m).dl ([10]++([40,99,41,32,59,59,32,100,41,32]++(ew++v))) pd):=by
  have b:bq ([40,99,41,32,59,59,32,100,41,32]++(ew++v))=some ([40,99,41,32,59,59,32,100,41,32]++(ew++v)):=j3 (by decide) (by decide) (by decide);have c:ar ([40,99,41,32,59,59,32,100,41,32]++(ew++v))= .op [40]:=by rfl
  have k:dp X pd ([10]++([40,99,41,32,59,59,32,100,41,32]++(ew++v))):=aw.sfx ⟨[32,97,124,98,41]++([32]++(u++[59,59])),by simp⟩;rw[Df,cq];unfold zi;generalize l:[40,99,41,32,59,59,32,100,41,32]++(ew++v)=z at b c k⊢;refine bX.sQ hm hf (zf hm (j:=[10]) (x:=z) (.inr (.inl rfl)) b (by grind) k) (λa r' _ g=>?_) (λ_=>abN X.ok bn);subst g;rw[aM (cb b),c,aP (by simp),aP (by decide),bh rfl];subst l;rw[aM (show bV 1 ([40,99,41,32,59,59,32,100,41,32]++(ew++v)) pd= .ok () (99::41::32::59::59::([32,100,41,32]++(ew++v))) pd from rfl),
   aM (TZ (x:=32::59::59::([32,100,41,32]++(ew++v))) (by decide) (by decide) (j3 (by decide) (by decide) (by decide))),
   aM (abL (x:=59::59::([32,100,41,32]++(ew++v))) (by simp[jN,xG]) (by simp[Js]) (by simp[Js]) (by rfl)),
   aM (cb (xG _)),Js,bh rfl,aM (show bV 2 (59::59::([32,100,41,32]++(ew++v))) pd= .ok () ([32,100,41,32]++(ew++v)) pd from rfl)]
  show bX X _ pd (if _ then b7 (zi (aS true m) (aS true m).dl) () ([32,100,41,32]++(ew++v)) pd else .bad _);rw[bh (by simp),<-Df,p];exact bX.ok
 generalize l:[10]++([40,99,41,32,59,59,32,100,41,32]++(ew++v))=z at aw i⊢;rw[Df,cq];unfold zi;have q:ar (124::98::41::([32]++(u++([59,59]++z))))= .op [124]:=abK (by decide);have b:bq (97::124::98::41::([32]++(u++([59,59]++z))))=some (97::124::98::41::([32]++(u++([59,59]++z)))):=j3 (by decide) (by decide) (by decide);have c:ar (97::124::98::41::([32]++(u++([59,59]++z))))= .word [97] true:=tu (w:=[97]) (by simp) (by decide) (hN.op (j3 (by decide) (by decide) (by decide)) q (by decide) (by decide)).pU;show bX X _ pd (cP _ _ (ae cR _ (32::97::124::98::41::([32]++(u++([59,59]++z)))) pd))
 rw[aM (qt (r1:=97::124::98::41::([32]++(u++([59,59]++z)))) (show bq (32::97::124::98::41::([32]++(u++([59,59]++z))))=_ by grind[jN]) (by grind)),
  aM (cb b),c,aP (by simp),aP (by decide),aP (by simp),aM (show aY () (97::124::98::41::([32]++(u++([59,59]++z)))) pd= .ok () (97::124::98::41::([32]++(u++([59,59]++z)))) pd from rfl),aM apH]
 have t:dp X pd ([32]++(u++([59,59]++z))):=aw.sfx (gP _ _);refine bX.sQ hm hf (kw.ls (v:=[59,59]++z) (.inr (.inl rfl)) hu.cc (jb.op (xG _) Js rfl) t) (λa r' _ g=>?_) (λ_=>abM X.ok);subst g;rw[aM (cb (show bq ([59,59]++z)=some ([59,59]++z) from xG _)),bh (show ar ([59,59]++z)= .op [59,59] from Js),aM (show bV 2 ([59,59]++z) pd= .ok () z pd from rfl)];show bX X _ pd (if _ then b7 (zi (aS true m) (aS true m).dl) () z pd else .bad _);rw[bh (by grind),<-Df];exact i
theorem apK{w u v:aa}{pd:ao}(j:cW v=true)(g:h5 d w)(hu:iv d u)(aw:dp X pd ([99,97,115,101,32]++w++[32,105,110,32,97,124,98,41,32]++(u++[])++[59,59,10,40,99,41,32,59,59,32,100,41,32,101,115,97,99]++v)):bX X (λr=>r=v) pd (gY (aS true m) (.word nA true) ([99,97,115,101,32]++w++[32,105,110,32,97,124,98,41,32]++(u++[])++[59,59,10,40,99,41,32,59,59,32,100,41,32,101,115,97,99]++v) pd):=by
 have bn:=oq X.ok m;have he:[99,97,115,101,32]++w++[32,105,110,32,97,124,98,41,32]++(u++[])++[59,59,10,40,99,41,32,59,59,32,100,41,32,101,115,97,99]++v=nA++(32::(w++(32::(fb++([32,97,124,98,41]++([32]++(u++([59,59]++([10]++([40,99,41,32,59,59,32,100,41,32]++(ew++v))))))))))):=by simp[nA,fb,ew]
 rw[he] at aw⊢;have c:=apJ hm e6 kw (v:=v) (u:=u) (pd:=pd) j hu;have e:cW ([32,97,124,98,41]++([32]++(u++([59,59]++([10]++([40,99,41,32,59,59,32,100,41,32]++(ew++v)))))))=true:=rfl;generalize [32,97,124,98,41]++([32]++(u++([59,59]++([10]++([40,99,41,32,59,59,32,100,41,32]++(ew++v))))))=z at aw c e⊢;have h:dp X pd (w++(32::(fb++z))):=aw.sfx ⟨nA++[32],by simp⟩;have k:dp X pd z:=h.sfx ⟨w++(32::fb),by simp⟩;rw[AY,if_neg (by decide),if_neg (by decide),if_neg (by decide),if_pos rfl,List.drop_left];unfold qk;obtain⟨cm,⟨x,p,l⟩,s⟩:=(Nq g).tok (u:=32::(fb++z));rw[aM (cb (by rw[jN];exact cm)),l];simp only;have n:cW z=true:=e;obtain⟨o,i⟩:=kt (w:=fb) (r:=z) (by decide) (by decide) (by decide) n;refine bX.ae (P:=λr=>r=fb++z) hm (bX.aJ ?_) (λa r' b f=>?_) (λt=>ai.ite (ai.ae X.ok (ai.dm X.ok _) λ_=>(ai.items X.ok bn).aJ _) ai.bK)
 ·refine bX.ae hm (abH (kw.wd w g) rfl (by simp) h) (λa r' _ f=>?_) (λ_=>ai.ae X.ok (ai.lines X.ok) λ_=>ai.fS X.ok λt=>ai.ite (ai.b3 _) (ai.ret _));subst f;rw[aM (qt (by rw[jN];exact i) (by grind)),aM (cb i),o,if_neg (by simp)];exact bX.ok
 ·subst f;have q:a= .word fb true:=by
   have b:=hJ.1 b;obtain⟨_,r1,aD,_,b⟩:=b4 b;obtain⟨_,y,A,_,b⟩:=b4 b;obtain⟨t,B,C,aB,b⟩:=b4 b;have xl:=nD aB;split at b
   ·cases b
   ·cases b;grind
  subst q;rw[bh (by decide),aM (show bV 2 (fb++z) pd= .ok () z pd from rfl)];exact(c k).aJ
end
theorem apL{D:ak Unit}{y v:aa}{pd:ao}(c:y=[32,50,62,102]\/y=[32,62,102])(b:cW v=true)(d:v≠[]):dv D (y++v) pd= .ok true v pd:=by
 have ad:fN (y++v) pd= .ok (some [62]) (102::v) pd:=by
  rcases c with rfl|rfl
  ·have a:bq ([32,50,62,102]++v)=some (50::62::102::v):=by show bq (32::50::62::102::v)=_;rw[jN];exact j3 (by decide) (by decide) (by decide)
   unfold fN;rw[a];rfl
  ·have a:bq ([32,62,102]++v)=some (62::102::v):=by show bq (32::62::102::v)=_;rw[jN];exact j3 (by decide) (by decide) (by decide)
   unfold fN;rw[a];rfl
 unfold dv;rw[aM ad];simp only;rw[aP (by decide),aP (by decide)];obtain⟨e,f⟩:=kt (w:=[102]) (r:=v) (by decide) (by decide) (by decide) b;have g:jM D [120] (102::v) pd= .ok () v pd:=by unfold jM;rw[aM (cb (show bq (102::v)=some (102::v) from f)),show ar (102::v)= .word [102] true from e];exact Gc (w:=[102]) (by decide) b d
 rw[aM g];rfl
theorem abQ{D:ak Unit}{y v b:aa}{pd:ao}(bx:y=[]\/y=[32,50,62,102]\/y=[32,62,102])(a:hN v b):gI D (y++v) pd= .ok () b pd:=by
 rcases bx with rfl|bx
 ·exact a.mL D pd
 ·have ad:dv D (y++v) pd= .ok true v pd:=apL bx a.pU a.ne;unfold gI;rw[cq,aM ad];have hl:v.length<(y++v).length:=by grind
  show(if v.length<(y++v).length then gI D v pd else .bad v)=_;rw[bh hl];exact a.mL D pd
section
variable{X:fm}{m:Nat}(hm:X.c0<=m)(e6:ai X.E m (jB true m)){d:Nat}(kw:sR X d m)
include hm e6 kw
theorem apM{t v:aa}{pd:ao}(b:cW v=true)(e:iv d t)(aw:dp X pd (123::([10]++(t++(10::([125]++v)))))):bX X (λr=>r=v) pd (gY (aS true m) (.word [123] true) (123::([10]++(t++(10::([125]++v))))) pd):=by rw[AY,bh rfl];have c:dp X pd ([10]++(t++(10::([125]++v)))):=aw.sfx ⟨[123],rfl⟩;refine bX.ae hm (kw.ls (.inr (.inr rfl)) e.cc (jb.AZ (w:=[125]) hm e6 (by simp) (by decide) (by decide) b rfl (c.sfx ⟨10::t,by simp⟩)) c).aJ (λa r' _ f=>?_) (λ_=>ai.cZ X.ok _);subst f;rw[sB (by simp) (by decide) (by decide) b];exact bX.ok
end
theorem A0{X:fm}{m:Nat}(hm:X.c0<=m){c v b y:aa}{pd:ao}(aF:AX c){t:Tok}(d:ar (c++(y++v))=t)(i:gX t=true)(e:hN v b)(f:y=[]\/y=[32,50,62,102]\/y=[32,62,102])
  (hk:bX X (λr=>r=y++v) pd (gY (aS true m) t (c++(y++v)) pd)):bX X (λr=>r=b) pd (fl true (some (aS true m)) (dw (some (aS true m))) (c++(y++v)) pd):=by
 obtain⟨⟨ad,j,g,k,l⟩,o⟩:=aF.facts (y++v);have bn:=oq X.ok (m+1);unfold fl;rw[aM (cb ad),aP g,bh (by grind),d];refine bX.ae (n:=m+1) (by omega) (show bX X (λr=>r=y++v) pd (sw (some (aS true m)) t (c++(y++v)) pd) from hk.named) (λa r' _ h=>?_) (λ_=>ai.mL X.ok bn.dl);subst h;rw[abQ f e];exact bX.ok
section
variable{X:fm}{m:Nat}(hm:X.c0<=m){d:Nat}(kw:sR X d m)
include hm kw
theorem apN{t v b:aa}{pd:ao}(h:hN v b)(i:iv d t)(e6:ai X.E m (jB true m))(aw:dp X pd ([102,40,41,32,123,10]++(t++[10])++[125,32,62,102]++v)):bX X (λr=>r=b) pd (fl true (some (aS true (m+1))) (dw (some (aS true (m+1)))) ([102,40,41,32,123,10]++(t++[10])++[125,32,62,102]++v) pd):=by
 have bn:=oq X.ok (m+1);have he:[102,40,41,32,123,10]++(t++[10])++[125,32,62,102]++v=[102]++(40::41::32::123::([10]++(t++(10::([125]++([32,62,102]++v)))))):=by simp
 rw[he] at aw⊢;have hk:=apM hm e6 kw (t:=t) (v:=[32,62,102]++v) (pd:=pd) rfl i (aw.sfx ⟨[102,40,41,32],rfl⟩);have f:cW ([10]++(t++(10::([125]++([32,62,102]++v)))))=true:=rfl;generalize [10]++(t++(10::([125]++([32,62,102]++v))))=z at aw hk f⊢;have j:ar (40::41::32::123::z)= .op [40]:=by rfl
 have c:bq (40::41::32::123::z)=some (40::41::32::123::z):=j3 (by decide) (by decide) (by decide);obtain⟨k,g⟩:=kt (w:=[102]) (r:=40::41::32::123::z) (by decide) (by decide) (by decide) (X7 _);unfold fl;rw[aM (cb g),k,if_neg (by simp),if_neg (by decide)];simp only;rw[if_neg (by decide),aM (show dv (dw (some (aS true (m+1)))) ([102]++(40::41::32::123::z)) pd= .ok false ([102]++(40::41::32::123::z)) pd from Iy g (by decide) (by decide)),aP (by simp),aM (Gc (by decide) (X7 _) (by simp)),bh (by decide),aM (cb c),j,bh rfl];refine bX.ae (P:=λr=>r=b) (n:=m+1) (by omega) ?_ (λa r' _ e=>by subst e;exact bX.ok) (λ_=>ai.ret _);have l:(aS true (m+1)).has=true:=rfl;have o:bq (32::123::z)=some (123::z):=by rw[jN];exact j3 (by decide) (by decide) (by decide)
 obtain⟨p,q⟩:=kt (w:=[123]) (r:=z) (by decide) (by decide) (by decide) f;unfold lW;simp only;rw[bh l];refine bX.named ?_
 rw[aM (show bV 1 (40::41::32::123::z) pd= .ok () (41::32::123::z) pd from rfl),aM (cb (zd _)),ze,aP (by simp),bh rfl,
  aM (show bV 1 (41::32::123::z) pd= .ok () (32::123::z) pd from rfl),aM (hJ.2 (qt o (by grind))),
  aM (cb (show bq (123::z)=some (123::z) from q)),show ar (123::z)= .word [123] true from p,aP (by simp),bh (by decide)]
 refine bX.ae (n:=m+1) (by omega) (show bX X (λr=>r=[32,62,102]++v) pd ((aS true (m+1)).cp (.word [123] true) (123::z) pd) from hk.named) (λa r' _ e=>?_) (λ_=>ai.ite bn.rd (ai.ret _));subst e;rw[bh trivial];rw[show(aS true (m+1)).rd=gI (dw (some (aS true m))) from rfl,abQ (.inr (.inr rfl)) h];exact bX.ok
end
theorem apP{X:fm}{n:Nat}(hm:X.c0<=n){lo:Option dT}(hD:ai X.E n (dw lo)):∀w,h5 0 w->xF w/\eM X (dw lo) w:=λw a=>⟨Nq a,eM.consts hm hD rfl w a⟩
theorem A1{X:fm}{m d:Nat}(hm:X.c0<=m+1)(hW:∀w,h5 d w->eM X (dw (some (aS true m))) w){c v a:aa}{pd:ao}(e:wj (h5 d) (h5 0) c)(f:hN v a)(aw:dp X pd (c++v)):bX X (λq=>q=a) pd (fl true (some (aS true m)) (dw (some (aS true m))) (c++v) pd):=by have bn:=oq X.ok (m+1);have hD:ai X.E (m+1) (dw (some (aS true m))):=bn.dl;exact ape hm hD (show h3 (dw (some (aS true m))) from(qX true (m+1)).dl) (λw b=>⟨Nq b,hW w b⟩) (apP hm hD) e f aw
theorem apQ{X:fm}{m:Nat}(hm:X.c0<=m+1):zg X (fl true (some (aS true m)) (dw (some (aS true m)))) (zh 0):=by
 have bn:=oq X.ok (m+1);have hD:ai X.E (m+1) (dw (some (aS true m))):=bn.dl;refine⟨λ{c v b pd} aF a aw=>?_,λ{c} x aF=>(aF.aG.facts x).1⟩;have hW:∀w,h5 0 w->eM X (dw (some (aS true m))) w:=eM.consts hm hD rfl
 rcases aF with aF|rfl|rfl|rfl
 ·exact A1 hm hW (rP.q aF) a aw
 ·exact A1 hm hW (wj.one (.inl rfl)) a aw
 ·exact A1 hm hW (wj.one (.inr (.inl rfl))) a aw
 ·exact A1 hm hW (wj.one (.inr (.inr rfl))) a aw
theorem apR{X:fm}{m d:Nat}(aG:d<=2)(hm:X.c0<=m)(kw:sR X d m)(e:sR X d (m+1))(e6:ai X.E m (jB true m)):zg X (fl true (some (aS true (m+1))) (dw (some (aS true (m+1))))) (zh (d+1)):=by
 have bn:=oq X.ok (m+1);have g:=abC X.ok m;have a:X.c0<=m+1:=by omega
 have hW:∀w,h5 (d+1) w->eM X (dw (some (aS true (m+1)))) w:=abf a bn aG e.abz e.wd
 refine⟨λ{c v i pd} aF b aw=>?_,λ{c} x aF=>(aF.aG.facts x).1⟩;have h:=aF.aG;rcases aF with(aF|aF)|rfl|rfl|rfl
 ·grind[A1,rP.q]
 ·rcases aF with⟨t,ad,rfl⟩|⟨t,ad,rfl⟩|⟨t,u,ad,f,rfl⟩|⟨t,u,ad,f,rfl⟩|⟨t,u,ad,f,rfl⟩|⟨w,u,ad,f,rfl⟩|rfl|⟨w,u,ad,f,rfl⟩|⟨t,ad,rfl⟩
  ·exact A0 a h (y:=[]) (mS (by simp)|>.2 (X6 _)) rfl b (.inl rfl) (apv a g e ad aw)
  ·exact A0 a h (y:=[]) (tu (w:=[123]) (by simp) (by decide) (oS _)) (by decide) b (.inl rfl) (apw a g e b.pU ad aw)
  ·exact A0 a h (y:=[]) (tu (w:=lV) (by decide) (by decide) (oS _)) (by decide) b (.inl rfl) (apx a g e b.pU ad f aw)
  ·have he:∀(z:aa),[105,102,32,97,59,32,116,104,101,110,10]++(t++[10])++[101,108,105,102,32,98,10,116,104,101,110,32,99,10,101,108,115,101,32]++(u++[59])++[102,105,32,50,62,102]++z=([105,102,32,97,59,32,116,104,101,110,10]++(t++[10])++[101,108,105,102,32,98,10,116,104,101,110,32,99,10,101,108,115,101,32]++(u++[59])++[102,105])++([32,50,62,102]++z):=λz=>by simp
   have hk:=apy a g e ad f aw;rw[he] at hk⊢;exact A0 a ⟨105,_,rfl,by decide,by decide,by decide,by decide,by decide,.inr ⟨by decide,.inl (by decide)⟩⟩ (tu (w:=lV) (by decide) (by decide) (oS _)) (by decide) b (.inr (.inl rfl)) hk
  ·exact A0 a h (y:=[]) (tu (w:=w9) (by decide) (by decide) (oS _)) (by decide) b (.inl rfl) (apA a g e b.pU ad f aw)
  ·exact A0 a h (y:=[]) (tu (w:=nz) (by decide) (by decide) (oS _)) (by decide) b (.inl rfl) (apE a g e b.pU ad f aw)
  ·exact A0 a h (y:=[]) (tu (w:=nz) (by decide) (by decide) (oS _)) (by decide) b (.inl rfl) (apG a g e b.pU aw)
  ·exact A0 a h (y:=[]) (tu (w:=nA) (by decide) (by decide) (oS _)) (by decide) b (.inl rfl) (apK a g e b.pU ad f aw)
  grind[apN]
 ·exact A1 (by omega) hW (wj.one (.inl rfl)) b aw
 ·exact A1 (by omega) hW (wj.one (.inr (.inl rfl))) b aw
 ·exact A1 (by omega) hW (wj.one (.inr (.inr rfl))) b aw
theorem sR.of{X:fm}{m d:Nat}(hm:X.c0<=m+1)(ev:zg X (fl true (some (aS true m)) (dw (some (aS true m)))) (zh d))(hW:∀w,h5 d w->eM X (dw (some (aS true m))) w):sR X d (m+1):=
 ⟨λ{pre t v b e ctx no pd} aB a bm aw=>aps hm (ai.command X.ok (oq X.ok m)) ev (λx k aF=>(aF.aG.facts x).2 k) aB a bm aw,hW,λ{t v b e ctx no pd} k a bm aw=>by obtain⟨c,l,ad,f,rfl⟩:=a;rw[tS] at aw⊢;exact abt hm (ai.command X.ok (oq X.ok m)) ev (λx k aF=>(aF.aG.facts x).2 k) bm.ce bm.abv bm.abw bm.go l.length l c k (cX _) ad f aw⟩
theorem Ny{X:fm}(aF:1<=X.c0):∀d,d<=3->∀n,X.c0+2*d<=n->sR X d n
 |0,_,n,aw=>by
  obtain⟨m,rfl⟩:∃m,n=m+1:=⟨n-1,by omega⟩
  exact sR.of (by omega) (apQ (by omega)) (eM.consts (m:=m+1) (by omega) (oq X.ok (m+1)).dl rfl)
 |d+1,aG,n,aw=>by
  obtain⟨m,rfl⟩:∃m,n=m+3:=⟨n-3,by omega⟩
  have cm:=Ny aF d (by omega) (m+1) (by omega);have a:=Ny aF d (by omega) (m+2) (by omega);exact sR.of (by omega) (apR (by omega) (by omega) cm a (abC X.ok m)) (abf (by omega) (oq X.ok (m+2)) (by omega) a.abz a.wd)
def gw(c:aa):Prop:=(69:UInt8)∉c/\c≠[]/\c.getLast?≠some 10
theorem gw.app{x y:aa}(c:(69:UInt8)∉x)(a:gw y):gw (x++y):=by obtain⟨ad,b,d⟩:=a;refine⟨by grind,by simp[b],?_⟩;simp_all
theorem gw.k{x y:aa}(a:gw x)(b:(69:UInt8)∉y/\y≠[]/\y.getLast?≠some 10):gw (x++y):=gw.app a.1 b
theorem gw.args{W:aa->Prop}(hW:∀w,W w->gw w):∀{ws:bl},(∀w∈ws,W w)->jS ws=[]\/gw (jS ws)
 |[],_=> .inl rfl
 |w::t,h=>by
  have he:jS (w::t)=[32]++(w++jS t):=by rfl
  right;rw[he];refine gw.app (by decide) ?_;rcases gw.args hW (ws:=t) (λw a=>h w (by grind)) with ad|ad
  ·grind
  ·exact gw.app (hW w (h w (by simp))).1 ad
theorem gw.simple{W a:aa->Prop}(hW:∀w,W w->gw w)(b:∀w,a w->gw w){s:aa}(h:rP W a s):gw s:=by
 obtain⟨x,ws,r,ad,c,rfl,d⟩:=h;have e:gw x:=by simp only[sO,kZ,qD,tU] at ad;rcases ad with rfl|rfl|rfl|rfl<;>exact⟨by decide,by decide,by decide⟩
 have f:gw (x++jS ws):=by
  rcases gw.args hW c with h|h
  ·grind
  ·exact gw.app e.1 h
 rcases d with rfl|rfl|⟨w,g,rfl⟩
 ·grind
 ·grind[gw.k]
 ·exact gw.app f.1 (gw.app (by decide) (b w g))
theorem gw.list{C:aa->Prop}(b:∀c,C c->gw c){t:aa}(h:u4 C t):gw t:=by
 obtain⟨c,l,ad,a,rfl⟩:=h;induction l generalizing c with
 |nil=>grind[c1]
 |cons p l d=>
  have he:c++c1 (p::l)=(c++p.1)++(p.2++c1 l):=by simp[c1]
  rw[he];obtain⟨e,f⟩:=a p (by simp);refine gw.app ?_ (d p.2 f λq g=>a q (by grind));have:(69:UInt8)∉p.1:=(by decide:∀j∈jD,(69:UInt8)∉j) p.1 e;simp[(b c ad).1,this]
theorem T1:∀d,(∀w,h5 d w->gw w)/\∀t,iv d t->gw t
 |0=>by
  have hk:∀w∈o0,gw w:=by unfold gw;decide
  exact⟨hk,λt f=>gw.list (λc aF=>gw.simple hk hk aF) f⟩
 |d+1=>by
  obtain⟨g,a⟩:=T1 d
  have hk:∀w∈o0,gw w:=by unfold gw;decide
  have i:∀w,h5 (d+1) w->gw w:=by
   intro w h;rcases h with h|⟨t,ad,h|h⟩|⟨v,ad,h⟩
   ·grind
   ·subst h;exact gw.k (gw.app (by decide) (a t ad)) ⟨by decide,by decide,by decide⟩
   ·subst h;exact gw.k (gw.app (by decide) (a t ad)) ⟨by decide,by decide,by decide⟩
   ·subst h;exact gw.k (gw.app (by decide) (g v ad)) ⟨by decide,by decide,by decide⟩
  refine⟨i,λt f=>gw.list (λc aF=>?_) f⟩;rcases aF with aF|aF
  ·exact gw.simple i hk aF
  ·have k:∀{t:aa}{b:UInt8},iv d t->b≠69->(69:UInt8)∉t++[b]:=λf j=>by simp[(a _ f).1,xO j]
   rcases aF with⟨t,ad,rfl⟩|⟨t,ad,rfl⟩|⟨t,u,ad,e,rfl⟩|⟨t,u,ad,e,rfl⟩|⟨t,u,ad,e,rfl⟩|⟨w,u,ad,e,rfl⟩|rfl|⟨w,u,ad,e,rfl⟩|⟨t,ad,rfl⟩
   ·exact gw.k (gw.app (by decide) (a t ad)) ⟨by decide,by decide,by decide⟩
   ·exact gw.app (by simp[(a t ad).1]) ⟨by decide,by decide,by decide⟩
   ·exact gw.app (by simp[(a t ad).1,(a u e).1]) ⟨by decide,by decide,by decide⟩
   ·exact gw.app (by simp[(a t ad).1,(a u e).1]) ⟨by decide,by decide,by decide⟩
   ·exact gw.app (by simp[(a t ad).1,(a u e).1]) ⟨by decide,by decide,by decide⟩
   ·exact gw.app (by simp[(g w ad).1,(a u e).1]) ⟨by decide,by decide,by decide⟩
   ·exact⟨by decide,by decide,by decide⟩
   ·exact gw.app (by simp[(g w ad).1,(a u e).1]) ⟨by decide,by decide,by decide⟩
   ·exact gw.app (by simp[(a t ad).1]) ⟨by decide,by decide,by decide⟩
def sS:fm where
 E:={T:=[],N:=λ_=>0,c:=1,Q:=λ_ _=>True}
 ok:=by
  have aF:∀{b:UInt8}{u:aa},¬(b::u<:+[]):=λh=>by grind
  refine⟨cX _,λ_ _ _ _=>cX _,λ_ _ _ _ _ _=>trivial,λ_ _=>trivial,λ_ _ _ _ _ _ _ _ _ _ _=>trivial,λu h=>absurd h aF,λu h=>absurd h aF,λr h ad a=>?_,λu h=>absurd h aF⟩;grind[ar,gX]
 c0:=1
theorem sS.nil{pd:ao}:sS.E.H sS.c0 [] pd:=⟨fT,cX _,trivial⟩
theorem bX.nil{P:aa->Prop}{pd b:ao}{α:Type}{a:α}:bX sS P pd (.ok a [] b):= .inr sS.nil
theorem apS{cV:ak Unit}{no:Bool}{k:Nat}{pd:ao}:b7 (eK cV .text no) k [] pd= .ok k [] pd:=by rw[cq,CA,bh rfl];rfl
theorem jb.text{cV:ak Unit}{no:Bool}{x:aa}{pd a:ao}(b:cR (10::x) pd= .ok true [] a):jb sS cV .text no (10::x) (10::x) [] pd:=by refine⟨hN.nl x,rfl,rfl,λk r0 hl=>?_⟩;show bX sS _ pd (cP _ r0 (ae cR (λ_=>aY (.inl (k+1))) (10::x) pd));rw[aM b];show bX sS _ pd (if _ then b7 (eK cV .text no) (k+1) [] a else .bad _);rw[bh (by grind),apS];exact bX.nil
theorem abR{P:aa->Prop}{pd:ao}{α:Type}{x:dD α}(h:bX sS P pd x):∀q,x≠ .deep q:=by rintro q rfl;exact h
theorem apT{t:aa}(a:iv 3 t){n:Nat}(aw:7<=n):∀q,gr true n (t++[10])≠ .deep q:=by have hk:=Ny (X:=sS) (Nat.le_refl _) 3 (by decide) n (by show 1+6<=n;omega);have:=hk.ls (pre:=[]) (t:=t) (v:=[10]) (ctx:= .text) (no:=true) (pd:=[]) (.inl rfl) a.cc (jb.text (RI rfl)) dp.nil;exact abR this
theorem abS:∀(r:aa),r=(iM r).1/\(iM r).2=[]\/r=(iM r).1++10::(iM r).2
 |[]=> .inl ⟨rfl,rfl⟩
 |b::t=>by
  unfold iM;by_cases h:b=10
  ·grind
  simp_all[abS]
theorem apU:∀(n:Nat)(r q:aa),r.length<=n->ny [69] false r=some q->∃p s,r=p++69::s/\(s=[]/\q=[]\/s=10::q):=by
 intro n;induction n with
 |zero=>simp_all[ny]
 |succ n e=>
  intro r q aw h;cases r with
  |nil=>grind
  |cons b t=>
   rw[Cw] at h;simp only[eB,cr] at h;have c:=abS (b::t);have a:=LP (b::t) (by simp);by_cases hl:(iM (b::t)).1=[69]
   ·rw[bh hl] at h;cases h;rcases c with⟨ad,d⟩|ad
    ·exact⟨[],[],by grind,.inl ⟨rfl,d⟩⟩
    ·exact⟨[],10::(iM (b::t)).2,by grind,.inr rfl⟩
   grind
theorem apV{t:aa}(i:(69:UInt8)∉t):dp sS [([69],false)] (t++mu):=by
 intro z r' d j;right;have k:r'=[]:=by
  have ad:ny [69] false z=some r':=by grind[l6]
  obtain⟨p,s,e,l⟩:=apU z.length z r' (cX _) ad;obtain⟨y,f⟩:=d;rw[e] at f;have g:(y++10::p)++69::s=(t++[10,98,111,100,121,10])++69::[10]:=by grind[mu]
  have m:s=[10]:=by
   rcases List.append_eq_append_iff.1 g with⟨a,h,b⟩|⟨a,h,b⟩
   ·cases a with
    |nil=>grind
    |cons c a=>
     simp only[hF,Dh] at b;have:(69:UInt8)∈t++[10,98,111,100,121,10]:=by grind
     grind
   ·cases a with
    |nil=>grind
    |cons c a=>
     simp only[hF,Dh] at b;obtain⟨rfl,b⟩:=b;have:(69:UInt8)∈[(10:UInt8)]:=by grind
     grind
  grind
 grind[sS.nil]
abbrev pV:ao:=[([69],false)]
theorem apW:cR mu pV= .ok true [] []:=by
 have a:l6 pV [98,111,100,121,10,69,10]= .inl []:=by
  unfold l6;have:ny [69] false [98,111,100,121,10,69,10]=some []:=by rw[Cw];simp only[eB,cr];rw[aP (by decide)];show ny [69] false [69,10]=_;rw[Cw];decide
  simp only[this];rfl
 rw[show mu=10::[98,111,100,121,10,69,10] from rfl,qq,cq,ts (hN.nl _).rR];have:ae iW (λ_=>aY (.inl true)) (10::[98,111,100,121,10,69,10]) pV=(.ok (.inl true) [] []:dD (Bool⊕Bool)):=by unfold ae;rw[tp,a];rfl
 rw[this];show(if([]:aa).length<(10::[98,111,100,121,10,69,10]:aa).length then b7 gu true [] [] else .bad [])=_;rw[bh (by decide),cq,pJ lX (by decide)];rfl
theorem asB{b:UInt8}{t:aa}(h:oR b=false)(a:b≠45):bt (60::60::b::t)=[60,60]:=by simp only[oR,Jw,NN,ne_eq] at h;simp_all[bt,lh,xO]
theorem apX{lo:Option dT}{D:ak Unit}{z:aa}(a:cW z=true)(c:z≠[])(g:bq z=some z){o:aa}(h:ar z= .op o)(ad:eZ o=false)(i:o≠[40]):fl true lo D ([99,97,116]++([32,60,60,69]++z)) []= .ok () z pV:=by
 have j:hN z z:=⟨c,a,g,.inr ⟨o,h,ad,i⟩⟩;obtain⟨k,f⟩:=kt (w:=[99,97,116]) (r:=[32,60,60,69]++z) (by decide) (by decide) (by decide) rfl;have s1:bq ([32,60,60,69]++z)=some (60::60::69::z):=by show bq (32::60::60::69::z)=_;rw[jN];exact j3 (by decide) (by decide) (by decide)
 have v:dv D ([32,60,60,69]++z) []= .ok true z pV:=by
  have l:fN ([32,60,60,69]++z) []= .ok (some [60,60]) (69::z) []:=by unfold fN;rw[s1];rfl
  unfold dv;rw[aM l];simp only;rw[bh trivial];have m:hB false (69::z) []= .ok () z pV:=by
   obtain⟨n,p⟩:=kt (w:=[69]) (r:=z) (by decide) (by decide) (by decide) a;have d:bq (69::z)=some (69::z):=p;have e:ar (69::z)= .word [69] true:=n;unfold hB;rw[d];simp only[e];have aG:du (69::z)=some ([69],z,[]):=by
    have q:cW (69::z)=false:=RH (by decide);rw[E0,aP (by grind),if_neg (by decide),if_neg (by decide),if_neg (by decide),if_neg (by decide)];have:du z=some ([],z,[]):=by
     cases z with
     |nil=>grind
     |cons b t=>rw[E0,bh a]
    grind
   grind
  rw[aM m];rfl
 unfold fl;rw[aM (cb f),k,aP (by simp),aP (by decide)];simp only;rw[aP (by decide),aM (show dv D ([99,97,116]++([32,60,60,69]++z)) []= .ok false ([99,97,116]++([32,60,60,69]++z)) [] from Iy f (by decide) (by decide)),aP (by simp),aM (Gc (by decide) rfl (by simp)),bh (by decide),aM (cb s1)];have s:ar (60::60::69::z)= .op [60,60]:=by rfl
 rw[s,aP (by decide)];have u:dv D (60::60::69::z) []= .ok true z pV:=by
  have:dv D (60::60::69::z) []=dv D ([32,60,60,69]++z) []:=by have s2:=kG _ _ _ (cX _) s1;simp_all[dv,ae,fN]
  grind
 unfold hg;rw[cq,aM u,bh rfl];show(if _ then hg true D z pV else .bad _)=_;rw[bh (by grind)];exact j.simple D pV
theorem ap1{t:aa}(a:iv 3 t){n:Nat}(aw:8<=n):∀q,gr true n (rQ++t++mu)≠ .deep q:=by
 obtain⟨m,rfl⟩:∃m,n=m+1:=⟨n-1,by omega⟩
 have b:=(T1 3).2 t a;have cm:=Ny (X:=sS) (Nat.le_refl _) 3 (by decide) (m+1) (by show 1+6<=m+1;omega);have i:dp sS pV (t++mu):=apV b.1;have s:=cm.rd (v:=mu) (ctx:= .text) (no:=true) (pd:=pV) 1 a.cc (jb.text apW) i;obtain⟨c,l,ad,u,x⟩:=a.cc;obtain⟨⟨j,g,k,y,A⟩,B⟩:=ad.aG.facts (c1 l++mu);have d:t++mu=c++(c1 l++mu):=by grind
 rw[<-d] at j g k;have h:(t++mu).length<([99,97,116]++([32,60,60,69]++(59::32::(t++mu)))).length:=by grind
 have he:rQ++t++mu=[99,97,116]++([32,60,60,69]++(59::32::(t++mu))):=by rfl
 generalize t++mu=z at*;have e:ar (59::32::z)= .op [59]:=Nw (by decide);have o:=hN.op (xG (32::z)) e (by decide) (by decide);obtain⟨C,f⟩:=kt (w:=[99,97,116]) (r:=[32,60,60,69]++(59::32::z)) (by decide) (by decide) (by decide) rfl;have e6:jB true (m+1) ([99,97,116]++([32,60,60,69]++(59::32::z))) []= .ok () (59::32::z) pV:=
  (X3 f (by rfl) (apX o.pU (by simp) (xG _) e (by decide) (by decide)) (xG _) (by grind) (by grind) (by grind)).2
 have p:gr true (m+1) ([99,97,116]++([32,60,60,69]++(59::32::z)))=b7 (eK (jB true (m+1)) .text true) 1 z pV:=by
  unfold gr;rw[uM,pI,aM (hJ.2 (qt f (by grind))),cq,It f (by grind) (by rfl),aM e6,aM (cb (xG _)),e];have:il .text 0 (.op [59]) (59::32::z) pV= .ok (.inl 1) z pV:=by unfold il;simp only;rw[if_pos (by simp),aM (show bV 1 (59::32::z) pV= .ok () (32::z) pV from rfl),aM (qt (by grind[jN]) g)];rfl
  rw[this];show(if _ then b7 (eK (jB true (m+1)) .text true) 1 z pV else .bad _)=_;grind
 grind[abR]
end Go.Eng
namespace Go.Eng
open Go Go.Proofs
theorem asE{s:aa}(b:(dz s).length<=1000000)(aG:∀q,gr false 30 (dz s)≠ .deep q):Xj s=some (match gr false 30 (dz s) with| .ok a _ _=>(a:Int)|_=> -1):=by
 have h:=Sz s b;unfold Xj;cases aB:gr false 30 (dz s) with
 |ok a r pd=>simp_all[aO]
 |more op nd ds=>simp_all[aO]
 |bad r=>rw[aB] at h;obtain⟨_,op,h⟩:=h;simp_all[aO]
 |deep q=>grind
theorem ap4{s:aa}(d:(dz s).length<=1000000):EV s=some (match gr true 30 (dz s) with| .ok a _ _=>(a:Int)|_=> -1):=by
 have h:=aoi d;unfold EV;cases aB:gr true 30 (dz s) with
 |ok a r pd=>rw[aB] at h;obtain⟨st,ad,b,_⟩:=h;simp_all[aO]
 |more op nd ds=>rw[aB] at h;obtain⟨st,c,ad,b,_⟩:=h;simp_all[aO]
 |bad r=>rw[aB] at h;obtain⟨st,c,ad,b⟩:=h;simp_all[aO]
 |deep q=>rw[aB] at h;obtain⟨st,c,ad,b⟩:=h;simp_all[aO]
theorem abT{r:aa}{n:Nat}(aw:n<=30)(h:∀q,gr true n r≠ .deep q){fr:Bool}{m:Nat}(hm:n<=m):Au (gr true n r) (gr fr m r)/\∀q,gr fr m r≠ .deep q:=by grind[Au,XW]
def lJ(x:dD Nat):Int:=match x with| .ok a _ _=>(a:Int)|_=> -1
theorem Au.lJ{x y:dD Nat}(h:Au x y)(a:∀q,x≠ .deep q):lJ y=lJ x:=by
 rcases h with⟨q,h⟩|rfl|⟨_,_,_,_,rfl,rfl⟩
 ·grind
 ·rfl
 ·rfl
theorem ap5(s:aa):∃t,dz s=t++[10]:=by
 unfold dz;split
 ·grind[List.getLast?_eq_some_iff]
 simp
theorem abU(t:aa):dz (t++[10])=t++[10]:=bh (by simp)
theorem ap6(s:aa):(dz s).length<=s.length+1:=by grind[dz]
theorem ap7(x0:aa)(b:x0.length<=1048576):∃T,Cn x0=some T/\T.length<=470000/\(∀n,8<=n->∀q,gr true n (dz T)≠ .deep q)/\∃c z,dz T=c++z/\AX c:=by
 obtain⟨t,T,ad,a,f,d⟩:=aoW x0 b;refine⟨T,ad,?_⟩;have bs:=(T1 3).2 t a;rcases d with rfl|rfl
 ·have he:dz T=T++[10]:=aP bs.2.2;refine⟨by omega,λn aw=>?_,?_⟩
  ·grind[apT]
  ·obtain⟨c,l,e,g,h⟩:=a.cc;exact⟨c,c1 l++[10],by grind,e.aG⟩
 ·have he:dz (rQ++t++mu)=rQ++t++mu:=by have:=abU (rQ++t++[10,98,111,100,121,10,69]);simp_all[mu]
  refine⟨by grind[rQ,mu,List.length_cons],λn aw=>?_,?_⟩
  ·grind[ap1]
  ·exact⟨[99],[97,116,32,60,60,69,59,32]++t++mu,by grind[rQ],⟨_,_,rfl,by decide,by decide,by decide,by decide,by decide,.inr ⟨by decide,.inl (by decide)⟩⟩⟩
theorem ap8{n:Nat}(h:n<=2000000):((n:Nat):Int)<=9223372036854775807:=by omega
def SJ(x:dD Nat):Int:=match x with| .ok _ _ _=>0| .more _ _ _=>1|_=>2
theorem Nz{w v:aa}{op:bl}(a:dz w=v)(hl:v.length<=1000000)(hk:op.length<=100)(h:dJ (gr false 30 v) op):rE w=some op:=by subst a;obtain⟨nd,ds,aB⟩:=h;have h:=Sz w hl;rw[aB] at h;unfold rE;rw[h,aO rfl];show a4 (([]:bl).length+op.length<=536870912) (some ([]++op))=_;rw[bZ (by simp;omega),sV]
theorem ap9(l:bl)(hl:l.length<=100){j:Unit->Option Bool}:∀(n i:Nat),l.length-i<n->i<=l.length->fixF (LO l l j) n (i:Int)=j ():=by
 intro n;induction n with
 |zero=>intro i h;omega
 |succ n a=>
  intro i h bf;rw[e4];unfold LO;by_cases c:i<l.length
  ·have b:W ((i:Int)+1)=((i+1:Nat):Int):=by rw[dV (by omega) (by omega)];omega
   rw[decide_eq_true (by omega:(i:Int)<(l.length:Int)),aK,bZ ⟨by omega,by omega⟩,bZ ⟨by omega,by omega⟩,decide_eq_true rfl,b];exact a (i+1) (by omega) (by omega)
  ·rw[e1 (show¬(i:Int)<(l.length:Int) by omega),aU]
theorem T3(l:bl)(hl:l.length<=100):Cs l l=some true:=by unfold Cs;rw[decide_eq_true rfl];exact ap9 l hl bB 0 (lq (by omega)) (by omega)
theorem ap_:dJ (gr false 30 [40,10]) [[40]]:=by refine dJ.ls (RD _) (by rw[Iv];simp) (by rw[Iv];simp) (by rw[Iv];rfl) (by rw[Iv];rfl) ?_;unfold fl;rw[aM (Iw _ _),aP (by simp),bh (by rfl)];refine dJ.ae (dJ.named (x:=[40]) ?_);show dJ (ae (bV 1) (λ_=>ae (((aS false 29).ls .paren false).aJ [41]) λ_=>jA [41]) _ _) [];rw[aM (show bV 1 [40,10] []= .ok () [10] [] from rfl)];refine dJ.ae (dJ.aJ ?_);rw[uM,pI,aM (hJ.2 (RI rfl))];refine dJ.rep ?_;rw[CA,aP (by simp)];exact⟨_,_,rfl⟩
theorem aqa:gr false 30 [97,10]= .ok 1 [] []:=by
 obtain⟨a,c⟩:=kt (w:=[97]) (r:=[10]) (by decide) (by decide) (by decide) (by decide);refine ajB (x:=[97]++[10]) c (by rw[a];simp) (by rw[a];simp) (by rw[a];rfl) ?_;unfold fl;rw[aM (cb c),a,aP (by simp),aP (by decide)];simp only
 rw[aP (by decide),aM (show dv _ ([97]++[10]) []= .ok false ([97]++[10]) [] from Iy (b:=97) c (by decide) (by decide)),aP (by simp),aM (show cI _ ([97]++[10]) []= .ok () [10] [] from by
  rw[CC _ _ _ (by decide)];exact L3 (Ct _)),bh (by decide),aM (cb (As []))]
 have:ar [10]= .line:=by simp[ar]
 rw[this,aP (by simp)];unfold hg;rw[cq,aM ajA.1,aP (by simp),aM (cb (As [])),this];rfl
theorem law_FnOpen(x0:aa):M_l_FnOpen x0=some true:=by
 unfold M_l_FnOpen;by_cases l:(1048576:Int)<(x0.length:Int)
 ·rw[decide_eq_true l];rfl
 rw[e1 l,aU];obtain⟨T,ad,C,f,D⟩:=ap7 x0 (by omega);have E:=ap6 T;obtain⟨g,c⟩:=ap5 T;have i:c_ (dz T):= .inr ⟨g,c⟩;obtain⟨o,F⟩:=abT (n:=28) (fr:=true) (m:=30) (by decide) (f 28 (by decide)) (by decide);obtain⟨p,s⟩:=abT (n:=28) (fr:=false) (m:=28) (by decide) (f 28 (by decide)) (by decide);have t:EV T=some (lJ (gr true 28 (dz T))):=by rw[ap4 (by omega)];exact ma some (o.lJ (f 28 (by decide)))
 rw[ad,aO rfl,Zp T (by omega),aO rfl,aO rfl,t,aO rfl];by_cases hk:lJ (gr true 28 (dz T))<1
 ·rw[decide_eq_true hk,aK];have w:rE [40]=some [[40]]:=by refine Nz (v:=[40,10]) (by decide) (by decide) (by decide) ?_;exact ap_
  have y:rE [97]=some []:=by
   have h:=Sz [97] (by decide);have he:dz [97]=[97,10]:=by decide
   rw[he,aqa] at h;dsimp only at h;unfold rE;rw[h];rfl
  rw[w,y];rfl
 rw[e1 hk,aU]
 have aB:∃k r pd,gr false 28 (dz T)= .ok k r pd/\k≠0:=by
  have b:=p.lJ (f 28 (by decide));cases aB:gr false 28 (dz T) with
  |ok k r pd=>rw[aB] at b;refine⟨k,r,pd,rfl,λh0=>hk ?_⟩;rw[<-b,h0];show((0:Nat):Int)<1;decide
  |more _ _ _=>rw[aB] at b;exact absurd (by rw[<-b];show(-1:Int)<1;decide) hk
  |bad _=>rw[aB] at b;exact absurd (by rw[<-b];show(-1:Int)<1;decide) hk
  |deep q=>exact absurd aB (s q)
 obtain⟨k,r,pd,aB,d⟩:=aB;have j:gr false 29 (dz T)= .ok k r pd:=by
  rcases XW (.inl rfl) (n:=28) (m:=29) (fr:=false) (by decide) (dz T) with⟨q,h⟩|h|⟨_,_,_,_,h,_⟩
  ·rw[aB] at h;cases h
  ·rw[h,aB]
  ·rw[aB] at h;cases h
 generalize dz T=u at*
 have e:∀{x:aa},dz (x++u)=x++u:=λ{x}=>by rw[c,<-tS];exact abU _
 have z:rE ([40]++u)=some [[40]]:=Nz e (by simp;omega) (by decide) (ajG i j d);have A:rE ((([105,102,32]++u)++[116,104,101,110,32,123,10])++u)=some [[105,102],[123]]:=by refine Nz e (by simp;omega) (by decide) ?_;have:=ajK i aB j d d;simpa[lV,ih] using this
 have B:rE ((([99,97,115,101,32,120,32,105,110,32,97,41,10]++u)++[101,99,104,111,32,34,36,40,32])++u)=some [[99,97,115,101],[34],[36,40]]:=by refine Nz e (by simp;omega) (by decide) ?_;have:=ajL i aB j d d;simpa[nA,l9] using this
 have a:∀{n:Nat},n<=2*u.length+100->((n:Nat):Int)<=9223372036854775807:=λaw=>ap8 (by omega)
 rw[bZ (a (by simp;omega)),z,aO rfl,T3 _ (by decide),aO rfl,aK];rw[bZ (a (by simp;omega)),bZ (a (by simp;omega)),bZ (a (by simp;omega)),A,aO rfl,T3 _ (by decide),aO rfl,aK];rw[bZ (a (by simp;omega)),bZ (a (by simp;omega)),bZ (a (by simp;omega)),B,aO rfl,T3 _ (by decide),aO rfl]
end Go.Eng
namespace Go.Eng
def Jt(j:Bool):aa:=bif j then [92,10] else []
theorem aqc{j:Bool}{r:aa}(h:r<:+Jt j):r=[]\/r=[10]\/r=[92,10]:=by
 cases j with
 |false=>left;exact List.suffix_nil.1 h
 |true=>simpa[Jt,List.suffix_cons_iff,or_comm,or_assoc,or_left_comm] using h
theorem NA{j:Bool}{b:UInt8}{u:aa}(h:b::u<:+Jt j):b≠36/\b≠40/\(bq (b::u)=some (b::u)->gX (ar (b::u))=false):=by
 rcases aqc h with h|h|h
 ·cases h
 ·cases h;exact⟨by decide,by decide,λ_=>by decide⟩
 ·cases h;exact⟨by decide,by decide,λh=>by rw[nC] at h;simp[gb] at h⟩
def Ju(j:Bool):fm where
 E:={T:=Jt j,N:=λ_=>0,c:=1,Q:=λ_ _=>True}
 ok:=by
  refine⟨cX _,λ_ _ _ _=>cX _,λ_ _ _ _ _ _=>trivial,λ_ _=>trivial,λ_ _ _ _ _ _ _ _ _ _ _=>trivial,λu h=>absurd rfl (NA h).1,λu h=>absurd rfl (NA h).1,λr h ad a=>?_,λu h=>absurd rfl (NA h).2.1⟩;cases r with
  |nil=>simp[ar,gX] at a
  |cons b u=>rw[(NA h).2.2 ad] at a;cases a
 c0:=1
def NB(j:Bool)(r0:aa)(x:dD Unit):Prop:=match x with
 | .ok _ r pd=>r<:+r0/\dp (Ju j) pd r
 | .deep _=>False
 |_=>True
structure aqd(j:Bool)(r:aa):Prop where
 uL:∀u,r=36::40::u->u.head?≠some 40->∀n pd,7<=n->dp (Ju j) pd r->NB j r ((aS true n).dl r pd)
 qh:∀u,r=36::123::u->∀n pd,7<=n->dp (Ju j) pd r->NB j r ((aS true n).dl r pd)
 comp:bq r=some r->gX (ar r)=true->∀n pd,7<=n->dp (Ju j) pd r->NB j r ((aS true n).cp (ar r) r pd)
 func:∀u,r=40::u->∀n pd,7<=n+1->dp (Ju j) pd r->NB j r (lW true (some (aS true n)) r pd)
inductive mX(j:Bool):Nat->aa->Prop
 |nil:mX j 0 []
 |mark {k:Nat} {T:aa} (b:UInt8):mX j k T->mX j (k+1) (b::T)
 |free {k:Nat} {T:aa} {b:UInt8}:mX j k T->(Jt j<:+b::T->aqd j (b::T))->mX j k (b::T)
def aqe:aa->Bool
 |40::_=>true
 |123::_=>true
 |36::40::_=>true
 |36::123::_=>true
 |105::102::_=>true
 |119::104::_=>true
 |117::110::_=>true
 |102::111::_=>true
 |99::97::115::_=>true
 |_=>false
def JV:aa->Nat
 |[]=>0
 |b::t=>(if !aqe (b::t)&& !(t==[]&&([36,105,119,117,102,99]:aa).contains b)&& !(b::t==[99,97]) then 0 else 1)+JV t
end Go.Eng
