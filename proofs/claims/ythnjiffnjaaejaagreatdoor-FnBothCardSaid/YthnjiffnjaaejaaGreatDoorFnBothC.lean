/- Part 3 of what FnBoth needs. No condition. -/
import Derived.Test.YthnjiffnjaaejaaGreatDoorFnBothB
set_option linter.all false
namespace Go.Eng
open Go Go.Proofs
noncomputable section
set_option maxHeartbeats 1000000 in
theorem akL{I:H}{r:(Int×Int)×bx×Int}(h:CW I=some r):
  FC Tryz.prog 23 [zs I] [] (λ_:bL×Nat=>True) (λq=> .tuple #[.agg #[c5 r.1.1,c5 r.1.2],.slice q.1 r.2.1.length q.2,c5 r.2.2]) (λq=>[⟨.str,⟨q.1,r.2.1.length,q.2⟩,r.2.1⟩]):=by
 refine⟨Tryz.call23,λw _=>calls_of_wp_defers Tryz.func23 A ?_⟩;unfold CW at h;obtain⟨y,j,h⟩:=oj h;rw[Tryz.ntmps23];refine aZ.enter (T:=cn) (X:=[]) (w0:=w) (nt:=20) (λ_=>0) [(0,cg I)] (O:=[]) ?_ A (by simp) A (Keep.refl _ _) (L:=[]) A List.nodup_nil (by simp) ?_
 ·simp[e9.is]
 intro fin i;refine aZ.seq (aZ.region (aI.pS J 3 [] [1,2] [(2,.fi 1 0),(3,.fi 2 0),(4,bF 0)] (.new 1 39 [c5 0,c5 0] (.new 2 29 [.slice none 0 0] .nil)) A ⟨fS A,jX A A⟩ (aI.done A ?_)));refine aZ.seq (aZ.region (aI.eL J 1 [] [] [(6,cg I)] _ A ⟨⟨A,trivial⟩,A⟩ (aI.call A A A A (MN j) A [] A A λ_ _=>?_)));refine aI.pS J 2 [] [3] [(9,.fi 3 0)] (.new 1 39 [c5 0,c5 0] (.new 2 29 [.slice none 0 0] (.new 3 55 [zs y,c5 0,.slice none 0 0,c5 0,.slice none 0 0,c5 0] .nil))) A ⟨⟨A,trivial⟩,jX A A⟩ ?_;refine aI.unbox 3 A (B':= .new 1 39 [c5 0,c5 0] (.new 2 29 [.slice none 0 0] .nil)) (jX A A) A En (y,0,(bB.v ⟨none,0,0⟩),0,(bB.v ⟨none,0,0⟩),0) ⟨A,A,A,A⟩ (λa=>[(2,.fi 1 0),(3,.fi 2 0),(4,bF 0),(9,bK a)]) (λ_=>fS A) λc=>?_;refine aI.pS J 2 [] [4] [(5,.fi 4 0)] (.new 1 39 [c5 0,c5 0] (.new 2 29 [.slice none 0 0] (.new 4 52 [.pointer c] .nil))) A ⟨⟨A,trivial⟩,jX A A⟩ (aI.done A ?_);refine aZ.unbox 1 A (B':= .new 2 29 [.slice none 0 0] (.new 4 52 [.pointer c] .nil)) (jX A A) A (.pair (.int .i64) (.int .i64)) (0,0) ⟨A,A⟩ (λa=>[(2,bK a),(3,.fi 2 0),(4,bF 0),(5,.fi 4 0)]) (λ_=>fS A) λak=>?_;refine aZ.unbox 2 A (B':= .new 4 52 [.pointer c] .nil) (jX A A) A .val (bB.v ⟨none,0,0⟩) ⟨A,A,A⟩ (λa=>[(2,bK ak),(3,bK a),(4,bF 0),(5,.fi 4 0)]) (λ_=>fS A) λa3=>?_;refine aZ.unbox 4 A (B':= .nil) trivial A .val (.pointer c) ⟨A,A,A⟩ (λa=>[(2,bK ak),(3,bK a3),(4,bF 0),(5,bK a)]) (λ_=>fS A) λaA=>?_;refine aZ.qw (.pair .str .bool) bB.nil A A (aZ.qw .str bB.nil A A ?_);refine aZ.seq (aZ.region (aI.af5 A A A A A A (aI.defer A A A A A (aI.done A ?_))));refine aZ.seq (aZ.region (aI.ly J A A A A A A 2 A A 0 0 (.pointer c) ⟨A,A⟩ A A A (aI.ptr 11 c A ?_)));rcases hm:rz.kX (y,0,[],0,[],0) 0 true with _|⟨e|aC⟩
 ·rw[hm] at h;cases h
 ·rw[hm] at h;cases h;refine aI.W7 A A A A (IM.kX (Q:=(none,0,none,0)) hm) A [5,1,0] A [] A A (λ_=>by simp) (λs v _ he _=>?_) (λs k _ he a w' β Y=>?_)
  ·simp at he
  ·simp only[Ending.panicked.injEq] at he;subst he;subst i;obtain⟨_,_,l,d,f,g,_⟩:=(Y.inv.pick (idx:=[3,4,3,0,1]) rfl).drop;simp only[bW.ids,List.map_nil,q6,kj] at d f g;refine B4 (akK (aA:=aA) (ak:=ak) (a3:=a3) Y.iA ?_ ?_ ?_ Y.inv.yu d f λb m=>(g b m).resolve_right (by simp))
   ·exact(Y.env 2 _ A).2.trans (by rw[MP])
   ·exact(Y.env 3 _ A).2.trans (by rw[MP])
   ·exact(Y.env 4 _ A).2
 ·rw[hm] at h;cases h;refine aI.W7 A A A A (IM.kX (Q:=(none,0,none,0)) hm) A [5,1,0] A [] A A (λ_=>by simp) (λs v _ he n=>?_) (λs k _ he=>?_)
  ·simp only[Bz] at he;subst he;refine aI.eL J 1 [] [] [(4,bF aC.1)] _ A ⟨⟨A,trivial⟩,A⟩ (aI.done A ?_);refine aZ.jd 0 A λav=>?_;refine aZ.seq (aZ.region (aI.ly J A A A A A A 3 A A 0 0 (.pointer c) ⟨A,A⟩ A A A (aI.ptr 13 c A ?_)));refine aI.eL J 2 [] [] [(15,bK c)] _ A ⟨(av.gq gu).1,av.gq gu,⟨A,trivial⟩,A⟩ ?_;refine aI.ly J A A A A A A 0 A A 0 0 _ ⟨A,A⟩ A A A ?_;refine aI.eL J 3 [] [] [(18,.v (.agg #[c5 0,c5 (aC.2.1.length:Int)])),(19,bF aC.1)] _ A ⟨fS A,A⟩ ?_;refine aI.rf J A A A A A A A A A [5] (fs:=[]) A 0 0 (0,0) (0,(aC.2.1.length:Int)) ⟨A,A⟩ ⟨A,A,A⟩ ?_;refine aI.rf J A A A A A A A A A [5] (fs:=[]) A 0 0 (bB.v ⟨none,0,0⟩) (bB.v ⟨none,0,0⟩) ⟨A,A⟩ ⟨A,A,A,A⟩ ?_;refine aI.eL J 1 [] [] [(4,bF aC.1)] _ A ⟨⟨A,trivial⟩,A⟩ (aI.done A ?_);intro a w' β Y;subst i;obtain⟨_,_,l,d,f,g,_⟩:=Y.inv;refine wp_ret (BM (akI (aA:=aA) (ak:=ak) (a3:=a3) Y.iA ?_ ?_ ?_ Y.inv.yu d (by simp) (by simp)))
   ·exact(Y.env 2 _ A).2.trans (by rw[MP])
   ·exact(Y.env 3 _ A).2.trans (by rw[MP])
   ·exact(Y.env 4 _ A).2
  ·simp at he
def CX(I:H):Option Int:=
 (aw (CW I) λ(a,c,b)=>(bif(!(decide (a.1=0))) then some (-1) else some b))
theorem Sx{I:H}{r:Int}(h:CX I=some r):
  FC Tryz.prog 14 [zs I] [] (λ_:Unit=>True) (λ_=>c5 r) (λ_=>[]):=
 V.fT (T:=cn) Tryz.call14 Tryz.func14 A λ_=>V.cM J 7 0 h akL [] A λ⟨a,c,b⟩⟨d,e⟩ h=>V.cl (aI.pS J 8 [] [8] [(3,.fi 8 0),(5,bF b)] (.new 8 39 [c5 a.1,c5 a.2] .nil) A ⟨(fS A),(jX A A)⟩ (V.cy (V.co J 8 0 h A (λh=>bq h▸V.rt J 4 0 () [] A) (λh=>bq h▸V.rt J 6 0 () [] A))))
def IQ(I:H):Option H:=
 (a4 (((decide (0<(I.length:Int)))=true)->0<=(W ((I.length:Int)-1))/\(W ((I.length:Int)-1))<(I.length:Int))<|(bif(bif(decide (0<(I.length:Int))) then(decide (((at' I (W ((I.length:Int)-1))).toNat:Int)=(10:Int))) else false) then some I else(a4 (((I.length+([10]:H).length:Nat):Int)<=9223372036854775807)<|some (I++([10]:H)))))
theorem akM{I:H}{r:H}(h:IQ I=some r):
  FC Tryz.prog 31 [zs I] [] (λ_:Unit=>True) (λ_=>zs r) (λ_=>[]):=
 V.fT (T:=cn) Tryz.call31 Tryz.func31 A λ_=>b5 h λa h=>V.co J 19 0 h ⟨a,A⟩ (λh=>bq h▸V.rt J 5 0 () [] A) (λh=>b5 h λb h=>bq h▸V.rt J 7 0 () [] ⟨b,A⟩)
def CY(I:H):Option (Z×Int):=
 (aw (IQ I) λ(p:H)=>(aw (rz.ot (p,0,0,([]:ah),0,0,[],([]:bx),false) ([]) ([]:bx) false) λ(q,a)=>(a7 (λ((c,d,e,f,b,g,h,i,j):Z)=>(a7 (λ((k,r,s,t,l,u,v,w,x):Z)=>(a7 (λ(y:Int)=>some ((k,r,s,t,l,y,v,w,x),q)) λm=>(bif(!(decide (l=2))) then m (k.length:Int) else m u))) λn=>(bif(decide (b=1)) then(aw (xA (c,d,e,f,b,g,h,i,j) ([10]:H)) λ(z:Z)=>n z) else n (c,d,e,f,b,g,h,i,j)))) λo=>(bif(bif(decide (a.2.2.2.2.1=0)) then(bif a.2.2.2.2.2.2.2.2 then true else(decide (0<(a.2.2.2.1.length:Int)))) else false) then(aw (hS a ([])) λ(A:Z)=>o A) else o a))))
theorem akN{I:H}{r:Z×Int}(h:CY I=some r):
  FC Tryz.prog 24 [zs I] [] (λ_:bL×bz=>True) (λq=> .tuple #[.pointer q.1,c5 r.2]) (λq=>fc q.1 r.1 q.2):=
 by
  refine V.fT (T:=cn) Tryz.call24 Tryz.func24 A λ_=>?_;unfold CY at h;refine V.cM J 8 0 h akM [] A λb _ h=>?_;refine V.cl (aI.pS J 3 [] [3] [(4,.fi 3 0),(9,.fi 3 0)] (.new 3 47 (agz (b,0,0,[],0,0,[],[],false) none 0 none 0) .nil) A ⟨(fS A),(jX A A)⟩ (V.cy ?_));refine V.go J 4 0 A ?_;obtain⟨⟨c,v⟩,d,h⟩:=oj h;refine V.cl (aI.unbox 3 A (B':= .nil) trivial A Em (b,0,0,(bB.v ⟨none,0,0⟩),0,0,[],(bB.v ⟨none,0,0⟩),false) ⟨A,A,A,A⟩ (λa=>[(0,cg I),(4,bK a),(6,cg I),(7,cg b),(9,bK a),(10,bK a)]) (λ_=>(fS A)) λa=>V.cy ?_);refine V.cl (aI.qw (.pair .str .bool) bB.nil A A (V.cy ?_));refine V.cl (aI.qw .str bB.nil A A (V.cy ?_));refine V.cl (aI.KT .str bB.nil A A (V.cy ?_));refine V.cl (aI.pQ A A A A (IM.ot (Q:=(none,0,none,0)) d) A [2,1,0] A [0] A A ?_);rintro e-;refine V.cy ?_;refine V.eZ J 2 0 h (ρ:=bz) (λs q=>[(4,bK a),(5,bF c)]) .nil (λs q=>hi a s q) A ?_ ?_
  ·intro w _ h;refine V.co J 22 1 h ⟨A,A,A,A,A,A,A,A,A,A⟩ (λh=>?_) (λh=>?_)
   ·refine V.bH J 2 0 h p7 a6 [] A λx g h=>?_;exact V.a5 J 1 0 h g [1,2,0] A
   exact V.a5 J 1 0 h e [1,2,0] A
  rintro⟨y,z,B,C,D,E,F,G,K⟩ i h;refine V.eZ J 0 0 h (ρ:=bz) (λs q=>[(4,bK a),(5,bF c)]) .nil (λs q=>hi a s q) A ?_ ?_
  ·intro L _ h;refine V.co J 8 3 h ⟨A,A,A,A⟩ (λh=>?_) (λh=>?_)
   ·refine V.bH J 2 0 h RI [2,0,0] [] A λM j h=>?_;exact V.a5 J 1 0 h j [1,2,0] A
   exact V.a5 J 1 0 h i [0,1,2] A
  rintro⟨k,l,m,n,o,N,p,t,u⟩ f h;refine V.eZ J 0 0 h (ρ:=Unit) (λs q=>[(4,bK a),(5,bF c)]) .nil (λs q=>fc a (k,l,m,n,o,s,p,t,u) f) A ?_ ?_
  ·intro O _ h;refine V.co J 8 3 h ⟨A,A,A,A⟩ (λh=>?_) (λh=>?_)
   ·exact V.a5 J 11 3 h () [0,1,2] ⟨A,A,A,A,A,A,A⟩
   exact V.a5 J 1 0 h () [2,0,1] A
  rintro P _ h;cases h;exact V.rt J 7 0 (a,f) a6 A
def Fm(I:H):Option Int:=
 (aw (CY I) λ(a,b)=>(bif(!(decide (a.2.2.2.2.1=0))) then some (-1) else some b))
theorem YK{I:H}{r:Int}(h:Fm I=some r):
  FC Tryz.prog 18 [zs I] [] (λ_:Unit=>True) (λ_=>c5 r) (λ_=>[]):=
 V.fT (T:=cn) Tryz.call18 Tryz.func18 A λ_=>V.cM J 7 0 h akN [] A λ⟨b,c⟩⟨a,d,e,f,g⟩ h=>V.go J 2 0 A (V.cl (aI.ptr 8 a A (V.cy (V.co J 13 0 h ⟨A,A,A,A⟩ (λh=>bq h▸V.rt J 4 0 () [] A) (λh=>bq h▸V.rt J 6 0 () [] A)))))
def YL:Option bx:=
 some ([([97]:H),([98,49]:H),([32]:H),([32]:H),([10]:H),([10]:H),([59]:H),([38]:H),([124]:H),([38,38]:H),([124,124]:H),([59,59]:H),([40]:H),([41]:H),([105,102,32]:H),([116,104,101,110,32]:H),([101,108,115,101,32]:H),([101,108,105,102,32]:H),([102,105]:H),([100,111,32]:H),([100,111,110,101]:H),([119,104,105,108,101,32]:H),([117,110,116,105,108,32]:H),([102,111,114,32]:H),([120,32]:H),([105,110,32]:H),([99,97,115,101,32]:H),([101,115,97,99]:H),([123,32]:H),([125]:H),([33,32]:H),([60]:H),([62]:H),([60,60,69]:H),([60,60,45,69]:H),([69,10]:H),([9,69,10]:H),([50,62]:H),([62,38,49]:H),([39]:H),([39,113,39]:H),([34]:H),([34,113,34]:H),([92]:H),([92,10]:H),([36]:H),([36,40]:H),([36,40,40]:H),([49,43,40,50,41]:H),([41,41]:H),([36,123]:H),([125]:H),([96]:H),([96,99,96]:H),([35,114]:H),([9]:H),([102,40,41,32]:H),([195,169]:H)]:bx)
theorem akQ{r:bx}(h:YL=some r):
  FC Tryz.prog 28 [] [] (λ_:bL×Nat=>True) (λq=> .slice q.1 r.length q.2) (λq=>[h8 q.1 r q.2]):=
 V.fT (T:=cn) Tryz.call28 Tryz.func28 A λ_=>V.go J 6 0 A (V.cl (aI.kH A (cO.buildSlice J A A A A A A A A A A A [] A .str [([97]:H),([98,49]:H),([32]:H),([32]:H),([10]:H),([10]:H),([59]:H),([38]:H),([124]:H),([38,38]:H),([124,124]:H),([59,59]:H),([40]:H),([41]:H),([105,102,32]:H),([116,104,101,110,32]:H),([101,108,115,101,32]:H),([101,108,105,102,32]:H),([102,105]:H),([100,111,32]:H),([100,111,110,101]:H),([119,104,105,108,101,32]:H),([117,110,116,105,108,32]:H),([102,111,114,32]:H),([120,32]:H),([105,110,32]:H),([99,97,115,101,32]:H),([101,115,97,99]:H),([123,32]:H),([125]:H),([33,32]:H),([60]:H),([62]:H),([60,60,69]:H),([60,60,45,69]:H),([69,10]:H),([9,69,10]:H),([50,62]:H),([62,38,49]:H),([39]:H),([39,113,39]:H),([34]:H),([34,113,34]:H),([92]:H),([92,10]:H),([36]:H),([36,40]:H),([36,40,40]:H),([49,43,40,50,41]:H),([41,41]:H),([36,123]:H),([125]:H),([96]:H),([96,99,96]:H),([35,114]:H),([9]:H),([102,40,41,32]:H),([195,169]:H)] ⟨A,A⟩ A A λa=>aI.kI (V.cy (bq h▸V.rt J 2 0 (a,([([97]:H),([98,49]:H),([32]:H),([32]:H),([10]:H),([10]:H),([59]:H),([38]:H),([124]:H),([38,38]:H),([124,124]:H),([59,59]:H),([40]:H),([41]:H),([105,102,32]:H),([116,104,101,110,32]:H),([101,108,115,101,32]:H),([101,108,105,102,32]:H),([102,105]:H),([100,111,32]:H),([100,111,110,101]:H),([119,104,105,108,101,32]:H),([117,110,116,105,108,32]:H),([102,111,114,32]:H),([120,32]:H),([105,110,32]:H),([99,97,115,101,32]:H),([101,115,97,99]:H),([123,32]:H),([125]:H),([33,32]:H),([60]:H),([62]:H),([60,60,69]:H),([60,60,45,69]:H),([69,10]:H),([9,69,10]:H),([50,62]:H),([62,38,49]:H),([39]:H),([39,113,39]:H),([34]:H),([34,113,34]:H),([92]:H),([92,10]:H),([36]:H),([36,40]:H),([36,40,40]:H),([49,43,40,50,41]:H),([41,41]:H),([36,123]:H),([125]:H),([96]:H),([96,99,96]:H),([35,114]:H),([9]:H),([102,40,41,32]:H),([195,169]:H)]:bx).length) [0] A)))))
def IT(I:H×Int×Int)(a:bx)(g:(H×Int×Int)->Option (H×H×Int×Int))(h:(H×Int×Int×Int)->Option (H×H×Int×Int)):(H×Int×Int×Int)->Option (H×H×Int×Int):=λ(c,d,e,f)=>
 (bif(decide (0<d)) then(aw (h_ (I.1,e,f) (a.length:Int)) λ(b,i)=>(a4 (0<=b/\b<(a.length:Int))<|(a4 (((c.length+(at' a b).length:Nat):Int)<=9223372036854775807)<|h ((c++(at' a b)),(W (d-1)),i.2)))) else g (c,e,f))
def zj(I:H×Int×Int)(b:Int):Option (H×H×Int×Int):=
 (aw (YL) λ(c:bx)=>(aw (h_ I (W (b+1))) λ(d,a)=>(a7 (λ((e,f,g):H×Int×Int)=>some (e,(I.1,f,g))) λh=>(fixF (IT I c h) bD ([],d,a.2.1,a.2.2)))))
theorem Sz{I:H×Int×Int}{e:Int}{a3:bL}{a:bL}{b:Nat}{r:H×H×Int×Int}(h:zj I e=some r):
  gU Tryz.prog 22 [.pointer a3,c5 e] [lz a I.1 b] [je a3 I a b] (λ_:Unit=>True) (λ_=>zs r.1) (λ_=>[je a3 (I.1,r.2.2) a b]):=
 V.jr (T:=cn) Tryz.call22 Tryz.func22 A λ_ _=>V.cM J 10 0 h akQ [] A λc ⟨f,g⟩ h=>V.bH J 8 0 h qK [1] [0] A λ⟨m,n⟩ _ h=>V.di J 2 0 h (ρ:=Unit) (λs q=>[(5,cg s.1)]) .nil (λs q=>[je a3 (I.1,s.2) a b]) A (λo _ h=>V.fp J 0 0 h (ρ:=Unit) (λs q=>[(0,bK a3),(5,cg s.1),(6,.v (.slice f c.length g)),(7,bF s.2.1)]) .nil (λs q=>[je a3 (I.1,s.2.2) a b,h8 f c g]) () [0,1] A λk ⟨p,t,u,v⟩ _ h=>V.co J 6 0 h A (λh=>V.bH J 9 0 h qK [0] [0] A λ⟨i,w⟩ _ h=>V.cl (aI.jd 2 A λd=>V.cy (b5 h λj h=>V.go J 1 0 ⟨d.ix j,A⟩ (V.cl (aI.load J A A A A A A A 2 A A (Int.toNat i) 0 (at' c i) ⟨mO j,A⟩ A A (V.cy (b5 h λl h=>V.el J 9 0 h () [0,1] ⟨l,A⟩))))))) (λh=>V.a5 J 1 0 h () [0] A)) λ⟨x,y,z⟩ _ h=>bq h▸V.rx J 5 0 () [0] A
def IU(I:H×Int×Int):Option (H×H×Int×Int):=
 (aw (h_ I 12) λ(c,l)=>(bif(decide (c=0)) then(aw (zj (I.1,l.2) 12) λ(B,C)=>some (B,(I.1,C.2))) else(aw (rz.hv (I.1,l.2) 3 ([])) λ(f,m)=>(a7 (λ((g,n,o):H×Int×Int)=>(a7 (λ(e:H)=>(a7 (λ((a,p,q):H×Int×Int)=>(a7 (λ((h,r,s):H×Int×Int)=>(a7 (λ((i,D,E):H×Int×Int)=>(a7 (λ((F,G,J):H×Int×Int)=>some (F,(I.1,G,J))) λt=>(aw (h_ (I.1,D,E) 12) λ(K,u)=>(bif(decide (K=0)) then(a4 (((i.length+([92,10]:H).length:Nat):Int)<=9223372036854775807)<|t ((i++([92,10]:H)),u.2)) else t (i,u.2))))) λv=>(bif(decide (c=10)) then(aw (zj (I.1,r,s) 2) λ(w,L)=>(a4 (((h.length+w.length:Nat):Int)<=9223372036854775807)<|v ((h++w),L.2))) else v (h,r,s)))) λx=>(bif(decide (c=9)) then(aw (h_ (I.1,p,q) (W ((a.length:Int)+1))) λ(b,M)=>(a4 (0<=(0:Int)/\(0:Int)<=b/\b<=(a.length:Int))<|(aw (zj (I.1,M.2) 1) λ(j,N)=>(a4 ((((b4 a 0 b).length+j.length:Nat):Int)<=9223372036854775807)<|(a4 (0<=b/\b<=(a.length:Int)/\(a.length:Int)<=(a.length:Int))<|(a4 (((((b4 a 0 b)++j).length+(b4 a b (a.length:Int)).length:Nat):Int)<=9223372036854775807)<|x ((((b4 a 0 b)++j)++(b4 a b (a.length:Int))),N.2))))))) else x (a,p,q)))) λy=>(bif(bif(bif(decide (3<c)) then(decide (c<9)) else false) then(decide (0<(e.length:Int))) else false) then(aw (h_ (I.1,n,o) (W ((e.length:Int)+1))) λ(k,O)=>(a4 (0<=(0:Int)/\(0:Int)<=k/\k<=(e.length:Int))<|y ((b4 e 0 k),O.2))) else y (e,n,o)))) λz=>(bif(decide (c=3)) then(a4 (((([99,97,116,32,60,60,45,39,69,32,70,39,32,60,60,92,71,10,120,10,9,69,32,70,10,121,10,71,10]:H).length+g.length:Nat):Int)<=9223372036854775807)<|z (([99,97,116,32,60,60,45,39,69,32,70,39,32,60,60,92,71,10,120,10,9,69,32,70,10,121,10,71,10]:H)++g)) else z g))) λA=>(bif(decide (c<3)) then(aw (h_ (I.1,m.2) 4) λ(d,P)=>(a4 (0<=d/\d<(([[],([32,38,38,32]:H),([32,124,32]:H),([59,32]:H)]:bx).length:Int))<|(a4 (((([99,97,116,32,60,60,69]:H).length+(at' ([[],([32,38,38,32]:H),([32,124,32]:H),([59,32]:H)]:bx) d).length:Nat):Int)<=9223372036854775807)<|(a4 ((((([99,97,116,32,60,60,69]:H)++(at' ([[],([32,38,38,32]:H),([32,124,32]:H),([59,32]:H)]:bx) d)).length+f.length:Nat):Int)<=9223372036854775807)<|(a4 (((((([99,97,116,32,60,60,69]:H)++(at' ([[],([32,38,38,32]:H),([32,124,32]:H),([59,32]:H)]:bx) d))++f).length+([10,120,10,69,10]:H).length:Nat):Int)<=9223372036854775807)<|A ((((([99,97,116,32,60,60,69]:H)++(at' ([[],([32,38,38,32]:H),([32,124,32]:H),([59,32]:H)]:bx) d))++f)++([10,120,10,69,10]:H)),P.2)))))) else A (f,m.2))))))
theorem akS{I:H×Int×Int}{ak:bL}{a3:bL}{a:Nat}{r:H×H×Int×Int}(h:IU I=some r):
  gU Tryz.prog 21 [.pointer ak] [lz a3 I.1 a] [je ak I a3 a] (λ_:Unit=>True) (λ_=>zs r.1) (λ_=>[je ak (I.1,r.2.2) a3 a]):=
 by
  refine V.jr (T:=cn) Tryz.call21 Tryz.func21 A λ_ _=>?_;unfold IU at h;refine V.bH J 7 0 h qK [0] [0] A ?_;rintro⟨c,C⟩ _ h;refine V.co J 8 0 h A (λh=>?_) (λh=>?_)
  ·refine V.bH J 3 0 h Sz [0] [0] A ?_;rintro⟨D,E⟩ _ h;cases h;exact V.rx J 2 0 () [0] A
  refine V.bH J 4 0 h IM.hv [0] [0] A ?_;rintro⟨F,G⟩ _ h;refine V.eZ J 2 0 h (ρ:=Unit) (λs q=>[(0,bK ak),(3,bF c),(4,cg s.1)]) .nil (λs q=>[je ak (I.1,s.2) a3 a]) A ?_ ?_
  ·intro K _ h;refine V.co J 5 0 h A (λh=>?_) (λh=>?_)
   ·refine V.go J 1 0 A ?_;refine V.cl (aI.kH A (cO.buildSlice J A A A A A A A A A A A [] A .str [[],([32,38,38,32]:H),([32,124,32]:H),([59,32]:H)] ⟨A,A⟩ A A λL=>aI.kI (V.cy ?_)));refine V.bH J 1 0 h qK [1] [0] A ?_;rintro⟨l,M⟩ _ h;refine V.cl (aI.jd 2 A λe=>V.cy ?_);obtain⟨m,h⟩:=hZ h;refine V.go J 1 0 ⟨e.ix m,A⟩ ?_;refine V.cl (aI.load J A A A A A A A 2 A A (Int.toNat l) 0 (at' ([[],([32,38,38,32]:H),([32,124,32]:H),([59,32]:H)]:bx) l) ⟨mO m,A⟩ A A (V.cy ?_));obtain⟨n,h⟩:=hZ h;obtain⟨o,h⟩:=hZ h;obtain⟨p,h⟩:=hZ h
    try dsimp only at h
    exact V.a5 J 6 0 h () [0] ⟨n,o,p,A⟩
   exact V.a5 J 1 0 h () [0] A
  rintro⟨N,t,u⟩ _ h;refine V.eZ J 0 0 h (ρ:=Unit) (λs q=>[(0,bK ak),(3,bF c),(4,cg s)]) .nil (λs q=>[je ak (I.1,t,u) a3 a]) A ?_ ?_
  ·intro O _ h;refine V.co J 5 0 h A (λh=>?_) (λh=>?_)
   ·obtain⟨v,h⟩:=hZ h;exact V.a5 J 5 0 h () [0] ⟨v,A⟩
   exact V.a5 J 1 0 h () [0] A
  rintro P _ h;refine V.eZ J 0 0 h (ρ:=Unit) (λs q=>[(0,bK ak),(3,bF c),(4,cg s.1)]) .nil (λs q=>[je ak (I.1,s.2) a3 a]) A ?_ ?_
  ·intro Q _ h;refine V.co J 14 0 h A (λh=>?_) (λh=>?_)
   ·refine V.bH J 6 0 h qK [0] [0] A ?_;rintro⟨R,S⟩ _ h;obtain⟨w,h⟩:=hZ h
    try dsimp only at h
    exact V.a5 J 3 0 h () [0] ⟨w,A⟩
   exact V.a5 J 1 0 h () [0] A
  rintro⟨b,U,W⟩ _ h;refine V.eZ J 0 0 h (ρ:=Unit) (λs q=>[(0,bK ak),(3,bF c),(4,cg s.1)]) .nil (λs q=>[je ak (I.1,s.2) a3 a]) A ?_ ?_
  ·intro X _ h;refine V.co J 5 0 h A (λh=>?_) (λh=>?_)
   ·refine V.bH J 6 0 h qK [0] [0] A ?_;rintro⟨d,Y⟩ _ h;obtain⟨x,h⟩:=hZ h;refine V.go J 2 0 A ?_;obtain⟨⟨y,Z⟩,f,h⟩:=oj h;obtain⟨z,h⟩:=hZ h;obtain⟨g,h⟩:=hZ h;obtain⟨i,h⟩:=hZ h;refine V.j9 (aZ.r3 A .nil [] [] trivial A (λB=>?_));refine bE.eL J gr true 4 [0,1,2,3,6,7,8] A (by kernel_rfl) [] [(56,cg (b4 b 0 d)),(57,bK ak),(62,cg (b4 b d (b.length:Int)))] trivial [] A A ⟨x,g,(fS A)⟩ (bE.one 4 (by kernel_rfl) (cO.pQ A A A A (Sz f) A [0] A [0] A A λ_ _=>bE.next trivial [] A (bE.eL J gr true 0 [5,9,10] A (by kernel_rfl) [] [(4,cg (((b4 b 0 d)++y)++(b4 b d (b.length:Int))))] trivial [] A A ⟨z,i,⟨A,trivial⟩⟩ (bE.done (by kernel_rfl) (aZ.boxes (B':= .nil) trivial (V.iR ?_))))))
    try dsimp only at h
    exact V.a5 J 0 0 h () [0] A
   exact V.a5 J 1 0 h () [0] A
  rintro⟨tO,nZ,nA⟩ _ h;refine V.eZ J 0 0 h (ρ:=Unit) (λs q=>[(0,bK ak),(4,cg s.1)]) .nil (λs q=>[je ak (I.1,s.2) a3 a]) A ?_ ?_
  ·intro SA _ h;refine V.co J 5 0 h A (λh=>?_) (λh=>?_)
   ·refine V.bH J 3 0 h Sz [0] [0] A ?_;rintro⟨ik,jP⟩ _ h;obtain⟨j,h⟩:=hZ h
    try dsimp only at h
    exact V.a5 J 3 0 h () [0] ⟨j,A⟩
   exact V.a5 J 1 0 h () [0] A
  rintro⟨lh,k1,k2⟩ _ h;refine V.eZ J 0 0 h (ρ:=Unit) (λs q=>[(4,cg s.1)]) .nil (λs q=>[je ak (I.1,s.2) a3 a]) A ?_ ?_
  ·intro wv _ h;refine V.bH J 3 0 h qK [0] [0] A ?_;rintro⟨iC,mS⟩ _ h;refine V.co J 2 0 h A (λh=>?_) (λh=>?_)
   ·obtain⟨k,h⟩:=hZ h;exact V.a5 J 5 0 h () [0] ⟨k,A⟩
   exact V.a5 J 1 0 h () [0] A
  rintro⟨sW,mv,lH⟩ _ h;cases h;exact V.rx J 5 0 () [0] A
def IV(I:H):Option H:=
 (aw (Fl I) λ(a:H×Int×Int)=>(aw (IU (I,a.2)) λ(b,c)=>some b))
theorem akZ{I:H}{ak:bL}{a:Nat}{r:H}(h:IV I=some r):
  FC Tryz.prog 9 [.slice ak I.length a] [lz ak I a] (λ_:Unit=>True) (λ_=>zs r) (λ_=>[]):=
 V.fT (T:=cn) Tryz.call9 Tryz.func9 A λ_=>V.cM J 7 0 h YF [0] A λc b h=>V.cl (aI.ptr 6 b A (V.cy (V.bH J 5 0 h akS [0] [0] A λ⟨d,e⟩ _ h=>bq h▸V.rt J 7 0 () [] A)))
def M_l_FnBoth(I:H):Option Bool:=
 (bif(decide (1048576<(I.length:Int))) then some true else(aw (IN I) λ(c:H)=>(aw (IV I) λ(d:H)=>(aw (CX c) λ(a:Int)=>(aw (CX d) λ(b:Int)=>(aw (Fm c) λ(e:Int)=>(cZ ((!(decide (a=e)))=false) (Fm d) (0:Int) λ(f:Int)=>(cZ ((bif(!(decide (a=e))) then true else(!(decide (b=f))))=false) (CS ([])) [] λ(i:H)=>(bif(bif(bif(!(decide (a=e))) then true else(!(decide (b=f)))) then true else(!(decide (i=([10]:H))))) then some false else(bif(bif(decide (a<0)) then true else(decide (b<0))) then some true else(aw (CS c) λ(g:H)=>(aw (CS d) λ(h:H)=>(a4 (((g.length+h.length:Nat):Int)<=9223372036854775807)<|(aw (CX (g++h)) λ(j:Int)=>some (decide (j=(W (a+b))))))))))))))))))
theorem ok_l_FnBoth{I:H}{ak:bL}{a:Nat}{r:Bool}(h:M_l_FnBoth I=some r):
  FC Tryz.prog 8 [.slice ak I.length a] [lz ak I a] (λ_:Unit=>True) (λ_=> .bool r) (λ_=>[]):=
 V.fT (T:=cn) Tryz.call8 Tryz.func8 A λ_=>V.co J 11 0 h A (λh=>bq h▸V.rt J 4 0 () [] A) (λh=>V.cM J 4 0 h akD [0] A λc _ h=>V.cM J 5 0 h akZ [0] A λd _ h=>V.cM J 5 0 h Sx [] A λe _ h=>V.cM J 5 0 h Sx [] A λf _ h=>V.cM J 7 0 h YK [] A λg _ h=>V.ih J 4 0 h YK [] A (λ_=>id) λi h=>V.ih J 3 0 h MN [] A (λ_=>id) λj h=>V.co J 3 0 h A (λh=>bq h▸V.rt J 4 0 () [] A) (λh=>V.co J 11 0 h A (λh=>bq h▸V.rt J 4 0 () [] A) (λh=>V.cM J 4 0 h MN [] A λk _ h=>V.cM J 1 0 h MN [] A λl _ h=>b5 h λb h=>V.cM J 1 0 h Sx [] ⟨b,A⟩ λm _ h=>bq h▸V.rt J 6 0 () [] A)))
end
end Go.Eng
namespace Go.Eng
inductive dp(α:Type) where
 |ok (a:α) (r:H) (F:ah)
 |more (op:bx) (nd:H) (F:ah)
 |bad (r:H)
 |deep (r:H)
abbrev ae(α:Type):=H->ah->dp α
def a1{α:Type}(a:α):ae α:=λr F=> .ok a r F
def N{α β:Type}(m:ae α)(k:α->ae β):ae β:=λr F=>match m r F with
 | .ok a r F=>k a r F
 | .more op nd ds=> .more op nd ds
 | .bad r=> .bad r
 | .deep r=> .deep r
def mh:ah->H
 |[]=>[]
 |d::ds=>d.1++10::mh ds
def cW(nd:H)(ds:ah):H->H×ah
 |[]=>(nd,ds)
 |b::x=>if b=10 then cW (nd++10::mh ds) [] x else cW (nd++[b]) ds x
def ae.aM{α:Type}(m:ae α)(x:H):ae α:=λr F=>match m r F with
 | .more op nd ds=> .more op (cW nd ds x).1 (cW nd ds x).2
 |y=>y
def ae.named{α:Type}(m:ae α)(n:H):ae α:=λr F=>match m r F with
 | .more op nd ds=> .more (n::op) nd ds
 |y=>y
def cf{α:Type}(x:H):ae α:=λ_ F=> .more [] (cW [] F x).1 (cW [] F x).2
def bP{α:Type}:ae α:=λr _=> .bad r
def vj{α:Type}:ae α:=λr _=> .deep r
def b8{σ α:Type}(f:σ->ae (σ⊕α))(s:σ):ae α:=λr F=>match f s r F with
 | .ok (.inl s') r' b=>if r'.length<r.length then b8 f s' r' b else .bad r'
 | .ok (.inr a) r' b=> .ok a r' b
 | .more op nd ds=> .more op nd ds
 | .bad r=> .bad r
 | .deep r=> .deep r
termination_by r=>r.length
def fJ(b:UInt8):Bool:=b==32||b==9
def lW:H->H
 |[]=>[]
 |b::t=>if b=10 then b::t else lW t
theorem AW:∀(r:H),(lW r).length<=r.length
 |[]=>cF _
 |b::t=>by
  unfold lW;split
  ·omega
  ·exact kB (AW t) (Nat.le_succ _)
def bo:H->Option H
 |[]=>some []
 |b::t=>if fJ b then bo t else if b=35 then bo (lW t) else
  if b=92 then match t with
   |10::u=>if u=[] then none else bo u
   |_=>some (b::t)
  else some (b::t)
termination_by r=>r.length
decreasing_by
 all_goals simp_wf
 ·grind[AW]
 ·omega
def kd:bx:=[[60,60,45],[38,38],[124,124],[59,59],[60,60],[60,38],[60,62],[62,62],[62,38],[62,124],[38],[124],[59],[60],[62],[40],[41]]
def bs(r:H):H:=(kd.find? (λo=>o.isPrefixOf r)).getD []
def c1:H->Bool
 |[]=>true
 |b::t=>fJ b||b==10||bs (b::t)!=[]
def gG:H->Bool
 |36::40::_=>true
 |36::123::_=>true
 |_=>false
def dc:H->H×Bool
 |[]=>([],true)
 |b::t=>if c1 (b::t) then([],true) else
  if b=92\/b=39\/b=34\/b=96\/gG (b::t) then([],false) else
  match dc t with
  |(w,true)=>(b::w,true)
  |(_,false)=>([],false)
inductive Tok where
 |eof
 |line
 |op (o:H)
 |word (t:H) (plain:Bool)
deriving DecidableEq
def aq:H->Tok
 |[]=> .eof
 |b::t=>if b=10 then .line else if bs (b::t)≠[] then .op (bs (b::t)) else .word (dc (b::t)).1 (dc (b::t)).2
def bV(x:H):ae Tok:=λr F=>match bo r with
 |none=>cf x r F
 |some r'=> .ok (aq r') r' F
def b6(n:Nat):ae Unit:=λr F=> .ok () (r.drop n) F
def gw:H->Option H
 |[]=>none
 |b::t=>if b=39 then some t else gw t
def hE:H->Option H
 |[]=>none
 |b::t=>if b=96 then some t else if b=92 then(match t with|[]=>none|_::u=>hE u) else hE t
inductive YN where
 |ok (r:H)
 |more (n:Nat)
 |bad (r:H)
def iu:Nat->H->YN
 |d,[]=> .more (d+2)
 |d,b::t=>if b=39\/b=34\/b=92\/b=96\/gG (b::t) then .bad (b::t) else
  if b=40 then iu (d+1) t else
  if b=41 then match d with
   |eR+1=>iu eR t
   |0=>match t with
    |[]=> .more 1
    |c::u=>if c=41 then .ok u else .bad (b::t)
  else iu d t
def hF:H->H×H
 |[]=>([],[])
 |b::t=>if b=10 then([],t) else((b::(hF t).1),(hF t).2)
theorem IW:∀(r:H),r≠[]->(hF r).2.length<r.length
 |[],h=>absurd rfl h
 |b::t,_=>by
  unfold hF;split
  ·simp
  ·rcases t with _|⟨c,u⟩
   ·exact yq _
   ·exact Nat.lt_trans (IW (c::u) (by simp)) (yq _)
def jR(d:H)(tabs:Bool):H->Option H
 |[]=>none
 |b::t=>if(if tabs then(hF (b::t)).1.dropWhile (· ==9) else(hF (b::t)).1)=d then some (hF (b::t)).2 else jR d tabs (hF (b::t)).2
termination_by r=>r.length
decreasing_by grind[IW]
def ks:ah->H->H⊕H
 |[],r=> .inl r
 |d::ds,r=>match jR d.1 d.2 r with
  |some r'=>ks ds r'
  |none=> .inr (mh (d::ds))
def jt:ae Unit:=λr F=>match r with
 |[]=> .ok () [] F
 |_::t=>match ks F t with
  | .inl r'=> .ok () r' []
  | .inr nd=> .more [[60,60]] nd []
def c2:ae Bool:=b8 (λsome=>N (bV []) λt=>if t= .line then N jt λ_=>a1 (.inl true) else a1 (.inr some)) false
def jS(f:H->Option H)(n:H):ae Unit:=λr F=>match f r with
 |some r'=> .ok () r' F
 |none=> .more [n] n F
def cJ(D:ae Unit)(dq:Option (ae Unit)):ae Unit:=λr F=>match r with
 |[]=> .ok () [] F
 |b::t=>
  if b=92 then .ok () (t.drop 1) F
  else if b=96 then jS hE [96] t F
  else if gG (b::t) then D (b::t) F
  else match dq with
   |none=> .ok () t F
   |some q=>if b=39 then jS gw [39] t F else if b=34 then q t F else .ok () t F
def jD(c:UInt8)(part:ae Unit):ae Unit:=b8 (λ_ r F=>match r with
 |[]=>cf [] r F
 |b::t=>if b=c then .ok (.inr ()) t F else(N part λ_=>a1 (.inl ())) r F) ()
def e2(D:ae Unit):ae Unit:=((jD 34 (cJ D none)).aM [34]).named [34]
def rA(D:ae Unit):ae Unit:=(jD 125 (cJ D (some (e2 D)))).aM [125]
def cX(D:ae Unit):ae Unit:=b8 (λ_ r F=>match r with
 |[]=>cf [] r F
 |_::_=>if c1 r then .ok (.inr ()) r F else(N (cJ D (some (e2 D))) λ_=>a1 (.inl ())) r F) ()
def ke(D:ae Unit)(x:H):ae Unit:=N (bV x) λt=>match t with
 | .eof=>cf x
 | .word _ _=>cX D
 |_=>bP
def zk(b:UInt8):Bool:=(97<=b&&b<=122)||(65<=b&&b<=90)||b==95
def ch(b:UInt8):Bool:=48<=b&&b<=57
def my:H->Bool
 |[]=>false
 |b::t=>zk b&&t.all λc=>zk c||ch c
def jT:H:=[105,102]
def hT:H:=[116,104,101,110]
def iv:H:=[101,108,105,102]
def gf:H:=[101,108,115,101]
def eh:H:=[102,105]
def hp:H:=[100,111]
def jh:H:=[100,111,110,101]
def tY:H:=[119,104,105,108,101]
def Fo:H:=[117,110,116,105,108]
def mz:H:=[102,111,114]
def oB:H:=[99,97,115,101]
def eH:H:=[101,115,97,99]
def fK:H:=[105,110]
def rB(w:H):Bool:=[jT,hT,iv,gf,eh,hp,jh,tY,Fo,mz,oB,eH,[123],[125],[33]].contains w
def oC(w:H):Bool:=[jT,tY,Fo,mz,oB,[123]].contains w
def ff(o:H):Bool:=[[60,60,45],[60,60],[60,38],[60,62],[62,62],[62,38],[62,124],[60],[62]].contains o
theorem zl:∀(r q:H),gw r=some q->q.length<r.length
 |[],q,h=>by grind[gw]
 |b::t,q,h=>by
  unfold gw at h;split at h
  ·grind
  ·exact Nat.lt_trans (zl t q h) (yq _)
inductive jE where
 |closed (o r:H)
 |part
 |open_ (o:H)
def jE.add(x:H):jE->jE
 | .closed o r=> .closed (x++o) r
 | .part=> .part
 | .open_ o=> .open_ (x++o)
def AX(c:UInt8):H:=if c=36\/c=34\/c=92\/c=96 then [c] else if c=10 then [] else [92,c]
def eV:H->jE
 |[]=> .open_ []
 |b::t=>if b=34 then .closed [] t else if b=36\/b=96 then .part else
  if b=92 then match t with
   |[]=> .part
   |c::u=>(eV u).add (AX c)
  else(eV t).add [b]
theorem jE.SB{x:H}{q:jE}{o r:H}(h:q.add x= .closed o r):∃a,q= .closed a r:=by cases q<;>simp[jE.add] at h;simp_all
theorem Fp:∀(r:H)(o q:H),eV r= .closed o q->q.length<r.length
 |[],o,q,h=>by grind[eV]
 |b::t,o,q,h=>by
  unfold eV at h;split at h
  ·grind
  ·split at h
   ·cases h
   ·split at h
    ·match t,h with
     |[],h=>cases h
     |c::u,h=>obtain⟨a,M⟩:=jE.SB h;have:=Fp u a q M;grind
    ·obtain⟨a,M⟩:=jE.SB h;have:=Fp t a q M;grind
def df:H->Option (H×H×H)
 |[]=>some ([],[],[])
 |b::t=>if c1 (b::t) then some ([],b::t,[]) else
  if b=92 then match t with
   |[]=>none
   |c::u=>(df u).map λq=>((if c=10 then [] else [c])++q.1,q.2)
  else if b=39 then match h:gw t with
   |none=>none
   |some r=>(df r).map λq=>(t.take (t.length-r.length-1)++q.1,q.2)
  else if b=36\/b=96 then none else
  if b=34 then match h:eV t with
   | .part=>none
   | .open_ o=>some (o,[],[34])
   | .closed o r=>(df r).map λq=>(o++q.1,q.2)
  else(df t).map λq=>(b::q.1,q.2)
termination_by r=>r.length
decreasing_by
 all_goals simp_wf
 ·omega
 ·have:=zl t r h;omega
 ·have:=Fp t o r h;omega
def gS(tabs:Bool):ae Unit:=(λr F=>match bo r with
 |none=> .more [] [120] (F++[([120],tabs)])
 |some r'=>match aq r' with
  | .eof=> .more [] [120] (F++[([120],tabs)])
  | .word _ _=>match df r' with
    |none=> .bad r'
    |some (d,q,a)=>if d.contains 10 then .bad r' else
     if tabs/\d.head?=some 9 then .bad r' else
     if a≠[] then .more [a] a (F++[(d,tabs)]) else
     if q=[] then .more [] [] (F++[(d,tabs)]) else .ok () q (F++[(d,tabs)])
  |_=> .bad r')
def fL:ae (Option H):=λr F=>match bo r with
 |none=>cf [] r F
 |some r'=>let q:=r'.dropWhile ch
  if ff (bs q) then .ok (some (bs q)) (q.drop (bs q).length) F else .ok none r' F
def dz(D:ae Unit):ae Bool:=N fL λo=>match o with
 |none=>a1 false
 |some o=>N (if o=[60,60] then gS false else if o=[60,60,45] then gS true else ke D [120]) λ_=>a1 true
def g7(D:ae Unit):ae Unit:=b8 (λ_=>N (dz D) λb=>a1 (if b then .inl () else .inr ())) ()
inductive Ctx where
 |text|paren|p9|sg|qL|kE|p_|done|item
deriving DecidableEq
def cG(t:Tok)(w:H):Bool:=t== .word w true
def d_(c:Ctx)(t:Tok):Bool:=match c with
 | .text=>t== .eof
 | .paren=>t== .op [41]
 | .p9=>cG t [125]
 | .sg=>cG t hT
 | .qL=>cG t iv||cG t gf||cG t eh
 | .kE=>cG t eh
 | .p_=>cG t hp
 | .done=>cG t jh
 | .item=>t== .op [59,59]||cG t eH
def nJ(b:Tok->Bool)(n:Nat):ae Unit:=N (bV []) λt=>if t= .eof then cf [] else if b t then b6 n else bP
def j1(o:H):ae Unit:=nJ (· == .op o) o.length
def cS(w:H):ae Unit:=nJ (cG · w) w.length
structure ea where
 ls:Ctx->Bool->ae Nat
 pm:ae Unit
 cp:Tok->ae Unit
 rd:ae Unit
 dl:ae Unit
 has:Bool
def n3:ae Unit:=λt F=>match iu 0 t with
 | .ok r'=> .ok () r' F
 | .more n=> .more [[36,40,40]] (List.replicate n 41) F
 | .bad r'=> .bad r'
def s3(lo:Option ea)(n:Nat)(f:ea->ae Unit):ae Unit:=match lo with
 |none=>vj
 |some l=>N (b6 n) λ_=>f l
def vk(l:ea):ae Unit:=N (((l.ls .paren true).aM [41]).named [36,40]) λ_=>j1 [41]
def dG(lo:Option ea):ae Unit:=λr F=>
 if [36,40,40].isPrefixOf r then N (b6 3) (λ_=>n3) r F
 else if [36,40].isPrefixOf r then s3 lo 2 vk r F
 else if [36,123].isPrefixOf r then s3 lo 2 (λl=>l.pm.named [36,123]) r F
 else .ok () (r.drop 1) F
def gg(t:Tok):Bool:=t== .op [40]||(match t with| .word w true=>oC w|_=>false)
def g8(fr:Bool)(D:ae Unit):ae Unit:=b8 (λ_=>N (dz D) λb=>if b then a1 (.inl ()) else N (bV []) λt=>match t with
 | .word _ _=>N (cX D) λ_=>a1 (.inl ())
 | .op o=>if fr/\o=[40] then bP else a1 (.inr ())
 |_=>a1 (.inr ())) ()
def lk(fr:Bool)(lo:Option ea):ae Unit:=match lo with
 |none=>vj
 |some l=>if l.has then
   (N (b6 1) λ_=>N (bV [41,32,123,32,120,10,125]) λt=>if t= .eof then cf [41,32,123,32,120,10,125] else if t= .op [41] then
    N (b6 1) λ_=>N (c2.aM [123,32,120,10,125]) λ_=>N (bV [123,32,120,10,125]) λt=>if t= .eof then cf [123,32,120,10,125] else
     if gg t then N (l.cp t) λ_=>if fr then l.rd else a1 () else bP
    else bP).named [102,40,41]
  else vj
def ji(l:ea)(x:H):ae Unit:=N ((cS hp).aM x) λ_=>N ((l.ls .done false).aM (10::jh)) λ_=>cS jh
def rC(l:ea):ae Unit:=b8 (λ_=>N ((l.ls .sg false).aM ([10]++hT++[32,120,10]++eh)) λ_=>N (cS hT) λ_=>N ((l.ls .qL false).aM (10::eh)) λ_=>
    N (bV []) λt=>if cG t iv then N (cS iv) λ_=>a1 (.inl ()) else
     if cG t gf then N (cS gf) λ_=>N ((l.ls .kE false).aM (10::eh)) λ_=>N (cS eh) λ_=>a1 (.inr ()) else N (cS eh) λ_=>a1 (.inr ())) ()
def eB:H:=[10]++hp++[32,120,10]++jh
def tZ:H:=120::eB
def qa(D:ae Unit):ae Unit:=b8 (λ_=>N (bV []) λt=>match t with
 | .eof=>cf []
 | .word _ _=>N (cX D) λ_=>a1 (.inl ())
 | .line=>a1 (.inr ())
 | .op o=>if o=[59] then N (b6 1) λ_=>a1 (.inr ()) else bP) ()
def qb(l:ea)(D:ae Unit):ae Unit:=N (bV tZ) λt=>match t with
 | .eof=>cf tZ
 | .word w true=>if my w then N (b6 w.length) λ_=>
   N ((N (bV []) λt=>if t= .op [59] then N (b6 1) λ_=>N c2 λ_=>a1 () else
    N c2 λ_=>N (bV []) λt=>if cG t fK then N (b6 2) λ_=>N (qa D) λ_=>N c2 λ_=>a1 () else a1 ()).aM eB) λ_=>ji l eB
  else bP
 |_=>bP
def lJ(D:ae Unit):ae Unit:=b8 (λ_=>N (bV [120,41]) λt=>match t with
 | .eof=>cf [120,41]
 | .word _ _=>N ((cX D).aM [41]) λ_=>N (bV [41]) λt=>match t with
   | .eof=>cf [41]
   | .op o=>if o=[124] then N (b6 1) λ_=>a1 (.inl ()) else if o=[41] then N (b6 1) λ_=>a1 (.inr ()) else bP
   |_=>bP
 |_=>bP) ()
def n4(l:ea)(D:ae Unit):ae Unit:=b8 (λ_=>N c2 λ_=>N (bV []) λt=>if t= .eof then cf [] else if cG t eH then N (b6 4) λ_=>a1 (.inr ()) else
 N ((if t= .op [40] then b6 1 else a1 ())) λ_=>N (lJ D) λ_=>N (l.ls .item true) λ_=>N (bV []) λt=>if t= .op [59,59] then N (b6 2) λ_=>a1 (.inl ()) else a1 (.inl ())) ()
def rD(l:ea)(D:ae Unit):ae Unit:=N (bV ([120,32]++fK++[10]++eH)) λt=>match t with
 | .eof=>cf ([120,32]++fK++[10]++eH)
 | .word _ _=>N ((N (cX D) λ_=>N c2 λ_=>N (bV []) λt=>if t= .eof then cf [] else a1 t).aM ([32]++fK++[10]++eH)) λt=>
  if cG t fK then N (b6 2) λ_=>(n4 l D).aM (10::eH) else bP
 |_=>bP
def gK(l:ea)(t:Tok):ae Unit:=match t with
 | .op _=>N (b6 1) λ_=>N ((l.ls .paren false).aM [41]) λ_=>j1 [41]
 | .word w _=>N (b6 w.length) λ_=>
  if w=[123] then N ((l.ls .p9 false).aM [10,125]) λ_=>cS [125]
  else if w=jT then rC l
  else if w=mz then qb l l.dl
  else if w=oB then rD l l.dl
  else N ((l.ls .p_ false).aM eB) λ_=>ji l eB
 |_=>bP
def lX:Tok->H
 | .word w _=>w
 |_=>[40]
def s4(lo:Option ea)(t:Tok):ae Unit:=match lo with
 |none=>vj
 |some l=>(gK l t).named (lX t)
def fG(fr:Bool)(lo:Option ea)(D:ae Unit):ae Unit:=N (bV [120]) λt=>
 if t= .eof then cf [120] else if gg t then N (s4 lo t) λ_=>g7 D else match t with
  | .op o=>if ff o then N (dz D) λ_=>g8 fr D else bP
  | .word w p=>if p&&rB w then bP else N (dz D) λb=>if b then g8 fr D else N (cX D) λ_=>
   if p&&my w then N (bV []) λt=>if t= .op [40] then N (lk fr lo) λ_=>if fr then a1 () else g7 D else g8 fr D else g8 fr D
  |_=>bP
def fu(dm:ae Unit):ae Unit:=N (bV [120]) λt=>N (if cG t [33] then b6 1 else a1 ()) λ_=>N dm λ_=>
 b8 (λ_=>N (bV []) λt=>if t= .op [124] then N (b6 1) λ_=>N (c2.aM [120]) λ_=>N dm λ_=>a1 (.inl ()) else a1 (.inr ())) ()
def h2(a:ae Unit):ae Unit:=N a λ_=>
 b8 (λ_=>N (bV []) λt=>if t= .op [38,38]\/t= .op [124,124] then N (b6 2) λ_=>N (c2.aM [120]) λ_=>N a λ_=>a1 (.inl ()) else a1 (.inr ())) ()
def oZ(ao:ae Unit)(c:Ctx)(none:Bool):ae Nat:=N (c2.aM (if none then [] else [120])) λ_=>b8 (λn=>N (bV (if none||n>0 then [] else [120])) λt=>
 if t= .eof then(if c= .text then a1 (.inr n) else cf (if none||n>0 then [] else [120])) else if(none||n>0)&&d_ c t then a1 (.inr n) else
 N ao λ_=>N (bV []) λt=>match t with
  | .eof=>a1 (.inl (n+1))
  | .line=>N c2 λ_=>a1 (.inl (n+1))
  | .word _ _=>bP
  | .op o=>if o=[59]\/o=[38] then N (b6 1) λ_=>N c2 λ_=>a1 (.inl (n+1)) else if d_ c t then a1 (.inr (n+1)) else bP) 0
def aU(fr:Bool):Nat->ea
 |0=>let D:=dG none;{ls:=oZ (h2 (fu (fG fr none D))),pm:=rA D,cp:=s4 none,rd:=g7 D,dl:=D,has:=false}
 |n+1=>let lo:=some (aU fr n);let D:=dG lo;{ls:=oZ (h2 (fu (fG fr lo D))),pm:=rA D,cp:=s4 lo,rd:=g7 D,dl:=D,has:=true}
def f_(fr:Bool)(n:Nat)(r:H):dp Nat:=(aU fr n).ls .text true r []
def dK(u:H):Prop:=u=[]\/∃t,u=t++[10]
theorem dK.tail{b:UInt8}{t:H}(h:dK (b::t)):dK t:=by
 rcases h with h|⟨s,h⟩
 ·cases h
 ·cases s with
  |nil=>simp at h;exact .inl h.2
  |cons c s=>simp at h;exact .inr ⟨s,h.2⟩
theorem dK.head{b:UInt8}(h:dK [b]):b=10:=by
 rcases h with h|⟨s,h⟩
 ·cases h
 ·cases s with
  |nil=>grind
  |cons c s=>simp at h
theorem dK.ne{b:UInt8}{t:H}(h:dK (b::t))(a:b≠10):t≠[]:=by rintro rfl;exact a h.head
theorem dK.sfx{u r:H}(h:dK u)(Y:r<:+u):dK r:=by
 obtain⟨p,rfl⟩:=Y;induction p with
 |nil=>exact h
 |cons b p a=>exact a h.tail
structure ar{α:Type}(f:ae α):Prop where
 sfx:∀{r:H}{F:ah}{a:α}{r':H}{aG:ah},f r F= .ok a r' aG->r'<:+r
 ok:∀{u:H}{F:ah}{a:α}{r':H}{aG:ah}(v:H),dK u->f u F= .ok a r' aG->r'≠[]->f (u++v) F= .ok a (r'++v) aG
 bad:∀{u:H}{F:ah}{r':H}(v:H),dK u->f u F= .bad r'->r'≠[]/\r'<:+u/\f (u++v) F= .bad (r'++v)
 deep:∀{u:H}{F:ah}{r':H}(v:H),dK u->f u F= .deep r'->r'≠[]/\r'<:+u/\f (u++v) F= .deep (r'++v)
 nil:∀(F:ah),(∃op nd ds,f [] F= .more op nd ds)\/∃a,f [] F= .ok a [] F
theorem ar.ret{α:Type}(a:α):ar (a1 a) where
 sfx h:=by cases h;simp
 ok v _ h _:=by cases h;rfl
 bad v _ h:=by cases h
 deep v _ h:=by cases h
 nil F:= .inr ⟨a,rfl⟩
theorem ar.N{α β:Type}{m:ae α}{k:α->ae β}(hm:ar m)(av:∀a,ar (k a)):ar (N m k) where
 sfx {r F b r' j} h:=by
  unfold Go.Eng.N at h;split at h
  ·rename_i a ad c M;exact List.IsSuffix.trans ((av a).sfx h) (hm.sfx M)
  all_goals cases h
 ok {u F b r' j} v hu h l:=by
  unfold Go.Eng.N at h⊢;split at h
  ·rename_i a ad c M;by_cases e:ad=[]
   ·subst e;rcases(av a).nil c with⟨op,nd,ds,U⟩|⟨i,U⟩
    ·grind
    grind
   ·rw[hm.ok v hu M e];exact(av a).ok v (hu.sfx (hm.sfx M)) h l
  all_goals cases h
 bad {u F r'} v hu h:=by
  unfold Go.Eng.N at h⊢;split at h
  ·rename_i a ad c M;by_cases e:ad=[]
   ·subst e;rcases(av a).nil c with⟨op,nd,ds,U⟩|⟨i,U⟩<;>(grind)
   ·rw[hm.ok v hu M e];obtain⟨d,f,g⟩:=(av a).bad v (hu.sfx (hm.sfx M)) h;exact⟨d,f.trans (hm.sfx M),g⟩
  ·cases h
  ·rename_i ad M;cases h;obtain⟨d,f,g⟩:=hm.bad v hu M;grind
  grind
 deep {u F r'} v hu h:=by
  unfold Go.Eng.N at h⊢;split at h
  ·rename_i a ad c M;by_cases e:ad=[]
   ·subst e;rcases(av a).nil c with⟨op,nd,ds,U⟩|⟨i,U⟩<;>(grind)
   ·rw[hm.ok v hu M e];obtain⟨d,f,g⟩:=(av a).deep v (hu.sfx (hm.sfx M)) h;exact⟨d,f.trans (hm.sfx M),g⟩
  ·cases h
  ·cases h
  ·rename_i ad M;cases h;obtain⟨d,f,g⟩:=hm.deep v hu M;grind
 nil F:=by
  unfold Go.Eng.N;rcases hm.nil F with⟨op,nd,ds,h⟩|⟨a,h⟩
  ·simp_all
  simp_all[nil]
theorem ar.YO{α:Type}{m b:ae α}(hm:ar m)(h:∀r F,b r F=m r F\/∃op nd ds c d f,m r F= .more op nd ds/\b r F= .more c d f):ar b where
 sfx {r F a r' g} e:=by
  rcases h r F with M|⟨_,_,_,_,_,_,M,U⟩
  ·exact hm.sfx (M▸e)
  grind
 ok {u F a r' g} v hu e i:=by
  rcases h u F with M|⟨_,_,_,_,_,_,M,U⟩
  ·have:=hm.ok v hu (M▸e) i;grind
  grind
 bad {u F r'} v hu e:=by
  rcases h u F with M|⟨_,_,_,_,_,_,M,U⟩
  ·obtain⟨j,k,this⟩:=hm.bad v hu (M▸e);grind
  grind
 deep {u F r'} v hu e:=by
  rcases h u F with M|⟨_,_,_,_,_,_,M,U⟩
  ·obtain⟨j,k,this⟩:=hm.deep v hu (M▸e);grind
  grind
 nil F:=by
  rcases h [] F with M|⟨_,_,_,_,_,_,M,U⟩
  ·rw[M];exact hm.nil F
  grind
theorem ar.aM{α:Type}{m:ae α}(hm:ar m)(x:H):ar (m.aM x):=hm.YO λr F=>by unfold ae.aM;grind
theorem ar.named{α:Type}{m:ae α}(hm:ar m)(x:H):ar (m.named x):=hm.YO λr F=>by unfold ae.named;grind
theorem ar.cf{α:Type}(x:H):ar (cf x:ae α) where
 sfx h:=by cases h
 ok v _ h _:=by cases h
 bad v _ h:=by cases h
 deep v _ h:=by cases h
 nil F:= .inl ⟨_,_,_,rfl⟩
theorem qM{σ α:Type}(f:σ->ae (σ⊕α))(s:σ)(r:H)(F:ah):b8 f s r F=match f s r F with
 | .ok (.inl s') r' b=>if r'.length<r.length then b8 f s' r' b else .bad r'
 | .ok (.inr a) r' b=> .ok a r' b
 | .more op nd ds=> .more op nd ds
 | .bad r=> .bad r
 | .deep r=> .deep r:=by
 grind[b8]
structure iX{σ α:Type}(f:σ->ae (σ⊕α)):Prop where
 ex:∀s,ar (f s)
 lt:∀{s:σ}{r:H}{F:ah}{s':σ}{r':H}{aG:ah},f s r F= .ok (.inl s') r' aG->r'.length<r.length
theorem ar.rep{σ α:Type}{f:σ->ae (σ⊕α)}(h:iX f)(s:σ):ar (b8 f s):=by
 have nil:∀s (F:ah),(∃op nd ds,b8 f s [] F= .more op nd ds)\/∃a,b8 f s [] F= .ok a [] F:=by
  intro s F;rw[qM];rcases(h.ex s).nil F with⟨op,nd,ds,e⟩|⟨a,e⟩
  ·simp_all
  ·rw[e];cases a with
   |inl s'=>exact absurd (h.lt e) (by simp)
   |inr a=>simp
 have sfx:∀(n:Nat)(s:σ)(r:H)(F:ah)(a:α)(r':H)(d:ah),r.length<=n->b8 f s r F= .ok a r' d->r'<:+r:=by
  intro n;induction n with
  |zero=>
   intro s r F a r' d au e;have:r=[]:=m4.1 (by omega);subst this;rcases nil s F with⟨op,nd,ds,q⟩|⟨a,q⟩<;>rw[q] at e<;>cases e
   simp
  |succ n i=>
   intro s r F a r' d au e;rw[qM] at e;split at e
   ·rename_i s1 ad g b;rw[bc (h.lt b)] at e;have:=h.lt b;exact(i s1 ad g a r' d (by omega) e).trans ((h.ex s).sfx b)
   ·rename_i b;cases e;exact(h.ex s).sfx b
   all_goals cases e
 have c:∀(n:Nat)(s:σ)(u:H)(F:ah)(v:H),u.length<=n->dK u->
   (∀a r' d,b8 f s u F= .ok a r' d->r'≠[]->b8 f s (u++v) F= .ok a (r'++v) d)/\
   (∀r',b8 f s u F= .bad r'->r'≠[]/\r'<:+u/\b8 f s (u++v) F= .bad (r'++v))/\
   (∀r',b8 f s u F= .deep r'->r'≠[]/\r'<:+u/\b8 f s (u++v) F= .deep (r'++v)):=by
  intro n;induction n with
  |zero=>
   intro s u F v au hu;have:u=[]:=m4.1 (by omega);subst this;rcases nil s F with⟨op,nd,ds,q⟩|⟨a,q⟩<;>rw[q]<;>refine⟨?_,?_,?_⟩
   ·simp
   ·simp
   ·simp
   ·simp
   ·simp
   simp
  |succ n i=>
   intro s u F v au hu;rw[qM f s u F];cases b:f s u F with
   |ok x ad g=>
    cases x with
    |inl s1=>
     simp only[h.lt b,cK];by_cases m:ad=[]
     ·subst m;rcases nil s1 g with⟨op,nd,ds,q⟩|⟨a,q⟩<;>rw[q]<;>refine⟨?_,?_,?_⟩
      ·simp
      ·simp
      ·simp
      ·simp
      ·simp
      simp
     ·have o:=(h.ex s).ok v hu b m;have Y:=(h.ex s).sfx b;obtain⟨p,j,k⟩:=i s1 ad g v (by have:=h.lt b;omega) (hu.sfx Y);have t:b8 f s (u++v) F=b8 f s1 (ad++v) g:=by rw[qM f s (u++v) F,o];simp only[h.lt o,cK]
      rw[t];exact⟨p,λr' e=>⟨(j r' e).1,(j r' e).2.1.trans Y,(j r' e).2.2⟩,λr' e=>⟨(k r' e).1,(k r' e).2.1.trans Y,(k r' e).2.2⟩⟩
    |inr a=>
     refine⟨?_,?_,?_⟩
     ·intro A r' d e l;cases e;rw[qM,(h.ex s).ok v hu b l]
     ·simp
     simp
   |more op nd ds=>simp
   |bad ad=>refine⟨λ_ _ _ e=>(by cases e),λr' e=>?_,λ_ e=>(by cases e)⟩;cases e;obtain⟨w,y,z⟩:=(h.ex s).bad v hu b;grind[qM]
   |deep ad=>refine⟨λ_ _ _ e=>(by cases e),λ_ e=>(by cases e),λr' e=>?_⟩;cases e;obtain⟨w,y,z⟩:=(h.ex s).deep v hu b;grind[qM]
 exact⟨λe=>sfx _ s _ _ _ _ _ (cF _) e,λv hu e l=>(c _ s _ _ v (cF _) hu).1 _ _ _ e l,λv hu e=>(c _ s _ _ v (cF _) hu).2.1 _ e,λv hu e=>(c _ s _ _ v (cF _) hu).2.2 _ e,nil s⟩
theorem MQ{o:H}:∀{r:H}(v:H),10∉o->dK r->r≠[]->o.isPrefixOf (r++v)=o.isPrefixOf r:=by
 induction o with
 |nil=>simp
 |cons c o d=>
  intro r v e a au;cases r with
  |nil=>grind
  |cons b t=>
   simp only[fV,List.isPrefixOf];by_cases f:b=10
   ·grind
   ·rw[d v (λh=>e (OU _ h)) a.tail (a.ne f)]
theorem SE{r:H}(v:H)(a:dK r)(au:r≠[]):bs (r++v)=bs r:=by
 unfold bs;congr 1
 have:∀(l:bx),(∀o∈l,(10:UInt8)∉o)->l.find? (λo=>o.isPrefixOf (r++v))=l.find? (λo=>o.isPrefixOf r):=by
  intro l;induction l with
  |nil=>simp
  |cons o l b=>grind[MQ,List.mem_cons_self,List.mem_cons_of_mem]
 simp_all[kd]
theorem IX{r:H}(v:H)(a:dK r)(au:r≠[]):c1 (r++v)=c1 r:=by
 cases r with
 |nil=>grind
 |cons b t=>grind[SE,c1]
theorem SF{r:H}(v:H)(c:dK r)(au:r≠[]):gG (r++v)=gG r:=by
 match r,c,au with
 |[b],c,_=>rw[c.head];rfl
 |a::b::t,c,_=>simp only[fV];unfold gG;grind
theorem Fq(t:H):c1 (10::t)=true:=by rfl
theorem YP:∀{r:H}(v:H),dK r->r≠[]->dc (r++v)=dc r
 |[],_,_,au=>absurd rfl au
 |b::t,v,a,au=>by
  have M:=IX v a au;have U:=SF v a au;simp only[fV] at M U;simp only[fV,dc,M,U];by_cases c:b=10
  ·subst c;simp[Fq]
  ·rw[YP v a.tail (a.ne c)]
theorem Fs{r:H}(v:H)(a:dK r)(au:r≠[]):aq (r++v)=aq r:=by
 cases r with
 |nil=>grind
 |cons b t=>grind[SE,YP,aq]
theorem Ft:∀(r:H),lW r<:+r
 |[]=>tv _
 |b::t=>by
  unfold lW;split
  ·exact tv _
  ·exact(Ft t).trans (dL _ _)
theorem YQ:∀{r:H},dK r->r≠[]->lW r≠[]
 |[],_,au=>absurd rfl au
 |b::t,a,_=>by
  unfold lW;split
  ·simp
  ·rename_i c;exact YQ a.tail (a.ne c)
theorem YR:∀{r:H}(v:H),dK r->r≠[]->lW (r++v)=lW r++v
 |[],_,_,au=>absurd rfl au
 |b::t,v,a,_=>by
  simp only[fV];rw[lW,lW];split
  ·rfl
  ·rename_i c;exact YR v a.tail (a.ne c)
theorem nK(b:UInt8)(t:H):bo (b::t)=(if fJ b then bo t else if b=35 then bo (lW t) else
  if b=92 then match t with
   |10::u=>if u=[] then none else bo u
   |_=>some (b::t)
  else some (b::t)):=by
 grind[bo.eq_def]
theorem mK:bo []=some []:=by rw[bo]
theorem YS:∀(n:Nat)(r:H)(v:H),r.length<=n->(∀r',bo r=some r'->r'<:+r/\(dK r->r≠[]->r'≠[]/\bo (r++v)=some (r'++v))):=by
 intro n;induction n with
 |zero=>intro r v au r' h;have:r=[]:=m4.1 (by omega);subst this;rw[mK] at h;cases h;exact⟨tv _,λ_ h=>absurd rfl h⟩
 |succ n g=>
  intro r v au r' h;cases r with
  |nil=>rw[mK] at h;cases h;exact⟨tv _,λ_ h=>absurd rfl h⟩
  |cons b t=>
   simp only[j5] at au;rw[nK] at h;have e:bo (b::t++v)=_:=nK b (t++v);split at h
   ·rename_i d;obtain⟨M,U⟩:=g t v (by omega) r' h;refine⟨M.trans (dL _ _),λa _=>?_⟩;have i:b≠10:=by rintro rfl;grind[fJ]
    rw[e,bc d];exact U a.tail (a.ne i)
   ·rename_i d;split at h
    ·rename_i f;subst f;obtain⟨M,U⟩:=g (lW t) v (by grind[AW]) r' h;refine⟨M.trans ((Ft t).trans (dL _ _)),λa _=>?_⟩;rw[e,aO d,bc rfl,YR v a.tail (a.ne (by decide))];exact U (a.tail.sfx (Ft t)) (YQ a.tail (a.ne (by decide)))
    ·rename_i f;split at h
     ·rename_i j;subst j;split at h
      ·rename_i u;split at h
       ·cases h
       ·rename_i hu;obtain⟨M,U⟩:=g u v (by grind) r' h;refine⟨M.trans ((dL _ _).trans (dL _ _)),λa _=>?_⟩;rw[e,aO d,aO f,bc rfl];simp only[fV];rw[aO (by simp[hu])];exact U a.tail.tail hu
      ·rename_i hu;cases h;refine⟨tv _,λa k=>⟨k,?_⟩⟩;rw[e,aO d,aO f,bc rfl];cases t with
       |nil=>exact absurd a.head (by decide)
       |cons c u=>simp_all
     grind
theorem ef{r r':H}(h:bo r=some r'):r'<:+r:=(YS _ r [] (cF _) r' h).1
theorem t_{r r':H}(v:H)(h:bo r=some r')(a:dK r)(au:r≠[]):r'≠[]/\bo (r++v)=some (r'++v):=(YS _ r v (cF _) r' h).2 a au
theorem ak0{r:H}(h:r<:+[]):r=[]:=List.suffix_nil.1 h
theorem ar.dR(x:H):ar (bV x) where
 sfx {r F a r' c} h:=by
  unfold bV at h;split at h
  ·cases h
  grind[ef]
 ok {u F a r' c} v hu h b:=by
  unfold bV at h⊢;split at h
  ·cases h
  ·rename_i q Y;cases h;have au:u≠[]:=by rintro rfl;exact b (ak0 (ef Y))
   rw[(t_ v Y hu au).2];simp only[Fs v (hu.sfx (ef Y)) b]
 bad v _ h:=by unfold bV at h;split at h<;>cases h
 deep v _ h:=by unfold bV at h;split at h<;>cases h
 nil F:=by unfold bV;rw[mK];exact .inr ⟨_,rfl⟩
theorem ar.dA(n:Nat):ar (b6 n) where
 sfx h:=by cases h;simp[lO]
 ok {u F a r' b} v _ h c:=by
  cases h;have:n<=u.length:=by grind[Nat.lt_or_ge,absurd,List.drop_eq_nil_of_le,Nat.le_of_lt]
  grind[b6]
 bad v _ h:=by cases h
 deep v _ h:=by cases h
 nil F:= .inr ⟨(),by simp[b6]⟩
theorem ar.ite{α:Type}{c:Prop}[Decidable c]{f g:ae α}(hf:ar f)(bu:ar g):ar (if c then f else g):=by grind
theorem IY:∀(r:H)(v:H)(q:H),gw r=some q->q<:+r/\gw (r++v)=some (q++v)
 |[],v,q,h=>by grind[gw]
 |b::t,v,q,h=>by
  rw[gw] at h;simp only[fV];rw[gw];split at h
  ·grind
  ·rename_i a;obtain⟨M,U⟩:=IY t v q h;grind
theorem ak1:∀(n:Nat)(r:H)(v:H)(q:H),r.length<=n->hE r=some q->q<:+r/\hE (r++v)=some (q++v):=by
 intro n;induction n with
 |zero=>grind[List.length_eq_zero_iff,hE]
 |succ n d=>
  intro r v q au h
  match r,au,h with
  |[],_,h=>grind[hE]
  |[b],au,h=>grind[hE,List.suffix_cons,hE.eq_def]
  |b::c::t,au,h=>
   simp only[j5] at au;by_cases f:b=96
   ·grind[hE,List.suffix_cons]
   ·by_cases e:b=92
    ·subst e;have a:hE t=some q:=by grind[hE]
     obtain⟨M,U⟩:=d t v q (by omega) a;grind[List.suffix_cons,trans,hE]
    ·have a:hE (c::t)=some q:=by grind[hE]
     obtain⟨M,U⟩:=d (c::t) v q (by grind) a;grind[List.suffix_cons,hE]
theorem ar.to{f:H->Option H}(n:H)(hf:∀r v q,f r=some q->q<:+r/\f (r++v)=some (q++v))(h0:f []=none):ar (jS f n) where
 sfx {r F a r' b} h:=by
  unfold jS at h;split at h
  ·rename_i q c;cases h;exact(hf r [] _ c).1
  grind
 ok {u F a r' b} v _ h d:=by
  unfold jS at h⊢;split at h
  ·grind
  grind
 bad v _ h:=by unfold jS at h;split at h<;>cases h
 deep v _ h:=by unfold jS at h;split at h<;>cases h
 nil F:=by unfold jS;rw[h0];exact .inl ⟨_,_,_,rfl⟩
def nb{α:Type}(f:ae α):Prop:=∀{r:H}{F:ah}{a:α}{r':H}{b:ah},r≠[]->f r F= .ok a r' b->r'.length<r.length
def gh{σ α:Type}(f:ae (σ⊕α)):Prop:=∀{r:H}{F:ah}{s:σ}{r':H}{a:ah},r≠[]->f r F= .ok (.inl s) r' a->r'.length<r.length
def ju{σ α:Type}(f:ae (σ⊕α)):Prop:=∀{F:ah}{s:σ}{r':H}{a:ah},f [] F≠ .ok (.inl s) r' a
theorem bY{α β:Type}{m:ae α}{k:α->ae β}{r:H}{F:ah}{b:β}{r':H}{c:ah}(h:N m k r F= .ok b r' c):∃a ad d,m r F= .ok a ad d/\k a ad d= .ok b r' c:=by grind[N]
theorem aS{α β:Type}{m:ae α}{k:α->ae β}{r:H}{F:ah}{a:α}{ad:H}{b:ah}(h:m r F= .ok a ad b):N m k r F=k a ad b:=by grind[N]
theorem h3{α:Type}{m:ae α}{x r:H}{F:ah}{a:α}{r':H}{b:ah}:m.aM x r F= .ok a r' b↔m r F= .ok a r' b:=by grind[ae.aM]
theorem CZ{α:Type}{m:ae α}{x r:H}{F:ah}{a:α}{r':H}{b:ah}:m.named x r F= .ok a r' b↔m r F= .ok a r' b:=by grind[ae.named]
theorem iX.of{σ α:Type}{f:σ->ae (σ⊕α)}(h:∀s,ar (f s))(M:∀s,gh (f s))(U:∀s,ju (f s)):iX f:=⟨h,λ{s r F s' r' b} e=>by
 by_cases a:r=[]
 ·subst a;exact absurd e (U s)
 ·exact M s a e⟩
theorem xH{r r':H}(h:r'<:+r):r'.length<=r.length:=h.length_le
theorem mA{r:H}:aq r= .eof↔r=[]:=by
 cases r with
 |nil=>decide
 |cons b t=>simp only[aq,reduceCtorEq,iff_false];grind
theorem n5{x r:H}{F:ah}{t:Tok}{r':H}{a:ah}(h:bV x r F= .ok t r' a):bo r=some r'/\t=aq r'/\a=F:=by
 unfold bV at h;split at h
 ·cases h
 grind
theorem gh.dR{σ α:Type}{x:H}{k:Tok->ae (σ⊕α)}(h:∀t,t≠ .eof->gh (k t))(h0:ju (k .eof)):gh (N (bV x) k):=by
 intro r F s r' b c e;obtain⟨t,ad,d,M,U⟩:=bY e;obtain⟨a,rfl,rfl⟩:=n5 M;have ay:=xH (ef a);by_cases au:ad=[]
 ·subst au;exact absurd U h0
 ·have:=h (aq ad) (λhe=>au (mA.1 he)) au U;omega
theorem ju.dR{σ α:Type}{x:H}{k:Tok->ae (σ⊕α)}(h:ju (k .eof)):ju (N (bV x) k):=by intro F s r' b e;obtain⟨t,ad,c,M,U⟩:=bY e;obtain⟨a,rfl,rfl⟩:=n5 M;rw[mK] at a;cases a;exact h U
theorem gh.inr{σ α:Type}(a:α):gh (a1 (.inr a):ae (σ⊕α)):=by intro _ _ _ _ _ _ e;cases e
theorem ju.inr{σ α:Type}(a:α):ju (a1 (.inr a):ae (σ⊕α)):=by intro _ _ _ _ e;cases e
theorem ju.more{σ α:Type}(x:H):ju (cf x:ae (σ⊕α)):=by intro _ _ _ _ e;cases e
theorem gh.bad{σ α:Type}:gh (bP:ae (σ⊕α)):=by intro _ _ _ _ _ _ e;cases e
theorem gh.C0{σ α β:Type}{m:ae β}{k:β->ae (σ⊕α)}(hm:nb m)(av:∀b,ar (k b)):gh (N m k):=by intro r F s r' c a e;obtain⟨t,ad,d,M,U⟩:=bY e;have:=hm a M;have:=xH ((av t).sfx U);omega
theorem gh.ite{σ α:Type}{c:Prop}[Decidable c]{f g:ae (σ⊕α)}(hf:gh f)(bu:gh g):gh (if c then f else g):=by grind
theorem nb.dA(n:Nat):nb (b6 (n+1)):=by
 intro r F a r' c d e;cases e;cases r with
 |nil=>grind
 |cons b t=>grind
theorem YT:∀(r:H),(hF r).2<:+r
 |[]=>tv _
 |b::t=>by
  unfold hF;split
  ·exact dL _ _
  ·exact(YT t).trans (dL _ _)
theorem SG:∀{r:H}(v:H),dK r->r≠[]->hF (r++v)=((hF r).1,(hF r).2++v)
 |[],_,_,au=>absurd rfl au
 |b::t,v,a,_=>by
  simp only[fV];rw[hF,hF];split
  ·rfl
  ·rename_i c;rw[SG v a.tail (a.ne c)]
theorem xI(d:H)(tabs:Bool)(b:UInt8)(t:H):jR d tabs (b::t)=(if(if tabs then(hF (b::t)).1.dropWhile (· ==9) else(hF (b::t)).1)=d then some (hF (b::t)).2 else jR d tabs (hF (b::t)).2):=by rw[jR]
theorem SH(d:H)(tabs:Bool):∀(n:Nat)(r v q:H),r.length<=n->jR d tabs r=some q->q<:+r/\(dK r->jR d tabs (r++v)=some (q++v)):=by
 intro n;induction n with
 |zero=>grind[List.length_eq_zero_iff,jR]
 |succ n f=>
  intro r v q au h;cases r with
  |nil=>grind[jR]
  |cons b t=>
   rw[xI] at h;have g:=IW (b::t) (by simp);have c:=YT (b::t);by_cases az:(if tabs then(hF (b::t)).1.dropWhile (· ==9) else(hF (b::t)).1)=d
   ·rw[bc az] at h;cases h;refine⟨c,λa=>?_⟩;have e:=SG v a (by simp);simp_all[fV,xI,bc]
   ·rw[aO az] at h;obtain⟨M,U⟩:=f _ v q (by omega) h;refine⟨M.trans c,λa=>?_⟩;have e:=SG v a (by simp);simp only[fV] at e⊢;rw[xI,e,aO az];exact U (a.sfx c)
theorem vl:∀(ds:ah)(r v q:H),ks ds r= .inl q->q<:+r/\(dK r->ks ds (r++v)= .inl (q++v))
 |[],r,v,q,h=>by cases h;exact⟨tv _,λ_=>rfl⟩
 |d::ds,r,v,q,h=>by
  rw[ks] at h;split at h
  ·rename_i ad M;obtain⟨a,ak⟩:=SH d.1 d.2 _ r v ad (cF _) M;obtain⟨c,e⟩:=vl ds ad v q h;refine⟨c.trans a,λb=>?_⟩;rw[ks,ak b];exact e (b.sfx a)
  grind
theorem s5(b:UInt8)(t:H)(F:ah):jt (b::t) F=(match ks F t with| .inl r'=> .ok () r' []| .inr nd=> .more [[60,60]] nd []):=rfl
theorem ar.nl:ar jt where
 sfx {r F a r' d} h:=by
  cases r with
  |nil=>cases h;simp
  |cons b t=>
   rw[s5] at h;split at h
   ·rename_i q c;cases h;exact(vl F t [] _ c).1.trans (dL _ _)
   grind
 ok {u F a r' d} v hu h e:=by
  cases u with
  |nil=>cases h;grind
  |cons b t=>
   rw[s5] at h;simp only[fV];rw[s5];split at h
   ·rename_i q c;cases h;rw[(vl F t v _ c).2 hu.tail]
   grind
 bad {u F r'} v _ h:=by
  cases u with
  |nil=>cases h
  |cons b t=>grind[s5]
 deep {u F r'} v _ h:=by
  cases u with
  |nil=>cases h
  |cons b t=>grind[s5]
 nil F:= .inr ⟨(),rfl⟩
theorem nb.nl:nb jt:=by
 intro r F a r' d f e;cases r with
 |nil=>grind
 |cons b t=>
  rw[s5] at e;split at e
  ·rename_i q c;cases e;have:=xH (vl F t [] _ c).1;grind
  grind
theorem iX.lines:iX (λ(some:Bool)=>N (bV []) λt=>if t= .line then N jt λ_=>a1 (.inl true) else a1 (.inr some):Bool->ae (Bool⊕Bool)):=by
 refine iX.of (λs=>(ar.dR _).N λt=>ar.ite (ar.nl.N λ_=>ar.ret _) (ar.ret _)) (λs=>gh.dR (λt a=>gh.ite (gh.C0 nb.nl λ_=>ar.ret _) (gh.inr _)) ?_) (λs=>ju.dR ?_)
 ·simp[cA,ju.inr]
 simp[cA,ju.inr]
theorem ar.lines:ar c2:=ar.rep iX.lines false
structure iw(D:ae Unit):Prop where
 ex:ar D
 lt:∀{r:H}{F:ah}{r':H}{aG:ah},gG r=true->D r F= .ok () r' aG->r'.length<r.length
theorem YU{t:H}(v:H):t.drop 1≠[]->(t++v).drop 1=t.drop 1++v:=by intro h;rw[ON];grind
theorem ar.tick:ar (jS hE [96]):=ar.to _ (λr v q h=>ak1 _ r v q (cF _) h) (by decide)
theorem ar.single:ar (jS gw [39]):=ar.to _ (λr v q h=>IY r v q h) (by decide)
theorem ar.part{D:ae Unit}(hD:iw D){dq:Option (ae Unit)}(l:∀q∈dq,ar q):ar (cJ D dq):=by
 have d:∀(b:UInt8)(t v:H),dK (b::t)->∃(f:ae Unit)(g:H->H),ar f/\(∀F,cJ D dq (b::t) F=f (g (b::t)) F)/\(∀F,cJ D dq (b::t++v) F=f (g (b::t)++v) F\/g (b::t)=[]/\f=a1 ())/\g (b::t)<:+b::t:=by
  intro b t v j;by_cases m:b=92
  ·refine⟨a1 (),λr=>(r.drop 1).drop 1,ar.ret _,λF=>by simp_all[cJ,a1],λF=>?_,(lO _ _).trans (lO _ _)⟩;by_cases au:t.drop 1=[]
   ·grind
   ·left;simp only[fV,cJ,m,cK,GS,ym];rw[YU v au];rfl
  ·by_cases w:b=96
   ·exact⟨jS hE [96],λr=>r.drop 1,ar.tick,λF=>by simp_all[cJ],λF=> .inl (by simp_all[cJ]),lO _ _⟩
   ·have n:=SF v j (by simp);simp only[fV] at n;by_cases x:gG (b::t)=true
    ·exact⟨D,id,hD.ex,λF=>by simp_all[cJ],λF=> .inl (by simp_all[cJ]),tv _⟩
    ·cases dq with
     |none=>exact⟨a1 (),λr=>r.drop 1,ar.ret _,λF=>by grind[cJ,a1],λF=> .inl (by grind[cJ,a1]),lO _ _⟩
     |some q=>
      by_cases y:b=39
      ·exact⟨jS gw [39],λr=>r.drop 1,ar.single,λF=>by grind[cJ,gG],λF=> .inl (by grind[cJ,gG]),lO _ _⟩
      ·by_cases z:b=34
       ·exact⟨q,λr=>r.drop 1,l q rfl,λF=>by grind[cJ,gG],λF=> .inl (by grind[cJ,gG]),lO _ _⟩
       ·exact⟨a1 (),λr=>r.drop 1,ar.ret _,λF=>by grind[cJ,a1],λF=> .inl (by grind[cJ,a1]),lO _ _⟩
 have sfx:∀(b:UInt8)(t:H)(F:ah)(r':H)(i:ah),cJ D dq (b::t) F= .ok () r' i->r'<:+b::t:=by
  intro b t F r' i h;unfold cJ at h;simp only at h;split at h
  ·grind[List.drop_suffix,trans,List.suffix_cons]
  ·split at h
   ·exact(ar.tick.sfx h).trans (dL _ _)
   ·split at h
    ·exact hD.ex.sfx h
    ·cases dq with
     |none=>grind
     |some q=>
      simp only at h;split at h
      ·exact(ar.single.sfx h).trans (dL _ _)
      ·split at h
       ·exact((l q rfl).sfx h).trans (dL _ _)
       grind
 constructor
 ·intro r F a r' i h;cases r with
  |nil=>cases h;simp
  |cons b t=>grind
 ·intro u F a r' i v hu h j;cases u with
  |nil=>cases h;grind
  |cons b t=>
   obtain⟨f,g,M,U,c,e⟩:=d b t v hu;rw[U] at h;rcases c F with c|⟨k,rfl⟩
   ·rw[c];exact M.ok v (hu.sfx e) h j
   ·rw[k] at h;cases h;grind
 ·intro u F r' v hu h;cases u with
  |nil=>cases h
  |cons b t=>
   obtain⟨f,g,M,U,c,e⟩:=d b t v hu;rw[U] at h;rcases c F with c|⟨k,rfl⟩
   ·rw[c];obtain⟨o,p,s⟩:=M.bad v (hu.sfx e) h;grind
   ·cases h
 ·intro u F r' v hu h;cases u with
  |nil=>cases h
  |cons b t=>
   obtain⟨f,g,M,U,c,e⟩:=d b t v hu;rw[U] at h;rcases c F with c|⟨k,rfl⟩
   ·rw[c];obtain⟨o,p,s⟩:=M.deep v (hu.sfx e) h;grind
   ·cases h
 ·intro F;exact .inr ⟨(),rfl⟩
theorem nb.part{D:ae Unit}(hD:iw D){dq:Option (ae Unit)}(c:∀q∈dq,ar q):nb (cJ D dq):=by
 intro r F a r' d e h;cases r with
 |nil=>grind
 |cons b t=>
  unfold cJ at h;simp only at h;split at h
  ·grind
  ·split at h
   ·have:=xH (ar.tick.sfx h);grind
   ·split at h
    ·exact hD.lt ‹_› h
    ·cases dq with
     |none=>grind
     |some q=>
      simp only at h;split at h
      ·have:=xH (ar.single.sfx h);grind
      ·split at h
       ·have:=xH ((c q rfl).sfx h);grind
       grind
theorem iX.bytes{α:Type}{stop:H->Option (H×α)}{part:ae Unit}(aE:ar part)(ay:nb part)
  {f:Unit->ae (Unit⊕α)} (h0:∀F,f () [] F=cf [] [] F) (M:∀b t F,f () (b::t) F=match stop (b::t) with
   |some q=> .ok (.inr q.2) q.1 F
   |none=>N part (λ_=>a1 (.inl ())) (b::t) F)
  (Y:∀b t q,stop (b::t)=some q->q.1<:+b::t) (k:∀b t q v,dK (b::t)->stop (b::t)=some q->stop (b::t++v)=some (q.1++v,q.2)) (g:∀b t v,dK (b::t)->stop (b::t)=none->stop (b::t++v)=none):iX f:=by
 have d:ar (N part (λ_=>a1 (.inl ()):Unit->ae (Unit⊕α))):=aE.N λ_=>ar.ret _;refine⟨λs=>?_,?_⟩
 ·constructor
  ·intro r F a r' i h;cases r with
   |nil=>rw[h0] at h;cases h
   |cons b t=>
    rw[M] at h;split at h
    ·grind
    ·exact d.sfx h
  ·intro u F a r' i v hu h j;cases u with
   |nil=>rw[h0] at h;cases h
   |cons b t=>
    rw[M] at h;have e:=M b (t++v) F;simp only[fV] at e⊢;rw[e];split at h
    ·grind
    ·rename_i c;have:=g b t v hu c;simp only[fV] at this;rw[this];exact d.ok v hu h j
  ·intro u F r' v hu h;cases u with
   |nil=>rw[h0] at h;cases h
   |cons b t=>
    rw[M] at h;have e:=M b (t++v) F;simp only[fV] at e⊢;rw[e];split at h
    ·cases h
    ·rename_i c;have:=g b t v hu c;simp only[fV] at this;rw[this];exact d.bad v hu h
  ·intro u F r' v hu h;cases u with
   |nil=>rw[h0] at h;cases h
   |cons b t=>
    rw[M] at h;have e:=M b (t++v) F;simp only[fV] at e⊢;rw[e];split at h
    ·cases h
    ·rename_i c;have:=g b t v hu c;simp only[fV] at this;rw[this];exact d.deep v hu h
  ·intro F;exact .inl ⟨_,_,_,h0 F⟩
 ·intro s r F s' r' i h;cases r with
  |nil=>rw[h0] at h;cases h
  |cons b t=>
   rw[M] at h;split at h
   ·cases h
   ·exact gh.C0 ay (λ_=>ar.ret _) (by simp) h
theorem iX.AY(c:UInt8){part:ae Unit}(aE:ar part)(ay:nb part):iX (λ(_:Unit)(r:H)(F:ah)=>(match r with
 |[]=>cf [] r F
 |b::t=>if b=c then .ok (.inr ()) t F else(N part λ_=>a1 (.inl ())) r F:dp (Unit⊕Unit))):=by
 refine iX.bytes (stop:=λr=>match r with|[]=>none|b::t=>if b=c then some (t,()) else none) aE ay (λ_=>rfl) (λb t F=>?_) ?_ ?_ ?_
 ·grind
 ·simp
 ·simp
 simp
theorem ar.AY(c:UInt8){part:ae Unit}(aE:ar part)(ay:nb part):ar (jD c part):=ar.rep (iX.AY c aE ay) ()
theorem ar.double{D:ae Unit}(hD:iw D):ar (e2 D):=((ar.AY 34 (ar.part hD (by simp)) (nb.part hD (by simp))).aM _).named _
theorem ar.zm{D:ae Unit}(hD:iw D):ar (cJ D (some (e2 D))):=ar.part hD λq a=>by grind[ar.double]
theorem nb.zm{D:ae Unit}(hD:iw D):nb (cJ D (some (e2 D))):=nb.part hD λq a=>by grind[ar.double]
theorem ar.param{D:ae Unit}(hD:iw D):ar (rA D):=(ar.AY 125 (ar.zm hD) (nb.zm hD)).aM _
theorem iX.word{D:ae Unit}(hD:iw D):iX (λ(_:Unit)(r:H)(F:ah)=>(match r with
 |[]=>cf [] r F
 |_::_=>if c1 r then .ok (.inr ()) r F else(N (cJ D (some (e2 D))) λ_=>a1 (.inl ())) r F:dp (Unit⊕Unit))):=by
 refine iX.bytes (stop:=λr=>if c1 r then some (r,()) else none) (ar.zm hD) (nb.zm hD) (λ_=>rfl) (λb t F=>?_) ?_ ?_ ?_
 ·grind
 ·simp
 ·intro b t q v a h;split at h
  ·rename_i c;cases h;rw[IX v a (by simp),bc c]
  grind
 ·intro b t v a h;split at h
  ·cases h
  ·rename_i c;rw[IX v a (by simp),aO c]
theorem ar.word{D:ae Unit}(hD:iw D):ar (cX D):=ar.rep (iX.word hD) ()
theorem wy{D:ae Unit}(hD:iw D){r:H}{F:ah}{r':H}{a:ah}(f:r≠[])(c:c1 r=false)(h:cX D r F= .ok () r' a):r'.length<r.length:=by
 unfold cX at h;rw[qM] at h;cases r with
 |nil=>grind
 |cons b t=>
  simp only[c,eQ,cA] at h;split at h
  ·rename_i s1 ad g M;have d:=gh.C0 (nb.zm hD) (λ_=>ar.ret _) (by simp) M;rw[bc d] at h;have:=xH ((ar.word hD).sfx h);omega
  ·rename_i M;obtain⟨_,_,_,U,e⟩:=bY M;cases e
  all_goals cases h
theorem I0{b:UInt8}{t:H}:(∃w p,aq (b::t)= .word w p)->fJ b=false->c1 (b::t)=false:=by grind[aq,c1]
theorem YV:∀(n:Nat)(r:H),r.length<=n->∀b t,bo r=some (b::t)->fJ b=false:=by
 intro n;induction n with
 |zero=>simp[m4,mK]
 |succ n a=>
  intro r au b t h;cases r with
  |nil=>grind
  |cons c u=>grind[List.length_cons,nK,AW]
theorem gh.MR{σ α:Type}{D:ae Unit}(hD:iw D){x:H}{k:Tok->ae (σ⊕α)}(h:∀t,t≠ .eof->(∀w p,t≠ .word w p)->gh (k t))(h0:ju (k .eof))
  (f:∀w p,∃(m:ae Unit)(k':Unit->ae (σ⊕α)),k (.word w p)=N m k'/\(∀{r F r' c},m r F= .ok () r' c↔cX D r F= .ok () r' c)/\∀u,ar (k' u)):gh (N (bV x) k):=by
 intro r F s r' c n e;obtain⟨t,ad,o,M,U⟩:=bY e;obtain⟨d,rfl,rfl⟩:=n5 M;have ay:=xH (ef d);cases ad with
 |nil=>exact absurd U h0
 |cons b u=>
  by_cases a:∃w p,aq (b::u)= .word w p
  ·have g:=I0 a (YV _ _ (cF _) _ _ d);obtain⟨w,p,a⟩:=a;rw[a] at U;obtain⟨m,k',av,hm,i⟩:=f w p;rw[av] at U;obtain⟨_,q,v,j,l⟩:=bY U;have:=wy hD (by simp) g (hm.1 j);have:=xH ((i ()).sfx l);omega
  ·have:=h (aq (b::u)) (λhe=>by grind[mA]) (λw p he=>a ⟨w,p,he⟩) (by simp) U;omega
theorem ak2{r:H}(v:H){p:UInt8->Bool}(aE:p 10=false):dK r->r≠[]->r.dropWhile p≠[]/\(r++v).dropWhile p=r.dropWhile p++v:=by
 induction r with
 |nil=>simp
 |cons b t c=>
  intro a _;simp only[fV,adW];cases e:p b with
  |false=>simp
  |true=>
   have d:b≠10:=by grind
   simpa using c a.tail (a.ne d)
theorem C1{r:H}{p:UInt8->Bool}:r.dropWhile p<:+r:=List.dropWhile_suffix _
theorem SI{r:H}:(bs r).length<=r.length:=by
 unfold bs;cases h:kd.find? (λo=>o.isPrefixOf r) with
 |none=>simp
 |some o=>grind
theorem SJ{r:H}:bs r<+:r:=by
 unfold bs;cases h:kd.find? (λo=>o.isPrefixOf r) with
 |none=>simp
 |some o=>grind
theorem ar.YW:ar fL where
 sfx {r F a r' c} h:=by
  unfold fL at h;split at h
  ·cases h
  ·rename_i q b;simp only at h;split at h
   ·cases h;exact((lO _ _).trans C1).trans (ef b)
   grind[ef]
 ok {u F a r' c} v hu h j:=by
  unfold fL at h⊢;split at h
  ·cases h
  ·rename_i q b;simp only at h;by_cases au:u=[]
   ·simp_all[mK,bs,kd,ff,absurd]
   ·obtain⟨d,e⟩:=t_ v b hu au;obtain⟨f,g⟩:=ak2 v (p:=ch) (by decide) (hu.sfx (ef b)) d;have i:=SE v ((hu.sfx (ef b)).sfx C1) f;rw[e];simp only[g,i];split at h
    ·simp_all[bc,ON,SI]
    grind
 bad v _ h:=by
  unfold fL at h;split at h
  ·cases h
  grind
 deep v _ h:=by
  unfold fL at h;split at h
  ·cases h
  grind
 nil F:=by simp[fL,mK,bs,kd,ff]
theorem MS(b:UInt8)(t:H):eV (b::t)=(if b=34 then .closed [] t else if b=36\/b=96 then .part else
  if b=92 then match t with
   |[]=> .part
   |c::u=>(eV u).add (AX c)
  else(eV t).add [b]):=by
 grind[eV.eq_def]
def wz:jE->Prop
 | .closed o _=>(10:UInt8)∈o
 | .part=>True
 | .open_ o=>(10:UInt8)∈o
theorem wz.add{x:H}{q:jE}(h:wz q):wz (q.add x):=by cases q<;>simp_all [wz,jE.add]
theorem wz.SK{x:H}{q:jE}(h:(10:UInt8)∈x):wz (q.add x):=by cases q<;>simp_all [wz,jE.add]
theorem YX:∀(n:Nat)(r v:H),r.length<=n->dK r->r≠[]->
  (∀o q,eV r= .closed o q->q<:+r/\eV (r++v)= .closed o (q++v))/\(eV r= .part->eV (r++v)= .part)/\(∀o,eV r= .open_ o->10∈o->wz (eV (r++v))):=by
 intro n;induction n with
 |zero=>grind
 |succ n k=>
  intro r v au d bf;cases r with
  |nil=>grind
  |cons b t=>
   simp only[j5] at au;simp only[fV];rw[MS,MS];by_cases l:b=34
   ·simp_all
   by_cases aE:b=36\/b=96
   ·grind
   by_cases m:b=92
   ·subst m;simp only[l,aE,cK,cA];cases t with
    |nil=>exact absurd d.head (by decide)
    |cons c u=>
     simp only[fV];by_cases hu:u=[]
     ·grind[eV,jE.add,AX]
     ·obtain⟨f,g,j⟩:=k u v (by grind) d.tail.tail hu;refine⟨?_,?_,?_⟩
      ·intro o q e;cases a:eV u<;>rw[a] at e<;>simp[jE.add] at e;obtain⟨rfl,rfl⟩:=e;obtain⟨h,i⟩:=f _ _ a;exact⟨h.trans ((dL _ _).trans (dL _ _)),by rw[i];rfl⟩
      ·intro e;cases a:eV u<;>rw[a] at e<;>simp[jE.add] at e;rw[g a];rfl
      ·intro o e he;cases a:eV u<;>rw[a] at e<;>simp[jE.add] at e;subst e;rcases rW.1 he with he|he
       ·grind[wz.SK]
       ·exact(j _ a he).add
   ·simp only[l,aE,m,cA];by_cases p:b=10
    ·subst p;by_cases s:t=[]
     ·grind[eV,jE.add,wz.SK]
     ·obtain⟨f,g,j⟩:=k t v (by omega) d.tail s;refine⟨?_,?_,?_⟩
      ·intro o q e;cases a:eV t<;>rw[a] at e<;>simp[jE.add] at e;obtain⟨rfl,rfl⟩:=e;obtain⟨h,i⟩:=f _ _ a;exact⟨h.trans (dL _ _),by rw[i];rfl⟩
      ·intro e;cases a:eV t<;>rw[a] at e<;>simp[jE.add] at e;rw[g a];rfl
      simp[wz.SK]
    ·obtain⟨f,g,j⟩:=k t v (by omega) d.tail (d.ne p);refine⟨?_,?_,?_⟩
     ·intro o q e;cases a:eV t<;>rw[a] at e<;>simp[jE.add] at e;obtain⟨rfl,rfl⟩:=e;obtain⟨h,i⟩:=f _ _ a;exact⟨h.trans (dL _ _),by rw[i];rfl⟩
     ·intro e;cases a:eV t<;>rw[a] at e<;>simp[jE.add] at e;rw[g a];rfl
     ·intro o e he;cases a:eV t<;>rw[a] at e<;>simp[jE.add] at e;subst e;rcases kT.1 he with he|he
      ·grind
      ·exact(j _ a he).add
theorem wA(b:UInt8)(t:H):df (b::t)=(if c1 (b::t) then some ([],b::t,[]) else
  if b=92 then match t with
   |[]=>none
   |c::u=>(df u).map λq=>((if c=10 then [] else [c])++q.1,q.2)
  else if b=39 then match gw t with
   |none=>none
   |some r=>(df r).map λq=>(t.take (t.length-r.length-1)++q.1,q.2)
  else if b=36\/b=96 then none else
  if b=34 then match eV t with
   | .part=>none
   | .open_ o=>some (o,[],[34])
   | .closed o r=>(df r).map λq=>(o++q.1,q.2)
  else(df t).map λq=>(b::q.1,q.2)):=by
 grind[df.eq_def]
def s6(x:Option (H×H×H)):Prop:=x=none\/∃d q c,x=some (d,q,c)/\(10:UInt8)∈d
theorem s6.map{x:Option (H×H×H)}{f:H->H}(h:s6 x)(hf:∀d,(10:UInt8)∈d->(10:UInt8)∈f d):s6 (x.map λq=>(f q.1,q.2)):=by
 rcases h with rfl|⟨d,q,c,rfl,aD⟩
 ·exact .inl rfl
 ·exact .inr ⟨_,_,_,rfl,hf d aD⟩
theorem s6.MT{x:Option (H×H×H)}{f:H->H}(hf:∀d,(10:UInt8)∈f d):s6 (x.map λq=>(f q.1,q.2)):=by
 cases x with
 |none=>exact .inl rfl
 |some q=>exact .inr ⟨_,_,_,rfl,hf _⟩
theorem ak3:∀{t:H}(v q:H),gw t=none->gw (t++v)=some q->(t++v).take ((t++v).length-q.length-1)=t++(v.take (v.length-q.length-1)):=by
 intro t;induction t with
 |nil=>simp
 |cons b t a=>
  intro v q M U;rw[gw] at M;simp only[fV] at U⊢;rw[gw] at U;split at M
  ·cases M
  ·rename_i c;rw[aO c] at U;have:=a v q M U;have ay:=zl _ _ U;have e:(b::(t++v)).length-q.length-1=((t++v).length-q.length-1)+1:=by grind
   grind
theorem YY{t:H}(h:dK t)(au:t≠[]):(10:UInt8)∈t:=by
 rcases h with h|⟨s,rfl⟩
 ·grind
 ·simp
theorem YZ{t q v:H}(h:q<:+t):(t++v).take ((t++v).length- (q++v).length-1)=t.take (t.length-q.length-1):=by grind
theorem Y0:∀(n:Nat)(r v:H),r.length<=n->dK r->r≠[]->
  (df r=none->s6 (df (r++v)))/\(∀d q c,df r=some (d,q,c)->q<:+r/\(10∈d->s6 (df (r++v)))/\(c=[]->q≠[]->df (r++v)=some (d,q++v,[]))):=by
 intro n;induction n with
 |zero=>grind
 |succ n z=>
  intro r v au g bf;cases r with
  |nil=>grind
  |cons b t=>
   simp only[j5] at au;have m:=IX v g bf;simp only[fV] at m⊢;rw[wA,wA,m];have step:∀(u:H)(f:H->H),u<:+t->u.length<=n->(∀d,(10:UInt8)∈d->(10:UInt8)∈f d)->(∀d,(10:UInt8)∈f d->(10:UInt8)∈d\/∀d,(10:UInt8)∈f d)->
     ((df u).map (λq=>(f q.1,q.2))=none->s6 ((df (u++v)).map λq=>(f q.1,q.2)))/\
     (∀d q c,(df u).map (λq=>(f q.1,q.2))=some (d,q,c)->q<:+b::t/\(10∈d->s6 ((df (u++v)).map λq=>(f q.1,q.2)))/\(c=[]->q≠[]->(df (u++v)).map (λq=>(f q.1,q.2))=some (d,q++v,[]))):=by
    intro u f hu i p s;by_cases w:u=[]
    ·subst w;have e0:df []=some ([],[],[]):=by rw[df]
     rw[e0];refine⟨λh=>by grind,λd q c h=>?_⟩;simp only[zZ,e8,jK] at h;obtain⟨rfl,rfl,rfl⟩:=h;refine⟨nP,λaD=>?_,λ_ a=>absurd rfl a⟩;rcases s _ aD with h|h
     ·cases h
     ·exact s6.MT h
    ·obtain⟨A,B⟩:=z u v i (g.tail.sfx hu) w;refine⟨λh=>?_,λd q c h=>?_⟩
     ·simp only[Option.map_eq_none_iff] at h;exact(A h).map p
     ·simp only[w_,jK] at h;obtain⟨⟨K,L,N⟩,M,rfl,rfl,rfl⟩:=h;obtain⟨C,D,O⟩:=B _ _ _ M;refine⟨C.trans (hu.trans (dL _ _)),λaD=>?_,λaz a=>?_⟩
      ·rcases s _ aD with h|h
       ·exact(D h).map p
       ·exact s6.MT h
      grind
   by_cases e:c1 (b::t)=true
   ·simp only[e,cK];grind
   by_cases j:b=92
   ·subst j;simp only[e,cK,eQ,cA];cases t with
    |nil=>exact absurd g.head (by decide)
    |cons c u=>
     simp only[fV];refine step u (λd=>(if c=10 then [] else [c])++d) (dL _ _) (by grind) ?_ ?_
     ·grind
     grind
   have E:t≠[]:=g.ne (by rintro rfl;grind[Fq]);by_cases k:b=39
   ·subst k;simp only[e,cK,eQ,cA];rw[aO (by decide),aO (by decide)];cases Y:gw t with
    |none=>
     refine⟨λ_=>?_,λd q c h=>by grind⟩;cases F:gw (t++v) with
     |none=>exact .inl rfl
     |some q=>simp only;rw[ak3 v q Y F];exact s6.MT (f:=λd=>t++List.take (v.length-q.length-1) v++d) λd=>by grind[YY]
    |some q=>obtain⟨s1,s2⟩:=IY t v q Y;rw[s2];simp only;rw[YZ s1];refine step q (λd=>List.take (t.length-q.length-1) t++d) s1 (by grind) (λd aD=>by grind) (λd aD=>?_);grind
   by_cases aE:b=36\/b=96
   ·simp only[e,j,k,aE,cK,eQ,cA];exact⟨λ_=> .inl rfl,λd q c h=>by grind⟩
   by_cases x:b=34
   ·subst x;simp only[e,cK,eQ,cA];rw[aO (by decide),aO (by decide),aO (by decide),aO (by decide),aO (by decide),aO (by decide)];obtain⟨G,I,J⟩:=YX t.length t v (cF _) g.tail E;cases a:eV t with
    |part=>rw[I a];exact⟨λ_=> .inl rfl,λd q c h=>by grind⟩
    |open_ o=>
     refine⟨λh=>by grind,λd q c h=>?_⟩;simp only[e8,jK] at h;obtain⟨rfl,rfl,rfl⟩:=h;refine⟨nP,λaD=>?_,λh=>by simp⟩;have:=J o a aD;cases y:eV (t++v) with
     |part=>exact .inl rfl
     |open_ l=>rw[y] at this;exact .inr ⟨_,_,_,rfl,this⟩
     |closed l P=>rw[y] at this;exact s6.MT (f:=λd=>l++d) λd=>by simp[show(10:UInt8)∈l from this]
    |closed o q=>obtain⟨s1,s2⟩:=G o q a;rw[s2];refine step q (λd=>o++d) s1 (by grind) (λd aD=>by grind) (λd aD=>?_);grind
   simp only[e,j,k,aE,x,eQ,cA];refine step t (λd=>b::d) (tv _) (by omega) (λd aD=>by grind) (λd aD=>?_);grind
theorem SL:∀(n:Nat)(r o q:H),r.length<=n->eV r= .closed o q->q<:+r:=by
 intro n;induction n with
 |zero=>grind[List.length_eq_zero_iff,eV]
 |succ n a=>
  intro r o q au h;cases r with
  |nil=>grind
  |cons b t=>grind[List.length_cons,MS,List.suffix_cons,jE.SB,trans]
theorem MU:∀(n:Nat)(r:H)(x:H×H×H),r.length<=n->df r=some x->x.2.1<:+r:=by
 intro n;induction n with
 |zero=>grind[List.length_eq_zero_iff,df,List.suffix_refl]
 |succ n a=>
  intro r x au h;cases r with
  |nil=>grind
  |cons b t=>
   simp only[j5] at au
   have go:∀(u:H)(f:H->H),u<:+t->(df u).map (λq=>(f q.1,q.2))=some x->x.2.1<:+b::t:=by intro u f hu h;simp only[w_] at h;grind
   rw[wA] at h;split at h
   ·grind
   ·split at h
    ·split at h
     ·cases h
     ·rename_i c u _;exact go u (λd=>(if c=10 then [] else [c])++d) (dL _ _) h
    ·split at h
     ·split at h
      ·cases h
      ·rename_i ad M;exact go ad (λd=>List.take (t.length-ad.length-1) t++d) (IY t [] _ M).1 h
     ·split at h
      ·cases h
      ·split at h
       ·split at h
        ·cases h
        ·grind
        ·rename_i o ad M;exact go ad (λd=>o++d) (SL _ _ _ _ (cF _) M) h
       ·exact go t (λd=>b::d) (tv _) h
def I2(o:H):jE->Prop
 | .closed a _=>o<+:a
 | .part=>True
 | .open_ a=>o<+:a
theorem I2.add{x o:H}{q:jE}(h:I2 o q):I2 (x++o) (q.add x):=by
 cases q with
 |part=>trivial
 |closed a r=>exact(List.prefix_append_right_inj _).2 h
 |open_ a=>exact(List.prefix_append_right_inj _).2 h
theorem ak4:∀(n:Nat)(r v o:H),r.length<=n->dK r->eV r= .open_ o->I2 o (eV (r++v)):=by
 intro n;induction n with
 |zero=>intro r v o au _ h;have:r=[]:=m4.1 (by omega);subst this;simp[eV] at h;subst h;cases eV ([]++v)<;>simp[I2]
 |succ n e=>
  intro r v o au ay h;cases r with
  |nil=>grind
  |cons b t=>
   simp only[j5] at au;simp only[fV];rw[MS] at h⊢;split at h
   ·cases h
   ·rename_i f;split at h
    ·cases h
    ·rename_i aE;rw[aO f,aO aE];split at h
     ·rename_i d;rw[bc d];cases t with
      |nil=>cases h
      |cons c u=>simp only[fV] at h⊢;cases a:eV u<;>rw[a] at h<;>simp[jE.add] at h;subst h;exact(e u v _ (by grind) ay.tail.tail a).add
     ·rename_i d;rw[aO d];cases a:eV t<;>rw[a] at h<;>simp[jE.add] at h;subst h;exact(e t v _ (by omega) ay.tail a).add (x:=[b])
def I3(d:H)(x:Option (H×H×H)):Prop:=∀y,x=some y->d<+:y.1
theorem I3.map{d:H}{x:Option (H×H×H)}(p:H)(h:I3 d x):I3 (p++d) (x.map λq=>(p++q.1,q.2)):=by intro y a;simp only[w_] at a;obtain⟨z,b,rfl⟩:=a;exact(List.prefix_append_right_inj _).2 (h z b)
theorem ak5:∀(n:Nat)(r v:H)(x:H×H×H),r.length<=n->dK r->df r=some x->I3 x.1 (df (r++v)):=by
 intro n;induction n with
 |zero=>intro r v x au _ h;have:r=[]:=m4.1 (by omega);subst this;simp[df] at h;subst h;intro y _;simp
 |succ n m=>
  intro r v x au d h;cases r with
  |nil=>grind
  |cons b t=>
   simp only[j5] at au;have j:=IX v d (by simp);simp only[fV] at j⊢
   have go:∀(u p:H),u<:+t->(df u).map (λq=>(p++q.1,q.2))=some x->I3 x.1 ((df (u++v)).map λq=>(p++q.1,q.2)):=by intro u p hu h;simp only[w_] at h;obtain⟨y,M,rfl⟩:=h;exact(m u v y (by grind) (d.tail.sfx hu) M).map p
   rw[wA] at h⊢;rw[j];split at h
   ·rename_i k;cases h;intro y _;simp
   ·rename_i k;rw[aO k];have s:t≠[]:=d.ne (by rintro rfl;grind[Fq]);split at h
    ·rename_i f;rw[bc f];cases t with
     |nil=>cases h
     |cons c u=>exact go u (if c=10 then [] else [c]) (dL _ _) h
    ·rename_i f;rw[aO f];split at h
     ·rename_i g;rw[bc g];cases Y:gw t with
      |none=>grind
      |some q=>rw[Y] at h;obtain⟨s1,s2⟩:=IY t v q Y;rw[s2];simp only at h⊢;rw[YZ s1];exact go q _ s1 h
     ·rename_i g;rw[aO g];split at h
      ·cases h
      ·rename_i aE;rw[aO aE];split at h
       ·rename_i i;rw[bc i];obtain⟨w,B,C⟩:=YX t.length t v (cF _) d.tail s;cases e:eV t with
        |part=>grind
        |open_ o=>
         rw[e] at h;simp only[e8] at h;subst h;have:=ak4 t.length t v o (cF _) d.tail e;cases l:eV (t++v) with
         |part=>intro y a;cases a
         |open_ A=>rw[l] at this;intro y a;cases a;exact this
         |closed A D=>rw[l] at this;intro y a;simp only[w_] at a;obtain⟨z,E,rfl⟩:=a;exact List.IsPrefix.trans this (List.prefix_append _ _)
        |closed o q=>rw[e] at h;obtain⟨s1,s2⟩:=w o q e;rw[s2];exact go q o s1 h
       ·rename_i i;rw[aO i];exact go t [b] (tv _) h
def wB(tabs:Bool)(r':H)(F:ah):dp Unit:=match df r' with
 |none=> .bad r'
 |some (d,q,a)=>if d.contains 10 then .bad r' else
  if tabs/\d.head?=some 9 then .bad r' else
  if a≠[] then .more [a] a (F++[(d,tabs)]) else
  if q=[] then .more [] [] (F++[(d,tabs)]) else .ok () q (F++[(d,tabs)])
theorem Y3{tabs:Bool}{r':H}{F:ah}(h:s6 (df r')):wB tabs r' F= .bad r':=by
 unfold wB;rcases h with h|⟨d,q,c,h,aD⟩
 ·rw[h]
 grind
theorem C2(tabs:Bool)(r:H)(F:ah):gS tabs r F=match bo r with
 |none=> .more [] [120] (F++[([120],tabs)])
 |some r'=>match aq r' with
  | .eof=> .more [] [120] (F++[([120],tabs)])
  | .word _ _=>wB tabs r' F
  |_=> .bad r':=rfl
theorem ar.s7(tabs:Bool):ar (gS tabs) where
 sfx {r F a r' n} h:=by
  rw[C2] at h;split at h
  ·cases h
  ·rename_i q b;split at h
   ·cases h
   ·unfold wB at h;split at h
    ·cases h
    ·rename_i d f c aD;split at h
     ·cases h
     ·split at h
      ·cases h
      ·split at h
       ·cases h
       ·split at h
        ·cases h
        ·cases h;exact(MU _ _ _ (cF _) aD).trans (ef b)
   grind
 ok {u F a r' n} v hu h o:=by
  rw[C2] at h;split at h
  ·cases h
  ·rename_i q b;have au:u≠[]:=by rintro rfl;grind[mK,aq]
   obtain⟨e,f⟩:=t_ v b hu au;have g:=hu.sfx (ef b);have i:gS tabs (u++v) F=(match aq q with
    | .eof=> .more [] [120] (F++[([120],tabs)])
    | .word _ _=>wB tabs (q++v) F
    |_=> .bad (q++v)):=by grind[C2,Fs]
   rw[i];split at h
   ·cases h
   ·rename_i p;unfold wB at h⊢;split at h
    ·cases h
    ·rename_i d f c aD;split at h
     ·cases h
     ·rename_i j;split at h
      ·cases h
      ·rename_i k;split at h
       ·cases h
       ·rename_i x;split at h
        ·cases h
        ·rename_i s;cases h;have l:c=[]:=by grind
         rw[((Y0 _ q v (cF _) g e).2 d _ c aD).2.2 l o];simp_all
   grind
 bad {u F r'} v hu h:=by
  rw[C2] at h;split at h
  ·cases h
  ·rename_i q b;have au:u≠[]:=by rintro rfl;grind[mK,aq]
   obtain⟨e,f⟩:=t_ v b hu au;have g:=hu.sfx (ef b);have i:gS tabs (u++v) F=(match aq q with
    | .eof=> .more [] [120] (F++[([120],tabs)])
    | .word _ _=>wB tabs (q++v) F
    |_=> .bad (q++v)):=by grind[C2,Fs]
   rw[i];obtain⟨A,ak⟩:=Y0 _ q v (cF _) g e;split at h
   ·cases h
   ·rename_i p;unfold wB at h;split at h
    ·grind[ef,Y3]
    ·rename_i d f c aD;split at h
     ·grind[ef,Y3]
     ·rename_i j;split at h
      ·rename_i k;cases h;refine⟨e,ef b,?_⟩;have aE:=ak5 _ r' v _ (cF _) g aD;unfold wB;cases t:df (r'++v) with
       |none=>rfl
       |some y=>
        obtain⟨m,B,C⟩:=y;have w:d<+:m:=aE _ t;simp only;split
        ·rfl
        ·have D:m.head?=some 9:=by obtain⟨z,rfl⟩:=w;grind
         grind
      grind
   ·rename_i E G;cases h;exact⟨e,ef b,rfl⟩
 deep {u F r'} v _ h:=by rw[C2] at h;grind[wB]
 nil F:=by unfold gS;rw[mK];exact .inl ⟨_,_,_,rfl⟩
structure ek{α:Type}(f:ae α):Prop where
 sfx:∀{r:H}{F:ah}{a:α}{r':H}{aG:ah},f r F= .ok a r' aG->r'<:+r
 ok:∀{u:H}{F:ah}{a:α}{r':H}{aG:ah}(v:H),dK u->f u F= .ok a r' aG->r'≠[]->f (u++v) F= .ok a (r'++v) aG
 bad:∀{u:H}{F:ah}{r':H}(v:H),dK u->u≠[]->f u F= .bad r'->r'≠[]/\r'<:+u/\f (u++v) F= .bad (r'++v)
 deep:∀{u:H}{F:ah}{r':H}(v:H),dK u->u≠[]->f u F= .deep r'->r'≠[]/\r'<:+u/\f (u++v) F= .deep (r'++v)
theorem ar.n{α:Type}{f:ae α}(h:ar f):ek f:=⟨h.sfx,h.ok,λv hu _=>h.bad v hu,λv hu _=>h.deep v hu⟩
theorem ek.bP{α:Type}:ek (bP:ae α):=⟨λh=>(by cases h),λv _ h=>(by cases h),λv _ au h=>(by cases h;exact⟨au,tv _,rfl⟩),λv _ _ h=>(by cases h)⟩
theorem ek.vj{α:Type}:ek (vj:ae α):=⟨λh=>(by cases h),λv _ h=>(by cases h),λv _ _ h=>(by cases h),λv _ au h=>(by cases h;exact⟨au,tv _,rfl⟩)⟩
theorem ek.ite{α:Type}{c:Prop}[Decidable c]{f g:ae α}(hf:ek f)(bu:ek g):ek (if c then f else g):=by grind
theorem ek.N{α β:Type}{m:ae α}{k:α->ae β}(hm:ek m)(av:∀a,ar (k a)):ek (Go.Eng.N m k):=by
 constructor
 ·intro r F b r' j h;obtain⟨a,ad,c,M,U⟩:=bY h;exact((av a).sfx U).trans (hm.sfx M)
 ·intro u F b r' j v hu h l;obtain⟨a,ad,c,M,U⟩:=bY h;by_cases e:ad=[]
  ·subst e;rcases(av a).nil c with⟨op,nd,ds,n⟩|⟨i,n⟩
   ·grind
   grind
  ·rw[aS (hm.ok v hu M e)];exact(av a).ok v (hu.sfx (hm.sfx M)) U l
 ·intro u F r' v hu au h;unfold Go.Eng.N at h⊢;split at h
  ·rename_i a ad c M;by_cases e:ad=[]
   ·subst e;rcases(av a).nil c with⟨op,nd,ds,U⟩|⟨i,U⟩<;>(grind)
   ·rw[hm.ok v hu M e];obtain⟨d,f,g⟩:=(av a).bad v (hu.sfx (hm.sfx M)) h;exact⟨d,f.trans (hm.sfx M),g⟩
  ·cases h
  ·rename_i ad M;cases h;obtain⟨d,f,g⟩:=hm.bad v hu au M;grind
  grind
 ·intro u F r' v hu au h;unfold Go.Eng.N at h⊢;split at h
  ·rename_i a ad c M;by_cases e:ad=[]
   ·subst e;rcases(av a).nil c with⟨op,nd,ds,U⟩|⟨i,U⟩<;>(grind)
   ·rw[hm.ok v hu M e];obtain⟨d,f,g⟩:=(av a).deep v (hu.sfx (hm.sfx M)) h;exact⟨d,f.trans (hm.sfx M),g⟩
  ·cases h
  ·cases h
  ·rename_i ad M;cases h;obtain⟨d,f,g⟩:=hm.deep v hu au M;grind
theorem ar.ga{α:Type}{x:H}{k:Tok->ae α}(h:∀t,t≠ .eof->ek (k t))(h0:ar (k .eof)):ar (Go.Eng.N (bV x) k):=by
 have aE:=ar.dR x
 have c:∀{u:H}{F:ah}(v:H),dK u->u≠[]->∀ad,bo u=some ad->ad≠[]/\aq ad≠ .eof/\Go.Eng.N (bV x) k u F=k (aq ad) ad F/\Go.Eng.N (bV x) k (u++v) F=k (aq ad) (ad++v) F:=by
  intro u F v hu au ad Y;obtain⟨d,g⟩:=t_ v Y hu au;refine⟨d,λh=>d (mA.1 h),?_,?_⟩
  ·exact aS (by grind[bV])
  ·have:bV x (u++v) F= .ok (aq ad) (ad++v) F:=by unfold bV;rw[g];simp only[Fs v (hu.sfx (ef Y)) d]
   grind[aS]
 constructor
 ·intro r F a r' n e;obtain⟨t,ad,f,M,U⟩:=bY e;obtain⟨b,rfl,rfl⟩:=n5 M;by_cases l:aq ad= .eof
  ·rw[l] at U;exact(h0.sfx U).trans (ef b)
  ·exact((h _ l).sfx U).trans (ef b)
 ·intro u F a r' n v hu e o;obtain⟨t,ad,f,M,U⟩:=bY e;obtain⟨b,rfl,rfl⟩:=n5 M;by_cases au:u=[]
  ·subst au;rw[mK] at b;cases b;have:=h0.sfx U;grind
  ·obtain⟨d,g,m,i⟩:=c (F:=f) v hu au ad b;rw[i];exact(h _ g).ok v (hu.sfx (ef b)) U o
 ·intro u F r' v hu e;unfold Go.Eng.N at e;split at e
  ·rename_i t ad f M;obtain⟨b,rfl,rfl⟩:=n5 M;by_cases au:u=[]
   ·subst au;rw[mK] at b;cases b;rcases h0.nil f with⟨_,_,_,h⟩|⟨_,h⟩<;>(rw[show aq []= .eof from rfl,h] at e;cases e)
   ·obtain⟨d,g,m,i⟩:=c (F:=f) v hu au ad b;rw[i];obtain⟨j,ak,a3⟩:=(h _ g).bad v (hu.sfx (ef b)) d e;exact⟨j,ak.trans (ef b),a3⟩
  ·cases e
  ·rename_i M;exact absurd M (by unfold bV;split<;>(intro h;cases h))
  grind
 ·intro u F r' v hu e;unfold Go.Eng.N at e;split at e
  ·rename_i t ad f M;obtain⟨b,rfl,rfl⟩:=n5 M;by_cases au:u=[]
   ·subst au;rw[mK] at b;cases b;rcases h0.nil f with⟨_,_,_,h⟩|⟨_,h⟩<;>(rw[show aq []= .eof from rfl,h] at e;cases e)
   ·obtain⟨d,g,m,i⟩:=c (F:=f) v hu au ad b;rw[i];obtain⟨j,ak,a3⟩:=(h _ g).deep v (hu.sfx (ef b)) d e;exact⟨j,ak.trans (ef b),a3⟩
  ·cases e
  ·cases e
  ·rename_i M;exact absurd M (by unfold bV;split<;>(intro h;cases h))
 ·intro F;have:Go.Eng.N (bV x) k [] F=k .eof [] F:=aS (by unfold bV;rw[mK];rfl);rw[this];exact h0.nil F
theorem ar.Fv{D:ae Unit}(hD:iw D)(x:H):ar (ke D x):=by
 refine ar.ga (λt a=>?_) (ar.cf x);cases t with
 |word w p=>grind[ar.word,ar.n]
 |eof=>grind
 |_=>exact ek.bP
theorem ar.jF{D:ae Unit}(hD:iw D):ar (dz D):=by
 refine ar.YW.N λo=>?_;cases o with
 |none=>simp[ar.ret]
 |some o=>exact(ar.ite (ar.s7 _) (ar.ite (ar.s7 _) (ar.Fv hD _))).N λ_=>ar.ret _
theorem ak9{o:H}(h:ff o=true):o.length≠0:=by intro h0;simp_all[m4,ff]
theorem s9{D:ae Unit}(hD:iw D){r:H}{F:ah}{r':H}{a:ah}(h:dz D r F= .ok true r' a):r'.length<r.length:=by
 obtain⟨o,ad,e,M,U⟩:=bY h;cases o with
 |none=>cases U
 |some o=>
  obtain⟨_,f,g,b,c⟩:=bY U;cases c;have i:r'.length<=ad.length:=by have vm:ar (if o=[60,60] then gS false else if o=[60,60,45] then gS true else ke D [120]):=ar.ite (ar.s7 _) (ar.ite (ar.s7 _) (ar.Fv hD _));exact(vm.sfx b).length_le
  unfold fL at M;split at M
  ·cases M
  ·rename_i q d;simp only at M;split at M
   ·rename_i j;cases M;have k:=(ef d).length_le;have ak:(q.dropWhile ch).length<=q.length:=C1.length_le;grind[ak9,SI,ch,List.length_drop]
   grind
theorem ar.nc{D:ae Unit}(hD:iw D):ar (g7 D):=by
 refine ar.rep ⟨λ_=>(ar.jF hD).N λb=>ar.ret _,λ{s r F s' r' a} h=>?_⟩ ();obtain⟨b,ad,c,M,U⟩:=bY h;cases b with
 |true=>cases U;exact s9 hD M
 |false=>cases U
theorem ar.simple{D:ae Unit}(hD:iw D)(fr:Bool):ar (g8 fr D):=by
 have he:ar (Go.Eng.N (bV []) λt=>match t with
  | .word _ _=>Go.Eng.N (cX D) λ_=>a1 (.inl ())
  | .op o=>if fr/\o=[40] then bP else a1 (.inr ())
  |_=>a1 (.inr ()):ae (Unit⊕Unit)):=by
  refine ar.ga (λt a=>?_) (ar.ret _);cases t with
  |word w p=>grind[ar.word,ar.N,ar.ret,ar.n]
  |op o=>simp[ek.ite,ek.bP,ar.ret,ar.n]
  |_=>simp[ar.ret,ar.n]
 have ay:gh (Go.Eng.N (bV []) λt=>match t with
  | .word _ _=>Go.Eng.N (cX D) λ_=>a1 (.inl ())
  | .op o=>if fr/\o=[40] then bP else a1 (.inr ())
  |_=>a1 (.inr ()):ae (Unit⊕Unit)):=by
  refine gh.MR hD (λt a c=>?_) (ju.inr _) (λw p=>⟨cX D,_,rfl,Iff.rfl,λ_=>ar.ret _⟩);cases t with
  |word w p=>grind
  |op o=>simp[gh.ite,gh.bad,gh.inr]
  |_=>simp[gh.inr]
 refine ar.rep ⟨λ_=>(ar.jF hD).N λb=>ar.ite (ar.ret _) he,λ{s r F s' r' d} h=>?_⟩ ();obtain⟨b,ad,e,M,U⟩:=bY h;cases b with
 |true=>cases U;exact s9 hD M
 |false=>
  have f:=((ar.jF hD).sfx M).length_le;by_cases au:ad=[]
  ·subst au;simp only[eQ,cA] at U;have:ju (Go.Eng.N (bV []) λt=>match t with
    | .word _ _=>Go.Eng.N (cX D) λ_=>a1 (.inl ())
    | .op o=>if fr/\o=[40] then bP else a1 (.inr ())
    |_=>a1 (.inr ()):ae (Unit⊕Unit)):=ju.dR (ju.inr _)
   exact absurd U this
  ·simp only[eQ,cA] at U;have:=ay au U;omega
structure vn(l:ea):Prop where
 ls:∀c n,ar (l.ls c n)
 pm:ar l.pm
 cp:∀t,ek (l.cp t)
 rd:ar l.rd
 dl:iw l.dl
theorem ar.exp(b:Tok->Bool)(n:Nat):ar (nJ b n):=by refine ar.ga (λt a=>?_) (by simp[cK,ar.cf]);rw[aO a];exact ek.ite (ar.dA n).n ek.bP
theorem ar.op(o:H):ar (j1 o):=ar.exp _ _
theorem ar.res(w:H):ar (cS w):=ar.exp _ _
theorem wC(d:Nat)(b:UInt8)(t:H):iu d (b::t)=(if b=39\/b=34\/b=92\/b=96\/gG (b::t) then .bad (b::t) else
  if b=40 then iu (d+1) t else
  if b=41 then match d with
   |eR+1=>iu eR t
   |0=>match t with
    |[]=> .more 1
    |c::u=>if c=41 then .ok u else .bad (b::t)
  else iu d t):=by
 rfl
theorem SM:∀(d:Nat)(r v:H),dK r->r≠[]->(∀q,iu d r= .ok q->q<:+r/\iu d (r++v)= .ok (q++v))/\(∀q,iu d r= .bad q->q≠[]/\q<:+r/\iu d (r++v)= .bad (q++v))
 |d,[],v,_,au=>absurd rfl au
 |d,b::t,v,f,au=>by
  have g:=SF v f au;simp only[fV] at g⊢;rw[wC,wC,g];split
  ·simp
  ·rename_i M
   have go:∀a,(∀q,iu a t= .ok q->q<:+b::t/\iu a (t++v)= .ok (q++v))/\(∀q,iu a t= .bad q->q≠[]/\q<:+b::t/\iu a (t++v)= .bad (q++v)):=by
    intro a;by_cases h:t=[]
    ·grind[iu]
    ·obtain⟨i,j⟩:=SM a t v f.tail h;grind
   split
   ·grind
   ·split
    ·rename_i k;cases d with
     |succ a=>grind
     |zero=>
      cases t with
      |nil=>simp
      |cons c u=>
       simp only[fV];split
       ·refine⟨λq e=>?_,λq e=>(by cases e)⟩;cases e;exact⟨(dL _ _).trans (dL _ _),rfl⟩
       simp
    grind
theorem SN{b:Tok->Bool}{n:Nat}(au:0<n){r:H}{F:ah}{r':H}{a:ah}(h:nJ b n r F= .ok () r' a):r'.length<r.length:=by
 obtain⟨t,ad,d,M,U⟩:=bY h;obtain⟨c,rfl,rfl⟩:=n5 M;have ay:=xH (ef c);split at U
 ·cases U
 ·rename_i he;have:ad≠[]:=λe=>he (mA.2 e);split at U
  ·cases U;grind[List.length_pos_iff,List.length_drop]
  ·cases U
theorem Y5(t:H):bo (10::t)=some (10::t):=by simp[nK,fJ]
theorem Y6{t:H}{F:ah}{b:Bool}{r':H}{e:ah}(h:c2 (10::t) F= .ok b r' e):r'.length<(10::t).length:=by
 unfold c2 at h;rw[qM] at h;split at h
 ·rename_i s1 ad f M;have g:=iX.lines.lt M;rw[bc g] at h;have:=(ar.rep iX.lines s1).sfx h;grind
 ·rename_i a M;obtain⟨j,ad,f,U,c⟩:=bY M;obtain⟨d,rfl,rfl⟩:=n5 U;rw[Y5] at d;cases d;simp only[aq,cK] at c;obtain⟨_,_,_,_,i⟩:=bY c;cases i
 all_goals cases h
theorem wD{r:H}(h:aq r= .line):∃t,r=10::t:=by
 cases r with
 |nil=>grind[aq]
 |cons b t=>grind[aq]
section
variable{fr:Bool}{l:ea}(ay:vn l)
include ay
theorem ar.body(x:H):ar (ji l x):=((ar.res _).aM _).N λ_=>((ay.ls _ _).aM _).N λ_=>ar.res _
theorem ar.cond:ar (rC l):=by
 refine ar.rep ⟨λ_=>((ay.ls _ _).aM _).N λ_=>(ar.res _).N λ_=>((ay.ls _ _).aM _).N λ_=>(ar.dR _).N λt=>ar.ite ((ar.res _).N λ_=>ar.ret _) (ar.ite ((ar.res _).N λ_=>((ay.ls _ _).aM _).N λ_=>(ar.res _).N λ_=>ar.ret _) ((ar.res _).N λ_=>ar.ret _)),λ{s r F s' r' f} h=>?_⟩ ();obtain⟨_,ad,g,M,h⟩:=bY h;obtain⟨_,i,j,U,h⟩:=bY h;obtain⟨_,k,m,d,h⟩:=bY h;obtain⟨t,n,o,e,h⟩:=bY h;have p:=((ay.ls _ _).sfx (h3.1 M)).length_le;have ak:=((ar.res _).sfx U).length_le;have a3:=((ay.ls _ _).sfx (h3.1 d)).length_le;have q:=((ar.dR _).sfx e).length_le;split at h
 ·obtain⟨_,b,c,a,h⟩:=bY h;cases h;have:=SN (by decide) a;omega
 ·split at h
  ·obtain⟨_,b,c,a,h⟩:=bY h;obtain⟨_,u,v,w,h⟩:=bY h;obtain⟨_,x,y,z,h⟩:=bY h;cases h
  ·obtain⟨_,b,c,a,h⟩:=bY h;cases h
omit ay in
theorem ar.words{D:ae Unit}(hD:iw D):ar (qa D):=by
 refine ar.rep (iX.of (λ_=>ar.ga (λt a=>?_) (ar.cf _)) (λ_=>gh.MR hD (λt a b=>?_) (ju.more _) (λw p=>⟨cX D,_,rfl,Iff.rfl,λ_=>ar.ret _⟩)) λ_=>ju.dR (ju.more _)) ()
 ·cases t with
  |eof=>grind
  |word w p=>grind[ar.word,ar.N,ar.ret,ar.n]
  |line=>simp[ar.ret,ar.n]
  |op o=>exact ek.ite ((ar.dA _).N λ_=>ar.ret _).n ek.bP
 ·cases t with
  |eof=>grind
  |word w p=>grind
  |line=>simp[gh.inr]
  |op o=>exact gh.ite (by intro r F s r' c d e;obtain⟨_,_,_,_,e⟩:=bY e;cases e) gh.bad
theorem ar.for_{D:ae Unit}(hD:iw D):ar (qb l D):=by
 have a:ar (Go.Eng.N (bV []) λt=>if t= .op [59] then Go.Eng.N (b6 1) λ_=>Go.Eng.N c2 λ_=>a1 () else
   Go.Eng.N c2 λ_=>Go.Eng.N (bV []) λt=>if cG t fK then Go.Eng.N (b6 2) λ_=>Go.Eng.N (qa D) λ_=>Go.Eng.N c2 λ_=>a1 () else a1 ()):=
  (ar.dR _).N λt=>ar.ite ((ar.dA _).N λ_=>ar.lines.N λ_=>ar.ret _) (ar.lines.N λ_=>(ar.dR _).N λt=>ar.ite ((ar.dA _).N λ_=>(ar.words hD).N λ_=>ar.lines.N λ_=>ar.ret _) (ar.ret _))
 refine ar.ga (λt b=>?_) (ar.cf _);cases t with
 |eof=>grind
 |word w p=>
  cases p with
  |true=>exact ek.ite ((ar.dA _).N λ_=>(a.aM _).N λ_=>ar.body ay _).n ek.bP
  |false=>exact ek.bP
 |_=>exact ek.bP
omit ay in
theorem SP{D:ae Unit}(hD:iw D):iX (λ(_:Unit)=>Go.Eng.N (bV [120,41]) λt=>match t with
 | .eof=>cf [120,41]
 | .word _ _=>Go.Eng.N ((cX D).aM [41]) λ_=>Go.Eng.N (bV [41]) λt=>match t with
   | .eof=>cf [41]
   | .op o=>if o=[124] then Go.Eng.N (b6 1) λ_=>a1 (.inl ()) else if o=[41] then Go.Eng.N (b6 1) λ_=>a1 (.inr ()) else bP
   |_=>bP
 |_=>bP:Unit->ae (Unit⊕Unit)):=by
 have U:ar (Go.Eng.N (bV [41]) λt=>match t with
  | .eof=>cf [41]
  | .op o=>if o=[124] then Go.Eng.N (b6 1) λ_=>a1 (.inl ()) else if o=[41] then Go.Eng.N (b6 1) λ_=>a1 (.inr ()) else bP
  |_=>bP:ae (Unit⊕Unit)):=by
  refine ar.ga (λt a=>?_) (ar.cf _);cases t with
  |eof=>grind
  |op o=>exact ek.ite ((ar.dA _).N λ_=>ar.ret _).n (ek.ite ((ar.dA _).N λ_=>ar.ret _).n ek.bP)
  |_=>exact ek.bP
 refine iX.of (λ_=>ar.ga (λt a=>?_) (ar.cf _)) (λ_=>gh.MR hD (λt a b=>?_) (ju.more _) (λw p=>⟨(cX D).aM [41],_,rfl,h3,λ_=>U⟩)) λ_=>ju.dR (ju.more _)
 ·cases t with
  |eof=>grind
  |word w p=>exact(((ar.word hD).aM _).N λ_=>U).n
  |_=>exact ek.bP
 ·cases t with
  |eof=>exact absurd rfl a
  |word w p=>exact absurd rfl (b w p)
  |_=>exact gh.bad
omit ay in
theorem ar.xK{D:ae Unit}(hD:iw D):ar (lJ D):=ar.rep (SP hD) ()
omit ay in
theorem SQ{D:ae Unit}(hD:iw D){r:H}{F:ah}{r':H}{j:ah}(h:lJ D r F= .ok () r' j):r'.length<r.length:=by
 unfold lJ at h;rw[qM] at h;split at h
 ·rename_i s1 ad k M;have l:=(SP hD).lt (s:=()) M;rw[bc l] at h;have:=((ar.rep (SP hD) s1).sfx h).length_le;omega
 ·rename_i a M;cases h;obtain⟨t,ad,k,U,d⟩:=bY M;obtain⟨g,rfl,rfl⟩:=n5 U;have a0:=(ef g).length_le;cases e:aq ad with
  |word w p=>
   rw[e] at d;obtain⟨_,A,B,m,n⟩:=bY d
   have q:∃b t,ad=b::t:=by
    cases ad with
    |nil=>grind[aq]
    |cons b t=>simp
   obtain⟨b,t,rfl⟩:=q;have u:=I0 ⟨w,p,e⟩ (YV _ _ (cF _) _ _ g);have C:=wy hD (by simp) u (h3.1 m);obtain⟨E,v,G,x,c⟩:=bY n;obtain⟨y,rfl,rfl⟩:=n5 x;have ak:=(ef y).length_le;cases i:aq v with
   |op o=>
    rw[i] at c;simp only at c;split at c
    ·obtain⟨_,_,_,_,f⟩:=bY c;cases f
    ·split at c
     ·obtain⟨_,I,J,f,z⟩:=bY c;cases z;have:=((ar.dA 1).sfx f).length_le;omega
     ·cases c
   |_=>rw[i] at c;cases c
  |_=>rw[e] at d;cases d
 all_goals cases h
theorem ar.items{D:ae Unit}(hD:iw D):ar (n4 l D):=by
 have a:ar (Go.Eng.N (lJ D) λ_=>Go.Eng.N (l.ls .item true) λ_=>Go.Eng.N (bV []) λt=>if t= .op [59,59] then Go.Eng.N (b6 2) λ_=>a1 (.inl ()) else a1 (.inl ()):ae (Unit⊕Unit)):=
  (ar.xK hD).N λ_=>(ay.ls _ _).N λ_=>(ar.dR _).N λt=>ar.ite ((ar.dA _).N λ_=>ar.ret _) (ar.ret _)
 refine ar.rep ⟨λ_=>ar.lines.N λ_=>(ar.dR _).N λt=>ar.ite (ar.cf _) (ar.ite ((ar.dA _).N λ_=>ar.ret _) ((ar.ite (ar.dA _) (ar.ret _)).N λ_=>a)),λ{s r F s' r' g} h=>?_⟩ ();obtain⟨_,ad,i,M,h⟩:=bY h;obtain⟨t,j,k,U,h⟩:=bY h;have m:=(ar.lines.sfx M).length_le;have ak:=((ar.dR _).sfx U).length_le;split at h
 ·cases h
 ·split at h
  ·obtain⟨_,_,_,_,h⟩:=bY h;cases h
  ·obtain⟨_,n,o,b,h⟩:=bY h;have a3:=((ar.ite (ar.dA 1) (ar.ret ())).sfx b).length_le;obtain⟨_,p,q,c,h⟩:=bY h;have u:=SQ hD c;obtain⟨_,v,w,d,h⟩:=bY h;have x:=((ay.ls _ _).sfx d).length_le;obtain⟨_,y,z,e,h⟩:=bY h;have A:=((ar.dR _).sfx e).length_le;split at h
   ·obtain⟨_,B,C,f,h⟩:=bY h;cases h;have:=((ar.dA 2).sfx f).length_le;omega
   ·cases h;omega
omit ay in
theorem ar.ak_{α β:Type}{m:ae α}{k:α->ae β}(hm:ar m)(bf:∀{r F a r' f},m r F= .ok a r' f->r'≠[])(av:∀a,ek (k a)):ar (Go.Eng.N m k):=by
 constructor
 ·intro r F b r' f h;obtain⟨a,ad,g,M,U⟩:=bY h;exact((av a).sfx U).trans (hm.sfx M)
 ·intro u F b r' f v hu h i;obtain⟨a,ad,g,M,U⟩:=bY h;rw[aS (hm.ok v hu M (bf M))];exact(av a).ok v (hu.sfx (hm.sfx M)) U i
 ·intro u F r' v hu h;unfold Go.Eng.N at h⊢;split at h
  ·rename_i a ad g M;rw[hm.ok v hu M (bf M)];obtain⟨c,d,e⟩:=(av a).bad v (hu.sfx (hm.sfx M)) (bf M) h;exact⟨c,d.trans (hm.sfx M),e⟩
  ·cases h
  ·rename_i ad M;cases h;obtain⟨c,d,e⟩:=hm.bad v hu M;grind
  grind
 ·intro u F r' v hu h;unfold Go.Eng.N at h⊢;split at h
  ·rename_i a ad g M;rw[hm.ok v hu M (bf M)];obtain⟨c,d,e⟩:=(av a).deep v (hu.sfx (hm.sfx M)) (bf M) h;exact⟨c,d.trans (hm.sfx M),e⟩
  ·cases h
  ·cases h
  ·rename_i ad M;cases h;obtain⟨c,d,e⟩:=hm.deep v hu M;grind
 ·intro F;rcases hm.nil F with⟨op,nd,ds,h⟩|⟨a,h⟩
  ·left;unfold Go.Eng.N;rw[h];exact⟨_,_,_,rfl⟩
  grind
theorem ar.xL{D:ae Unit}(hD:iw D):ar (rD l D):=by
 have M:ar (Go.Eng.N (cX D) λ_=>Go.Eng.N c2 λ_=>Go.Eng.N (bV []) λt=>if t= .eof then Go.Eng.cf [] else a1 t):=
  (ar.word hD).N λ_=>ar.lines.N λ_=>(ar.dR _).N λt=>ar.ite (ar.cf _) (ar.ret _)
 refine ar.ga (λt f=>?_) (ar.cf _);cases t with
 |eof=>grind
 |word w p=>
  refine(ar.ak_ (M.aM _) (λ{r F a r' g} h=>?_) λt=>ek.ite ((ar.dA _).N λ_=>(ar.items ay hD).aM _).n ek.bP).n;obtain⟨_,i,j,U,c⟩:=bY (h3.1 h);obtain⟨_,k,m,n,d⟩:=bY c;obtain⟨t,o,q,e,b⟩:=bY d;obtain⟨s,rfl,rfl⟩:=n5 e;split at b
  ·cases b
  ·rename_i he;cases b;grind[mA]
 |_=>exact ek.bP
theorem ek.kind(t:Tok):ek (gK l t):=by
 cases t with
 |op o=>exact((ar.dA _).N λ_=>((ay.ls _ _).aM _).N λ_=>ar.op _).n
 |word w p=>exact((ar.dA _).N λ_=>ar.ite (((ay.ls _ _).aM _).N λ_=>ar.res _) (ar.ite (ar.cond ay) (ar.ite (ar.for_ ay ay.dl) (ar.ite (ar.xL ay ay.dl) (((ay.ls _ _).aM _).N λ_=>ar.body ay _))))).n
 |_=>exact ek.bP
omit ay in
theorem ek.named{α:Type}{m:ae α}(hm:ek m)(x:H):ek (m.named x):=by
 have d:∀r F q,m.named x r F= .bad q↔m r F= .bad q:=by grind[ae.named]
 have aD:∀r F q,m.named x r F= .deep q↔m r F= .deep q:=by grind[ae.named]
 exact⟨λh=>hm.sfx (CZ.1 h),λv hu h e=>CZ.2 (hm.ok v hu (CZ.1 h) e),
  λ{u F r'} v hu au h=>(by obtain⟨a,b,c⟩:=hm.bad v hu au ((d _ _ _).1 h);grind),
  λ{u F r'} v hu au h=>(by obtain⟨a,b,c⟩:=hm.deep v hu au ((aD _ _ _).1 h);grind)⟩
end
section
variable{fr:Bool}{lo:Option ea}(ku:∀l∈lo,vn l)
include ku
theorem ek.cp(t:Tok):ek (s4 lo t):=by
 cases lo with
 |none=>exact ek.vj
 |some l=>exact(ek.kind (ku l rfl) t).named _
theorem ek.function:ek (lk fr lo):=by
 cases lo with
 |none=>exact ek.vj
 |some l=>have ay:=ku l rfl;unfold lk;simp only;refine ek.ite (ek.named ?_ _) ek.vj;refine((ar.dA _).N λ_=>ar.ga (λt a=>?_) (by simp[cK,ar.cf])).n;rw[aO a];refine ek.ite ?_ ek.bP;refine((ar.dA _).N λ_=>(ar.lines.aM _).N λ_=>ar.ga (λt a=>?_) (by simp[cK,ar.cf])).n;rw[aO a];exact ek.ite ((ay.cp t).N λ_=>ar.ite ay.rd (ar.ret _)) ek.bP
omit ku in
theorem AZ:∀(d:Nat)(r q:H),iu d r= .ok q->q<:+r
 |d,[],q,h=>by grind[iu]
 |d,b::t,q,h=>by
  rw[wC] at h;split at h
  ·cases h
  ·split at h
   ·exact(AZ _ t q h).trans (dL _ _)
   ·split at h
    ·cases d with
     |succ a=>exact(AZ a t q h).trans (dL _ _)
     |zero=>
      cases t with
      |nil=>cases h
      |cons c u=>
       simp only at h;split at h
       ·cases h;exact(dL _ _).trans (dL _ _)
       ·cases h
    ·exact(AZ d t q h).trans (dL _ _)
omit ku in
theorem ar.n3:ar n3:=by
 constructor
 ·grind[Go.Eng.n3,AZ]
 ·intro u F a r' e v hu h f;by_cases au:u=[]
  ·subst au;cases h
  ·unfold Go.Eng.n3 at h⊢;split at h
   ·simp_all[SM]
   ·cases h
   grind
 ·intro u F r' v hu h;by_cases au:u=[]
  ·subst au;cases h
  ·unfold Go.Eng.n3 at h⊢;split at h
   ·cases h
   ·cases h
   ·rename_i q d;cases h;obtain⟨a,b,c⟩:=(SM 0 u v hu au).2 _ d;grind
 ·grind[Go.Eng.n3]
 ·intro F;exact .inl ⟨_,_,_,rfl⟩
omit ku in
theorem ar.SS{o:H}(b:(10:UInt8)∉o)(i:o≠[]){α:Type}{f g:ae α}(hf:ek f)(bu:ar g):ar (λr F=>if o.isPrefixOf r then f r F else g r F):=by
 have h0:o.isPrefixOf ([]:H)=false:=by grind
 constructor
 ·intro r F a r' e h;split at h
  ·exact hf.sfx h
  ·exact bu.sfx h
 ·intro u F a r' e v hu h d;by_cases au:u=[]
  ·subst au;simp only[h0] at h;have:=bu.sfx h;grind
  ·rw[MQ v b hu au];split at h
   ·rename_i az;rw[bc az];exact hf.ok v hu h d
   ·rename_i az;rw[aO az];exact bu.ok v hu h d
 ·intro u F r' v hu h;by_cases au:u=[]
  ·subst au;simp only[h0] at h;rcases bu.nil F with⟨_,_,_,c⟩|⟨_,c⟩<;>(grind)
  ·rw[MQ v b hu au];split at h
   ·rename_i az;rw[bc az];exact hf.bad v hu au h
   ·rename_i az;rw[aO az];exact bu.bad v hu h
 ·intro u F r' v hu h;by_cases au:u=[]
  ·subst au;simp only[h0] at h;rcases bu.nil F with⟨_,_,_,c⟩|⟨_,c⟩<;>(grind)
  ·rw[MQ v b hu au];split at h
   ·rename_i az;rw[bc az];exact hf.deep v hu au h
   ·rename_i az;rw[aO az];exact bu.deep v hu h
 ·intro F;simp only[h0];exact bu.nil F
omit ku in
theorem ek.s3{n:Nat}{f:ea->ae Unit}(hf:∀l∈lo,ar (f l)):ek (s3 lo n f):=by
 cases lo with
 |none=>exact ek.vj
 |some l=>exact((ar.dA _).N λ_=>hf l rfl).n
theorem ar.ua:ar (dG lo):=by refine ar.SS (by decide) (by decide) ((ar.dA 3).N λ_=>ar.n3).n ?_;refine ar.SS (by decide) (by decide) (ek.s3 λl h=>((((ku l h).ls _ _).aM _).named _).N λ_=>ar.op _) ?_;refine ar.SS (by decide) (by decide) (ek.s3 λl h=>(ku l h).pm.named _) ?_;exact ar.dA 1
theorem C3:iw (dG lo):=by
 refine⟨ar.ua ku,λ{r F r' a} e h=>?_⟩;have g:r≠[]:=by rintro rfl;grind[gG]
 have b:∀n (f:ea->ae Unit),(∀l∈lo,ar (f l))->0<n->s3 lo n f r F= .ok () r' a->r'.length<r.length:=by
  intro n f hf au h;cases lo with
  |none=>cases h
  |some l=>have c:Go.Eng.N (b6 n) (λ_=>f l) r F= .ok () r' a:=h;obtain⟨_,ad,d,M,U⟩:=bY c;cases M;have:=((hf l rfl).sfx U).length_le;grind[List.length_pos_iff,List.length_drop]
 unfold dG at h;split at h
 ·obtain⟨_,ad,d,M,U⟩:=bY h;cases M;have:=(ar.n3.sfx U).length_le;grind
 ·split at h
  ·exact b 2 _ (λl h=>((((ku l h).ls _ _).aM _).named _).N λ_=>ar.op _) (by decide) h
  ·split at h
   ·exact b 2 _ (λl h=>(ku l h).pm.named _) (by decide) h
   grind[List.length_pos_iff,List.length_drop]
theorem ar.command{D:ae Unit}(hD:iw D):ar (fG fr lo D):=by
 refine ar.ga (λt a=>?_) (by simp[cK,ar.cf]);rw[aO a];refine ek.ite ((ek.cp ku t).N λ_=>ar.nc hD) ?_;cases t with
 |eof=>grind
 |line=>exact ek.bP
 |op o=>exact ek.ite ((ar.jF hD).N λ_=>ar.simple hD _).n ek.bP
 |word w p=>
  refine ek.ite ek.bP ((ar.jF hD).N λb=>ar.ite (ar.simple hD _) ((ar.word hD).N λ_=>ar.ite (ar.ga (λt a=>?_) ?_) (ar.simple hD _))).n
  ·exact ek.ite ((ek.function ku).N λ_=>ar.ite (ar.ret _) (ar.nc hD)) (ar.simple hD _).n
  simp_all[aO,ar.simple]
omit ku in
theorem ar.pipe{dm:ae Unit}(az:ar dm):ar (fu dm):=by
 have av:ar (Go.Eng.N (c2.aM [120]) λ_=>Go.Eng.N dm λ_=>a1 (.inl ()):ae (Unit⊕Unit)):=(ar.lines.aM _).N λ_=>az.N λ_=>ar.ret _;refine(ar.dR _).N λt=>(ar.ite (ar.dA _) (ar.ret _)).N λ_=>az.N λ_=>ar.rep (iX.of (λ_=>(ar.dR _).N λt=>ar.ite ((ar.dA _).N λ_=>av) (ar.ret _)) (λ_=>gh.dR (λt a=>gh.ite (gh.C0 (nb.dA 0) λ_=>av) (gh.inr _)) ?_) (λ_=>ju.dR ?_)) ()
 ·simp[cA,ju.inr]
 simp[cA,ju.inr]
omit ku in
theorem ar.qc{a:ae Unit}(az:ar a):ar (h2 a):=by
 have av:ar (Go.Eng.N (c2.aM [120]) λ_=>Go.Eng.N a λ_=>a1 (.inl ()):ae (Unit⊕Unit)):=(ar.lines.aM _).N λ_=>az.N λ_=>ar.ret _;refine az.N λ_=>ar.rep (iX.of (λ_=>(ar.dR _).N λt=>ar.ite ((ar.dA _).N λ_=>av) (ar.ret _)) (λ_=>gh.dR (λt b=>gh.ite (gh.C0 (nb.dA 1) λ_=>av) (gh.inr _)) ?_) (λ_=>ju.dR ?_)) ()
 ·simp[or_self,cA,ju.inr]
 simp[or_self,cA,ju.inr]
end
def hU(c:Ctx)(n:Nat)(t:Tok):ae (Nat⊕Nat):=match t with
    | .eof=>a1 (.inl (n+1))
    | .line=>N c2 λ_=>a1 (.inl (n+1))
    | .word _ _=>bP
    | .op o=>if o=[59]\/o=[38] then N (b6 1) λ_=>N c2 λ_=>a1 (.inl (n+1)) else if d_ c t then a1 (.inr (n+1)) else bP
def dS(ao:ae Unit)(c:Ctx)(none:Bool)(n:Nat):ae (Nat⊕Nat):=N (bV (if none||n>0 then [] else [120])) λt=>
 if t= .eof then(if c= .text then a1 (.inr n) else cf (if none||n>0 then [] else [120])) else if(none||n>0)&&d_ c t then a1 (.inr n) else
 N ao λ_=>N (bV []) (hU c n)
theorem o0(ao:ae Unit)(c:Ctx)(none:Bool):oZ ao c none=N (c2.aM (if none then [] else [120])) λ_=>b8 (dS ao c none) 0:=rfl
theorem ar.ala(c:Ctx)(n:Nat):ar (Go.Eng.N (bV []) (hU c n)):=by
 refine ar.ga (λt a=>?_) (ar.ret _);cases t with
 |eof=>grind
 |line=>exact(ar.lines.N λ_=>ar.ret _).n
 |word w p=>exact ek.bP
 |op o=>exact ek.ite ((ar.dA _).N λ_=>ar.lines.N λ_=>ar.ret _).n (ek.ite (ar.ret _).n ek.bP)
theorem iX.round{ao:ae Unit}(g:ar ao)(c:Ctx)(none:Bool):iX (dS ao c none):=by
 refine⟨λn=>(ar.dR _).N λt=>ar.ite (ar.ite (ar.ret _) (ar.cf _)) (ar.ite (ar.ret _) (g.N λ_=>ar.ala c n)),λ{n r F y r' z} h=>?_⟩;obtain⟨t,ad,A,M,U⟩:=bY h;obtain⟨i,rfl,rfl⟩:=n5 M;have B:=(ef i).length_le;split at U
 ·split at U<;>cases U
 ·rename_i bf;have C:0<ad.length:=OR.2 λe=>bf (mA.2 e);split at U
  ·cases U
  ·obtain⟨_,D,E,j,k⟩:=bY U;have ak:=(g.sfx j).length_le;obtain⟨t,l,G,m,a⟩:=bY k;obtain⟨q,rfl,rfl⟩:=n5 m;have a3:=(ef q).length_le;cases b:aq l with
   |eof=>rw[b] at a;cases a;grind[mA]
   |line=>rw[b] at a;obtain⟨t,rfl⟩:=wD b;obtain⟨_,s,u,d,f⟩:=bY a;cases f;have:=Y6 d;omega
   |word w p=>rw[b] at a;cases a
   |op o=>
    rw[b] at a;unfold hU at a;simp only at a;split at a
    ·obtain⟨_,s,u,d,f⟩:=bY a;cases d;obtain⟨_,H,I,v,x⟩:=bY f;cases x;have J:=(ar.lines.sfx v).length_le;grind
    ·split at a<;>cases a
theorem ar.list{ao:ae Unit}(a:ar ao)(c:Ctx)(none:Bool):ar (oZ ao c none):=by rw[o0];exact(ar.lines.aM _).N λ_=>ar.rep (iX.round a c none) 0
theorem Y8{fr:Bool}{lo:Option ea}(ku:∀l∈lo,vn l)(b:Bool):vn {ls:=oZ (h2 (fu (fG fr lo (dG lo)))),pm:=rA (dG lo),cp:=s4 lo,rd:=g7 (dG lo),dl:=dG lo,has:=b}:=
 have hD:=C3 ku
 ⟨λc n=>ar.list (ar.qc (ar.pipe (ar.command ku hD))) c n,ar.param hD,ek.cp ku,ar.nc hD,hD⟩
theorem rF(fr:Bool):∀n,vn (aU fr n)
 |0=>Y8 (λl h=>by cases h) false
 |n+1=>Y8 (λl h=>by cases h;exact rF fr n) true
def fv{α:Type}(f:ae α):Prop:=∀⦃u:H⦄ ⦃F:ah⦄ ⦃a:α⦄ ⦃r':H⦄ ⦃b:ah⦄,dK u->u≠[]->f u F= .ok a r' b->r'≠[]
def NE{α:Type}(f:ae α):Prop:=∀⦃u:H⦄ ⦃F:ah⦄ ⦃a:α⦄ ⦃r':H⦄ ⦃b:ah⦄,dK u->f u F= .ok a r' b->r'≠[]
theorem NE.k{α:Type}{f:ae α}(h:NE f):fv f:=λ_ _ _ _ _ hu _ e=>h hu e
theorem NE.pv{α β:Type}{m:ae α}{k:α->ae β}(c:ar m)(hm:NE m)(av:∀a,fv (k a)):NE (N m k):=by intro u F b r' d hu h;obtain⟨a,ad,e,M,U⟩:=bY h;exact av a (hu.sfx (c.sfx M)) (hm hu M) U
theorem NE.lZ{α β:Type}{m:ae α}{k:α->ae β}(c:ar m)(av:∀a,NE (k a)):NE (N m k):=by intro u F b r' d hu h;obtain⟨a,ad,e,M,U⟩:=bY h;exact av a (hu.sfx (c.sfx M)) U
theorem fv.N{α β:Type}{m:ae α}{k:α->ae β}(c:ar m)(hm:fv m)(av:∀a,fv (k a)):fv (Go.Eng.N m k):=by intro u F b r' d hu au h;obtain⟨a,ad,e,M,U⟩:=bY h;exact av a (hu.sfx (c.sfx M)) (hm hu au M) U
theorem fv.ret{α:Type}(a:α):fv (a1 a):=by intro u F b r' c hu au h;cases h;exact au
theorem NE.more{α:Type}(x:H):NE (cf x:ae α):=by intro u F b r' a hu h;cases h
theorem NE.bad{α:Type}:NE (bP:ae α):=by intro u F b r' a hu h;cases h
theorem NE.deep{α:Type}:NE (vj:ae α):=by intro u F b r' a hu h;cases h
theorem fv.ite{α:Type}{c:Prop}[Decidable c]{f g:ae α}(hf:fv f)(bu:fv g):fv (if c then f else g):=by grind
theorem NE.ite{α:Type}{c:Prop}[Decidable c]{f g:ae α}(hf:NE f)(bu:NE g):NE (if c then f else g):=by grind
theorem NE.aM{α:Type}{m:ae α}(h:NE m)(x:H):NE (m.aM x):=λ_ _ _ _ _ hu e=>h hu (h3.1 e)
theorem NE.named{α:Type}{m:ae α}(h:NE m)(x:H):NE (m.named x):=λ_ _ _ _ _ hu e=>h hu (CZ.1 e)
theorem fv.dR(x:H):fv (bV x):=by intro u F t r' a hu au h;obtain⟨M,_,_⟩:=n5 h;exact(t_ [] M hu au).1
theorem NE.ga{α:Type}{x:H}{k:Tok->ae α}(h:∀t r,t≠ .eof->dK r->aq r=t->∀{F a r' c},k t r F= .ok a r' c->r'≠[])(h0:NE (k .eof)):NE (N (bV x) k):=by
 intro u F b r' c hu e;obtain⟨t,ad,i,M,U⟩:=bY e;obtain⟨d,rfl,rfl⟩:=n5 M;have f:=hu.sfx (ef d);by_cases g:aq ad= .eof
 ·rw[g] at U;exact h0 f U
 grind
theorem MW{o r:H}(a:(10:UInt8)∉o)(aE:o<+:r)(b:dK r)(au:r≠[]):r.drop o.length≠[]:=by obtain⟨t,rfl⟩:=aE;rw[oN];rintro rfl;grind[YY]
theorem alb{r:H}:bs r∈kd\/bs r=[]:=by
 unfold bs;cases h:kd.find? (λo=>o.isPrefixOf r) with
 |none=>simp
 |some o=>grind
theorem Y9{r:H}:(10:UInt8)∉bs r:=by
 rcases alb (r:=r) with h|h
 ·have:∀o∈kd,(10:UInt8)∉o:=by decide
  grind
 grind
theorem h4{r o:H}(h:aq r= .op o):o=bs r/\o<+:r/\(10:UInt8)∉o/\o≠[]:=by
 cases r with
 |nil=>grind[aq]
 |cons b t=>
  simp only[aq] at h;split at h
  ·cases h
  ·split at h
   ·rename_i M;cases h;exact⟨rfl,SJ,Y9,M⟩
   grind
theorem Fx:∀(r w:H),dc r=(w,true)->w<+:r/\(10:UInt8)∉w
 |[],w,h=>by grind[dc]
 |b::t,w,h=>by
  rw[dc] at h;split at h
  ·grind
  ·rename_i d;split at h
   ·cases h
   ·split at h
    ·rename_i w' a;cases h;obtain⟨c,e⟩:=Fx t w' a;refine⟨List.cons_prefix_cons.2 ⟨rfl,c⟩,?_⟩;simp only[kT,xa];grind[Fq]
    grind
theorem qQ{r w:H}(h:aq r= .word w true):w<+:r/\(10:UInt8)∉w:=by
 cases r with
 |nil=>grind[aq]
 |cons b t=>grind[aq,Tok.word.injEq,Fx]
theorem NE.exp{b:Tok->Bool}{n:Nat}(h:∀r t,dK r->aq r=t->b t=true->r.drop n≠[]):NE (nJ b n):=by
 refine NE.ga (λt r c d he {F a r' f} e=>?_) ?_
 ·rw[aO c] at e;split at e
  ·rename_i g;cases e;grind
  ·cases e
 ·rw[bc rfl];exact NE.more _
theorem NE.op(o:H):NE (j1 o):=by
 refine NE.exp λr t a he c=>?_;have:t= .op o:=by grind
 subst this;obtain⟨M,U,b,d⟩:=h4 he;exact MW b U a (by grind)
theorem NE.res(w:H):NE (cS w):=by
 refine NE.exp λr t a he b=>?_;have:t= .word w true:=by grind[cG]
 subst this;obtain⟨M,U⟩:=qQ he;exact MW U M a (by rintro rfl;grind[aq])
theorem MX{σ α:Type}{f:σ->ae (σ⊕α)}(hf:iX f)(P:H->Prop)(Q:H->Prop)(M:∀s r F s' r' b,P r->f s r F= .ok (.inl s') r' b->P r')(U:∀s r F a r' b,P r->f s r F= .ok (.inr a) r' b->Q r'):
  ∀(n:Nat)(s:σ)(r:H)(F:ah)(a:α)(r':H)(b:ah),r.length<=n->P r->b8 f s r F= .ok a r' b->Q r':=by
 intro n;induction n with
 |zero=>grind[qM]
 |succ n c=>intro s r F a r' b au aE h;rw[qM] at h;grind
theorem NE.word{D:ae Unit}(hD:iw D):NE (cX D):=by
 intro u F a r' b hu h;refine MX (iX.word hD) (λ_=>True) (λr=>r≠[]) (λ_ _ _ _ _ _ _ _=>trivial) ?_ _ _ _ _ _ _ _ (cF _) trivial h;intro s r F a r' b _ e;split at e
 ·cases e
 ·split at e
  ·grind
  ·obtain⟨_,_,_,_,e⟩:=bY e;cases e
theorem NE.s7(tabs:Bool):NE (gS tabs):=by intro u F a r' b hu h;grind[C2,wB]
theorem NE.Fv{D:ae Unit}(hD:iw D)(x:H):NE (ke D x):=by
 refine NE.ga (λt r c b he {F a r' d} e=>?_) (NE.more x);cases t with
 |eof=>grind
 |word w p=>exact NE.word hD b e
 |_=>cases e
theorem fv.jF{D:ae Unit}(hD:iw D):fv (dz D):=by
 intro u F a r' f hu au h;obtain⟨o,ad,g,M,U⟩:=bY h;cases o with
 |none=>
  cases U;unfold fL at M;split at M
  ·cases M
  ·rename_i q b;simp only at M;split at M
   ·cases M
   ·cases M;exact(t_ [] b hu au).1
 |some o=>obtain⟨_,i,j,c,d⟩:=bY U;cases d;have e:=hu.sfx (ar.YW.sfx M);have:NE (if o=[60,60] then gS false else if o=[60,60,45] then gS true else ke D [120]):=NE.ite (NE.s7 _) (NE.ite (NE.s7 _) (NE.Fv hD _));exact this e c
theorem alc{D:ae Unit}(hD:iw D):iX (λ(_:Unit)=>N (dz D) λb=>a1 (if b then .inl () else .inr ()):Unit->ae (Unit⊕Unit)):=by
 refine⟨λ_=>(ar.jF hD).N λb=>ar.ret _,λ{s r F s' r' a} h=>?_⟩;obtain⟨b,ad,c,M,U⟩:=bY h;cases b with
 |true=>cases U;exact s9 hD M
 |false=>cases U
theorem fv.rep{σ α:Type}{f:σ->ae (σ⊕α)}(hf:iX f)(av:∀s,fv (f s))(s:σ):fv (b8 f s):=by intro u F a r' b hu au h;have:=MX hf (λr=>dK r/\r≠[]) (λr=>r≠[]) (λs r F s' r' b aE e=>⟨aE.1.sfx ((hf.ex s).sfx e),av s aE.1 aE.2 e⟩) (λs r F a r' b aE e=>av s aE.1 aE.2 e);exact this _ _ _ _ _ _ _ (cF _) ⟨hu,au⟩ h
theorem fv.nc{D:ae Unit}(hD:iw D):fv (g7 D):=fv.rep (alc hD) (λ_=>fv.N (ar.jF hD) (fv.jF hD) λb=>fv.ret _) ()
theorem ald{D:ae Unit}(hD:iw D)(fr:Bool):iX (λ(_:Unit)=>N (dz D) λb=>if b then a1 (.inl ()) else N (bV []) λt=>match t with
 | .word _ _=>N (cX D) λ_=>a1 (.inl ())
 | .op o=>if fr/\o=[40] then bP else a1 (.inr ())
 |_=>a1 (.inr ()):Unit->ae (Unit⊕Unit)):=by
 have he:ar (N (bV []) λt=>match t with
  | .word _ _=>N (cX D) λ_=>a1 (.inl ())
  | .op o=>if fr/\o=[40] then bP else a1 (.inr ())
  |_=>a1 (.inr ()):ae (Unit⊕Unit)):=by
  refine ar.ga (λt a=>?_) (ar.ret _);cases t with
  |word w p=>exact((ar.word hD).N λ_=>ar.ret _).n
  |op o=>exact ek.ite ek.bP (ar.ret _).n
  |_=>exact(ar.ret _).n
 have ay:gh (N (bV []) λt=>match t with
  | .word _ _=>N (cX D) λ_=>a1 (.inl ())
  | .op o=>if fr/\o=[40] then bP else a1 (.inr ())
  |_=>a1 (.inr ()):ae (Unit⊕Unit)):=by
  refine gh.MR hD (λt a c=>?_) (ju.inr _) (λw p=>⟨cX D,_,rfl,Iff.rfl,λ_=>ar.ret _⟩);cases t with
  |word w p=>grind
  |op o=>simp[gh.ite,gh.bad,gh.inr]
  |_=>simp[gh.inr]
 refine⟨λ_=>(ar.jF hD).N λb=>ar.ite (ar.ret _) he,λ{s r F s' r' d} h=>?_⟩;obtain⟨b,ad,e,M,U⟩:=bY h;cases b with
 |true=>cases U;exact s9 hD M
 |false=>
  have f:=((ar.jF hD).sfx M).length_le;by_cases au:ad=[]
  ·subst au;simp only[eQ,cA] at U;have:ju (N (bV []) λt=>match t with
    | .word _ _=>N (cX D) λ_=>a1 (.inl ())
    | .op o=>if fr/\o=[40] then bP else a1 (.inr ())
    |_=>a1 (.inr ()):ae (Unit⊕Unit)):=ju.dR (ju.inr _)
   exact absurd U this
  ·simp only[eQ,cA] at U;have:=ay au U;omega
theorem fv.simple{D:ae Unit}(hD:iw D)(fr:Bool):fv (g8 fr D):=by
 refine fv.rep (ald hD fr) (λ_=>fv.N (ar.jF hD) (fv.jF hD) λb=>fv.ite (fv.ret _) ?_) ();refine fv.N (ar.dR _) (fv.dR _) λt=>?_;cases t with
 |word w p=>exact fv.N (ar.word hD) (NE.word hD).k λ_=>fv.ret _
 |op o=>exact fv.ite NE.bad.k (fv.ret _)
 |_=>simp[fv.ret]
structure MY(l:ea):Prop where
 cp:∀t,NE (l.cp t)
 rd:fv l.rd
section
variable{l:ea}(ay:vn l)
include ay
theorem NE.body(x:H):NE (ji l x):=NE.lZ ((ar.res _).aM _) λ_=>NE.lZ ((ay.ls _ _).aM _) λ_=>NE.res _
theorem NE.rep{σ α:Type}{f:σ->ae (σ⊕α)}(hf:iX f)(av:∀s {u F a r' b},dK u->f s u F= .ok (.inr a) r' b->r'≠[])(s:σ):NE (b8 f s):=by intro u F a r' b hu h;have:=MX hf (λr=>dK r) (λr=>r≠[]) (λs r F s' r' b aE e=>aE.sfx ((hf.ex s).sfx e)) (λs r F a r' b aE e=>av s aE e);exact this _ _ _ _ _ _ _ (cF _) hu h
theorem Y_:iX (λ(_:Unit)=>N ((l.ls .sg false).aM ([10]++hT++[32,120,10]++eh)) λ_=>N (cS hT) λ_=>N ((l.ls .qL false).aM (10::eh)) λ_=>
  N (bV []) λt=>if cG t iv then N (cS iv) λ_=>a1 (.inl ()) else
   if cG t gf then N (cS gf) λ_=>N ((l.ls .kE false).aM (10::eh)) λ_=>N (cS eh) λ_=>a1 (.inr ()) else N (cS eh) λ_=>a1 (.inr ()):Unit->ae (Unit⊕Unit)):=by
 refine⟨λ_=>((ay.ls _ _).aM _).N λ_=>(ar.res _).N λ_=>((ay.ls _ _).aM _).N λ_=>(ar.dR _).N λt=>ar.ite ((ar.res _).N λ_=>ar.ret _) (ar.ite ((ar.res _).N λ_=>((ay.ls _ _).aM _).N λ_=>(ar.res _).N λ_=>ar.ret _) ((ar.res _).N λ_=>ar.ret _)),λ{s r F s' r' f} h=>?_⟩;obtain⟨_,ad,g,M,h⟩:=bY h;obtain⟨_,i,j,U,h⟩:=bY h;obtain⟨_,k,m,d,h⟩:=bY h;obtain⟨t,n,o,e,h⟩:=bY h;have p:=((ay.ls _ _).sfx (h3.1 M)).length_le;have ak:=((ar.res _).sfx U).length_le;have a3:=((ay.ls _ _).sfx (h3.1 d)).length_le;have q:=((ar.dR _).sfx e).length_le;split at h
 ·obtain⟨_,b,c,a,h⟩:=bY h;cases h;have:=SN (by decide) a;omega
 ·split at h
  ·obtain⟨_,b,c,a,h⟩:=bY h;obtain⟨_,u,v,w,h⟩:=bY h;obtain⟨_,x,y,z,h⟩:=bY h;cases h
  ·obtain⟨_,b,c,a,h⟩:=bY h;cases h
theorem NE.cond:NE (rC l):=by
 refine NE.rep ay (Y_ ay) (λs {u F a r' o} hu h=>?_) ();obtain⟨_,ad,p,M,h⟩:=bY h;obtain⟨_,q,r,U,h⟩:=bY h;obtain⟨_,v,w,f,h⟩:=bY h;obtain⟨t,x,y,g,h⟩:=bY h;have i:=hu.sfx ((ay.ls _ _).sfx (h3.1 M));have j:=i.sfx ((ar.res _).sfx U);have k:=j.sfx ((ay.ls _ _).sfx (h3.1 f));have c:=k.sfx ((ar.dR _).sfx g);split at h
 ·obtain⟨_,d,e,b,h⟩:=bY h;cases h
 ·split at h
  ·obtain⟨_,d,e,b,h⟩:=bY h;obtain⟨_,z,A,m,h⟩:=bY h;obtain⟨_,B,C,n,h⟩:=bY h;cases h;exact NE.res _ ((c.sfx ((ar.res _).sfx b)).sfx ((ay.ls _ _).sfx (h3.1 m))) n
  ·obtain⟨_,d,e,b,h⟩:=bY h;cases h;exact NE.res _ c b
theorem NE.for_{D:ae Unit}(hD:iw D):NE (qb l D):=by
 have a:ar (N (bV []) λt=>if t= .op [59] then N (b6 1) λ_=>N c2 λ_=>a1 () else
   N c2 λ_=>N (bV []) λt=>if cG t fK then N (b6 2) λ_=>N (qa D) λ_=>N c2 λ_=>a1 () else a1 ()):=
  (ar.dR _).N λt=>ar.ite ((ar.dA _).N λ_=>ar.lines.N λ_=>ar.ret _) (ar.lines.N λ_=>(ar.dR _).N λt=>ar.ite ((ar.dA _).N λ_=>(ar.words hD).N λ_=>ar.lines.N λ_=>ar.ret _) (ar.ret _))
 refine NE.lZ (ar.dR _) λt=>?_;cases t with
 |eof=>simp[NE.more]
 |word w p=>
  cases p with
  |true=>exact NE.ite (NE.lZ (ar.dA _) λ_=>NE.lZ (a.aM _) λ_=>NE.body ay _) NE.bad
  |false=>exact NE.bad
 |_=>exact NE.bad
end
theorem ale{r w:H}{n:Nat}(he:cG (aq r) w=true)(au:n=w.length)(a:dK r):r.drop n≠[]:=by
 have:aq r= .word w true:=by grind[cG]
 obtain⟨M,U⟩:=qQ this;subst au;exact MW U M a (by rintro rfl;grind[aq])
theorem alf{r o:H}{n:Nat}(he:aq r= .op o)(au:n=o.length)(a:dK r):r.drop n≠[]:=by obtain⟨M,U,b,c⟩:=h4 he;subst au;exact MW b U a (by grind)
section
variable{l:ea}(ay:vn l)
include ay
theorem Za{D:ae Unit}(hD:iw D):iX (λ(_:Unit)=>N c2 λ_=>N (bV []) λt=>if t= .eof then cf [] else if cG t eH then N (b6 4) λ_=>a1 (.inr ()) else
 N ((if t= .op [40] then b6 1 else a1 ())) λ_=>N (lJ D) λ_=>N (l.ls .item true) λ_=>N (bV []) λt=>if t= .op [59,59] then N (b6 2) λ_=>a1 (.inl ()) else a1 (.inl ()):Unit->ae (Unit⊕Unit)):=by
 have a:ar (N (lJ D) λ_=>N (l.ls .item true) λ_=>N (bV []) λt=>if t= .op [59,59] then N (b6 2) λ_=>a1 (.inl ()) else a1 (.inl ()):ae (Unit⊕Unit)):=
  (ar.xK hD).N λ_=>(ay.ls _ _).N λ_=>(ar.dR _).N λt=>ar.ite ((ar.dA _).N λ_=>ar.ret _) (ar.ret _)
 refine⟨λ_=>ar.lines.N λ_=>(ar.dR _).N λt=>ar.ite (ar.cf _) (ar.ite ((ar.dA _).N λ_=>ar.ret _) ((ar.ite (ar.dA _) (ar.ret _)).N λ_=>a)),λ{s r F s' r' g} h=>?_⟩;obtain⟨_,ad,i,M,h⟩:=bY h;obtain⟨t,j,k,U,h⟩:=bY h;have m:=(ar.lines.sfx M).length_le;have ak:=((ar.dR _).sfx U).length_le;split at h
 ·cases h
 ·split at h
  ·obtain⟨_,_,_,_,h⟩:=bY h;cases h
  ·obtain⟨_,n,o,b,h⟩:=bY h;have a3:=((ar.ite (ar.dA 1) (ar.ret ())).sfx b).length_le;obtain⟨_,p,q,c,h⟩:=bY h;have u:=SQ hD c;obtain⟨_,v,w,d,h⟩:=bY h;have x:=((ay.ls _ _).sfx d).length_le;obtain⟨_,y,z,e,h⟩:=bY h;have A:=((ar.dR _).sfx e).length_le;split at h
   ·obtain⟨_,B,C,f,h⟩:=bY h;cases h;have:=((ar.dA 2).sfx f).length_le;omega
   ·cases h;omega
theorem NE.items{D:ae Unit}(hD:iw D):NE (n4 l D):=by
 refine NE.rep ay (Za ay hD) (λs {u F a r' n} hu h=>?_) ();obtain⟨_,ad,o,M,f⟩:=bY h;obtain⟨t,p,q,U,b⟩:=bY f;obtain⟨g,rfl,rfl⟩:=n5 U;have i:=(hu.sfx (ar.lines.sfx M)).sfx (ef g);split at b
 ·cases b
 ·split at b
  ·rename_i he;obtain⟨_,_,_,e,c⟩:=bY b;cases e;cases c;exact ale he rfl i
  ·obtain⟨_,r,v,e,c⟩:=bY b;obtain⟨_,w,x,y,j⟩:=bY c;obtain⟨_,z,A,B,k⟩:=bY j;obtain⟨_,C,E,G,d⟩:=bY k;split at d
   ·obtain⟨_,H,I,J,m⟩:=bY d;cases m
   ·cases d
theorem NE.xL{D:ae Unit}(hD:iw D):NE (rD l D):=by
 have M:ar (N (cX D) λ_=>N c2 λ_=>N (bV []) λt=>if t= .eof then cf [] else a1 t):=
  (ar.word hD).N λ_=>ar.lines.N λ_=>(ar.dR _).N λt=>ar.ite (ar.cf _) (ar.ret _)
 refine NE.lZ (ar.dR _) λt=>?_;cases t with
 |eof=>simp[NE.more]
 |word w p=>exact NE.lZ (M.aM _) λt=>NE.ite (NE.lZ (ar.dA _) λ_=>NE.aM (NE.items ay hD) _) NE.bad
 |_=>exact NE.bad
theorem NE.kind(t:Tok):NE (gK l t):=by
 cases t with
 |op o=>show NE (N (b6 1) λ_=>N ((l.ls .paren false).aM [41]) λ_=>j1 [41]);exact NE.lZ (ar.dA _) λ_=>NE.lZ ((ay.ls _ _).aM _) λ_=>NE.op _
 |word w p=>unfold gK;exact NE.lZ (ar.dA _) λ_=>NE.ite (NE.lZ ((ay.ls _ _).aM _) λ_=>NE.res _) (NE.ite (NE.cond ay) (NE.ite (NE.for_ ay ay.dl) (NE.ite (NE.xL ay ay.dl) (NE.lZ ((ay.ls _ _).aM _) λ_=>NE.body ay _))))
 |_=>exact NE.bad
end
section
variable{fr:Bool}{lo:Option ea}(ku:∀l∈lo,vn l)(hle:∀l∈lo,MY l)
include ku hle
omit hle in
theorem NE.cp(t:Tok):NE (s4 lo t):=by
 cases lo with
 |none=>exact NE.deep
 |some l=>exact NE.named (NE.kind (ku l rfl) t) _
theorem NE.function:NE (lk fr lo):=by
 cases lo with
 |none=>exact NE.deep
 |some l=>
  have ay:=ku l rfl;have he:=hle l rfl;unfold lk;simp only;refine NE.ite (NE.named ?_ _) NE.deep;refine NE.lZ (ar.dA _) λ_=>NE.lZ (ar.dR _) λt=>NE.ite (NE.more _) (NE.ite ?_ NE.bad);refine NE.lZ (ar.dA _) λ_=>NE.lZ (ar.lines.aM _) λ_=>NE.lZ (ar.dR _) λt=>NE.ite (NE.more _) (NE.ite ?_ NE.bad);intro u F b r' d hu h;obtain⟨_,ad,e,M,U⟩:=bY h;have c:=hu.sfx ((ay.cp t).sfx M);have a:=he.cp t hu M;split at U
  ·exact he.rd c a U
  ·cases U;exact a
theorem NE.command{D:ae Unit}(hD:iw D):NE (fG fr lo D):=by
 refine NE.ga (λt r l c he {F a r' A} e=>?_) (by rw[bc rfl];exact NE.more _);have m:r≠[]:=by rintro rfl;exact l he.symm
 rw[aO l] at e;split at e
 ·obtain⟨_,ad,x,M,U⟩:=bY e;exact fv.nc hD (c.sfx ((ek.cp ku t).sfx M)) (NE.cp ku t c M) U
 ·cases t with
  |eof=>grind
  |line=>cases e
  |op o=>
   simp only at e;split at e
   ·exact fv.N (ar.jF hD) (fv.jF hD) (λ_=>fv.simple hD fr) c m e
   ·cases e
  |word w p=>
   simp only at e;split at e
   ·cases e
   ·obtain⟨b,ad,x,M,U⟩:=bY e;have d:=c.sfx ((ar.jF hD).sfx M);have y:=fv.jF hD c m M;split at U
    ·exact fv.simple hD fr d y U
    ·obtain⟨_,B,C,n,f⟩:=bY U;have g:=d.sfx ((ar.word hD).sfx n);have q:=NE.word hD d n;split at f
     ·obtain⟨E,G,H,s,h⟩:=bY f;have i:=g.sfx ((ar.dR _).sfx s);have z:=fv.dR _ g q s;split at h
      ·obtain⟨_,I,J,u,j⟩:=bY h;have k:=i.sfx ((ek.function ku).sfx u);have v:=NE.function ku hle i u;split at j
       ·cases j;exact v
       ·exact fv.nc hD k v j
      ·exact fv.simple hD fr i z h
     ·exact fv.simple hD fr g q f
end
theorem alh{dm:ae Unit}(az:ar dm):iX (λ(_:Unit)=>N (bV []) λt=>if t= .op [124] then N (b6 1) λ_=>N (c2.aM [120]) λ_=>N dm λ_=>a1 (.inl ()) else a1 (.inr ()):Unit->ae (Unit⊕Unit)):=by
 have av:ar (N (c2.aM [120]) λ_=>N dm λ_=>a1 (.inl ()):ae (Unit⊕Unit)):=(ar.lines.aM _).N λ_=>az.N λ_=>ar.ret _;refine iX.of (λ_=>(ar.dR _).N λt=>ar.ite ((ar.dA _).N λ_=>av) (ar.ret _)) (λ_=>gh.dR (λt a=>gh.ite (gh.C0 (nb.dA 0) λ_=>av) (gh.inr _)) ?_) (λ_=>ju.dR ?_)
 ·simp[cA,ju.inr]
 simp[cA,ju.inr]
theorem NE.pipe{dm:ae Unit}(a:ar dm)(az:NE dm):NE (fu dm):=by refine NE.lZ (ar.dR _) λt=>NE.lZ (ar.ite (ar.dA _) (ar.ret _)) λ_=>NE.pv a az λ_=>fv.rep (alh a) (λ_=>fv.N (ar.dR _) (fv.dR _) λt=>fv.ite ?_ (fv.ret _)) ();refine NE.k (NE.lZ (ar.dA _) λ_=>NE.lZ (ar.lines.aM _) λ_=>NE.pv a az λ_=>fv.ret _)
theorem ali{a:ae Unit}(az:ar a):iX (λ(_:Unit)=>N (bV []) λt=>if t= .op [38,38]\/t= .op [124,124] then N (b6 2) λ_=>N (c2.aM [120]) λ_=>N a λ_=>a1 (.inl ()) else a1 (.inr ()):Unit->ae (Unit⊕Unit)):=by
 have av:ar (N (c2.aM [120]) λ_=>N a λ_=>a1 (.inl ()):ae (Unit⊕Unit)):=(ar.lines.aM _).N λ_=>az.N λ_=>ar.ret _;refine iX.of (λ_=>(ar.dR _).N λt=>ar.ite ((ar.dA _).N λ_=>av) (ar.ret _)) (λ_=>gh.dR (λt b=>gh.ite (gh.C0 (nb.dA 1) λ_=>av) (gh.inr _)) ?_) (λ_=>ju.dR ?_)
 ·simp[or_self,cA,ju.inr]
 simp[or_self,cA,ju.inr]
theorem NE.qc{a:ae Unit}(b:ar a)(az:NE a):NE (h2 a):=by refine NE.pv b az λ_=>fv.rep (ali b) (λ_=>fv.N (ar.dR _) (fv.dR _) λt=>fv.ite ?_ (fv.ret _)) ();refine NE.k (NE.lZ (ar.dA _) λ_=>NE.lZ (ar.lines.aM _) λ_=>NE.pv b az λ_=>fv.ret _)
theorem alj(fr:Bool):∀n,MY (aU fr n)
 |0=>⟨λt=>NE.cp (lo:=none) (λl h=>by cases h) t,fv.nc (C3 (lo:=none) λl h=>by cases h)⟩
 |n+1=>⟨λt=>NE.cp (lo:=some (aU fr n)) (λl h=>by grind[rF]) t,fv.nc (C3 (lo:=some (aU fr n)) λl h=>by grind[rF])⟩
def g0(fr:Bool):Nat->ae Unit
 |0=>h2 (fu (fG fr none (dG none)))
 |n+1=>h2 (fu (fG fr (some (aU fr n)) (dG (some (aU fr n)))))
theorem s_(fr:Bool)(n:Nat):(aU fr n).ls=oZ (g0 fr n):=by cases n<;>rfl
theorem Zc(fr:Bool):∀n,ar (g0 fr n)/\NE (g0 fr n)
 |0=>by
  have M:∀l∈(none:Option ea),vn l:=λl h=>by cases h
  have U:∀l∈(none:Option ea),MY l:=λl h=>by cases h
  have a:=ar.command (fr:=fr) M (C3 M);exact⟨ar.qc (ar.pipe a),NE.qc (ar.pipe a) (NE.pipe a (NE.command M U (C3 M)))⟩
 |n+1=>by
  have M:∀l∈some (aU fr n),vn l:=λl h=>by grind[rF]
  have U:∀l∈some (aU fr n),MY l:=λl h=>by grind[alj]
  have a:=ar.command (fr:=fr) M (C3 M);exact⟨ar.qc (ar.pipe a),NE.qc (ar.pipe a) (NE.pipe a (NE.command M U (C3 M)))⟩
def cR{σ α:Type}(f:σ->ae (σ⊕α))(r:H)(x:dp (σ⊕α)):dp α:=match x with
 | .ok (.inl s') r' b=>if r'.length<r.length then b8 f s' r' b else .bad r'
 | .ok (.inr a) r' b=> .ok a r' b
 | .more op nd ds=> .more op nd ds
 | .bad r=> .bad r
 | .deep r=> .deep r
theorem cz{σ α:Type}(f:σ->ae (σ⊕α))(s:σ)(r:H)(F:ah):b8 f s r F=cR f r (f s r F):=by grind[qM,cR]
theorem dt{α β:Type}{m:ae α}{k:α->ae β}{r:H}{F:ah}{op:bx}{nd:H}{ds:ah}(h:m r F= .more op nd ds):N m k r F= .more op nd ds:=by grind[N]
theorem hq{α β:Type}{m:ae α}{k:α->ae β}{r:H}{F:ah}{q:H}(h:m r F= .bad q):N m k r F= .bad q:=by grind[N]
theorem iY{x r:H}{F:ah}(h:bo r=none):bV x r F=cf x r F:=by grind[bV]
theorem cu{x r r':H}{F:ah}(h:bo r=some r'):bV x r F= .ok (aq r') r' F:=by grind[bV]
def hX(some:Bool):ae (Bool⊕Bool):=N (bV []) λt=>if t= .line then N jt λ_=>a1 (.inl true) else a1 (.inr some)
theorem rG:c2=b8 hX false:=rfl
theorem ub{b:Bool}{r t:H}{F:ah}(h:bo r=some (10::t)):hX b r F=N jt (λ_=>a1 (.inl true)) (10::t) F:=by
 have:bV [] r F= .ok .line (10::t) F:=by unfold bV;rw[h];rfl
 unfold hX;rw[aS this,bc rfl]
theorem rH{b:Bool}{r ad:H}{F:ah}(h:bo r=some ad)(a:aq ad≠ .line):hX b r F= .ok (.inr b) ad F:=by
 have:bV [] r F= .ok (aq ad) ad F:=by grind[bV]
 unfold hX;rw[aS this,aO a];rfl
theorem Zd:∀(n:Nat)(b:Bool)(u:H)(F:ah)(c:Bool)(d:ah),u.length<=n->dK u->u≠[]->b8 hX b u F= .ok c [] d->
  d=[]/\c=true/\∀v,b8 hX b (u++v) F=b8 hX true v []:=by
 intro n;induction n with
 |zero=>grind
 |succ n j=>
  intro b u F c d au hu bf h;rw[qM] at h;cases Y:bo u with
  |none=>
   have:hX b u F= .more [] (cW [] F []).1 (cW [] F []).2:=by exact dt (iY Y)
   grind
  |some ad=>
   have s1:=ef Y;by_cases f:aq ad= .line
   ·obtain⟨t,rfl⟩:=wD f;rw[ub Y] at h;have nt:dK t:=(hu.sfx s1).tail;cases e:ks F t with
    |inr nd=>grind[N,jt,a1,s5]
    |inl a=>
     have k:N jt (λ_=>a1 (.inl true)) (10::t) F=(.ok (.inl true) a []:dp (Bool⊕Bool)):=by unfold N;rw[s5,e];rfl
     rw[k] at h;have s2:=(vl F t [] a e).1;have l:=s1.length_le;have m:=s2.length_le;simp only[j5] at l;simp only[show a.length<u.length by omega,cK] at h
     have step:∀v,b8 hX b (u++v) F=b8 hX true (a++v) []:=by
      intro v;rw[qM];have g:=(t_ v Y hu bf).2;simp only[fV] at g;rw[ub g];have o:N jt (λ_=>a1 (.inl true)) (10::(t++v)) F=(.ok (.inl true) (a++v) []:dp (Bool⊕Bool)):=by unfold N;rw[s5,(vl F t v a e).2 nt];rfl
      grind
     by_cases i:a=[]
     ·subst i;have:b8 hX true [] []=(.ok true [] []:dp Bool):=by rw[qM,rH (ad:=[]) mK (by decide)]
      grind
     ·obtain⟨p,q,r⟩:=j true a [] c d (by omega) (nt.sfx s2) i h;grind
   ·rw[rH Y f] at h;cases h;exact absurd rfl (t_ [] Y hu bf).1
theorem alk{fr:Bool}{lo:Option ea}{D:ae Unit}{c:Ctx}{r:H}{F:ah}(Y:bo r=some r)(he:d_ c (aq r)=true)(au:aq r≠ .eof):fG fr lo D r F= .bad r:=by
 have aE:bV [120] r F= .ok (aq r) r F:=by grind[bV]
 unfold fG;rw[aS aE,aO au]
 have a:(∃w,aq r= .word w true/\rB w=true/\oC w=false)\/∃o,aq r= .op o/\ff o=false/\o≠[40]:=by
  cases c<;>simp[d_,cG] at he
  ·grind
  ·exact .inr ⟨_,he,by decide,by decide⟩
  ·exact .inl ⟨_,he,by decide,by decide⟩
  ·exact .inl ⟨_,he,by decide,by decide⟩
  ·rcases he with(he|he)|he<;>exact .inl ⟨_,he,by decide,by decide⟩
  ·exact .inl ⟨_,he,by decide,by decide⟩
  ·exact .inl ⟨_,he,by decide,by decide⟩
  ·exact .inl ⟨_,he,by decide,by decide⟩
  ·rcases he with he|he
   ·exact .inr ⟨_,he,by decide,by decide⟩
   ·exact .inl ⟨_,he,by decide,by decide⟩
 rcases a with⟨w,M,U,b⟩|⟨o,M,U,b⟩
 ·simp_all[gg,bP]
 simp_all[gg,bP]
theorem l1:∀(n:Nat)(r r':H),r.length<=n->bo r=some r'->bo r'=some r':=by
 intro n;induction n with
 |zero=>grind[List.length_eq_zero_iff,mK]
 |succ n a=>
  intro r r' au h;cases r with
  |nil=>grind
  |cons b t=>grind[List.length_cons,nK,AW]
theorem alm{c:Ctx}{t:Tok}(he:d_ c t=true):cG t [33]=false:=by
 cases t with
 |word w p=>
  cases h:cG (.word w p) [33] with
  |false=>rfl
  |true=>
   have:w=[33]/\p=true:=by grind[cG]
   obtain⟨rfl,rfl⟩:=this;cases c<;>simp[d_,cG,hT,iv,gf,eh,hp,jh,eH] at he
 |_=>rfl
theorem Ze{fr:Bool}{m:Nat}{c:Ctx}{r:H}{F:ah}(Y:bo r=some r)(he:d_ c (aq r)=true)(au:aq r≠ .eof):g0 fr m r F= .bad r:=by
 have aE:bV [120] r F= .ok (aq r) r F:=by grind[bV]
 have a:∀(lo:Option ea)(D:ae Unit),h2 (fu (fG fr lo D)) r F= .bad r:=by
  intro lo D;have M:=alk (fr:=fr) (lo:=lo) (D:=D) (F:=F) Y he au;have U:fu (fG fr lo D) r F= .bad r:=by unfold fu;rw[aS aE,alm he];simp only[eQ,cA];rw[aS (show a1 () r F= .ok () r F from rfl)];unfold N;rw[M]
  simp_all[h2,N]
 cases m<;>exact a _ _
theorem I5{ao:ae Unit}{c:Ctx}{none:Bool}{n:Nat}{F:ah}:dS ao c none n [] F=if c= .text then .ok (.inr n) [] F else cf (if none||n>0 then [] else [120]) [] F:=by unfold dS;rw[aS (cu mK)];rw[show aq []= .eof from rfl,bc rfl];split<;>rfl
theorem C4{ao:ae Unit}{c:Ctx}{none:Bool}{n:Nat}{r ad:H}{F:ah}(Y:bo r=some ad)(au:aq ad≠ .eof)(he:d_ c (aq ad)=false):dS ao c none n r F=N ao (λ_=>N (bV []) (hU c n)) ad F:=by unfold dS;rw[aS (cu Y),aO au,he];simp
theorem aln{ao:ae Unit}{c:Ctx}{none:Bool}{n:Nat}{r ad:H}{F:ah}(Y:bo r=some ad)(au:aq ad≠ .eof)(he:d_ c (aq ad)=true)(a:(none||n>0)=true):dS ao c none n r F= .ok (.inr n) ad F:=by unfold dS;rw[aS (cu Y),aO au,he,a];rfl
theorem Zf(fr:Bool)(m:Nat)(c:Ctx)(r:Bool):∀(bw n:Nat)(u:H)(F:ah)(k:Nat)(l:ah),u.length<=bw->dK u->u≠[]->b8 (dS (g0 fr m) .text true) n u F= .ok k [] l->
  l=[]/\n<k/\∀v,b8 (dS (g0 fr m) c r) n (u++v) F=N (b8 hX true) (λ_=>b8 (dS (g0 fr m) c r) k) v []:=by
 obtain⟨B,bf⟩:=Zc fr m;intro bw;induction bw with
 |zero=>grind
 |succ bw T=>
  intro n u F k l au hu L h;rw[cz] at h;cases Y:bo u with
  |none=>
   have:dS (g0 fr m) .text true n u F= .more [] (cW [] F []).1 (cW [] F []).2:=by unfold dS;exact dt (iY Y)
   rw[this] at h;cases h
  |some ad=>
   have s1:=ef Y;have z:=hu.sfx s1;obtain⟨M,_⟩:=t_ [] Y hu L;have U:aq ad≠ .eof:=λe=>M (mA.1 e);have kv:=l1 _ _ _ (cF _) Y;have C:d_ .text (aq ad)=false:=by grind[d_,beq_false_of_ne]
   rw[C4 Y U C] at h;cases i:g0 fr m ad F with
   |more op nd ds=>rw[dt i] at h;cases h
   |bad q=>rw[hq i] at h;cases h
   |deep q=>unfold N at h;rw[i] at h;cases h
   |ok x V j=>
    rw[aS i] at h;have D:=bf z i;have E:=z.sfx (B.sfx i);have W:d_ c (aq ad)=false:=by grind[d_,aq,Ze]
    have kl:=s1.length_le;have jW:=(B.sfx i).length_le;cases s:bo V with
    |none=>rw[dt (iY s)] at h;cases h
    |some d=>
     rw[aS (cu s)] at h;have A:=E.sfx (ef s);have Fz:=(ef s).length_le;obtain⟨O,_⟩:=t_ [] s E D
     have P:∀v,dS (g0 fr m) c r n (u++v) F=hU c n (aq d) (d++v) j:=by intro v;have aY:=Fs v z M;rw[C4 (t_ v Y hu L).2 (by grind) (by grind),aS (B.ok v z i D),aS (cu (t_ v s E D).2),Fs v A O]
     have a:∀(g:H)(y:Nat),dK g->g≠[]->g.length<=d.length->(∀v,dS (g0 fr m) c r n (u++v) F=N c2 (λ_=>a1 (.inl y)) (g++v) j)->cR (dS (g0 fr m) .text true) u (N c2 (λ_=>a1 (.inl y)) g j)= .ok k [] l->n<y->
       l=[]/\n<k/\∀v,b8 (dS (g0 fr m) c r) n (u++v) F=N (b8 hX true) (λ_=>b8 (dS (g0 fr m) c r) k) v []:=by
      intro g y G X Z Q h I;cases ay:c2 g j with
      |more op nd ds=>rw[dt ay] at h;cases h
      |bad q=>rw[hq ay] at h;cases h
      |deep q=>unfold N at h;rw[ay] at h;cases h
      |ok b R lK=>
       rw[aS ay] at h;unfold cR at h;simp only[a1] at h;split at h
       ·rename_i e_;by_cases J:R=[]
        ·subst J;rw[qM,I5] at h;simp only[if_true] at h;cases h;obtain⟨lf,qy,xp⟩:=Zd _ false g j b l (Nat.le_refl _) G X (by simp_all[rG]);refine⟨lf,I,λv=>?_⟩;rw[cz,Q v];unfold cR;have rI:c2 (g++v) j=b8 hX true v []:=by simp_all[rG]
         unfold N;rw[rI];cases aB:b8 hX true v [] with
         |ok fB v2 vo=>
          simp only[a1];have:v2.length<=v.length:=by have:=ar.rep (f:=hX) iX.lines true;exact(this.sfx aB).length_le
          grind
         |_=>rfl
        ·obtain⟨i1,i2,i3⟩:=T y R lK k l (by omega) (G.sfx (ar.lines.sfx ay)) J h;refine⟨i1,by omega,λv=>?_⟩;rw[cz,Q v,aS (ar.lines.ok v G ay J)];simp_all[cR,a1,bc]
       grind
     cases t:aq d with
     |eof=>grind[absurd,mA]
     |line=>rw[t] at h;unfold hU at h;refine a d (n+1) A O (cF _) (λv=>by rw[P v,t];rfl) h (yq _)
     |word w p=>rw[t] at h;cases h
     |op o=>
      rw[t] at h;unfold hU at h;simp only at h;by_cases S:o=[59]\/o=[38]
      ·rw[bc S] at h;have K:o.length=1:=by grind
       have aD:d.drop 1≠[]:=alf t K.symm A;refine a (d.drop 1) (n+1) (A.sfx (lO _ _)) aD (by simp) (λv=>?_) h (yq _);rw[P v,t];unfold hU;simp only;rw[bc S,aS (show b6 1 (d++v) j= .ok () (d.drop 1++v) j from by grind[b6,YU])]
      simp_all[aO,d_,bP,cR]
def A0{α:Type}(x y:dp α):Prop:=(∃q,x= .deep q)\/y=x\/∃op a nd ds,x= .more op nd ds/\y= .more a nd ds
def aQ{α:Type}(f g:ae α):Prop:=∀r F,A0 (f r F) (g r F)
theorem aQ.refl{α:Type}(f:ae α):aQ f f:=λ_ _=> .inr (.inl rfl)
theorem aQ.deep{α:Type}(g:ae α):aQ vj g:=λr _=> .inl ⟨r,rfl⟩
theorem aQ.N{α β:Type}{m b:ae α}{k k':α->ae β}(hm:aQ m b)(av:∀a,aQ (k a) (k' a)):aQ (Go.Eng.N m k) (Go.Eng.N b k'):=by
 intro r F;rcases hm r F with⟨q,h⟩|h|⟨op,d,nd,ds,M,U⟩
 ·left;simp_all[Go.Eng.N]
 ·unfold Go.Eng.N;rw[h];cases m r F with
  |ok a ad c=>exact av a ad c
  |more op nd ds=>exact .inr (.inl rfl)
  |bad q=>exact .inr (.inl rfl)
  |deep q=>exact .inl ⟨q,rfl⟩
 ·right;grind[Go.Eng.N]
theorem aQ.aM{α:Type}{m a:ae α}(hm:aQ m a)(x:H):aQ (m.aM x) (a.aM x):=by
 intro r F;unfold ae.aM;rcases hm r F with⟨q,h⟩|h|⟨op,b,nd,ds,M,U⟩
 ·left;grind
 ·rw[h];exact .inr (.inl rfl)
 ·rw[M,U];exact .inr (.inr ⟨_,_,_,_,rfl,rfl⟩)
theorem aQ.Zh{α:Type}{m a:ae α}(hm:aQ m a)(x:H):aQ (m.named x) a:=by
 intro r F;unfold ae.named;rcases hm r F with⟨q,h⟩|h|⟨op,b,nd,ds,M,U⟩
 ·left;grind
 ·rw[h];cases m r F with
  |more op nd ds=>exact .inr (.inr ⟨_,_,_,_,rfl,rfl⟩)
  |_=>exact .inr (.inl rfl)
 ·rw[M,U];exact .inr (.inr ⟨_,_,_,_,rfl,rfl⟩)
theorem aQ.alr{α:Type}{m a:ae α}(hm:aQ m a)(x:H):aQ m (a.named x):=by
 intro r F;unfold ae.named;rcases hm r F with⟨q,h⟩|h|⟨op,b,nd,ds,M,U⟩
 ·left;grind
 ·rw[h];cases m r F with
  |more op nd ds=>exact .inr (.inr ⟨_,_,_,_,rfl,rfl⟩)
  |_=>exact .inr (.inl rfl)
 ·rw[M,U];exact .inr (.inr ⟨_,_,_,_,rfl,rfl⟩)
theorem aQ.named{α:Type}{m a:ae α}(hm:aQ m a)(x y:H):aQ (m.named x) (a.named y):=(hm.Zh x).alr y
theorem aQ.ite{α:Type}{c:Prop}[Decidable c]{f g a b:ae α}(hf:aQ f a)(bu:aQ g b):aQ (if c then f else g) (if c then a else b):=by grind
theorem aQ.rep{σ α:Type}{f c:σ->ae (σ⊕α)}(h:∀s,aQ (f s) (c s))(s:σ):aQ (b8 f s) (b8 c s):=by
 have b:∀(n:Nat)(s:σ)(r:H)(F:ah),r.length<=n->A0 (b8 f s r F) (b8 c s r F):=by
  intro n;induction n with
  |zero=>
   intro s r F au;rw[cz,cz];have k:r=[]:=m4.1 (by omega);rcases h s r F with⟨q,e⟩|e|⟨op,i,nd,ds,d,g⟩
   ·left;exact⟨q,by rw[e];rfl⟩
   ·rw[e];cases f s r F with
    |ok x ad j=>
     cases x with
     |inl s'=>right;simp_all[cR,aO]
     |inr a=>exact .inr (.inl rfl)
    |deep q=>exact .inl ⟨q,rfl⟩
    |_=>exact .inr (.inl rfl)
   ·rw[d,g];exact .inr (.inr ⟨_,_,_,_,rfl,rfl⟩)
  |succ n l=>
   intro s r F au;rw[cz,cz];rcases h s r F with⟨q,e⟩|e|⟨op,i,nd,ds,d,g⟩
   ·left;exact⟨q,by rw[e];rfl⟩
   ·rw[e];cases f s r F with
    |ok x ad j=>
     cases x with
     |inl s'=>
      unfold cR;simp only;by_cases ay:ad.length<r.length
      ·grind
      ·rw[aO ay,aO ay];exact .inr (.inl rfl)
     |inr a=>exact .inr (.inl rfl)
    |deep q=>exact .inl ⟨q,rfl⟩
    |_=>exact .inr (.inl rfl)
   ·rw[d,g];exact .inr (.inr ⟨_,_,_,_,rfl,rfl⟩)
 exactλr F=>b _ s r F (cF _)
section
variable{D k5:ae Unit}(hD:aQ D k5)
include hD
theorem aQ.part{dq a:Option (ae Unit)}(c:match dq,a with|none,none=>True|some q,some d=>aQ q d|_,_=>False):aQ (cJ D dq) (cJ k5 a):=by
 intro r F;cases r with
 |nil=>exact .inr (.inl rfl)
 |cons b t=>
  unfold cJ;simp only;split
  ·exact .inr (.inl rfl)
  ·split
   ·exact .inr (.inl rfl)
   ·split
    ·exact hD _ _
    ·match dq,a,c with
     |none,none,_=>exact .inr (.inl rfl)
     |some q,some d,c=>
      simp only;split
      ·exact .inr (.inl rfl)
      ·split
       ·exact c _ _
       ·exact .inr (.inl rfl)
omit hD in
theorem aQ.AY(c:UInt8){p a:ae Unit}(aE:aQ p a):aQ (jD c p) (jD c a):=by
 refine aQ.rep (λ_ r F=>?_) ();cases r with
 |nil=>exact .inr (.inl rfl)
 |cons b t=>
  simp only;split
  ·exact .inr (.inl rfl)
  ·exact aQ.N aE (λ_=>aQ.refl _) _ _
theorem aQ.double:aQ (e2 D) (e2 k5):=((aQ.AY 34 (aQ.part hD trivial)).aM _).named _ _
theorem aQ.zm:aQ (cJ D (some (e2 D))) (cJ k5 (some (e2 k5))):=aQ.part hD (aQ.double hD)
theorem aQ.param:aQ (rA D) (rA k5):=(aQ.AY 125 (aQ.zm hD)).aM _
theorem aQ.word:aQ (cX D) (cX k5):=by
 refine aQ.rep (λ_ r F=>?_) ();cases r with
 |nil=>exact .inr (.inl rfl)
 |cons b t=>
  simp only;split
  ·exact .inr (.inl rfl)
  ·exact aQ.N (aQ.zm hD) (λ_=>aQ.refl _) _ _
theorem aQ.Fv(x:H):aQ (ke D x) (ke k5 x):=by refine aQ.N (aQ.refl _) λt=>?_;grind[aQ.word,aQ.refl]
theorem aQ.jF:aQ (dz D) (dz k5):=by
 refine aQ.N (aQ.refl _) λo=>?_;cases o with
 |none=>simp[aQ.refl]
 |some o=>exact aQ.N (aQ.ite (aQ.refl _) (aQ.ite (aQ.refl _) (aQ.Fv hD _))) λ_=>aQ.refl _
theorem aQ.nc:aQ (g7 D) (g7 k5):=aQ.rep (λ_=>aQ.N (aQ.jF hD) λ_=>aQ.refl _) ()
theorem aQ.words:aQ (qa D) (qa k5):=by refine aQ.rep (λ_=>aQ.N (aQ.refl _) λt=>?_) ();grind[aQ.word,aQ.N,aQ.refl]
theorem aQ.xK:aQ (lJ D) (lJ k5):=by refine aQ.rep (λ_=>aQ.N (aQ.refl _) λt=>?_) ();grind[aQ.word,aQ.N,aQ.aM,aQ.refl]
end
structure zn(l gp:ea):Prop where
 ls:∀c n,aQ (l.ls c n) (gp.ls c n)
 pm:aQ l.pm gp.pm
 cp:∀t,aQ (l.cp t) (gp.cp t)
 rd:aQ l.rd gp.rd
 dl:aQ l.dl gp.dl
 has:l.has=true->gp.has=true
section
variable{l gp:ea}(h:zn l gp)
include h
theorem aQ.body(x:H):aQ (ji l x) (ji gp x):=aQ.N (aQ.refl _) λ_=>aQ.N ((h.ls _ _).aM _) λ_=>aQ.refl _
theorem aQ.cond:aQ (rC l) (rC gp):=aQ.rep (λ_=>aQ.N ((h.ls _ _).aM _) λ_=>aQ.N (aQ.refl _) λ_=>aQ.N ((h.ls _ _).aM _) λ_=>aQ.N (aQ.refl _) λt=>aQ.ite (aQ.refl _) (aQ.ite (aQ.N (aQ.refl _) λ_=>aQ.N ((h.ls _ _).aM _) λ_=>aQ.refl _) (aQ.refl _))) ()
theorem aQ.for_{D k5:ae Unit}(hD:aQ D k5):aQ (qb l D) (qb gp k5):=by
 refine aQ.N (aQ.refl _) λt=>?_;cases t with
 |word w p=>
  cases p with
  |true=>exact aQ.ite (aQ.N (aQ.refl _) λ_=>aQ.N (aQ.aM (aQ.N (aQ.refl _) λt=>aQ.ite (aQ.refl _) (aQ.N (aQ.refl _) λ_=>aQ.N (aQ.refl _) λt=>aQ.ite (aQ.N (aQ.refl _) λ_=>aQ.N (aQ.words hD) λ_=>aQ.refl _) (aQ.refl _))) _) λ_=>aQ.body h _) (aQ.refl _)
  |false=>simp[aQ.refl]
 |_=>simp[aQ.refl]
theorem aQ.items{D k5:ae Unit}(hD:aQ D k5):aQ (n4 l D) (n4 gp k5):=
 aQ.rep (λ_=>aQ.N (aQ.refl _) λ_=>aQ.N (aQ.refl _) λt=>aQ.ite (aQ.refl _) (aQ.ite (aQ.refl _) (aQ.N (aQ.refl _) λ_=>aQ.N (aQ.xK hD) λ_=>aQ.N (h.ls _ _) λ_=>aQ.refl _))) ()
theorem aQ.xL{D k5:ae Unit}(hD:aQ D k5):aQ (rD l D) (rD gp k5):=by
 refine aQ.N (aQ.refl _) λt=>?_;cases t with
 |word w p=>exact aQ.N (aQ.aM (aQ.N (aQ.word hD) λ_=>aQ.refl _) _) λt=>aQ.ite (aQ.N (aQ.refl _) λ_=>(aQ.items h hD).aM _) (aQ.refl _)
 |_=>simp[aQ.refl]
theorem aQ.kind(t:Tok):aQ (gK l t) (gK gp t):=by
 cases t with
 |op o=>show aQ (Go.Eng.N (b6 1) λ_=>Go.Eng.N ((l.ls .paren false).aM [41]) λ_=>j1 [41]) (Go.Eng.N (b6 1) λ_=>Go.Eng.N ((gp.ls .paren false).aM [41]) λ_=>j1 [41]);exact aQ.N (aQ.refl _) λ_=>aQ.N ((h.ls _ _).aM _) λ_=>aQ.refl _
 |word w p=>unfold gK;exact aQ.N (aQ.refl _) λ_=>aQ.ite (aQ.N ((h.ls _ _).aM _) λ_=>aQ.refl _) (aQ.ite (aQ.cond h) (aQ.ite (aQ.for_ h h.dl) (aQ.ite (aQ.xL h h.dl) (aQ.N ((h.ls _ _).aM _) λ_=>aQ.body h _))))
 |_=>exact aQ.refl _
end
def FB(lo a:Option ea):Prop:=∀l,lo=some l->∃gp,a=some gp/\zn l gp
theorem aQ.s3{lo b:Option ea}(h:FB lo b){n:Nat}{f a:ea->ae Unit}(hf:∀l gp,zn l gp->aQ (f l) (a gp)):aQ (s3 lo n f) (s3 b n a):=by
 cases lo with
 |none=>exact aQ.deep _
 |some l=>obtain⟨gp,rfl,ay⟩:=h l rfl;show aQ (Go.Eng.N (b6 n) λ_=>f l) (Go.Eng.N (b6 n) λ_=>a gp);grind[aQ.N,aQ.refl]
theorem aQ.ua{lo a:Option ea}(h:FB lo a):aQ (dG lo) (dG a):=by
 intro r F;unfold dG;split
 ·exact .inr (.inl rfl)
 ·split
  ·exact aQ.s3 h (λl gp ay=>aQ.N (((ay.ls _ _).aM _).named _ _) λ_=>aQ.refl _) r F
  ·split
   ·exact aQ.s3 h (λl gp ay=>ay.pm.named _ _) r F
   ·exact .inr (.inl rfl)
theorem aQ.cp{lo a:Option ea}(h:FB lo a)(t:Tok):aQ (s4 lo t) (s4 a t):=by
 cases lo with
 |none=>exact aQ.deep _
 |some l=>obtain⟨gp,rfl,ay⟩:=h l rfl;exact(aQ.kind ay t).named _ _
def Zi{α:Type}(x y:dp α):Prop:=A0 x y\/∃t a F,x= .bad (40::t)/\y= .ok a (40::t) F
def fw{α:Type}(f g:ae α):Prop:=∀r F,Zi (f r F) (g r F)
theorem aQ.b{α:Type}{f g:ae α}(h:aQ f g):fw f g:=λr F=> .inl (h r F)
theorem fw.ite{α:Type}{c:Prop}[Decidable c]{f g a b:ae α}(hf:fw f a)(bu:fw g b):fw (if c then f else g) (if c then a else b):=by grind
theorem fw.pv{α β:Type}{m b:ae α}{k k':α->ae β}(hm:aQ m b)(av:∀a,fw (k a) (k' a)):fw (N m k) (N b k'):=by
 intro r F;rcases hm r F with⟨q,h⟩|h|⟨op,d,nd,ds,M,U⟩
 ·left;left;simp_all[N]
 ·unfold N;rw[h];cases m r F with
  |ok a ad c=>exact av a ad c
  |more op nd ds=>exact .inl (.inr (.inl rfl))
  |bad q=>exact .inl (.inr (.inl rfl))
  |deep q=>exact .inl (.inl ⟨q,rfl⟩)
 ·left;right;grind[N]
theorem fw.lZ{α β:Type}{m d:ae α}{k k':α->ae β}(hm:fw m d)(av:∀a,fw (k a) (k' a))(Y:∀a t F,∃b e,k' a (40::t) F= .ok b (40::t) e):fw (N m k) (N d k'):=by
 intro r F;rcases hm r F with(⟨q,h⟩|h|⟨op,f,nd,ds,M,U⟩)|⟨t,a,c,M,U⟩
 ·left;left;simp_all[N]
 ·unfold N;rw[h];cases m r F with
  |ok a ad c=>exact av a ad c
  |more op nd ds=>exact .inl (.inr (.inl rfl))
  |bad q=>exact .inl (.inr (.inl rfl))
  |deep q=>exact .inl (.inl ⟨q,rfl⟩)
 ·left;right;grind[N]
 ·right;obtain⟨b,e,g⟩:=Y a t c;grind[hq,aS]
theorem fw.rep{σ α:Type}{f i:σ->ae (σ⊕α)}(h:∀s,fw (f s) (i s))(Y:∀s t F,∃a j,i s (40::t) F= .ok (.inr a) (40::t) j)(s:σ):fw (b8 f s) (b8 i s):=by
 have g:∀(n:Nat)(s:σ)(r:H)(F:ah),r.length<=n->Zi (b8 f s r F) (b8 i s r F):=by
  intro n;induction n with
  |zero=>
   intro s r F au;rw[cz,cz];have m:r=[]:=m4.1 (by omega);rcases h s r F with(⟨q,e⟩|e|⟨op,k,nd,ds,b,c⟩)|⟨t,a,d,b,c⟩
   ·left;left;exact⟨q,by rw[e];rfl⟩
   ·rw[e];cases f s r F with
    |ok x ad d=>
     cases x with
     |inl s'=>left;right;simp_all[cR,aO]
     |inr a=>exact .inl (.inr (.inl rfl))
    |deep q=>exact .inl (.inl ⟨q,rfl⟩)
    |_=>exact .inl (.inr (.inl rfl))
   ·rw[b,c];exact .inl (.inr (.inr ⟨_,_,_,_,rfl,rfl⟩))
   ·rw[b,c];cases a with
    |inr a=>exact .inr ⟨t,a,d,rfl,rfl⟩
    |inl s'=>left;right;simp_all[cR,aO]
  |succ n o=>
   intro s r F au;rw[cz,cz];rcases h s r F with(⟨q,e⟩|e|⟨op,k,nd,ds,b,c⟩)|⟨t,a,d,b,c⟩
   ·left;left;exact⟨q,by rw[e];rfl⟩
   ·rw[e];cases f s r F with
    |ok x ad d=>
     cases x with
     |inl s'=>
      unfold cR;simp only;by_cases ay:ad.length<r.length
      ·grind
      ·rw[aO ay,aO ay];exact .inl (.inr (.inl rfl))
     |inr a=>exact .inl (.inr (.inl rfl))
    |deep q=>exact .inl (.inl ⟨q,rfl⟩)
    |_=>exact .inl (.inr (.inl rfl))
   ·rw[b,c];exact .inl (.inr (.inr ⟨_,_,_,_,rfl,rfl⟩))
   ·rw[b,c];cases a with
    |inr a=>exact .inr ⟨t,a,d,rfl,rfl⟩
    |inl s'=>
     unfold cR;simp only;by_cases ay:(40::t).length<r.length
     ·rw[bc ay];right;obtain⟨a,j,l⟩:=Y s' t d;exact⟨t,a,j,rfl,by rw[cz,l];rfl⟩
     ·rw[aO ay];exact .inl (.inr (.inl rfl))
 exactλr F=>g _ s r F (cF _)
theorem I7(t:H):bo (40::t)=some (40::t):=by simp[nK,fJ]
theorem wE(t:H):aq (40::t)= .op [40]:=by rfl
theorem als{D:ae Unit}(t:H)(F:ah):dz D (40::t) F= .ok false (40::t) F:=by
 have:fL (40::t) F= .ok none (40::t) F:=by unfold fL;rw[I7];rfl
 unfold dz;rw[aS this];rfl
theorem FD{x:H}(t:H)(F:ah):bV x (40::t) F= .ok (.op [40]) (40::t) F:=by simp[cu,I7,wE]
theorem Zj(m:ae Unit):N m (λ_=>a1 ())=m:=by
 funext r F
 unfold N;cases m r F<;>rfl
theorem k6{α β b:Type}(m:ae α)(k:α->ae β)(R:β->ae b):N (N m k) R=N m (λa=>N (k a) R):=by grind[N]
theorem zo{α β:Type}{c:Prop}[Decidable c](f g:ae α)(R:α->ae β):N (if c then f else g) R=if c then N f R else N g R:=by grind
theorem Zk{α β:Type}(x:H)(R:α->ae β):N (cf x) R=cf x:=rfl
theorem Zl{α β:Type}(R:α->ae β):N bP R=bP:=rfl
theorem aQ.alu{α β:Type}{x:ae β}{g:ae α}{R:α->ae β}(h:aQ x (Go.Eng.N g R))(nm:H):aQ x (Go.Eng.N (g.named nm) R):=by
 intro r F
 have e:Go.Eng.N (g.named nm) R r F=Go.Eng.N g R r F\/∃op a nd ds,Go.Eng.N g R r F= .more op nd ds/\Go.Eng.N (g.named nm) R r F= .more a nd ds:=by unfold Go.Eng.N ae.named;grind
 rcases e with e|⟨op,a,nd,ds,b,c⟩
 ·rw[e];exact h r F
 ·rcases h r F with⟨q,h⟩|h|⟨d,f,i,j,M,U⟩
  ·exact .inl ⟨q,h⟩
  ·right;grind
  ·rw[b] at U;cases U;exact .inr (.inr ⟨_,_,_,_,M,c⟩)
section
variable{fr oD:Bool}(hf:fr=oD\/fr=true/\oD=false)
include hf
theorem fw.simple{D k5:ae Unit}(hD:aQ D k5):fw (g8 fr D) (g8 oD k5):=by
 rcases hf with rfl|⟨rfl,rfl⟩
 ·refine aQ.b (aQ.rep (λ_=>aQ.N (aQ.jF hD) λb=>aQ.ite (aQ.refl _) (aQ.N (aQ.refl _) λt=>?_)) ());grind[aQ.N,aQ.word,aQ.refl]
 ·refine fw.rep (λ_=>fw.pv (aQ.jF hD) λb=>fw.ite (aQ.b (aQ.refl _)) (λr F=>?_)) (λ_ t F=>?_) ()
  ·cases Y:bo r with
   |none=>rw[dt (iY Y),dt (iY Y)];exact .inl (.inr (.inl rfl))
   |some ad=>
    rw[aS (cu Y),aS (cu Y)];cases c:aq ad with
    |word w p=>exact .inl (aQ.N (aQ.word hD) (λ_=>aQ.refl _) ad F)
    |op o=>
     simp only;by_cases a:o=[40]
     ·subst a;obtain⟨_,U,_,_⟩:=h4 c;obtain⟨t,rfl⟩:=U;exact .inr ⟨t,_,_,rfl,rfl⟩
     ·simp[a];exact .inl (.inr (.inl rfl))
    |_=>exact .inl (.inr (.inl rfl))
  ·refine⟨(),F,?_⟩;rw[aS (als t F)];simp only[eQ,cA];rw[aS (FD t F)];rfl
theorem aQ.fn{lo b:Option ea}{k5:ae Unit}(h:FB lo b)(d:fr=true->oD=false->∀l,lo=some l->aQ l.rd (g7 k5)){D:ae Unit}(hD:aQ D k5):
  aQ (Go.Eng.N (lk fr lo) λ_=>if fr then a1 () else g7 D) (Go.Eng.N (lk oD b) λ_=>if oD then a1 () else g7 k5):=by
 cases lo with
 |none=>intro r F;exact .inl ⟨r,rfl⟩
 |some l=>
  obtain⟨gp,rfl,ay⟩:=h l rfl;by_cases a:l.has=true
  ·have c:=ay.has a;rcases hf with rfl|⟨rfl,rfl⟩
   ·refine aQ.N ?_ λ_=>aQ.ite (aQ.refl _) (aQ.nc hD);unfold lk;simp only[a,c,cK];exact aQ.named (aQ.N (aQ.refl _) λ_=>aQ.N (aQ.refl _) λt=>aQ.ite (aQ.refl _) (aQ.ite (aQ.N (aQ.refl _) λ_=>aQ.N (aQ.refl _) λ_=>aQ.N (aQ.refl _) λt=>aQ.ite (aQ.refl _) (aQ.ite (aQ.N (ay.cp t) λ_=>aQ.ite ay.rd (aQ.refl _)) (aQ.refl _))) (aQ.refl _))) _ _
   ·have e:=d rfl rfl l rfl;simp only[cK,eQ,cA];rw[Zj];unfold lk;simp only[a,c,cK,eQ,cA];refine aQ.Zh (aQ.alu ?_ _) _;rw[k6];refine aQ.N (aQ.refl _) λ_=>?_;rw[k6];refine aQ.N (aQ.refl _) λt=>?_;rw[zo,Zk,zo,Zl];refine aQ.ite (aQ.refl _) (aQ.ite ?_ (aQ.refl _));rw[k6];refine aQ.N (aQ.refl _) λ_=>?_;rw[k6];refine aQ.N (aQ.refl _) λ_=>?_;rw[k6];refine aQ.N (aQ.refl _) λt=>?_;rw[zo,Zk,zo,Zl];refine aQ.ite (aQ.refl _) (aQ.ite ?_ (aQ.refl _));rw[Zj];exact aQ.N (ay.cp t) λ_=>e
  ·intro r F;left;refine⟨r,?_⟩;unfold lk;simp only[a,cA,eQ];rfl
theorem fw.command{lo a:Option ea}{D k5:ae Unit}(h:FB lo a)(hD:aQ D k5)(c:fr=true->oD=false->∀l,lo=some l->aQ l.rd (g7 k5)):fw (fG fr lo D) (fG oD a k5):=by
 refine fw.pv (aQ.refl _) λt=>fw.ite (aQ.b (aQ.refl _)) (fw.ite (aQ.b (aQ.N (aQ.cp h t) λ_=>aQ.nc hD)) ?_);cases t with
 |op o=>exact fw.ite (fw.pv (aQ.jF hD) λ_=>fw.simple hf hD) (aQ.b (aQ.refl _))
 |word w p=>refine fw.ite (aQ.b (aQ.refl _)) (fw.pv (aQ.jF hD) λb=>fw.ite (fw.simple hf hD) (fw.pv (aQ.word hD) λ_=>fw.ite (fw.pv (aQ.refl _) λt=>fw.ite (aQ.b (aQ.fn hf h c hD)) (fw.simple hf hD)) (fw.simple hf hD)))
 |_=>simp[aQ.b,aQ.refl]
omit hf in
theorem fw.pipe{dm b:ae Unit}(h:fw dm b):fw (fu dm) (fu b):=by
 have stop:∀(dm:ae Unit)(s:Unit)(t:H)(F:ah),∃a c,(Go.Eng.N (bV []) λt=>if t= .op [124] then Go.Eng.N (b6 1) λ_=>Go.Eng.N (c2.aM [120]) λ_=>Go.Eng.N dm λ_=>a1 (.inl ()) else a1 (.inr ()):ae (Unit⊕Unit)) (40::t) F= .ok (.inr a) (40::t) c:=by intro dm s t F;refine⟨(),F,?_⟩;rw[aS (FD t F)];rfl
 refine fw.pv (aQ.refl _) λt=>fw.pv (aQ.refl _) λ_=>fw.lZ h (λ_=>fw.rep (λ_=>fw.pv (aQ.refl _) λt=>fw.ite (fw.pv (aQ.refl _) λ_=>fw.pv (aQ.refl _) λ_=>fw.lZ h (λ_=>aQ.b (aQ.refl _)) λ_ t F=>⟨_,_,rfl⟩) (aQ.b (aQ.refl _))) (stop b) ()) λ_ t F=>?_;obtain⟨a,c,e⟩:=stop b () t F;exact⟨a,c,by rw[cz,e];rfl⟩
omit hf in
theorem fw.qc{b c:ae Unit}(h:fw b c):fw (h2 b) (h2 c):=by
 have stop:∀(b:ae Unit)(s:Unit)(t:H)(F:ah),∃a d,(Go.Eng.N (bV []) λt=>if t= .op [38,38]\/t= .op [124,124] then Go.Eng.N (b6 2) λ_=>Go.Eng.N (c2.aM [120]) λ_=>Go.Eng.N b λ_=>a1 (.inl ()) else a1 (.inr ()):ae (Unit⊕Unit)) (40::t) F= .ok (.inr a) (40::t) d:=by intro b s t F;refine⟨(),F,?_⟩;rw[aS (FD t F)];rfl
 refine fw.lZ h (λ_=>fw.rep (λ_=>fw.pv (aQ.refl _) λt=>fw.ite (fw.pv (aQ.refl _) λ_=>fw.pv (aQ.refl _) λ_=>fw.lZ h (λ_=>aQ.b (aQ.refl _)) λ_ t F=>⟨_,_,rfl⟩) (aQ.b (aQ.refl _))) (stop c) ()) λ_ t F=>?_;obtain⟨a,d,e⟩:=stop c () t F;exact⟨a,d,by rw[cz,e];rfl⟩
omit hf in
theorem aQ.list{ao f:ae Unit}(h:fw ao f)(c:Ctx)(none:Bool):aQ (oZ ao c none) (oZ f c none):=by
 rw[o0,o0];refine aQ.N (aQ.refl _) λ_=>aQ.rep (λn=>aQ.N (aQ.refl _) λt=>aQ.ite (aQ.refl _) (aQ.ite (aQ.refl _) (λr F=>?_))) 0;rcases h r F with(⟨q,e⟩|e|⟨op,g,nd,ds,b,d⟩)|⟨t,a,i,b,d⟩
 ·left;simp_all[Go.Eng.N]
 ·unfold Go.Eng.N;rw[e];cases ao r F with
  |deep q=>exact .inl ⟨q,rfl⟩
  |_=>exact .inr (.inl rfl)
 ·exact .inr (.inr ⟨op,g,nd,ds,dt b,dt d⟩)
 ·right;left;rw[hq b,aS d,aS (FD t i)];unfold hU;cases c<;>simp[d_,cG,bP]
end
theorem zn.of{fr oD:Bool}(hf:fr=oD\/fr=true/\oD=false){lo a:Option ea}(h:FB lo a)(e:fr=true->oD=false->∀l,lo=some l->aQ l.rd (g7 (dG a))){b d:Bool}(f:b=true->d=true):
  zn {ls:=oZ (h2 (fu (fG fr lo (dG lo)))),pm:=rA (dG lo),cp:=s4 lo,rd:=g7 (dG lo),dl:=dG lo,has:=b} {ls:=oZ (h2 (fu (fG oD a (dG a)))),pm:=rA (dG a),cp:=s4 a,rd:=g7 (dG a),dl:=dG a,has:=d}:=
 ⟨λc n=>aQ.list (fw.qc (fw.pipe (fw.command hf h (aQ.ua h) e))) c n,aQ.param (aQ.ua h),λt=>aQ.cp h t,aQ.nc (aQ.ua h),aQ.ua h,f⟩
theorem SY{fr oD:Bool}(hf:fr=oD\/fr=true/\oD=false):∀n m,n<=m->zn (aU fr n) (aU oD m)
 |0,0,_=>zn.of hf (λl h=>by cases h) (λ_ _ l h=>by cases h) (λh=>h)
 |0,m+1,_=>zn.of hf (λl h=>by cases h) (λ_ _ l h=>by cases h) (λh=>rfl)
 |n+1,m+1,h=>zn.of hf (λl e=>by cases e;exact⟨_,rfl,SY hf n m (by omega)⟩) (λ_ _ l e=>by cases e;exact(SY hf n (m+1) (by omega)).rd) (λh=>h)
theorem alv{fr oD:Bool}(hf:fr=oD\/fr=true/\oD=false){n m:Nat}(h:n<=m)(r:H):A0 (f_ fr n r) (f_ oD m r):=(SY hf n m h).ls .text true r []
theorem Zo{fr:Bool}{m:Nat}{u:H}{k:Nat}{r:H}{F:ah}(h:f_ fr m u= .ok k r F):r=[]:=by
 unfold f_ at h;rw[s_,o0] at h;obtain⟨_,ad,d,M,U⟩:=bY h;refine MX (iX.round (Zc fr m).1 .text true) (λ_=>True) (λr=>r=[]) (λ_ _ _ _ _ _ _ _=>trivial) ?_ _ _ _ _ _ _ _ (cF _) trivial U;intro n r F a r' j _ e;obtain⟨t,ad,d,M,U⟩:=bY e;obtain⟨l,rfl,rfl⟩:=n5 M;split at U
 ·rename_i f;rw[bc rfl] at U;cases U;grind[mA]
 ·rename_i f;split at U
  ·grind[d_,absurd]
  ·obtain⟨_,q,s,v,g⟩:=bY U;obtain⟨t,x,y,z,b⟩:=bY g;unfold hU at b;cases t with
   |eof=>cases b
   |line=>obtain⟨_,_,_,_,c⟩:=bY b;cases c
   |word w p=>cases b
   |op o=>
    simp only at b;split at b
    ·obtain⟨_,_,_,_,c⟩:=bY b;obtain⟨_,_,_,_,i⟩:=bY c;cases i
    grind[d_,bP]
theorem alw{fr:Bool}{m:Nat}{u:H}{k:Nat}{r:H}{F:ah}(hu:dK u)(h:f_ fr m u= .ok k r F)(av:k≠0)(c:Ctx)(a:Bool)(v:H):
  (aU fr m).ls c a (u++v) []=N (b8 hX true) (λ_=>b8 (dS (g0 fr m) c a) k) v []:=by
 have f:=Zo h;subst f;unfold f_ at h;rw[s_,o0] at h;rw[s_,o0];obtain⟨b,ad,g,M,U⟩:=bY h;have d:=h3.1 M;have e:ad≠[]:=by rintro rfl;grind[cz,I5,cR]
 have:=ar.lines.ok v hu d e;rw[aS (h3.2 this)];exact(Zf fr m c a _ 0 ad g k F (cF _) (hu.sfx (ar.lines.sfx d)) e U).2.2 v
def alx(k:Nat):dp Nat->dp Nat
 | .ok n r F=> .ok (n+k) r F
 |x=>x
def wF(k:Nat):dp (Nat⊕Nat)->dp (Nat⊕Nat)
 | .ok (.inl s) r F=> .ok (.inl (s+k)) r F
 | .ok (.inr s) r F=> .ok (.inr (s+k)) r F
 | .more op nd ds=> .more op nd ds
 | .bad r=> .bad r
 | .deep r=> .deep r
theorem FE{α:Type}{j:Nat}{m:ae α}{k k':α->ae (Nat⊕Nat)}(h:∀a r F,k' a r F=wF j (k a r F))(r:H)(F:ah):N m k' r F=wF j (N m k r F):=by
 unfold N;cases m r F with
 |ok a ad b=>grind
 |_=>rfl
theorem M4{j:Nat}{c:Prop}[Decidable c]{f g a b:ae (Nat⊕Nat)}{r:H}{F:ah}(hf:a r F=wF j (f r F))(bu:b r F=wF j (g r F)):(if c then a else b) r F=wF j ((if c then f else g) r F):=by grind
theorem SZ{n k:Nat}{r:H}{F:ah}:(a1 (.inl (n+k+1)):ae (Nat⊕Nat)) r F=wF k (a1 (.inl (n+1)) r F):=by simp[a1,wF,Nat.add_right_comm]
theorem aly{ao:ae Unit}(k n:Nat)(r:H)(F:ah):dS ao .text true (n+k) r F=wF k (dS ao .text true n r F):=by
 unfold dS;simp only[Bool.true_or,cK,Ki];refine FE (λt r F=>M4 rfl (M4 rfl (FE (λ_ r F=>FE (λt r F=>?_) r F) r F))) r F;unfold hU;cases t with
 |eof=>exact SZ
 |line=>exact FE (λ_ r F=>SZ) r F
 |word w p=>rfl
 |op o=>exact M4 (FE (λ_ r F=>FE (λ_ r F=>SZ) r F) r F) (M4 (by simp[a1,wF,Nat.add_right_comm]) rfl)
theorem Zp{ao:ae Unit}(k:Nat):∀(bw n:Nat)(r:H)(F:ah),r.length<=bw->b8 (dS ao .text true) (n+k) r F=alx k (b8 (dS ao .text true) n r F):=by
 intro bw;have b:=aly (ao:=ao) k;induction bw with
 |zero=>
  intro n r F au;rw[cz,cz,b];have d:r=[]:=m4.1 (by omega);cases dS ao .text true n r F with
  |ok x ad c=>
   cases x with
   |inl s=>unfold cR wF;simp only;rw[aO (by omega),aO (by omega)];rfl
   |inr a=>rfl
  |_=>rfl
 |succ bw e=>
  intro n r F au;rw[cz,cz,b];cases dS ao .text true n r F with
  |ok x ad c=>
   cases x with
   |inl s=>
    unfold cR wF;simp only;by_cases ay:ad.length<r.length
    ·grind
    ·rw[aO ay,aO ay];rfl
   |inr a=>rfl
  |_=>rfl
theorem Zq:∀(bw:Nat)(b:Bool)(r:H)(F:ah),r.length<=bw->(∃r' c,(∃x,b8 hX b r F= .ok x r' c)/\∃x,b8 hX (!b) r F= .ok x r' c)\/b8 hX b r F=b8 hX (!b) r F:=by
 intro bw b r F au;cases Y:bo r with
 |none=>
  right;rw[cz,cz];have:∀b,hX b r F= .more [] (cW [] F []).1 (cW [] F []).2:=λb=>dt (iY Y)
  grind
 |some ad=>
  by_cases a:aq ad= .line
  ·obtain⟨t,rfl⟩:=wD a;grind[cz,ub]
  ·left;exact⟨ad,F,⟨b,by rw[cz,rH Y a];rfl⟩,⟨!b,by rw[cz,rH Y a];rfl⟩⟩
theorem alz{fr:Bool}{m:Nat}{u w:H}{k:Nat}{r:H}{F:ah}(hu:dK u)(h:f_ fr m u= .ok k r F)(av:k≠0){j:Nat}{c:H}{d:ah}(a:f_ fr m w= .ok j c d):
  f_ fr m (u++w)= .ok (j+k) c d:=by
 have e:f_ fr m (u++w)=N (b8 hX true) (λ_=>b8 (dS (g0 fr m) .text true) k) w []:=alw hu h av .text true w;rw[e];unfold f_ at a;rw[s_,o0] at a;obtain⟨b,ad,f,M,U⟩:=bY a;have g:=h3.1 M;rw[rG] at g
 have:∃x,b8 hX true w []= .ok x ad f:=by
  rcases Zq _ false w [] (cF _) with⟨r',l,⟨x,aY⟩,y,n⟩|aY
  ·grind
  grind
 obtain⟨x,i⟩:=this;rw[aS i];have:=Zp (ao:=g0 fr m) k _ 0 ad f (cF _);rw[Nat.zero_add] at this;rw[this,U];rfl
def o1(b:UInt8):Bool:=b==60||b==62||b==38||b==124||b==59||b==40||b==41
theorem mU{b:UInt8}{t:H}(h:o1 b=false):bs (b::t)=[]:=by
 simp only[o1,Kh,OY,ne_eq] at h;obtain⟨⟨⟨⟨⟨⟨M,U⟩,a⟩,d⟩,f⟩,g⟩,i⟩:=h
 have e:∀(c:UInt8)(o:H),b≠c->(c::o).isPrefixOf (b::t)=false:=by grind
 simp_all[bs,kd,uF,List.find?_nil]
def qR(b:UInt8):Bool:= !fJ b&&b !=10&& !o1 b&&b !=92&&b !=39&&b !=34&&b !=96&&b !=36
theorem I8{b:UInt8}(h:qR b=true):fJ b=false/\b≠10/\o1 b=false/\b≠92/\b≠39/\b≠34/\b≠96/\b≠36:=by simp_all[qR,hH,By,bne_iff_ne,ne_eq]
theorem FF{b:UInt8}{t:H}(h:qR b=true):c1 (b::t)=false:=by grind[I8,c1,mU]
theorem Zr{b:UInt8}{t:H}(h:b≠36):gG (b::t)=false:=by
 unfold gG;split
 ·rename_i M;cases M;exact absurd rfl h
 ·rename_i M;cases M;exact absurd rfl h
 ·rfl
theorem Zs:∀(w r:H),w.all qR=true->c1 r=true->dc (w++r)=(w,true)
 |[],r,_,c=>by
  cases r with
  |nil=>rfl
  |cons b t=>grind[dc]
 |b::w,r,a,c=>by simp only[BA,hH] at a;obtain⟨M,U,d,e,f,g,h,i⟩:=I8 a.1;simp only[fV];simp_all[dc,FF,aO,Zr,Zs]
theorem n7{w r:H}(au:w≠[])(a:w.all qR=true)(c:c1 r=true):aq (w++r)= .word w true:=by
 have aE:=Zs w r a c;cases w with
 |nil=>grind
 |cons b t=>simp only[BA,hH] at a;simp_all[I8,fV,aq,aO,mU]
theorem jG{b:UInt8}{t:H}(M:fJ b=false)(U:b≠35)(a:b≠92):bo (b::t)=some (b::t):=by grind[nK]
theorem kx(t:H):bo (32::t)=bo t:=by simp[nK,fJ]
theorem Zt{D:ae Unit}{dq:Option (ae Unit)}{b:UInt8}{t:H}{F:ah}(h:qR b=true):cJ D dq (b::t) F= .ok () t F:=by obtain⟨M,U,e,a,f,g,c,d⟩:=I8 h;unfold cJ;simp only[a,c,Zr d,cA,eQ];grind
theorem C5{D:ae Unit}{b:UInt8}{t r':H}{F a:ah}(c:c1 (b::t)=false)(h:cJ D (some (e2 D)) (b::t) F= .ok () r' a)(ay:r'.length<(b::t).length):cX D (b::t) F=cX D r' a:=by unfold cX;rw[cz];simp only[c,eQ,cA];rw[aS h];simp_all[cR,a1,cK]
theorem S0{D:ae Unit}:∀(w r:H)(F:ah),w.all qR=true->cX D (w++r) F=cX D r F
 |[],r,F,_=>rfl
 |b::w,r,F,a=>by simp only[BA,hH] at a;simp only[fV];rw[C5 (FF a.1) (Zt a.1) (by simp),S0 w r F a.2]
theorem M5{c b:UInt8}{part:ae Unit}{t r':H}{F a:ah}(d:b≠c)(h:part (b::t) F= .ok () r' a)(ay:r'.length<(b::t).length):jD c part (b::t) F=jD c part r' a:=by unfold jD;rw[cz];simp only[d,cA];rw[aS h];simp_all[cR,a1,cK]
theorem alA{D:ae Unit}{v v':H}{F:ah}(Y:bo v=some v')(h:ff (bs (v'.dropWhile ch))=false):dz D v F= .ok false v' F/\g7 D v F= .ok () v' F:=by
 have e:dz D v F= .ok false v' F:=by
  have:fL v F= .ok none v' F:=by grind[fL]
  unfold dz;rw[aS this];rfl
 refine⟨e,?_⟩;unfold g7;rw[cz,aS e];rfl
theorem pw{r ad:H}{F:ah}(Y:bo r=some ad)(a:aq ad≠ .line):c2 r F= .ok false ad F:=by rw[rG,cz,rH Y a];rfl
theorem alB{F:ah}(a:ks F []= .inl []):c2 [10] F= .ok true [] []:=by
 rw[rG,cz,ub (Y5 [])];have:N jt (λ_=>a1 (.inl true)) [10] F=(.ok (.inl true) [] []:dp (Bool⊕Bool)):=by unfold N;rw[s5,a];rfl
 rw[this];unfold cR;simp only[w8,OS,Nat.lt_one_iff,cK];rw[cz,rH mK (by decide)];rfl
theorem S1{dm:ae Unit}{x v v':H}{F a:ah}(Y:bo x=some x)(c:cG (aq x) [33]=false)(az:dm x F= .ok () v a)(b:bo v=some v')(M:aq v'≠ .op [124])(U:aq v'≠ .op [38,38])(f:aq v'≠ .op [124,124]):
  fu dm x F= .ok () v' a/\h2 (fu dm) x F= .ok () v' a:=by
 have d:=l1 _ _ _ (cF _) b;have e:fu dm x F= .ok () v' a:=by unfold fu;rw[aS (cu Y),c];simp only[eQ,cA];rw[aS (show a1 () x F= .ok () x F from rfl),aS az,cz,aS (cu b),aO M];rfl
 refine⟨e,?_⟩;unfold h2;rw[aS e,cz,aS (cu d),aO (by grind)];rfl
theorem l2{w r:H}(au:w≠[])(a:w.all qR=true)(d:w.head?≠some 35)(c:c1 r=true):aq (w++r)= .word w true/\bo (w++r)=some (w++r):=by
 refine⟨n7 au a c,?_⟩;cases w with
 |nil=>grind
 |cons b t=>simp_all[BA,hH,I8,jG]
theorem rJ(t:H):c1 (32::t)=true:=by rfl
section
variable{fr:Bool}{n k:Nat}{u r:H}{F:ah}(hu:dK u)(h:f_ fr n u= .ok k r F)(av:k≠0)
include hu h av
omit hu h av in
theorem rK{w v:H}{F:ah}(au:w≠[])(a:w.all qR=true)(b:w.head?≠some 35)(c:c1 v=true):cS w (w++v) F= .ok () v F:=by obtain⟨d,e⟩:=l2 au a b c;unfold cS nJ;rw[aS (cu e),d,aO (by simp)];simp[b6,cG]
omit hu h av in
theorem Zu{w v:H}{F:ah}:b6 w.length (w++v) F= .ok () v F:=by simp[b6,oN]
end
theorem S2(t:H):bs (40::t)=[40]:=by rfl
theorem I9(t:H):c1 (40::t)=true:=by rfl
theorem S3{D:ae Unit}{b:UInt8}{t:H}{F:ah}(Y:bo (b::t)=some (b::t))(aD:ch b=false)(a:o1 b=false):dz D (b::t) F= .ok false (b::t) F:=
 (alA Y (by
  have:(b::t).dropWhile ch=b::t:=by simp_all
  rw[this,mU a];rfl)).1
theorem FG:∀(n:Nat)(r q:H),r.length<=n->hE r=some q->q<:+r:=by
 intro n;induction n with
 |zero=>simp_all[m4,Nat.le_zero,hE]
 |succ n a=>
  intro r q au h;cases r with
  |nil=>grind
  |cons b t=>unfold hE at h;grind
theorem A1:∀(r q:H),gw r=some q->q<:+r
 |[],q,h=>by grind[gw]
 |b::t,q,h=>by
  unfold gw at h;split at h
  ·cases h;exact dL b _
  ·exact(A1 t q h).trans (dL b t)
structure k7 where
 T:H
 bw:H->Nat
 c:Nat
 Q:H->ah->Prop
structure k7.g5(E:k7)(n:Nat)(r:H)(F:ah):Prop where
 sfx:r<:+E.T
 le:E.bw r+E.c<=n
 q:E.Q r F
def ia(E:k7){α:Type}(r0:H):dp α->Prop
 | .ok _ r F=>r<:+r0/\E.Q r F
 | .deep _=>False
 |_=>True
def ab(E:k7)(n:Nat){α:Type}(f:ae α):Prop:=∀r F,E.g5 n r F->ia E r (f r F)
structure k7.mN(E:k7):Prop where
 fb:1<=E.c
 mono:∀r r',r'<:+r->r<:+E.T->E.bw r'<=E.bw r
 alC:∀r r' F,r'<:+r->r<:+E.T->E.Q r F->E.Q r' F
 Zv:∀r,r<:+E.T->E.Q r []
 s7:∀r F o tabs r' aG,r<:+E.T->E.Q r F->bs r=o->(o=[60,60]/\tabs=false\/o=[60,60,45]/\tabs=true)->gS tabs (r.drop o.length) F= .ok () r' aG->E.Q r' aG
 ua:∀u,36::40::u<:+E.T->u.head?≠some 40->E.bw u+1<=E.bw (36::40::u)\/∀n F,E.c<=n->E.Q (36::40::u) F->ia E (36::40::u) ((aU true n).dl (36::40::u) F)
 p9:∀u,36::123::u<:+E.T->E.bw u+1<=E.bw (36::123::u)\/∀n F,E.c<=n->E.Q (36::123::u) F->ia E (36::123::u) ((aU true n).dl (36::123::u) F)
 comp:∀r,r<:+E.T->bo r=some r->gg (aq r)=true->E.bw (r.drop (lX (aq r)).length)+1<=E.bw r\/∀n F,E.c<=n->E.Q r F->ia E r ((aU true n).cp (aq r) r F)
 func:∀u,40::u<:+E.T->E.bw u+1<=E.bw (40::u)\/∀n F,E.c<=n+1->E.Q (40::u) F->ia E (40::u) (lk true (some (aU true n)) (40::u) F)
section
variable{E:k7}(ok:E.mN){n:Nat}
theorem ia.mono{α:Type}{r0 r:H}{x:dp α}(h:ia E r x)(M:r<:+r0):ia E r0 x:=by
 cases x with
 |ok a ad b=>exact⟨h.1.trans M,h.2⟩
 |more _ _ _=>trivial
 |bad _=>trivial
 |deep _=>exact h
theorem ia.N{α β:Type}{m:ae α}{k:α->ae β}{r0 r:H}{F:ah}(h:ia E r0 (m r F))(av:∀a r' b,m r F= .ok a r' b->r'<:+r0->E.Q r' b->ia E r0 (k a r' b)):ia E r0 (Go.Eng.N m k r F):=by
 unfold Go.Eng.N;cases hm:m r F with
 |ok a ad c=>rw[hm] at h;exact av a ad c hm h.1 h.2
 |more _ _ _=>trivial
 |bad _=>trivial
 |deep q=>rw[hm] at h;exact h
theorem ia.aM{α:Type}{m:ae α}{r0 r:H}{F:ah}{x:H}(h:ia E r0 (m r F)):ia E r0 (m.aM x r F):=by
 unfold ae.aM;cases hm:m r F with
 |more _ _ _=>trivial
 |ok a ad b=>grind
 |bad _=>trivial
 |deep q=>grind
theorem ia.named{α:Type}{m:ae α}{r0 r:H}{F:ah}{x:H}(h:ia E r0 (m r F)):ia E r0 (m.named x r F):=by
 unfold ae.named;cases hm:m r F with
 |more _ _ _=>trivial
 |ok a ad b=>grind
 |bad _=>trivial
 |deep q=>grind
theorem ab.aM{α:Type}{m:ae α}(h:ab E n m)(x:H):ab E n (m.aM x):=λr F a=>(h r F a).aM
theorem ab.named{α:Type}{m:ae α}(h:ab E n m)(x:H):ab E n (m.named x):=λr F a=>(h r F a).named
theorem ab.cf{α:Type}(x:H):ab E n (Go.Eng.cf x:ae α):=λr F _=>trivial
theorem ab.bP{α:Type}:ab E n (Go.Eng.bP:ae α):=λr F _=>trivial
theorem ab.ret{α:Type}(a:α):ab E n (a1 a):=λr F h=>⟨fq,h.q⟩
theorem ab.ite{α:Type}{p:Prop}[Decidable p]{f g:ae α}(hf:ab E n f)(bu:ab E n g):ab E n (if p then f else g):=by grind
include ok
theorem k7.g5.down{r r':H}{F a:ah}(h:E.g5 n r F)(M:r'<:+r)(U:E.Q r' a):E.g5 n r' a:=⟨M.trans h.sfx,by have:=ok.mono r r' M h.sfx;have:=h.le;omega,U⟩
theorem k7.g5.qS{r r':H}{F:ah}(h:E.g5 n r F)(M:r'<:+r):E.g5 n r' F:=h.down ok M (ok.alC r r' F M h.sfx h.q)
theorem ab.N{α β:Type}{m:ae α}{k:α->ae β}(hm:ab E n m)(av:∀a,ab E n (k a)):ab E n (Go.Eng.N m k):=λr F h=>
 (hm r F h).N λa r' b _ M U=>(av a r' b (h.down ok M U)).mono M
theorem ab.iE{f:ae Unit}(hf:∀r F,match f r F with| .ok _ r' b=>r'<:+r/\b=F| .deep _=>False|_=>True):ab E n f:=λr F h=>by
 have:=hf r F;cases hm:f r F with
 |ok a ad c=>rw[hm] at this;obtain⟨M,rfl⟩:=this;exact⟨M,(h.qS ok M).q⟩
 |more _ _ _=>trivial
 |bad _=>trivial
 |deep q=>grind
theorem ab.dA(k:Nat):ab E n (b6 k):=ab.iE ok λr F=>⟨lO _ _,rfl⟩
theorem ab.rep{σ α:Type}{f:σ->ae (σ⊕α)}(hf:∀s,ab E n (f s))(s:σ):ab E n (b8 f s):=by
 have b:∀(bw:Nat)(s:σ)(r:H)(F:ah),r.length<=bw->E.g5 n r F->ia E r (b8 f s r F):=by
  intro bw;induction bw with
  |zero=>
   intro s r F d h;rw[cz];have:=hf s r F h;unfold cR;cases hm:f s r F with
   |ok x ad c=>
    rw[hm] at this;cases x with
    |inl s'=>simp only;rw[aO (by omega)];trivial
    |inr a=>exact this
   |more _ _ _=>trivial
   |bad _=>trivial
   |deep q=>rw[hm] at this;exact this
  |succ bw e=>
   intro s r F d h;rw[cz];have:=hf s r F h;unfold cR;cases hm:f s r F with
   |ok x ad c=>
    rw[hm] at this;cases x with
    |inl s'=>
     simp only;split
     ·exact(e s' ad c (by omega) (h.down ok this.1 this.2)).mono this.1
     ·trivial
    |inr a=>exact this
   |more _ _ _=>trivial
   |bad _=>trivial
   |deep q=>rw[hm] at this;exact this
 exactλr F h=>b _ s r F (cF _) h
theorem ab.dR{α:Type}{x:H}{k:Tok->ae α}(av:∀r F,E.g5 n r F->bo r=some r->ia E r (k (aq r) r F)):ab E n (Go.Eng.N (bV x) k):=by
 intro r F h;cases Y:bo r with
 |none=>rw[dt (iY Y)];trivial
 |some r'=>rw[aS (cu Y)];have a:=ef Y;exact(av r' F (h.qS ok a) (l1 _ _ _ (cF _) Y)).mono a
theorem ab.ga{α:Type}{x:H}{k:Tok->ae α}(av:∀t,ab E n (k t)):ab E n (Go.Eng.N (bV x) k):=ab.dR ok λr F h _=>av _ r F h
theorem ab.exp(b:Tok->Bool)(k:Nat):ab E n (nJ b k):=ab.ga ok λt=>ab.ite (ab.cf _) (ab.ite (ab.dA ok _) ab.bP)
theorem ab.j1(o:H):ab E n (Go.Eng.j1 o):=ab.exp ok _ _
theorem ab.cS(o:H):ab E n (Go.Eng.cS o):=ab.exp ok _ _
theorem ab.nl:ab E n jt:=by
 intro r F h;cases r with
 |nil=>exact⟨fq,h.q⟩
 |cons b t=>
  unfold jt;simp only;cases a:ks F t with
  |inl r'=>have M:=((vl F t [] r' a).1).trans (dL b t);exact⟨M,ok.Zv _ (M.trans h.sfx)⟩
  |inr nd=>trivial
theorem ab.lines:ab E n c2:=ab.rep ok (λ_=>ab.ga ok λt=>ab.ite (ab.N ok (ab.nl ok) λ_=>ab.ret _) (ab.ret _)) _
theorem ab.part{D:ae Unit}(hD:ab E n D){dq:Option (ae Unit)}(c:∀q,dq=some q->ab E n q):ab E n (cJ D dq):=by
 intro r F h;cases r with
 |nil=>exact⟨fq,h.q⟩
 |cons b t=>
  have a:t<:+b::t:=dL b t
  have d:∀(f:H->Option H)(x:H),(∀r q,f r=some q->q<:+r)->ia E (b::t) (jS f x t F):=by
   intro f x hf;unfold jS;cases hm:f t with
   |none=>trivial
   |some q=>have:=(hf _ _ hm).trans a;exact⟨this,(h.qS ok this).q⟩
  unfold cJ;simp only;split
  ·have:=(lO 1 t).trans a;exact⟨this,(h.qS ok this).q⟩
  ·split
   ·exact d _ _ λr q e=>FG _ r q (cF _) e
   ·split
    ·exact hD _ _ h
    ·cases dq with
     |none=>exact⟨a,(h.qS ok a).q⟩
     |some q=>
      simp only;split
      ·grind[A1]
      ·split
       ·exact(c q rfl t F (h.qS ok a)).mono a
       ·exact⟨a,(h.qS ok a).q⟩
theorem ab.C6{p:ae Unit}(aE:ab E n p)(c:UInt8):ab E n (jD c p):=by
 refine ab.rep ok (λ_=>?_) _;intro r F h;cases r with
 |nil=>trivial
 |cons b t=>
  simp only;split
  ·exact⟨dL b t,(h.qS ok (dL b t)).q⟩
  ·exact ab.N ok aE (λ_=>ab.ret _) _ _ h
theorem ab.double{D:ae Unit}(hD:ab E n D):ab E n (e2 D):=((ab.C6 ok (ab.part ok hD (λq a=>by cases a)) _).aM _).named _
theorem ab.zp{D:ae Unit}(hD:ab E n D):ab E n (cJ D (some (e2 D))):=ab.part ok hD λq a=>by grind[ab.double]
theorem ab.param{D:ae Unit}(hD:ab E n D):ab E n (rA D):=(ab.C6 ok (ab.zp ok hD) _).aM _
theorem ab.cX{D:ae Unit}(hD:ab E n D):ab E n (Go.Eng.cX D):=by
 refine ab.rep ok (λ_=>?_) _;intro r F h;cases r with
 |nil=>trivial
 |cons b t=>
  simp only;split
  ·exact⟨fq,h.q⟩
  ·exact ab.N ok (ab.zp ok hD) (λ_=>ab.ret _) _ _ h
theorem ab.ke{D:ae Unit}(hD:ab E n D)(x:H):ab E n (Go.Eng.ke D x):=by refine ab.ga ok λt=>?_;grind[ab.cf,ab.cX,ab.bP]
theorem ab.jF{D:ae Unit}(hD:ab E n D):ab E n (dz D):=by
 intro r F h;unfold dz;cases Y:bo r with
 |none=>
  have:fL r F=Go.Eng.cf [] r F:=by grind[fL]
  unfold Go.Eng.N;rw[this];trivial
 |some r'=>
  have b:=ef Y;have f:r'.dropWhile ch<:+r:=C1.trans b;have c:=h.qS ok f;by_cases p:ff (bs (r'.dropWhile ch))=true
  ·have:fL r F= .ok (some (bs (r'.dropWhile ch))) ((r'.dropWhile ch).drop (bs (r'.dropWhile ch)).length) F:=by simp_all[fL,bc]
   rw[aS this];generalize r'.dropWhile ch=q at*;have aD:q.drop (bs q).length<:+q:=lO _ _;have e:=c.qS ok aD;simp only;refine ia.mono (r:=q) (ia.N ?_ λ_ g i _ U j=>⟨U,j⟩) f
   have k:∀tabs,(bs q=[60,60]/\tabs=false\/bs q=[60,60,45]/\tabs=true)->ia E q (gS tabs (q.drop (bs q).length) F):=by
    intro tabs l;cases hm:gS tabs (q.drop (bs q).length) F with
    |more _ _ _=>trivial
    |bad _=>trivial
    |deep x=>grind[gS]
    |ok a g i=>
     refine⟨?_,ok.s7 q F _ tabs g i c.sfx c.q rfl l hm⟩;refine List.IsSuffix.trans ?_ aD;generalize q.drop (bs q).length=v at hm;unfold gS at hm;split at hm
     ·cases hm
     ·rename_i v' m;split at hm
      ·cases hm
      ·split at hm
       ·cases hm
       ·rename_i d s t o
        repeat' (split at hm)
        all_goals cases hm
        exact(MU _ _ _ (cF _) o).trans (ef m)
      grind
   by_cases M:bs q=[60,60]
   ·grind
   ·rw[aO M];by_cases U:bs q=[60,60,45]
    ·grind
    ·rw[aO U];exact(ab.ke ok hD _ _ _ e).mono aD
  ·have:fL r F= .ok none r' F:=by simp_all[fL,aO]
   rw[aS this];exact⟨b,(h.qS ok b).q⟩
theorem ab.nc{D:ae Unit}(hD:ab E n D):ab E n (g7 D):=ab.rep ok (λ_=>ab.N ok (ab.jF ok hD) λb=>ab.ret _) _
theorem ab.simple{D:ae Unit}(hD:ab E n D)(fr:Bool):ab E n (g8 fr D):=by
 refine ab.rep ok (λ_=>ab.N ok (ab.jF ok hD) λb=>ab.ite (ab.ret _) (ab.ga ok λt=>?_)) _;cases t with
 |word _ _=>grind[ab.N,ab.cX,ab.ret]
 |op o=>simp[ab.ite,ab.bP,ab.ret]
 |_=>simp[ab.ret]
theorem ab.pipe{dm:ae Unit}(h:ab E n dm):ab E n (fu dm):=ab.ga ok λt=>ab.N ok (ab.ite (ab.dA ok _) (ab.ret _)) λ_=>ab.N ok h λ_=>
 ab.rep ok (λ_=>ab.ga ok λt=>ab.ite (ab.N ok (ab.dA ok _) λ_=>ab.N ok ((ab.lines ok).aM _) λ_=>ab.N ok h λ_=>ab.ret _) (ab.ret _)) _
theorem ab.qc{a:ae Unit}(h:ab E n a):ab E n (h2 a):=ab.N ok h λ_=>
 ab.rep ok (λ_=>ab.ga ok λt=>ab.ite (ab.N ok (ab.dA ok _) λ_=>ab.N ok ((ab.lines ok).aM _) λ_=>ab.N ok h λ_=>ab.ret _) (ab.ret _)) _
theorem ab.list{ao:ae Unit}(h:ab E n ao)(c:Ctx)(no:Bool):ab E n (oZ ao c no):=ab.N ok ((ab.lines ok).aM _) λ_=>ab.rep ok (λk=>ab.ga ok λt=>
 ab.ite (ab.ite (ab.ret _) (ab.cf _)) (ab.ite (ab.ret _) (ab.N ok h λ_=>ab.ga ok λt=>by
  cases t with
  |eof=>simp[ab.ret]
  |line=>grind[ab.N,ab.lines,ab.ret]
  |word _ _=>exact ab.bP
  |op o=>exact ab.ite (ab.N ok (ab.dA ok _) λ_=>ab.N ok (ab.lines ok) λ_=>ab.ret _) (ab.ite (ab.ret _) ab.bP)))) _
end
structure xN(E:k7)(n:Nat):Prop where
 ls:∀c no,ab E n ((aU true n).ls c no)
 pm:ab E n (aU true n).pm
 cp:∀r F,E.g5 n r F->bo r=some r->gg (aq r)=true->ia E r ((aU true n).cp (aq r) r F)
 rd:ab E n (aU true n).rd
 dl:ab E n (aU true n).dl
section
variable{E:k7}(ok:E.mN){n:Nat}
include ok
theorem k7.g5.pos{r:H}{F:ah}(h:E.g5 n r F):1<=n:=by have:=ok.fb;have:=h.le;omega
theorem ab.n3:ab E n Go.Eng.n3:=by
 refine ab.iE ok λr F=>?_;unfold Go.Eng.n3;cases h:iu 0 r with
 |ok q=>exact⟨AZ 0 r q h,rfl⟩
 |more _=>trivial
 |bad _=>trivial
theorem ab.S4{lo:Option ea}{k:Nat}(ay:(lo=none/\k=0)\/∃m,lo=some (aU true m)/\k=m+1/\xN E m):ab E k (dG lo):=by
 intro r F h;have av:=h.pos ok;rcases ay with⟨_,rfl⟩|⟨m,rfl,rfl,hm⟩
 ·omega
 have f:(aU true (m+1)).dl=dG (some (aU true m)):=rfl;have a:∀k,r.drop k<:+r:=λk=>lO _ _
 unfold dG;split
 ·exact((ab.dA ok _).N ok (λ_=>ab.n3 ok)) r F h
 ·rename_i g;split
  ·rename_i U;rw[DP] at U;obtain⟨u,rfl⟩:=U;have hu:u.head?≠some 40:=by
    intro e;cases u with
    |nil=>cases e
    |cons c v=>grind
   rcases ok.ua u h.sfx hu with Y|bu
   ·have b:E.g5 m u F:=⟨(a 2).trans h.sfx,by have:=h.le;grind,(h.qS ok (a 2)).q⟩;have:s3 (some (aU true m)) 2 vk ([36,40]++u) F=vk (aU true m) u F:=rfl;rw[this];refine ia.mono ?_ (a 2);exact ab.N ok (((hm.ls _ _).aM _).named _) (λ_=>ab.j1 ok _) _ _ b
   ·have:=bu (m+1) F (by have:=h.le;omega) h.q;simp_all[dG,H,aO,bc,List.isPrefixOf]
  ·rename_i U;split
   ·rename_i d;rw[DP] at d;obtain⟨u,rfl⟩:=d;rcases ok.p9 u h.sfx with Y|bu
    ·have b:E.g5 m u F:=⟨(a 2).trans h.sfx,by have:=h.le;grind,(h.qS ok (a 2)).q⟩;have:s3 (some (aU true m)) 2 (λl=>l.pm.named [36,123]) ([36,123]++u) F=((aU true m).pm.named [36,123]) u F:=rfl;rw[this];exact((hm.pm.named _) _ _ b).mono (a 2)
    ·have:=bu (m+1) F (by have:=h.le;omega) h.q;simp_all[dG,H,aO,bc,List.isPrefixOf]
   ·exact⟨a 1,(h.qS ok (a 1)).q⟩
section
variable{m:Nat}(hm:xN E m)
include hm
theorem ab.body(x:H):ab E m (ji (aU true m) x):=ab.N ok ((ab.cS ok _).aM _) λ_=>ab.N ok ((hm.ls _ _).aM _) λ_=>ab.cS ok _
theorem ab.cond:ab E m (rC (aU true m)):=ab.rep ok (λ_=>ab.N ok ((hm.ls _ _).aM _) λ_=>ab.N ok (ab.cS ok _) λ_=>ab.N ok ((hm.ls _ _).aM _) λ_=>
 ab.ga ok λt=>ab.ite (ab.N ok (ab.cS ok _) λ_=>ab.ret _) (ab.ite (ab.N ok (ab.cS ok _) λ_=>ab.N ok ((hm.ls _ _).aM _) λ_=>ab.N ok (ab.cS ok _) λ_=>ab.ret _) (ab.N ok (ab.cS ok _) λ_=>ab.ret _))) _
theorem ab.words:ab E m (qa (aU true m).dl):=ab.rep ok (λ_=>ab.ga ok λt=>by
 cases t with
 |eof=>simp[ab.cf]
 |word _ _=>exact ab.N ok (ab.cX ok hm.dl) λ_=>ab.ret _
 |line=>simp[ab.ret]
 |op o=>exact ab.ite (ab.N ok (ab.dA ok _) λ_=>ab.ret _) ab.bP) _
theorem ab.for_:ab E m (qb (aU true m) (aU true m).dl):=ab.ga ok λt=>by
 cases t with
 |eof=>simp[ab.cf]
 |word w p=>
  cases p with
  |true=>
   refine ab.ite (ab.N ok (ab.dA ok _) λ_=>ab.N ok (ab.aM (ab.ga ok λt=>?_) _) λ_=>ab.body ok hm _) ab.bP;exact ab.ite (ab.N ok (ab.dA ok _) λ_=>ab.N ok (ab.lines ok) λ_=>ab.ret _) (ab.N ok (ab.lines ok) λ_=>ab.ga ok λt=>
    ab.ite (ab.N ok (ab.dA ok _) λ_=>ab.N ok (ab.words ok hm) λ_=>ab.N ok (ab.lines ok) λ_=>ab.ret _) (ab.ret _))
  |false=>exact ab.bP
 |_=>exact ab.bP
theorem ab.xK:ab E m (lJ (aU true m).dl):=ab.rep ok (λ_=>ab.ga ok λt=>by
 cases t with
 |eof=>simp[ab.cf]
 |word _ _=>
  refine ab.N ok ((ab.cX ok hm.dl).aM _) λ_=>ab.ga ok λt=>?_;cases t with
  |op o=>exact ab.ite (ab.N ok (ab.dA ok _) λ_=>ab.ret _) (ab.ite (ab.N ok (ab.dA ok _) λ_=>ab.ret _) ab.bP)
  |eof=>simp[ab.cf]
  |_=>exact ab.bP
 |_=>exact ab.bP) _
theorem ab.items:ab E m (n4 (aU true m) (aU true m).dl):=ab.rep ok (λ_=>ab.N ok (ab.lines ok) λ_=>ab.ga ok λt=>ab.ite (ab.cf _) (ab.ite (ab.N ok (ab.dA ok _) λ_=>ab.ret _)
 (ab.N ok (ab.ite (ab.dA ok _) (ab.ret _)) λ_=>ab.N ok (ab.xK ok hm) λ_=>ab.N ok (hm.ls _ _) λ_=>ab.ga ok λt=>ab.ite (ab.N ok (ab.dA ok _) λ_=>ab.ret _) (ab.ret _)))) _
theorem ab.xL:ab E m (rD (aU true m) (aU true m).dl):=ab.ga ok λt=>by
 cases t with
 |eof=>simp[ab.cf]
 |word _ _=>exact ab.N ok (ab.aM (ab.N ok (ab.cX ok hm.dl) λ_=>ab.N ok (ab.lines ok) λ_=>ab.ga ok λt=>ab.ite (ab.cf _) (ab.ret _)) _) λt=>ab.ite (ab.N ok (ab.dA ok _) λ_=>(ab.items ok hm).aM _) ab.bP
 |_=>exact ab.bP
theorem ia.kind{r:H}{F:ah}(h:E.g5 m (r.drop (lX (aq r)).length) F)(az:gg (aq r)=true):ia E r (gK (aU true m) (aq r) r F):=by
 have aD:∀k,r.drop k<:+r:=λk=>lO _ _
 cases a:aq r with
 |eof=>grind[gg]
 |line=>grind[gg]
 |op o=>rw[a] at h;have:gK (aU true m) (.op o) r F=Go.Eng.N (((aU true m).ls .paren false).aM [41]) (λ_=>Go.Eng.j1 [41]) (r.drop 1) F:=rfl;rw[this];exact(ab.N ok ((hm.ls _ _).aM _) (λ_=>ab.j1 ok _) _ _ h).mono (aD _)
 |word w p=>
  rw[a] at h;have:gK (aU true m) (.word w p) r F=(if w=[123] then Go.Eng.N (((aU true m).ls .p9 false).aM [10,125]) λ_=>Go.Eng.cS [125]
   else if w=jT then rC (aU true m)
   else if w=mz then qb (aU true m) (aU true m).dl
   else if w=oB then rD (aU true m) (aU true m).dl
   else Go.Eng.N (((aU true m).ls .p_ false).aM eB) λ_=>ji (aU true m) eB:ae Unit) (r.drop w.length) F:=rfl
  rw[this];refine ia.mono ?_ (aD w.length);refine ab.ite ?_ (ab.ite (ab.cond ok hm) (ab.ite (ab.for_ ok hm) (ab.ite (ab.xL ok hm) ?_))) _ _ h
  ·exact ab.N ok ((hm.ls _ _).aM _) λ_=>ab.cS ok _
  ·exact ab.N ok ((hm.ls _ _).aM _) λ_=>ab.body ok hm _
theorem ia.cp{r:H}{F:ah}(h:E.g5 (m+1) r F)(Y:bo r=some r)(az:gg (aq r)=true):ia E r ((aU true (m+1)).cp (aq r) r F):=by
 rcases ok.comp r h.sfx Y az with a|bu
 ·have aD:r.drop (lX (aq r)).length<:+r:=lO _ _;have b:E.g5 m (r.drop (lX (aq r)).length) F:=⟨aD.trans h.sfx,by have:=h.le;omega,(h.qS ok aD).q⟩;have:(aU true (m+1)).cp (aq r) r F=((gK (aU true m) (aq r)).named (lX (aq r))) r F:=rfl;grind[ia.kind,ia.named]
 ·exact bu _ _ (by have:=h.le;omega) h.q
theorem ia.function{u:H}{F:ah}(h:E.g5 (m+1) (40::u) F):ia E (40::u) (lk true (some (aU true m)) (40::u) F):=by
 rcases ok.func u h.sfx with g|bu
 ·have hu:u<:+40::u:=dL 40 u;have a:E.g5 m u F:=⟨hu.trans h.sfx,by have:=h.le;omega,(h.qS ok hu).q⟩;have d:(aU true m).has=true:=by
   cases m with
   |zero=>have:=a.pos ok;omega
   |succ _=>rfl
  unfold lk;simp only;rw[bc d];refine ia.named ?_;refine ia.mono ?_ hu;refine ab.ga ok (λt=>ab.ite (ab.cf _) (ab.ite ?_ ab.bP)) u F a;refine ab.N ok (ab.dA ok _) λ_=>ab.N ok ((ab.lines ok).aM _) λ_=>ab.dR ok λr F b Y=>?_;by_cases M:aq r= .eof
  ·rw[bc M];trivial
  rw[aO M];by_cases U:gg (aq r)=true
  ·rw[bc U];exact ia.N (hm.cp r F b Y U) λ_ ad e _ c f=>(hm.rd ad e (b.down ok c f)).mono c
  ·rw[aO U];trivial
 ·exact bu m F (by have:=h.le;omega) h.q
theorem ab.command:ab E (m+1) (fG true (some (aU true m)) (aU true (m+1)).dl):=by
 have hD:ab E (m+1) (aU true (m+1)).dl:=ab.S4 ok (.inr ⟨m,rfl,rfl,hm⟩);refine ab.dR ok λr F h Y=>?_;by_cases M:aq r= .eof
 ·rw[bc M];trivial
 rw[aO M];by_cases U:gg (aq r)=true
 ·rw[bc U];exact ia.N (ia.cp ok hm h Y U) λ_ ad d _ a c=>(ab.nc ok hD ad d (h.down ok a c)).mono a
 rw[aO U];cases f:aq r with
 |eof=>grind
 |line=>trivial
 |op o=>exact ab.ite (ab.N ok (ab.jF ok hD) λ_=>ab.simple ok hD true) ab.bP r F h
 |word w p=>
  refine ab.ite ab.bP (ab.N ok (ab.jF ok hD) λb=>ab.ite (ab.simple ok hD true) (ab.N ok (ab.cX ok hD) λ_=>ab.ite (ab.dR ok λr F h Y=>?_) (ab.simple ok hD true))) r F h;by_cases a:aq r= .op [40]
  ·rw[bc a];obtain⟨u,rfl⟩:=(h4 a).2.1;exact ia.N (ia.function ok hm h) λ_ ad d _ c e=>⟨c,e⟩
  ·rw[aO a];exact ab.simple ok hD true r F h
end
omit n in
theorem mV:∀n,xN E n
 |0=>by
  have a:∀{r F},¬E.g5 0 r F:=λh=>by have:=h.pos ok;omega
  exact⟨λc no r F h=>absurd h a,λr F h=>absurd h a,λr F h=>absurd h a,λr F h=>absurd h a,λr F h=>absurd h a⟩
 |m+1=>by have hm:=mV m;have hD:ab E (m+1) (aU true (m+1)).dl:=ab.S4 ok (.inr ⟨m,rfl,rfl,hm⟩);exact⟨λc no=>ab.list ok (ab.qc ok (ab.pipe ok (ab.command ok hm))) c no,ab.param ok hD,λr F h Y az=>ia.cp ok hm h Y az,ab.nc ok hD,hD⟩
theorem Zw(h:E.bw E.T+E.c<=n):∀q,f_ true n E.T≠ .deep q:=by intro q a;have:=(mV ok n).ls .text true E.T [] ⟨fq,h,ok.Zv _ fq⟩;unfold f_ at a;rw[a] at this;exact this
end
end Go.Eng
namespace Go.Eng
open Go Go.Proofs
theorem aR{α β:Type}{m:Option α}{k:α->Option β}{y:α}(h:m=some y):aw m k=k y:=by rw[h];rfl
theorem Zx{α β:Type}{c:Prop}[Decidable c]{x d:α}{k:α->Option β}(h:c):cZ c (some x) d k=k x:=by unfold cZ;rw[bc h];rfl
theorem wH{α:Type}[Inhabited α]{l:List α}{k:Int}(h0:0<=k)(h:k<(l.length:Int)):l.drop k.toNat=at' l k::l.drop (k+1).toNat:=by grind[List.drop_eq_getElem_cons,at']
theorem M6{α:Type}{l:List α}{k:Int}(h0:0<=k):b4 l k (l.length:Int)=l.drop k.toNat:=by simp[b4,GV]
def sk(c:UInt8):H->bx
 |[]=>[[]]
 |b::l=>if b=c then []::sk c l else match sk c l with
  |[]=>[[b]]
  |x::xs=>(b::x)::xs
theorem Zy(c:UInt8):∀(l:H),(Lib.indexByte l c= -1/\sk c l=[l]/\l.count c=0)\/
  ∃p:Nat,Lib.indexByte l c=p/\p<l.length/\sk c l=l.take p::sk c (l.drop (p+1))/\l.count c=(l.drop (p+1)).count c+1
 |[]=> .inl ⟨rfl,rfl,rfl⟩
 |b::l=>by
  by_cases h:b=c
  ·grind[Lib.indexByte,sk]
  ·have d:(b==c)=false:=by grind
   rcases Zy c l with⟨M,U,a⟩|⟨p,M,U,a,e⟩
   ·grind[Lib.indexByte,sk]
   ·refine .inr ⟨p+1,?_,?_,?_,?_⟩
    ·grind[Lib.indexByte]
    ·grind
    ·grind[sk]
    grind
theorem alE(a:bx)(s:H)(i:Nat)(bh:i<a.length):b4 (List.set a i s) 0 ((i:Int)+1)=a.take i++[s]:=by
 unfold b4;have b:((i:Int)+1).toNat=i+1:=by omega
 simp only[Kk,ym,Nat.sub_zero,b];rw[List.take_set,List.take_succ_eq_append_getElem bh,List.set_append_right _ _ (by grind)];simp only[List.length_take,Nat.min_eq_left (show i<=a.length by omega),Nat.sub_self,List.set_cons_zero]
theorem alF(a:bx)(s:H)(i:Nat)(bh:i<a.length):(List.set a i s).take (i+1)=a.take i++[s]:=by rw[List.take_set,List.take_succ_eq_append_getElem bh,List.set_append_right _ _ (by grind)];simp only[List.length_take,Nat.min_eq_left (show i<=a.length by omega),Nat.sub_self,List.set_cons_zero]
theorem alG(I:H)(c:UInt8)(n:Nat)(v:(I.length:Int)<=1048576)(au:(n:Int)=I.count c+1)(j:H×bx×Int->Option bx)
  (d:∀(s:H)(a:bx)(i:Nat),a.length=n->i<n->j (s,a,(i:Int))=some (a.take i++[s])):
  ∀(m:Nat)(s:H)(a:bx)(i:Nat),a.length=n->n=i+s.count c+1->s.length<=I.length->(s.count c:Int)<m->0<m->
  fixF (HB I [c] 0 (n:Int) j) m (s,a,(i:Int))=some (a.take i++sk c s):=by
 have kR:=List.count_le_length (a:=c) (l:=I);have e:min (n:Int) (W ((I.length:Int)+1))=n:=by grind[dJ]
 intro m;induction m with
 |zero=>omega
 |succ m f=>
  intro s a i g bh Y hm _;simp only[fixF,HB,a4,o_,e];have h:W ((n:Int)-1)=(n:Int)-1:=dJ (by omega) (by omega);have k:W ((i:Int)+1)=(i:Int)+1:=dJ (by omega) (by omega);rw[h];rcases Zy c s with⟨M,U,b⟩|⟨p,M,U,b,w⟩
  ·rw[aO (by omega),d _ _ _ g (by omega),U]
  ·rw[bc (by omega)];simp only[Qx,aw,M];have o:W ((p:Int)+0)=p:=by grind[dJ]
   have q:W ((p:Int)+(([c]:H).length:Int))=p+1:=by rw[dJ (by omega) (by grind)];simp
   rw[o,q,if_neg (by omega),if_pos ⟨by omega,by omega,by omega⟩,if_pos ⟨by omega,by omega⟩,if_pos ⟨by omega,by omega,by omega⟩,k];have r:b4 s ((p:Int)+1) (s.length:Int)=s.drop (p+1):=by rw[M6 (by omega)];congr 1
   have t:b4 s 0 (p:Int)=s.take p:=by rfl
   have u:(((i+1:Nat)):Int)=(i:Int)+1:=by omega
   rw[r,t,<-u];rw[f (s.drop (p+1)) _ (i+1) (by grind) (by omega) (by grind) (by omega) (by omega),b];simp only[Int.toNat_natCast];rw[alF _ _ _ (by omega),List.append_assoc];rfl
theorem Zz(I:H)(c:UInt8)(b:(I.length:Int)<=1048576):HF I [c]=some (sk c I):=by
 have kR:=List.count_le_length (a:=c) (l:=I);have bu:HC I [c] 0 (-1)=some (sk c I):=by
  unfold HC;simp only[a7,Bool.cond_decide,Qy,aw,Lib.countByte,a4];have d:W (((I.count c:Nat):Int)+1)=((I.count c+1:Nat):Int):=by grind[dJ]
  have e:min ((I.count c+1:Nat):Int) (W ((I.length:Int)+1))=((I.count c+1:Nat):Int):=by grind[dJ]
  rw[aO (by decide),aO (by simp),bc (by decide),d,e,bc ⟨by omega,by omega⟩];have f:(List.replicate (((I.count c+1:Nat):Int).toNat) ([]:H)).length=I.count c+1:=by simp
  refine Eq.trans (alG I c (I.count c+1) b (by omega) _ (λs a i h bh=>?_) bD I _ 0 f (by omega) (by omega) (by grind[gD]) (by simp[gD])) (by simp);have g:W ((i:Int)+1)=(i:Int)+1:=dJ (by omega) (by omega);simp only[g];rw[bc ⟨by omega,by omega⟩,bc ⟨by omega,by omega,by grind⟩];grind[alE]
 grind[HF,aR]
theorem alH(x:H)(ys:bx)(ay:(ys.length:Int)<=1048576)(j:Unit->Option Bool):∀(m:Nat)(k:Int),0<=k->k<=(ys.length:Int)->(ys.length:Int)-k<m->0<m->
  fixF (QU x ys j) m k=if(ys.drop k.toNat).contains x then some true else j ():=by
 intro m;induction m with
 |zero=>omega
 |succ m a=>
  intro k av b hm _;simp only[fixF,QU,a4,o_];by_cases M:k<(ys.length:Int)
  ·simp only[M,av,cK,oc];rw[dJ (by omega) (by omega),wH av M];grind
  ·simp only[M,cA];grind[List.drop_eq_nil_of_le]
theorem S5(x w:H)(a:(w.length:Int)<=1048576)(ay:((sk 32 w).length:Int)<=1048576):Ez x w=some ((sk 32 w).contains x):=by unfold Ez;rw[Zz w 32 a];simp only[aw,a7];rw[alH x _ ay _ bD 0 (by omega) (by omega) (by grind[gD]) (by simp[gD])];grind
theorem alI(s p:H):Lib.hasPrefix s p=decide (s.take p.length=p):=by unfold Lib.hasPrefix;rw[Bool.eq_iff_iff,DP,List.prefix_iff_eq_take];grind
theorem ZA(l:H)(a:Int)(b:0<=a)(c:a<(l.length:Int))(n:(l.length:Int)<=1048576)(ys:bx)(ay:(ys.length:Int)<=1048576)(d:∀y∈ys,(y.length:Int)<=100)(j:Unit->Option H):
  ∀(m:Nat)(k:Int),0<=k->k<=(ys.length:Int)->(ys.length:Int)-k<m->0<m->
  fixF (Mg l a ys j) m k=(match(ys.drop k.toNat).find? (λy=>Lib.hasPrefix (l.drop a.toNat) y) with|some y=>some y|none=>j ())/\
  fixF (Lu l a ys j) m k=(match(ys.drop k.toNat).find? (λy=>Lib.hasPrefix (l.drop a.toNat) y) with|some y=>some y|none=>j ()):=by
 intro m;induction m with
 |zero=>omega
 |succ m e=>
  intro k av o hm _;simp only[fixF,Mg,Lu,a4,o_,QH,aw];by_cases M:k<(ys.length:Int)
  ·have f:=d (at' ys k) (sA (mO ⟨av,M⟩));simp only[M,av,cK,oc];have g:W (k+1)=k+1:=dJ (by omega) (by omega);have h:W ((l.length:Int)-a)=(l.length:Int)-a:=dJ (by omega) (by omega);have i:W (a+((at' ys k).length:Int))=a+((at' ys k).length:Int):=dJ (by omega) (by omega);obtain⟨p,q⟩:=e (k+1) (by omega) (by omega) (by omega) (by omega);rw[g,h,i,wH av M,M6 b];simp only[uF,b,sz,oc,cK,true_and,show a<=(l.length:Int) by omega];rw[alI];have Y:b4 l a (a+((at' ys k).length:Int))=(l.drop a.toNat).take (at' ys k).length:=by unfold b4;congr 1;omega
   by_cases U:(l.drop a.toNat).take (at' ys k).length=at' ys k
   ·have r:((at' ys k).length:Int)<=(l.length:Int)-a:=by grind
    grind
   grind
  ·simp only[M,cA];grind[List.drop_eq_nil_of_le]
theorem nf(b c:UInt8)(z:Int)(h:z=(c.toNat:Int)):((b.toNat:Int)=z)=(b=c):=by subst h;apply propext;grind[UInt8.toNat_inj]
theorem S6(l:H)(c:UInt8):Lib.indexByte l c<=l.length:=by
 induction l with
 |nil=>simp[Lib.indexByte]
 |cons b l a=>grind[Lib.indexByte,List.length_cons]
theorem alJ(c:UInt8):∀(l:H),0<=Lib.indexByte l c->Lib.indexByte l c<l.length:=by
 intro l;induction l with
 |nil=>simp[Lib.indexByte]
 |cons b l a=>unfold Lib.indexByte;grind
theorem alK(l:H)(ay:(l.length:Int)<=1048576)(j:Int->Option Int):∀(m:Nat)(k:Int),0<=k->k<=(l.length:Int)->(l.length:Int)-k<m->0<m->
  fixF (Md l j) m k=j (if Lib.indexByte (l.drop k.toNat) 10<0 then(l.length:Int) else k+Lib.indexByte (l.drop k.toNat) 10):=by
 intro m;induction m with
 |zero=>omega
 |succ m a=>
  intro k av b hm _;simp only[fixF,Md,a4,o_];by_cases M:k<(l.length:Int)
  ·simp only[M,av,cK,oc,imp_true_iff,nf _ 10 10 rfl,bA];rw[dJ (by omega) (by omega),wH av M,Lib.indexByte];grind
  ·simp only[M,cA,bG,aW,eQ,false_imp_iff,cK];rw[w7 (by omega)];have e:(if Lib.indexByte ([]:H) 10<0 then(l.length:Int) else k+Lib.indexByte ([]:H) 10)=k:=by rw[bc (by decide)];omega
   rw[e]
theorem ZB{l:H}{k e:Int}(h0:0<=k)(h:k<e)(he:e<=(l.length:Int)):b4 l k e=at' l k::b4 l (k+1) e:=by
 unfold b4;rw[wH h0 (by omega)];have:e.toNat-k.toNat=(e.toNat- (k+1).toNat)+1:=by omega
 grind
theorem alL{l:H}{e:Int}:b4 l e e=[]:=by simp[b4]
theorem alM(l:H)(ay:(l.length:Int)<=1048576)(e:Int)(he:e<=(l.length:Int))(j:Int->Option Int):∀(m:Nat)(k:Int),0<=k->k<=e->e-k<m->0<m->
  ∃k',k<=k'/\k'<=e/\fixF (Ig l true e j) m k=j k'/\b4 l k' e=(b4 l k e).dropWhile (· ==9):=by
 intro m;induction m with
 |zero=>omega
 |succ m a=>
  intro k av d hm _;simp only[fixF,Ig,a4,o_,aL];by_cases M:k<e
  ·have b:k<(l.length:Int):=by omega
   simp only[M,b,av,cK,oc,imp_true_iff,nf _ 9 9 rfl,bA,aL];rw[dJ (by omega) (by omega),ZB av M he];by_cases U:at' l k=9
   ·obtain⟨k',ad,c,f,g⟩:=a (k+1) (by omega) (by omega) (by omega) (by omega);refine⟨k',by omega,c,?_,?_⟩
    ·grind
    simp_all
   ·refine⟨k,by omega,by omega,?_,?_⟩
    ·grind
    simp_all[ZB]
  ·have:k=e:=by omega
   subst this;refine⟨k,by omega,by omega,?_,?_⟩
   ·simp
   simp[alL]
theorem alN(l:H)(e k:Int)(j:Int->Option Int):fixF (Ig l false e j) bD k=j k:=by grind[bD,gD,fixF,Ig,a4]
theorem alO(j:H->Option H):∀(m:Nat)(x:H),(x.length:Int)<=1048576->x.length<m->fixF (QL 9 j) m x=j (x.dropWhile (· ==9)):=by
 intro m;induction m with
 |zero=>omega
 |succ m c=>
  intro x g hm;simp only[fixF,QL,a4,o_];cases x with
  |nil=>simp
  |cons b x=>
   have h0:at' (b::x) (0:Int)=b:=rfl;have Y:b4 (b::x) 1 ((b::x).length:Int)=x:=by simp[b4]
   have a:(0:Int)<((b::x).length:Int):=by simp
   have d:(1:Int)<=((b::x).length:Int):=by omega
   have e:x.length<m:=by grind
   have f:=nf b 9 ((9:UInt8).toNat:Int) rfl;rw[h0,Y];simp only[f,a,d,bA,aL,sz,oc,imp_true_iff,cK];by_cases U:b=9
   ·subst U;simp only[bA,cK,true_and,show(0:Int)<=1 from by decide];rw[c x (by grind) e];simp
   simp_all
theorem ZC(x:H)(b:(x.length:Int)<=1048576):B_ x [9]=some (x.dropWhile (· ==9)):=by
 unfold B_;by_cases h:x=[]
 ·simp_all
 ·have c:Lx x (at' [9] 0)=some (x.dropWhile (· ==9)):=by unfold Lx;have a:at' ([9]:H) (0:Int)=9:=rfl;grind[a7,alO,bD,gD]
  have a:((at' ([9]:H) (0:Int)).toNat:Int)<128:=by decide
  have d:(decide (x=[]))=false:=by grind
  simp_all[aW,a4,aR]
theorem alP(l d:H)(t:Bool)(ay:(l.length:Int)<=1048576):∀(m:Nat)(k:Int),0<=k->k<=(l.length:Int)->(l.length:Int)-k<m->0<m->
  ∃r,fixF (y5 l d t λ_=>some (-1)) m k=some r/\fixF (sO l d t λ_=>some (-1)) m k=some r:=by
 intro m;induction m with
 |zero=>omega
 |succ m E=>
  intro k av g hm _;by_cases M:k<(l.length:Int)
  ·
   have s:=S6 (l.drop k.toNat) 10;have F:=Kl (l.drop k.toNat) 10;have i:=alJ 10 (l.drop k.toNat);simp only[DQ] at s i;have Y:b4 l k (l.length:Int)=l.drop k.toNat:=M6 av;have c:∀(e a:Int),k<=e->e<=(l.length:Int)->k<a->a<=(l.length:Int)->
     (∀j,fixF (Md l j) bD k=j e)->(if e<(l.length:Int) then W (e+1) else e)=a->
     (∃r,fixF (y5 l d t λ_=>some (-1)) (m+1) k=some r/\
      (bif decide ((if t then(b4 l k e).dropWhile (· ==9) else b4 l k e)=d) then some a else fixF (sO l d t λ_=>some (-1)) m a)=some r):=by
    intro e a h n G I u v;simp only[fixF,y5,a7,o_,M,cK];rw[u];have fin:∀k',k<=k'->k'<=e->b4 l k' e=(if t then(b4 l k e).dropWhile (· ==9) else b4 l k e)->
      ∃r,(if e<(l.length:Int) then a4 (0<=k'/\k'<=e/\e<=(l.length:Int)) (if b4 l k' e=d then some (W (e+1)) else fixF (y5 l d t λ_=>some (-1)) m (W (e+1)))
       else a4 (0<=k'/\k'<=e/\e<=(l.length:Int)) (if b4 l k' e=d then some e else fixF (y5 l d t λ_=>some (-1)) m e))=some r/\
      (if((if t then(b4 l k e).dropWhile (· ==9) else b4 l k e)=d) then some a else fixF (sO l d t λ_=>some (-1)) m a)=some r:=by
     intro k' w o x;have bu:0<=k'/\k'<=e/\e<=(l.length:Int):=⟨by omega,o,n⟩;simp only[a4,bu,cK,oc];grind
    cases t with
    |true=>
     obtain⟨k',w,o,x,J⟩:=alM l ay e n (λb=>if e<(l.length:Int) then a4 (0<=b/\b<=e/\e<=(l.length:Int)) (if b4 l b e=d then some (W (e+1)) else fixF (y5 l d true λ_=>some (-1)) m (W (e+1)))
      else a4 (0<=b/\b<=e/\e<=(l.length:Int)) (if b4 l b e=d then some e else fixF (y5 l d true λ_=>some (-1)) m e)) bD k av h (by grind[gD]) (by simp[gD])
     grind
    |false=>rw[alN];grind
   have bh:∀(line:H)(a:Int),(line.length:Int)<=1048576->
     (bif t then aw (B_ line [9]) λ(y:H)=>(if y=d then some a else fixF (sO l d t λ_=>some (-1)) m a) else(if line=d then some a else fixF (sO l d t λ_=>some (-1)) m a))=
     (bif decide ((if t then line.dropWhile (· ==9) else line)=d) then some a else fixF (sO l d t λ_=>some (-1)) m a):=by
    intro line a z;cases t with
    |true=>simp_all[aL,aR,ZC]
    |false=>simp
   have K:=λj=>alK l ay j bD k av g (by grind[gD]) (by simp[gD]);generalize aE:Lib.indexByte (l.drop k.toNat) 10=p at*;by_cases U:p<0
   ·obtain⟨r,ad,q⟩:=c (l.length:Int) (l.length:Int) g (sz _) M (sz _) (λj=>by grind) (by simp);refine⟨r,ad,?_⟩;simp only[fixF,sO,a7,o_,M,cK,a4,Ev,aw,Y,aE,av,g,sz,oc];rw[aO (by omega)];rw[Y] at q;have:=bh (l.drop k.toNat) (l.length:Int) (by grind);grind[aw]
   ·have L:=i (by omega);have A:W (k+p+1)=k+p+1:=dJ (by omega) (by omega);have B:W (k+p)=k+p:=dJ (by omega) (by omega);obtain⟨r,ad,q⟩:=c (k+p) (k+p+1) (by omega) (by omega) (by omega) (by omega) (λj=>by grind) (by omega);refine⟨r,ad,?_⟩;simp only[fixF,sO,a7,o_,M,cK,a4,Ev,aw,Y,aE,av,g,sz,oc];have fb:0<=p:=by omega
    have C:(0:Int)<=0/\0<=p/\p<=((l.drop k.toNat).length:Int):=⟨by omega,by omega,by grind⟩;rw[B,A];simp only[fb,cK,true_and,show p<=((l.drop k.toNat).length:Int) from C.2.2];have D:b4 (l.drop k.toNat) 0 p=b4 l k (k+p):=by unfold b4;simp only[Kk,ym,Nat.sub_zero];congr 1;omega
    rw[D];have f:((b4 l k (k+p)).length:Int)<=1048576:=by grind[b4]
    have:=bh (b4 l k (k+p)) (k+p+1) f;grind[aw]
  ·simp only[fixF,y5,sO,o_,M,cA];simp
def dl:H->UInt8->Option H
 |[],q=>if q=0 then some [] else none
 |b::r,q=>
  if q=39 then(if b=39 then dl r 0 else(dl r 39).map (b::·))
  else if b=92 then
   match r with
   |[]=>none
   |n::r'=>if n=10 then dl r' q else if q=0\/n=36\/n=34\/n=92\/n=96 then(dl r' q).map (n::·) else(dl (n::r') q).map (b::·)
  else if b=36\/b=96 then none
  else if b=34 then(if q=0 then dl r 34 else dl r 0)
  else if b=39/\q=0 then dl r 39
  else(dl r q).map (b::·)
termination_by l _=>l.length
decreasing_by all_goals grind
def oE(j:H->Option (H×Bool))(o:H)(m:Option H):Option (H×Bool):=match m with
 |some s=>j (o++s)
 |none=>some ([],false)
theorem px(j:H->Option (H×Bool))(o:H)(b:UInt8)(m:Option H):oE j o (m.map (b::·))=oE j (o++[b]) m:=by
 cases m with
 |none=>rfl
 |some s=>simp[oE]
theorem uc(j:H->Option (H×Bool))(o:H):oE j o none=some ([],false):=rfl
theorem alR(l:H)(ay:(l.length:Int)<=200000000)(j:H×UInt8->Option (H×Bool))(A:∀o q,q≠0->j (o,q)=some ([],false)):
  ∀(m:Nat)(o:H)(q:UInt8)(k:Int),0<=k->k<=(l.length:Int)->(o.length:Int)<=k->(l.length:Int)-k<m->0<m->(q=0\/q=34\/q=39)->
  fixF (Fa l j) m (o,q,k)=oE (λo=>j (o,0)) o (dl (l.drop k.toNat) q):=by
 intro m;induction m with
 |zero=>omega
 |succ m t=>
  intro o q k av G I hm _ e;by_cases M:k<(l.length:Int)
  ·have i:∀f a,(f.length:Int)<=k+1->(a=0\/a=34\/a=39)->fixF (Fa l j) m (f,a,k+1)=oE (λo=>j (o,0)) f (dl (l.drop (k+1).toNat) a):=λf a U s=>t f a (k+1) (by omega) (by omega) U (by omega) (by omega) s
   have B:k+1<(l.length:Int)->∀f a,(f.length:Int)<=k+1->(a=0\/a=34\/a=39)->fixF (Fa l j) m (f,a,k+2)=oE (λo=>j (o,0)) f (dl (l.drop (k+2).toNat) a):=λh0 f a U s=>t f a (k+2) (by omega) (by omega) (by omega) (by omega) (by omega) s
   have C:W (k+1)=k+1:=dJ (by omega) (by omega);have D:W (k+1+1)=k+2:=by grind[dJ]
   have bu:∀b:UInt8,o.length+([b]:H).length<=536870912:=by grind
   have g:∀b:UInt8,((o++[b]).length:Int)<=k+1:=by grind
   simp only[fixF,Fa,a4,a7,o_,C,D,M,av,cK,oc,bu,nf _ 39 39 rfl,nf _ 92 92 rfl,nf _ 10 10 rfl,nf _ 36 36 rfl,nf _ 34 34 rfl,nf _ 96 96 rfl,nf _ 0 0 rfl];rw[wH av M];generalize at' l k=b at*;by_cases U:k+1=(l.length:Int)
   ·have eG:l.drop (k+1).toNat=[]:=w7 (by omega);rw[eG] at i⊢;simp only[U,bA,hI,aW];rw[dl];have c:=λ(b:UInt8)(a:UInt8)(h:a=0\/a=34\/a=39)=>i (o++[b]) a (g b) h;have d:=λ(a:UInt8)(h:a=0\/a=34\/a=39)=>i o a (by omega) h;rw[U] at c d;by_cases rM:b=39
    ·subst rM;rcases e with rfl|rfl|rfl<;>simp[c,d,px]
    by_cases ng:b=92
    ·subst ng;rcases e with rfl|rfl|rfl<;>simp[c,d,px,uc]
    by_cases qU:b=36
    ·subst qU;rcases e with rfl|rfl|rfl<;>simp[c,d,px,uc]
    by_cases oF:b=96
    ·subst oF;rcases e with rfl|rfl|rfl<;>simp[c,d,px,uc]
    by_cases oG:b=34
    ·subst oG;rcases e with rfl|rfl|rfl<;>simp[c,d,px,uc]
    rcases e with rfl|rfl|rfl<;>simp[c,d,px,rM,ng,qU,oF,oG]
   ·have s:k+1<(l.length:Int):=by omega
    have eG:l.drop (k+1).toNat=at' l (k+1)::l.drop (k+2).toNat:=by grind[wH]
    have u:=B s;rw[eG] at i⊢;generalize at' l (k+1)=n at*;have E:¬(k+1=(l.length:Int)):=U;have F:0<=k+1/\k+1<(l.length:Int):=by omega
    simp only[E,F,bG,fo,aL,cK,oc];rw[dl];have c:=λ(b:UInt8)(a:UInt8)(h:a=0\/a=34\/a=39)=>i (o++[b]) a (g b) h;have d:=λ(a:UInt8)(h:a=0\/a=34\/a=39)=>i o a (by omega) h;have p:=λ(b:UInt8)(a:UInt8)(h:a=0\/a=34\/a=39)=>u (o++[b]) a (g b) h;have r:=λ(a:UInt8)(h:a=0\/a=34\/a=39)=>u o a (by omega) h;by_cases rM:b=39
    ·subst rM;rcases e with rfl|rfl|rfl<;>simp[c,d,px]
    by_cases ng:b=92
    ·subst ng;by_cases v:n=10
     ·subst v;rcases e with rfl|rfl|rfl<;>simp[c,d,p,r,px]
     by_cases w:n=36
     ·subst w;rcases e with rfl|rfl|rfl<;>simp[c,d,p,r,px]
     by_cases x:n=34
     ·subst x;rcases e with rfl|rfl|rfl<;>simp[c,d,p,r,px]
     by_cases y:n=92
     ·subst y;rcases e with rfl|rfl|rfl<;>simp[c,d,p,r,px]
     by_cases z:n=96
     ·subst z;rcases e with rfl|rfl|rfl<;>simp[c,d,p,r,px]
     rcases e with rfl|rfl|rfl<;>simp[c,d,p,r,px,v,w,x,y,z]
    by_cases qU:b=36
    ·subst qU;rcases e with rfl|rfl|rfl<;>simp[c,d,px,uc]
    by_cases oF:b=96
    ·subst oF;rcases e with rfl|rfl|rfl<;>simp[c,d,px,uc]
    by_cases oG:b=34
    ·subst oG;rcases e with rfl|rfl|rfl<;>simp[c,d,px,uc]
    rcases e with rfl|rfl|rfl<;>simp[c,d,px,rM,ng,qU,oF,oG]
  ·simp only[fixF,Fa,a4,a7,o_,M,cA];rw[w7 (by omega)];simp only[dl];by_cases U:q=0
   ·grind[oE]
   ·rw[A _ _ U,aO U];rfl
theorem alS(l:H):dl l 39=if Lib.indexByte l 39<0 then none else(dl (l.drop (Lib.indexByte l 39+1).toNat) 0).map ((l.take (Lib.indexByte l 39).toNat)++·):=by
 induction l with
 |nil=>simp[dl,Lib.indexByte]
 |cons b l a=>
  rw[dl.eq_def,Lib.indexByte];by_cases h:b=39
  ·simp_all
  ·have c:(b==39)=false:=by grind
   have g:=Kl l 39;simp only[cK,h,cA,c,eQ];rw[a];generalize Lib.indexByte l 39=p at*;by_cases i:p= -1
   ·grind
   ·have d:(p== -1)=false:=by grind
    simp only[d,eQ,cA];rw[aO (by omega),aO (by omega)];have e:(p+1+1).toNat=(p+1).toNat+1:=by omega
    have f:(p+1).toNat=p.toNat+1:=by omega
    rw[e,f,GS,OW,Option.map_map];rfl
theorem alT(l:H)(ay:(l.length:Int)<=1048576)(j:Unit->Option (H×Int))(D:j ()=some ([], -1)):
  ∀(m:Nat)(o:H)(k:Int),0<=k->k<=(l.length:Int)->(o.length:Int)<=k->(l.length:Int)-k<m->0<m->
  (fixF (tQ l j) m (o,k)=some ([], -1)/\dl (l.drop k.toNat) 34=none)\/
  ∃(s:H)(k':Int),fixF (tQ l j) m (o,k)=some (o++s,k')/\k<k'/\k'<=(l.length:Int)/\((o++s).length:Int)<=k'/\dl (l.drop k.toNat) 34=(dl (l.drop k'.toNat) 0).map (s++·):=by
 intro m;induction m with
 |zero=>omega
 |succ m w=>
  intro o k av E F hm _;by_cases M:k<(l.length:Int)
  ·have x:W (k+1)=k+1:=dJ (by omega) (by omega);have y:W (k+1+1)=k+2:=by grind[dJ]
   have bu:∀b:UInt8,o.length+([b]:H).length<=536870912:=by grind
   have e:∀b c:UInt8,o.length+([b,c]:H).length<=536870912:=by grind
   simp only[fixF,tQ,a4,a7,o_,x,y,M,av,cK,oc,bu,e,nf _ 39 39 rfl,nf _ 92 92 rfl,nf _ 10 10 rfl,nf _ 36 36 rfl,nf _ 34 34 rfl,nf _ 96 96 rfl];rw[wH av M];have f:∀(t:H),(t.length:Int)<=1->dl (at' l k::l.drop (k+1).toNat) 34=(dl (l.drop (k+1).toNat) 34).map (t++·)->
     (fixF (tQ l j) m (o++t,k+1)=some ([], -1)/\dl (at' l k::l.drop (k+1).toNat) 34=none)\/
     ∃(s:H)(k':Int),fixF (tQ l j) m (o++t,k+1)=some (o++s,k')/\k<k'/\k'<=(l.length:Int)/\((o++s).length:Int)<=k'/\dl (at' l k::l.drop (k+1).toNat) 34=(dl (l.drop k'.toNat) 0).map (s++·):=by
    intro t z he;rcases w (o++t) (k+1) (by omega) (by omega) (by grind) (by omega) (by omega) with⟨ad,g⟩|⟨s,k',ad,g,h,A,i⟩
    ·grind
    ·refine .inr ⟨t++s,k',by grind,by omega,h,by grind,?_⟩;rw[he,i,Option.map_map];congr 1;grind
   have a:∀(t:H),k+1<(l.length:Int)->(t.length:Int)<=2->dl (at' l k::l.drop (k+1).toNat) 34=(dl (l.drop (k+2).toNat) 34).map (t++·)->
     (fixF (tQ l j) m (o++t,k+2)=some ([], -1)/\dl (at' l k::l.drop (k+1).toNat) 34=none)\/
     ∃(s:H)(k':Int),fixF (tQ l j) m (o++t,k+2)=some (o++s,k')/\k<k'/\k'<=(l.length:Int)/\((o++s).length:Int)<=k'/\dl (at' l k::l.drop (k+1).toNat) 34=(dl (l.drop k'.toNat) 0).map (s++·):=by
    intro t h0 z he;rcases w (o++t) (k+2) (by omega) (by omega) (by grind) (by omega) (by omega) with⟨ad,g⟩|⟨s,k',ad,g,h,A,i⟩
    ·grind
    ·refine .inr ⟨t++s,k',by grind,by omega,h,by grind,?_⟩;rw[he,i,Option.map_map];congr 1;grind
   by_cases U:k+1=(l.length:Int)
   ·have eG:l.drop (k+1).toNat=[]:=w7 (by omega);rw[eG] at f⊢;generalize at' l k=b at*;by_cases oG:b=34
    ·subst oG;grind[dl]
    by_cases ng:b=92
    ·grind[dl]
    by_cases qU:b=36
    ·grind[dl]
    by_cases oF:b=96
    ·grind[dl]
    grind[dl]
   ·have d:k+1<(l.length:Int):=by omega
    have eG:l.drop (k+1).toNat=at' l (k+1)::l.drop (k+2).toNat:=by grind[wH]
    rw[eG] at f a⊢;generalize at' l (k+1)=n at*;generalize at' l k=b at*;have B:¬(k+1=(l.length:Int)):=U;have C:0<=k+1/\k+1<(l.length:Int):=by omega
    simp only[B,C,cA,cK,oc];by_cases oG:b=34
    ·subst oG;refine .inr ⟨[],k+1,by simp,by omega,by omega,by grind,?_⟩;simp_all[dl]
    by_cases ng:b=92
    ·subst ng;by_cases p:n=10
     ·subst p;grind[dl]
     by_cases q:n=36
     ·subst q;simpa using a [36] d (by simp) (by simp[dl])
     by_cases r:n=34
     ·subst r;simpa using a [34] d (by simp) (by simp[dl])
     by_cases u:n=92
     ·subst u;simpa using a [92] d (by simp) (by simp[dl])
     by_cases v:n=96
     ·subst v;simpa using a [96] d (by simp) (by simp[dl])
     have:=a [92,n] d (by simp) (by rw[dl];simp[p,q,r,u,v];rw[dl.eq_def];simp[p,q,r,u,v];rfl);grind
    by_cases qU:b=36
    ·grind[dl]
    by_cases oF:b=96
    ·grind[dl]
    have:=f [b] (by simp) (by simp_all[dl]);grind
  ·simp only[fixF,tQ,a4,a7,o_,M,cA];grind[List.drop_eq_nil_of_le,dl]
theorem alV(l:H)(ay:(l.length:Int)<=1048576)(a:Int)(h0:0<=a)(M:a<=(l.length:Int)):
  xy l a=some (if Lib.indexByte (l.drop a.toNat) 39<0 then-1 else a+Lib.indexByte (l.drop a.toNat) 39+1):=by
 have b:=S6 (l.drop a.toNat) 39;have c:=Kl (l.drop a.toNat) 39;simp only[DQ] at b;unfold xy yR Ev;have e:max (0:Int) (min a (l.length:Int))=a:=by omega
 simp only[aw,a4,e];rw[bc ⟨h0,M,sz _⟩,M6 h0];generalize Lib.indexByte (l.drop a.toNat) 39=p at*;simp only[o_];grind[dJ]
theorem ZE(j:H->Option (H×Bool))(o s:H)(m:Option H):oE j o (m.map (s++·))=oE j (o++s) m:=by
 cases m with
 |none=>rfl
 |some t=>simp[oE]
theorem alW(l:H)(ay:(l.length:Int)<=1048576)(j:H->Option (H×Bool)):
  ∀(m:Nat)(o:H)(k:Int),0<=k->k<=(l.length:Int)->(o.length:Int)<=k->(l.length:Int)-k<m->0<m->
  fixF (ET l j) m (o,k)=oE j o (dl (l.drop k.toNat) 0):=by
 intro m;induction m with
 |zero=>omega
 |succ m d=>
  intro o k av z A hm _;by_cases M:k<(l.length:Int)
  ·have f:W (k+1)=k+1:=dJ (by omega) (by omega);have g:W (k+2)=k+2:=dJ (by omega) (by omega)
   have bu:∀b:UInt8,o.length+([b]:H).length<=536870912:=by grind
   have h:=alV l ay (k+1) (by omega) (by omega);simp only[fixF,ET,a4,a7,o_,f,g,M,av,cK,oc,bu,nf _ 39 39 rfl,nf _ 92 92 rfl,nf _ 10 10 rfl,nf _ 36 36 rfl,nf _ 34 34 rfl,nf _ 96 96 rfl];rw[aR h,wH av M]
   have e:∀a,(a.length:Int)<=k+1->fixF (ET l j) m (a,k+1)=oE j a (dl (l.drop (k+1).toNat) 0):=λa U=>d a (k+1) (by omega) (by omega) U (by omega) (by omega)
   have c:∀b:UInt8,((o++[b]).length:Int)<=k+1:=by grind
   by_cases rM:at' l k=39
   ·rw[rM];simp only[show¬((39:UInt8)=92) by decide,cA,cK];have aD:dl (39::l.drop (k+1).toNat) 0=dl (l.drop (k+1).toNat) 39:=by grind[dl.eq_def]
    rw[aD,alS];have i:=S6 (l.drop (k+1).toNat) 39;have B:=Kl (l.drop (k+1).toNat) 39;simp only[DQ] at i;generalize aE:Lib.indexByte (l.drop (k+1).toNat) 39=p at*;have q:0<=p->k+1+p<(l.length:Int):=by
     intro h0
     have:∀(l:H),0<=Lib.indexByte l 39->Lib.indexByte l 39<l.length:=by
      intro l;induction l with
      |nil=>decide
      |cons b l d=>unfold Lib.indexByte;grind
     grind
    by_cases au:p<0
    ·simp_all[cK,uc]
    ·simp only[au,cA];have:=q (by omega);rw[aO (by omega),dJ (x:=k+1+p+1-1) (by omega) (by omega)];have r:k+1+p+1-1=k+1+p:=by omega
     rw[r,bc ⟨by omega,by omega,by omega⟩];have t:b4 l (k+1) (k+1+p)=(l.drop (k+1).toNat).take p.toNat:=by grind[b4]
     have C:((b4 l (k+1) (k+1+p)).length:Int)<=p:=by grind
     rw[bc (by omega),t,ZE,List.drop_drop];grind
   ·by_cases oG:at' l k=34
    ·rw[oG];simp only[show¬((34:UInt8)=92) by decide,show¬((34:UInt8)=39) by decide,cA,cK];have aD:dl (34::l.drop (k+1).toNat) 0=dl (l.drop (k+1).toNat) 34:=by grind[dl.eq_def]
     rw[aD];have u:ER l (k+1) o=fixF (tQ l λ_=>some ([], -1)) bD (o,k+1):=rfl;rcases alT l ay (λ_=>some ([], -1)) rfl bD o (k+1) (by omega) (by omega) (by omega) (by grind[gD]) (by simp[gD]) with⟨ad,v⟩|⟨s,k',ad,v,D,E,w⟩
     ·grind[aR,uc]
     ·rw[aR (u.trans ad),w,ZE];grind
    ·simp only[rM,oG,cA];by_cases U:k+1=(l.length:Int)
     ·have eG:l.drop (k+1).toNat=[]:=w7 (by omega);rw[eG] at e⊢;generalize at' l k=b at*;by_cases ng:b=92
      ·grind[dl,uc]
      by_cases qU:b=36
      ·grind[dl,uc]
      by_cases oF:b=96
      ·grind[dl,uc]
      simp only[ng,qU,oF,cA,bG,aW,eQ];rw[e _ (c b),show [b]=b::([]:H) from rfl];grind[dl.eq_def,px]
     ·have F:k+1<(l.length:Int):=by omega
      have eG:l.drop (k+1).toNat=at' l (k+1)::l.drop (k+2).toNat:=by grind[wH]
      have G:∀a,(a.length:Int)<=k+2->fixF (ET l j) m (a,k+2)=oE j a (dl (l.drop (k+2).toNat) 0):=λa U=>d a (k+2) (by omega) (by omega) U (by omega) (by omega)
      have y:0<=k+1/\k+1<(l.length:Int):=by omega
      rw[eG] at e⊢;generalize at' l (k+1)=n at*;generalize at' l k=b at*;simp only[U,y,cA,cK,oc];grind[dl,dl.eq_def,px,uc]
  ·simp only[fixF,ET,a4,a7,o_,M,cA];grind[List.drop_eq_nil_of_le,dl,oE]
theorem ZF:∀(n:Nat)(l:H),l.length<=n->∀(q:UInt8)(s:H),dl l q=some s->s.length<=l.length:=by
 intro n;induction n with
 |zero=>simp[m4,dl,e8]
 |succ n g=>
  intro l au q s h
  match l with
  |[]=>grind
  |b::r=>
   simp only[j5] at au⊢
   have a:∀(d:UInt8),dl r d=some s->s.length<=r.length+1:=λd f=>by grind
   have e:∀(d c:UInt8),(dl r d).map (c::·)=some s->s.length<=r.length+1:=by
    intro d c f;cases aD:dl r d with
    |none=>grind
    |some t=>grind
   rw[dl.eq_def] at h;simp only at h;split at h
   ·grind
   ·split at h
    ·match r,a,e,h with
     |[],_,_,h=>cases h
     |x::r',a,e,h=>
      simp only at h;simp only[j5] at au a e⊢;split at h
      ·grind
      ·split at h
       ·cases aD:dl r' q with
        |none=>grind
        |some t=>grind
       grind
    grind
theorem alX(l:H)(ay:(l.length:Int)<=200000000):∀(m:Nat)(k:Int),0<=k->k<=(l.length:Int)->(l.length:Int)-k<m->0<m->
  fixF (R1 l λ_=>some (l,true)) m k=if 0<=Lib.indexByte (l.drop k.toNat) 10 then some ([],false) else some (l,true):=by
 intro m;induction m with
 |zero=>omega
 |succ m a=>
  intro k av b hm _;simp only[fixF,R1,a4,o_];by_cases M:k<(l.length:Int)
  ·simp only[M,av,cK,oc,nf _ 10 10 rfl];rw[dJ (by omega) (by omega),wH av M,Lib.indexByte];grind
  ·simp only[M,cA];simp_all[w7,Lib.indexByte]
theorem alY(l:H)(ay:(l.length:Int)<=200000000):Io l=oE (λs=>if 0<=Lib.indexByte s 10 then some ([],false) else some (s,true)) [] (dl l 0):=by
 unfold Io;simp only[a7];rw[alR l ay _ (by intro o q a;simp only[nf _ 0 0 rfl,a,bG,fo,aL]) bD [] 0 0 (by omega) (by omega) (by simp) (by grind[gD]) (by simp[gD]) (.inl rfl)];simp only[Kk,ym];cases aD:dl l 0 with
 |none=>rfl
 |some s=>
  have Y:=ZF _ l (cF _) 0 s aD;simp only[oE,q6];have:(!decide (((0:UInt8).toNat:Int)=0))=false:=by decide
  simp only[this,aW];grind[alX,bD,gD]
theorem alZ(l:H)(ay:(l.length:Int)<=1048576):yZ l=oE (λs=>if 0<=Lib.indexByte s 10 then some ([],false) else some (s,true)) [] (dl l 0):=by
 unfold yZ;simp only[a7];rw[alW l ay _ bD [] 0 (by omega) (by omega) (by simp) (by grind[gD]) (by simp[gD])];simp only[Kk,ym];cases aD:dl l 0 with
 |none=>rfl
 |some s=>simp[oE,q6,Rj,aw,o_]
def ax(S r:H):Int:=(S.length:Int)-r.length
theorem e3{r S:H}(h:r<:+S):r.length<=S.length:=h.length_le
theorem eo{b:UInt8}{t S:H}(h:b::t<:+S):t<:+S:=(dL b t).trans h
theorem j2{b:UInt8}{t S:H}(h:b::t<:+S):at' S (ax S (b::t))=b:=by obtain⟨u,rfl⟩:=h;simp[ax,at']
theorem jj{b:UInt8}{t S:H}(du:S.length<=1000000)(h:b::t<:+S):W (ax S (b::t)+1)=ax S t:=by grind[e3,List.length_cons,dJ,ax]
theorem k9{w t S:H}(du:S.length<=1000000)(h:w++t<:+S):W (ax S (w++t)+w.length)=ax S t:=by grind[e3,List.length_append,dJ,ax]
theorem iy{b:UInt8}{t S:H}(h:b::t<:+S):0<=ax S (b::t)/\ax S (b::t)<S.length:=by grind[e3,List.length_cons,ax]
theorem nN{b:UInt8}{t S:H}(h:b::t<:+S):ax S (b::t)<S.length:=(iy h).2
theorem iO(S:H):ax S []=S.length:=by rfl
theorem Ja(S:H):ax S S=0:=by simp[ax]
theorem pz{r S:H}:ax S r<=S.length:=by grind[ax]
theorem zr{r S:H}:ax S r=S.length↔r=[]:=by
 unfold ax;constructor
 ·grind[List.length_eq_zero_iff]
 grind
theorem rN{b c:UInt8}:((b.toNat:Int)=(c.toNat:Int))↔b=c:=by
 constructor
 ·grind[UInt8.toNat_inj]
 grind
theorem Jb(b:UInt8):((b.toNat:Int)=9)↔b=9:=rN (c:=9)
theorem qd(b:UInt8):((b.toNat:Int)=10)↔b=10:=rN (c:=10)
theorem Ta(b:UInt8):((b.toNat:Int)=32)↔b=32:=rN (c:=32)
theorem oG(b:UInt8):((b.toNat:Int)=34)↔b=34:=rN (c:=34)
theorem ZG(b:UInt8):((b.toNat:Int)=35)↔b=35:=rN (c:=35)
theorem qU(b:UInt8):((b.toNat:Int)=36)↔b=36:=rN (c:=36)
theorem rM(b:UInt8):((b.toNat:Int)=39)↔b=39:=rN (c:=39)
theorem C9(b:UInt8):((b.toNat:Int)=40)↔b=40:=rN (c:=40)
theorem FN(b:UInt8):((b.toNat:Int)=41)↔b=41:=rN (c:=41)
theorem ng(b:UInt8):((b.toNat:Int)=92)↔b=92:=rN (c:=92)
theorem oF(b:UInt8):((b.toNat:Int)=96)↔b=96:=rN (c:=96)
theorem C_(b:UInt8):((b.toNat:Int)=123)↔b=123:=rN (c:=123)
theorem b1{α:Type}{c:Prop}[Decidable c]{k:Option α}(h:c):a4 c k=k:=bc h
structure cP where
 S:H
 ne:Int
 op:bx
 kz:Int
def cP.st(e:cP)(r:H)(F:ah):aj:=(e.S,ax e.S r,F,e.ne,e.op,e.kz)
structure eb(e:cP)(r:H)(F:ah):Prop where
 b7:e.S.length<=1000000
 sfx:r<:+e.S
 kf:F.length+r.length<=e.S.length
 ops:e.op.length+r.length<=e.S.length+1
theorem eb.mono{e:cP}{r r':H}{F:ah}(h:eb e r F)(M:r'<:+r):eb e r' F:=
 ⟨h.b7,M.trans h.sfx,by have:=h.kf;grind,by have:=h.ops;grind⟩
def a2{α β:Type}(e:cP)(r0:H)(m:dp α)(cv:α->H->ah->β)(y:Option (bp aj β)):Prop:=match m with
 | .ok a r F=>r<:+r0/\eb e r F/\y=some (.inr (cv a r F))
 | .more op _ _=>∃st:aj,y=some (.inl (1,e.S.length,st))/\st.2.2.2.2.1=e.op++op
 | .bad r=>r<:+e.S/\∃st:aj,y=some (.inl (2,ax e.S r,st))
 | .deep _=>True
theorem a2.mono{α β:Type}{e:cP}{r0 ad:H}{m:dp α}{cv:α->H->ah->β}{y:Option (bp aj β)}(h:a2 e r0 m cv y)(M:r0<:+ad):a2 e ad m cv y:=by
 cases m with
 |ok a r F=>exact⟨h.1.trans M,h.2⟩
 |_=>exact h
structure c_{α β:Type}(C:dp α->dp β):Prop where
 more:∀op nd ds,C (.more op nd ds)= .more op nd ds
 bad:∀r,C (.bad r)= .bad r
 deep:∀r,C (.deep r)= .deep r
theorem c_.id{α:Type}:c_ (λx:dp α=>x):=⟨λ_ _ _=>rfl,λ_=>rfl,λ_=>rfl⟩
theorem c_.k{σ α:Type}{f:σ->ae (σ⊕α)}{r:H}:c_ (cR f r):=⟨λ_ _ _=>rfl,λ_=>rfl,λ_=>rfl⟩
theorem a2.iZ{α d g β i:Type}{C:dp d->dp g}(c:c_ C){e:cP}{r0 r:H}{F:ah}{m:ae α}{k:α->ae d}{cv:α->H->ah->β}{cv':g->H->ah->i}{y:Option (bp aj β)}{k':β->Option (bp aj i)}{f:aj->aj}
  (h:a2 e r0 (m r F) cv y) (hf:∀st,(f st).2.2.2.2.1=st.2.2.2.2.1) (av:∀a ad b,m r F= .ok a ad b->ad<:+r0->eb e ad b->a2 e r0 (C (k a ad b)) cv' (k' (cv a ad b))):
  a2 e r0 (C (Go.Eng.N m k r F)) cv' (a_ y f k'):=by
 unfold Go.Eng.N;cases hm:m r F with
 |ok a ad b=>rw[hm] at h;obtain⟨M,U,rfl⟩:=h;exact av a ad b hm M U
 |more op nd ds=>rw[hm] at h;obtain⟨st,rfl,U⟩:=h;rw[c.more];exact⟨f st,rfl,by grind⟩
 |bad q=>rw[hm] at h;obtain⟨M,st,rfl⟩:=h;rw[c.bad];exact⟨M,f st,rfl⟩
 |deep q=>rw[c.deep];trivial
theorem a2.ZH{α a β:Type}{C:dp α->dp a}(b:c_ C){e:cP}{r0 r:H}{F:ah}{cv:a->H->ah->β}{x:H}{st:aj}{f:aj->aj}{k:Empty->Option (bp aj β)}(M:st.1=e.S)(U:(f st).2.2.2.2.1=e.op):a2 e r0 (C ((cf x:ae α) r F)) cv (a_ (sN st) f k):=by unfold cf;rw[b.more];exact⟨f st,by grind[sN,a_],by grind⟩
theorem a2.inl{σ α β:Type}{e:cP}{f:σ->ae (σ⊕α)}{r0 r r':H}{a:ah}{s':σ}{cv:α->H->ah->β}{y:Option (bp aj β)}(ay:r'.length<r.length)(h:a2 e r0 (b8 f s' r' a) cv y):a2 e r0 (cR f r (a1 (.inl s') r' a)) cv y:=by simp_all[a1,cR,bc]
theorem a2.inr{σ α β:Type}{e:cP}{f:σ->ae (σ⊕α)}{r0 r r':H}{b:ah}{a:α}{cv:α->H->ah->β}{y:Option (bp aj β)}(M:r'<:+r0)(U:eb e r' b)(h:y=some (.inr (cv a r' b))):a2 e r0 (cR f r (a1 (.inr a) r' b)) cv y:=⟨M,U,h⟩
theorem a2.rep{σ α τ β:Type}{e:cP}{f:σ->ae (σ⊕α)}{cv:α->H->ah->β}{en:σ->H->ah->τ}{body:(τ->Option (bp aj β))->τ->Option (bp aj β)}
  (b:∀(k:τ->Option (bp aj β))(s:σ)(r:H)(F:ah),eb e r F->(∀s' r' a,r'<:+r->eb e r' a->r'.length<r.length->a2 e r (b8 f s' r' a) cv (k (en s' r' a)))->a2 e r (cR f r (f s r F)) cv (body k (en s r F))):
  ∀(n:Nat)(s:σ)(r:H)(F:ah),r.length<n->eb e r F->a2 e r (b8 f s r F) cv (fixF body n (en s r F)):=by
 intro n;induction n with
 |zero=>omega
 |succ n c=>grind[cz,a2,fixF,a2.mono]
theorem mj{n:Nat}(h:n<=1000000):n<bD:=by grind[gD]
theorem fl{σ α:Type}{f:(σ->Option α)->σ->Option α}{n:Nat}{s:σ}:fixF f (n+1) s=f (fixF f n) s:=rfl
theorem al0{e:cP}(I:aj)(c:I.1=e.S){j:Int->Option (bp aj aj)}(du:e.S.length<=1000000):∀(n:Nat)(r:H),r.length<n->r<:+e.S->fixF (Li I j) n (ax e.S r)=j (ax e.S (lW r)):=by
 intro n;induction n with
 |zero=>omega
 |succ n d=>
  intro r au a;rw[fl];generalize fixF (Li I j) n=k at d;unfold Li;rw[c];cases r with
  |nil=>simp[iO,a4,lW]
  |cons b t=>
   rw[b1 (λ_=>iy a),j2 a,jj du a];simp only[nN a,bA,aL,qd];unfold lW;by_cases f:b=10
   ·grind
   ·simp only[f,bG,fo,aL,cA];grind[List.length_cons,eo]
def Jc(e:cP)(r:H)(F:ah)(y:Option (bp aj aj)):Prop:=match bo r with
 |some r'=>y=some (.inr (e.st r' F))
 |none=>∃st:aj,y=some (.inl (1,e.S.length,st))/\st.2.2.2.2.1=e.op
theorem Tb{c:UInt8}{u:H}(az:c≠10):bo (92::c::u)=some (92::c::u):=by rw[nK,aO (by decide),aO (by decide),bc rfl];grind
theorem Tc{u:H}:bo (92::10::u)=if u=[] then none else bo u:=by rw[nK,aO (by decide),aO (by decide),bc rfl];rfl
theorem ZI:bo [92]=some [92]:=by rw[nK,aO (by decide),aO (by decide),bc rfl]
theorem Td{t:H}:bo (35::t)=bo (lW t):=by rw[nK,aO (by decide),bc rfl]
theorem Te{b:UInt8}{t:H}(a:¬fJ b=true)(c:b≠35)(d:b≠92):bo (b::t)=some (b::t):=by simp_all[nK,aO]
theorem FO{b:UInt8}{t:H}(a:fJ b=true):bo (b::t)=bo t:=by rw[nK,bc a]
theorem al1{e:cP}{F:ah}(du:e.S.length<=1000000)(I:aj)(M:I.1=e.S)(i:I.2.2.1=F)(j:I.2.2.2.1=e.ne)(l:I.2.2.2.2.1=e.op)(m:I.2.2.2.2.2=e.kz):∀(n:Nat)(r:H),r.length<n->r<:+e.S->
  Jc e r F (fixF (Lj I λo=>some (.inr (I.1,o,I.2.2.1,I.2.2.2.1,I.2.2.2.2.1,I.2.2.2.2.2))) n (ax e.S r)):=by
 intro n;induction n with
 |zero=>omega
 |succ n d=>
  intro r au a;rw[fl];generalize fixF (Lj I _) n=k at d;unfold Lj a7;simp only[M,i,j,l,m];cases r with
  |nil=>simp only[iO,Int.lt_irrefl,bG,aW];simp[Jc,mK,cP.st,iO]
  |cons b t=>
   have g:t.length<n:=by grind
   rw[b1 (iy a),j2 a,jj du a];simp only[nN a,bA,aL,Ta,Jb,ng,ZG];unfold Jc;by_cases f:fJ b=true
   ·rw[FO f];have:(bif decide (b=32) then true else decide (b=9))=true:=by simp[fJ] at f;rcases f with rfl|rfl<;>rfl
    rw[this];exact d t g (eo a)
   ·have p:(bif decide (b=32) then true else decide (b=9))=false:=by grind[fJ]
    rw[p];simp only[aW];by_cases q:b=92
    ·subst q;cases t with
     |nil=>simp[iO,a4,cP.st,ZI]
     |cons c u=>
      rw[b1 (λ_=>iy (eo a)),j2 (eo a)];simp only[bA,aL,nN (eo a),qd];by_cases az:c=10
      ·subst az;have s:W (ax e.S (92::10::u)+2)=ax e.S u:=k9 (w:=[92,10]) du a;rw[s];simp only[bA,aL,Tc];by_cases hu:u=[]
       ·subst hu;rw[bc rfl];simp only[iO,bA,aL];exact⟨_,rfl,rfl⟩
       ·rw[aO hu];have:decide (ax e.S u=(e.S.length:Int))=false:=by grind[zr]
        rw[this];simp only[aW];exact d u (by grind) (eo (eo a))
      simp_all[bG,aW,Tb,cP.st]
    ·have v:decide (b=92)=false:=by grind
     rw[v];simp only[aW];rw[b1 (λh=>by grind)];by_cases x:b=35
     ·subst x;rw[Td];simp only[decide_true,cond_true];rw[al0 (e:=e) I M du _ _ (mj (Nat.le_trans (e3 a) du)) a];have:lW (35::t)=lW t:=by rfl
      rw[this];exact d _ (Nat.lt_of_le_of_lt (AW t) g) ((Ft t).trans (eo a))
     grind[Te,cP.st]
theorem al2{e:cP}{r:H}{F:ah}(h:eb e r F):Jc e r F (Qj (e.st r F)):=
 al1 h.b7 (e.st r F) rfl rfl rfl rfl rfl _ r (mj (kB (e3 h.sfx) h.b7)) h.sfx
theorem Tg{r S:H}(h:r<:+S):S.drop (ax S r).toNat=r:=by obtain⟨u,rfl⟩:=h;simp[ax,oN]
theorem Jd{r t S:H}(h:r<:+S)(U:t<:+r):b4 S (ax S r) (ax S t)=r.take (r.length-t.length):=by grind[b4,Tg,e3,ax]
theorem Th{S r:H}(du:S.length<=1000000)(b:r<:+S):B9 S (ax S r)=some (bs r):=by
 have M:¬ax S r<0:=by grind[e3,ax]
 unfold B9;by_cases U:(S.length:Int)<=ax S r
 ·have c:r=[]:=zr.1 (show ax S r=S.length by have:= @pz r S;omega);simp_all[bs,kd,uF,List.isPrefixOf]
 ·simp only[M,U,bG,aW];have e0:sk 32 [60,60,45,32,38,38,32,124,124,32,59,59,32,60,60,32,60,38,32,60,62,32,62,62,32,62,38,32,62,124,32,38,32,124,32,59,32,60,32,62,32,40,32,41]=kd:=by decide
  have a:=Zz [60,60,45,32,38,38,32,124,124,32,59,59,32,60,60,32,60,38,32,60,62,32,62,62,32,62,38,32,62,124,32,38,32,124,32,59,32,60,32,62,32,40,32,41] 32 (by decide);rw[e0] at a;rw[aR a];unfold a7;show fixF (Lu S (ax S r) kd λ_=>some []) bD 0=_;rw[(ZA S (ax S r) (by omega) (by omega) (by omega) kd (by decide) (by decide) (λ_=>some []) bD 0 (by omega) (by decide) (by rw[gD];decide) (by simp[gD])).2];rw[Tg b];grind[bs,Lib.hasPrefix,List.isPrefixOf,List.find?,kd]
theorem gy{α β:Type}{g:Prop}[Decidable g]{v d:α}{k:α->Option β}:cZ g (some v) d k=k (if g then v else d):=by grind[cZ,aw]
theorem Ti{S r:H}(du:S.length<=1000000)(a:r<:+S):yP S (ax S r)=some (c1 r):=by
 unfold yP;rw[Th du a,gy];cases r with
 |nil=>simp[iO,a4,c1]
 |cons b t=>
  have ay:¬(S.length:Int)<=ax S (b::t):=by simp_all[nN]
  rw[b1 (λ_=>iy a),b1 (λ_=>iy a),b1 (λ_=>iy a),j2 a];simp only[ay,bG,aW,Ta,Jb,qd];grind[c1,fJ,bs]
theorem ZJ{S t:H}{b:UInt8}(du:S.length<=1000000)(a:b::t<:+S):Eu S (ax S (b::t))=some (gG (b::t)):=by
 unfold Eu;rw[b1 (iy a),j2 a,jj du a];simp only[qU,C9,C_];cases t with
 |nil=>simp[iO,a4,gG]
 |cons c u=>
  rw[b1 (λ_=>iy (eo a)),b1 (λ_ _=>iy (eo a)),j2 (eo a)];simp only[nN (eo a),bA];by_cases M:b=36
  ·subst M;by_cases U:c=40
   ·grind[gG]
   by_cases d:c=123
   ·grind[gG]
   simp_all[gG]
  simp_all[gG]
theorem al3:∀(r w:H),dc r=(w,false)->w=[]
 |[],w,h=>by grind[dc]
 |b::t,w,h=>by grind[dc]
def FP(S:H)(j:Int->Option (H×Bool))(r:H):H×Bool->Option (H×Bool)
 |(w,true)=>j (ax S (r.drop w.length))
 |(_,false)=>some ([],false)
theorem al4{S:H}(du:S.length<=1000000)(j:Int->Option (H×Bool)):∀(n:Nat)(r:H),r.length<n->r<:+S->fixF (HG S j) n (ax S r)=FP S j r (dc r):=by
 intro n;induction n with
 |zero=>omega
 |succ n d=>
  intro r au a;rw[fl];generalize fixF (HG S j) n=k at d;unfold HG;rw[Ti du a,aR rfl];cases r with
  |nil=>rfl
  |cons b t=>
   unfold dc;by_cases e:c1 (b::t)=true
   ·rw[e,bc rfl];rfl
   ·have f:c1 (b::t)=false:=by grind
    rw[f,aO (by simp)];simp only[fo,aL];rw[b1 (iy a),ZJ du a,gy,j2 a,jj du a];simp only[ng,rM,oG,oF];by_cases g:b=92
    ·grind[FP]
    by_cases h:b=39
    ·grind[FP]
    by_cases i:b=34
    ·grind[FP]
    by_cases l:b=96
    ·grind[FP]
    by_cases m:gG (b::t)=true
    ·grind[FP]
    ·simp only[g,h,i,l,bG,aW,cK,m,cA,or_self];rw[d t (by grind) (eo a)];cases aE:dc t with
     |mk w c=>cases c<;>rfl
theorem al5{S r:H}(du:S.length<=1000000)(a:r<:+S):Lv S (ax S r)=some (dc r):=by
 unfold Lv a7;show fixF (HG S _) bD (ax S r)=_;rw[al4 du _ _ r (mj (Nat.le_trans (e3 a) du)) a];cases aE:dc r with
 |mk w c=>
  cases c with
  |false=>rw[al3 _ _ aE];rfl
  |true=>have b:=(Fx _ _ aE).1;obtain⟨q,rfl⟩:=b;have d:q<:+S:=(List.suffix_append w q).trans a;show a4 _ _=_;rw[List.drop_left,b1 (by grind[e3,List.length_append,ax]),Jd a (fO w q)];simp
def jH:Tok->Int×H×Bool
 | .eof=>(0,[],false)
 | .line=>(1,[],false)
 | .op o=>(2,o,false)
 | .word w p=>(3,w,p)
theorem ZK{e:cP}{x r:H}{F:ah}(h:eb e r F):a2 e r (bV x r F) (λt r F=>(jH t,e.st r F)) (mG (e.st r F)):=by
 have Y:=al2 h;unfold Jc at Y;unfold mG;cases av:bo r with
 |none=>rw[av] at Y;obtain⟨st,M,U⟩:=Y;rw[iY av,M];exact⟨st,rfl,by grind⟩
 |some r'=>
  rw[av] at Y;rw[cu av,Y];have c:=ef av;have a:=h.mono c;refine⟨c,a,?_⟩;unfold a_;simp only[cP.st];cases r' with
  |nil=>simp[iO,aq,jH]
  |cons b t=>
   have bf:¬ax e.S (b::t)=(e.S.length:Int):=by simp[zr]
   simp only[bf,bG,aW];refine(b1 (iy a.sfx)).trans ?_;simp only[j2 a.sfx,qd];unfold aq;by_cases d:b=10
   ·grind[jH]
   ·simp only[d,bG,aW,cA];rw[Th a.b7 a.sfx,aR rfl];by_cases f:bs (b::t)=[]
    ·simp only[f,bA,hI,aW,ne_eq,not_true,cA];rw[al5 a.b7 a.sfx,aR rfl];rfl
    grind[jH]
theorem fm{σ τ α β:Type}{m:Option (bp σ α)}{f:σ->τ}{k:α->Option (bp τ β)}{y:α}(h:m=some (.inr y)):a_ m f k=k y:=by rw[h];rfl
theorem ib{σ τ α β:Type}{m:Option (bp σ α)}{f:σ->τ}{k:α->Option (bp τ β)}{c p:Int}{s:σ}(h:m=some (.inl (c,p,s))):a_ m f k=some (.inl (c,p,f s)):=by rw[h];rfl
theorem zt{σ τ α β:Type}{g:Prop}[Decidable g]{m:Option (bp σ α)}{f:σ->τ}{d:α}{k:α->Option (bp τ β)}(h:g):nS g m f d k=a_ m f k:=bc h
theorem ZL{σ τ α β:Type}{g:Prop}[Decidable g]{m:Option (bp σ α)}{f:σ->τ}{d:α}{k:α->Option (bp τ β)}(h:¬g):nS g m f d k=k d:=aO h
def xP{β:Type}(e:cP)(y:Option (bp aj β)):Prop:=∃st:aj,y=some (.inl (1,e.S.length,st))/\st.2.2.2.2.1=e.op
theorem xP.bind{β a:Type}{e:cP}{y:Option (bp aj β)}{f:aj->aj}{k:β->Option (bp aj a)}(h:xP e y)(hf:∀st,(f st).2.2.2.2.1=st.2.2.2.2.1\/(f st).2.2.2.2.1=e.op):xP e (a_ y f k):=by obtain⟨st,M,U⟩:=h;refine⟨f st,ib M,?_⟩;grind
theorem xP.more{β:Type}{e:cP}{st:aj}{f:aj->aj}{k:Empty->Option (bp aj β)}(M:st.1=e.S)(U:(f st).2.2.2.2.1=e.op):xP e (a_ (sN st) f k):=
 ⟨f st,by grind[sN,a_],U⟩
theorem xP.sm{α β:Type}{e:cP}{r0:H}{cv:α->H->ah->β}{nd:H}{ds:ah}{y:Option (bp aj β)}(h:xP e y):a2 e r0 (.more [] nd ds) cv y:=by obtain⟨st,M,U⟩:=h;exact⟨st,M,by grind⟩
structure o2{β:Type}(e:cP)(f:Tok->β)(gQ:aj->Option (bp aj (β×aj))):Prop where
 some:∀{r r' F},eb e r F->bo r=some r'->gQ (e.st r F)= .some (.inr (f (aq r'),e.st r' F))
 none:∀{r F},eb e r F->bo r=none->xP e (gQ (e.st r F))
theorem lL(e:cP):o2 e jH mG:=by
 constructor
 ·intro r r' F h Y;have:=ZK (x:=[]) h;rw[cu Y] at this;exact this.2.2
 ·intro r F h Y;have:=ZK (x:=[]) h;rw[iY Y] at this;obtain⟨st,M,U⟩:=this;exact⟨st,M,by grind⟩
theorem rO(e:cP)(w:H):o2 e (λt=>cG t w) (λx=>qA x w):=by
 constructor
 ·intro r r' F h Y;refine(fm ((lL e).some h Y)).trans ?_;cases aq r' with
  |word t p=>cases p<;>by_cases a:t=w<;>simp[jH,cG,a]<;>rfl
  |_=>rfl
 ·intro r F h Y;exact((lL e).none h Y).bind λ_=> .inl rfl
theorem sn(e:cP)(w:H):o2 e (λt=>t== .op w) (λx=>ow x w):=by
 constructor
 ·intro r r' F h Y;refine(fm ((lL e).some h Y)).trans ?_;cases aq r' with
  |op t=>by_cases a:t=w<;>simp[jH,a]<;>rfl
  |_=>rfl
 ·intro r F h Y;exact((lL e).none h Y).bind λ_=> .inl rfl
def Da:Ctx->Int
 | .text=>0| .paren=>1| .p9=>2| .sg=>3| .qL=>4| .kE=>5| .p_=>6| .done=>7| .item=>8
theorem o2.or{e:cP}{f g:Tok->Bool}{gQ G:aj->Option (bp aj (Bool×aj))}(hf:o2 e f gQ)(bu:o2 e g G):
  o2 e (λt=>f t||g t) (λI=>a_ (gQ I) (λx=>x) λy=>nS (y.1=false) (G (y.2.1,y.2.2.1,I.2.2.1,y.2.2.2.2.1,I.2.2.2.2.1,y.2.2.2.2.2.2)) (λx=>x) (false,(y.2.1,y.2.2.1,I.2.2.1,y.2.2.2.2.1,I.2.2.2.2.1,y.2.2.2.2.2.2)) λz=>
   Option.some (.inr ((bif y.1 then true else z.1),(z.2.1,z.2.2.1,I.2.2.1,z.2.2.2.2.1,I.2.2.2.2.1,z.2.2.2.2.2.2)))):=by
 constructor
 ·intro r r' F h Y;refine(fm (hf.some h Y)).trans ?_;cases a:f (aq r') with
  |true=>rfl
  |false=>refine(zt rfl).trans ((fm (bu.some (h.mono (ef Y)) (l1 _ _ _ (cF _) Y))).trans ?_);rfl
 ·intro r F h Y;exact(hf.none h Y).bind λ_=> .inl rfl
theorem o2.ret{β:Type}{e:cP}{f:Tok->β}{gQ:aj->Option (bp aj (β×aj))}(hf:o2 e f gQ):o2 e f (λI=>a_ (gQ I) (λx=>x) λy=>Option.some (.inr (y.1,(y.2.1,y.2.2.1,I.2.2.1,y.2.2.2.2.1,I.2.2.2.2.1,y.2.2.2.2.2.2)))):=by
 constructor
 ·intro r r' F h Y;exact(fm (hf.some h Y)).trans rfl
 ·intro r F h Y;exact(hf.none h Y).bind λ_=> .inl rfl
theorem al6(e:cP):o2 e (λt=>t== .eof) (λI=>a_ (mG I) (λx=>x) λy=>some (.inr (decide (y.1.1=0),(y.2.1,y.2.2.1,I.2.2.1,y.2.2.2.2.1,I.2.2.2.2.1,y.2.2.2.2.2.2)))):=by
 constructor
 ·intro r r' F h Y;refine(fm ((lL e).some h Y)).trans ?_;cases aq r'<;>simp[jH]<;>rfl
 ·intro r F h Y;exact((lL e).none h Y).bind λ_=> .inl rfl
theorem o2.al7{e:cP}{f g i:Tok->Bool}{gQ G da:aj->Option (bp aj (Bool×aj))}(hf:o2 e f gQ)(bu:o2 e g G)(bh:o2 e i da):
  o2 e (λt=>f t||g t||i t) (λI=>a_ (gQ I) (λx=>x) λy=>nS (y.1=false) (G (y.2.1,y.2.2.1,I.2.2.1,y.2.2.2.2.1,I.2.2.2.2.1,y.2.2.2.2.2.2)) (λx=>x) (false,(y.2.1,y.2.2.1,I.2.2.1,y.2.2.2.2.1,I.2.2.2.2.1,y.2.2.2.2.2.2)) λz=>
   nS ((bif y.1 then true else z.1)=false) (da (z.2.1,z.2.2.1,I.2.2.1,z.2.2.2.2.1,I.2.2.2.2.1,z.2.2.2.2.2.2)) (λx=>x) (false,(z.2.1,z.2.2.1,I.2.2.1,z.2.2.2.2.1,I.2.2.2.2.1,z.2.2.2.2.2.2)) λw=>
   Option.some (.inr ((bif(bif y.1 then true else z.1) then true else w.1),(w.2.1,w.2.2.1,I.2.2.1,w.2.2.2.2.1,I.2.2.2.2.1,w.2.2.2.2.2.2)))):=by
 constructor
 ·intro r r' F h Y;have a:=l1 _ _ _ (cF _) Y;have b:=h.mono (ef Y);refine(fm (hf.some h Y)).trans ?_;cases c:f (aq r') with
  |true=>rfl
  |false=>
   refine(zt rfl).trans ((fm (bu.some b a)).trans ?_);cases d:g (aq r') with
   |true=>rfl
   |false=>refine(zt rfl).trans ((fm (bh.some b a)).trans ?_);rfl
 ·intro r F h Y;exact(hf.none h Y).bind λ_=> .inl rfl
theorem Tk(e:cP)(c:Ctx):o2 e (d_ c) (λx=>Ey x (Da c)):=by
 cases c with
 |text=>exact al6 e
 |paren=>exact(sn e _).ret
 |p9=>exact(rO e _).ret
 |sg=>exact(rO e _).ret
 |kE=>exact(rO e _).ret
 |p_=>exact(rO e _).ret
 |done=>exact(rO e _).ret
 |item=>exact(sn e _).or (rO e _)
 |qL=>exact(rO e _).al7 (rO e _) (rO e _)
theorem ud{e:cP}{r r':H}{F:ah}(h:eb e r F)(Y:bo r=some r'):
  (aq r'= .eof->xP e (lC (e.st r F)))/\(aq r'≠ .eof->lC (e.st r F)=some (.inl (2,ax e.S r',e.st r' F))):=by
 constructor
 ·intro a;have:lC (e.st r F)=a_ (sN (e.st r' F)) (λx=>x) λy=>Empty.elim y:=by unfold lC a7;refine(fm ((lL e).some h Y)).trans ?_;rw[a];rfl
  rw[this];exact xP.more rfl rfl
 ·intro a;unfold lC a7;refine(fm ((lL e).some h Y)).trans ?_;cases av:aq r' with
  |eof=>grind
  |_=>rfl
theorem ZM{e:cP}{r:H}{F:ah}{w:H}{t:Tok->Bool}{gQ:aj->Option (bp aj (Bool×aj))}(b:o2 e t gQ)(d:∀{r:H},t (aq r)=true->aq r≠ .eof/\w<+:r)(h:eb e r F):
  a2 e r (nJ t w.length r F) (λ_=>e.st) (a_ (gQ (e.st r F)) (λx=>x) λy=>bif !y.1 then a_ (lC (y.2.1,y.2.2.1,F,y.2.2.2.2.1,e.op,y.2.2.2.2.2.2)) (λx=>x) (λy=>Empty.elim y) else some (.inr (y.2.1,W (y.2.2.1+(w.length:Int)),F,y.2.2.2.2.1,e.op,y.2.2.2.2.2.2))):=by
 unfold nJ;cases Y:bo r with
 |none=>rw[dt (iY Y)];exact((b.none h Y).bind λ_=> .inl rfl).sm
 |some r'=>
  rw[aS (cu Y),fm (b.some h Y)];have f:=ef Y;have a:=h.mono f;have c:=l1 _ _ _ (cF _) Y;cases av:t (aq r') with
  |true=>obtain⟨M,q,rfl⟩:=d av;rw[aO M,bc rfl];refine⟨by grind[List.drop_left,List.suffix_append,trans],by rw[oN];exact a.mono (fO w q),?_⟩;rw[oN];show some (Sum.inr (e.S,W (ax e.S (w++q)+(w.length:Int)),F,e.ne,e.op,e.kz))=_;rw[k9 h.b7 a.sfx];rfl
  |false=>
   simp only[fo,aL];by_cases he:aq r'= .eof
   ·rw[bc he];exact(((ud a c).1 he).bind λ_=> .inl rfl).sm
   ·rw[aO he,aO (by simp)];exact⟨a.sfx,_,ib ((ud a c).2 he)⟩
theorem Je{e:cP}{r:H}{F:ah}(w:H)(h:eb e r F):a2 e r (cS w r F) (λ_=>e.st) (oy (e.st r F) w):=by refine ZM (rO e w) (λ{r} av=>?_) h;grind[aq,cG,qQ]
theorem M8{e:cP}{r:H}{F:ah}(o:H)(h:eb e r F):a2 e r (j1 o r F) (λ_=>e.st) (tN (e.st r F) o):=by
 refine ZM (sn e o) (λ{r} av=>?_) h;have:aq r= .op o:=by grind
 simp_all[h4]
theorem Tl:∀r:H,(Lib.indexByte r 10= -1/\(hF r).1=r/\(hF r).2=[])\/(Lib.indexByte r 10=((hF r).1.length:Int)/\r=(hF r).1++10::(hF r).2)
 |[]=> .inl ⟨rfl,rfl,rfl⟩
 |b::t=>by have:=Tl t;unfold hF Lib.indexByte;grind
theorem M9{r S:H}(h:r<:+S):b4 S (ax S r) S.length=r:=by rw[<-iO S,Jd h nP];simp
theorem al8{S d:H}{tabs:Bool}{j:Unit->Option Int}(du:S.length<=1000000):∀(n:Nat)(r:H),r.length<n->r<:+S->
  fixF (sO S d tabs j) n (ax S r)=match jR d tabs r with|some q=>some (ax S q)|none=>j ():=by
 intro n;induction n with
 |zero=>omega
 |succ n e=>
  intro r au a;rw[fl];generalize fixF (sO S d tabs j) n=k at e;unfold sO a7;cases r with
  |nil=>simp[iO,jR]
  |cons b t=>
   have s:=e3 a;simp only[nN a,bA,aL];rw[b1 (by have:=iy a;omega),M9 a];have h:∀(l q:H),q<:+S->q.length<(b::t).length->(hF (b::t)).1=l->(hF (b::t)).2=q->
     (bif tabs then aw (B_ l [9]) λi=>bif decide (i=d) then some (ax S q) else k (ax S q) else bif decide (l=d) then some (ax S q) else k (ax S q))=
     match jR d tabs (b::t) with|some q=>some (ax S q)|none=>j ():=by
    intro l q f ay M U;rw[xI,M,U];have bh:=e q (by omega) f;have u:l.length<=(b::t).length:=by
     rcases Tl (b::t) with⟨_,g,_⟩|⟨_,g⟩
     ·grind
     grind
    cases tabs with
    |true=>rw[ZC l (by omega)];simp only[aL,cK];rw[aR rfl];grind
    |false=>grind
   show aw (some (Lib.indexByte (b::t) 10)) _=_;rw[aR rfl];rcases Tl (b::t) with⟨M,U,g⟩|⟨M,U⟩
   ·grind[iO]
   ·have c:=mC List.length U;simp only[m3,j5] at c;have m:decide ((0:Int)<=Lib.indexByte (b::t) 10)=true:=by grind
    have f:(hF (b::t)).2<:+S:=((dL 10 _).trans (by grind)).trans a
    have o:b4 (b::t) 0 (Lib.indexByte (b::t) 10)=(hF (b::t)).1:=by grind[hF,b4]
    have v:(b::t).length=t.length+1:=rfl;have p:W (W (ax S (b::t)+Lib.indexByte (b::t) 10)+1)=ax S (hF (b::t)).2:=by grind[ax,dJ]
    rw[m];simp only[aL];rw[b1 (by omega),o,p];grind
theorem ZO{S d:H}{tabs:Bool}{r:H}(du:S.length<=1000000)(a:r<:+S):Ew S (ax S r) d tabs=some (match jR d tabs r with|some q=>ax S q|none=> -1):=by
 unfold Ew yR;have M:max (0:Int) (min (ax S r) S.length)=ax S r:=by grind[pz,e3,ax]
 rw[aR rfl,M];unfold a7;show fixF (sO S d tabs _) bD (ax S r)=_;grind[al8,mj,Nat.le_trans,e3,jR]
def Na{β:Type}(e:cP)(op:bx)(y:Option (bp aj β)):Prop:=∃st:aj,y=some (.inl (1,e.S.length,st))/\st.2.2.2.2.1=e.op++op
theorem Nb{β:Type}{e:cP}{st:aj}{x:H}{f:aj->aj}{k:Empty->Option (bp aj β)}(M:st.1=e.S)(U:st.2.2.2.2.1=e.op)(a:e.op.length<=2000000)(hf:∀s,(f s).2.2.2.2.1=s.2.2.2.2.1):Na e [x] (a_ (yS st x) f k):=by
 unfold yS;rw[b1 (by grind)];refine⟨f (st.1,st.2.1,st.2.2.1,st.2.2.2.1,st.2.2.2.2.1++[x],st.2.2.2.2.2),?_,?_⟩
 ·grind[sN,a_]
 grind
theorem al9{e:cP}{F:ah}{I y23:aj}{j:Int->Option (bp aj (Bool×aj))}(du:e.S.length<=1000000)(f:e.op.length<=2000000)(o:F.length<=1000000)(g:I.2.2.2.2.1=e.op)(h:y23.1=e.S):∀(n i:Nat)(q:H),F.length-i<n->i<=F.length->q<:+e.S->
  match ks (F.drop i) q with
  | .inl r'=>fixF (Ca I F y23 j) n ((i:Int),ax e.S q)=j (ax e.S r')
  | .inr _=>Na e [[60,60]] (fixF (Ca I F y23 j) n ((i:Int),ax e.S q)):=by
 intro n;induction n with
 |zero=>omega
 |succ n l=>
  intro i q au bh d;rw[fl];generalize fixF (Ca I F y23 j) n=k at l;unfold Ca a7;simp only[h,g];by_cases p:i<F.length
  ·have a:(i:Int)<(F.length:Int):=by omega
   have b:F.drop i=at' F (i:Int)::F.drop (i+1):=by grind[List.drop_eq_getElem_cons,at',List.getElem?_eq_getElem]
   rw[b];simp only[a,bA,aL];rw[b1 (show 0<=(i:Int)/\True from⟨by omega,trivial⟩),ZO du d,aR rfl,dJ (x:=(i:Int)+1) (by omega) (by omega)];unfold ks;cases m:jR (at' F (i:Int)).1 (at' F (i:Int)).2 q with
   |none=>simp only[show((-1:Int)<0) from by decide,bA,aL];exact Nb rfl rfl f λ_=>rfl
   |some c=>
    have r:c<:+e.S:=((SH _ _ _ q [] c (cF _) m).1).trans d;have h0:¬ax e.S c<0:=by grind[e3,ax]
    grind
  ·have a:¬(i:Int)<(F.length:Int):=by omega
   have b:F.drop i=[]:=w7 (by omega);rw[b];simp only[a,bG,aW];rfl
theorem eb.xQ{e:cP}{r:H}{F:ah}(h:eb e r F):e.op.length<=2000000:=by have:=h.ops;have:=h.b7;omega
theorem eb.Tm{e:cP}{r:H}{F:ah}(h:eb e r F):F.length<=1000000:=by have:=h.kf;have:=h.b7;omega
theorem ZP{e:cP}{r:H}{F:ah}(h:eb e r F):a2 e r (c2 r F) (λb r F=>(b,e.st r F)) (ma (e.st r F)):=by
 unfold ma a7;rw[rG];refine a2.rep (en:=λb r F=>(b,e.S,ax e.S r,F,e.ne,e.kz)) (λk b ad a M av=>?_) bD false r F (mj (kB (e3 h.sfx) h.b7)) h;unfold QN a7;cases Y:bo ad with
 |none=>have:hX b ad a= .more [] (cW [] a []).1 (cW [] a []).2:=dt (iY Y);rw[this];exact(((lL e).none M Y).bind λ_=> .inr rfl).sm
 |some n=>
  have i:=ef Y;have c:=M.mono i;refine cast (mC _ (fm ((lL e).some M Y)).symm) ?_;by_cases l:aq n= .line
  ·obtain⟨t,rfl⟩:=wD l;rw[ub Y,l];have o:t<:+e.S:=eo c.sfx;have f:=al9 (e:=e) (F:=a) (I:=e.st r F) (y23:=e.st (10::t) a) (j:=λm=>k (true,e.S,m,[],e.ne,e.kz)) h.b7 c.xQ c.Tm rfl rfl bD 0 t (mj (by have:=c.Tm;omega)) (by omega) o;have s:W (ax e.S (10::t)+1)=ax e.S t:=jj c.b7 c.sfx;simp only[ym] at f
   have u:∀y,y=fixF (Ca (e.st r F) a (e.st (10::t) a) λm=>k (true,e.S,m,[],e.ne,e.kz)) bD ((0:Nat),ax e.S t)->a2 e ad (cR hX ad (N jt (λ_=>a1 (.inl true)) (10::t) a)) (λb r F=>(b,e.st r F)) y:=by
    rintro y rfl;cases g:ks a t with
    |inr nd=>
     rw[g] at f;have:N jt (λ_=>a1 (.inl true)) (10::t) a=(.more [[60,60]] nd []:dp (Bool⊕Bool)):=by grind[N,s5]
     rw[this];exact f
    |inl d=>
     rw[g] at f;have v:N jt (λ_=>a1 (.inl true)) (10::t) a=(.ok (.inl true) d []:dp (Bool⊕Bool)):=by unfold N;rw[s5,g];rfl
     rw[v];have w:fixF _ _ _=_:=f;rw[w];have p:d<:+t:=(vl _ _ [] _ g).1;have x:d<:+ad:=p.trans ((dL 10 t).trans i);have q:d.length<ad.length:=by grind
     have z:eb e d []:=⟨c.b7,p.trans o,by grind,by have:=M.ops;omega⟩;exact a2.inl q (av true d [] x z q)
   refine u _ ?_;rw[<-s];rfl
  ·rw[rH Y l];refine⟨i,c,?_⟩;cases A:aq n with
   |line=>grind
   |_=>rfl
theorem al_(w:H):LA w=some (oC w):=by
 unfold LA;have e0:sk 32 [105,102,32,119,104,105,108,101,32,117,110,116,105,108,32,102,111,114,32,99,97,115,101,32,123]=([jT,tY,Fo,mz,oB,[123]]:bx):=by decide
 rw[aR (S5 w _ (by decide) (by simp_all)),e0];rfl
theorem ama(w:H):LY w=some (rB w):=by unfold LY;rw[aR (S5 w _ (by decide) (by decide))];rfl
theorem amb(w:H):H6 w=some (ff w):=by unfold H6;rw[aR (S5 w _ (by decide) (by decide))];rfl
theorem ZQ(e:cP):o2 e gg HQ:=by
 constructor
 ·intro r r' F h Y;refine(fm ((lL e).some h Y)).trans ?_;simp only[al_,gy];cases aq r' with
  |word t p=>cases p<;>simp[jH,gg,cP.st]
  |op o=>grind[jH,gg,cP.st]
  |_=>rfl
 ·intro r F h Y;exact((lL e).none h Y).bind λ_=> .inl rfl
def cP.fH(e:cP)(x:H):cP:=⟨e.S,e.ne+1,e.op++[x],e.kz⟩
theorem Nc{e:cP}{r:H}{F:ah}{p:Int}{x:H}(h:eb e r F)(M:0<=e.ne)(U:e.ne<30):Aq (e.st r F) p x=some (.inr ((e.fH x).st r F)):=by
 unfold Aq a7;have:¬(e.st r F).2.2.2.1=30:=by show¬e.ne=30;omega
 simp only[this,bG,aW];have b:=h.xQ;refine(b1 (show(e.st r F).2.2.2.2.1.length+_<=536870912 by show e.op.length+1<=_;omega)).trans ?_;have a:W (e.ne+1)=e.ne+1:=dJ (by omega) (by omega);show some (Sum.inr (e.S,ax e.S r,F,W (e.ne+1),e.op++[x],e.kz))=_;rw[a];rfl
theorem Nd{e:cP}{r:H}{F:ah}{x:H}(c:e.op.length<=2000000)(M:0<=e.ne)(U:e.ne<30):v_ ((e.fH x).st r F)=some (e.st r F):=by
 unfold v_;have ay:((e.fH x).st r F).2.2.2.2.1=e.op++[x]:=rfl;have au:((e.fH x).st r F).2.2.2.1=e.ne+1:=rfl;have a:W (((e.op++[x]).length:Int)-1)=e.op.length:=by grind[dJ,List.length_append,List.length_singleton]
 have b:W (e.ne+1-1)=e.ne:=by grind[dJ]
 simp only[ay,au,a,b];rw[b1 (by grind)];have:b4 (e.op++[x]) 0 (e.op.length:Int)=e.op:=by simp[b4]
 rw[this];rfl
theorem a2.named{α β:Type}{e:cP}{r0 r:H}{F:ah}{m:ae α}{x:H}{cv:α->H->ah->β}{y:Option (bp aj β)}(h:a2 (e.fH x) r0 (m r F) cv y):match(m.named x) r F with
  | .ok a r F=>r<:+r0/\eb (e.fH x) r F/\y=some (.inr (cv a r F))
  | .more op _ _=>Na e op y
  | .bad r=>r<:+e.S/\∃st,y=some (.inl (2,ax e.S r,st))
  | .deep _=>True:=by
 unfold ae.named;cases hm:m r F with
 |ok a ad b=>rw[hm] at h;exact h
 |more op nd ds=>rw[hm] at h;obtain⟨st,M,U⟩:=h;exact⟨st,M,by grind[cP.fH]⟩
 |bad q=>rw[hm] at h;exact h
 |deep q=>trivial
theorem Jh{S r:H}(a:r<:+S):yR (ax S r) S.length=some (ax S r):=by unfold yR;grind[max,min,ax,pz,e3]
def lM(S:H):Option H->Int
 |some q=>ax S q
 |none=> -1
theorem amc{S:H}(du:S.length<=1000000):∀(n:Nat)(r:H),r.length<n->r<:+S->fixF (yV S λ_=>some (-1)) n (ax S r)=some (lM S (hE r)):=by
 intro n;induction n with
 |zero=>omega
 |succ n e=>
  intro r au a;rw[fl];cases r with
  |nil=>simp[yV,iO,hE,lM]
  |cons b t=>
   have i:=e3 a;have g:t.length<n:=by grind
   have f:=e t g (eo a);cases t with
   |nil=>
    obtain⟨m,rfl⟩:∃m,n=m+1:=⟨n-1,by omega⟩
    have h:fixF (yV S λ_=>some (-1)) (m+1) (W (ax S []+1))=some (-1):=by
     rw[fl];unfold yV;have:¬W (ax S []+1)<(S.length:Int):=by grind[iO,dJ]
     grind
    generalize fixF (yV S _) (m+1)=k at f h;unfold yV a7;simp only[nN a,bA,aL];rw[b1 ⟨(iy a).1,trivial⟩,j2 a,jj du a];grind[ng,oF,hE,lM]
   |cons c u=>have d:=e u (by grind) (eo (eo a));generalize fixF (yV S _) n=k at f d;unfold yV a7;simp only[nN a,bA,aL];rw[b1 ⟨(iy a).1,trivial⟩,j2 a,jj du a,jj du (eo a)];grind[ng,oF,hE,lM]
theorem ame{S r:H}(du:S.length<=1000000)(a:r<:+S):EG S (ax S r)=some (lM S (hE r)):=by unfold EG;rw[Jh a,aR rfl];grind[a7,amc,mj,Nat.le_trans,e3]
theorem ZR:∀r:H,(Lib.indexByte r 39= -1/\gw r=none)\/∃q,gw r=some q/\q<:+r/\Lib.indexByte r 39=(r.length:Int)-q.length-1
 |[]=> .inl ⟨rfl,rfl⟩
 |b::t=>by
  unfold gw Lib.indexByte;by_cases a:b=39
  ·subst a;exact .inr ⟨t,by simp,dL 39 t,by simp;omega⟩
  ·rcases ZR t with⟨M,U⟩|⟨q,M,U,c⟩
   ·left;simp[a,M,U]
   ·right;refine⟨q,by simp[a,M],U.trans (dL b t),?_⟩;have d:=zl t q M;have:¬Lib.indexByte t 39= -1:=by rw[c];omega
    simp[a,this,c];omega
theorem ZS{S r:H}(du:S.length<=1000000)(a:r<:+S):xy S (ax S r)=some (lM S (gw r)):=by
 unfold xy;have ay:=e3 a;have aE:ax S r=(S.length:Int)-r.length:=rfl;rw[Jh a,aR rfl,b1 (by omega),M9 a];show aw (some (Lib.indexByte r 39)) _=_;rw[aR rfl];rcases ZR r with⟨M,U⟩|⟨q,M,U,b⟩
 ·rw[M,U];rfl
 ·have c:=zl r q M;rw[M,b];have h0:¬((r.length:Int)-q.length-1<0):=by omega
  simp only[h0,bG,aW];rw[dJ (x:=ax S r+_) (by omega) (by omega),dJ (by omega) (by omega)];unfold lM;simp only;congr 1;have:ax S q=(S.length:Int)-q.length:=rfl;omega
def qV(S:H):YN->Int×Int
 | .ok r=>(ax S r,0)
 | .more n=>(-1,n)
 | .bad r=>(-2,ax S r)
theorem tb(b:UInt8)(t:H):gG (b::t)=(decide (b=36)&&match t with|[]=>false|c::_=>decide (c=40)||decide (c=123)):=by
 cases t with
 |nil=>simp[gG]
 |cons c u=>
  by_cases M:b=36
  ·subst M;by_cases U:c=40
   ·subst U;rfl
   ·by_cases a:c=123
    ·subst a;rfl
    simp_all[gG]
  simp_all[gG]
theorem amf{S:H}(du:S.length<=1000000):∀(n:Nat)(d:Nat)(r:H),r.length<n->r<:+S->d+r.length<=1000000->fixF (EC S λl=>some ((-1),(W (l+2)))) n ((d:Int),ax S r)=some (qV S (iu d r)):=by
 intro n;induction n with
 |zero=>omega
 |succ n f=>
  intro d r au a aD;rw[fl];generalize fixF (EC S _) n=k at f;unfold EC a7;cases r with
  |nil=>simp only[iO,Int.lt_irrefl,bG,aW];grind[dJ,iu,qV]
  |cons b t=>
   have y:=e3 a;have m:t.length<n:=by grind
   have z:(b::t).length=t.length+1:=rfl;simp only[nN a,bA,aL];rw[b1 ⟨(iy a).1,trivial⟩];have o:=jj du a;simp only[j2 a,o,C9,FN,rM,oG,ng,oF,qU];have A:=λd h=>f d t m (eo a) h;unfold iu;rw[tb];by_cases e:b=40
   ·subst e;have g:W ((d:Int)+1)=((d+1:Nat):Int):=by grind[dJ]
    grind
   by_cases i:b=41
   ·subst i;simp only[e,bG,bA,aL,aW];cases d with
    |succ j=>
     have g:W (((j+1:Nat):Int)-1)=(j:Int):=by grind[dJ]
     grind
    |zero=>
     simp only[show¬((0:Int)<((0:Nat):Int)) by decide,bG,aW];cases t with
     |nil=>simp[iO,qV]
     |cons c u=>
      have bf:¬ax S (c::u)=(S.length:Int):=by simp[zr]
      simp only[bf,bG,aW];rw[b1 (iy (eo a))];simp only[j2 (eo a),FN];have g:W (ax S (41::c::u)+2)=ax S u:=k9 (w:=[41,c]) du a;grind[qV]
   simp only[e,i,bG,aW,cA];by_cases p:b=39
   ·grind[qV]
   by_cases q:b=34
   ·grind[qV]
   by_cases s:b=92
   ·grind[qV]
   by_cases v:b=96
   ·grind[qV]
   simp only[p,q,s,v,bG,aW,false_or];by_cases x:b=36
   ·subst x;simp only[bA,aL,Ki];cases t with
    |nil=>simp only[iO,Int.lt_irrefl,bG,aW];grind[b1,iO]
    |cons c u=>rw[b1 (λ_=>iy (eo a)),b1 (λ_ _=>iy (eo a))];simp only[nN (eo a),bA,aL,j2 (eo a),C9,C_];grind[qV]
   grind
theorem ZT{S r:H}(du:S.length<=1000000)(a:r<:+S):ED S (ax S r)=some (qV S (iu 0 r)):=by unfold ED;rw[Jh a,aR rfl];unfold a7;exact amf du _ 0 r (mj (kB (e3 a) du)) a (by grind)
def qX{α β:Type}(e:cP)(m:ae α)(cv:α->H->ah->β)(gQ:aj->Option (bp aj β)):Prop:=∀r F,eb e r F->a2 e r (m r F) cv (gQ (e.st r F))
def a9(fr:Bool):Nat->ae Unit
 |0=>dG none
 |n+1=>dG (some (aU fr n))
theorem xR(fr:Bool)(n:Nat):(aU fr n).dl=a9 fr n:=by cases n<;>rfl
structure Db(R:bj)(n:Nat):Prop where
 im:∀e:cP,e.ne=30- (n:Int)->qX e (jD 34 (cJ (a9 false n) none)) (λ_=>e.st) (λx=>R.yK x 34 false)
structure Ji(R:bj)(n:Nat):Prop where
 im:∀e:cP,e.ne=30- (n:Int)->qX e (jD 125 (cJ (a9 false n) (some (e2 (a9 false n))))) (λ_=>e.st) (λx=>R.yK x 125 true)
structure xS(R:bj)(n:Nat):Prop where
 im:∀(e:cP)(c:Ctx)(no:Bool),c≠ .text->e.ne=30- (n:Int)->qX e ((aU false n).ls c no) (λa r F=>((a:Int),e.st r F)) (λx=>R.kX x (Da c) no)
theorem a2.aM{α β:Type}{e:cP}{r0 r:H}{F:ah}{m:ae α}{x:H}{cv:α->H->ah->β}{y:Option (bp aj β)}(h:a2 e r0 (m r F) cv y):a2 e r0 (m.aM x r F) cv y:=by
 unfold ae.aM;cases hm:m r F with
 |more op nd ds=>rw[hm] at h;exact h
 |ok a ad b=>grind
 |bad q=>grind
 |deep q=>trivial
def cP.nm(e:cP)(x:H):cP:=⟨e.S,e.ne,e.op++[x],e.kz⟩
theorem amg{R:bj}{n:Nat}(g9:Db R n){e:cP}(bf:e.ne=30- (n:Int)){t:H}{F:ah}(h:eb e (34::t) F):a2 e t (e2 (a9 false n) t F) (λ_=>e.st) (LH R (e.st (34::t) F)):=by
 unfold LH;have k:=h.xQ;refine cast (mC _ (b1 (show(e.st (34::t) F).2.2.2.2.1.length+_<=536870912 by show e.op.length+1<=_;omega)).symm) ?_
 have b:eb (e.nm [34]) t F:=⟨h.b7,eo h.sfx,by have:=h.kf;simp only[j5] at this;show _<=e.S.length;omega,by have:=h.ops;simp only[j5] at this;show(e.op++[[34]]).length+_<=_;simp only[m3,OS];show _<=e.S.length+1;omega⟩
 have hu:=g9.im (e.nm [34]) bf t F b;have c:W (ax e.S (34::t)+1)=ax e.S t:=jj h.b7 h.sfx;have d:((e.st (34::t) F).1,(W ((e.st (34::t) F).2.1+1)),(e.st (34::t) F).2.2.1,(e.st (34::t) F).2.2.2.1,((e.st (34::t) F).2.2.2.2.1++([([34]:H)]:bx)),(e.st (34::t) F).2.2.2.2.2)=(e.nm [34]).st t F:=by show(e.S,W (ax e.S (34::t)+1),F,e.ne,e.op++[[34]],e.kz)=_;rw[c];rfl
 rw[d];unfold e2 ae.named ae.aM;cases hm:jD 34 (cJ (a9 false n) none) t F with
 |ok a ad f=>
  rw[hm] at hu;obtain⟨M,U,g⟩:=hu
  refine⟨M,⟨h.b7,U.sfx,U.kf,by have:=U.ops;have i:(e.nm [34]).op.length=e.op.length+1:=by simp[cP.nm]
                               rw[i] at this;have l:(e.nm [34]).S=e.S:=rfl;grind⟩,?_⟩
  rw[fm g];have j:W (((e.op++[[34]]).length:Int)-1)=e.op.length:=by grind[dJ,List.length_append,List.length_singleton]
  have ay:((e.nm [34]).st ad f).2.2.2.2.1=e.op++[[34]]:=rfl;simp only[ay,j];refine(b1 (by grind)).trans ?_;have:b4 (e.op++[[34]]) 0 (e.op.length:Int)=e.op:=by simp[b4]
  rw[this];rfl
 |more op nd ds=>rw[hm] at hu;obtain⟨st,M,U⟩:=hu;exact⟨st,ib M,by grind[cP.nm]⟩
 |bad q=>rw[hm] at hu;obtain⟨M,st,U⟩:=hu;exact⟨M,st,ib U⟩
 |deep q=>trivial
def Nf(e:cP)(b:UInt8)(t:H)(F:ah)(m:dp Unit)(y:Option (bp aj (Bool×aj))):Prop:=match m with
 | .ok _ r' a=>r'<:+t/\eb e r' a/\(y=some (.inr (true,e.st r' a))\/(y=some (.inr (false,e.st (b::t) F))/\r'=t/\a=F))
 | .more op _ _=>Na e op y
 | .bad r=>r<:+e.S/\∃st,y=some (.inl (2,ax e.S r,st))
 | .deep _=>True
theorem eb.fH{e:cP}{r t:H}{F:ah}{x:H}(h:eb e r F)(a:t<:+r)(ay:t.length<r.length):eb (e.fH x) t F:=
 ⟨h.b7,a.trans h.sfx,by have:=h.kf;show _<=e.S.length;omega,by have:=h.ops;show(e.op++[x]).length+_<=e.S.length+1;grind⟩
theorem eb.out{e:cP}{r:H}{F:ah}{x:H}(h:eb (e.fH x) r F):eb e r F:=
 ⟨h.b7,h.sfx,h.kf,by
  have:=h.ops;have a:(e.fH x).op.length=e.op.length+1:=by simp[cP.fH]
  have b:(e.fH x).S=e.S:=rfl;grind⟩
end Go.Eng
