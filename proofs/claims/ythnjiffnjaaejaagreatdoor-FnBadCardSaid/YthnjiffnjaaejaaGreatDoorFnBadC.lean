/- Part 3 of what FnBad needs. No condition. -/
import Derived.Test.YthnjiffnjaaejaaGreatDoorFnBadB
set_option linter.all false
namespace Go.Eng
open Go Go.Proofs
noncomputable section
theorem ajI{R:bj}(n:iz R){I:aa}{d:H}{c:bw}{b:Bool}{a:bL}{Q:bx}{e:bL}{f:Nat}{r:Int×aa}(h:Ff R I d c b=some r):
  gU Tryz.prog 32 [.pointer a,zs d,.slice e c.length f,.bool b] [h8 e c f] (fb a I Q) (λ_:bx=>True) (λq=>c1 r.1) (λq=>fb a r.2 q):=
 by
  refine V.js (T:=cl) Tryz.call32 Tryz.func32 A λ_ _=>?_;unfold Ff at h;refine V.dn J 9 0 h (ρ:=bx) (λs q=>[(0,bK a),(3,.v (.bool b)),(9,bG s.1)]) .nil (λs q=>hc a s.2 q) A ?_ ?_
  ·intro z _ h;refine V.fu J 0 0 h (ρ:=bx) (λs q=>[(0,bK a),(1,cg d),(2,.v (.slice e c.length f)),(3,.v (.bool b)),(9,bG s.1)]) .nil (λs q=>hc a s.2 q) Q [1,2,0] A ?_;rintro o ⟨p,B,C,D,E,F,G,K,L,M⟩ i h;rw[AO] at h;refine V.co J 9 3 h ⟨A,A,A,A⟩ (λh=>?_) (λh=>?_)
   ·refine V.dn J 1 0 h (ρ:=bx) (λs q=>[(0,bK a),(1,cg d),(2,.v (.slice e c.length f)),(3,.v (.bool b)),(9,bG s.1)]) .nil (λs q=>hc a s.2 q) A ?_ ?_
    ·intro N _ h;refine V.bI J 3 0 h oW [2] [] A λO _ h=>?_;refine V.cJ J 5 0 h nG [1] A λP _ h=>?_;refine V.co J 1 0 h A (λh=>?_) (λh=>?_)
     ·refine V.e5 J 0 0 h (ρ:=bx) (λs q=>[(0,bK a),(3,.v (.bool b)),(9,bG p)]) .nil (λs q=>hc a s q) A ?_ ?_
      ·intro S _ h;refine V.co J 5 0 h A (λh=>?_) (λh=>?_)
       ·refine V.bI J 2 0 h p5 a7 [] A λU t h=>?_;exact V.a5 J 1 0 h t [1,2,0] A
       exact V.a5 J 1 0 h i [1,2,0] A
      rintro⟨W,X,Y,Z,nZ,jV,jv,kU,qz⟩ u h
      try dsimp only at h
      exact V.a5 J 1 0 h u [0,1,2] A
     refine V.cJ J 5 0 h oX [1] A λmE _ h=>?_;refine V.co J 2 0 h A (λh=>?_) (λh=>?_)
     ·refine V.bI J 3 0 h XP a7 [] A λgX v h=>?_;exact V.a5 J 2 0 h v [1,2,0] A
     refine V.cJ J 4 0 h pq [1] A λeO _ h=>?_;refine V.cJ J 5 0 h xx [1] A λka _ h=>?_;refine V.ig J 26 0 h L7 [0] A (λ_ gG j k=>gG ⟨j,k⟩) λpo h=>?_;refine V.co J 11 0 h A (λh=>?_) (λh=>?_)
     ·cases h;exact V.rx J 5 0 i a7 A
     refine V.bI J 4 0 h (ajH n) a7 [] A λlI g h=>?_;refine V.co J 16 1 h ⟨A,A,A,A⟩ (λh=>?_) (λh=>?_)
     ·cases h;exact V.rx J 5 0 g a7 A
     refine V.bI J 4 0 h oW [0] [] A λdp _ h=>?_;refine V.cJ J 4 0 h pq [1] A λhy _ h=>?_;refine V.cJ J 6 0 h nG [1] A λuV _ h=>?_;refine V.ig J 2 0 h oX [1] A (λ_=>id) λoy h=>?_;refine V.co J 12 0 h A (λh=>?_) (λh=>?_)
     ·exact V.a5 J 1 0 h g [1,2,0] A
     refine V.co J 11 0 h A (λh=>?_) (λh=>?_)
     ·refine V.bI J 7 1 h p6 [0] [] ⟨A,A,A,A⟩ λiV _ h=>?_;cases h;exact V.rx J 6 0 g a7 A
     exact V.a5 J 12 1 h g [1,2,0] ⟨A,A,A,A,A,A,A⟩
    rintro⟨pY,nB,p1,p2,qC,u_,pZ,rF,y5,sW⟩ w h
    try dsimp only at h
    exact V.el J 0 0 h w [0,1,2] A
   exact V.a5 J 1 0 h i [0,1,2] A
  rintro⟨x,EJ,R9,tP,uW,R_,Sa,y7,Fb,Sb⟩ l h;refine V.e5 J 0 0 h (ρ:=bx) (λs q=>[(9,bG x)]) .nil (λs q=>hc a s q) A ?_ ?_
  ·intro Sc _ h;refine V.co J 8 0 h A (λh=>?_) (λh=>?_)
   ·refine V.bI J 2 0 h rC [2,0,0] [] A λvb y h=>?_;exact V.a5 J 1 0 h y [1,2,0] A
   exact V.a5 J 1 0 h l [0,1,2] A
  rintro⟨Ye,HQ,Il,Im,Yf,Yg,Io,Yh,Yi⟩ m h;cases h;exact V.rx J 5 0 m [2,0,0] A
def Sd(I:H)(i:Int->Option (Int×Int))(b:(Int×Int)->Option (Int×Int)):(Int×Int)->Option (Int×Int):=λ(c,a)=>
 (bif(decide (a<(I.length:Int))) then(a6 (λ(j:Int)=>b (j,(W (a+1)))) λf=>(a2 (0<=a/\a<(I.length:Int))<|(a6 (λ(d:UInt8)=>(bif(bif(bif(bif(bif(decide (((at' I a).toNat:Int)=(39:Int))) then true else(decide (((at' I a).toNat:Int)=(34:Int)))) then true else(decide (((at' I a).toNat:Int)=(92:Int)))) then true else(decide (((at' I a).toNat:Int)=(96:Int)))) then true else(bif(decide (((at' I a).toNat:Int)=(36:Int))) then(bif(decide ((d.toNat:Int)=(40:Int))) then true else(decide ((d.toNat:Int)=(123:Int)))) else false)) then some ((-2),a) else(a6 (λ(e:Int)=>(bif(bif(decide (((at' I a).toNat:Int)=(41:Int))) then(decide (0<e)) else false) then f (W (e-1)) else(bif(bif(decide (((at' I a).toNat:Int)=(41:Int))) then(decide ((W (a+1))=(I.length:Int))) else false) then some ((-1),1) else(bif(bif(decide (((at' I a).toNat:Int)=(41:Int))) then(!(decide ((d.toNat:Int)=(41:Int)))) else false) then some ((-2),a) else(bif(decide (((at' I a).toNat:Int)=(41:Int))) then some ((W (a+2)),0) else f e))))) λg=>(bif(decide (((at' I a).toNat:Int)=(40:Int))) then g (W (c+1)) else g c)))) λh=>(bif(decide ((W (a+1))<(I.length:Int))) then(a2 (0<=(W (a+1))/\(W (a+1))<(I.length:Int))<|h (at' I (W (a+1)))) else h (0:UInt8))))) else i c)
def Ix(I:H)(a:Int):Option (Int×Int):=
 (au (CA a (I.length:Int)) λ(b:Int)=>(a6 (λ(c:Int)=>some ((-1),(W (c+2)))) λd=>(fixF (Sd I d) bC (0,b))))
theorem ajO{I:H}{b:Int}{r:Int×Int}(h:Ix I b=some r):
  FC Tryz.prog 168 [zs I,c1 b] [] (λ_:Unit=>True) (λ_=> .tuple #[c1 r.1,c1 r.2]) (λ_=>[]):=
 V.fQ (T:=cl) Tryz.call168 Tryz.func168 A λ_=>V.cJ J 15 0 h LX [] A λi _ h=>V.dn J 2 0 h (ρ:=Unit) (λs q=>[(6,bG s)]) .nil (λs q=>[]) A (λj _ h=>V.fu J 0 0 h (ρ:=Unit) (λs q=>[(0,cg I),(6,bG s.1),(7,bG s.2)]) .nil (λs q=>[]) () [] A λc ⟨d,a⟩ _ h=>V.co J 8 0 h A (λh=>V.dn J 2 0 h (ρ:=Unit) (λs q=>[(0,cg I),(6,bG s),(7,bG a)]) .nil (λs q=>[]) A (λk _ h=>b6 h λe h=>V.e5 J 11 0 h (ρ:=Unit) (λs q=>[(0,cg I),(6,bG d),(7,bG a),(8,.v (.int .u8 ((at' I a).toNat:Int))),(9,.v (.int .u8 (s.toNat:Int)))]) .nil (λs q=>[]) ⟨e,A⟩ (λl _ h=>V.co J 8 0 h A (λh=>b6 h λf h=>V.a5 J 7 0 h () [] ⟨f,A⟩) (λh=>V.a5 J 1 0 h () [] A)) λg _ h=>V.co J 30 0 h A (λh=>bp h▸V.rt J 6 0 () [] A) (λh=>V.e5 J 1 0 h (ρ:=Unit) (λs q=>[(0,cg I),(6,bG s),(7,bG a),(8,.v (.int .u8 ((at' I a).toNat:Int))),(9,.v (.int .u8 (g.toNat:Int)))]) .nil (λs q=>[]) A (λm _ h=>V.co J 5 0 h A (λh=>V.a5 J 5 0 h () [] A) (λh=>V.a5 J 1 0 h () [] A)) λn _ h=>V.co J 10 0 h A (λh=>V.a5 J 7 0 h () [] A) (λh=>V.co J 14 0 h A (λh=>bp h▸V.rt J 5 0 () [] A) (λh=>V.co J 11 0 h A (λh=>bp h▸V.rt J 6 0 () [] A) (λh=>V.co J 6 0 h A (λh=>bp h▸V.rt J 7 0 () [] A) (λh=>V.a5 J 2 0 h () [] A)))))) λo _ h=>V.el J 5 0 h () [] A) (λh=>V.a5 J 1 0 h () [] A)) λp _ h=>bp h▸V.rt J 7 0 () [] A
def za(R:bj)(m:aa->Option aa)(l:aa->Option aa):aa->Option aa:=λ(a,b,f,c,d,g,h,e,i)=>
 (bif(decide (d=0)) then(a6 (λ((n,o,p,q,r,s,t,u,v):aa)=>l (n,o,p,q,r,s,t,u,v)) λj=>(au (gY (a,b,f,c,d,g,h,e,i)) λ(w:Bool)=>(bif w then(au (hQ (a,b,f,c,d,g,h,e,i) ([])) λ(x:aa)=>j x) else(au (je (a,b,f,c,d,g,h,e,i)) λ(y:UInt8)=>(bif(decide ((y.toNat:Int)=(125:Int))) then some (a,(W (b+1)),f,c,d,g,h,e,i) else(au (je (a,b,f,c,d,g,h,e,i)) λ(z:UInt8)=>(bif(decide ((z.toNat:Int)=(92:Int))) then(au (y1 (a,b,f,c,d,g,h,e,i)) λ(k:aa)=>j (k.1,k.2.1,k.2.2.1,c,k.2.2.2.2.1,k.2.2.2.2.2.1,k.2.2.2.2.2.2.1,e,k.2.2.2.2.2.2.2.2)) else(au (je (a,b,f,c,d,g,h,e,i)) λ(A:UInt8)=>(bif(decide ((A.toNat:Int)=(39:Int))) then(au (E5 a (W (b+1))) λ(B:Int)=>(au (tO (a,b,f,c,d,g,h,e,i) B ([39]:H) ([39]:H)) λ(C:aa)=>j C)) else(au (je (a,b,f,c,d,g,h,e,i)) λ(D:UInt8)=>(bif(decide ((D.toNat:Int)=(34:Int))) then(au (H8 R (a,b,f,c,d,g,h,e,i)) λ(E:aa)=>j E) else(au (je (a,b,f,c,d,g,h,e,i)) λ(F:UInt8)=>(bif(decide ((F.toNat:Int)=(96:Int))) then(au (CE a (W (b+1))) λ(G:Int)=>(au (tO (a,b,f,c,d,g,h,e,i) G ([96]:H) ([96]:H)) λ(I:aa)=>j I)) else(au (je (a,b,f,c,d,g,h,e,i)) λ(J:UInt8)=>(bif(decide ((J.toNat:Int)=(36:Int))) then(au (R.vR (a,b,f,c,d,g,h,e,i)) λ(K:aa)=>j K) else j (a,(W (b+1)),f,c,d,g,h,e,i)))))))))))))))) else m (a,b,f,c,d,g,h,e,i))
def Se(R:bj)(I:aa):Option aa:=
 (a6 (λ((a,b,c,d,e,f,g,h,i):aa)=>(au (gZ (a,b,c,d,e,f,g,h,i) ([36,123]:H) ([125]:H)) λ(j:aa)=>some j)) λk=>(fixF (za R k) bC (I.1,(W (I.2.1+2)),I.2.2.1,I.2.2.2.1,I.2.2.2.2.1,I.2.2.2.2.2.1,I.2.2.2.2.2.2.1,I.2.2.2.2.2.2.2.1,I.2.2.2.2.2.2.2.2)))
theorem ajQ{R:bj}(n:iz R){I:aa}{aj:bL}{Q:bx}{r:aa}(h:Se R I=some r):
  gU Tryz.prog 169 [.pointer aj] [] (fb aj I Q) (λ_:bx=>True) (λq=> .tuple #[]) (λq=>fb aj r q):=
 V.js (T:=cl) Tryz.call169 Tryz.func169 A λ_ _=>V.dn J 13 0 h (ρ:=bx) (λs q=>[(0,bK aj)]) .nil (λs q=>hc aj s q) ⟨A,A,A,A,A,A,A⟩ (λG _ h=>V.fu J 0 0 h (ρ:=bx) (λs q=>[(0,bK aj)]) .nil (λs q=>hc aj s q) Q [1,2,0] A λo ⟨d,b,e,f,g,i,j,k,l⟩ a h=>V.go J 3 0 A (V.cj (aH.jc 2 A λc=>V.cx (V.co J 6 2 h ⟨A,A,A,A⟩ (λh=>V.dn J 2 0 h (ρ:=bx) (λs q=>[(0,bK aj)]) .nil (λs q=>hc aj s q) A (λH _ h=>V.cJ J 3 0 h nG [2] A λK _ h=>V.co J 2 0 h A (λh=>V.bI J 2 0 h p5 [2,0,0] [] A λL p h=>V.a5 J 2 0 h p [1,2,0] A) (λh=>V.cJ J 3 0 h oX [2] A λM _ h=>V.co J 3 0 h A (λh=>bp h▸V.rx J 11 2 a [0,0,0] ⟨A,A,A,A,A,A,A⟩) (λh=>V.cJ J 3 0 h oX [2] A λN _ h=>V.co J 3 0 h A (λh=>V.bI J 2 0 h RI [2] [] A λO _ h=>V.a5 J 2 0 h a [1,2,0] A) (λh=>V.cJ J 3 0 h oX [2] A λP _ h=>V.co J 3 0 h A (λh=>r6 h λS t h=>r6 h λU u h=>V.j9 (aY.r5 A .nil [2] [10,11] trivial A (λv=>bF.pS J gu 10 [0,5] A (by kernel_rfl) [] [(48,bK aj),(53,bK aj)] A (fV A) (bF.eI J gu true 5 [1,2,3,6,7] A (by kernel_rfl) [] [(51,bK aj),(55,.eE ⟨aj,1,1⟩ 1)] trivial [2] A A ⟨(c.gr gv).1,c.gr gv,(c.gr gv).1,c.gr gv,(fV A)⟩ (bF.lz J gu 4 A (by kernel_rfl) A A A A A 0 A A 0 0 (d,b,e,(bB.v ⟨a.1,f.length,a.2.1⟩),g,i,j,(bB.v ⟨a.2.2.1,k.length,a.2.2.2⟩),l) ⟨A,A⟩ A A A trivial [2] A (bF.lz J gu 8 A (by kernel_rfl) A A A A A 0 A A 0 1 (d,b,e,(bB.v ⟨a.1,f.length,a.2.1⟩),g,i,j,(bB.v ⟨a.2.2.1,k.length,a.2.2.2⟩),l) ⟨A,A⟩ A A A trivial [2] A (bF.eI J gu true 2 [9] A (by kernel_rfl) [(W (b+1))] [(57,bG (W (b+1)))] trivial [2] A A ⟨⟨trivial,A⟩,⟨A,trivial⟩⟩ (bF.one 10 (by kernel_rfl) (cM.call A A A A (XV t) A [] A A λ_ _=>bF.oi A (bF.one 11 (by kernel_rfl) (cM.pQ A A A A (E4 u) A [2,0,0] A [] A A (λw _=>bF.oi A (bF.done (by kernel_rfl) (aY.boxes (B':= .nil) trivial (V.iT (V.a5 J 1 0 h w [1,2,0] A)))))))))))))))) (λh=>V.cJ J 3 0 h oX [2] A λX _ h=>V.co J 3 0 h A (λh=>V.bI J 2 0 h (XU n) [2,0,0] [] A λY x h=>V.a5 J 2 0 h x [1,2,0] A) (λh=>V.cJ J 3 0 h oX [2] A λZ _ h=>V.co J 3 0 h A (λh=>r6 h λov y h=>r6 h λuY z h=>V.j9 (aY.r5 A .nil [2] [10,11] trivial A (λB=>bF.pS J gu 10 [0,5] A (by kernel_rfl) [] [(70,bK aj),(75,bK aj)] A (fV A) (bF.eI J gu true 5 [1,2,3,6,7] A (by kernel_rfl) [] [(73,bK aj),(77,.eE ⟨aj,1,1⟩ 1)] trivial [2] A A ⟨(c.gr gv).1,c.gr gv,(c.gr gv).1,c.gr gv,(fV A)⟩ (bF.lz J gu 4 A (by kernel_rfl) A A A A A 0 A A 0 0 (d,b,e,(bB.v ⟨a.1,f.length,a.2.1⟩),g,i,j,(bB.v ⟨a.2.2.1,k.length,a.2.2.2⟩),l) ⟨A,A⟩ A A A trivial [2] A (bF.lz J gu 8 A (by kernel_rfl) A A A A A 0 A A 0 1 (d,b,e,(bB.v ⟨a.1,f.length,a.2.1⟩),g,i,j,(bB.v ⟨a.2.2.1,k.length,a.2.2.2⟩),l) ⟨A,A⟩ A A A trivial [2] A (bF.eI J gu true 2 [9] A (by kernel_rfl) [(W (b+1))] [(79,bG (W (b+1)))] trivial [2] A A ⟨⟨trivial,A⟩,⟨A,trivial⟩⟩ (bF.one 10 (by kernel_rfl) (cM.call A A A A (RH y) A [] A A λ_ _=>bF.oi A (bF.one 11 (by kernel_rfl) (cM.pQ A A A A (E4 z) A [2,0,0] A [] A A (λC _=>bF.oi A (bF.done (by kernel_rfl) (aY.boxes (B':= .nil) trivial (V.iT (V.a5 J 1 0 h C [1,2,0] A)))))))))))))))) (λh=>V.cJ J 3 0 h oX [2] A λka _ h=>V.co J 3 0 h A (λh=>V.bI J 2 0 h n.vR [2,0,0] [] A λpo D h=>V.a5 J 2 0 h D [1,2,0] A) (λh=>V.a5 J 11 2 h a [1,2,0] ⟨A,A,A,A,A,A,A⟩)))))))) λ⟨mR,v9,nX,sd,sQ,wg,u7,Ak,wm⟩ E h=>V.el J 1 0 h E [0,1,2] A) (λh=>V.a5 J 1 0 h a [0,1,2] A))))) λ⟨sb,HT,H3,AM,Yj,Yk,Ap,It,Yl⟩ F h=>V.bI J 2 0 h rC [2,0,0] [] A λYm m h=>bp h▸V.j8 J 1 0 m a7 A
def Fg(d:H->Option aa)(a:(Int×H)->Option aa):(Int×H)->Option aa:=λ(c,b)=>
 (bif(decide (0<c)) then(a2 (((b.length+([41]:H).length:Nat):Int)<=9223372036854775807)<|a ((W (c-1)),(b++([41]:H)))) else d b)
def Iy(R:bj)(I:aa):Option aa:=
 (au (u6 I 1) λ(f:UInt8)=>(cY ((decide ((f.toNat:Int)=(40:Int)))=true) (u6 I 2) (0:UInt8) λ(k:UInt8)=>(bif(bif(decide ((f.toNat:Int)=(40:Int))) then(decide ((k.toNat:Int)=(40:Int))) else false) then(au (Ix I.1 (W (I.2.1+3))) λ(g,h)=>(bif(decide (g=(-2))) then(au (h9 I h) λ(e:aa)=>some (e.1,e.2.1,e.2.2.1,I.2.2.2.1,e.2.2.2.2.1,e.2.2.2.2.2.1,e.2.2.2.2.2.2.1,I.2.2.2.2.2.2.2.1,e.2.2.2.2.2.2.2.2)) else(a6 (λ(l:H)=>(au (tO I g ([36,40,40]:H) l) λ(m:aa)=>some m)) λn=>(fixF (Fg n) bC (h,[]))))) else(au (u6 I 1) λ(o:UInt8)=>(bif(decide ((o.toNat:Int)=(40:Int))) then(a6 (λ((p,q,r,s,t,u,v,w,x):aa)=>some (p,q,r,s,t,u,v,w,x)) λi=>(au (AK I I.2.1) λ(y,a)=>(bif y then(au (R.oo (a.1,(W (a.2.1+2)),a.2.2.1,I.2.2.2.1,a.2.2.2.2.1,a.2.2.2.2.2.1,a.2.2.2.2.2.2.1,I.2.2.2.2.2.2.2.1,a.2.2.2.2.2.2.2.2) ([41]:H) ([]:bw) false) λ(N,z)=>(au (gZ z ([36,40]:H) ([41]:H)) λ(c:aa)=>i (c.1,(W (c.2.1+1)),(W (c.2.2.1-1)),c.2.2.2.1,c.2.2.2.2.1,c.2.2.2.2.2.1,c.2.2.2.2.2.2.1,c.2.2.2.2.2.2.2.1,c.2.2.2.2.2.2.2.2))) else i (a.1,a.2.1,a.2.2.1,I.2.2.2.1,a.2.2.2.2.1,a.2.2.2.2.2.1,a.2.2.2.2.2.2.1,I.2.2.2.2.2.2.2.1,a.2.2.2.2.2.2.2.2)))) else(au (u6 I 1) λ(A:UInt8)=>(bif(decide ((A.toNat:Int)=(123:Int))) then(a6 (λ((B,C,D,E,F,G,J,K,L):aa)=>some (B,C,D,E,F,G,J,K,L)) λj=>(au (AK I I.2.1) λ(M,b)=>(bif M then(au (Se R (b.1,b.2.1,b.2.2.1,I.2.2.2.1,b.2.2.2.2.1,b.2.2.2.2.2.1,b.2.2.2.2.2.2.1,I.2.2.2.2.2.2.2.1,b.2.2.2.2.2.2.2.2)) λ(d:aa)=>j (d.1,d.2.1,(W (d.2.2.1-1)),d.2.2.2.1,d.2.2.2.2.1,d.2.2.2.2.2.1,d.2.2.2.2.2.2.1,d.2.2.2.2.2.2.2.1,d.2.2.2.2.2.2.2.2)) else j (b.1,b.2.1,b.2.2.1,I.2.2.2.1,b.2.2.2.2.1,b.2.2.2.2.2.1,b.2.2.2.2.2.2.1,I.2.2.2.2.2.2.2.1,b.2.2.2.2.2.2.2.2)))) else some (I.1,(W (I.2.1+1)),I.2.2.1,I.2.2.2.1,I.2.2.2.2.1,I.2.2.2.2.2.1,I.2.2.2.2.2.2.1,I.2.2.2.2.2.2.2.1,I.2.2.2.2.2.2.2.2))))))))
theorem ajT{R:bj}(d:iz R){I:aa}{aj:bL}{Q:bx}{r:aa}(h:Iy R I=some r):
  gU Tryz.prog 158 [.pointer aj] [] (fb aj I Q) (λ_:bx=>True) (λq=> .tuple #[]) (λq=>fb aj r q):=
 by
  refine V.js (T:=cl) Tryz.call158 Tryz.func158 A λ_ _=>?_;unfold Iy at h;refine V.cJ J 4 0 h E2 [0] A λl _ h=>?_;refine V.ig J 3 0 h E2 [0] A (λ_=>id) λm h=>?_;refine V.co J 3 0 h A (λh=>?_) (λh=>?_)
  ·refine V.jS J 1 0 A (by kernel_rfl) ?_;refine V.go J 9 0 ⟨A,A,A,A,A,A,A⟩ ?_;obtain⟨⟨e,n⟩,a,h⟩:=oh h;refine V.toQ (lQ.call A A A A (ajO a) A [] A A (V.tE ?_));refine V.co J 12 0 h A (λh=>?_) (λh=>?_)
   ·refine V.bI J 4 0 h p6 [0] [] A λo _ h=>?_;cases h;exact V.rx J 1 0 Q a7 A
   refine V.dn J 6 0 h (ρ:=Unit) (λs q=>[(0,bK aj),(2,bG e),(4,cg s)]) .nil (λs q=>fb aj I Q) A ?_ ?_
   ·intro p _ h;refine V.fu J 0 0 h (ρ:=Unit) (λs q=>[(0,bK aj),(2,bG e),(3,bG s.1),(4,cg s.2)]) .nil (λs q=>fb aj I Q) () [0,1,2] A ?_;rintro f ⟨t,u⟩ _ h;rw[Fg] at h;refine V.co J 6 0 h A (λh=>?_) (λh=>?_)
    ·obtain⟨g,h⟩:=hY h;exact V.el J 14 0 h () [0,1,2] ⟨g,A⟩
    exact V.a5 J 1 0 h () [0,1,2] A
   rintro v _ h;refine V.bI J 5 0 h E4 a7 [] A λw i h=>?_;cases h;exact V.rx J 1 0 i a7 A
  refine V.cJ J 5 0 h E2 [0] A λx _ h=>?_;refine V.co J 2 0 h A (λh=>?_) (λh=>?_)
  ·refine V.e5 J 0 0 h (ρ:=bx) (λs q=>[]) .nil (λs q=>hc aj s q) A ?_ ?_
   ·intro y _ h;refine V.bI J 7 0 h RW [0] [] ⟨A,A,A,A⟩ ?_;rintro⟨z,B⟩ _ h;refine V.co J 1 0 h A (λh=>?_) (λh=>?_)
    ·refine V.go J 15 0 ⟨A,A,A,A,A,A,A⟩ ?_;refine V.cj (aH.KF .str bB.nil A A (V.cx ?_));refine V.bI J 0 0 h d.oo a7 [0] A ?_;rintro⟨C,D⟩ E h;refine V.bI J 4 0 h rC a7 [] A λF b h=>?_;exact V.Ae J 22 1 h b [1,2,0] [] ⟨A,A,A,A,A,A,A,A,A,A,A,A,A⟩
    exact V.a5 J 1 0 h Q [1,2,0] A
   rintro⟨G,H,K,L,M,N,O,P,S⟩ j h;cases h;exact V.rx J 0 0 j [2,0,0] A
  refine V.cJ J 5 0 h E2 [0] A λU _ h=>?_;refine V.co J 2 0 h A (λh=>?_) (λh=>?_)
  ·refine V.e5 J 0 0 h (ρ:=bx) (λs q=>[]) .nil (λs q=>hc aj s q) A ?_ ?_
   ·intro W _ h;refine V.bI J 7 0 h RW [0] [] ⟨A,A,A,A⟩ ?_;rintro⟨X,Y⟩ _ h;refine V.co J 1 0 h A (λh=>?_) (λh=>?_)
    ·refine V.bI J 3 0 h (ajQ d) a7 [] A λZ k h=>?_;exact V.a5 J 11 0 h k [1,2,0] ⟨A,A,A,A,A,A,A⟩
    exact V.a5 J 1 0 h Q [1,2,0] A
   rintro⟨CO,u_,pZ,rF,pf,sW,wi,rB,sh⟩ c h;cases h;exact V.rx J 0 0 c [2,0,0] A
  cases h;exact V.j8 J 11 0 Q [0,0,0] ⟨A,A,A,A,A,A,A⟩
def zb(I:H×Int×Int):Option (Int×H×Int×Int):=
 (a6 (λ((b,c):Int×Int)=>some (b,(I.1,c,(W ((W (I.2.2*6364136223846793005))+1442695040888963407))))) λa=>(bif(decide (I.2.1<(I.1.length:Int))) then(a2 (0<=I.2.1/\I.2.1<(I.1.length:Int))<|a ((W (((BitVec.ofInt (IntKind.bits .i64) (W ((W (((BitVec.ofInt (IntKind.bits .i64) (W (((BitVec.ofInt (IntKind.bits .i64) (Int.fdiv (W ((W (I.2.2*6364136223846793005))+1442695040888963407)) (2^(min (Int.toNat 33) (IntKind.bits .i64))))^^^BitVec.ofInt (IntKind.bits .i64) (Int.fdiv (W ((W (I.2.2*6364136223846793005))+1442695040888963407)) (2^(min (Int.toNat 45) (IntKind.bits .i64))))).toNat:Int)))&&&BitVec.ofInt (IntKind.bits .i64) 255).toNat:Int)))+((at' I.1 I.2.1).toNat:Int)))&&&BitVec.ofInt (IntKind.bits .i64) 255).toNat:Int))),(W (I.2.1+1)))) else a ((W (((BitVec.ofInt (IntKind.bits .i64) (W (((BitVec.ofInt (IntKind.bits .i64) (Int.fdiv (W ((W (I.2.2*6364136223846793005))+1442695040888963407)) (2^(min (Int.toNat 33) (IntKind.bits .i64))))^^^BitVec.ofInt (IntKind.bits .i64) (Int.fdiv (W ((W (I.2.2*6364136223846793005))+1442695040888963407)) (2^(min (Int.toNat 45) (IntKind.bits .i64))))).toNat:Int)))&&&BitVec.ofInt (IntKind.bits .i64) 255).toNat:Int))),I.2.1)))
theorem Iz{I:H×Int×Int}{aj:bL}{a3:bL}{a:Nat}{r:Int×H×Int×Int}(h:zb I=some r):
  gU Tryz.prog 37 [.pointer aj] [lA a3 I.1 a] [jt aj I a3 a] (λ_:Unit=>True) (λ_=>c1 r.1) (λ_=>[jt aj (I.1,r.2.2) a3 a]):=
 by
  refine V.js (T:=cl) Tryz.call37 Tryz.func37 A λ_ _=>?_;unfold zb at h;have d:(0:Int)<=33:=by decide
  have e:(0:Int)<=45:=by decide
  refine V.jS J 18 1 ⟨A,A,A,A,A,A,A⟩ (by kernel_rfl) ?_;refine V.e5 J 14 1 h (ρ:=Unit) (λs q=>[(3,bG s.1)]) .nil (λs q=>[jt aj (I.1,s.2,(W ((W (I.2.2*6364136223846793005))+1442695040888963407))) a3 a]) ⟨A,A,A,d,A,A,A,e,A⟩ ?_ ?_
  ·intro f _ h;refine V.jS J 1 0 A (by kernel_rfl) ?_;refine V.co J 11 1 h ⟨A,A,A,A,A,A,A⟩ (λh=>?_) (λh=>?_)
   ·obtain⟨c,h⟩:=hY h;refine V.go J 1 0 A ?_;refine V.j9 (aY.jc 0 A λb=>V.iT ?_);refine V.jS J 0 0 A (by kernel_rfl) ?_;refine V.go J 10 1 ⟨A,A,A,A,A,A,b.ix c,A⟩ ?_;refine V.toQ (lQ.load J A A A A A A A 0 A A (Int.toNat I.2.1) 0 (at' I.1 I.2.1) ⟨mP c,A⟩ A A (V.tE ?_));refine V.toQ (lQ.eI J 4 [((at' I.1 I.2.1).toNat:Int),(W ((W (((BitVec.ofInt (IntKind.bits .i64) (W (((BitVec.ofInt (IntKind.bits .i64) (Int.fdiv (W ((W (I.2.2*6364136223846793005))+1442695040888963407)) (2^(min (Int.toNat 33) (IntKind.bits .i64))))^^^BitVec.ofInt (IntKind.bits .i64) (Int.fdiv (W ((W (I.2.2*6364136223846793005))+1442695040888963407)) (2^(min (Int.toNat 45) (IntKind.bits .i64))))).toNat:Int)))&&&BitVec.ofInt (IntKind.bits .i64) 255).toNat:Int)))+((at' I.1 I.2.1).toNat:Int))),(W (((BitVec.ofInt (IntKind.bits .i64) (W ((W (((BitVec.ofInt (IntKind.bits .i64) (W (((BitVec.ofInt (IntKind.bits .i64) (Int.fdiv (W ((W (I.2.2*6364136223846793005))+1442695040888963407)) (2^(min (Int.toNat 33) (IntKind.bits .i64))))^^^BitVec.ofInt (IntKind.bits .i64) (Int.fdiv (W ((W (I.2.2*6364136223846793005))+1442695040888963407)) (2^(min (Int.toNat 45) (IntKind.bits .i64))))).toNat:Int)))&&&BitVec.ofInt (IntKind.bits .i64) 255).toNat:Int)))+((at' I.1 I.2.1).toNat:Int)))&&&BitVec.ofInt (IntKind.bits .i64) 255).toNat:Int)))] [(3,bG (W (((BitVec.ofInt (IntKind.bits .i64) (W ((W (((BitVec.ofInt (IntKind.bits .i64) (W (((BitVec.ofInt (IntKind.bits .i64) (Int.fdiv (W ((W (I.2.2*6364136223846793005))+1442695040888963407)) (2^(min (Int.toNat 33) (IntKind.bits .i64))))^^^BitVec.ofInt (IntKind.bits .i64) (Int.fdiv (W ((W (I.2.2*6364136223846793005))+1442695040888963407)) (2^(min (Int.toNat 45) (IntKind.bits .i64))))).toNat:Int)))&&&BitVec.ofInt (IntKind.bits .i64) 255).toNat:Int)))+((at' I.1 I.2.1).toNat:Int)))&&&BitVec.ofInt (IntKind.bits .i64) 255).toNat:Int))))] A ⟨⟨trivial,KK _⟩,⟨trivial,A⟩,⟨trivial,A⟩,⟨A,trivial⟩⟩ (V.tE ?_));exact V.a5 J 12 1 h () [0] ⟨A,A,A,A,A,A,A⟩
   exact V.a5 J 1 0 h () [0] A
  rintro⟨g,i⟩ _ h;cases h;exact V.rx J 5 0 () [0] A
def iK(I:H×Int×Int)(a:Int):Option (Int×H×Int×Int):=
 (bif(decide (a<=0)) then some (0,I) else(bif(decide (a<=256)) then(au (zb I) λ(b,c)=>(a2 (a≠0)<|some ((Int.tmod b a),(I.1,c.2)))) else(au (zb I) λ(d,e)=>(au (zb (I.1,e.2)) λ(f,g)=>(au (zb (I.1,g.2)) λ(h,i)=>(au (zb (I.1,i.2)) λ(j,k)=>(a2 (a≠0)<|some ((Int.tmod (W ((W ((W ((W (d*16777216))+(W (f*65536))))+(W (h*256))))+j)) a),(I.1,k.2)))))))))
theorem rH{I:H×Int×Int}{c:Int}{a3:bL}{a:bL}{b:Nat}{r:Int×H×Int×Int}(h:iK I c=some r):
  gU Tryz.prog 27 [.pointer a3,c1 c] [lA a I.1 b] [jt a3 I a b] (λ_:Unit=>True) (λ_=>c1 r.1) (λ_=>[jt a3 (I.1,r.2.2) a b]):=
 V.js (T:=cl) Tryz.call27 Tryz.func27 A λ_ _=>V.co J 10 0 h A (λh=>bp h▸V.rx J 4 0 () [0] A) (λh=>V.co J 7 0 h A (λh=>V.bI J 3 0 h Iz [0] [0] A λ⟨f,g⟩ _ h=>b6 h λd h=>bp h▸V.rx J 4 0 () [0] ⟨d,A⟩) (λh=>V.bI J 4 0 h Iz [0] [0] A λ⟨i,j⟩ _ h=>V.bI J 5 0 h Iz [0] [0] A λ⟨k,l⟩ _ h=>V.bI J 5 0 h Iz [0] [0] A λ⟨m,n⟩ _ h=>V.bI J 5 0 h Iz [0] [0] A λ⟨o,p⟩ _ h=>b6 h λe h=>bp h▸V.rx J 18 0 () [0] ⟨e,A⟩))
def CQ(R:bj)(I:H×Int×Int)(g:Int)(h:(H×Int×Int)->Option (H×H×Int×Int))(b:(H×Int×Int×Int)->Option (H×H×Int×Int)):(H×Int×Int×Int)->Option (H×H×Int×Int):=λ(a,c,d,e)=>
 (bif(decide (0<c)) then(a2 (((a.length+([32]:H).length:Nat):Int)<=9223372036854775807)<|(au (R.oq (I.1,d,e) g) λ(f,i)=>(a2 ((((a++([32]:H)).length+f.length:Nat):Int)<=9223372036854775807)<|b (((a++([32]:H))++f),(W (c-1)),i.2)))) else h (a,d,e))
def CR(R:bj)(I:H×Int×Int)(l:Int):Option (H×H×Int×Int):=
 (au (iK I 4) λ(c,e)=>(a2 (0<=c/\c<(([([108,115]:H),([101,99,104,111]:H),([99,97,116]:H),([120,61,49]:H)]:bw).length:Int))<|(au (iK (I.1,e.2.1,e.2.2) 3) λ(m,f)=>(a6 (λ((a,n,o):H×Int×Int)=>(au (iK (I.1,n,o) 8) λ(g,b)=>(a6 (λ((d,p,q):H×Int×Int)=>(a6 (λ(r:H)=>some (r,(I.1,p,q))) λh=>(bif(decide (g=1)) then(a2 (((d.length+([32,50,62,38,49]:H).length:Nat):Int)<=9223372036854775807)<|h (d++([32,50,62,38,49]:H))) else h d))) λi=>(bif(decide (g=0)) then(a2 (((a.length+([32,62]:H).length:Nat):Int)<=9223372036854775807)<|(au (R.oq (I.1,b.2.1,b.2.2) 0) λ(j,k)=>(a2 ((((a++([32,62]:H)).length+j.length:Nat):Int)<=9223372036854775807)<|i (((a++([32,62]:H))++j),k.2.1,k.2.2)))) else i (a,b.2.1,b.2.2))))) λs=>(fixF (CQ R I l s) bC ((at' ([([108,115]:H),([101,99,104,111]:H),([99,97,116]:H),([120,61,49]:H)]:bw) c),m,f.2.1,f.2.2))))))
theorem ajZ{R:bj}(e:iz R){I:H×Int×Int}{c:Int}{a3:bL}{a:bL}{b:Nat}{r:H×H×Int×Int}(h:CR R I c=some r):
  gU Tryz.prog 55 [.pointer a3,c1 c] [lA a I.1 b] [jt a3 I a b] (λ_:Unit=>True) (λ_=>zs r.1) (λ_=>[jt a3 (I.1,r.2.2) a b]):=
 by
  refine V.js (T:=cl) Tryz.call55 Tryz.func55 A λ_ _=>?_;unfold CR at h;refine V.go J 6 0 A ?_;refine V.cj (aH.kx A (cM.buildSlice J A A A A A A A A A A A [] A .str [([108,115]:H),([101,99,104,111]:H),([99,97,116]:H),([120,61,49]:H)] ⟨A,A⟩ A A λu=>aH.ky (V.cx ?_)));refine V.bI J 1 0 h rH [1] [0] A ?_;rintro⟨f,v⟩ _ h;refine V.cj (aH.jc 2 A λd=>V.cx ?_);obtain⟨g,h⟩:=hY h;refine V.go J 1 0 ⟨d.ix g,A⟩ ?_;refine V.cj (aH.load J A A A A A A A 2 A A (Int.toNat f) 0 (at' ([([108,115]:H),([101,99,104,111]:H),([99,97,116]:H),([120,61,49]:H)]:bw) f) ⟨mP g,A⟩ A A (V.cx ?_));refine V.bI J 6 0 h rH [0] [0] A ?_;rintro⟨w,x⟩ _ h;refine V.dn J 2 0 h (ρ:=Unit) (λs q=>[(0,bK a3),(5,cg s.1)]) .nil (λs q=>[jt a3 (I.1,s.2) a b]) A ?_ ?_
  ·intro y _ h;refine V.fu J 0 0 h (ρ:=Unit) (λs q=>[(0,bK a3),(1,bG c),(5,cg s.1),(6,bG s.2.1)]) .nil (λs q=>[jt a3 (I.1,s.2.2) a b]) () [0] A ?_;rintro i ⟨z,B,C,D⟩ _ h;rw[CQ] at h;refine V.co J 6 0 h A (λh=>?_) (λh=>?_)
   ·obtain⟨j,h⟩:=hY h;refine V.bI J 8 0 h e.oq [0] [0] ⟨j,A⟩ ?_;rintro⟨E,F⟩ _ h;obtain⟨k,h⟩:=hY h
    try dsimp only at h
    exact V.el J 9 0 h () [0] ⟨k,A⟩
   exact V.a5 J 1 0 h () [0] A
  rintro⟨G,K,L⟩ _ h;refine V.bI J 3 0 h rH [0] [0] A ?_;rintro⟨l,M⟩ _ h;refine V.e5 J 2 0 h (ρ:=Unit) (λs q=>[(5,cg s.1),(7,bG l)]) .nil (λs q=>[jt a3 (I.1,s.2) a b]) A ?_ ?_
  ·intro N _ h;refine V.co J 5 0 h A (λh=>?_) (λh=>?_)
   ·obtain⟨m,h⟩:=hY h;refine V.bI J 4 0 h e.oq [0] [0] ⟨m,A⟩ ?_;rintro⟨O,P⟩ _ h;obtain⟨n,h⟩:=hY h
    try dsimp only at h
    exact V.a5 J 3 0 h () [0] ⟨n,A⟩
   exact V.a5 J 1 0 h () [0] A
  rintro⟨Q,o,p⟩ _ h;refine V.e5 J 0 0 h (ρ:=Unit) (λs q=>[(5,cg s)]) .nil (λs q=>[jt a3 (I.1,o,p) a b]) A ?_ ?_
  ·intro S _ h;refine V.co J 5 0 h A (λh=>?_) (λh=>?_)
   ·obtain⟨t,h⟩:=hY h;exact V.a5 J 5 0 h () [0] ⟨t,A⟩
   exact V.a5 J 1 0 h () [0] A
  rintro U _ h;cases h;exact V.rx J 5 0 () [0] A
def wq(R:bj)(I:H×Int×Int)(a:Int):Option (H×H×Int×Int):=
 (au (iK I 16) λ(r,b)=>(a6 (λ(c:Int)=>(bif(decide (c=1)) then(au (R.hZ (I.1,b.2) (W (a-1)) ([])) λ(i,s)=>(a2 (((([40]:H).length+i.length:Nat):Int)<=9223372036854775807)<|(a2 ((((([40]:H)++i).length+([41]:H).length:Nat):Int)<=9223372036854775807)<|some (((([40]:H)++i)++([41]:H)),(I.1,s.2))))) else(bif(decide (c=2)) then(au (R.hZ (I.1,b.2) (W (a-1)) ([10]:H)) λ(j,t)=>(a2 (((([123,32]:H).length+j.length:Nat):Int)<=9223372036854775807)<|(a2 ((((([123,32]:H)++j).length+([125]:H).length:Nat):Int)<=9223372036854775807)<|some (((([123,32]:H)++j)++([125]:H)),(I.1,t.2))))) else(bif(decide (c=3)) then(au (R.hZ (I.1,b.2) (W (a-1)) ([59]:H)) λ(d,u)=>(a2 (((([105,102,32]:H).length+d.length:Nat):Int)<=9223372036854775807)<|(a2 ((((([105,102,32]:H)++d).length+([32,116,104,101,110,32]:H).length:Nat):Int)<=9223372036854775807)<|(au (R.hZ (I.1,u.2) (W (a-1)) ([10]:H)) λ(k,v)=>(a2 (((((([105,102,32]:H)++d)++([32,116,104,101,110,32]:H)).length+k.length:Nat):Int)<=9223372036854775807)<|(a2 ((((((([105,102,32]:H)++d)++([32,116,104,101,110,32]:H))++k).length+([102,105]:H).length:Nat):Int)<=9223372036854775807)<|some (((((([105,102,32]:H)++d)++([32,116,104,101,110,32]:H))++k)++([102,105]:H)),(I.1,v.2)))))))) else(bif(decide (c=4)) then(au (R.hZ (I.1,b.2) (W (a-1)) ([10]:H)) λ(e,w)=>(a2 (((([105,102,32,97,59,32,116,104,101,110,10]:H).length+e.length:Nat):Int)<=9223372036854775807)<|(a2 ((((([105,102,32,97,59,32,116,104,101,110,10]:H)++e).length+([101,108,105,102,32,98,10,116,104,101,110,32,99,10,101,108,115,101,32]:H).length:Nat):Int)<=9223372036854775807)<|(au (R.hZ (I.1,w.2) (W (a-1)) ([59]:H)) λ(l,x)=>(a2 (((((([105,102,32,97,59,32,116,104,101,110,10]:H)++e)++([101,108,105,102,32,98,10,116,104,101,110,32,99,10,101,108,115,101,32]:H)).length+l.length:Nat):Int)<=9223372036854775807)<|(a2 ((((((([105,102,32,97,59,32,116,104,101,110,10]:H)++e)++([101,108,105,102,32,98,10,116,104,101,110,32,99,10,101,108,115,101,32]:H))++l).length+([102,105,32,50,62,102]:H).length:Nat):Int)<=9223372036854775807)<|some (((((([105,102,32,97,59,32,116,104,101,110,10]:H)++e)++([101,108,105,102,32,98,10,116,104,101,110,32,99,10,101,108,115,101,32]:H))++l)++([102,105,32,50,62,102]:H)),(I.1,x.2)))))))) else(bif(decide (c=5)) then(au (R.hZ (I.1,b.2) (W (a-1)) ([10]:H)) λ(f,y)=>(a2 (((([119,104,105,108,101,32]:H).length+f.length:Nat):Int)<=9223372036854775807)<|(a2 ((((([119,104,105,108,101,32]:H)++f).length+([100,111,32]:H).length:Nat):Int)<=9223372036854775807)<|(au (R.hZ (I.1,y.2) (W (a-1)) ([59]:H)) λ(m,z)=>(a2 (((((([119,104,105,108,101,32]:H)++f)++([100,111,32]:H)).length+m.length:Nat):Int)<=9223372036854775807)<|(a2 ((((((([119,104,105,108,101,32]:H)++f)++([100,111,32]:H))++m).length+([32,100,111,110,101]:H).length:Nat):Int)<=9223372036854775807)<|some (((((([119,104,105,108,101,32]:H)++f)++([100,111,32]:H))++m)++([32,100,111,110,101]:H)),(I.1,z.2)))))))) else(bif(decide (c=6)) then(au (R.oq (I.1,b.2) (W (a-1))) λ(g,A)=>(a2 (((([102,111,114,32,120,32,105,110,32,97,32]:H).length+g.length:Nat):Int)<=9223372036854775807)<|(a2 ((((([102,111,114,32,120,32,105,110,32,97,32]:H)++g).length+([59,32,100,111,32]:H).length:Nat):Int)<=9223372036854775807)<|(au (R.hZ (I.1,A.2) (W (a-1)) ([59]:H)) λ(n,B)=>(a2 (((((([102,111,114,32,120,32,105,110,32,97,32]:H)++g)++([59,32,100,111,32]:H)).length+n.length:Nat):Int)<=9223372036854775807)<|(a2 ((((((([102,111,114,32,120,32,105,110,32,97,32]:H)++g)++([59,32,100,111,32]:H))++n).length+([100,111,110,101]:H).length:Nat):Int)<=9223372036854775807)<|some (((((([102,111,114,32,120,32,105,110,32,97,32]:H)++g)++([59,32,100,111,32]:H))++n)++([100,111,110,101]:H)),(I.1,B.2)))))))) else(bif(decide (c=7)) then some (([102,111,114,32,120,10,100,111,32,97,10,100,111,110,101]:H),(I.1,b.2)) else(bif(decide (c=8)) then(au (R.oq (I.1,b.2) (W (a-1))) λ(h,C)=>(a2 (((([99,97,115,101,32]:H).length+h.length:Nat):Int)<=9223372036854775807)<|(a2 ((((([99,97,115,101,32]:H)++h).length+([32,105,110,32,97,124,98,41,32]:H).length:Nat):Int)<=9223372036854775807)<|(au (R.hZ (I.1,C.2) (W (a-1)) ([])) λ(o,D)=>(a2 (((((([99,97,115,101,32]:H)++h)++([32,105,110,32,97,124,98,41,32]:H)).length+o.length:Nat):Int)<=9223372036854775807)<|(a2 ((((((([99,97,115,101,32]:H)++h)++([32,105,110,32,97,124,98,41,32]:H))++o).length+([59,59,10,40,99,41,32,59,59,32,100,41,32,101,115,97,99]:H).length:Nat):Int)<=9223372036854775807)<|some (((((([99,97,115,101,32]:H)++h)++([32,105,110,32,97,124,98,41,32]:H))++o)++([59,59,10,40,99,41,32,59,59,32,100,41,32,101,115,97,99]:H)),(I.1,D.2)))))))) else(bif(decide (c=9)) then(au (R.hZ (I.1,b.2) (W (a-1)) ([10]:H)) λ(p,E)=>(a2 (((([102,40,41,32,123,10]:H).length+p.length:Nat):Int)<=9223372036854775807)<|(a2 ((((([102,40,41,32,123,10]:H)++p).length+([125,32,62,102]:H).length:Nat):Int)<=9223372036854775807)<|some (((([102,40,41,32,123,10]:H)++p)++([125,32,62,102]:H)),(I.1,E.2))))) else(au (CR R (I.1,b.2) a) λ(F,G)=>some (F,(I.1,G.2))))))))))))) λq=>(bif(decide (a<=0)) then q 0 else q r)))
theorem Fh{R:bj}(a:iz R){I:H×Int×Int}{d:Int}{a3:bL}{b:bL}{c:Nat}{r:H×H×Int×Int}(h:wq R I d=some r):
  gU Tryz.prog 36 [.pointer a3,c1 d] [lA b I.1 c] [jt a3 I b c] (λ_:Unit=>True) (λ_=>zs r.1) (λ_=>[jt a3 (I.1,r.2.2) b c]):=
 by refine V.js (T:=cl) Tryz.call36 Tryz.func36 A λ_ _=>?_;unfold wq at h;exact V.bI J 7 0 h rH [0] [0] A λ⟨N,p⟩ _ h=>V.e5 J 2 0 h (ρ:=Unit) (λs q=>[(0,bK a3),(1,bG d),(5,bG s)]) .nil (λs q=>[jt a3 (I.1,p.2) b c]) A (λO _ h=>V.co J 5 0 h A (λh=>V.a5 J 3 0 h () [0] A) (λh=>V.a5 J 1 0 h () [0] A)) λP _ h=>V.co J 11 0 h A (λh=>V.bI J 5 0 h a.hZ [0] [0] A λ⟨Q,S⟩ _ h=>b6 h λt h=>b6 h λu h=>bp h▸V.rx J 4 0 () [0] ⟨t,u,A⟩) (λh=>V.co J 5 0 h A (λh=>V.bI J 5 0 h a.hZ [0] [0] A λ⟨U,W⟩ _ h=>b6 h λv h=>b6 h λw h=>bp h▸V.rx J 4 0 () [0] ⟨v,w,A⟩) (λh=>V.co J 5 0 h A (λh=>V.bI J 5 0 h a.hZ [0] [0] A λ⟨X,Y⟩ _ h=>b6 h λx h=>b6 h λy h=>V.bI J 5 0 h a.hZ [0] [0] ⟨x,y,A⟩ λ⟨Z,fH⟩ _ h=>b6 h λe h=>b6 h λz h=>bp h▸V.rx J 4 0 () [0] ⟨e,z,A⟩) (λh=>V.co J 5 0 h A (λh=>V.bI J 5 0 h a.hZ [0] [0] A λ⟨di,iU⟩ _ h=>b6 h λB h=>b6 h λC h=>V.bI J 5 0 h a.hZ [0] [0] ⟨B,C,A⟩ λ⟨gL,ez⟩ _ h=>b6 h λD h=>b6 h λf h=>bp h▸V.rx J 4 0 () [0] ⟨D,f,A⟩) (λh=>V.co J 5 0 h A (λh=>V.bI J 5 0 h a.hZ [0] [0] A λ⟨mw,lG⟩ _ h=>b6 h λg h=>b6 h λE h=>V.bI J 5 0 h a.hZ [0] [0] ⟨g,E,A⟩ λ⟨kn,fG⟩ _ h=>b6 h λF h=>b6 h λG h=>bp h▸V.rx J 4 0 () [0] ⟨F,G,A⟩) (λh=>V.co J 5 0 h A (λh=>V.bI J 5 0 h a.oq [0] [0] A λ⟨gx,pW⟩ _ h=>b6 h λK h=>b6 h λL h=>V.bI J 5 0 h a.hZ [0] [0] ⟨K,L,A⟩ λ⟨mE,ov⟩ _ h=>b6 h λi h=>b6 h λM h=>bp h▸V.rx J 4 0 () [0] ⟨i,M,A⟩) (λh=>V.co J 5 0 h A (λh=>bp h▸V.rx J 4 0 () [0] A) (λh=>V.co J 5 0 h A (λh=>V.bI J 5 0 h a.oq [0] [0] A λ⟨jU,uU⟩ _ h=>b6 h λj h=>b6 h λk h=>V.bI J 5 0 h a.hZ [0] [0] ⟨j,k,A⟩ λ⟨ka,n2⟩ _ h=>b6 h λl h=>b6 h λm h=>bp h▸V.rx J 4 0 () [0] ⟨l,m,A⟩) (λh=>V.co J 5 0 h A (λh=>V.bI J 5 0 h a.hZ [0] [0] A λ⟨mT,lI⟩ _ h=>b6 h λn h=>b6 h λo h=>bp h▸V.rx J 4 0 () [0] ⟨n,o,A⟩) (λh=>V.bI J 6 0 h (ajZ a) [0] [0] A λ⟨nF,kX⟩ _ h=>bp h▸V.rx J 2 0 () [0] A)))))))))
def CS(R:bj)(I:H×Int×Int)(f:Int)(g:(H×Int×Int)->Option (H×H×Int×Int))(h:(H×Int×Int×Int)->Option (H×H×Int×Int)):(H×Int×Int×Int)->Option (H×H×Int×Int):=λ(a,b,c,d)=>
 (bif(decide (0<b)) then(a6 (λ((i,j,k):H×Int×Int)=>h (i,(W (b-1)),j,k)) λl=>(au (iK (I.1,c,d) 8) λ(y23,m)=>(a2 (0<=y23/\y23<(([([32,38,38,32]:H),([32,124,124,32]:H),([32,124,32]:H),([59,32]:H),([32,38,32]:H),([10]:H),([32,124,10]:H),([59,32,35,32,114,10]:H)]:bw).length:Int))<|(a2 (((a.length+(at' ([([32,38,38,32]:H),([32,124,124,32]:H),([32,124,32]:H),([59,32]:H),([32,38,32]:H),([10]:H),([32,124,10]:H),([59,32,35,32,114,10]:H)]:bw) y23).length:Nat):Int)<=9223372036854775807)<|(au (wq R (I.1,m.2) f) λ(e,n)=>(a2 ((((a++(at' ([([32,38,38,32]:H),([32,124,124,32]:H),([32,124,32]:H),([59,32]:H),([32,38,32]:H),([10]:H),([32,124,10]:H),([59,32,35,32,114,10]:H)]:bw) y23)).length+e.length:Nat):Int)<=9223372036854775807)<|l (((a++(at' ([([32,38,38,32]:H),([32,124,124,32]:H),([32,124,32]:H),([59,32]:H),([32,38,32]:H),([10]:H),([32,124,10]:H),([59,32,35,32,114,10]:H)]:bw) y23))++e),n.2))))))) else g (a,c,d))
def IB(R:bj)(I:H×Int×Int)(a:Int)(b:H):Option (H×H×Int×Int):=
 (au (wq R I a) λ(f,c)=>(au (iK (I.1,c.2.1,c.2.2) 3) λ(g,d)=>(a6 (λ((e,h,i):H×Int×Int)=>(a2 (((e.length+b.length:Nat):Int)<=9223372036854775807)<|some ((e++b),(I.1,h,i)))) λj=>(fixF (CS R I a j) bC (f,g,d.2.1,d.2.2)))))
theorem aka{R:bj}(e:iz R){I:H×Int×Int}{i:Int}{j:H}{a:bL}{f:bL}{g:Nat}{r:H×H×Int×Int}(h:IB R I i j=some r):
  gU Tryz.prog 26 [.pointer a,c1 i,zs j] [lA f I.1 g] [jt a I f g] (λ_:Unit=>True) (λ_=>zs r.1) (λ_=>[jt a (I.1,r.2.2) f g]):=
 by
  refine V.js (T:=cl) Tryz.call26 Tryz.func26 A λ_ _=>?_;unfold IB at h;refine V.bI J 8 0 h (Fh e) [0] [0] A ?_;rintro⟨B,C⟩ _ h;refine V.bI J 6 0 h rH [0] [0] A ?_;rintro⟨D,E⟩ _ h;refine V.dn J 2 0 h (ρ:=Unit) (λs q=>[(2,cg j),(7,cg s.1)]) .nil (λs q=>[jt a (I.1,s.2) f g]) A ?_ ?_
  ·intro F _ h;refine V.fu J 0 0 h (ρ:=Unit) (λs q=>[(0,bK a),(1,bG i),(2,cg j),(7,cg s.1),(8,bG s.2.1)]) .nil (λs q=>[jt a (I.1,s.2.2) f g]) () [0] A ?_;rintro x ⟨b,y,G,K⟩ _ h;rw[CS] at h;refine V.co J 6 0 h A (λh=>?_) (λh=>?_)
   ·refine V.agd J 3 0 h (ρ:=Unit) (λs q=>[(0,bK a),(1,bG i),(2,cg j),(7,cg s.1),(8,bG y)]) .nil (λs q=>[jt a (I.1,s.2) f g]) A ?_ ?_
    ·intro L _ h;obtain⟨⟨y23,M⟩,w,h⟩:=oh h;obtain⟨c,h⟩:=hY h;obtain⟨k,h⟩:=hY h;obtain⟨⟨l,N⟩,m,h⟩:=oh h;obtain⟨n,h⟩:=hY h;refine V.j9 (aY.r5 A .nil [] [] trivial A (λz=>?_));refine bF.eI J gu true 8 [0,2,7,8] A (by kernel_rfl) [] [(18,cg b),(20,bK a),(25,bK a),(26,bG i)] trivial [] A A (fV A) ?_;refine bF.all (rs:=[1,3]) (by kernel_rfl) A (yh.2 ⟨?_,yh.2 ⟨?_,(λ_ d=>absurd d rf)⟩⟩)
     ·refine cM.buildSlice J A A A A A A A A A A A [] A .str om ⟨A,A⟩ A A λo=>bF.next trivial [] A (bF.one 3 (by kernel_rfl) (cM.pQ A A A A (rH w) A [1] A [0] A A λ_ _=>bF.next trivial [] A (cM.jc 2 A λp=>bF.eI J gu true 5 [4] A (by kernel_rfl) [] [(22,.eE ⟨o,om.length,om.length⟩ (Int.toNat y23*1))] trivial [] A A ⟨p.ix c,⟨A,trivial⟩⟩ ?_)));refine bF.all (rs:=[5,9]) (by kernel_rfl) A (yh.2 ⟨?_,yh.2 ⟨?_,(λ_ d=>absurd d rf)⟩⟩)
      ·refine cM.load J A A A A A A A 2 A A (Int.toNat y23) 0 (at' om y23) ⟨mP c,A⟩ A A (bF.next trivial [] A (bF.eI J gu true 3 [6] A (by kernel_rfl) [] [(24,cg (b++(at' om y23)))] trivial [] A A ⟨k,⟨A,trivial⟩⟩ (bF.one 9 (by kernel_rfl) (cM.pQ A A A A (Fh e m) A [0] A [0] A A λ_ _=>bF.next trivial [] A (bF.eI J gu true 0 [10,11] A (by kernel_rfl) [] [(7,cg ((b++(at' om y23))++l))] trivial [] A A ⟨n,⟨A,trivial⟩⟩ (bF.done (by kernel_rfl) (aY.boxes (B':= .nil) trivial (V.iT ?_))))))));exact V.a5 J 0 0 h () [0] A
      refine cM.pQ A A A A (Fh e m) A [0] A [0] A A λ_ _=>bF.next trivial [] A (bF.one 5 (by kernel_rfl) (cM.load J A A A A A A A 2 A A (Int.toNat y23) 0 (at' om y23) ⟨mP c,A⟩ A A (bF.next trivial [] A (bF.eI J gu true 0 [6,10,11] A (by kernel_rfl) [] [(7,cg ((b++(at' om y23))++l))] trivial [] A A ⟨k,n,⟨A,trivial⟩⟩ (bF.done (by kernel_rfl) (aY.boxes (B':= .nil) trivial (V.iT ?_)))))));exact V.a5 J 0 0 h () [0] A
     refine cM.pQ A A A A (rH w) A [0] A [0] A A λ_ _=>bF.next trivial [] A ?_;refine bF.all (rs:=[1,9]) (by kernel_rfl) A (yh.2 ⟨?_,yh.2 ⟨?_,(λ_ d=>absurd d rf)⟩⟩)
     ·refine cM.buildSlice J A A A A A A A A A A A [] A .str om ⟨A,A⟩ A A λo=>bF.next trivial [] A (cM.jc 1 A λt=>bF.eI J gu true 5 [4] A (by kernel_rfl) [] [(22,.eE ⟨o,om.length,om.length⟩ (Int.toNat y23*1))] trivial [] A A ⟨t.ix c,⟨A,trivial⟩⟩ ?_);refine bF.all (rs:=[5,9]) (by kernel_rfl) A (yh.2 ⟨?_,yh.2 ⟨?_,(λ_ d=>absurd d rf)⟩⟩)
      ·refine cM.load J A A A A A A A 1 A A (Int.toNat y23) 0 (at' om y23) ⟨mP c,A⟩ A A (bF.next trivial [] A (bF.eI J gu true 3 [6] A (by kernel_rfl) [] [(24,cg (b++(at' om y23)))] trivial [] A A ⟨k,⟨A,trivial⟩⟩ (bF.one 9 (by kernel_rfl) (cM.pQ A A A A (Fh e m) A [1] A [0] A A λ_ _=>bF.next trivial [] A (bF.eI J gu true 0 [10,11] A (by kernel_rfl) [] [(7,cg ((b++(at' om y23))++l))] trivial [] A A ⟨n,⟨A,trivial⟩⟩ (bF.done (by kernel_rfl) (aY.boxes (B':= .nil) trivial (V.iT ?_))))))));exact V.a5 J 0 0 h () [0] A
      refine cM.pQ A A A A (Fh e m) A [1] A [0] A A λ_ _=>bF.next trivial [] A (bF.one 5 (by kernel_rfl) (cM.load J A A A A A A A 2 A A (Int.toNat y23) 0 (at' om y23) ⟨mP c,A⟩ A A (bF.next trivial [] A (bF.eI J gu true 0 [6,10,11] A (by kernel_rfl) [] [(7,cg ((b++(at' om y23))++l))] trivial [] A A ⟨k,n,⟨A,trivial⟩⟩ (bF.done (by kernel_rfl) (aY.boxes (B':= .nil) trivial (V.iT ?_)))))));exact V.a5 J 0 0 h () [0] A
     refine cM.pQ A A A A (Fh e m) A [0] A [0] A A λ_ _=>bF.next trivial [] A (bF.one 1 (by kernel_rfl) (cM.buildSlice J A A A A A A A A A A A [] A .str om ⟨A,A⟩ A A λo=>bF.next trivial [] A (cM.jc 1 A λu=>bF.eI J gu true 4 [4] A (by kernel_rfl) [] [(22,.eE ⟨o,om.length,om.length⟩ (Int.toNat y23*1))] trivial [] A A ⟨u.ix c,⟨A,trivial⟩⟩ (bF.one 5 (by kernel_rfl) (cM.load J A A A A A A A 1 A A (Int.toNat y23) 0 (at' om y23) ⟨mP c,A⟩ A A (bF.next trivial [] A (bF.eI J gu true 0 [6,10,11] A (by kernel_rfl) [] [(7,cg ((b++(at' om y23))++l))] trivial [] A A ⟨k,n,⟨A,trivial⟩⟩ (bF.done (by kernel_rfl) (aY.boxes (B':= .nil) trivial (V.iT ?_))))))))));exact V.a5 J 0 0 h () [1] A
    rintro⟨O,P,Q⟩ _ h
    try dsimp only at h
    exact V.el J 6 0 h () [0] A
   exact V.a5 J 1 0 h () [0] A
  rintro⟨S,U,W⟩ _ h;obtain⟨v,h⟩:=hY h;cases h;exact V.rx J 7 0 () [0] ⟨v,A⟩
def Mu(R:bj)(I:H×Int×Int)(c:Int):Option (H×H×Int×Int):=
 (au (iK I 14) λ(h,a)=>(a6 (λ(b:Int)=>(bif(decide (b=1)) then some (([39,113,32,114,39]:H),(I.1,a.2)) else(bif(decide (b=2)) then some (([34,97,32,98,34]:H),(I.1,a.2)) else(bif(decide (b=3)) then some (([97,92,32,98]:H),(I.1,a.2)) else(bif(decide (b=4)) then some (([36,120]:H),(I.1,a.2)) else(bif(decide (b=5)) then some (([36,40,40,49,43,40,50,41,41,41]:H),(I.1,a.2)) else(bif(decide (b=6)) then some (([96,99,32,100,96]:H),(I.1,a.2)) else(bif(decide (b=7)) then some (([45,108]:H),(I.1,a.2)) else(bif(decide (b=8)) then(au (R.hZ (I.1,a.2) (W (c-1)) ([])) λ(d,j)=>(a2 (((([36,40]:H).length+d.length:Nat):Int)<=9223372036854775807)<|(a2 ((((([36,40]:H)++d).length+([41]:H).length:Nat):Int)<=9223372036854775807)<|some (((([36,40]:H)++d)++([41]:H)),(I.1,j.2))))) else(bif(decide (b=9)) then(au (R.hZ (I.1,a.2) (W (c-1)) ([])) λ(e,k)=>(a2 (((([34,120,36,40]:H).length+e.length:Nat):Int)<=9223372036854775807)<|(a2 ((((([34,120,36,40]:H)++e).length+([41,34]:H).length:Nat):Int)<=9223372036854775807)<|some (((([34,120,36,40]:H)++e)++([41,34]:H)),(I.1,k.2))))) else(bif(decide (b=10)) then(au (R.oq (I.1,a.2) (W (c-1))) λ(f,l)=>(a2 (((([36,123,120,58,45]:H).length+f.length:Nat):Int)<=9223372036854775807)<|(a2 ((((([36,123,120,58,45]:H)++f).length+([125]:H).length:Nat):Int)<=9223372036854775807)<|some (((([36,123,120,58,45]:H)++f)++([125]:H)),(I.1,l.2))))) else(bif(decide (b=11)) then some (([97,92,10,98]:H),(I.1,a.2)) else(au (iK (I.1,a.2) 7) λ(g,m)=>(a2 (0<=g/\g<(([([97]:H),([98,49]:H),([120,61,49]:H),([102,105,108,101]:H),([195,169]:H),([105,110]:H),([97,35,98]:H)]:bw).length:Int))<|some ((at' ([([97]:H),([98,49]:H),([120,61,49]:H),([102,105,108,101]:H),([195,169]:H),([105,110]:H),([97,35,98]:H)]:bw) g),(I.1,m.2)))))))))))))))) λi=>(bif(bif(decide (c<=0)) then(decide (8<=h)) else false) then i 0 else i h)))
theorem akf{R:bj}(c:iz R){I:H×Int×Int}{d:Int}{a3:bL}{a:bL}{b:Nat}{r:H×H×Int×Int}(h:Mu R I d=some r):
  gU Tryz.prog 54 [.pointer a3,c1 d] [lA a I.1 b] [jt a3 I a b] (λ_:Unit=>True) (λ_=>zs r.1) (λ_=>[jt a3 (I.1,r.2.2) a b]):=
 V.js (T:=cl) Tryz.call54 Tryz.func54 A λ_ _=>V.bI J 7 0 h rH [0] [0] A λ⟨p,i⟩ _ h=>V.e5 J 2 0 h (ρ:=Unit) (λs q=>[(0,bK a3),(1,bG d),(5,bG s)]) .nil (λs q=>[jt a3 (I.1,i.2) a b]) A (λt _ h=>V.co J 9 0 h A (λh=>V.a5 J 3 0 h () [0] A) (λh=>V.a5 J 1 0 h () [0] A)) λu _ h=>V.co J 11 0 h A (λh=>bp h▸V.rx J 4 0 () [0] A) (λh=>V.co J 5 0 h A (λh=>bp h▸V.rx J 4 0 () [0] A) (λh=>V.co J 5 0 h A (λh=>bp h▸V.rx J 4 0 () [0] A) (λh=>V.co J 5 0 h A (λh=>bp h▸V.rx J 4 0 () [0] A) (λh=>V.co J 5 0 h A (λh=>bp h▸V.rx J 4 0 () [0] A) (λh=>V.co J 5 0 h A (λh=>bp h▸V.rx J 4 0 () [0] A) (λh=>V.co J 5 0 h A (λh=>bp h▸V.rx J 4 0 () [0] A) (λh=>V.co J 5 0 h A (λh=>V.bI J 5 0 h c.hZ [0] [0] A λ⟨v,w⟩ _ h=>b6 h λj h=>b6 h λk h=>bp h▸V.rx J 4 0 () [0] ⟨j,k,A⟩) (λh=>V.co J 5 0 h A (λh=>V.bI J 5 0 h c.hZ [0] [0] A λ⟨x,y⟩ _ h=>b6 h λl h=>b6 h λm h=>bp h▸V.rx J 4 0 () [0] ⟨l,m,A⟩) (λh=>V.co J 5 0 h A (λh=>V.bI J 5 0 h c.oq [0] [0] A λ⟨z,B⟩ _ h=>b6 h λn h=>b6 h λo h=>bp h▸V.rx J 4 0 () [0] ⟨n,o,A⟩) (λh=>V.co J 5 0 h A (λh=>bp h▸V.rx J 4 0 () [0] A) (λh=>V.go J 4 0 A (V.cj (aH.kx A (cM.buildSlice J A A A A A A A A A A A [] A .str [([97]:H),([98,49]:H),([120,61,49]:H),([102,105,108,101]:H),([195,169]:H),([105,110]:H),([97,35,98]:H)] ⟨A,A⟩ A A λC=>aH.ky (V.cx (V.bI J 1 0 h rH [1] [0] A λ⟨f,D⟩ _ h=>V.cj (aH.jc 2 A λe=>V.cx (b6 h λg h=>V.go J 1 0 ⟨e.ix g,A⟩ (V.cj (aH.load J A A A A A A A 2 A A (Int.toNat f) 0 (at' ([([97]:H),([98,49]:H),([120,61,49]:H),([102,105,108,101]:H),([195,169]:H),([105,110]:H),([97,35,98]:H)]:bw) f) ⟨mP g,A⟩ A A (V.cx (bp h▸V.rx J 2 0 () [0] A))))))))))))))))))))))
def lg:Nat->bj
 |0=>⟨λ_ _ _=>none,λ_ _ _=>none,λ_ _ _ _=>none,λ_=>none,λ_ _ _=>none,λ_ _=>none⟩
 |n+1=>⟨EW (lg n),LP (lg n),Ff (lg n),Iy (lg n),IB (lg n),Mu (lg n)⟩
theorem CT:∀n,iz (lg n)
 |0=>⟨λh=>(DT _ (Eq.symm (show none=some _ from h))).elim,λh=>(DT _ (Eq.symm (show none=some _ from h))).elim,λh=>(DT _ (Eq.symm (show none=some _ from h))).elim,λh=>(DT _ (Eq.symm (show none=some _ from h))).elim,λh=>(DT _ (Eq.symm (show none=some _ from h))).elim,λh=>(DT _ (Eq.symm (show none=some _ from h))).elim⟩
 |n+1=>⟨ah3 (CT n),aij (CT n),ajI (CT n),ajT (CT n),aka (CT n),akf (CT n)⟩
def sY:bj:=lg bC
theorem Mv:iz sY:=CT bC
def Sk(I:H)(d:Int->Option (H×Int×Int))(b:(Int×Int)->Option (H×Int×Int)):(Int×Int)->Option (H×Int×Int):=λ(c,a)=>
 (bif(bif(decide (a<(I.length:Int))) then(decide (a<4000)) else false) then(a2 (0<=a/\a<(I.length:Int))<|b ((W (((BitVec.ofInt (IntKind.bits .i64) (W ((W ((W (c*137))+((at' I a).toNat:Int)))+7))&&&BitVec.ofInt (IntKind.bits .i64) 1073741823).toNat:Int))),(W (a+1)))) else d c)
def ID(I:H):Option (H×Int×Int):=
 (a6 (λ(a:Int)=>some (I,0,a)) λb=>(fixF (Sk I b) bC ((W (600128+(I.length:Int))),0)))
theorem Yp{I:H}{aj:bL}{a:Nat}{r:H×Int×Int}(h:ID I=some r):
  FC Tryz.prog 20 [.slice aj I.length a] [lA aj I a] (λ_:bL=>True) (λq=> .pointer q) (λq=>[jt q (I,r.2) aj a]):=
 V.fQ (T:=cl) Tryz.call20 Tryz.func20 A λ_=>V.dn J 16 0 h (ρ:=Unit) (λs q=>[(0,.v (.slice aj I.length a)),(3,bG s)]) .nil (λs q=>[]) A (λj _ h=>V.fu J 0 0 h (ρ:=Unit) (λs q=>[(0,.v (.slice aj I.length a)),(3,bG s.1),(4,bG s.2)]) .nil (λs q=>[]) () [] A λi ⟨c,b⟩ _ h=>V.co J 12 0 h A (λh=>V.go J 4 0 A (V.cj (aH.jc 0 A λe=>V.cx (b6 h λg h=>V.go J 5 0 ⟨e.ix g,A⟩ (V.cj (aH.load J A A A A A A A 0 A A (Int.toNat b) 0 (at' I b) ⟨mP g,A⟩ A A (V.cx (V.cj (aH.eI J 5 [((at' I b).toNat:Int),(W ((W (c*137))+((at' I b).toNat:Int))),(W ((W ((W (c*137))+((at' I b).toNat:Int)))+7)),(W (((BitVec.ofInt (IntKind.bits .i64) (W ((W ((W (c*137))+((at' I b).toNat:Int)))+7))&&&BitVec.ofInt (IntKind.bits .i64) 1073741823).toNat:Int)))] [] [(3,bG (W (((BitVec.ofInt (IntKind.bits .i64) (W ((W ((W (c*137))+((at' I b).toNat:Int)))+7))&&&BitVec.ofInt (IntKind.bits .i64) 1073741823).toNat:Int))))] _ A ⟨⟨trivial,KK _⟩,⟨trivial,A⟩,⟨trivial,A⟩,⟨trivial,A⟩,⟨A,trivial⟩,A⟩ (V.cx (V.el J 7 0 h () [] A))))))))))) (λh=>V.a5 J 1 0 h () [] A)) λf _ h=>V.j9 (aY.Ei J 5 [] [9] [(2,.fe 9 0),(31,.fe 9 0)] (.new 9 36 [.slice aj I.length a,c1 0,c1 f] .nil) ⟨(fV A),(jR A A)⟩ A A (V.iT (V.j9 (aY.unbox 9 A (B':= .nil) trivial A (.pair .val (.pair (.int .i64) (.int .i64))) ((bB.v ⟨aj,I.length,a⟩),0,f) ⟨A,A,A⟩ (λd=>[(0,.v (.slice aj I.length a)),(2,bK d),(3,bG f),(31,bK d)]) (λ_=>(fV A)) λd=>V.iT (bp h▸V.rt J 0 0 d [0] A)))))
def Mw(I:H)(a:H):Option Bool:=
 (a2 (((decide ((a.length:Int)<=(I.length:Int)))=true)->0<=(W ((I.length:Int)- (a.length:Int)))/\(W ((I.length:Int)- (a.length:Int)))<=(I.length:Int)/\(I.length:Int)<=(I.length:Int))<|some (bif(decide ((a.length:Int)<=(I.length:Int))) then(decide ((b1 I (W ((I.length:Int)- (a.length:Int))) (I.length:Int))=a)) else false))
theorem akj{I:H}{a:H}{r:Bool}(h:Mw I a=some r):
  FC Tryz.prog 35 [zs I,zs a] [] (λ_:Unit=>True) (λ_=> .bool r) (λ_=>[]):=
 V.fQ (T:=cl) Tryz.call35 Tryz.func35 A λ_=>b6 h λb h=>bp h▸V.rt J 24 0 () [] ⟨b,A⟩
def Sl(I:H)(a:H):Option Bool:=
 (au (Mw I a) λ(b:Bool)=>some b)
theorem akk{I:H}{a:H}{r:Bool}(h:Sl I a=some r):
  FC Tryz.prog 25 [zs I,zs a] [] (λ_:Unit=>True) (λ_=> .bool r) (λ_=>[]):=
 V.fQ (T:=cl) Tryz.call25 Tryz.func25 A λ_=>V.cJ J 8 0 h akj [] A λb _ h=>bp h▸V.rt J 2 0 () [] A
def CU(I:H):Option H:=
 (au (Sl I ([10]:H)) λ(a:Bool)=>(bif a then some I else(a2 (((I.length+([10]:H).length:Nat):Int)<=9223372036854775807)<|some (I++([10]:H)))))
theorem Mx{I:H}{r:H}(h:CU I=some r):
  FC Tryz.prog 13 [zs I] [] (λ_:Unit=>True) (λ_=>zs r) (λ_=>[]):=
 V.fQ (T:=cl) Tryz.call13 Tryz.func13 A λ_=>V.cJ J 8 0 h akk [] A λb _ h=>V.co J 1 0 h A (λh=>bp h▸V.rt J 5 0 () [] A) (λh=>b6 h λa h=>bp h▸V.rt J 7 0 () [] ⟨a,A⟩)
theorem akl(aA a b:bL)(w:World):CallsD Tryz.prog 29 #[.pointer aA,.pointer a,.pointer b] .returning w λe c w'=>e= .returned (.tuple #[])/\c= .returning/\w'=w:=by refine callsD_of_wpS Tryz.func29 A λd cs hu=>?_;apply wpS_seq;apply wpS_region;simp[wpOpsS,go_sem,recoverD,hu,Tryz.ntmps29,Exit.thenS];apply wpS_seq;apply wpS_region;simp[wpOpsS,go_sem,recoverD,hu,Tryz.ntmps29,Exit.thenS,Op.equal];refine wpS_cond (t:=false) (by simp[Act.eval,Array.replicate]) ?_;simp only[fo,cH];refine wpS_of_wp (wp_skip ?_);cases d;simp_all [bodyPostS,results,Tryz.results29]
theorem Sm:∀{e:Env}{t:Nat}{x:e8},dj e t=some x->(t,x)∈e
 |[],t,x,h=>by simp[dj] at h
 |(k,y)::r,t,x,h=>by
  simp only[dj] at h;cases aw:Nat.beq k t with
  |true=>rw[aw,aL] at h;have:=w4 aw;cases h;subst this;exact List.mem_cons_self
  |false=>rw[aw,aU] at h;exact OH _ (Sm h)
theorem aY.enter{P:Program}{T:ed}{X:bq}{w0:World}{nt:Nat}{x:Code}{Q:Exit->Act->World->Prop}{a:Act}{w:World}(β:Nat->Nat)(e:Env){O:bb}
  (he:∀p∈e,p.1<a.tmps.size/\p.2.is β a (a.tmps.getD p.1 undef)) (hf:e.all (λp=>flat p.2)=true) (av:a.tmps.size=nt) (aD:a.defers=[])
  (aw:Keep X w0 w) {L:bq} (g:gT w O L) (c:L.Nodup) (bk:∀b∈L,w0.heap.size<=b\/b∈X)
  (h:∀fin,fin=Q->aY {P,T,X,w0,nt,fin} [.c x] e .nil [] O):x.wp P Q a w:=by
 have:=h Q A a w β ⟨λt y d=>he _ (Sm d),λt y d=>pI.1 hf _ (Sm d),av,aD,⟨aw,?_,L,g,by simpa[bW.ids] using c,λb i=>bk b (by simpa[bW.ids] using i),λf hf=>by cases hf⟩⟩
 ·refine wp_mono (show x.wp P (ie {P,T,X,w0,nt,fin:=Q} []) a w from this) ?_;intro e a w h;exact h
 ·intro k aw;simp[bW.ids] at aw
theorem akm(code c:Int)(s:H)(p:Int)(o:Value)(n:Int)(da:bL)(lo g:Nat)(k:Int)(t u:Int)(x:Value)(aA i j f:bL)(w:World)(L:bq)
  (D:gT w [⟨.val,⟨aA,1,1⟩,[.pointer f]⟩,⟨.pair (.int .i64) (.int .i64),⟨i,1,1⟩,[(t,u)]⟩,⟨.val,⟨j,1,1⟩,[x]⟩,⟨Eo,⟨f,1,1⟩,[(s,p,o,n,(bB.v ⟨da,lo,g⟩),k)]⟩] L) (q:L.Nodup):
  CallsD Tryz.prog 29 #[.pointer aA,.pointer i,.pointer j] (.panicking [{v:= .iface 39 (.agg #[.int .i64 code,.int .i64 c]),recovered:=false}]) w λe E w'=>
   E= .panicking [{v:= .iface 39 (.agg #[.int .i64 code,.int .i64 c]),recovered:=true}]/\e= .returned (.tuple #[])/\Keep L w w'/\
   ∃L',gT w' [⟨.val,⟨aA,1,1⟩,[.pointer f]⟩,⟨.pair (.int .i64) (.int .i64),⟨i,1,1⟩,[(code,c)]⟩,⟨.val,⟨j,1,1⟩,[bB.v ⟨da,lo,g⟩]⟩,⟨Eo,⟨f,1,1⟩,[(s,p,o,n,(bB.v ⟨da,lo,g⟩),k)]⟩] L'/\L'.Nodup/\∀b∈L',b∈L\/w.heap.size<=b:=by
 refine callsD_of_wpS Tryz.func29 A λG cs hu=>?_;apply wpS_seq;apply wpS_region;simp[wpOpsS,go_sem,recoverD,hu,Tryz.ntmps29,Exit.thenS];refine wpS_of_wp ?_;refine aY.enter (T:=cl) (X:=L) (w0:=w) (nt:=22) (λ_=>0) [(3,.v (.iface 39 (.agg #[.int .i64 code,.int .i64 c]))),(0,.v (.pointer aA)),(1,.v (.pointer i)),(2,.v (.pointer j))] ?_ A (by simp) A (Keep.refl _ _) D q (λb r=> .inr r) ?_
 ·simp[e8.is]
 intro fin y;have m:xi {P:=Tryz.prog,T:=cl,X:=L,w0:=w,nt:=22,fin:=fin}:=by subst y;intro I d v a w h;obtain⟨M,U⟩:=h;exact⟨by rw[put_defers] at M;exact M,U⟩
 refine aY.ptr 0 aA A (aY.ptr 1 i A (aY.ptr 2 j A ?_));refine aY.seq (aY.region (aH.eI J 1 [] [] [(7,.v (.iface 39 (.agg #[.int .i64 code,.int .i64 c])))] _ A ⟨⟨A,trivial⟩,A⟩ (aH.af0 A A ⟨_,A⟩ A A Tryz.underlying20 ⟨_,A⟩ A (aH.done A ?_))));refine aY.cond A (λl=>?_) (λl=>absurd l (by decide));refine aY.seq (aY.region (aH.eI J 1 [] [] [(10,.v (.iface 39 (.agg #[.int .i64 code,.int .i64 c])))] _ A ⟨⟨A,trivial⟩,A⟩ (aH.af1 J A A A A A A A A ?_)));refine aH.pa J 6 [] [1] [(4,.fe 1 0),(5,.v (.bool true))] (.new 1 39 [.int .i64 code,.int .i64 c] .nil) A ⟨fV A,jR A A⟩ (aH.done A ?_);refine aY.seq (aY.seq (aY.region (aH.eI J 2 [] [] [(15,.v (.bool false))] _ A ⟨⟨A,trivial⟩,A⟩ (aH.done A ?_))));refine aY.cond A (λl=>absurd l (by decide)) (λl=>aY.skip ?_);refine aY.jc 3 A λaw=>?_;refine aY.r5 A (.new 1 39 [.int .i64 code,.int .i64 c] .nil) [0,3] [5,6] (jR A A) A (λK=>?_);refine bF.eI J m true 6 [0] A (by kernel_rfl) [] [(17,.v (.agg #[.int .i64 code,.int .i64 c]))] (jR A A) [0,3] A A ⟨A,trivial⟩ ?_;refine bF.lz J m 1 A (by kernel_rfl) A A A A A 0 A A 0 0 (.pointer f) ⟨A,A⟩ A A A (jR A A) [0,3] A ?_;refine cM.ptr 18 f A ?_;refine bF.eI J m true 3 [2,3] A (by kernel_rfl) [] [(20,.eE ⟨f,1,1⟩ 4)] (jR A A) [0,3] A A ⟨(aw.gr gv).1,aw.gr gv,⟨A,trivial⟩⟩ ?_;refine bF.lz J m 4 A (by kernel_rfl) A A A A A 1 A A 0 4 (s,p,o,n,(bB.v ⟨da,lo,g⟩),k) ⟨A,A⟩ A A A (jR A A) [0,3] A ?_;refine bF.one 5 (by kernel_rfl) (cM.rn J A A A A A A A A A [1] (fs:=[]) A 0 0 (t,u) (code,c) ⟨A,A⟩ ⟨A,A,A⟩ (bF.oi A ?_));refine bF.one 6 (by kernel_rfl) (cM.rn J A A A A A A A A A [2] (fs:=[]) A 0 0 x (bB.v ⟨da,lo,g⟩) ⟨A,A⟩ ⟨A,A,A,A⟩ (bF.oi A ?_));refine bF.done (by kernel_rfl) (aY.boxes (B':= .nil) trivial ?_);intro a w' β Y;subst y;obtain⟨_,_,F,z,B,C,_⟩:=Y.inv.pick (idx:=[2,1,0,0]) rfl;simp only[bW.ids,List.map_nil,re,k8] at z B C;exact⟨Y.iy,_,A,_,by simp[results,Tryz.results29],A,A,Y.inv.yn,F,z,B,λb r=>(C b r).symm⟩
def My(w0:World)(r:(Int×Int)×bw×Int):Ending->World->Prop:=
 Kw w0 (λ_:bL×Nat=>True) (λq=> .tuple #[.agg #[.int .i64 r.1.1,.int .i64 r.1.2],.slice q.1 r.2.1.length q.2,.int .i64 r.2.2]) (λq=>[⟨.str,⟨q.1,r.2.1.length,q.2⟩,r.2.1⟩])
theorem Yr{w:World}{O:bb}{L:bq}(h:gT w O L){f:Fact}(hf:f∈O):∃fq,f.rep false w fq:=by obtain⟨fq,a,_⟩:=h.mem hf;exact⟨fq,Fact.ql a⟩
theorem Ys{tmps:Array Value}{w:World}{L:bq}{aj a3:bL}{e1 a n:Int}{O:bb}(U:tmps.getD 2 undef= .pointer aj)(d:tmps.getD 3 undef= .pointer a3)(e:tmps.getD 4 undef= .int .i64 n)
  (c:gT w O L) (f:⟨.pair (.int .i64) (.int .i64),⟨aj,1,1⟩,[(e1,a)]⟩∈O) {da:bL} {lo b:Nat} (g:⟨.val,⟨a3,1,1⟩,[bB.v ⟨da,lo,b⟩]⟩∈O):
  (results Tryz.f23 tmps).run Tryz.prog w= .ok (.tuple #[.agg #[.int .i64 e1,.int .i64 a],.slice da lo b,.int .i64 n]) w:=by
 obtain⟨o,h⟩:=Yr c f;obtain⟨i,j⟩:=Yr c g;have k:=WR (P:=Tryz.prog) J (q:=2) (t:=39) A U h A A A (v:= .agg #[.int .i64 e1,.int .i64 a]) A;have l:=WR (P:=Tryz.prog) J (q:=3) (t:=29) A d j A A A (v:= .slice da lo b) A;have m:(yu tmps (.tmp 4)).run Tryz.prog w= .ok (.int .i64 n) w:=by simp only[yu,e];rfl
 have Z:Tryz.f23.results= #[.cell 2 39,.cell 3 29,.tmp 4]:=A;rw[VS,Z,Array.mapM_eq_mapM_toList];simp only[pJ,Sem.run_map,List.mapM_cons,List.mapM_nil,k,l,m,zU];rfl
theorem akn{a:Act}{w0 w:World}{L:bq}{aA aj a3:bL}{e1 b n:Int}{O:bb}(aD:a.defers=[{target:= .fn (.func 29) #[.pointer aA,.pointer aj,.pointer a3],args:= #[]}])
  (U:a.tmps.getD 2 undef= .pointer aj) (c:a.tmps.getD 3 undef= .pointer a3) (d:a.tmps.getD 4 undef= .int .i64 n) (aw:Keep [] w0 w)
  (g:gT w O L) (h:⟨.pair (.int .i64) (.int .i64),⟨aj,1,1⟩,[(e1,b)]⟩∈O) (i:⟨.val,⟨a3,1,1⟩,[bB.v ⟨none,0,0⟩]⟩∈O):
  Leaves Tryz.prog Tryz.f23 a.tmps (My w0 ((e1,b),[],n)) a.defers .returning w:=by
 rw[aD];refine leaves_cons (f:=29) (args:= #[.pointer aA,.pointer aj,.pointer a3]) (by simp) (by simp[go_sem,invoke]) ?_;refine(akl aA aj a3 w).mono ?_;rintro e j w' ⟨rfl,rfl,rfl⟩;show Leaves Tryz.prog Tryz.f23 a.tmps (My w0 ((e1,b),[],n)) [] .returning w';refine⟨_,Ys U c d g h i,(none,0),trivial,A,aw,[],⟨[],[],⟨A,.inl ⟨A,A,A⟩⟩,A,A⟩,List.nodup_nil,by simp⟩
theorem ako{a b c:World}{L:bq}(h:Keep [] a b)(k:Keep L b c)(bk:∀x∈L,a.heap.size<=x):Keep [] a c:=
 ⟨k.os.trans h.os,k.tape.trans h.tape,k.output.trans h.output,kN h.size k.size,λx d _=>(k.block x (Nat.lt_of_lt_of_le d h.size) λhm=>Nat.lt_irrefl _ (Nat.lt_of_lt_of_le d (bk x hm))).trans (h.block x d (by simp))⟩
theorem akp{a:Act}{w0 w:World}{L:bq}{aA aj a3 h:bL}{code c n:Int}{s:H}{p:Int}{i:Value}{j:Int}{da:bL}{d:Nat}{op:bw}{k:Int}
  (aD:a.defers=[{target:= .fn (.func 29) #[.pointer aA,.pointer aj,.pointer a3],args:= #[]}])
  (U:a.tmps.getD 2 undef= .pointer aj) (y:a.tmps.getD 3 undef= .pointer a3) (z:a.tmps.getD 4 undef= .int .i64 n) (aw:Keep [] w0 w)
  {l m:Int} {o:Value} (B:gT w [⟨.val,⟨aA,1,1⟩,[.pointer h]⟩,⟨.pair (.int .i64) (.int .i64),⟨aj,1,1⟩,[(l,m)]⟩,⟨.val,⟨a3,1,1⟩,[o]⟩,⟨Eo,⟨h,1,1⟩,[(s,p,i,j,(bB.v ⟨da,op.length,d⟩),k)]⟩,⟨.str,⟨da,op.length,d⟩,op⟩] L)
  (q:L.Nodup) (r:∀b∈L,w0.heap.size<=b):
  Leaves Tryz.prog Tryz.f23 a.tmps (My w0 ((code,c),op,n)) a.defers (.panicking [{v:= .iface 39 (.agg #[.int .i64 code,.int .i64 c]),recovered:=false}]) w:=by
 rw[aD];refine leaves_cons (f:=29) (args:= #[.pointer aA,.pointer aj,.pointer a3]) (by simp) (by simp[go_sem,invoke]) ?_;obtain⟨C,t,D,u,rfl⟩:=gT.split (fs:=[⟨.val,⟨aA,1,1⟩,[.pointer h]⟩,⟨.pair (.int .i64) (.int .i64),⟨aj,1,1⟩,[(l,m)]⟩,⟨.val,⟨a3,1,1⟩,[o]⟩,⟨Eo,⟨h,1,1⟩,[(s,p,i,j,(bB.v ⟨da,op.length,d⟩),k)]⟩]) (gs:=[⟨.str,⟨da,op.length,d⟩,op⟩]) B;obtain⟨E,F,G⟩:=ic.1 q;refine(akm code c s p i j da op.length d k l m o aA aj a3 h w C D E).mono ?_;rintro e N w' ⟨rfl,rfl,x,L',I,O,J⟩;have K:gT w' [⟨.str,⟨da,op.length,d⟩,op⟩] t:=u.frame λb g=>x.block b (u.lt b g) λM=>G b M b g A;show Leaves Tryz.prog Tryz.f23 a.tmps (My w0 ((code,c),op,n)) [] .returning w';refine⟨_,Ys U y z I (by simp) (by simp),(da,d),trivial,A,ako aw x (λb g=>r b (by simp[g])),t,K,F,λb g=>r b (by simp[g])⟩
theorem Mz(a:bL):a.map (·.add 0)=a:=by cases a<;>simp[Addr.add]
def zc(I:H):Option ((Int×Int)×bw×Int):=
 (au (CU I) λy=>match sY.kR (y,0,[],0,[],0) 0 true with
  |none=>none
  |some (.inl e)=>some ((e.1,e.2.1),e.2.2.2.2.2.2.1,0)
  |some (.inr r)=>some ((0,(r.2.1.length:Int)),[],r.1))
set_option maxHeartbeats 1000000 in
theorem Yt{I:H}{r:(Int×Int)×bw×Int}(h:zc I=some r):
  FC Tryz.prog 23 [zs I] [] (λ_:bL×Nat=>True) (λq=> .tuple #[.agg #[c1 r.1.1,c1 r.1.2],.slice q.1 r.2.1.length q.2,c1 r.2.2]) (λq=>[⟨.str,⟨q.1,r.2.1.length,q.2⟩,r.2.1⟩]):=by
 refine⟨Tryz.call23,λw _=>calls_of_wp_defers Tryz.func23 A ?_⟩;unfold zc at h;obtain⟨y,j,h⟩:=oh h;rw[Tryz.ntmps23];refine aY.enter (T:=cl) (X:=[]) (w0:=w) (nt:=20) (λ_=>0) [(0,cg I)] (O:=[]) ?_ A (by simp) A (Keep.refl _ _) (L:=[]) A List.nodup_nil (by simp) ?_
 ·simp[e8.is]
 intro fin i;refine aY.seq (aY.region (aH.pa J 3 [] [1,2] [(2,.fe 1 0),(3,.fe 2 0),(4,bG 0)] (.new 1 39 [c1 0,c1 0] (.new 2 29 [.slice none 0 0] .nil)) A ⟨fV A,jR A A⟩ (aH.done A ?_)));refine aY.seq (aY.region (aH.eI J 1 [] [] [(6,cg I)] _ A ⟨⟨A,trivial⟩,A⟩ (aH.call A A A A (Mx j) A [] A A λ_ _=>?_)));refine aH.pa J 2 [] [3] [(9,.fe 3 0)] (.new 1 39 [c1 0,c1 0] (.new 2 29 [.slice none 0 0] (.new 3 55 [zs y,c1 0,.slice none 0 0,c1 0,.slice none 0 0,c1 0] .nil))) A ⟨⟨A,trivial⟩,jR A A⟩ ?_;refine aH.unbox 3 A (B':= .new 1 39 [c1 0,c1 0] (.new 2 29 [.slice none 0 0] .nil)) (jR A A) A Eo (y,0,(bB.v ⟨none,0,0⟩),0,(bB.v ⟨none,0,0⟩),0) ⟨A,A,A,A⟩ (λa=>[(2,.fe 1 0),(3,.fe 2 0),(4,bG 0),(9,bK a)]) (λ_=>fV A) λc=>?_;refine aH.pa J 2 [] [4] [(5,.fe 4 0)] (.new 1 39 [c1 0,c1 0] (.new 2 29 [.slice none 0 0] (.new 4 52 [.pointer c] .nil))) A ⟨⟨A,trivial⟩,jR A A⟩ (aH.done A ?_);refine aY.unbox 1 A (B':= .new 2 29 [.slice none 0 0] (.new 4 52 [.pointer c] .nil)) (jR A A) A (.pair (.int .i64) (.int .i64)) (0,0) ⟨A,A⟩ (λa=>[(2,bK a),(3,.fe 2 0),(4,bG 0),(5,.fe 4 0)]) (λ_=>fV A) λaj=>?_;refine aY.unbox 2 A (B':= .new 4 52 [.pointer c] .nil) (jR A A) A .val (bB.v ⟨none,0,0⟩) ⟨A,A,A⟩ (λa=>[(2,bK aj),(3,bK a),(4,bG 0),(5,.fe 4 0)]) (λ_=>fV A) λa3=>?_;refine aY.unbox 4 A (B':= .nil) trivial A .val (.pointer c) ⟨A,A,A⟩ (λa=>[(2,bK aj),(3,bK a3),(4,bG 0),(5,bK a)]) (λ_=>fV A) λaA=>?_;refine aY.qs (.pair .str .bool) bB.nil A A (aY.qs .str bB.nil A A ?_);refine aY.seq (aY.region (aH.afN A A A A A A (aH.defer A A A A A (aH.done A ?_))));refine aY.seq (aY.region (aH.lz J A A A A A A 2 A A 0 0 (.pointer c) ⟨A,A⟩ A A A (aH.ptr 11 c A ?_)));rcases hm:sY.kR (y,0,[],0,[],0) 0 true with _|⟨e|aC⟩
 ·rw[hm] at h;cases h
 ·rw[hm] at h;cases h;refine aH.WQ A A A A (Mv.kR (Q:=(none,0,none,0)) hm) A [5,1,0] A [] A A (λ_=>by simp) (λs v _ he _=>?_) (λs k _ he a w' β Y=>?_)
  ·simp at he
  ·simp only[Ending.panicked.injEq] at he;subst he;subst i;obtain⟨_,_,l,d,f,g,_⟩:=(Y.inv.pick (idx:=[3,4,3,0,1]) rfl).drop;simp only[bW.ids,List.map_nil,re,k8] at d f g;refine B4 (akp (aA:=aA) (aj:=aj) (a3:=a3) Y.iy ?_ ?_ ?_ Y.inv.yn d f λb m=>(g b m).resolve_right (by simp))
   ·exact(Y.env 2 _ A).2.trans (by rw[Mz])
   ·exact(Y.env 3 _ A).2.trans (by rw[Mz])
   ·exact(Y.env 4 _ A).2
 ·rw[hm] at h;cases h;refine aH.WQ A A A A (Mv.kR (Q:=(none,0,none,0)) hm) A [5,1,0] A [] A A (λ_=>by simp) (λs v _ he n=>?_) (λs k _ he=>?_)
  ·simp only[Bx] at he;subst he;refine aH.eI J 1 [] [] [(4,bG aC.1)] _ A ⟨⟨A,trivial⟩,A⟩ (aH.done A ?_);refine aY.jc 0 A λaw=>?_;refine aY.seq (aY.region (aH.lz J A A A A A A 3 A A 0 0 (.pointer c) ⟨A,A⟩ A A A (aH.ptr 13 c A ?_)));refine aH.eI J 2 [] [] [(15,bK c)] _ A ⟨(aw.gr gv).1,aw.gr gv,⟨A,trivial⟩,A⟩ ?_;refine aH.lz J A A A A A A 0 A A 0 0 _ ⟨A,A⟩ A A A ?_;refine aH.eI J 3 [] [] [(18,.v (.agg #[c1 0,c1 (aC.2.1.length:Int)])),(19,bG aC.1)] _ A ⟨fV A,A⟩ ?_;refine aH.rn J A A A A A A A A A [5] (fs:=[]) A 0 0 (0,0) (0,(aC.2.1.length:Int)) ⟨A,A⟩ ⟨A,A,A⟩ ?_;refine aH.rn J A A A A A A A A A [5] (fs:=[]) A 0 0 (bB.v ⟨none,0,0⟩) (bB.v ⟨none,0,0⟩) ⟨A,A⟩ ⟨A,A,A,A⟩ ?_;refine aH.eI J 1 [] [] [(4,bG aC.1)] _ A ⟨⟨A,trivial⟩,A⟩ (aH.done A ?_);intro a w' β Y;subst i;obtain⟨_,_,l,d,f,g,_⟩:=Y.inv;refine wp_ret (BM (akn (aA:=aA) (aj:=aj) (a3:=a3) Y.iy ?_ ?_ ?_ Y.inv.yn d (by simp) (by simp)))
   ·exact(Y.env 2 _ A).2.trans (by rw[Mz])
   ·exact(Y.env 3 _ A).2.trans (by rw[Mz])
   ·exact(Y.env 4 _ A).2
  ·simp at he
def MA(I:H):Option Int:=
 (au (zc I) λ(a,c,b)=>(bif(!(decide (a.1=0))) then some (-1) else some b))
theorem akq{I:H}{r:Int}(h:MA I=some r):
  FC Tryz.prog 14 [zs I] [] (λ_:Unit=>True) (λ_=>c1 r) (λ_=>[]):=
 V.fQ (T:=cl) Tryz.call14 Tryz.func14 A λ_=>V.cJ J 7 0 h Yt [] A λ⟨a,c,b⟩⟨d,e⟩ h=>V.cj (aH.pa J 8 [] [8] [(3,.fe 8 0),(5,bG b)] (.new 8 39 [c1 a.1,c1 a.2] .nil) A ⟨(fV A),(jR A A)⟩ (V.cx (V.co J 8 0 h A (λh=>bp h▸V.rt J 4 0 () [] A) (λh=>bp h▸V.rt J 6 0 () [] A))))
def IE(I:H):Option H:=
 (a2 (((decide (0<(I.length:Int)))=true)->0<=(W ((I.length:Int)-1))/\(W ((I.length:Int)-1))<(I.length:Int))<|(bif(bif(decide (0<(I.length:Int))) then(decide (((at' I (W ((I.length:Int)-1))).toNat:Int)=(10:Int))) else false) then some I else(a2 (((I.length+([10]:H).length:Nat):Int)<=9223372036854775807)<|some (I++([10]:H)))))
theorem akr{I:H}{r:H}(h:IE I=some r):
  FC Tryz.prog 31 [zs I] [] (λ_:Unit=>True) (λ_=>zs r) (λ_=>[]):=
 V.fQ (T:=cl) Tryz.call31 Tryz.func31 A λ_=>b6 h λa h=>V.co J 19 0 h ⟨a,A⟩ (λh=>bp h▸V.rt J 5 0 () [] A) (λh=>b6 h λb h=>bp h▸V.rt J 7 0 () [] ⟨b,A⟩)
def AQ(I:H):Option (aa×Int):=
 (au (IE I) λ(p:H)=>(au (sY.oo (p,0,0,([]:ai),0,0,[],([]:bw),false) ([]) ([]:bw) false) λ(q,a)=>(a6 (λ((c,d,e,f,b,g,h,i,j):aa)=>(a6 (λ((k,r,s,t,l,u,v,w,x):aa)=>(a6 (λ(y:Int)=>some ((k,r,s,t,l,y,v,w,x),q)) λm=>(bif(!(decide (l=2))) then m (k.length:Int) else m u))) λn=>(bif(decide (b=1)) then(au (xv (c,d,e,f,b,g,h,i,j) ([10]:H)) λ(z:aa)=>n z) else n (c,d,e,f,b,g,h,i,j)))) λo=>(bif(bif(decide (a.2.2.2.2.1=0)) then(bif a.2.2.2.2.2.2.2.2 then true else(decide (0<(a.2.2.2.1.length:Int)))) else false) then(au (hQ a ([])) λ(A:aa)=>o A) else o a))))
theorem aks{I:H}{r:aa×Int}(h:AQ I=some r):
  FC Tryz.prog 24 [zs I] [] (λ_:bL×bx=>True) (λq=> .tuple #[.pointer q.1,c1 r.2]) (λq=>fb q.1 r.1 q.2):=
 by
  refine V.fQ (T:=cl) Tryz.call24 Tryz.func24 A λ_=>?_;unfold AQ at h;refine V.cJ J 8 0 h akr [] A λb _ h=>?_;refine V.cj (aH.pa J 3 [] [3] [(4,.fe 3 0),(9,.fe 3 0)] (.new 3 47 (agh (b,0,0,[],0,0,[],[],false) none 0 none 0) .nil) A ⟨(fV A),(jR A A)⟩ (V.cx ?_));refine V.go J 4 0 A ?_;obtain⟨⟨c,v⟩,d,h⟩:=oh h;refine V.cj (aH.unbox 3 A (B':= .nil) trivial A En (b,0,0,(bB.v ⟨none,0,0⟩),0,0,[],(bB.v ⟨none,0,0⟩),false) ⟨A,A,A,A⟩ (λa=>[(0,cg I),(4,bK a),(6,cg I),(7,cg b),(9,bK a),(10,bK a)]) (λ_=>(fV A)) λa=>V.cx ?_);refine V.cj (aH.qs (.pair .str .bool) bB.nil A A (V.cx ?_));refine V.cj (aH.qs .str bB.nil A A (V.cx ?_));refine V.cj (aH.KF .str bB.nil A A (V.cx ?_));refine V.cj (aH.pQ A A A A (Mv.oo (Q:=(none,0,none,0)) d) A [2,1,0] A [0] A A ?_);rintro e-;refine V.cx ?_;refine V.e5 J 2 0 h (ρ:=bx) (λs q=>[(4,bK a),(5,bG c)]) .nil (λs q=>hc a s q) A ?_ ?_
  ·intro w _ h;refine V.co J 22 1 h ⟨A,A,A,A,A,A,A,A,A,A⟩ (λh=>?_) (λh=>?_)
   ·refine V.bI J 2 0 h p5 a7 [] A λx g h=>?_;exact V.a5 J 1 0 h g [1,2,0] A
   exact V.a5 J 1 0 h e [1,2,0] A
  rintro⟨y,z,B,C,D,E,F,G,K⟩ i h;refine V.e5 J 0 0 h (ρ:=bx) (λs q=>[(4,bK a),(5,bG c)]) .nil (λs q=>hc a s q) A ?_ ?_
  ·intro L _ h;refine V.co J 8 3 h ⟨A,A,A,A⟩ (λh=>?_) (λh=>?_)
   ·refine V.bI J 2 0 h Rx [2,0,0] [] A λM j h=>?_;exact V.a5 J 1 0 h j [1,2,0] A
   exact V.a5 J 1 0 h i [0,1,2] A
  rintro⟨k,l,m,n,o,N,p,t,u⟩ f h;refine V.e5 J 0 0 h (ρ:=Unit) (λs q=>[(4,bK a),(5,bG c)]) .nil (λs q=>fb a (k,l,m,n,o,s,p,t,u) f) A ?_ ?_
  ·intro O _ h;refine V.co J 8 3 h ⟨A,A,A,A⟩ (λh=>?_) (λh=>?_)
   ·exact V.a5 J 11 3 h () [0,1,2] ⟨A,A,A,A,A,A,A⟩
   exact V.a5 J 1 0 h () [2,0,1] A
  rintro P _ h;cases h;exact V.rt J 7 0 (a,f) a7 A
def atg(I:H):Option Int:=
 (au (AQ I) λ(a,b)=>(bif(!(decide (a.2.2.2.2.1=0))) then some (-1) else some b))
def Yu:Option bw:=
 some ([([97]:H),([98,49]:H),([32]:H),([32]:H),([10]:H),([10]:H),([59]:H),([38]:H),([124]:H),([38,38]:H),([124,124]:H),([59,59]:H),([40]:H),([41]:H),([105,102,32]:H),([116,104,101,110,32]:H),([101,108,115,101,32]:H),([101,108,105,102,32]:H),([102,105]:H),([100,111,32]:H),([100,111,110,101]:H),([119,104,105,108,101,32]:H),([117,110,116,105,108,32]:H),([102,111,114,32]:H),([120,32]:H),([105,110,32]:H),([99,97,115,101,32]:H),([101,115,97,99]:H),([123,32]:H),([125]:H),([33,32]:H),([60]:H),([62]:H),([60,60,69]:H),([60,60,45,69]:H),([69,10]:H),([9,69,10]:H),([50,62]:H),([62,38,49]:H),([39]:H),([39,113,39]:H),([34]:H),([34,113,34]:H),([92]:H),([92,10]:H),([36]:H),([36,40]:H),([36,40,40]:H),([49,43,40,50,41]:H),([41,41]:H),([36,123]:H),([125]:H),([96]:H),([96,99,96]:H),([35,114]:H),([9]:H),([102,40,41,32]:H),([195,169]:H)]:bw)
theorem akv{r:bw}(h:Yu=some r):
  FC Tryz.prog 28 [] [] (λ_:bL×Nat=>True) (λq=> .slice q.1 r.length q.2) (λq=>[h8 q.1 r q.2]):=
 V.fQ (T:=cl) Tryz.call28 Tryz.func28 A λ_=>V.go J 6 0 A (V.cj (aH.kx A (cM.buildSlice J A A A A A A A A A A A [] A .str [([97]:H),([98,49]:H),([32]:H),([32]:H),([10]:H),([10]:H),([59]:H),([38]:H),([124]:H),([38,38]:H),([124,124]:H),([59,59]:H),([40]:H),([41]:H),([105,102,32]:H),([116,104,101,110,32]:H),([101,108,115,101,32]:H),([101,108,105,102,32]:H),([102,105]:H),([100,111,32]:H),([100,111,110,101]:H),([119,104,105,108,101,32]:H),([117,110,116,105,108,32]:H),([102,111,114,32]:H),([120,32]:H),([105,110,32]:H),([99,97,115,101,32]:H),([101,115,97,99]:H),([123,32]:H),([125]:H),([33,32]:H),([60]:H),([62]:H),([60,60,69]:H),([60,60,45,69]:H),([69,10]:H),([9,69,10]:H),([50,62]:H),([62,38,49]:H),([39]:H),([39,113,39]:H),([34]:H),([34,113,34]:H),([92]:H),([92,10]:H),([36]:H),([36,40]:H),([36,40,40]:H),([49,43,40,50,41]:H),([41,41]:H),([36,123]:H),([125]:H),([96]:H),([96,99,96]:H),([35,114]:H),([9]:H),([102,40,41,32]:H),([195,169]:H)] ⟨A,A⟩ A A λa=>aH.ky (V.cx (bp h▸V.rt J 2 0 (a,([([97]:H),([98,49]:H),([32]:H),([32]:H),([10]:H),([10]:H),([59]:H),([38]:H),([124]:H),([38,38]:H),([124,124]:H),([59,59]:H),([40]:H),([41]:H),([105,102,32]:H),([116,104,101,110,32]:H),([101,108,115,101,32]:H),([101,108,105,102,32]:H),([102,105]:H),([100,111,32]:H),([100,111,110,101]:H),([119,104,105,108,101,32]:H),([117,110,116,105,108,32]:H),([102,111,114,32]:H),([120,32]:H),([105,110,32]:H),([99,97,115,101,32]:H),([101,115,97,99]:H),([123,32]:H),([125]:H),([33,32]:H),([60]:H),([62]:H),([60,60,69]:H),([60,60,45,69]:H),([69,10]:H),([9,69,10]:H),([50,62]:H),([62,38,49]:H),([39]:H),([39,113,39]:H),([34]:H),([34,113,34]:H),([92]:H),([92,10]:H),([36]:H),([36,40]:H),([36,40,40]:H),([49,43,40,50,41]:H),([41,41]:H),([36,123]:H),([125]:H),([96]:H),([96,99,96]:H),([35,114]:H),([9]:H),([102,40,41,32]:H),([195,169]:H)]:bw).length) [0] A)))))
def IF(I:H×Int×Int)(a:bw)(g:(H×Int×Int)->Option (H×H×Int×Int))(h:(H×Int×Int×Int)->Option (H×H×Int×Int)):(H×Int×Int×Int)->Option (H×H×Int×Int):=λ(c,d,e,f)=>
 (bif(decide (0<d)) then(au (iK (I.1,e,f) (a.length:Int)) λ(b,i)=>(a2 (0<=b/\b<(a.length:Int))<|(a2 (((c.length+(at' a b).length:Nat):Int)<=9223372036854775807)<|h ((c++(at' a b)),(W (d-1)),i.2)))) else g (c,e,f))
def xC(I:H×Int×Int)(b:Int):Option (H×H×Int×Int):=
 (au (Yu) λ(c:bw)=>(au (iK I (W (b+1))) λ(d,a)=>(a6 (λ((e,f,g):H×Int×Int)=>some (e,(I.1,f,g))) λh=>(fixF (IF I c h) bC ([],d,a.2.1,a.2.2)))))
theorem MB{I:H×Int×Int}{e:Int}{a3:bL}{a:bL}{b:Nat}{r:H×H×Int×Int}(h:xC I e=some r):
  gU Tryz.prog 22 [.pointer a3,c1 e] [lA a I.1 b] [jt a3 I a b] (λ_:Unit=>True) (λ_=>zs r.1) (λ_=>[jt a3 (I.1,r.2.2) a b]):=
 V.js (T:=cl) Tryz.call22 Tryz.func22 A λ_ _=>V.cJ J 10 0 h akv [] A λc ⟨f,g⟩ h=>V.bI J 8 0 h rH [1] [0] A λ⟨m,n⟩ _ h=>V.dn J 2 0 h (ρ:=Unit) (λs q=>[(5,cg s.1)]) .nil (λs q=>[jt a3 (I.1,s.2) a b]) A (λo _ h=>V.fu J 0 0 h (ρ:=Unit) (λs q=>[(0,bK a3),(5,cg s.1),(6,.v (.slice f c.length g)),(7,bG s.2.1)]) .nil (λs q=>[jt a3 (I.1,s.2.2) a b,h8 f c g]) () [0,1] A λk ⟨p,t,u,v⟩ _ h=>V.co J 6 0 h A (λh=>V.bI J 9 0 h rH [0] [0] A λ⟨i,w⟩ _ h=>V.cj (aH.jc 2 A λd=>V.cx (b6 h λj h=>V.go J 1 0 ⟨d.ix j,A⟩ (V.cj (aH.load J A A A A A A A 2 A A (Int.toNat i) 0 (at' c i) ⟨mP j,A⟩ A A (V.cx (b6 h λl h=>V.el J 9 0 h () [0,1] ⟨l,A⟩))))))) (λh=>V.a5 J 1 0 h () [0] A)) λ⟨x,y,z⟩ _ h=>bp h▸V.rx J 5 0 () [0] A
def IG(I:H×Int×Int):Option (H×H×Int×Int):=
 (au (iK I 12) λ(c,l)=>(bif(decide (c=0)) then(au (xC (I.1,l.2) 12) λ(B,C)=>some (B,(I.1,C.2))) else(au (sY.hZ (I.1,l.2) 3 ([])) λ(f,m)=>(a6 (λ((g,n,o):H×Int×Int)=>(a6 (λ(e:H)=>(a6 (λ((a,p,q):H×Int×Int)=>(a6 (λ((h,r,s):H×Int×Int)=>(a6 (λ((i,D,E):H×Int×Int)=>(a6 (λ((F,G,J):H×Int×Int)=>some (F,(I.1,G,J))) λt=>(au (iK (I.1,D,E) 12) λ(K,u)=>(bif(decide (K=0)) then(a2 (((i.length+([92,10]:H).length:Nat):Int)<=9223372036854775807)<|t ((i++([92,10]:H)),u.2)) else t (i,u.2))))) λv=>(bif(decide (c=10)) then(au (xC (I.1,r,s) 2) λ(w,L)=>(a2 (((h.length+w.length:Nat):Int)<=9223372036854775807)<|v ((h++w),L.2))) else v (h,r,s)))) λx=>(bif(decide (c=9)) then(au (iK (I.1,p,q) (W ((a.length:Int)+1))) λ(b,M)=>(a2 (0<=(0:Int)/\(0:Int)<=b/\b<=(a.length:Int))<|(au (xC (I.1,M.2) 1) λ(j,N)=>(a2 ((((b1 a 0 b).length+j.length:Nat):Int)<=9223372036854775807)<|(a2 (0<=b/\b<=(a.length:Int)/\(a.length:Int)<=(a.length:Int))<|(a2 (((((b1 a 0 b)++j).length+(b1 a b (a.length:Int)).length:Nat):Int)<=9223372036854775807)<|x ((((b1 a 0 b)++j)++(b1 a b (a.length:Int))),N.2))))))) else x (a,p,q)))) λy=>(bif(bif(bif(decide (3<c)) then(decide (c<9)) else false) then(decide (0<(e.length:Int))) else false) then(au (iK (I.1,n,o) (W ((e.length:Int)+1))) λ(k,O)=>(a2 (0<=(0:Int)/\(0:Int)<=k/\k<=(e.length:Int))<|y ((b1 e 0 k),O.2))) else y (e,n,o)))) λz=>(bif(decide (c=3)) then(a2 (((([99,97,116,32,60,60,45,39,69,32,70,39,32,60,60,92,71,10,120,10,9,69,32,70,10,121,10,71,10]:H).length+g.length:Nat):Int)<=9223372036854775807)<|z (([99,97,116,32,60,60,45,39,69,32,70,39,32,60,60,92,71,10,120,10,9,69,32,70,10,121,10,71,10]:H)++g)) else z g))) λA=>(bif(decide (c<3)) then(au (iK (I.1,m.2) 4) λ(d,P)=>(a2 (0<=d/\d<(([[],([32,38,38,32]:H),([32,124,32]:H),([59,32]:H)]:bw).length:Int))<|(a2 (((([99,97,116,32,60,60,69]:H).length+(at' ([[],([32,38,38,32]:H),([32,124,32]:H),([59,32]:H)]:bw) d).length:Nat):Int)<=9223372036854775807)<|(a2 ((((([99,97,116,32,60,60,69]:H)++(at' ([[],([32,38,38,32]:H),([32,124,32]:H),([59,32]:H)]:bw) d)).length+f.length:Nat):Int)<=9223372036854775807)<|(a2 (((((([99,97,116,32,60,60,69]:H)++(at' ([[],([32,38,38,32]:H),([32,124,32]:H),([59,32]:H)]:bw) d))++f).length+([10,120,10,69,10]:H).length:Nat):Int)<=9223372036854775807)<|A ((((([99,97,116,32,60,60,69]:H)++(at' ([[],([32,38,38,32]:H),([32,124,32]:H),([59,32]:H)]:bw) d))++f)++([10,120,10,69,10]:H)),P.2)))))) else A (f,m.2))))))
theorem akx{I:H×Int×Int}{aj:bL}{a3:bL}{a:Nat}{r:H×H×Int×Int}(h:IG I=some r):
  gU Tryz.prog 21 [.pointer aj] [lA a3 I.1 a] [jt aj I a3 a] (λ_:Unit=>True) (λ_=>zs r.1) (λ_=>[jt aj (I.1,r.2.2) a3 a]):=
 by
  refine V.js (T:=cl) Tryz.call21 Tryz.func21 A λ_ _=>?_;unfold IG at h;refine V.bI J 7 0 h rH [0] [0] A ?_;rintro⟨c,C⟩ _ h;refine V.co J 8 0 h A (λh=>?_) (λh=>?_)
  ·refine V.bI J 3 0 h MB [0] [0] A ?_;rintro⟨D,E⟩ _ h;cases h;exact V.rx J 2 0 () [0] A
  refine V.bI J 4 0 h Mv.hZ [0] [0] A ?_;rintro⟨F,G⟩ _ h;refine V.e5 J 2 0 h (ρ:=Unit) (λs q=>[(0,bK aj),(3,bG c),(4,cg s.1)]) .nil (λs q=>[jt aj (I.1,s.2) a3 a]) A ?_ ?_
  ·intro K _ h;refine V.co J 5 0 h A (λh=>?_) (λh=>?_)
   ·refine V.go J 1 0 A ?_;refine V.cj (aH.kx A (cM.buildSlice J A A A A A A A A A A A [] A .str [[],([32,38,38,32]:H),([32,124,32]:H),([59,32]:H)] ⟨A,A⟩ A A λL=>aH.ky (V.cx ?_)));refine V.bI J 1 0 h rH [1] [0] A ?_;rintro⟨l,M⟩ _ h;refine V.cj (aH.jc 2 A λe=>V.cx ?_);obtain⟨m,h⟩:=hY h;refine V.go J 1 0 ⟨e.ix m,A⟩ ?_;refine V.cj (aH.load J A A A A A A A 2 A A (Int.toNat l) 0 (at' ([[],([32,38,38,32]:H),([32,124,32]:H),([59,32]:H)]:bw) l) ⟨mP m,A⟩ A A (V.cx ?_));obtain⟨n,h⟩:=hY h;obtain⟨o,h⟩:=hY h;obtain⟨p,h⟩:=hY h
    try dsimp only at h
    exact V.a5 J 6 0 h () [0] ⟨n,o,p,A⟩
   exact V.a5 J 1 0 h () [0] A
  rintro⟨N,t,u⟩ _ h;refine V.e5 J 0 0 h (ρ:=Unit) (λs q=>[(0,bK aj),(3,bG c),(4,cg s)]) .nil (λs q=>[jt aj (I.1,t,u) a3 a]) A ?_ ?_
  ·intro O _ h;refine V.co J 5 0 h A (λh=>?_) (λh=>?_)
   ·obtain⟨v,h⟩:=hY h;exact V.a5 J 5 0 h () [0] ⟨v,A⟩
   exact V.a5 J 1 0 h () [0] A
  rintro P _ h;refine V.e5 J 0 0 h (ρ:=Unit) (λs q=>[(0,bK aj),(3,bG c),(4,cg s.1)]) .nil (λs q=>[jt aj (I.1,s.2) a3 a]) A ?_ ?_
  ·intro Q _ h;refine V.co J 14 0 h A (λh=>?_) (λh=>?_)
   ·refine V.bI J 6 0 h rH [0] [0] A ?_;rintro⟨R,S⟩ _ h;obtain⟨w,h⟩:=hY h
    try dsimp only at h
    exact V.a5 J 3 0 h () [0] ⟨w,A⟩
   exact V.a5 J 1 0 h () [0] A
  rintro⟨b,U,W⟩ _ h;refine V.e5 J 0 0 h (ρ:=Unit) (λs q=>[(0,bK aj),(3,bG c),(4,cg s.1)]) .nil (λs q=>[jt aj (I.1,s.2) a3 a]) A ?_ ?_
  ·intro X _ h;refine V.co J 5 0 h A (λh=>?_) (λh=>?_)
   ·refine V.bI J 6 0 h rH [0] [0] A ?_;rintro⟨d,Y⟩ _ h;obtain⟨x,h⟩:=hY h;refine V.go J 2 0 A ?_;obtain⟨⟨y,Z⟩,f,h⟩:=oh h;obtain⟨z,h⟩:=hY h;obtain⟨g,h⟩:=hY h;obtain⟨i,h⟩:=hY h;refine V.j9 (aY.r5 A .nil [] [] trivial A (λB=>?_));refine bF.eI J gu true 4 [0,1,2,3,6,7,8] A (by kernel_rfl) [] [(56,cg (b1 b 0 d)),(57,bK aj),(62,cg (b1 b d (b.length:Int)))] trivial [] A A ⟨x,g,(fV A)⟩ (bF.one 4 (by kernel_rfl) (cM.pQ A A A A (MB f) A [0] A [0] A A λ_ _=>bF.next trivial [] A (bF.eI J gu true 0 [5,9,10] A (by kernel_rfl) [] [(4,cg (((b1 b 0 d)++y)++(b1 b d (b.length:Int))))] trivial [] A A ⟨z,i,⟨A,trivial⟩⟩ (bF.done (by kernel_rfl) (aY.boxes (B':= .nil) trivial (V.iT ?_))))))
    try dsimp only at h
    exact V.a5 J 0 0 h () [0] A
   exact V.a5 J 1 0 h () [0] A
  rintro⟨tI,n1,nz⟩ _ h;refine V.e5 J 0 0 h (ρ:=Unit) (λs q=>[(0,bK aj),(4,cg s.1)]) .nil (λs q=>[jt aj (I.1,s.2) a3 a]) A ?_ ?_
  ·intro Sq _ h;refine V.co J 5 0 h A (λh=>?_) (λh=>?_)
   ·refine V.bI J 3 0 h MB [0] [0] A ?_;rintro⟨ij,jU⟩ _ h;obtain⟨j,h⟩:=hY h
    try dsimp only at h
    exact V.a5 J 3 0 h () [0] ⟨j,A⟩
   exact V.a5 J 1 0 h () [0] A
  rintro⟨lf,kV,kW⟩ _ h;refine V.e5 J 0 0 h (ρ:=Unit) (λs q=>[(4,cg s.1)]) .nil (λs q=>[jt aj (I.1,s.2) a3 a]) A ?_ ?_
  ·intro wo _ h;refine V.bI J 3 0 h rH [0] [0] A ?_;rintro⟨iA,mT⟩ _ h;refine V.co J 2 0 h A (λh=>?_) (λh=>?_)
   ·obtain⟨k,h⟩:=hY h;exact V.a5 J 5 0 h () [0] ⟨k,A⟩
   exact V.a5 J 1 0 h () [0] A
  rintro⟨sT,mv,lH⟩ _ h;cases h;exact V.rx J 5 0 () [0] A
def IH(I:H):Option H:=
 (au (ID I) λ(a:H×Int×Int)=>(au (IG (I,a.2)) λ(b,c)=>some b))
theorem akE{I:H}{aj:bL}{a:Nat}{r:H}(h:IH I=some r):
  FC Tryz.prog 9 [.slice aj I.length a] [lA aj I a] (λ_:Unit=>True) (λ_=>zs r) (λ_=>[]):=
 V.fQ (T:=cl) Tryz.call9 Tryz.func9 A λ_=>V.cJ J 7 0 h Yp [0] A λc b h=>V.cj (aH.ptr 6 b A (V.cx (V.bI J 5 0 h akx [0] [0] A λ⟨d,e⟩ _ h=>bp h▸V.rt J 7 0 () [] A)))
def MC(I:H):Option H:=
 (au (ID I) λ(a:H×Int×Int)=>(au (xC (I,a.2.1,(W (a.2.2+999))) 9) λ(b,c)=>some b))
theorem akF{I:H}{aj:bL}{a:Nat}{r:H}(h:MC I=some r):
  FC Tryz.prog 10 [.slice aj I.length a] [lA aj I a] (λ_:Unit=>True) (λ_=>zs r) (λ_=>[]):=
 V.fQ (T:=cl) Tryz.call10 Tryz.func10 A λ_=>V.cJ J 7 0 h Yp [0] A λc b h=>V.cj (aH.ptr 6 b A (V.cx (V.bI J 17 1 h MB [0] [0] ⟨A,A,A,A,A,A,A⟩ λ⟨d,e⟩ _ h=>bp h▸V.rt J 7 0 () [] A)))
def II(I:H):Option (Int×Int):=
 (au (zc I) λ(a,b,c)=>some a)
theorem Yw{I:H}{r:Int×Int}(h:II I=some r):
  FC Tryz.prog 11 [zs I] [] (λ_:Unit=>True) (λ_=> .tuple #[c1 r.1,c1 r.2]) (λ_=>[]):=
 V.fQ (T:=cl) Tryz.call11 Tryz.func11 A λ_=>V.cJ J 8 0 h Yt [] A λ⟨a,b,c⟩⟨d,e⟩ h=>V.cj (aH.pa J 8 [] [8] [(4,.fe 8 0)] (.new 8 39 [c1 a.1,c1 a.2] .nil) A ⟨⟨A,trivial⟩,(jR A A)⟩ (V.cx (V.jS J 2 0 A (by kernel_rfl) (bp h▸V.rt J 7 0 () [] A))))
def MD(I:H):Option (Int×Int):=
 (au (AQ I) λ(a,b)=>some (a.2.2.2.2.1,a.2.2.2.2.2.1))
theorem akG{I:H}{r:Int×Int}(h:MD I=some r):
  FC Tryz.prog 12 [zs I] [] (λ_:Unit=>True) (λ_=> .tuple #[c1 r.1,c1 r.2]) (λ_=>[]):=
 V.fQ (T:=cl) Tryz.call12 Tryz.func12 A λ_=>V.cJ J 8 0 h aks [] A λ⟨b,c⟩⟨a,d,e,f,g⟩ h=>V.go J 2 0 A (V.cj (aH.ptr 9 a A (V.cx (V.jS J 5 0 A (by kernel_rfl) (bp h▸V.rt J 11 0 () [] ⟨A,A,A,A,A,A,A⟩)))))
def M_l_FnBad(I:H):Option Bool:=
 (bif(decide (1048576<(I.length:Int))) then some true else(au (IH I) λ(a:H)=>(au (MC I) λ(d:H)=>(au (II a) λ(g,b)=>(au (MD a) λ(j,l)=>(bif(!(decide (g=j))) then some false else(au (CU a) λ(h:H)=>(a2 (((h.length+d.length:Nat):Int)<=9223372036854775807)<|(au (II (h++d)) λ(c,e)=>(bif(decide (g=2)) then(cY ((bif(decide (c=2)) then(decide (e=b)) else false)=true) (MA a) (0:Int) λ(k:Int)=>some (bif(bif(decide (c=2)) then(decide (e=b)) else false) then(decide (k=(-1))) else false)) else(au (CU a) λ(f:H)=>(cY ((!(decide (c=2)))=false/\(decide (b=(f.length:Int)))=true) (CU a) [] λ(i:H)=>(a2 (((!(decide (c=2)))=false)->((decide (b=(f.length:Int)))=true)->((i.length+d.length:Nat):Int)<=9223372036854775807)<|some (bif(decide (b=(f.length:Int))) then(bif(!(decide (c=2))) then true else(decide (e<=((i++d).length:Int)))) else false))))))))))))))
theorem ok_l_FnBad{I:H}{aj:bL}{a:Nat}{r:Bool}(h:M_l_FnBad I=some r):
  FC Tryz.prog 3 [.slice aj I.length a] [lA aj I a] (λ_:Unit=>True) (λ_=> .bool r) (λ_=>[]):=
 V.fQ (T:=cl) Tryz.call3 Tryz.func3 A λ_=>V.co J 11 0 h A (λh=>bp h▸V.rt J 4 0 () [] A) (λh=>V.cJ J 4 0 h akE [0] A λf _ h=>V.cJ J 5 0 h akF [0] A λg _ h=>V.cJ J 5 0 h Yw [] A λ⟨i,j⟩ _ h=>V.cJ J 9 0 h akG [] A λ⟨k,l⟩ _ h=>V.co J 13 0 h A (λh=>bp h▸V.rt J 4 0 () [] A) (λh=>V.cJ J 4 0 h Mx [] A λm _ h=>b6 h λb h=>V.cJ J 2 0 h Yw [] ⟨b,A⟩ λ⟨n,o⟩ _ h=>V.co J 12 0 h A (λh=>V.ig J 11 0 h akq [] A (λ_=>id) λp h=>bp h▸V.rt J 4 0 () [] A) (λh=>V.cJ J 5 0 h Mx [] A λq _ h=>V.ig J 8 0 h Mx [] A (λ_ gG c d=>gG ⟨c,d⟩) λs h=>b6 h λe h=>bp h▸V.rt J 8 0 () [] ⟨e,A⟩)))
end
end Go.Eng
namespace Go.Eng
inductive dD(α:Type) where
 |ok (a:α) (r:H) (F:ai)
 |more (op:bw) (nd:H) (F:ai)
 |bad (r:H)
 |deep (r:H)
abbrev ad(α:Type):=H->ai->dD α
def aZ{α:Type}(a:α):ad α:=λr F=> .ok a r F
def N{α β:Type}(m:ad α)(k:α->ad β):ad β:=λr F=>match m r F with
 | .ok a r F=>k a r F
 | .more op nd ds=> .more op nd ds
 | .bad r=> .bad r
 | .deep r=> .deep r
def mf:ai->H
 |[]=>[]
 |d::ds=>d.1++10::mf ds
def cV(nd:H)(ds:ai):H->H×ai
 |[]=>(nd,ds)
 |b::x=>if b=10 then cV (nd++10::mf ds) [] x else cV (nd++[b]) ds x
def ad.aI{α:Type}(m:ad α)(x:H):ad α:=λr F=>match m r F with
 | .more op nd ds=> .more op (cV nd ds x).1 (cV nd ds x).2
 |y=>y
def ad.named{α:Type}(m:ad α)(n:H):ad α:=λr F=>match m r F with
 | .more op nd ds=> .more (n::op) nd ds
 |y=>y
def cb{α:Type}(x:H):ad α:=λ_ F=> .more [] (cV [] F x).1 (cV [] F x).2
def bE{α:Type}:ad α:=λr _=> .bad r
def tS{α:Type}:ad α:=λr _=> .deep r
def ck{σ α:Type}(f:σ->ad (σ⊕α))(s:σ):ad α:=λr F=>match f s r F with
 | .ok (.inl s') r' b=>if r'.length<r.length then ck f s' r' b else .bad r'
 | .ok (.inr a) r' b=> .ok a r' b
 | .more op nd ds=> .more op nd ds
 | .bad r=> .bad r
 | .deep r=> .deep r
termination_by r=>r.length
def fL(b:UInt8):Bool:=b==32||b==9
def lV:H->H
 |[]=>[]
 |b::t=>if b=10 then b::t else lV t
theorem AR:∀(r:H),(lV r).length<=r.length
 |[]=>cS _
 |b::t=>by
  unfold lV;split
  ·omega
  ·exact kN (AR t) (Nat.le_succ _)
def bn:H->Option H
 |[]=>some []
 |b::t=>if fL b then bn t else if b=35 then bn (lV t) else
  if b=92 then match t with
   |10::u=>if u=[] then none else bn u
   |_=>some (b::t)
  else some (b::t)
termination_by r=>r.length
decreasing_by
 all_goals simp_wf
 ·grind[AR]
 ·omega
def kG:bw:=[[60,60,45],[38,38],[124,124],[59,59],[60,60],[60,38],[60,62],[62,62],[62,38],[62,124],[38],[124],[59],[60],[62],[40],[41]]
def bu(r:H):H:=(kG.find? (λo=>o.isPrefixOf r)).getD []
def c4:H->Bool
 |[]=>true
 |b::t=>fL b||b==10||bu (b::t)!=[]
def gI:H->Bool
 |36::40::_=>true
 |36::123::_=>true
 |_=>false
def dg:H->H×Bool
 |[]=>([],true)
 |b::t=>if c4 (b::t) then([],true) else
  if b=92\/b=39\/b=34\/b=96\/gI (b::t) then([],false) else
  match dg t with
  |(w,true)=>(b::w,true)
  |(_,false)=>([],false)
inductive Tok where
 |eof
 |line
 |op (o:H)
 |word (t:H) (plain:Bool)
deriving DecidableEq
def an:H->Tok
 |[]=> .eof
 |b::t=>if b=10 then .line else if bu (b::t)≠[] then .op (bu (b::t)) else .word (dg (b::t)).1 (dg (b::t)).2
def bQ(x:H):ad Tok:=λr F=>match bn r with
 |none=>cb x r F
 |some r'=> .ok (an r') r' F
def b5(n:Nat):ad Unit:=λr F=> .ok () (r.drop n) F
def gy:H->Option H
 |[]=>none
 |b::t=>if b=39 then some t else gy t
def hB:H->Option H
 |[]=>none
 |b::t=>if b=96 then some t else if b=92 then(match t with|[]=>none|_::u=>hB u) else hB t
inductive Yx where
 |ok (r:H)
 |more (n:Nat)
 |bad (r:H)
def hR:Nat->H->Yx
 |d,[]=> .more (d+2)
 |d,b::t=>if b=39\/b=34\/b=92\/b=96\/gI (b::t) then .bad (b::t) else
  if b=40 then hR (d+1) t else
  if b=41 then match d with
   |eT+1=>hR eT t
   |0=>match t with
    |[]=> .more 1
    |c::u=>if c=41 then .ok u else .bad (b::t)
  else hR d t
def hS:H->H×H
 |[]=>([],[])
 |b::t=>if b=10 then([],t) else((b::(hS t).1),(hS t).2)
theorem ME:∀(r:H),r≠[]->(hS r).2.length<r.length
 |[],h=>absurd rfl h
 |b::t,_=>by
  unfold hS;split
  ·simp
  ·rcases t with _|⟨c,u⟩
   ·exact yk _
   ·exact Nat.lt_trans (ME (c::u) (by simp)) (yk _)
def kZ(d:H)(tabs:Bool):H->Option H
 |[]=>none
 |b::t=>if(if tabs then(hS (b::t)).1.dropWhile (· ==9) else(hS (b::t)).1)=d then some (hS (b::t)).2 else kZ d tabs (hS (b::t)).2
termination_by r=>r.length
decreasing_by grind[ME]
def lh:ai->H->H⊕H
 |[],r=> .inl r
 |d::ds,r=>match kZ d.1 d.2 r with
  |some r'=>lh ds r'
  |none=> .inr (mf (d::ds))
def jw:ad Unit:=λr F=>match r with
 |[]=> .ok () [] F
 |_::t=>match lh F t with
  | .inl r'=> .ok () r' []
  | .inr nd=> .more [[60,60]] nd []
def c5:ad Bool:=ck (λsome=>N (bQ []) λt=>if t= .line then N jw λ_=>aZ (.inl true) else aZ (.inr some)) false
def jx(f:H->Option H)(n:H):ad Unit:=λr F=>match f r with
 |some r'=> .ok () r' F
 |none=> .more [n] n F
def cD(D:ad Unit)(dq:Option (ad Unit)):ad Unit:=λr F=>match r with
 |[]=> .ok () [] F
 |b::t=>
  if b=92 then .ok () (t.drop 1) F
  else if b=96 then jx hB [96] t F
  else if gI (b::t) then D (b::t) F
  else match dq with
   |none=> .ok () t F
   |some q=>if b=39 then jx gy [39] t F else if b=34 then q t F else .ok () t F
def jy(c:UInt8)(part:ad Unit):ad Unit:=ck (λ_ r F=>match r with
 |[]=>cb [] r F
 |b::t=>if b=c then .ok (.inr ()) t F else(N part λ_=>aZ (.inl ())) r F) ()
def eJ(D:ad Unit):ad Unit:=((jy 34 (cD D none)).aI [34]).named [34]
def qG(D:ad Unit):ad Unit:=(jy 125 (cD D (some (eJ D)))).aI [125]
def cO(D:ad Unit):ad Unit:=ck (λ_ r F=>match r with
 |[]=>cb [] r F
 |_::_=>if c4 r then .ok (.inr ()) r F else(N (cD D (some (eJ D))) λ_=>aZ (.inl ())) r F) ()
def jK(D:ad Unit)(x:H):ad Unit:=N (bQ x) λt=>match t with
 | .eof=>cb x
 | .word _ _=>cO D
 |_=>bE
def zd(b:UInt8):Bool:=(97<=b&&b<=122)||(65<=b&&b<=90)||b==95
def cf(b:UInt8):Bool:=48<=b&&b<=57
def my:H->Bool
 |[]=>false
 |b::t=>zd b&&t.all λc=>zd c||cf c
def jW:H:=[105,102]
def hj:H:=[116,104,101,110]
def ir:H:=[101,108,105,102]
def gi:H:=[101,108,115,101]
def eb:H:=[102,105]
def hn:H:=[100,111]
def jh:H:=[100,111,110,101]
def tT:H:=[119,104,105,108,101]
def Fk:H:=[117,110,116,105,108]
def mz:H:=[102,111,114]
def oA:H:=[99,97,115,101]
def eK:H:=[101,115,97,99]
def fW:H:=[105,110]
def rI(w:H):Bool:=[jW,hj,ir,gi,eb,hn,jh,tT,Fk,mz,oA,eK,[123],[125],[33]].contains w
def oB(w:H):Bool:=[jW,tT,Fk,mz,oA,[123]].contains w
def fg(o:H):Bool:=[[60,60,45],[60,60],[60,38],[60,62],[62,62],[62,38],[62,124],[60],[62]].contains o
theorem ze:∀(r q:H),gy r=some q->q.length<r.length
 |[],q,h=>by grind[gy]
 |b::t,q,h=>by
  unfold gy at h;split at h
  ·grind
  ·exact Nat.lt_trans (ze t q h) (yk _)
inductive jL where
 |closed (o r:H)
 |part
 |open_ (o:H)
def jL.add(x:H):jL->jL
 | .closed o r=> .closed (x++o) r
 | .part=> .part
 | .open_ o=> .open_ (x++o)
def AS(c:UInt8):H:=if c=36\/c=34\/c=92\/c=96 then [c] else if c=10 then [] else [92,c]
def eQ:H->jL
 |[]=> .open_ []
 |b::t=>if b=34 then .closed [] t else if b=36\/b=96 then .part else
  if b=92 then match t with
   |[]=> .part
   |c::u=>(eQ u).add (AS c)
  else(eQ t).add [b]
theorem jL.Sr{x:H}{q:jL}{o r:H}(h:q.add x= .closed o r):∃a,q= .closed a r:=by cases q<;>simp[jL.add] at h;simp_all
theorem Fl:∀(r:H)(o q:H),eQ r= .closed o q->q.length<r.length
 |[],o,q,h=>by grind[eQ]
 |b::t,o,q,h=>by
  unfold eQ at h;split at h
  ·grind
  ·split at h
   ·cases h
   ·split at h
    ·match t,h with
     |[],h=>cases h
     |c::u,h=>obtain⟨a,M⟩:=jL.Sr h;have:=Fl u a q M;grind
    ·obtain⟨a,M⟩:=jL.Sr h;have:=Fl t a q M;grind
def dr:H->Option (H×H×H)
 |[]=>some ([],[],[])
 |b::t=>if c4 (b::t) then some ([],b::t,[]) else
  if b=92 then match t with
   |[]=>none
   |c::u=>(dr u).map λq=>((if c=10 then [] else [c])++q.1,q.2)
  else if b=39 then match h:gy t with
   |none=>none
   |some r=>(dr r).map λq=>(t.take (t.length-r.length-1)++q.1,q.2)
  else if b=36\/b=96 then none else
  if b=34 then match h:eQ t with
   | .part=>none
   | .open_ o=>some (o,[],[34])
   | .closed o r=>(dr r).map λq=>(o++q.1,q.2)
  else(dr t).map λq=>(b::q.1,q.2)
termination_by r=>r.length
decreasing_by
 all_goals simp_wf
 ·omega
 ·have:=ze t r h;omega
 ·have:=Fl t o r h;omega
def gS(tabs:Bool):ad Unit:=(λr F=>match bn r with
 |none=> .more [] [120] (F++[([120],tabs)])
 |some r'=>match an r' with
  | .eof=> .more [] [120] (F++[([120],tabs)])
  | .word _ _=>match dr r' with
    |none=> .bad r'
    |some (d,q,a)=>if d.contains 10 then .bad r' else
     if tabs/\d.head?=some 9 then .bad r' else
     if a≠[] then .more [a] a (F++[(d,tabs)]) else
     if q=[] then .more [] [] (F++[(d,tabs)]) else .ok () q (F++[(d,tabs)])
  |_=> .bad r')
def fX:ad (Option H):=λr F=>match bn r with
 |none=>cb [] r F
 |some r'=>let q:=r'.dropWhile cf
  if fg (bu q) then .ok (some (bu q)) (q.drop (bu q).length) F else .ok none r' F
def dI(D:ad Unit):ad Bool:=N fX λo=>match o with
 |none=>aZ false
 |some o=>N (if o=[60,60] then gS false else if o=[60,60,45] then gS true else jK D [120]) λ_=>aZ true
def g0(D:ad Unit):ad Unit:=ck (λ_=>N (dI D) λb=>aZ (if b then .inl () else .inr ())) ()
inductive Ctx where
 |text|paren|p7|oZ|qH|ku|p8|done|item
deriving DecidableEq
def cE(t:Tok)(w:H):Bool:=t== .word w true
def ec(c:Ctx)(t:Tok):Bool:=match c with
 | .text=>t== .eof
 | .paren=>t== .op [41]
 | .p7=>cE t [125]
 | .oZ=>cE t hj
 | .qH=>cE t ir||cE t gi||cE t eb
 | .ku=>cE t eb
 | .p8=>cE t hn
 | .done=>cE t jh
 | .item=>t== .op [59,59]||cE t eK
def m9(b:Tok->Bool)(n:Nat):ad Unit:=N (bQ []) λt=>if t= .eof then cb [] else if b t then b5 n else bE
def ji(o:H):ad Unit:=m9 (· == .op o) o.length
def cF(w:H):ad Unit:=m9 (cE · w) w.length
structure dK where
 ls:Ctx->Bool->ad Nat
 pm:ad Unit
 cp:Tok->ad Unit
 rd:ad Unit
 dl:ad Unit
 has:Bool
def mG:ad Unit:=λt F=>match hR 0 t with
 | .ok r'=> .ok () r' F
 | .more n=> .more [[36,40,40]] (List.replicate n 41) F
 | .bad r'=> .bad r'
def rJ(lo:Option dK)(n:Nat)(f:dK->ad Unit):ad Unit:=match lo with
 |none=>tS
 |some l=>N (b5 n) λ_=>f l
def vd(l:dK):ad Unit:=N (((l.ls .paren true).aI [41]).named [36,40]) λ_=>ji [41]
def dy(lo:Option dK):ad Unit:=λr F=>
 if [36,40,40].isPrefixOf r then N (b5 3) (λ_=>mG) r F
 else if [36,40].isPrefixOf r then rJ lo 2 vd r F
 else if [36,123].isPrefixOf r then rJ lo 2 (λl=>l.pm.named [36,123]) r F
 else .ok () (r.drop 1) F
def gz(t:Tok):Bool:=t== .op [40]||(match t with| .word w true=>oB w|_=>false)
def ho(fr:Bool)(D:ad Unit):ad Unit:=ck (λ_=>N (dI D) λb=>if b then aZ (.inl ()) else N (bQ []) λt=>match t with
 | .word _ _=>N (cO D) λ_=>aZ (.inl ())
 | .op o=>if fr/\o=[40] then bE else aZ (.inr ())
 |_=>aZ (.inr ())) ()
def kH(fr:Bool)(lo:Option dK):ad Unit:=match lo with
 |none=>tS
 |some l=>if l.has then
   (N (b5 1) λ_=>N (bQ [41,32,123,32,120,10,125]) λt=>if t= .eof then cb [41,32,123,32,120,10,125] else if t= .op [41] then
    N (b5 1) λ_=>N (c5.aI [123,32,120,10,125]) λ_=>N (bQ [123,32,120,10,125]) λt=>if t= .eof then cb [123,32,120,10,125] else
     if gz t then N (l.cp t) λ_=>if fr then l.rd else aZ () else bE
    else bE).named [102,40,41]
  else tS
def iX(l:dK)(x:H):ad Unit:=N ((cF hn).aI x) λ_=>N ((l.ls .done false).aI (10::jh)) λ_=>cF jh
def qI(l:dK):ad Unit:=ck (λ_=>N ((l.ls .oZ false).aI ([10]++hj++[32,120,10]++eb)) λ_=>N (cF hj) λ_=>N ((l.ls .qH false).aI (10::eb)) λ_=>
    N (bQ []) λt=>if cE t ir then N (cF ir) λ_=>aZ (.inl ()) else
     if cE t gi then N (cF gi) λ_=>N ((l.ls .ku false).aI (10::eb)) λ_=>N (cF eb) λ_=>aZ (.inr ()) else N (cF eb) λ_=>aZ (.inr ())) ()
def eB:H:=[10]++hn++[32,120,10]++jh
def tU:H:=120::eB
def pt(D:ad Unit):ad Unit:=ck (λ_=>N (bQ []) λt=>match t with
 | .eof=>cb []
 | .word _ _=>N (cO D) λ_=>aZ (.inl ())
 | .line=>aZ (.inr ())
 | .op o=>if o=[59] then N (b5 1) λ_=>aZ (.inr ()) else bE) ()
def pv(l:dK)(D:ad Unit):ad Unit:=N (bQ tU) λt=>match t with
 | .eof=>cb tU
 | .word w true=>if my w then N (b5 w.length) λ_=>
   N ((N (bQ []) λt=>if t= .op [59] then N (b5 1) λ_=>N c5 λ_=>aZ () else
    N c5 λ_=>N (bQ []) λt=>if cE t fW then N (b5 2) λ_=>N (pt D) λ_=>N c5 λ_=>aZ () else aZ ()).aI eB) λ_=>iX l eB
  else bE
 |_=>bE
def lj(D:ad Unit):ad Unit:=ck (λ_=>N (bQ [120,41]) λt=>match t with
 | .eof=>cb [120,41]
 | .word _ _=>N ((cO D).aI [41]) λ_=>N (bQ [41]) λt=>match t with
   | .eof=>cb [41]
   | .op o=>if o=[124] then N (b5 1) λ_=>aZ (.inl ()) else if o=[41] then N (b5 1) λ_=>aZ (.inr ()) else bE
   |_=>bE
 |_=>bE) ()
def nJ(l:dK)(D:ad Unit):ad Unit:=ck (λ_=>N c5 λ_=>N (bQ []) λt=>if t= .eof then cb [] else if cE t eK then N (b5 4) λ_=>aZ (.inr ()) else
 N ((if t= .op [40] then b5 1 else aZ ())) λ_=>N (lj D) λ_=>N (l.ls .item true) λ_=>N (bQ []) λt=>if t= .op [59,59] then N (b5 2) λ_=>aZ (.inl ()) else aZ (.inl ())) ()
def qJ(l:dK)(D:ad Unit):ad Unit:=N (bQ ([120,32]++fW++[10]++eK)) λt=>match t with
 | .eof=>cb ([120,32]++fW++[10]++eK)
 | .word _ _=>N ((N (cO D) λ_=>N c5 λ_=>N (bQ []) λt=>if t= .eof then cb [] else aZ t).aI ([32]++fW++[10]++eK)) λt=>
  if cE t fW then N (b5 2) λ_=>(nJ l D).aI (10::eK) else bE
 |_=>bE
def gA(l:dK)(t:Tok):ad Unit:=match t with
 | .op _=>N (b5 1) λ_=>N ((l.ls .paren false).aI [41]) λ_=>ji [41]
 | .word w _=>N (b5 w.length) λ_=>
  if w=[123] then N ((l.ls .p7 false).aI [10,125]) λ_=>cF [125]
  else if w=jW then qI l
  else if w=mz then pv l l.dl
  else if w=oA then qJ l l.dl
  else N ((l.ls .p8 false).aI eB) λ_=>iX l eB
 |_=>bE
def lJ:Tok->H
 | .word w _=>w
 |_=>[40]
def qK(lo:Option dK)(t:Tok):ad Unit:=match lo with
 |none=>tS
 |some l=>(gA l t).named (lJ t)
def fM(fr:Bool)(lo:Option dK)(D:ad Unit):ad Unit:=N (bQ [120]) λt=>
 if t= .eof then cb [120] else if gz t then N (qK lo t) λ_=>g0 D else match t with
  | .op o=>if fg o then N (dI D) λ_=>ho fr D else bE
  | .word w p=>if p&&rI w then bE else N (dI D) λb=>if b then ho fr D else N (cO D) λ_=>
   if p&&my w then N (bQ []) λt=>if t= .op [40] then N (kH fr lo) λ_=>if fr then aZ () else g0 D else ho fr D else ho fr D
  |_=>bE
def fv(de:ad Unit):ad Unit:=N (bQ [120]) λt=>N (if cE t [33] then b5 1 else aZ ()) λ_=>N de λ_=>
 ck (λ_=>N (bQ []) λt=>if t= .op [124] then N (b5 1) λ_=>N (c5.aI [120]) λ_=>N de λ_=>aZ (.inl ()) else aZ (.inr ())) ()
def hT(a:ad Unit):ad Unit:=N a λ_=>
 ck (λ_=>N (bQ []) λt=>if t= .op [38,38]\/t= .op [124,124] then N (b5 2) λ_=>N (c5.aI [120]) λ_=>N a λ_=>aZ (.inl ()) else aZ (.inr ())) ()
def n4(da:ad Unit)(c:Ctx)(none:Bool):ad Nat:=N (c5.aI (if none then [] else [120])) λ_=>ck (λn=>N (bQ (if none||n>0 then [] else [120])) λt=>
 if t= .eof then(if c= .text then aZ (.inr n) else cb (if none||n>0 then [] else [120])) else if(none||n>0)&&ec c t then aZ (.inr n) else
 N da λ_=>N (bQ []) λt=>match t with
  | .eof=>aZ (.inl (n+1))
  | .line=>N c5 λ_=>aZ (.inl (n+1))
  | .word _ _=>bE
  | .op o=>if o=[59]\/o=[38] then N (b5 1) λ_=>N c5 λ_=>aZ (.inl (n+1)) else if ec c t then aZ (.inr (n+1)) else bE) 0
def aS(fr:Bool):Nat->dK
 |0=>let D:=dy none;{ls:=n4 (hT (fv (fM fr none D))),pm:=qG D,cp:=qK none,rd:=g0 D,dl:=D,has:=false}
 |n+1=>let lo:=some (aS fr n);let D:=dy lo;{ls:=n4 (hT (fv (fM fr lo D))),pm:=qG D,cp:=qK lo,rd:=g0 D,dl:=D,has:=true}
def h3(fr:Bool)(n:Nat)(r:H):dD Nat:=(aS fr n).ls .text true r []
def dL(u:H):Prop:=u=[]\/∃t,u=t++[10]
theorem dL.tail{b:UInt8}{t:H}(h:dL (b::t)):dL t:=by
 rcases h with h|⟨s,h⟩
 ·cases h
 ·cases s with
  |nil=>simp at h;exact .inl h.2
  |cons c s=>simp at h;exact .inr ⟨s,h.2⟩
theorem dL.head{b:UInt8}(h:dL [b]):b=10:=by
 rcases h with h|⟨s,h⟩
 ·cases h
 ·cases s with
  |nil=>grind
  |cons c s=>simp at h
theorem dL.ne{b:UInt8}{t:H}(h:dL (b::t))(a:b≠10):t≠[]:=by rintro rfl;exact a h.head
theorem dL.sfx{u r:H}(h:dL u)(Y:r<:+u):dL r:=by
 obtain⟨p,rfl⟩:=Y;induction p with
 |nil=>exact h
 |cons b p a=>exact a h.tail
structure ao{α:Type}(f:ad α):Prop where
 sfx:∀{r:H}{F:ai}{a:α}{r':H}{aF:ai},f r F= .ok a r' aF->r'<:+r
 ok:∀{u:H}{F:ai}{a:α}{r':H}{aF:ai}(v:H),dL u->f u F= .ok a r' aF->r'≠[]->f (u++v) F= .ok a (r'++v) aF
 bad:∀{u:H}{F:ai}{r':H}(v:H),dL u->f u F= .bad r'->r'≠[]/\r'<:+u/\f (u++v) F= .bad (r'++v)
 deep:∀{u:H}{F:ai}{r':H}(v:H),dL u->f u F= .deep r'->r'≠[]/\r'<:+u/\f (u++v) F= .deep (r'++v)
 nil:∀(F:ai),(∃op nd ds,f [] F= .more op nd ds)\/∃a,f [] F= .ok a [] F
theorem ao.ret{α:Type}(a:α):ao (aZ a) where
 sfx h:=by cases h;simp
 ok v _ h _:=by cases h;rfl
 bad v _ h:=by cases h
 deep v _ h:=by cases h
 nil F:= .inr ⟨a,rfl⟩
theorem ao.N{α β:Type}{m:ad α}{k:α->ad β}(hm:ao m)(aw:∀a,ao (k a)):ao (N m k) where
 sfx {r F b r' j} h:=by
  unfold Go.Eng.N at h;split at h
  ·rename_i a ae c M;exact List.IsSuffix.trans ((aw a).sfx h) (hm.sfx M)
  all_goals cases h
 ok {u F b r' j} v hu h Z:=by
  unfold Go.Eng.N at h⊢;split at h
  ·rename_i a ae c M;by_cases e:ae=[]
   ·subst e;rcases(aw a).nil c with⟨op,nd,ds,U⟩|⟨i,U⟩
    ·grind
    grind
   ·rw[hm.ok v hu M e];exact(aw a).ok v (hu.sfx (hm.sfx M)) h Z
  all_goals cases h
 bad {u F r'} v hu h:=by
  unfold Go.Eng.N at h⊢;split at h
  ·rename_i a ae c M;by_cases e:ae=[]
   ·subst e;rcases(aw a).nil c with⟨op,nd,ds,U⟩|⟨i,U⟩<;>(grind)
   ·rw[hm.ok v hu M e];obtain⟨d,f,g⟩:=(aw a).bad v (hu.sfx (hm.sfx M)) h;exact⟨d,f.trans (hm.sfx M),g⟩
  ·cases h
  ·rename_i ae M;cases h;obtain⟨d,f,g⟩:=hm.bad v hu M;grind
  grind
 deep {u F r'} v hu h:=by
  unfold Go.Eng.N at h⊢;split at h
  ·rename_i a ae c M;by_cases e:ae=[]
   ·subst e;rcases(aw a).nil c with⟨op,nd,ds,U⟩|⟨i,U⟩<;>(grind)
   ·rw[hm.ok v hu M e];obtain⟨d,f,g⟩:=(aw a).deep v (hu.sfx (hm.sfx M)) h;exact⟨d,f.trans (hm.sfx M),g⟩
  ·cases h
  ·cases h
  ·rename_i ae M;cases h;obtain⟨d,f,g⟩:=hm.deep v hu M;grind
 nil F:=by
  unfold Go.Eng.N;rcases hm.nil F with⟨op,nd,ds,h⟩|⟨a,h⟩
  ·simp_all
  simp_all[nil]
theorem ao.Yy{α:Type}{m b:ad α}(hm:ao m)(h:∀r F,b r F=m r F\/∃op nd ds c d f,m r F= .more op nd ds/\b r F= .more c d f):ao b where
 sfx {r F a r' g} e:=by
  rcases h r F with M|⟨_,_,_,_,_,_,M,U⟩
  ·exact hm.sfx (M▸e)
  grind
 ok {u F a r' g} v hu e Z:=by
  rcases h u F with M|⟨_,_,_,_,_,_,M,U⟩
  ·have:=hm.ok v hu (M▸e) Z;grind
  grind
 bad {u F r'} v hu e:=by
  rcases h u F with M|⟨_,_,_,_,_,_,M,U⟩
  ·obtain⟨i,j,this⟩:=hm.bad v hu (M▸e);grind
  grind
 deep {u F r'} v hu e:=by
  rcases h u F with M|⟨_,_,_,_,_,_,M,U⟩
  ·obtain⟨i,j,this⟩:=hm.deep v hu (M▸e);grind
  grind
 nil F:=by
  rcases h [] F with M|⟨_,_,_,_,_,_,M,U⟩
  ·rw[M];exact hm.nil F
  grind
theorem ao.aI{α:Type}{m:ad α}(hm:ao m)(x:H):ao (m.aI x):=hm.Yy λr F=>by unfold ad.aI;grind
theorem ao.named{α:Type}{m:ad α}(hm:ao m)(x:H):ao (m.named x):=hm.Yy λr F=>by unfold ad.named;grind
theorem ao.cb{α:Type}(x:H):ao (cb x:ad α) where
 sfx h:=by cases h
 ok v _ h _:=by cases h
 bad v _ h:=by cases h
 deep v _ h:=by cases h
 nil F:= .inl ⟨_,_,_,rfl⟩
theorem qL{σ α:Type}(f:σ->ad (σ⊕α))(s:σ)(r:H)(F:ai):ck f s r F=match f s r F with
 | .ok (.inl s') r' b=>if r'.length<r.length then ck f s' r' b else .bad r'
 | .ok (.inr a) r' b=> .ok a r' b
 | .more op nd ds=> .more op nd ds
 | .bad r=> .bad r
 | .deep r=> .deep r:=by
 grind[ck]
structure iY{σ α:Type}(f:σ->ad (σ⊕α)):Prop where
 ex:∀s,ao (f s)
 lt:∀{s:σ}{r:H}{F:ai}{s':σ}{r':H}{aF:ai},f s r F= .ok (.inl s') r' aF->r'.length<r.length
theorem ao.rep{σ α:Type}{f:σ->ad (σ⊕α)}(h:iY f)(s:σ):ao (ck f s):=by
 have nil:∀s (F:ai),(∃op nd ds,ck f s [] F= .more op nd ds)\/∃a,ck f s [] F= .ok a [] F:=by
  intro s F;rw[qL];rcases(h.ex s).nil F with⟨op,nd,ds,e⟩|⟨a,e⟩
  ·simp_all
  ·rw[e];cases a with
   |inl s'=>exact absurd (h.lt e) (by simp)
   |inr a=>simp
 have sfx:∀(n:Nat)(s:σ)(r:H)(F:ai)(a:α)(r':H)(d:ai),r.length<=n->ck f s r F= .ok a r' d->r'<:+r:=by
  intro n;induction n with
  |zero=>
   intro s r F a r' d av e;have:r=[]:=nQ.1 (by omega);subst this;rcases nil s F with⟨op,nd,ds,q⟩|⟨a,q⟩<;>rw[q] at e<;>cases e
   simp
  |succ n i=>
   intro s r F a r' d av e;rw[qL] at e;split at e
   ·rename_i s1 ae g b;rw[bh (h.lt b)] at e;have:=h.lt b;exact(i s1 ae g a r' d (by omega) e).trans ((h.ex s).sfx b)
   ·rename_i b;cases e;exact(h.ex s).sfx b
   all_goals cases e
 have c:∀(n:Nat)(s:σ)(u:H)(F:ai)(v:H),u.length<=n->dL u->
   (∀a r' d,ck f s u F= .ok a r' d->r'≠[]->ck f s (u++v) F= .ok a (r'++v) d)/\
   (∀r',ck f s u F= .bad r'->r'≠[]/\r'<:+u/\ck f s (u++v) F= .bad (r'++v))/\
   (∀r',ck f s u F= .deep r'->r'≠[]/\r'<:+u/\ck f s (u++v) F= .deep (r'++v)):=by
  intro n;induction n with
  |zero=>
   intro s u F v av hu;have:u=[]:=nQ.1 (by omega);subst this;rcases nil s F with⟨op,nd,ds,q⟩|⟨a,q⟩<;>rw[q]<;>refine⟨?_,?_,?_⟩
   ·simp
   ·simp
   ·simp
   ·simp
   ·simp
   simp
  |succ n i=>
   intro s u F v av hu;rw[qL f s u F];cases b:f s u F with
   |ok x ae g=>
    cases x with
    |inl s1=>
     simp only[h.lt b,cU];by_cases l:ae=[]
     ·subst l;rcases nil s1 g with⟨op,nd,ds,q⟩|⟨a,q⟩<;>rw[q]<;>refine⟨?_,?_,?_⟩
      ·simp
      ·simp
      ·simp
      ·simp
      ·simp
      simp
     ·have m:=(h.ex s).ok v hu b l;have Y:=(h.ex s).sfx b;obtain⟨o,j,k⟩:=i s1 ae g v (by have:=h.lt b;omega) (hu.sfx Y);have p:ck f s (u++v) F=ck f s1 (ae++v) g:=by rw[qL f s (u++v) F,m];simp only[h.lt m,cU]
      rw[p];exact⟨o,λr' e=>⟨(j r' e).1,(j r' e).2.1.trans Y,(j r' e).2.2⟩,λr' e=>⟨(k r' e).1,(k r' e).2.1.trans Y,(k r' e).2.2⟩⟩
    |inr a=>
     refine⟨?_,?_,?_⟩
     ·intro z r' d e Z;cases e;rw[qL,(h.ex s).ok v hu b Z]
     ·simp
     simp
   |more op nd ds=>simp
   |bad ae=>refine⟨λ_ _ _ e=>(by cases e),λr' e=>?_,λ_ e=>(by cases e)⟩;cases e;obtain⟨t,w,y⟩:=(h.ex s).bad v hu b;grind[qL]
   |deep ae=>refine⟨λ_ _ _ e=>(by cases e),λ_ e=>(by cases e),λr' e=>?_⟩;cases e;obtain⟨t,w,y⟩:=(h.ex s).deep v hu b;grind[qL]
 exact⟨λe=>sfx _ s _ _ _ _ _ (cS _) e,λv hu e Z=>(c _ s _ _ v (cS _) hu).1 _ _ _ e Z,λv hu e=>(c _ s _ _ v (cS _) hu).2.1 _ e,λv hu e=>(c _ s _ _ v (cS _) hu).2.2 _ e,nil s⟩
theorem MF{o:H}:∀{r:H}(v:H),10∉o->dL r->r≠[]->o.isPrefixOf (r++v)=o.isPrefixOf r:=by
 induction o with
 |nil=>simp
 |cons c o a=>
  intro r v d Z av;cases r with
  |nil=>grind
  |cons b t=>
   simp only[ib,List.isPrefixOf];by_cases e:b=10
   ·grind
   ·rw[a v (λh=>d (OH _ h)) Z.tail (Z.ne e)]
theorem Su{r:H}(v:H)(Z:dL r)(av:r≠[]):bu (r++v)=bu r:=by
 unfold bu;congr 1
 have:∀(l:bw),(∀o∈l,(10:UInt8)∉o)->l.find? (λo=>o.isPrefixOf (r++v))=l.find? (λo=>o.isPrefixOf r):=by
  intro l;induction l with
  |nil=>simp
  |cons o l a=>grind[MF,List.mem_cons_self,List.mem_cons_of_mem]
 simp_all[kG]
theorem IK{r:H}(v:H)(Z:dL r)(av:r≠[]):c4 (r++v)=c4 r:=by
 cases r with
 |nil=>grind
 |cons b t=>grind[Su,c4]
theorem Sv{r:H}(v:H)(Z:dL r)(av:r≠[]):gI (r++v)=gI r:=by
 match r,Z,av with
 |[b],Z,_=>rw[Z.head];rfl
 |a::b::t,Z,_=>simp only[ib];unfold gI;grind
theorem Fm(t:H):c4 (10::t)=true:=by rfl
theorem Yz:∀{r:H}(v:H),dL r->r≠[]->dg (r++v)=dg r
 |[],_,_,av=>absurd rfl av
 |b::t,v,Z,av=>by
  have M:=IK v Z av;have U:=Sv v Z av;simp only[ib] at M U;simp only[ib,dg,M,U];by_cases a:b=10
  ·subst a;simp[Fm]
  ·rw[Yz v Z.tail (Z.ne a)]
theorem Fo{r:H}(v:H)(Z:dL r)(av:r≠[]):an (r++v)=an r:=by
 cases r with
 |nil=>grind
 |cons b t=>grind[Su,Yz,an]
theorem Fp:∀(r:H),lV r<:+r
 |[]=>tn _
 |b::t=>by
  unfold lV;split
  ·exact tn _
  ·exact(Fp t).trans (dN _ _)
theorem YA:∀{r:H},dL r->r≠[]->lV r≠[]
 |[],_,av=>absurd rfl av
 |b::t,Z,_=>by
  unfold lV;split
  ·simp
  ·rename_i a;exact YA Z.tail (Z.ne a)
theorem YB:∀{r:H}(v:H),dL r->r≠[]->lV (r++v)=lV r++v
 |[],_,_,av=>absurd rfl av
 |b::t,v,Z,_=>by
  simp only[ib];rw[lV,lV];split
  ·rfl
  ·rename_i a;exact YB v Z.tail (Z.ne a)
theorem nK(b:UInt8)(t:H):bn (b::t)=(if fL b then bn t else if b=35 then bn (lV t) else
  if b=92 then match t with
   |10::u=>if u=[] then none else bn u
   |_=>some (b::t)
  else some (b::t)):=by
 grind[bn.eq_def]
theorem mg:bn []=some []:=by rw[bn]
theorem YC:∀(n:Nat)(r:H)(v:H),r.length<=n->(∀r',bn r=some r'->r'<:+r/\(dL r->r≠[]->r'≠[]/\bn (r++v)=some (r'++v))):=by
 intro n;induction n with
 |zero=>intro r v av r' h;have:r=[]:=nQ.1 (by omega);subst this;rw[mg] at h;cases h;exact⟨tn _,λ_ h=>absurd rfl h⟩
 |succ n f=>
  intro r v av r' h;cases r with
  |nil=>rw[mg] at h;cases h;exact⟨tn _,λ_ h=>absurd rfl h⟩
  |cons b t=>
   simp only[nn] at av;rw[nK] at h;have d:bn (b::t++v)=_:=nK b (t++v);split at h
   ·rename_i a;obtain⟨M,U⟩:=f t v (by omega) r' h;refine⟨M.trans (dN _ _),λZ _=>?_⟩;have g:b≠10:=by rintro rfl;grind[fL]
    rw[d,bh a];exact U Z.tail (Z.ne g)
   ·rename_i a;split at h
    ·rename_i e;subst e;obtain⟨M,U⟩:=f (lV t) v (by grind[AR]) r' h;refine⟨M.trans ((Fp t).trans (dN _ _)),λZ _=>?_⟩;rw[d,aO a,bh rfl,YB v Z.tail (Z.ne (by decide))];exact U (Z.tail.sfx (Fp t)) (YA Z.tail (Z.ne (by decide)))
    ·rename_i e;split at h
     ·rename_i i;subst i;split at h
      ·rename_i u;split at h
       ·cases h
       ·rename_i hu;obtain⟨M,U⟩:=f u v (by grind) r' h;refine⟨M.trans ((dN _ _).trans (dN _ _)),λZ _=>?_⟩;rw[d,aO a,aO e,bh rfl];simp only[ib];rw[aO (by simp[hu])];exact U Z.tail.tail hu
      ·rename_i hu;cases h;refine⟨tn _,λZ j=>⟨j,?_⟩⟩;rw[d,aO a,aO e,bh rfl];cases t with
       |nil=>exact absurd Z.head (by decide)
       |cons c u=>simp_all
     grind
theorem ef{r r':H}(h:bn r=some r'):r'<:+r:=(YC _ r [] (cS _) r' h).1
theorem tV{r r':H}(v:H)(h:bn r=some r')(Z:dL r)(av:r≠[]):r'≠[]/\bn (r++v)=some (r'++v):=(YC _ r v (cS _) r' h).2 Z av
theorem akH{r:H}(h:r<:+[]):r=[]:=List.suffix_nil.1 h
theorem ao.cW(x:H):ao (bQ x) where
 sfx {r F a r' b} h:=by
  unfold bQ at h;split at h
  ·cases h
  grind[ef]
 ok {u F a r' b} v hu h Z:=by
  unfold bQ at h⊢;split at h
  ·cases h
  ·rename_i q Y;cases h;have av:u≠[]:=by rintro rfl;exact Z (akH (ef Y))
   rw[(tV v Y hu av).2];simp only[Fo v (hu.sfx (ef Y)) Z]
 bad v _ h:=by unfold bQ at h;split at h<;>cases h
 deep v _ h:=by unfold bQ at h;split at h<;>cases h
 nil F:=by unfold bQ;rw[mg];exact .inr ⟨_,rfl⟩
theorem ao.cQ(n:Nat):ao (b5 n) where
 sfx h:=by cases h;simp[lM]
 ok {u F a r' b} v _ h Z:=by
  cases h;have:n<=u.length:=by grind[Nat.lt_or_ge,absurd,List.drop_eq_nil_of_le,Nat.le_of_lt]
  grind[b5]
 bad v _ h:=by cases h
 deep v _ h:=by cases h
 nil F:= .inr ⟨(),by simp[b5]⟩
theorem ao.ite{α:Type}{c:Prop}[Decidable c]{f g:ad α}(hf:ao f)(bt:ao g):ao (if c then f else g):=by grind
theorem IL:∀(r:H)(v:H)(q:H),gy r=some q->q<:+r/\gy (r++v)=some (q++v)
 |[],v,q,h=>by grind[gy]
 |b::t,v,q,h=>by
  rw[gy] at h;simp only[ib];rw[gy];split at h
  ·grind
  ·rename_i a;obtain⟨M,U⟩:=IL t v q h;grind
theorem akI:∀(n:Nat)(r:H)(v:H)(q:H),r.length<=n->hB r=some q->q<:+r/\hB (r++v)=some (q++v):=by
 intro n;induction n with
 |zero=>grind[List.length_eq_zero_iff,hB]
 |succ n d=>
  intro r v q av h
  match r,av,h with
  |[],_,h=>grind[hB]
  |[b],av,h=>grind[hB,List.suffix_cons,hB.eq_def]
  |b::c::t,av,h=>
   simp only[nn] at av;by_cases f:b=96
   ·grind[hB,List.suffix_cons]
   ·by_cases e:b=92
    ·subst e;have a:hB t=some q:=by grind[hB]
     obtain⟨M,U⟩:=d t v q (by omega) a;grind[List.suffix_cons,trans,hB]
    ·have a:hB (c::t)=some q:=by grind[hB]
     obtain⟨M,U⟩:=d (c::t) v q (by grind) a;grind[List.suffix_cons,hB]
theorem ao.to{f:H->Option H}(n:H)(hf:∀r v q,f r=some q->q<:+r/\f (r++v)=some (q++v))(h0:f []=none):ao (jx f n) where
 sfx {r F a r' b} h:=by
  unfold jx at h;split at h
  ·rename_i q c;cases h;exact(hf r [] _ c).1
  grind
 ok {u F a r' b} v _ h Z:=by
  unfold jx at h⊢;split at h
  ·grind
  grind
 bad v _ h:=by unfold jx at h;split at h<;>cases h
 deep v _ h:=by unfold jx at h;split at h<;>cases h
 nil F:=by unfold jx;rw[h0];exact .inl ⟨_,_,_,rfl⟩
def na{α:Type}(f:ad α):Prop:=∀{r:H}{F:ai}{a:α}{r':H}{b:ai},r≠[]->f r F= .ok a r' b->r'.length<r.length
def gj{σ α:Type}(f:ad (σ⊕α)):Prop:=∀{r:H}{F:ai}{s:σ}{r':H}{a:ai},r≠[]->f r F= .ok (.inl s) r' a->r'.length<r.length
def jz{σ α:Type}(f:ad (σ⊕α)):Prop:=∀{F:ai}{s:σ}{r':H}{a:ai},f [] F≠ .ok (.inl s) r' a
theorem b7{α β:Type}{m:ad α}{k:α->ad β}{r:H}{F:ai}{b:β}{r':H}{c:ai}(h:N m k r F= .ok b r' c):∃a ae d,m r F= .ok a ae d/\k a ae d= .ok b r' c:=by grind[N]
theorem aT{α β:Type}{m:ad α}{k:α->ad β}{r:H}{F:ai}{a:α}{ae:H}{b:ai}(h:m r F= .ok a ae b):N m k r F=k a ae b:=by grind[N]
theorem iL{α:Type}{m:ad α}{x r:H}{F:ai}{a:α}{r':H}{b:ai}:m.aI x r F= .ok a r' b↔m r F= .ok a r' b:=by grind[ad.aI]
theorem CY{α:Type}{m:ad α}{x r:H}{F:ai}{a:α}{r':H}{b:ai}:m.named x r F= .ok a r' b↔m r F= .ok a r' b:=by grind[ad.named]
theorem iY.of{σ α:Type}{f:σ->ad (σ⊕α)}(h:∀s,ao (f s))(M:∀s,gj (f s))(U:∀s,jz (f s)):iY f:=⟨h,λ{s r F s' r' a} e=>by
 by_cases Z:r=[]
 ·subst Z;exact absurd e (U s)
 ·exact M s Z e⟩
theorem xD{r r':H}(h:r'<:+r):r'.length<=r.length:=h.length_le
theorem lX{r:H}:an r= .eof↔r=[]:=by
 cases r with
 |nil=>decide
 |cons b t=>simp only[an,reduceCtorEq,iff_false];grind
theorem nM{x r:H}{F:ai}{t:Tok}{r':H}{a:ai}(h:bQ x r F= .ok t r' a):bn r=some r'/\t=an r'/\a=F:=by
 unfold bQ at h;split at h
 ·cases h
 grind
theorem gj.cW{σ α:Type}{x:H}{k:Tok->ad (σ⊕α)}(h:∀t,t≠ .eof->gj (k t))(h0:jz (k .eof)):gj (N (bQ x) k):=by
 intro r F s r' b Z e;obtain⟨t,ae,c,M,U⟩:=b7 e;obtain⟨a,rfl,rfl⟩:=nM M;have ax:=xD (ef a);by_cases av:ae=[]
 ·subst av;exact absurd U h0
 ·have:=h (an ae) (λhe=>av (lX.1 he)) av U;omega
theorem jz.cW{σ α:Type}{x:H}{k:Tok->ad (σ⊕α)}(h:jz (k .eof)):jz (N (bQ x) k):=by intro F s r' b e;obtain⟨t,ae,c,M,U⟩:=b7 e;obtain⟨a,rfl,rfl⟩:=nM M;rw[mg] at a;cases a;exact h U
theorem gj.inr{σ α:Type}(a:α):gj (aZ (.inr a):ad (σ⊕α)):=by intro _ _ _ _ _ _ e;cases e
theorem jz.inr{σ α:Type}(a:α):jz (aZ (.inr a):ad (σ⊕α)):=by intro _ _ _ _ e;cases e
theorem jz.more{σ α:Type}(x:H):jz (cb x:ad (σ⊕α)):=by intro _ _ _ _ e;cases e
theorem gj.bad{σ α:Type}:gj (bE:ad (σ⊕α)):=by intro _ _ _ _ _ _ e;cases e
theorem gj.CZ{σ α β:Type}{m:ad β}{k:β->ad (σ⊕α)}(hm:na m)(aw:∀b,ao (k b)):gj (N m k):=by intro r F s r' a Z e;obtain⟨t,ae,c,M,U⟩:=b7 e;have:=hm Z M;have:=xD ((aw t).sfx U);omega
theorem gj.ite{σ α:Type}{c:Prop}[Decidable c]{f g:ad (σ⊕α)}(hf:gj f)(bt:gj g):gj (if c then f else g):=by grind
theorem na.cQ(n:Nat):na (b5 (n+1)):=by
 intro r F a r' c Z e;cases e;cases r with
 |nil=>grind
 |cons b t=>grind
theorem YD:∀(r:H),(hS r).2<:+r
 |[]=>tn _
 |b::t=>by
  unfold hS;split
  ·exact dN _ _
  ·exact(YD t).trans (dN _ _)
theorem Sw:∀{r:H}(v:H),dL r->r≠[]->hS (r++v)=((hS r).1,(hS r).2++v)
 |[],_,_,av=>absurd rfl av
 |b::t,v,Z,_=>by
  simp only[ib];rw[hS,hS];split
  ·rfl
  ·rename_i a;rw[Sw v Z.tail (Z.ne a)]
theorem C0(d:H)(tabs:Bool)(b:UInt8)(t:H):kZ d tabs (b::t)=(if(if tabs then(hS (b::t)).1.dropWhile (· ==9) else(hS (b::t)).1)=d then some (hS (b::t)).2 else kZ d tabs (hS (b::t)).2):=by rw[kZ]
theorem Sx(d:H)(tabs:Bool):∀(n:Nat)(r v q:H),r.length<=n->kZ d tabs r=some q->q<:+r/\(dL r->kZ d tabs (r++v)=some (q++v)):=by
 intro n;induction n with
 |zero=>grind[List.length_eq_zero_iff,kZ]
 |succ n c=>
  intro r v q av h;cases r with
  |nil=>grind[kZ]
  |cons b t=>
   rw[C0] at h;have f:=ME (b::t) (by simp);have a:=YD (b::t);by_cases ay:(if tabs then(hS (b::t)).1.dropWhile (· ==9) else(hS (b::t)).1)=d
   ·rw[bh ay] at h;cases h;refine⟨a,λZ=>?_⟩;have e:=Sw v Z (by simp);simp_all[ib,C0,bh]
   ·rw[aO ay] at h;obtain⟨M,U⟩:=c _ v q (by omega) h;refine⟨M.trans a,λZ=>?_⟩;have e:=Sw v Z (by simp);simp only[ib] at e⊢;rw[C0,e,aO ay];exact U (Z.sfx a)
theorem ve:∀(ds:ai)(r v q:H),lh ds r= .inl q->q<:+r/\(dL r->lh ds (r++v)= .inl (q++v))
 |[],r,v,q,h=>by cases h;exact⟨tn _,λ_=>rfl⟩
 |d::ds,r,v,q,h=>by
  rw[lh] at h;split at h
  ·rename_i ae M;obtain⟨a,aj⟩:=Sx d.1 d.2 _ r v ae (cS _) M;obtain⟨b,c⟩:=ve ds ae v q h;refine⟨b.trans a,λZ=>?_⟩;rw[lh,aj Z];exact c (Z.sfx a)
  grind
theorem vf(b:UInt8)(t:H)(F:ai):jw (b::t) F=(match lh F t with| .inl r'=> .ok () r' []| .inr nd=> .more [[60,60]] nd []):=rfl
theorem ao.nl:ao jw where
 sfx {r F a r' d} h:=by
  cases r with
  |nil=>cases h;simp
  |cons b t=>
   rw[vf] at h;split at h
   ·rename_i q c;cases h;exact(ve F t [] _ c).1.trans (dN _ _)
   grind
 ok {u F a r' d} v hu h Z:=by
  cases u with
  |nil=>cases h;grind
  |cons b t=>
   rw[vf] at h;simp only[ib];rw[vf];split at h
   ·rename_i q c;cases h;rw[(ve F t v _ c).2 hu.tail]
   grind
 bad {u F r'} v _ h:=by
  cases u with
  |nil=>cases h
  |cons b t=>grind[vf]
 deep {u F r'} v _ h:=by
  cases u with
  |nil=>cases h
  |cons b t=>grind[vf]
 nil F:= .inr ⟨(),rfl⟩
theorem na.nl:na jw:=by
 intro r F a r' d Z e;cases r with
 |nil=>grind
 |cons b t=>
  rw[vf] at e;split at e
  ·rename_i q c;cases e;have:=xD (ve F t [] _ c).1;grind
  grind
theorem iY.lines:iY (λ(some:Bool)=>N (bQ []) λt=>if t= .line then N jw λ_=>aZ (.inl true) else aZ (.inr some):Bool->ad (Bool⊕Bool)):=by
 refine iY.of (λs=>(ao.cW _).N λt=>ao.ite (ao.nl.N λ_=>ao.ret _) (ao.ret _)) (λs=>gj.cW (λt a=>gj.ite (gj.CZ na.nl λ_=>ao.ret _) (gj.inr _)) ?_) (λs=>jz.cW ?_)
 ·simp[cH,jz.inr]
 simp[cH,jz.inr]
theorem ao.lines:ao c5:=ao.rep iY.lines false
structure iu(D:ad Unit):Prop where
 ex:ao D
 lt:∀{r:H}{F:ai}{r':H}{aF:ai},gI r=true->D r F= .ok () r' aF->r'.length<r.length
theorem YE{t:H}(v:H):t.drop 1≠[]->(t++v).drop 1=t.drop 1++v:=by intro h;rw[OB];grind
theorem ao.tick:ao (jx hB [96]):=ao.to _ (λr v q h=>akI _ r v q (cS _) h) (by decide)
theorem ao.single:ao (jx gy [39]):=ao.to _ (λr v q h=>IL r v q h) (by decide)
theorem ao.part{D:ad Unit}(hD:iu D){dq:Option (ad Unit)}(k:∀q∈dq,ao q):ao (cD D dq):=by
 have d:∀(b:UInt8)(t v:H),dL (b::t)->∃(f:ad Unit)(g:H->H),ao f/\(∀F,cD D dq (b::t) F=f (g (b::t)) F)/\(∀F,cD D dq (b::t++v) F=f (g (b::t)++v) F\/g (b::t)=[]/\f=aZ ())/\g (b::t)<:+b::t:=by
  intro b t v Z;by_cases l:b=92
  ·refine⟨aZ (),λr=>(r.drop 1).drop 1,ao.ret _,λF=>by simp_all[cD,aZ],λF=>?_,(lM _ _).trans (lM _ _)⟩;by_cases av:t.drop 1=[]
   ·grind
   ·left;simp only[ib,cD,l,cU,GJ,yg];rw[YE v av];rfl
  ·by_cases s:b=96
   ·exact⟨jx hB [96],λr=>r.drop 1,ao.tick,λF=>by simp_all[cD],λF=> .inl (by simp_all[cD]),lM _ _⟩
   ·have m:=Sv v Z (by simp);simp only[ib] at m;by_cases w:gI (b::t)=true
    ·exact⟨D,id,hD.ex,λF=>by simp_all[cD],λF=> .inl (by simp_all[cD]),tn _⟩
    ·cases dq with
     |none=>exact⟨aZ (),λr=>r.drop 1,ao.ret _,λF=>by grind[cD,aZ],λF=> .inl (by grind[cD,aZ]),lM _ _⟩
     |some q=>
      by_cases x:b=39
      ·exact⟨jx gy [39],λr=>r.drop 1,ao.single,λF=>by grind[cD,gI],λF=> .inl (by grind[cD,gI]),lM _ _⟩
      ·by_cases y:b=34
       ·exact⟨q,λr=>r.drop 1,k q rfl,λF=>by grind[cD,gI],λF=> .inl (by grind[cD,gI]),lM _ _⟩
       ·exact⟨aZ (),λr=>r.drop 1,ao.ret _,λF=>by grind[cD,aZ],λF=> .inl (by grind[cD,aZ]),lM _ _⟩
 have sfx:∀(b:UInt8)(t:H)(F:ai)(r':H)(i:ai),cD D dq (b::t) F= .ok () r' i->r'<:+b::t:=by
  intro b t F r' i h;unfold cD at h;simp only at h;split at h
  ·grind[List.drop_suffix,trans,List.suffix_cons]
  ·split at h
   ·exact(ao.tick.sfx h).trans (dN _ _)
   ·split at h
    ·exact hD.ex.sfx h
    ·cases dq with
     |none=>grind
     |some q=>
      simp only at h;split at h
      ·exact(ao.single.sfx h).trans (dN _ _)
      ·split at h
       ·exact((k q rfl).sfx h).trans (dN _ _)
       grind
 constructor
 ·intro r F a r' i h;cases r with
  |nil=>cases h;simp
  |cons b t=>grind
 ·intro u F a r' i v hu h Z;cases u with
  |nil=>cases h;grind
  |cons b t=>
   obtain⟨f,g,M,U,c,e⟩:=d b t v hu;rw[U] at h;rcases c F with c|⟨j,rfl⟩
   ·rw[c];exact M.ok v (hu.sfx e) h Z
   ·rw[j] at h;cases h;grind
 ·intro u F r' v hu h;cases u with
  |nil=>cases h
  |cons b t=>
   obtain⟨f,g,M,U,c,e⟩:=d b t v hu;rw[U] at h;rcases c F with c|⟨j,rfl⟩
   ·rw[c];obtain⟨n,o,p⟩:=M.bad v (hu.sfx e) h;grind
   ·cases h
 ·intro u F r' v hu h;cases u with
  |nil=>cases h
  |cons b t=>
   obtain⟨f,g,M,U,c,e⟩:=d b t v hu;rw[U] at h;rcases c F with c|⟨j,rfl⟩
   ·rw[c];obtain⟨n,o,p⟩:=M.deep v (hu.sfx e) h;grind
   ·cases h
 ·intro F;exact .inr ⟨(),rfl⟩
theorem na.part{D:ad Unit}(hD:iu D){dq:Option (ad Unit)}(c:∀q∈dq,ao q):na (cD D dq):=by
 intro r F a r' d Z h;cases r with
 |nil=>grind
 |cons b t=>
  unfold cD at h;simp only at h;split at h
  ·grind
  ·split at h
   ·have:=xD (ao.tick.sfx h);grind
   ·split at h
    ·exact hD.lt ‹_› h
    ·cases dq with
     |none=>grind
     |some q=>
      simp only at h;split at h
      ·have:=xD (ao.single.sfx h);grind
      ·split at h
       ·have:=xD ((c q rfl).sfx h);grind
       grind
theorem iY.bytes{α:Type}{stop:H->Option (H×α)}{part:ad Unit}(az:ao part)(ax:na part)
  {f:Unit->ad (Unit⊕α)} (h0:∀F,f () [] F=cb [] [] F) (M:∀b t F,f () (b::t) F=match stop (b::t) with
   |some q=> .ok (.inr q.2) q.1 F
   |none=>N part (λ_=>aZ (.inl ())) (b::t) F)
  (Y:∀b t q,stop (b::t)=some q->q.1<:+b::t) (j:∀b t q v,dL (b::t)->stop (b::t)=some q->stop (b::t++v)=some (q.1++v,q.2)) (g:∀b t v,dL (b::t)->stop (b::t)=none->stop (b::t++v)=none):iY f:=by
 have d:ao (N part (λ_=>aZ (.inl ()):Unit->ad (Unit⊕α))):=az.N λ_=>ao.ret _;refine⟨λs=>?_,?_⟩
 ·constructor
  ·intro r F a r' i h;cases r with
   |nil=>rw[h0] at h;cases h
   |cons b t=>
    rw[M] at h;split at h
    ·grind
    ·exact d.sfx h
  ·intro u F a r' i v hu h Z;cases u with
   |nil=>rw[h0] at h;cases h
   |cons b t=>
    rw[M] at h;have e:=M b (t++v) F;simp only[ib] at e⊢;rw[e];split at h
    ·grind
    ·rename_i c;have:=g b t v hu c;simp only[ib] at this;rw[this];exact d.ok v hu h Z
  ·intro u F r' v hu h;cases u with
   |nil=>rw[h0] at h;cases h
   |cons b t=>
    rw[M] at h;have e:=M b (t++v) F;simp only[ib] at e⊢;rw[e];split at h
    ·cases h
    ·rename_i c;have:=g b t v hu c;simp only[ib] at this;rw[this];exact d.bad v hu h
  ·intro u F r' v hu h;cases u with
   |nil=>rw[h0] at h;cases h
   |cons b t=>
    rw[M] at h;have e:=M b (t++v) F;simp only[ib] at e⊢;rw[e];split at h
    ·cases h
    ·rename_i c;have:=g b t v hu c;simp only[ib] at this;rw[this];exact d.deep v hu h
  ·intro F;exact .inl ⟨_,_,_,h0 F⟩
 ·intro s r F s' r' i h;cases r with
  |nil=>rw[h0] at h;cases h
  |cons b t=>
   rw[M] at h;split at h
   ·cases h
   ·exact gj.CZ ax (λ_=>ao.ret _) (by simp) h
theorem iY.AT(c:UInt8){part:ad Unit}(az:ao part)(ax:na part):iY (λ(_:Unit)(r:H)(F:ai)=>(match r with
 |[]=>cb [] r F
 |b::t=>if b=c then .ok (.inr ()) t F else(N part λ_=>aZ (.inl ())) r F:dD (Unit⊕Unit))):=by
 refine iY.bytes (stop:=λr=>match r with|[]=>none|b::t=>if b=c then some (t,()) else none) az ax (λ_=>rfl) (λb t F=>?_) ?_ ?_ ?_
 ·grind
 ·simp
 ·simp
 simp
theorem ao.AT(c:UInt8){part:ad Unit}(az:ao part)(ax:na part):ao (jy c part):=ao.rep (iY.AT c az ax) ()
theorem ao.double{D:ad Unit}(hD:iu D):ao (eJ D):=((ao.AT 34 (ao.part hD (by simp)) (na.part hD (by simp))).aI _).named _
theorem ao.zf{D:ad Unit}(hD:iu D):ao (cD D (some (eJ D))):=ao.part hD λq a=>by grind[ao.double]
theorem na.zf{D:ad Unit}(hD:iu D):na (cD D (some (eJ D))):=na.part hD λq a=>by grind[ao.double]
theorem ao.param{D:ad Unit}(hD:iu D):ao (qG D):=(ao.AT 125 (ao.zf hD) (na.zf hD)).aI _
theorem iY.word{D:ad Unit}(hD:iu D):iY (λ(_:Unit)(r:H)(F:ai)=>(match r with
 |[]=>cb [] r F
 |_::_=>if c4 r then .ok (.inr ()) r F else(N (cD D (some (eJ D))) λ_=>aZ (.inl ())) r F:dD (Unit⊕Unit))):=by
 refine iY.bytes (stop:=λr=>if c4 r then some (r,()) else none) (ao.zf hD) (na.zf hD) (λ_=>rfl) (λb t F=>?_) ?_ ?_ ?_
 ·grind
 ·simp
 ·intro b t q v Z h;split at h
  ·rename_i a;cases h;rw[IK v Z (by simp),bh a]
  grind
 ·intro b t v Z h;split at h
  ·cases h
  ·rename_i a;rw[IK v Z (by simp),aO a]
theorem ao.word{D:ad Unit}(hD:iu D):ao (cO D):=ao.rep (iY.word hD) ()
theorem wu{D:ad Unit}(hD:iu D){r:H}{F:ai}{r':H}{a:ai}(Z:r≠[])(c:c4 r=false)(h:cO D r F= .ok () r' a):r'.length<r.length:=by
 unfold cO at h;rw[qL] at h;cases r with
 |nil=>grind
 |cons b t=>
  simp only[c,fo,cH] at h;split at h
  ·rename_i s1 ae f M;have d:=gj.CZ (na.zf hD) (λ_=>ao.ret _) (by simp) M;rw[bh d] at h;have:=xD ((ao.word hD).sfx h);omega
  ·rename_i M;obtain⟨_,_,_,U,e⟩:=b7 M;cases e
  all_goals cases h
theorem IN{b:UInt8}{t:H}:(∃w p,an (b::t)= .word w p)->fL b=false->c4 (b::t)=false:=by grind[an,c4]
theorem YF:∀(n:Nat)(r:H),r.length<=n->∀b t,bn r=some (b::t)->fL b=false:=by
 intro n;induction n with
 |zero=>simp[nQ,mg]
 |succ n a=>
  intro r av b t h;cases r with
  |nil=>grind
  |cons c u=>grind[List.length_cons,nK,AR]
theorem gj.MG{σ α:Type}{D:ad Unit}(hD:iu D){x:H}{k:Tok->ad (σ⊕α)}(h:∀t,t≠ .eof->(∀w p,t≠ .word w p)->gj (k t))(h0:jz (k .eof))
  (f:∀w p,∃(m:ad Unit)(k':Unit->ad (σ⊕α)),k (.word w p)=N m k'/\(∀{r F r' c},m r F= .ok () r' c↔cO D r F= .ok () r' c)/\∀u,ao (k' u)):gj (N (bQ x) k):=by
 intro r F s r' c Z e;obtain⟨t,ae,n,M,U⟩:=b7 e;obtain⟨d,rfl,rfl⟩:=nM M;have ax:=xD (ef d);cases ae with
 |nil=>exact absurd U h0
 |cons b u=>
  by_cases a:∃w p,an (b::u)= .word w p
  ·have g:=IN a (YF _ _ (cS _) _ _ d);obtain⟨w,p,a⟩:=a;rw[a] at U;obtain⟨m,k',aw,hm,i⟩:=f w p;rw[aw] at U;obtain⟨_,o,q,j,l⟩:=b7 U;have:=wu hD (by simp) g (hm.1 j);have:=xD ((i ()).sfx l);omega
  ·have:=h (an (b::u)) (λhe=>by grind[lX]) (λw p he=>a ⟨w,p,he⟩) (by simp) U;omega
theorem akJ{r:H}(v:H){p:UInt8->Bool}(az:p 10=false):dL r->r≠[]->r.dropWhile p≠[]/\(r++v).dropWhile p=r.dropWhile p++v:=by
 induction r with
 |nil=>simp
 |cons b t a=>
  intro Z _;simp only[ib,adC];cases d:p b with
  |false=>simp
  |true=>
   have c:b≠10:=by grind
   simpa using a Z.tail (Z.ne c)
theorem C1{r:H}{p:UInt8->Bool}:r.dropWhile p<:+r:=List.dropWhile_suffix _
theorem Sy{r:H}:(bu r).length<=r.length:=by
 unfold bu;cases h:kG.find? (λo=>o.isPrefixOf r) with
 |none=>simp
 |some o=>grind
theorem Sz{r:H}:bu r<+:r:=by
 unfold bu;cases h:kG.find? (λo=>o.isPrefixOf r) with
 |none=>simp
 |some o=>grind
theorem ao.YG:ao fX where
 sfx {r F a r' c} h:=by
  unfold fX at h;split at h
  ·cases h
  ·rename_i q b;simp only at h;split at h
   ·cases h;exact((lM _ _).trans C1).trans (ef b)
   grind[ef]
 ok {u F a r' c} v hu h Z:=by
  unfold fX at h⊢;split at h
  ·cases h
  ·rename_i q b;simp only at h;by_cases av:u=[]
   ·simp_all[mg,bu,kG,fg,absurd]
   ·obtain⟨d,e⟩:=tV v b hu av;obtain⟨f,g⟩:=akJ v (p:=cf) (by decide) (hu.sfx (ef b)) d;have i:=Su v ((hu.sfx (ef b)).sfx C1) f;rw[e];simp only[g,i];split at h
    ·simp_all[bh,OB,Sy]
    grind
 bad v _ h:=by
  unfold fX at h;split at h
  ·cases h
  grind
 deep v _ h:=by
  unfold fX at h;split at h
  ·cases h
  grind
 nil F:=by simp[fX,mg,bu,kG,fg]
theorem MH(b:UInt8)(t:H):eQ (b::t)=(if b=34 then .closed [] t else if b=36\/b=96 then .part else
  if b=92 then match t with
   |[]=> .part
   |c::u=>(eQ u).add (AS c)
  else(eQ t).add [b]):=by
 grind[eQ.eq_def]
def wv:jL->Prop
 | .closed o _=>(10:UInt8)∈o
 | .part=>True
 | .open_ o=>(10:UInt8)∈o
theorem wv.add{x:H}{q:jL}(h:wv q):wv (q.add x):=by cases q<;>simp_all [wv,jL.add]
theorem wv.SA{x:H}{q:jL}(h:(10:UInt8)∈x):wv (q.add x):=by cases q<;>simp_all [wv,jL.add]
theorem YH:∀(n:Nat)(r v:H),r.length<=n->dL r->r≠[]->
  (∀o q,eQ r= .closed o q->q<:+r/\eQ (r++v)= .closed o (q++v))/\(eQ r= .part->eQ (r++v)= .part)/\(∀o,eQ r= .open_ o->10∈o->wv (eQ (r++v))):=by
 intro n;induction n with
 |zero=>grind
 |succ n j=>
  intro r v av Z bc;cases r with
  |nil=>grind
  |cons b t=>
   simp only[nn] at av;simp;rw[MH,MH];by_cases m:b=34
   ·simp_all
   by_cases az:b=36\/b=96
   ·grind
   by_cases k:b=92
   ·subst k;cases t with
    |nil=>exact absurd Z.head (by decide)
    |cons c u=>
     simp;by_cases hu:u=[]
     ·grind[eQ,jL.add,AS]
     ·obtain⟨d,f,i⟩:=j u v (by grind) Z.tail.tail hu;refine⟨?_,?_,?_⟩
      ·intro o q e;cases a:eQ u<;>rw[a] at e<;>simp[jL.add] at e;obtain⟨rfl,rfl⟩:=e;obtain⟨g,h⟩:=d _ _ a;exact⟨g.trans ((dN _ _).trans (dN _ _)),by rw[h];rfl⟩
      ·intro e;cases a:eQ u<;>rw[a] at e<;>simp[jL.add] at e;rw[f a];rfl
      ·intro o e he;cases a:eQ u<;>rw[a] at e<;>simp[jL.add] at e;subst e;rcases tl.1 he with he|he
       ·grind[wv.SA]
       ·exact(i _ a he).add
   ·simp only[m,az,k];by_cases l:b=10
    ·subst l;by_cases p:t=[]
     ·grind[eQ,jL.add,wv.SA]
     ·obtain⟨d,f,i⟩:=j t v (by omega) Z.tail p;refine⟨?_,?_,?_⟩
      ·intro o q e;cases a:eQ t<;>rw[a] at e<;>simp[jL.add] at e;obtain⟨rfl,rfl⟩:=e;obtain⟨g,h⟩:=d _ _ a;exact⟨g.trans (dN _ _),by rw[h];rfl⟩
      ·intro e;cases a:eQ t<;>rw[a] at e<;>simp[jL.add] at e;rw[f a];rfl
      simp[wv.SA]
    ·obtain⟨d,f,i⟩:=j t v (by omega) Z.tail (Z.ne l);refine⟨?_,?_,?_⟩
     ·intro o q e;cases a:eQ t<;>rw[a] at e<;>simp[jL.add] at e;obtain⟨rfl,rfl⟩:=e;obtain⟨g,h⟩:=d _ _ a;exact⟨g.trans (dN _ _),by rw[h];rfl⟩
     ·intro e;cases a:eQ t<;>rw[a] at e<;>simp[jL.add] at e;rw[f a];rfl
     ·intro o e he;cases a:eQ t<;>rw[a] at e<;>simp[jL.add] at e;subst e;rcases kM.1 he with he|he
      ·grind
      ·exact(i _ a he).add
theorem zg(b:UInt8)(t:H):dr (b::t)=(if c4 (b::t) then some ([],b::t,[]) else
  if b=92 then match t with
   |[]=>none
   |c::u=>(dr u).map λq=>((if c=10 then [] else [c])++q.1,q.2)
  else if b=39 then match gy t with
   |none=>none
   |some r=>(dr r).map λq=>(t.take (t.length-r.length-1)++q.1,q.2)
  else if b=36\/b=96 then none else
  if b=34 then match eQ t with
   | .part=>none
   | .open_ o=>some (o,[],[34])
   | .closed o r=>(dr r).map λq=>(o++q.1,q.2)
  else(dr t).map λq=>(b::q.1,q.2)):=by
 grind[dr.eq_def]
def sZ(x:Option (H×H×H)):Prop:=x=none\/∃d q c,x=some (d,q,c)/\(10:UInt8)∈d
theorem sZ.map{x:Option (H×H×H)}{f:H->H}(h:sZ x)(hf:∀d,(10:UInt8)∈d->(10:UInt8)∈f d):sZ (x.map λq=>(f q.1,q.2)):=by
 rcases h with rfl|⟨d,q,c,rfl,aD⟩
 ·exact .inl rfl
 ·exact .inr ⟨_,_,_,rfl,hf d aD⟩
theorem sZ.MI{x:Option (H×H×H)}{f:H->H}(hf:∀d,(10:UInt8)∈f d):sZ (x.map λq=>(f q.1,q.2)):=by
 cases x with
 |none=>exact .inl rfl
 |some q=>exact .inr ⟨_,_,_,rfl,hf _⟩
theorem akK:∀{t:H}(v q:H),gy t=none->gy (t++v)=some q->(t++v).take ((t++v).length-q.length-1)=t++(v.take (v.length-q.length-1)):=by
 intro t;induction t with
 |nil=>simp
 |cons b t c=>
  intro v q M U;rw[gy] at M;simp only[ib] at U⊢;rw[gy] at U;split at M
  ·cases M
  ·rename_i a;rw[aO a] at U;have ax:=ze _ _ U;have e:(b::(t++v)).length-q.length-1=((t++v).length-q.length-1)+1:=by grind
   grind
theorem YI{t:H}(h:dL t)(av:t≠[]):(10:UInt8)∈t:=by
 rcases h with h|⟨s,rfl⟩
 ·grind
 ·simp
theorem YJ{t q v:H}(h:q<:+t):(t++v).take ((t++v).length- (q++v).length-1)=t.take (t.length-q.length-1):=by grind
theorem YK:∀(n:Nat)(r v:H),r.length<=n->dL r->r≠[]->
  (dr r=none->sZ (dr (r++v)))/\(∀d q c,dr r=some (d,q,c)->q<:+r/\(10∈d->sZ (dr (r++v)))/\(c=[]->q≠[]->dr (r++v)=some (d,q++v,[]))):=by
 intro n;induction n with
 |zero=>grind
 |succ n y=>
  intro r v av Z bc;cases r with
  |nil=>grind
  |cons b t=>
   simp only[nn] at av;have k:=IK v Z bc;simp only[ib] at k⊢;rw[zg,zg,k];have step:∀(u:H)(f:H->H),u<:+t->u.length<=n->(∀d,10∈d->10∈f d)->(∀d,10∈f d->10∈d\/∀d,10∈f d)->
     ((dr u).map (λq=>(f q.1,q.2))=none->sZ ((dr (u++v)).map λq=>(f q.1,q.2)))/\
     (∀d q c,(dr u).map (λq=>(f q.1,q.2))=some (d,q,c)->q<:+b::t/\(10∈d->sZ ((dr (u++v)).map λq=>(f q.1,q.2)))/\(c=[]->q≠[]->(dr (u++v)).map (λq=>(f q.1,q.2))=some (d,q++v,[]))):=by
    intro u f hu e l m;by_cases p:u=[]
    ·subst p;have e0:dr []=some ([],[],[]):=by rw[dr]
     rw[e0];refine⟨λh=>by grind,λd q c h=>?_⟩;obtain⟨rfl,rfl,rfl⟩:=h;refine⟨n_,λaD=>?_,λ_ a=>absurd rfl a⟩;rcases m _ aD with h|h
     ·cases h
     ·exact sZ.MI h
    ·obtain⟨z,A⟩:=y u v e (Z.tail.sfx hu) p;refine⟨λh=>?_,λd q c h=>?_⟩
     ·simp only[Option.map_eq_none_iff] at h;exact(z h).map l
     ·simp only[w5] at h;obtain⟨⟨J,K,L⟩,M,rfl,rfl,rfl⟩:=h;obtain⟨B,C,N⟩:=A _ _ _ M;refine⟨B.trans (hu.trans (dN _ _)),λaD=>?_,λay a=>?_⟩
      ·rcases m _ aD with h|h
       ·exact(C h).map l
       ·exact sZ.MI h
      grind
   by_cases g:c4 (b::t)=true
   ·simp only[g];grind
   by_cases i:b=92
   ·subst i;cases t with
    |nil=>exact absurd Z.head (by decide)
    |cons c u=>
     refine step u _ (dN _ _) (by grind) ?_ ?_
     ·grind
     grind
   have D:=Z.ne (by rintro rfl;grind[Fm]);by_cases j:b=39
   ·subst j;cases Y:gy t with
    |none=>
     refine⟨λ_=>?_,λd q c h=>by grind⟩;cases E:gy _ with
     |none=>exact .inl rfl
     |some q=>simp only;rw[akK v q Y E];exact sZ.MI λd=>by grind[YI]
    |some q=>obtain⟨s1,s2⟩:=IL t v q Y;rw[s2];simp only;rw[YJ s1];refine step q _ s1 (by grind) (λd aD=>by grind) (λd aD=>?_);grind
   by_cases az:b=36\/b=96
   ·simp only[g,i,j,az,cH];exact⟨λ_=> .inl rfl,λd q c h=>by grind⟩
   by_cases s:b=34
   ·subst s;obtain⟨F,G,I⟩:=YH t.length t v (cS _) Z.tail D;cases a:eQ t with
    |part=>rw[G a];exact⟨λ_=> .inl rfl,λd q c h=>by grind⟩
    |open_ o=>
     refine⟨λh=>by grind,λd q c h=>?_⟩;obtain⟨rfl,rfl,rfl⟩:=h;refine⟨n_,λaD=>?_,λh=>by simp⟩;have:=I o a aD;cases w:eQ _ with
     |part=>exact .inl rfl
     |open_ x=>rw[w] at this;exact .inr ⟨_,_,_,rfl,this⟩
     |closed x O=>rw[w] at this;exact sZ.MI λd=>by simp[show 10∈x from this]
    |closed o q=>obtain⟨s1,s2⟩:=F o q a;rw[s2];refine step q _ s1 (by grind) (λd aD=>by grind) (λd aD=>?_);grind
   simp only[g,i,j,az,s,cH];refine step t _ (tn _) (by omega) (λd aD=>by grind) (λd aD=>?_);grind
theorem SB:∀(n:Nat)(r o q:H),r.length<=n->eQ r= .closed o q->q<:+r:=by
 intro n;induction n with
 |zero=>grind[List.length_eq_zero_iff,eQ]
 |succ n a=>
  intro r o q av h;cases r with
  |nil=>grind
  |cons b t=>grind[List.length_cons,MH,List.suffix_cons,jL.Sr,trans]
theorem MJ:∀(n:Nat)(r:H)(x:H×H×H),r.length<=n->dr r=some x->x.2.1<:+r:=by
 intro n;induction n with
 |zero=>grind[List.length_eq_zero_iff,dr,List.suffix_refl]
 |succ n a=>
  intro r x av h;cases r with
  |nil=>grind
  |cons b t=>
   have go:∀(u:H)(f:H->H),u<:+t->(dr u).map (λq=>(f q.1,q.2))=some x->x.2.1<:+b::t:=by intro u f hu h;simp only[w5] at h;grind
   rw[zg] at h;split at h
   ·grind
   ·split at h
    ·split at h
     ·cases h
     ·rename_i c u _;exact go u _ (dN _ _) h
    ·split at h
     ·split at h
      ·cases h
      ·rename_i ae M;exact go ae _ (IL t [] _ M).1 h
     ·split at h
      ·cases h
      ·split at h
       ·split at h
        ·cases h
        ·grind
        ·rename_i o ae M;exact go ae _ (SB _ _ _ _ (cS _) M) h
       ·exact go t _ (tn _) h
def IQ(o:H):jL->Prop
 | .closed a _=>o<+:a
 | .part=>True
 | .open_ a=>o<+:a
theorem IQ.add{x o:H}{q:jL}(h:IQ o q):IQ (x++o) (q.add x):=by
 cases q with
 |part=>trivial
 |closed a r=>exact(List.prefix_append_right_inj _).2 h
 |open_ a=>exact(List.prefix_append_right_inj _).2 h
theorem akL:∀(n:Nat)(r v o:H),r.length<=n->dL r->eQ r= .open_ o->IQ o (eQ (r++v)):=by
 intro n;induction n with
 |zero=>intro r v o av _ h;have:r=[]:=nQ.1 (by omega);subst this;simp[eQ] at h;subst h;cases eQ _<;>simp[IQ]
 |succ n e=>
  intro r v o av ax h;cases r with
  |nil=>grind
  |cons b t=>
   simp only[nn] at av;simp;rw[MH] at h⊢;split at h
   ·cases h
   ·rename_i f;split at h
    ·cases h
    ·rename_i az;rw[aO f,aO az];split at h
     ·rename_i d;rw[bh d];cases t with
      |nil=>cases h
      |cons c u=>simp only[ib] at h⊢;cases a:eQ u<;>rw[a] at h<;>simp[jL.add] at h;subst h;exact(e u v _ (by grind) ax.tail.tail a).add
     ·rename_i d;rw[aO d];cases a:eQ t<;>rw[a] at h<;>simp[jL.add] at h;subst h;exact(e t v _ (by omega) ax.tail a).add
def IS(d:H)(x:Option (H×H×H)):Prop:=∀y,x=some y->d<+:y.1
theorem IS.map{d:H}{x:Option (H×H×H)}(p:H)(h:IS d x):IS (p++d) (x.map λq=>(p++q.1,q.2)):=by intro y a;simp only[w5] at a;obtain⟨z,b,rfl⟩:=a;exact(List.prefix_append_right_inj _).2 (h z b)
theorem akM:∀(n:Nat)(r v:H)(x:H×H×H),r.length<=n->dL r->dr r=some x->IS x.1 (dr (r++v)):=by
 intro n;induction n with
 |zero=>intro r v x av _ h;have:r=[]:=nQ.1 (by omega);subst this;simp[dr] at h;subst h;intro y _;simp
 |succ n k=>
  intro r v x av Z h;cases r with
  |nil=>grind
  |cons b t=>
   have i:=IK v Z (by simp);simp only[ib] at i⊢
   have go:∀(u p:H),u<:+t->(dr u).map (λq=>(p++q.1,q.2))=some x->IS x.1 ((dr (u++v)).map λq=>(p++q.1,q.2)):=by intro u p hu h;simp only[w5] at h;obtain⟨y,M,rfl⟩:=h;exact(k u v y (by grind) (Z.tail.sfx hu) M).map p
   rw[zg] at h⊢;rw[i];split at h
   ·cases h;intro y _;simp
   ·rename_i l;rw[aO l];have m:=Z.ne (by rintro rfl;grind[Fm]);split at h
    ·rename_i e;rw[bh e];cases t with
     |nil=>cases h
     |cons c u=>exact go u _ (dN _ _) h
    ·rename_i e;rw[aO e];split at h
     ·rename_i f;rw[bh f];cases Y:gy t with
      |none=>grind
      |some q=>rw[Y] at h;obtain⟨s1,s2⟩:=IL t v q Y;rw[s2];simp only at h⊢;rw[YJ s1];exact go q _ s1 h
     ·rename_i f;rw[aO f];split at h
      ·cases h
      ·rename_i az;rw[aO az];split at h
       ·rename_i g;rw[bh g];obtain⟨s,A,B⟩:=YH t.length t v (cS _) Z.tail m;cases d:eQ t with
        |part=>grind
        |open_ o=>
         rw[d] at h;simp only[fc] at h;subst h;have:=akL t.length t v o (cS _) Z.tail d;cases j:eQ _ with
         |part=>intro y a;cases a
         |open_ w=>rw[j] at this;intro y a;cases a;exact this
         |closed w C=>rw[j] at this;intro y a;simp only[w5] at a;obtain⟨z,D,rfl⟩:=a;exact List.IsPrefix.trans this (List.prefix_append _ _)
        |closed o q=>rw[d] at h;obtain⟨s1,s2⟩:=s o q d;rw[s2];exact go q o s1 h
       ·rename_i g;rw[aO g];exact go t [b] (tn _) h
def wx(tabs:Bool)(r':H)(F:ai):dD Unit:=match dr r' with
 |none=> .bad r'
 |some (d,q,a)=>if d.contains 10 then .bad r' else
  if tabs/\d.head?=some 9 then .bad r' else
  if a≠[] then .more [a] a (F++[(d,tabs)]) else
  if q=[] then .more [] [] (F++[(d,tabs)]) else .ok () q (F++[(d,tabs)])
theorem YN{tabs:Bool}{r':H}{F:ai}(h:sZ (dr r')):wx tabs r' F= .bad r':=by
 unfold wx;rcases h with h|⟨d,q,c,h,aD⟩
 ·rw[h]
 grind
theorem C2(tabs:Bool)(r:H)(F:ai):gS tabs r F=match bn r with
 |none=> .more [] [120] (F++[([120],tabs)])
 |some r'=>match an r' with
  | .eof=> .more [] [120] (F++[([120],tabs)])
  | .word _ _=>wx tabs r' F
  |_=> .bad r':=rfl
theorem ao.qO(tabs:Bool):ao (gS tabs) where
 sfx {r F a r' k} h:=by
  rw[C2] at h;split at h
  ·cases h
  ·rename_i q b;split at h
   ·cases h
   ·unfold wx at h;split at h
    ·cases h
    ·rename_i d f c aD;split at h
     ·cases h
     ·split at h
      ·cases h
      ·split at h
       ·cases h
       ·split at h
        ·cases h
        ·cases h;exact(MJ _ _ _ (cS _) aD).trans (ef b)
   grind
 ok {u F a r' k} v hu h Z:=by
  rw[C2] at h;split at h
  ·cases h
  ·rename_i q b;have av:u≠[]:=by grind[mg,an]
   obtain⟨e,f⟩:=tV v b hu av;have g:=hu.sfx (ef b);have i:gS tabs (u++v) F=(match an q with
    | .eof=> .more [] [120] (F++[([120],tabs)])
    | .word _ _=>wx tabs (q++v) F
    |_=> .bad (q++v)):=by grind[C2,Fo]
   rw[i];split at h
   ·cases h
   ·unfold wx at h⊢;split at h
    ·cases h
    ·rename_i d f c aD;split at h
     ·cases h
     ·split at h
      ·cases h
      ·split at h
       ·cases h
       ·split at h
        ·cases h
        ·cases h;have j:c=[]:=by grind
         rw[((YK _ q v (cS _) g e).2 d _ c aD).2.2 j Z];simp_all
   grind
 bad {u F r'} v hu h:=by
  rw[C2] at h;split at h
  ·cases h
  ·rename_i q b;have av:u≠[]:=by grind[mg,an]
   obtain⟨e,f⟩:=tV v b hu av;have g:=hu.sfx (ef b);have i:gS tabs (u++v) F=(match an q with
    | .eof=> .more [] [120] (F++[([120],tabs)])
    | .word _ _=>wx tabs (q++v) F
    |_=> .bad (q++v)):=by grind[C2,Fo]
   rw[i];obtain⟨o,aj⟩:=YK _ q v (cS _) g e;split at h
   ·cases h
   ·unfold wx at h;split at h
    ·grind[ef,YN]
    ·rename_i d f c aD;split at h
     ·grind[ef,YN]
     ·split at h
      ·cases h;refine⟨e,ef b,?_⟩;have az:=akM _ r' v _ (cS _) g aD;unfold wx;cases l:dr _ with
       |none=>rfl
       |some y=>
        obtain⟨m,p,s⟩:=y;have n:=az _ l;split
        ·rfl
        ·have t:m.head?=some 9:=by obtain⟨z,rfl⟩:=n;grind
         grind
      grind
   ·cases h;exact⟨e,ef b,rfl⟩
 deep {u F r'} v _ h:=by rw[C2] at h;grind[wx]
 nil F:=by unfold gS;rw[mg];exact .inl ⟨_,_,_,rfl⟩
structure ej{α:Type}(f:ad α):Prop where
 sfx:∀{r:H}{F:ai}{a:α}{r':H}{aF:ai},f r F= .ok a r' aF->r'<:+r
 ok:∀{u:H}{F:ai}{a:α}{r':H}{aF:ai}(v:H),dL u->f u F= .ok a r' aF->r'≠[]->f (u++v) F= .ok a (r'++v) aF
 bad:∀{u:H}{F:ai}{r':H}(v:H),dL u->u≠[]->f u F= .bad r'->r'≠[]/\r'<:+u/\f (u++v) F= .bad (r'++v)
 deep:∀{u:H}{F:ai}{r':H}(v:H),dL u->u≠[]->f u F= .deep r'->r'≠[]/\r'<:+u/\f (u++v) F= .deep (r'++v)
theorem ao.n{α:Type}{f:ad α}(h:ao f):ej f:=⟨h.sfx,h.ok,λv hu _=>h.bad v hu,λv hu _=>h.deep v hu⟩
theorem ej.bE{α:Type}:ej (bE:ad α):=⟨λh=>(by cases h),λv _ h=>(by cases h),λv _ av h=>(by cases h;exact⟨av,tn _,rfl⟩),λv _ _ h=>(by cases h)⟩
theorem ej.tS{α:Type}:ej (tS:ad α):=⟨λh=>(by cases h),λv _ h=>(by cases h),λv _ _ h=>(by cases h),λv _ av h=>(by cases h;exact⟨av,tn _,rfl⟩)⟩
theorem ej.ite{α:Type}{c:Prop}[Decidable c]{f g:ad α}(hf:ej f)(bt:ej g):ej (if c then f else g):=by grind
theorem ej.N{α β:Type}{m:ad α}{k:α->ad β}(hm:ej m)(aw:∀a,ao (k a)):ej (Go.Eng.N m k):=by
 constructor
 ·intro r F b r' j h;obtain⟨a,ae,c,M,U⟩:=b7 h;exact((aw a).sfx U).trans (hm.sfx M)
 ·intro u F b r' j v hu h Z;obtain⟨a,ae,c,M,U⟩:=b7 h;by_cases e:ae=[]
  ·subst e;rcases(aw a).nil c with⟨op,nd,ds,l⟩|⟨i,l⟩
   ·grind
   grind
  ·rw[aT (hm.ok v hu M e)];exact(aw a).ok v (hu.sfx (hm.sfx M)) U Z
 ·intro u F r' v hu av h;unfold Go.Eng.N at h⊢;split at h
  ·rename_i a ae c M;by_cases e:ae=[]
   ·subst e;rcases(aw a).nil c with⟨op,nd,ds,U⟩|⟨i,U⟩<;>(grind)
   ·rw[hm.ok v hu M e];obtain⟨d,f,g⟩:=(aw a).bad v (hu.sfx (hm.sfx M)) h;exact⟨d,f.trans (hm.sfx M),g⟩
  ·cases h
  ·rename_i ae M;cases h;obtain⟨d,f,g⟩:=hm.bad v hu av M;grind
  grind
 ·intro u F r' v hu av h;unfold Go.Eng.N at h⊢;split at h
  ·rename_i a ae c M;by_cases e:ae=[]
   ·subst e;rcases(aw a).nil c with⟨op,nd,ds,U⟩|⟨i,U⟩<;>(grind)
   ·rw[hm.ok v hu M e];obtain⟨d,f,g⟩:=(aw a).deep v (hu.sfx (hm.sfx M)) h;exact⟨d,f.trans (hm.sfx M),g⟩
  ·cases h
  ·cases h
  ·rename_i ae M;cases h;obtain⟨d,f,g⟩:=hm.deep v hu av M;grind
theorem ao.gb{α:Type}{x:H}{k:Tok->ad α}(h:∀t,t≠ .eof->ej (k t))(h0:ao (k .eof)):ao (Go.Eng.N (bQ x) k):=by
 have az:=ao.cW x
 have c:∀{u:H}{F:ai}(v:H),dL u->u≠[]->∀ae,bn u=some ae->ae≠[]/\an ae≠ .eof/\Go.Eng.N (bQ x) k u F=k (an ae) ae F/\Go.Eng.N (bQ x) k (u++v) F=k (an ae) (ae++v) F:=by
  intro u F v hu av ae Y;obtain⟨d,g⟩:=tV v Y hu av;refine⟨d,λh=>d (lX.1 h),?_,?_⟩
  ·exact aT (by grind[bQ])
  ·have:bQ x (u++v) F= .ok (an ae) (ae++v) F:=by unfold bQ;rw[g];simp only[Fo v (hu.sfx (ef Y)) d]
   grind[aT]
 constructor
 ·intro r F a r' n e;obtain⟨t,ae,f,M,U⟩:=b7 e;obtain⟨b,rfl,rfl⟩:=nM M;by_cases l:an ae= .eof
  ·rw[l] at U;exact(h0.sfx U).trans (ef b)
  ·exact((h _ l).sfx U).trans (ef b)
 ·intro u F a r' n v hu e Z;obtain⟨t,ae,f,M,U⟩:=b7 e;obtain⟨b,rfl,rfl⟩:=nM M;by_cases av:u=[]
  ·subst av;rw[mg] at b;cases b;have:=h0.sfx U;grind
  ·obtain⟨d,g,m,i⟩:=c (F:=f) v hu av ae b;rw[i];exact(h _ g).ok v (hu.sfx (ef b)) U Z
 ·intro u F r' v hu e;unfold Go.Eng.N at e;split at e
  ·rename_i t ae f M;obtain⟨b,rfl,rfl⟩:=nM M;by_cases av:u=[]
   ·subst av;rw[mg] at b;cases b;rcases h0.nil f with⟨_,_,_,h⟩|⟨_,h⟩<;>(rw[show an []= .eof from rfl,h] at e;cases e)
   ·obtain⟨d,g,m,i⟩:=c (F:=f) v hu av ae b;rw[i];obtain⟨j,aj,a3⟩:=(h _ g).bad v (hu.sfx (ef b)) d e;exact⟨j,aj.trans (ef b),a3⟩
  ·cases e
  ·rename_i M;exact absurd M (by unfold bQ;split<;>(intro h;cases h))
  grind
 ·intro u F r' v hu e;unfold Go.Eng.N at e;split at e
  ·rename_i t ae f M;obtain⟨b,rfl,rfl⟩:=nM M;by_cases av:u=[]
   ·subst av;rw[mg] at b;cases b;rcases h0.nil f with⟨_,_,_,h⟩|⟨_,h⟩<;>(rw[show an []= .eof from rfl,h] at e;cases e)
   ·obtain⟨d,g,m,i⟩:=c (F:=f) v hu av ae b;rw[i];obtain⟨j,aj,a3⟩:=(h _ g).deep v (hu.sfx (ef b)) d e;exact⟨j,aj.trans (ef b),a3⟩
  ·cases e
  ·cases e
  ·rename_i M;exact absurd M (by unfold bQ;split<;>(intro h;cases h))
 ·intro F;have:Go.Eng.N (bQ x) k [] F=k .eof [] F:=aT (by unfold bQ;rw[mg];rfl);rw[this];exact h0.nil F
theorem ao.Fq{D:ad Unit}(hD:iu D)(x:H):ao (jK D x):=by
 refine ao.gb (λt a=>?_) (ao.cb x);cases t with
 |word w p=>grind[ao.word,ao.n]
 |eof=>grind
 |_=>exact ej.bE
theorem ao.iB{D:ad Unit}(hD:iu D):ao (dI D):=by
 refine ao.YG.N λo=>?_;cases o with
 |none=>simp[ao.ret]
 |some o=>exact(ao.ite (ao.qO _) (ao.ite (ao.qO _) (ao.Fq hD _))).N λ_=>ao.ret _
theorem akO{o:H}(h:fg o=true):o.length≠0:=by intro h0;simp_all[nQ,fg]
theorem s0{D:ad Unit}(hD:iu D){r:H}{F:ai}{r':H}{a:ai}(h:dI D r F= .ok true r' a):r'.length<r.length:=by
 obtain⟨o,ae,e,M,U⟩:=b7 h;cases o with
 |none=>cases U
 |some o=>
  obtain⟨_,f,g,b,c⟩:=b7 U;cases c;have i:r'.length<=ae.length:=by have vg:ao (if o=[60,60] then gS false else if o=[60,60,45] then gS true else jK D [120]):=ao.ite (ao.qO _) (ao.ite (ao.qO _) (ao.Fq hD _));exact(vg.sfx b).length_le
  unfold fX at M;split at M
  ·cases M
  ·rename_i q d;simp only at M;split at M
   ·rename_i Z;cases M;have j:=(ef d).length_le;have aj:(q.dropWhile cf).length<=q.length:=C1.length_le;grind[akO,Sy,cf,List.length_drop]
   grind
theorem ao.lY{D:ad Unit}(hD:iu D):ao (g0 D):=by
 refine ao.rep ⟨λ_=>(ao.iB hD).N λb=>ao.ret _,λ{s r F s' r' a} h=>?_⟩ ();obtain⟨b,ae,c,M,U⟩:=b7 h;cases b with
 |true=>cases U;exact s0 hD M
 |false=>cases U
theorem ao.simple{D:ad Unit}(hD:iu D)(fr:Bool):ao (ho fr D):=by
 have he:ao (Go.Eng.N (bQ []) λt=>match t with
  | .word _ _=>Go.Eng.N (cO D) λ_=>aZ (.inl ())
  | .op o=>if fr/\o=[40] then bE else aZ (.inr ())
  |_=>aZ (.inr ()):ad (Unit⊕Unit)):=by
  refine ao.gb (λt a=>?_) (ao.ret _);cases t with
  |word w p=>grind[ao.word,ao.N,ao.ret,ao.n]
  |op o=>simp[ej.ite,ej.bE,ao.ret,ao.n]
  |_=>simp[ao.ret,ao.n]
 have ax:gj (Go.Eng.N (bQ []) λt=>match t with
  | .word _ _=>Go.Eng.N (cO D) λ_=>aZ (.inl ())
  | .op o=>if fr/\o=[40] then bE else aZ (.inr ())
  |_=>aZ (.inr ()):ad (Unit⊕Unit)):=by
  refine gj.MG hD (λt a c=>?_) (jz.inr _) (λw p=>⟨cO D,_,rfl,Iff.rfl,λ_=>ao.ret _⟩);cases t with
  |word w p=>grind
  |op o=>simp[gj.ite,gj.bad,gj.inr]
  |_=>simp[gj.inr]
 refine ao.rep ⟨λ_=>(ao.iB hD).N λb=>ao.ite (ao.ret _) he,λ{s r F s' r' d} h=>?_⟩ ();obtain⟨b,ae,e,M,U⟩:=b7 h;cases b with
 |true=>cases U;exact s0 hD M
 |false=>
  have f:=((ao.iB hD).sfx M).length_le;by_cases av:ae=[]
  ·subst av;simp only[fo,cH] at U;have:jz (Go.Eng.N (bQ []) λt=>match t with
    | .word _ _=>Go.Eng.N (cO D) λ_=>aZ (.inl ())
    | .op o=>if fr/\o=[40] then bE else aZ (.inr ())
    |_=>aZ (.inr ()):ad (Unit⊕Unit)):=jz.cW (jz.inr _)
   exact absurd U this
  ·simp only[fo,cH] at U;have:=ax av U;omega
structure vh(l:dK):Prop where
 ls:∀c n,ao (l.ls c n)
 pm:ao l.pm
 cp:∀t,ej (l.cp t)
 rd:ao l.rd
 dl:iu l.dl
theorem ao.exp(b:Tok->Bool)(n:Nat):ao (m9 b n):=by refine ao.gb (λt a=>?_) (by simp[cU,ao.cb]);rw[aO a];exact ej.ite (ao.cQ n).n ej.bE
theorem ao.op(o:H):ao (ji o):=ao.exp _ _
theorem ao.res(w:H):ao (cF w):=ao.exp _ _
theorem vi(d:Nat)(b:UInt8)(t:H):hR d (b::t)=(if b=39\/b=34\/b=92\/b=96\/gI (b::t) then .bad (b::t) else
  if b=40 then hR (d+1) t else
  if b=41 then match d with
   |eT+1=>hR eT t
   |0=>match t with
    |[]=> .more 1
    |c::u=>if c=41 then .ok u else .bad (b::t)
  else hR d t):=by
 rfl
theorem SC:∀(d:Nat)(r v:H),dL r->r≠[]->(∀q,hR d r= .ok q->q<:+r/\hR d (r++v)= .ok (q++v))/\(∀q,hR d r= .bad q->q≠[]/\q<:+r/\hR d (r++v)= .bad (q++v))
 |d,[],v,_,av=>absurd rfl av
 |d,b::t,v,Z,av=>by
  have f:=Sv v Z av;simp only[ib] at f⊢;rw[vi,vi,f];split
  ·simp
  ·rename_i M
   have go:∀a,(∀q,hR a t= .ok q->q<:+b::t/\hR a (t++v)= .ok (q++v))/\(∀q,hR a t= .bad q->q≠[]/\q<:+b::t/\hR a (t++v)= .bad (q++v)):=by
    intro a;by_cases g:t=[]
    ·grind[hR]
    ·obtain⟨h,i⟩:=SC a t v Z.tail g;grind
   split
   ·grind
   ·split
    ·rename_i j;cases d with
     |succ a=>grind
     |zero=>
      cases t with
      |nil=>simp
      |cons c u=>
       simp only[ib];split
       ·refine⟨λq e=>?_,λq e=>(by cases e)⟩;cases e;exact⟨(dN _ _).trans (dN _ _),rfl⟩
       simp
    grind
theorem SD{b:Tok->Bool}{n:Nat}(av:0<n){r:H}{F:ai}{r':H}{a:ai}(h:m9 b n r F= .ok () r' a):r'.length<r.length:=by
 obtain⟨t,ae,d,M,U⟩:=b7 h;obtain⟨c,rfl,rfl⟩:=nM M;have ax:=xD (ef c);split at U
 ·cases U
 ·rename_i he;have:ae≠[]:=λe=>he (lX.2 e);split at U
  ·cases U;grind[List.length_pos_iff,List.length_drop]
  ·cases U
theorem akP(t:H):bn (10::t)=some (10::t):=by simp[nK,fL]
theorem YO{t:H}{F:ai}{b:Bool}{r':H}{e:ai}(h:c5 (10::t) F= .ok b r' e):r'.length<(10::t).length:=by
 unfold c5 at h;rw[qL] at h;split at h
 ·rename_i s1 ae f M;have g:=iY.lines.lt M;rw[bh g] at h;have:=(ao.rep iY.lines s1).sfx h;grind
 ·rename_i a M;obtain⟨j,ae,f,U,c⟩:=b7 M;obtain⟨d,rfl,rfl⟩:=nM U;rw[akP] at d;cases d;simp only[an,cU] at c;obtain⟨_,_,_,_,i⟩:=b7 c;cases i
 all_goals cases h
theorem wy{r:H}(h:an r= .line):∃t,r=10::t:=by
 cases r with
 |nil=>grind[an]
 |cons b t=>grind[an]
section
variable{fr:Bool}{l:dK}(ax:vh l)
include ax
theorem ao.body(x:H):ao (iX l x):=((ao.res _).aI _).N λ_=>((ax.ls _ _).aI _).N λ_=>ao.res _
theorem ao.cond:ao (qI l):=by
 refine ao.rep ⟨λ_=>((ax.ls _ _).aI _).N λ_=>(ao.res _).N λ_=>((ax.ls _ _).aI _).N λ_=>(ao.cW _).N λt=>ao.ite ((ao.res _).N λ_=>ao.ret _) (ao.ite ((ao.res _).N λ_=>((ax.ls _ _).aI _).N λ_=>(ao.res _).N λ_=>ao.ret _) ((ao.res _).N λ_=>ao.ret _)),λ{s r F s' r' f} h=>?_⟩ ();obtain⟨_,ae,g,M,h⟩:=b7 h;obtain⟨_,i,j,U,h⟩:=b7 h;obtain⟨_,k,m,d,h⟩:=b7 h;obtain⟨t,n,o,e,h⟩:=b7 h;have p:=((ax.ls _ _).sfx (iL.1 M)).length_le;have aj:=((ao.res _).sfx U).length_le;have a3:=((ax.ls _ _).sfx (iL.1 d)).length_le;have q:=((ao.cW _).sfx e).length_le;split at h
 ·obtain⟨_,b,c,a,h⟩:=b7 h;cases h;have:=SD (by decide) a;omega
 ·split at h
  ·obtain⟨_,b,c,a,h⟩:=b7 h;obtain⟨_,u,v,w,h⟩:=b7 h;obtain⟨_,x,y,z,h⟩:=b7 h;cases h
  ·obtain⟨_,b,c,a,h⟩:=b7 h;cases h
omit ax in
theorem ao.words{D:ad Unit}(hD:iu D):ao (pt D):=by
 refine ao.rep (iY.of (λ_=>ao.gb (λt a=>?_) (ao.cb _)) (λ_=>gj.MG hD (λt a b=>?_) (jz.more _) (λw p=>⟨cO D,_,rfl,Iff.rfl,λ_=>ao.ret _⟩)) λ_=>jz.cW (jz.more _)) ()
 ·cases t with
  |eof=>grind
  |word w p=>grind[ao.word,ao.N,ao.ret,ao.n]
  |line=>simp[ao.ret,ao.n]
  |op o=>exact ej.ite ((ao.cQ _).N λ_=>ao.ret _).n ej.bE
 ·cases t with
  |eof=>grind
  |word w p=>grind
  |line=>simp[gj.inr]
  |op o=>exact gj.ite (by intro r F s r' c Z e;obtain⟨_,_,_,_,e⟩:=b7 e;cases e) gj.bad
theorem ao.for_{D:ad Unit}(hD:iu D):ao (pv l D):=by
 have a:ao (Go.Eng.N (bQ []) λt=>if t= .op [59] then Go.Eng.N (b5 1) λ_=>Go.Eng.N c5 λ_=>aZ () else
   Go.Eng.N c5 λ_=>Go.Eng.N (bQ []) λt=>if cE t fW then Go.Eng.N (b5 2) λ_=>Go.Eng.N (pt D) λ_=>Go.Eng.N c5 λ_=>aZ () else aZ ()):=
  (ao.cW _).N λt=>ao.ite ((ao.cQ _).N λ_=>ao.lines.N λ_=>ao.ret _) (ao.lines.N λ_=>(ao.cW _).N λt=>ao.ite ((ao.cQ _).N λ_=>(ao.words hD).N λ_=>ao.lines.N λ_=>ao.ret _) (ao.ret _))
 refine ao.gb (λt b=>?_) (ao.cb _);cases t with
 |eof=>grind
 |word w p=>
  cases p with
  |true=>exact ej.ite ((ao.cQ _).N λ_=>(a.aI _).N λ_=>ao.body ax _).n ej.bE
  |false=>exact ej.bE
 |_=>exact ej.bE
omit ax in
theorem SF{D:ad Unit}(hD:iu D):iY (λ(_:Unit)=>Go.Eng.N (bQ [120,41]) λt=>match t with
 | .eof=>cb [120,41]
 | .word _ _=>Go.Eng.N ((cO D).aI [41]) λ_=>Go.Eng.N (bQ [41]) λt=>match t with
   | .eof=>cb [41]
   | .op o=>if o=[124] then Go.Eng.N (b5 1) λ_=>aZ (.inl ()) else if o=[41] then Go.Eng.N (b5 1) λ_=>aZ (.inr ()) else bE
   |_=>bE
 |_=>bE:Unit->ad (Unit⊕Unit)):=by
 have U:ao (Go.Eng.N (bQ [41]) λt=>match t with
  | .eof=>cb [41]
  | .op o=>if o=[124] then Go.Eng.N (b5 1) λ_=>aZ (.inl ()) else if o=[41] then Go.Eng.N (b5 1) λ_=>aZ (.inr ()) else bE
  |_=>bE:ad (Unit⊕Unit)):=by
  refine ao.gb (λt a=>?_) (ao.cb _);cases t with
  |eof=>grind
  |op o=>exact ej.ite ((ao.cQ _).N λ_=>ao.ret _).n (ej.ite ((ao.cQ _).N λ_=>ao.ret _).n ej.bE)
  |_=>exact ej.bE
 refine iY.of (λ_=>ao.gb (λt a=>?_) (ao.cb _)) (λ_=>gj.MG hD (λt a b=>?_) (jz.more _) (λw p=>⟨(cO D).aI [41],_,rfl,iL,λ_=>U⟩)) λ_=>jz.cW (jz.more _)
 ·cases t with
  |eof=>grind
  |word w p=>exact(((ao.word hD).aI _).N λ_=>U).n
  |_=>exact ej.bE
 ·cases t with
  |eof=>exact absurd rfl a
  |word w p=>exact absurd rfl (b w p)
  |_=>exact gj.bad
omit ax in
theorem ao.vk{D:ad Unit}(hD:iu D):ao (lj D):=ao.rep (SF hD) ()
omit ax in
theorem SG{D:ad Unit}(hD:iu D){r:H}{F:ai}{r':H}{j:ai}(h:lj D r F= .ok () r' j):r'.length<r.length:=by
 unfold lj at h;rw[qL] at h;split at h
 ·rename_i s1 ae k M;have l:=(SF hD).lt (s:=()) M;rw[bh l] at h;have:=((ao.rep (SF hD) s1).sfx h).length_le;omega
 ·rename_i a M;cases h;obtain⟨t,ae,k,U,d⟩:=b7 M;obtain⟨g,rfl,rfl⟩:=nM U;have a0:=(ef g).length_le;cases e:an ae with
  |word w p=>
   rw[e] at d;obtain⟨_,A,B,m,n⟩:=b7 d
   have q:∃b t,ae=b::t:=by
    cases ae with
    |nil=>grind[an]
    |cons b t=>simp
   obtain⟨b,t,rfl⟩:=q;have u:=IN ⟨w,p,e⟩ (YF _ _ (cS _) _ _ g);have C:=wu hD (by simp) u (iL.1 m);obtain⟨E,v,G,x,c⟩:=b7 n;obtain⟨y,rfl,rfl⟩:=nM x;have aj:=(ef y).length_le;cases i:an v with
   |op o=>
    rw[i] at c;simp only at c;split at c
    ·obtain⟨_,_,_,_,f⟩:=b7 c;cases f
    ·split at c
     ·obtain⟨_,I,J,f,z⟩:=b7 c;cases z;have:=((ao.cQ 1).sfx f).length_le;omega
     ·cases c
   |_=>rw[i] at c;cases c
  |_=>rw[e] at d;cases d
 all_goals cases h
theorem ao.items{D:ad Unit}(hD:iu D):ao (nJ l D):=by
 have a:ao (Go.Eng.N (lj D) λ_=>Go.Eng.N (l.ls .item true) λ_=>Go.Eng.N (bQ []) λt=>if t= .op [59,59] then Go.Eng.N (b5 2) λ_=>aZ (.inl ()) else aZ (.inl ()):ad (Unit⊕Unit)):=
  (ao.vk hD).N λ_=>(ax.ls _ _).N λ_=>(ao.cW _).N λt=>ao.ite ((ao.cQ _).N λ_=>ao.ret _) (ao.ret _)
 refine ao.rep ⟨λ_=>ao.lines.N λ_=>(ao.cW _).N λt=>ao.ite (ao.cb _) (ao.ite ((ao.cQ _).N λ_=>ao.ret _) ((ao.ite (ao.cQ _) (ao.ret _)).N λ_=>a)),λ{s r F s' r' g} h=>?_⟩ ();obtain⟨_,ae,i,M,h⟩:=b7 h;obtain⟨t,j,k,U,h⟩:=b7 h;have m:=(ao.lines.sfx M).length_le;have aj:=((ao.cW _).sfx U).length_le;split at h
 ·cases h
 ·split at h
  ·obtain⟨_,_,_,_,h⟩:=b7 h;cases h
  ·obtain⟨_,n,o,b,h⟩:=b7 h;have a3:=((ao.ite (ao.cQ 1) (ao.ret ())).sfx b).length_le;obtain⟨_,p,q,c,h⟩:=b7 h;have u:=SG hD c;obtain⟨_,v,w,d,h⟩:=b7 h;have x:=((ax.ls _ _).sfx d).length_le;obtain⟨_,y,z,e,h⟩:=b7 h;have A:=((ao.cW _).sfx e).length_le;split at h
   ·obtain⟨_,B,C,f,h⟩:=b7 h;cases h;have:=((ao.cQ 2).sfx f).length_le;omega
   ·cases h;omega
omit ax in
theorem ao.akQ{α β:Type}{m:ad α}{k:α->ad β}(hm:ao m)(bc:∀{r F a r' f},m r F= .ok a r' f->r'≠[])(aw:∀a,ej (k a)):ao (Go.Eng.N m k):=by
 constructor
 ·intro r F b r' f h;obtain⟨a,ae,g,M,U⟩:=b7 h;exact((aw a).sfx U).trans (hm.sfx M)
 ·intro u F b r' f v hu h Z;obtain⟨a,ae,g,M,U⟩:=b7 h;rw[aT (hm.ok v hu M (bc M))];exact(aw a).ok v (hu.sfx (hm.sfx M)) U Z
 ·intro u F r' v hu h;unfold Go.Eng.N at h⊢;split at h
  ·rename_i a ae g M;rw[hm.ok v hu M (bc M)];obtain⟨c,d,e⟩:=(aw a).bad v (hu.sfx (hm.sfx M)) (bc M) h;exact⟨c,d.trans (hm.sfx M),e⟩
  ·cases h
  ·rename_i ae M;cases h;obtain⟨c,d,e⟩:=hm.bad v hu M;grind
  grind
 ·intro u F r' v hu h;unfold Go.Eng.N at h⊢;split at h
  ·rename_i a ae g M;rw[hm.ok v hu M (bc M)];obtain⟨c,d,e⟩:=(aw a).deep v (hu.sfx (hm.sfx M)) (bc M) h;exact⟨c,d.trans (hm.sfx M),e⟩
  ·cases h
  ·cases h
  ·rename_i ae M;cases h;obtain⟨c,d,e⟩:=hm.deep v hu M;grind
 ·intro F;rcases hm.nil F with⟨op,nd,ds,h⟩|⟨a,h⟩
  ·left;unfold Go.Eng.N;rw[h];exact⟨_,_,_,rfl⟩
  grind
theorem ao.vl{D:ad Unit}(hD:iu D):ao (qJ l D):=by
 have M:ao (Go.Eng.N (cO D) λ_=>Go.Eng.N c5 λ_=>Go.Eng.N (bQ []) λt=>if t= .eof then Go.Eng.cb [] else aZ t):=
  (ao.word hD).N λ_=>ao.lines.N λ_=>(ao.cW _).N λt=>ao.ite (ao.cb _) (ao.ret _)
 refine ao.gb (λt f=>?_) (ao.cb _);cases t with
 |eof=>grind
 |word w p=>
  refine(ao.akQ (M.aI _) (λ{r F a r' g} h=>?_) λt=>ej.ite ((ao.cQ _).N λ_=>(ao.items ax hD).aI _).n ej.bE).n;obtain⟨_,i,j,U,c⟩:=b7 (iL.1 h);obtain⟨_,k,m,n,d⟩:=b7 c;obtain⟨t,o,q,e,b⟩:=b7 d;obtain⟨s,rfl,rfl⟩:=nM e;split at b
  ·cases b
  ·rename_i he;cases b;grind[lX]
 |_=>exact ej.bE
theorem ej.kind(t:Tok):ej (gA l t):=by
 cases t with
 |op o=>exact((ao.cQ _).N λ_=>((ax.ls _ _).aI _).N λ_=>ao.op _).n
 |word w p=>exact((ao.cQ _).N λ_=>ao.ite (((ax.ls _ _).aI _).N λ_=>ao.res _) (ao.ite (ao.cond ax) (ao.ite (ao.for_ ax ax.dl) (ao.ite (ao.vl ax ax.dl) (((ax.ls _ _).aI _).N λ_=>ao.body ax _))))).n
 |_=>exact ej.bE
omit ax in
theorem ej.named{α:Type}{m:ad α}(hm:ej m)(x:H):ej (m.named x):=by
 have d:∀r F q,m.named x r F= .bad q↔m r F= .bad q:=by grind[ad.named]
 have aD:∀r F q,m.named x r F= .deep q↔m r F= .deep q:=by grind[ad.named]
 exact⟨λh=>hm.sfx (CY.1 h),λv hu h Z=>CY.2 (hm.ok v hu (CY.1 h) Z),
  λ{u F r'} v hu av h=>(by obtain⟨a,b,c⟩:=hm.bad v hu av ((d _ _ _).1 h);grind),
  λ{u F r'} v hu av h=>(by obtain⟨a,b,c⟩:=hm.deep v hu av ((aD _ _ _).1 h);grind)⟩
end
section
variable{fr:Bool}{lo:Option dK}(ko:∀l∈lo,vh l)
include ko
theorem ej.cp(t:Tok):ej (qK lo t):=by
 cases lo with
 |none=>exact ej.tS
 |some l=>exact(ej.kind (ko l rfl) t).named _
theorem ej.function:ej (kH fr lo):=by
 cases lo with
 |none=>exact ej.tS
 |some l=>have ax:=ko l rfl;unfold kH;simp only;refine ej.ite (ej.named ?_ _) ej.tS;refine((ao.cQ _).N λ_=>ao.gb (λt a=>?_) (by simp[cU,ao.cb])).n;rw[aO a];refine ej.ite ?_ ej.bE;refine((ao.cQ _).N λ_=>(ao.lines.aI _).N λ_=>ao.gb (λt a=>?_) (by simp[cU,ao.cb])).n;rw[aO a];exact ej.ite ((ax.cp t).N λ_=>ao.ite ax.rd (ao.ret _)) ej.bE
omit ko in
theorem AU:∀(d:Nat)(r q:H),hR d r= .ok q->q<:+r
 |d,[],q,h=>by grind[hR]
 |d,b::t,q,h=>by
  rw[vi] at h;split at h
  ·cases h
  ·split at h
   ·exact(AU _ t q h).trans (dN _ _)
   ·split at h
    ·cases d with
     |succ a=>exact(AU a t q h).trans (dN _ _)
     |zero=>
      cases t with
      |nil=>cases h
      |cons c u=>
       simp only at h;split at h
       ·cases h;exact(dN _ _).trans (dN _ _)
       ·cases h
    ·exact(AU d t q h).trans (dN _ _)
omit ko in
theorem ao.mG:ao mG:=by
 constructor
 ·grind[Go.Eng.mG,AU]
 ·intro u F a r' e v hu h Z;by_cases av:u=[]
  ·subst av;cases h
  ·unfold Go.Eng.mG at h⊢;split at h
   ·simp_all[SC]
   ·cases h
   grind
 ·intro u F r' v hu h;by_cases av:u=[]
  ·subst av;cases h
  ·unfold Go.Eng.mG at h⊢;split at h
   ·cases h
   ·cases h
   ·rename_i q d;cases h;obtain⟨a,b,c⟩:=(SC 0 u v hu av).2 _ d;grind
 ·grind[Go.Eng.mG]
 ·intro F;exact .inl ⟨_,_,_,rfl⟩
omit ko in
theorem ao.SI{o:H}(b:(10:UInt8)∉o)(e:o≠[]){α:Type}{f g:ad α}(hf:ej f)(bt:ao g):ao (λr F=>if o.isPrefixOf r then f r F else g r F):=by
 have h0:o.isPrefixOf ([]:H)=false:=by grind
 constructor
 ·intro r F a r' d h;split at h
  ·exact hf.sfx h
  ·exact bt.sfx h
 ·intro u F a r' d v hu h Z;by_cases av:u=[]
  ·subst av;simp only[h0] at h;have:=bt.sfx h;grind
  ·rw[MF v b hu av];split at h
   ·rename_i ay;rw[bh ay];exact hf.ok v hu h Z
   ·rename_i ay;rw[aO ay];exact bt.ok v hu h Z
 ·intro u F r' v hu h;by_cases av:u=[]
  ·subst av;simp only[h0] at h;rcases bt.nil F with⟨_,_,_,c⟩|⟨_,c⟩<;>(grind)
  ·rw[MF v b hu av];split at h
   ·rename_i ay;rw[bh ay];exact hf.bad v hu av h
   ·rename_i ay;rw[aO ay];exact bt.bad v hu h
 ·intro u F r' v hu h;by_cases av:u=[]
  ·subst av;simp only[h0] at h;rcases bt.nil F with⟨_,_,_,c⟩|⟨_,c⟩<;>(grind)
  ·rw[MF v b hu av];split at h
   ·rename_i ay;rw[bh ay];exact hf.deep v hu av h
   ·rename_i ay;rw[aO ay];exact bt.deep v hu h
 ·intro F;simp only[h0];exact bt.nil F
omit ko in
theorem ej.rJ{n:Nat}{f:dK->ad Unit}(hf:∀l∈lo,ao (f l)):ej (rJ lo n f):=by
 cases lo with
 |none=>exact ej.tS
 |some l=>exact((ao.cQ _).N λ_=>hf l rfl).n
theorem ao.qQ:ao (dy lo):=by refine ao.SI (by decide) (by decide) ((ao.cQ 3).N λ_=>ao.mG).n ?_;refine ao.SI (by decide) (by decide) (ej.rJ λl h=>((((ko l h).ls _ _).aI _).named _).N λ_=>ao.op _) ?_;refine ao.SI (by decide) (by decide) (ej.rJ λl h=>(ko l h).pm.named _) ?_;exact ao.cQ 1
theorem C4:iu (dy lo):=by
 refine⟨ao.qQ ko,λ{r F r' a} e h=>?_⟩;have Z:r≠[]:=by rintro rfl;grind[gI]
 have b:∀n (f:dK->ad Unit),(∀l∈lo,ao (f l))->0<n->rJ lo n f r F= .ok () r' a->r'.length<r.length:=by
  intro n f hf av h;cases lo with
  |none=>cases h
  |some l=>have c:Go.Eng.N (b5 n) (λ_=>f l) r F= .ok () r' a:=h;obtain⟨_,ae,d,M,U⟩:=b7 c;cases M;have:=((hf l rfl).sfx U).length_le;grind[List.length_pos_iff,List.length_drop]
 unfold dy at h;split at h
 ·obtain⟨_,ae,d,M,U⟩:=b7 h;cases M;have:=(ao.mG.sfx U).length_le;grind
 ·split at h
  ·exact b 2 _ (λl h=>((((ko l h).ls _ _).aI _).named _).N λ_=>ao.op _) (by decide) h
  ·split at h
   ·exact b 2 _ (λl h=>(ko l h).pm.named _) (by decide) h
   grind[List.length_pos_iff,List.length_drop]
theorem ao.command{D:ad Unit}(hD:iu D):ao (fM fr lo D):=by
 refine ao.gb (λt a=>?_) (by simp[cU,ao.cb]);rw[aO a];refine ej.ite ((ej.cp ko t).N λ_=>ao.lY hD) ?_;cases t with
 |eof=>grind
 |line=>exact ej.bE
 |op o=>exact ej.ite ((ao.iB hD).N λ_=>ao.simple hD _).n ej.bE
 |word w p=>
  refine ej.ite ej.bE ((ao.iB hD).N λb=>ao.ite (ao.simple hD _) ((ao.word hD).N λ_=>ao.ite (ao.gb (λt a=>?_) ?_) (ao.simple hD _))).n
  ·exact ej.ite ((ej.function ko).N λ_=>ao.ite (ao.ret _) (ao.lY hD)) (ao.simple hD _).n
  simp_all[aO,ao.simple]
omit ko in
theorem ao.pipe{de:ad Unit}(ay:ao de):ao (fv de):=by
 have aw:ao (Go.Eng.N (c5.aI [120]) λ_=>Go.Eng.N de λ_=>aZ (.inl ()):ad (Unit⊕Unit)):=(ao.lines.aI _).N λ_=>ay.N λ_=>ao.ret _;refine(ao.cW _).N λt=>(ao.ite (ao.cQ _) (ao.ret _)).N λ_=>ay.N λ_=>ao.rep (iY.of (λ_=>(ao.cW _).N λt=>ao.ite ((ao.cQ _).N λ_=>aw) (ao.ret _)) (λ_=>gj.cW (λt a=>gj.ite (gj.CZ (na.cQ 0) λ_=>aw) (gj.inr _)) ?_) (λ_=>jz.cW ?_)) ()
 ·simp[cH,jz.inr]
 simp[cH,jz.inr]
omit ko in
theorem ao.oC{a:ad Unit}(ay:ao a):ao (hT a):=by
 have aw:ao (Go.Eng.N (c5.aI [120]) λ_=>Go.Eng.N a λ_=>aZ (.inl ()):ad (Unit⊕Unit)):=(ao.lines.aI _).N λ_=>ay.N λ_=>ao.ret _;refine ay.N λ_=>ao.rep (iY.of (λ_=>(ao.cW _).N λt=>ao.ite ((ao.cQ _).N λ_=>aw) (ao.ret _)) (λ_=>gj.cW (λt b=>gj.ite (gj.CZ (na.cQ 1) λ_=>aw) (gj.inr _)) ?_) (λ_=>jz.cW ?_)) ()
 ·simp[or_self,cH,jz.inr]
 simp[or_self,cH,jz.inr]
end
def iM(c:Ctx)(n:Nat)(t:Tok):ad (Nat⊕Nat):=match t with
    | .eof=>aZ (.inl (n+1))
    | .line=>N c5 λ_=>aZ (.inl (n+1))
    | .word _ _=>bE
    | .op o=>if o=[59]\/o=[38] then N (b5 1) λ_=>N c5 λ_=>aZ (.inl (n+1)) else if ec c t then aZ (.inr (n+1)) else bE
def fa(da:ad Unit)(c:Ctx)(none:Bool)(n:Nat):ad (Nat⊕Nat):=N (bQ (if none||n>0 then [] else [120])) λt=>
 if t= .eof then(if c= .text then aZ (.inr n) else cb (if none||n>0 then [] else [120])) else if(none||n>0)&&ec c t then aZ (.inr n) else
 N da λ_=>N (bQ []) (iM c n)
theorem sj(da:ad Unit)(c:Ctx)(none:Bool):n4 da c none=N (c5.aI (if none then [] else [120])) λ_=>ck (fa da c none) 0:=rfl
theorem ao.akR(c:Ctx)(n:Nat):ao (Go.Eng.N (bQ []) (iM c n)):=by
 refine ao.gb (λt a=>?_) (ao.ret _);cases t with
 |eof=>grind
 |line=>exact(ao.lines.N λ_=>ao.ret _).n
 |word w p=>exact ej.bE
 |op o=>exact ej.ite ((ao.cQ _).N λ_=>ao.lines.N λ_=>ao.ret _).n (ej.ite (ao.ret _).n ej.bE)
theorem iY.round{da:ad Unit}(g:ao da)(c:Ctx)(none:Bool):iY (fa da c none):=by
 refine⟨λn=>(ao.cW _).N λt=>ao.ite (ao.ite (ao.ret _) (ao.cb _)) (ao.ite (ao.ret _) (g.N λ_=>ao.akR c n)),λ{n r F y r' z} h=>?_⟩;obtain⟨t,ae,A,M,U⟩:=b7 h;obtain⟨i,rfl,rfl⟩:=nM M;have B:=(ef i).length_le;split at U
 ·split at U<;>cases U
 ·rename_i bc;have C:0<ae.length:=J_.2 λe=>bc (lX.2 e);split at U
  ·cases U
  ·obtain⟨_,D,E,j,k⟩:=b7 U;have aj:=(g.sfx j).length_le;obtain⟨t,l,G,m,a⟩:=b7 k;obtain⟨q,rfl,rfl⟩:=nM m;have a3:=(ef q).length_le;cases b:an l with
   |eof=>rw[b] at a;cases a;grind[lX]
   |line=>rw[b] at a;obtain⟨t,rfl⟩:=wy b;obtain⟨_,s,u,d,f⟩:=b7 a;cases f;have:=YO d;omega
   |word w p=>rw[b] at a;cases a
   |op o=>
    rw[b] at a;unfold iM at a;simp only at a;split at a
    ·obtain⟨_,s,u,d,f⟩:=b7 a;cases d;obtain⟨_,H,I,v,x⟩:=b7 f;cases x;have J:=(ao.lines.sfx v).length_le;grind
    ·split at a<;>cases a
theorem ao.list{da:ad Unit}(a:ao da)(c:Ctx)(none:Bool):ao (n4 da c none):=by rw[sj];exact(ao.lines.aI _).N λ_=>ao.rep (iY.round a c none) 0
theorem YQ{fr:Bool}{lo:Option dK}(ko:∀l∈lo,vh l)(b:Bool):vh {ls:=n4 (hT (fv (fM fr lo (dy lo)))),pm:=qG (dy lo),cp:=qK lo,rd:=g0 (dy lo),dl:=dy lo,has:=b}:=
 have hD:=C4 ko
 ⟨λc n=>ao.list (ao.oC (ao.pipe (ao.command ko hD))) c n,ao.param hD,ej.cp ko,ao.lY hD,hD⟩
theorem qR(fr:Bool):∀n,vh (aS fr n)
 |0=>YQ (λl h=>by cases h) false
 |n+1=>YQ (λl h=>by cases h;exact qR fr n) true
theorem akS{fr:Bool}{n:Nat}{u v r:H}(hu:dL u)(h:h3 fr n u= .bad r):r<:+u/\h3 fr n (u++v)= .bad (r++v):=
 ((qR fr n).ls .text true).bad v hu h|>.2
def fx{α:Type}(f:ad α):Prop:=∀⦃u:H⦄ ⦃F:ai⦄ ⦃a:α⦄ ⦃r':H⦄ ⦃b:ai⦄,dL u->u≠[]->f u F= .ok a r' b->r'≠[]
def NE{α:Type}(f:ad α):Prop:=∀⦃u:H⦄ ⦃F:ai⦄ ⦃a:α⦄ ⦃r':H⦄ ⦃b:ai⦄,dL u->f u F= .ok a r' b->r'≠[]
theorem NE.k{α:Type}{f:ad α}(h:NE f):fx f:=λ_ _ _ _ _ hu _ e=>h hu e
theorem NE.pw{α β:Type}{m:ad α}{k:α->ad β}(c:ao m)(hm:NE m)(aw:∀a,fx (k a)):NE (N m k):=by intro u F b r' d hu h;obtain⟨a,ae,e,M,U⟩:=b7 h;exact aw a (hu.sfx (c.sfx M)) (hm hu M) U
theorem NE.l1{α β:Type}{m:ad α}{k:α->ad β}(c:ao m)(aw:∀a,NE (k a)):NE (N m k):=by intro u F b r' d hu h;obtain⟨a,ae,e,M,U⟩:=b7 h;exact aw a (hu.sfx (c.sfx M)) U
theorem fx.N{α β:Type}{m:ad α}{k:α->ad β}(c:ao m)(hm:fx m)(aw:∀a,fx (k a)):fx (Go.Eng.N m k):=by intro u F b r' d hu av h;obtain⟨a,ae,e,M,U⟩:=b7 h;exact aw a (hu.sfx (c.sfx M)) (hm hu av M) U
theorem fx.ret{α:Type}(a:α):fx (aZ a):=by intro u F b r' c hu av h;cases h;exact av
theorem NE.more{α:Type}(x:H):NE (cb x:ad α):=by intro u F b r' a hu h;cases h
theorem NE.bad{α:Type}:NE (bE:ad α):=by intro u F b r' a hu h;cases h
theorem NE.deep{α:Type}:NE (tS:ad α):=by intro u F b r' a hu h;cases h
theorem fx.ite{α:Type}{c:Prop}[Decidable c]{f g:ad α}(hf:fx f)(bt:fx g):fx (if c then f else g):=by grind
theorem NE.ite{α:Type}{c:Prop}[Decidable c]{f g:ad α}(hf:NE f)(bt:NE g):NE (if c then f else g):=by grind
theorem NE.aI{α:Type}{m:ad α}(h:NE m)(x:H):NE (m.aI x):=λ_ _ _ _ _ hu e=>h hu (iL.1 e)
theorem NE.named{α:Type}{m:ad α}(h:NE m)(x:H):NE (m.named x):=λ_ _ _ _ _ hu e=>h hu (CY.1 e)
theorem fx.cW(x:H):fx (bQ x):=by intro u F t r' a hu av h;obtain⟨M,_,_⟩:=nM h;exact(tV [] M hu av).1
theorem NE.gb{α:Type}{x:H}{k:Tok->ad α}(h:∀t r,t≠ .eof->dL r->an r=t->∀{F a r' c},k t r F= .ok a r' c->r'≠[])(h0:NE (k .eof)):NE (N (bQ x) k):=by
 intro u F b r' c hu e;obtain⟨t,ae,g,M,U⟩:=b7 e;obtain⟨d,rfl,rfl⟩:=nM M;have Z:=hu.sfx (ef d);by_cases f:an ae= .eof
 ·rw[f] at U;exact h0 Z U
 grind
theorem ML{o r:H}(a:(10:UInt8)∉o)(az:o<+:r)(Z:dL r)(av:r≠[]):r.drop o.length≠[]:=by obtain⟨t,rfl⟩:=az;rw[oO];rintro rfl;grind[YI]
theorem akT{r:H}:bu r∈kG\/bu r=[]:=by
 unfold bu;cases h:kG.find? (λo=>o.isPrefixOf r) with
 |none=>simp
 |some o=>grind
theorem YR{r:H}:(10:UInt8)∉bu r:=by
 rcases akT (r:=r) with h|h
 ·have:∀o∈kG,(10:UInt8)∉o:=by decide
  grind
 grind
theorem h4{r o:H}(h:an r= .op o):o=bu r/\o<+:r/\(10:UInt8)∉o/\o≠[]:=by
 cases r with
 |nil=>grind[an]
 |cons b t=>
  simp only[an] at h;split at h
  ·cases h
  ·split at h
   ·rename_i M;cases h;exact⟨rfl,Sz,YR,M⟩
   grind
theorem Ft:∀(r w:H),dg r=(w,true)->w<+:r/\(10:UInt8)∉w
 |[],w,h=>by grind[dg]
 |b::t,w,h=>by
  rw[dg] at h;split at h
  ·grind
  ·rename_i d;split at h
   ·cases h
   ·split at h
    ·rename_i w' a;cases h;obtain⟨c,e⟩:=Ft t w' a;refine⟨List.cons_prefix_cons.2 ⟨rfl,c⟩,?_⟩;simp only[kM,BC];grind[Fm]
    grind
theorem qS{r w:H}(h:an r= .word w true):w<+:r/\(10:UInt8)∉w:=by
 cases r with
 |nil=>grind[an]
 |cons b t=>grind[an,Tok.word.injEq,Ft]
theorem NE.exp{b:Tok->Bool}{n:Nat}(h:∀r t,dL r->an r=t->b t=true->r.drop n≠[]):NE (m9 b n):=by
 refine NE.gb (λt r c Z he {F a r' d} e=>?_) ?_
 ·rw[aO c] at e;split at e
  ·rename_i f;cases e;grind
  ·cases e
 ·rw[bh rfl];exact NE.more _
theorem NE.op(o:H):NE (ji o):=by
 refine NE.exp λr t Z he b=>?_;have:t= .op o:=by grind
 subst this;obtain⟨M,U,a,c⟩:=h4 he;exact ML a U Z (by grind)
theorem NE.res(w:H):NE (cF w):=by
 refine NE.exp λr t Z he a=>?_;have:t= .word w true:=by grind[cE]
 subst this;obtain⟨M,U⟩:=qS he;exact ML U M Z (by rintro rfl;grind[an])
theorem MM{σ α:Type}{f:σ->ad (σ⊕α)}(hf:iY f)(P:H->Prop)(Q:H->Prop)(M:∀s r F s' r' b,P r->f s r F= .ok (.inl s') r' b->P r')(U:∀s r F a r' b,P r->f s r F= .ok (.inr a) r' b->Q r'):
  ∀(n:Nat)(s:σ)(r:H)(F:ai)(a:α)(r':H)(b:ai),r.length<=n->P r->ck f s r F= .ok a r' b->Q r':=by
 intro n;induction n with
 |zero=>grind[qL]
 |succ n c=>intro s r F a r' b av az h;rw[qL] at h;grind
theorem NE.word{D:ad Unit}(hD:iu D):NE (cO D):=by
 intro u F a r' b hu h;refine MM (iY.word hD) (λ_=>True) (λr=>r≠[]) (λ_ _ _ _ _ _ _ _=>trivial) ?_ _ _ _ _ _ _ _ (cS _) trivial h;intro s r F a r' b _ e;split at e
 ·cases e
 ·split at e
  ·grind
  ·obtain⟨_,_,_,_,e⟩:=b7 e;cases e
theorem NE.qO(tabs:Bool):NE (gS tabs):=by intro u F a r' b hu h;grind[C2,wx]
theorem NE.Fq{D:ad Unit}(hD:iu D)(x:H):NE (jK D x):=by
 refine NE.gb (λt r b Z he {F a r' c} e=>?_) (NE.more x);cases t with
 |eof=>grind
 |word w p=>exact NE.word hD Z e
 |_=>cases e
theorem fx.iB{D:ad Unit}(hD:iu D):fx (dI D):=by
 intro u F a r' f hu av h;obtain⟨o,ae,g,M,U⟩:=b7 h;cases o with
 |none=>
  cases U;unfold fX at M;split at M
  ·cases M
  ·rename_i q b;simp only at M;split at M
   ·cases M
   ·cases M;exact(tV [] b hu av).1
 |some o=>obtain⟨_,i,j,c,d⟩:=b7 U;cases d;have e:=hu.sfx (ao.YG.sfx M);have:NE (if o=[60,60] then gS false else if o=[60,60,45] then gS true else jK D [120]):=NE.ite (NE.qO _) (NE.ite (NE.qO _) (NE.Fq hD _));exact this e c
theorem akU{D:ad Unit}(hD:iu D):iY (λ(_:Unit)=>N (dI D) λb=>aZ (if b then .inl () else .inr ()):Unit->ad (Unit⊕Unit)):=by
 refine⟨λ_=>(ao.iB hD).N λb=>ao.ret _,λ{s r F s' r' a} h=>?_⟩;obtain⟨b,ae,c,M,U⟩:=b7 h;cases b with
 |true=>cases U;exact s0 hD M
 |false=>cases U
theorem fx.rep{σ α:Type}{f:σ->ad (σ⊕α)}(hf:iY f)(aw:∀s,fx (f s))(s:σ):fx (ck f s):=by intro u F a r' b hu av h;have:=MM hf (λr=>dL r/\r≠[]) (λr=>r≠[]) (λs r F s' r' b az e=>⟨az.1.sfx ((hf.ex s).sfx e),aw s az.1 az.2 e⟩) (λs r F a r' b az e=>aw s az.1 az.2 e);exact this _ _ _ _ _ _ _ (cS _) ⟨hu,av⟩ h
theorem fx.lY{D:ad Unit}(hD:iu D):fx (g0 D):=fx.rep (akU hD) (λ_=>fx.N (ao.iB hD) (fx.iB hD) λb=>fx.ret _) ()
theorem akV{D:ad Unit}(hD:iu D)(fr:Bool):iY (λ(_:Unit)=>N (dI D) λb=>if b then aZ (.inl ()) else N (bQ []) λt=>match t with
 | .word _ _=>N (cO D) λ_=>aZ (.inl ())
 | .op o=>if fr/\o=[40] then bE else aZ (.inr ())
 |_=>aZ (.inr ()):Unit->ad (Unit⊕Unit)):=by
 have he:ao (N (bQ []) λt=>match t with
  | .word _ _=>N (cO D) λ_=>aZ (.inl ())
  | .op o=>if fr/\o=[40] then bE else aZ (.inr ())
  |_=>aZ (.inr ()):ad (Unit⊕Unit)):=by
  refine ao.gb (λt a=>?_) (ao.ret _);cases t with
  |word w p=>exact((ao.word hD).N λ_=>ao.ret _).n
  |op o=>exact ej.ite ej.bE (ao.ret _).n
  |_=>exact(ao.ret _).n
 have ax:gj (N (bQ []) λt=>match t with
  | .word _ _=>N (cO D) λ_=>aZ (.inl ())
  | .op o=>if fr/\o=[40] then bE else aZ (.inr ())
  |_=>aZ (.inr ()):ad (Unit⊕Unit)):=by
  refine gj.MG hD (λt a c=>?_) (jz.inr _) (λw p=>⟨cO D,_,rfl,Iff.rfl,λ_=>ao.ret _⟩);cases t with
  |word w p=>grind
  |op o=>simp[gj.ite,gj.bad,gj.inr]
  |_=>simp[gj.inr]
 refine⟨λ_=>(ao.iB hD).N λb=>ao.ite (ao.ret _) he,λ{s r F s' r' d} h=>?_⟩;obtain⟨b,ae,e,M,U⟩:=b7 h;cases b with
 |true=>cases U;exact s0 hD M
 |false=>
  have f:=((ao.iB hD).sfx M).length_le;by_cases av:ae=[]
  ·subst av;simp only[fo,cH] at U;have:jz (N (bQ []) λt=>match t with
    | .word _ _=>N (cO D) λ_=>aZ (.inl ())
    | .op o=>if fr/\o=[40] then bE else aZ (.inr ())
    |_=>aZ (.inr ()):ad (Unit⊕Unit)):=jz.cW (jz.inr _)
   exact absurd U this
  ·simp only[fo,cH] at U;have:=ax av U;omega
theorem fx.simple{D:ad Unit}(hD:iu D)(fr:Bool):fx (ho fr D):=by
 refine fx.rep (akV hD fr) (λ_=>fx.N (ao.iB hD) (fx.iB hD) λb=>fx.ite (fx.ret _) ?_) ();refine fx.N (ao.cW _) (fx.cW _) λt=>?_;cases t with
 |word w p=>exact fx.N (ao.word hD) (NE.word hD).k λ_=>fx.ret _
 |op o=>exact fx.ite NE.bad.k (fx.ret _)
 |_=>simp[fx.ret]
structure MN(l:dK):Prop where
 cp:∀t,NE (l.cp t)
 rd:fx l.rd
section
variable{l:dK}(ax:vh l)
include ax
theorem NE.body(x:H):NE (iX l x):=NE.l1 ((ao.res _).aI _) λ_=>NE.l1 ((ax.ls _ _).aI _) λ_=>NE.res _
theorem NE.rep{σ α:Type}{f:σ->ad (σ⊕α)}(hf:iY f)(aw:∀s {u F a r' b},dL u->f s u F= .ok (.inr a) r' b->r'≠[])(s:σ):NE (ck f s):=by intro u F a r' b hu h;have:=MM hf (λr=>dL r) (λr=>r≠[]) (λs r F s' r' b az e=>az.sfx ((hf.ex s).sfx e)) (λs r F a r' b az e=>aw s az e);exact this _ _ _ _ _ _ _ (cS _) hu h
theorem YS:iY (λ(_:Unit)=>N ((l.ls .oZ false).aI ([10]++hj++[32,120,10]++eb)) λ_=>N (cF hj) λ_=>N ((l.ls .qH false).aI (10::eb)) λ_=>
  N (bQ []) λt=>if cE t ir then N (cF ir) λ_=>aZ (.inl ()) else
   if cE t gi then N (cF gi) λ_=>N ((l.ls .ku false).aI (10::eb)) λ_=>N (cF eb) λ_=>aZ (.inr ()) else N (cF eb) λ_=>aZ (.inr ()):Unit->ad (Unit⊕Unit)):=by
 refine⟨λ_=>((ax.ls _ _).aI _).N λ_=>(ao.res _).N λ_=>((ax.ls _ _).aI _).N λ_=>(ao.cW _).N λt=>ao.ite ((ao.res _).N λ_=>ao.ret _) (ao.ite ((ao.res _).N λ_=>((ax.ls _ _).aI _).N λ_=>(ao.res _).N λ_=>ao.ret _) ((ao.res _).N λ_=>ao.ret _)),λ{s r F s' r' f} h=>?_⟩;obtain⟨_,ae,g,M,h⟩:=b7 h;obtain⟨_,i,j,U,h⟩:=b7 h;obtain⟨_,k,m,d,h⟩:=b7 h;obtain⟨t,n,o,e,h⟩:=b7 h;have p:=((ax.ls _ _).sfx (iL.1 M)).length_le;have aj:=((ao.res _).sfx U).length_le;have a3:=((ax.ls _ _).sfx (iL.1 d)).length_le;have q:=((ao.cW _).sfx e).length_le;split at h
 ·obtain⟨_,b,c,a,h⟩:=b7 h;cases h;have:=SD (by decide) a;omega
 ·split at h
  ·obtain⟨_,b,c,a,h⟩:=b7 h;obtain⟨_,u,v,w,h⟩:=b7 h;obtain⟨_,x,y,z,h⟩:=b7 h;cases h
  ·obtain⟨_,b,c,a,h⟩:=b7 h;cases h
theorem NE.cond:NE (qI l):=by
 refine NE.rep ax (YS ax) (λs {u F a r' o} hu h=>?_) ();obtain⟨_,ae,p,M,h⟩:=b7 h;obtain⟨_,q,r,U,h⟩:=b7 h;obtain⟨_,v,w,f,h⟩:=b7 h;obtain⟨t,x,y,g,h⟩:=b7 h;have i:=hu.sfx ((ax.ls _ _).sfx (iL.1 M));have j:=i.sfx ((ao.res _).sfx U);have k:=j.sfx ((ax.ls _ _).sfx (iL.1 f));have c:=k.sfx ((ao.cW _).sfx g);split at h
 ·obtain⟨_,d,e,b,h⟩:=b7 h;cases h
 ·split at h
  ·obtain⟨_,d,e,b,h⟩:=b7 h;obtain⟨_,z,A,m,h⟩:=b7 h;obtain⟨_,B,C,n,h⟩:=b7 h;cases h;exact NE.res _ ((c.sfx ((ao.res _).sfx b)).sfx ((ax.ls _ _).sfx (iL.1 m))) n
  ·obtain⟨_,d,e,b,h⟩:=b7 h;cases h;exact NE.res _ c b
theorem NE.for_{D:ad Unit}(hD:iu D):NE (pv l D):=by
 have a:ao (N (bQ []) λt=>if t= .op [59] then N (b5 1) λ_=>N c5 λ_=>aZ () else
   N c5 λ_=>N (bQ []) λt=>if cE t fW then N (b5 2) λ_=>N (pt D) λ_=>N c5 λ_=>aZ () else aZ ()):=
  (ao.cW _).N λt=>ao.ite ((ao.cQ _).N λ_=>ao.lines.N λ_=>ao.ret _) (ao.lines.N λ_=>(ao.cW _).N λt=>ao.ite ((ao.cQ _).N λ_=>(ao.words hD).N λ_=>ao.lines.N λ_=>ao.ret _) (ao.ret _))
 refine NE.l1 (ao.cW _) λt=>?_;cases t with
 |eof=>simp[NE.more]
 |word w p=>
  cases p with
  |true=>exact NE.ite (NE.l1 (ao.cQ _) λ_=>NE.l1 (a.aI _) λ_=>NE.body ax _) NE.bad
  |false=>exact NE.bad
 |_=>exact NE.bad
end
theorem akW{r w:H}{n:Nat}(he:cE (an r) w=true)(av:n=w.length)(Z:dL r):r.drop n≠[]:=by
 have:an r= .word w true:=by grind[cE]
 obtain⟨M,U⟩:=qS this;subst av;exact ML U M Z (by rintro rfl;grind[an])
theorem akX{r o:H}{n:Nat}(he:an r= .op o)(av:n=o.length)(Z:dL r):r.drop n≠[]:=by obtain⟨M,U,a,b⟩:=h4 he;subst av;exact ML a U Z (by grind)
section
variable{l:dK}(ax:vh l)
include ax
theorem YT{D:ad Unit}(hD:iu D):iY (λ(_:Unit)=>N c5 λ_=>N (bQ []) λt=>if t= .eof then cb [] else if cE t eK then N (b5 4) λ_=>aZ (.inr ()) else
 N ((if t= .op [40] then b5 1 else aZ ())) λ_=>N (lj D) λ_=>N (l.ls .item true) λ_=>N (bQ []) λt=>if t= .op [59,59] then N (b5 2) λ_=>aZ (.inl ()) else aZ (.inl ()):Unit->ad (Unit⊕Unit)):=by
 have a:ao (N (lj D) λ_=>N (l.ls .item true) λ_=>N (bQ []) λt=>if t= .op [59,59] then N (b5 2) λ_=>aZ (.inl ()) else aZ (.inl ()):ad (Unit⊕Unit)):=
  (ao.vk hD).N λ_=>(ax.ls _ _).N λ_=>(ao.cW _).N λt=>ao.ite ((ao.cQ _).N λ_=>ao.ret _) (ao.ret _)
 refine⟨λ_=>ao.lines.N λ_=>(ao.cW _).N λt=>ao.ite (ao.cb _) (ao.ite ((ao.cQ _).N λ_=>ao.ret _) ((ao.ite (ao.cQ _) (ao.ret _)).N λ_=>a)),λ{s r F s' r' g} h=>?_⟩;obtain⟨_,ae,i,M,h⟩:=b7 h;obtain⟨t,j,k,U,h⟩:=b7 h;have m:=(ao.lines.sfx M).length_le;have aj:=((ao.cW _).sfx U).length_le;split at h
 ·cases h
 ·split at h
  ·obtain⟨_,_,_,_,h⟩:=b7 h;cases h
  ·obtain⟨_,n,o,b,h⟩:=b7 h;have a3:=((ao.ite (ao.cQ 1) (ao.ret ())).sfx b).length_le;obtain⟨_,p,q,c,h⟩:=b7 h;have u:=SG hD c;obtain⟨_,v,w,d,h⟩:=b7 h;have x:=((ax.ls _ _).sfx d).length_le;obtain⟨_,y,z,e,h⟩:=b7 h;have A:=((ao.cW _).sfx e).length_le;split at h
   ·obtain⟨_,B,C,f,h⟩:=b7 h;cases h;have:=((ao.cQ 2).sfx f).length_le;omega
   ·cases h;omega
theorem NE.items{D:ad Unit}(hD:iu D):NE (nJ l D):=by
 refine NE.rep ax (YT ax hD) (λs {u F a r' n} hu h=>?_) ();obtain⟨_,ae,o,M,f⟩:=b7 h;obtain⟨t,p,q,U,b⟩:=b7 f;obtain⟨g,rfl,rfl⟩:=nM U;have i:=(hu.sfx (ao.lines.sfx M)).sfx (ef g);split at b
 ·cases b
 ·split at b
  ·rename_i he;obtain⟨_,_,_,e,c⟩:=b7 b;cases e;cases c;exact akW he rfl i
  ·obtain⟨_,r,v,e,c⟩:=b7 b;obtain⟨_,w,x,y,j⟩:=b7 c;obtain⟨_,z,A,B,k⟩:=b7 j;obtain⟨_,C,E,G,d⟩:=b7 k;split at d
   ·obtain⟨_,H,I,J,m⟩:=b7 d;cases m
   ·cases d
theorem NE.vl{D:ad Unit}(hD:iu D):NE (qJ l D):=by
 have M:ao (N (cO D) λ_=>N c5 λ_=>N (bQ []) λt=>if t= .eof then cb [] else aZ t):=
  (ao.word hD).N λ_=>ao.lines.N λ_=>(ao.cW _).N λt=>ao.ite (ao.cb _) (ao.ret _)
 refine NE.l1 (ao.cW _) λt=>?_;cases t with
 |eof=>simp[NE.more]
 |word w p=>exact NE.l1 (M.aI _) λt=>NE.ite (NE.l1 (ao.cQ _) λ_=>NE.aI (NE.items ax hD) _) NE.bad
 |_=>exact NE.bad
theorem NE.kind(t:Tok):NE (gA l t):=by
 cases t with
 |op o=>show NE (N (b5 1) λ_=>N ((l.ls .paren false).aI [41]) λ_=>ji [41]);exact NE.l1 (ao.cQ _) λ_=>NE.l1 ((ax.ls _ _).aI _) λ_=>NE.op _
 |word w p=>unfold gA;exact NE.l1 (ao.cQ _) λ_=>NE.ite (NE.l1 ((ax.ls _ _).aI _) λ_=>NE.res _) (NE.ite (NE.cond ax) (NE.ite (NE.for_ ax ax.dl) (NE.ite (NE.vl ax ax.dl) (NE.l1 ((ax.ls _ _).aI _) λ_=>NE.body ax _))))
 |_=>exact NE.bad
end
section
variable{fr:Bool}{lo:Option dK}(ko:∀l∈lo,vh l)(hle:∀l∈lo,MN l)
include ko hle
omit hle in
theorem NE.cp(t:Tok):NE (qK lo t):=by
 cases lo with
 |none=>exact NE.deep
 |some l=>exact NE.named (NE.kind (ko l rfl) t) _
theorem NE.function:NE (kH fr lo):=by
 cases lo with
 |none=>exact NE.deep
 |some l=>
  have ax:=ko l rfl;have he:=hle l rfl;unfold kH;simp only;refine NE.ite (NE.named ?_ _) NE.deep;refine NE.l1 (ao.cQ _) λ_=>NE.l1 (ao.cW _) λt=>NE.ite (NE.more _) (NE.ite ?_ NE.bad);refine NE.l1 (ao.cQ _) λ_=>NE.l1 (ao.lines.aI _) λ_=>NE.l1 (ao.cW _) λt=>NE.ite (NE.more _) (NE.ite ?_ NE.bad);intro u F b r' d hu h;obtain⟨_,ae,e,M,U⟩:=b7 h;have c:=hu.sfx ((ax.cp t).sfx M);have a:=he.cp t hu M;split at U
  ·exact he.rd c a U
  ·cases U;exact a
theorem NE.command{D:ad Unit}(hD:iu D):NE (fM fr lo D):=by
 refine NE.gb (λt r k Z he {F a r' z} e=>?_) (by rw[bh rfl];exact NE.more _);have l:r≠[]:=by rintro rfl;exact k he.symm
 rw[aO k] at e;split at e
 ·obtain⟨_,ae,v,M,U⟩:=b7 e;exact fx.lY hD (Z.sfx ((ej.cp ko t).sfx M)) (NE.cp ko t Z M) U
 ·cases t with
  |eof=>grind
  |line=>cases e
  |op o=>
   simp only at e;split at e
   ·exact fx.N (ao.iB hD) (fx.iB hD) (λ_=>fx.simple hD fr) Z l e
   ·cases e
  |word w p=>
   simp only at e;split at e
   ·cases e
   ·obtain⟨b,ae,v,M,U⟩:=b7 e;have c:=Z.sfx ((ao.iB hD).sfx M);have x:=fx.iB hD Z l M;split at U
    ·exact fx.simple hD fr c x U
    ·obtain⟨_,A,B,m,d⟩:=b7 U;have f:=c.sfx ((ao.word hD).sfx m);have n:=NE.word hD c m;split at d
     ·obtain⟨C,E,G,q,g⟩:=b7 d;have h:=f.sfx ((ao.cW _).sfx q);have y:=fx.cW _ f n q;split at g
      ·obtain⟨_,H,I,s,i⟩:=b7 g;have j:=h.sfx ((ej.function ko).sfx s);have u:=NE.function ko hle h s;split at i
       ·cases i;exact u
       ·exact fx.lY hD j u i
      ·exact fx.simple hD fr h y g
     ·exact fx.simple hD fr f n d
end
theorem akZ{de:ad Unit}(ay:ao de):iY (λ(_:Unit)=>N (bQ []) λt=>if t= .op [124] then N (b5 1) λ_=>N (c5.aI [120]) λ_=>N de λ_=>aZ (.inl ()) else aZ (.inr ()):Unit->ad (Unit⊕Unit)):=by
 have aw:ao (N (c5.aI [120]) λ_=>N de λ_=>aZ (.inl ()):ad (Unit⊕Unit)):=(ao.lines.aI _).N λ_=>ay.N λ_=>ao.ret _;refine iY.of (λ_=>(ao.cW _).N λt=>ao.ite ((ao.cQ _).N λ_=>aw) (ao.ret _)) (λ_=>gj.cW (λt a=>gj.ite (gj.CZ (na.cQ 0) λ_=>aw) (gj.inr _)) ?_) (λ_=>jz.cW ?_)
 ·simp[cH,jz.inr]
 simp[cH,jz.inr]
theorem NE.pipe{de:ad Unit}(a:ao de)(ay:NE de):NE (fv de):=by refine NE.l1 (ao.cW _) λt=>NE.l1 (ao.ite (ao.cQ _) (ao.ret _)) λ_=>NE.pw a ay λ_=>fx.rep (akZ a) (λ_=>fx.N (ao.cW _) (fx.cW _) λt=>fx.ite ?_ (fx.ret _)) ();refine NE.k (NE.l1 (ao.cQ _) λ_=>NE.l1 (ao.lines.aI _) λ_=>NE.pw a ay λ_=>fx.ret _)
theorem ak0{a:ad Unit}(ay:ao a):iY (λ(_:Unit)=>N (bQ []) λt=>if t= .op [38,38]\/t= .op [124,124] then N (b5 2) λ_=>N (c5.aI [120]) λ_=>N a λ_=>aZ (.inl ()) else aZ (.inr ()):Unit->ad (Unit⊕Unit)):=by
 have aw:ao (N (c5.aI [120]) λ_=>N a λ_=>aZ (.inl ()):ad (Unit⊕Unit)):=(ao.lines.aI _).N λ_=>ay.N λ_=>ao.ret _;refine iY.of (λ_=>(ao.cW _).N λt=>ao.ite ((ao.cQ _).N λ_=>aw) (ao.ret _)) (λ_=>gj.cW (λt b=>gj.ite (gj.CZ (na.cQ 1) λ_=>aw) (gj.inr _)) ?_) (λ_=>jz.cW ?_)
 ·simp[or_self,cH,jz.inr]
 simp[or_self,cH,jz.inr]
theorem NE.oC{a:ad Unit}(b:ao a)(ay:NE a):NE (hT a):=by refine NE.pw b ay λ_=>fx.rep (ak0 b) (λ_=>fx.N (ao.cW _) (fx.cW _) λt=>fx.ite ?_ (fx.ret _)) ();refine NE.k (NE.l1 (ao.cQ _) λ_=>NE.l1 (ao.lines.aI _) λ_=>NE.pw b ay λ_=>fx.ret _)
theorem ak1(fr:Bool):∀n,MN (aS fr n)
 |0=>⟨λt=>NE.cp (lo:=none) (λl h=>by cases h) t,fx.lY (C4 (lo:=none) λl h=>by cases h)⟩
 |n+1=>⟨λt=>NE.cp (lo:=some (aS fr n)) (λl h=>by grind[qR]) t,fx.lY (C4 (lo:=some (aS fr n)) λl h=>by grind[qR])⟩
def jj(fr:Bool):Nat->ad Unit
 |0=>hT (fv (fM fr none (dy none)))
 |n+1=>hT (fv (fM fr (some (aS fr n)) (dy (some (aS fr n)))))
theorem AV(fr:Bool)(n:Nat):(aS fr n).ls=n4 (jj fr n):=by cases n<;>rfl
theorem YV(fr:Bool):∀n,ao (jj fr n)/\NE (jj fr n)
 |0=>by
  have M:∀l∈(none:Option dK),vh l:=λl h=>by cases h
  have U:∀l∈(none:Option dK),MN l:=λl h=>by cases h
  have a:=ao.command (fr:=fr) M (C4 M);exact⟨ao.oC (ao.pipe a),NE.oC (ao.pipe a) (NE.pipe a (NE.command M U (C4 M)))⟩
 |n+1=>by
  have M:∀l∈some (aS fr n),vh l:=λl h=>by grind[qR]
  have U:∀l∈some (aS fr n),MN l:=λl h=>by grind[ak1]
  have a:=ao.command (fr:=fr) M (C4 M);exact⟨ao.oC (ao.pipe a),NE.oC (ao.pipe a) (NE.pipe a (NE.command M U (C4 M)))⟩
def cX{σ α:Type}(f:σ->ad (σ⊕α))(r:H)(x:dD (σ⊕α)):dD α:=match x with
 | .ok (.inl s') r' b=>if r'.length<r.length then ck f s' r' b else .bad r'
 | .ok (.inr a) r' b=> .ok a r' b
 | .more op nd ds=> .more op nd ds
 | .bad r=> .bad r
 | .deep r=> .deep r
theorem cK{σ α:Type}(f:σ->ad (σ⊕α))(s:σ)(r:H)(F:ai):ck f s r F=cX f r (f s r F):=by grind[qL,cX]
theorem dm{α β:Type}{m:ad α}{k:α->ad β}{r:H}{F:ai}{op:bw}{nd:H}{ds:ai}(h:m r F= .more op nd ds):N m k r F= .more op nd ds:=by grind[N]
theorem hp{α β:Type}{m:ad α}{k:α->ad β}{r:H}{F:ai}{q:H}(h:m r F= .bad q):N m k r F= .bad q:=by grind[N]
theorem iN{x r:H}{F:ai}(h:bn r=none):bQ x r F=cb x r F:=by grind[bQ]
theorem cu{x r r':H}{F:ai}(h:bn r=some r'):bQ x r F= .ok (an r') r' F:=by grind[bQ]
def iC(some:Bool):ad (Bool⊕Bool):=N (bQ []) λt=>if t= .line then N jw λ_=>aZ (.inl true) else aZ (.inr some)
theorem tW:c5=ck iC false:=rfl
theorem wz{b:Bool}{r t:H}{F:ai}(h:bn r=some (10::t)):iC b r F=N jw (λ_=>aZ (.inl true)) (10::t) F:=by
 have:bQ [] r F= .ok .line (10::t) F:=by unfold bQ;rw[h];rfl
 unfold iC;rw[aT this,bh rfl]
theorem s3{b:Bool}{r ae:H}{F:ai}(h:bn r=some ae)(a:an ae≠ .line):iC b r F= .ok (.inr b) ae F:=by
 have:bQ [] r F= .ok (an ae) ae F:=by grind[bQ]
 unfold iC;rw[aT this,aO a];rfl
theorem YW:∀(n:Nat)(b:Bool)(u:H)(F:ai)(c:Bool)(d:ai),u.length<=n->dL u->u≠[]->ck iC b u F= .ok c [] d->
  d=[]/\c=true/\∀v,ck iC b (u++v) F=ck iC true v []:=by
 intro n;induction n with
 |zero=>grind
 |succ n j=>
  intro b u F c d av hu bc h;rw[qL] at h;cases Y:bn u with
  |none=>
   have:iC b u F= .more [] (cV [] F []).1 (cV [] F []).2:=by exact dm (iN Y)
   grind
  |some ae=>
   have s1:=ef Y;by_cases f:an ae= .line
   ·obtain⟨t,rfl⟩:=wy f;rw[wz Y] at h;have nt:dL t:=(hu.sfx s1).tail;cases e:lh F t with
    |inr nd=>grind[N,jw,aZ,vf]
    |inl a=>
     have k:N jw (λ_=>aZ (.inl true)) (10::t) F=(.ok (.inl true) a []:dD (Bool⊕Bool)):=by unfold N;rw[vf,e];rfl
     rw[k] at h;have s2:=(ve F t [] a e).1;have l:=s1.length_le;have m:=s2.length_le;simp only[nn] at l;simp only[show a.length<u.length by omega,cU] at h
     have step:∀v,ck iC b (u++v) F=ck iC true (a++v) []:=by
      intro v;rw[qL];have g:=(tV v Y hu bc).2;simp only[ib] at g;rw[wz g];have o:N jw (λ_=>aZ (.inl true)) (10::(t++v)) F=(.ok (.inl true) (a++v) []:dD (Bool⊕Bool)):=by unfold N;rw[vf,(ve F t v a e).2 nt];rfl
      grind
     by_cases i:a=[]
     ·subst i;have:ck iC true [] []=(.ok true [] []:dD Bool):=by rw[qL,s3 (ae:=[]) mg (by decide)]
      grind
     ·obtain⟨p,q,r⟩:=j true a [] c d (by omega) (nt.sfx s2) i h;grind
   ·rw[s3 Y f] at h;cases h;exact absurd rfl (tV [] Y hu bc).1
theorem ak2{fr:Bool}{lo:Option dK}{D:ad Unit}{c:Ctx}{r:H}{F:ai}(Y:bn r=some r)(he:ec c (an r)=true)(av:an r≠ .eof):fM fr lo D r F= .bad r:=by
 have az:bQ [120] r F= .ok (an r) r F:=by grind[bQ]
 unfold fM;rw[aT az,aO av]
 have a:(∃w,an r= .word w true/\rI w=true/\oB w=false)\/∃o,an r= .op o/\fg o=false/\o≠[40]:=by
  cases c<;>simp[ec,cE] at he
  ·grind
  ·exact .inr ⟨_,he,by decide,by decide⟩
  ·exact .inl ⟨_,he,by decide,by decide⟩
  ·exact .inl ⟨_,he,by decide,by decide⟩
  ·rcases he with(he|he)|he<;>exact .inl ⟨_,he,by decide,by decide⟩
  ·exact .inl ⟨_,he,by decide,by decide⟩
  ·exact .inl ⟨_,he,by decide,by decide⟩
  ·exact .inl ⟨_,he,by decide,by decide⟩
  ·rcases he with he|he
   ·exact .inr ⟨_,he,by decide,by decide⟩
   ·exact .inl ⟨_,he,by decide,by decide⟩
 rcases a with⟨w,M,U,b⟩|⟨o,M,U,b⟩
 ·simp_all[gz,bE]
 simp_all[gz,bE]
theorem mi:∀(n:Nat)(r r':H),r.length<=n->bn r=some r'->bn r'=some r':=by
 intro n;induction n with
 |zero=>grind[List.length_eq_zero_iff,mg]
 |succ n a=>
  intro r r' av h;cases r with
  |nil=>grind
  |cons b t=>grind[List.length_cons,nK,AR]
theorem ak3{c:Ctx}{t:Tok}(he:ec c t=true):cE t [33]=false:=by
 cases t with
 |word w p=>
  cases h:cE (.word w p) [33] with
  |false=>rfl
  |true=>
   have:w=[33]/\p=true:=by grind[cE]
   obtain⟨rfl,rfl⟩:=this;cases c<;>simp[ec,cE,hj,ir,gi,eb,hn,jh,eK] at he
 |_=>rfl
theorem YX{fr:Bool}{m:Nat}{c:Ctx}{r:H}{F:ai}(Y:bn r=some r)(he:ec c (an r)=true)(av:an r≠ .eof):jj fr m r F= .bad r:=by
 have az:bQ [120] r F= .ok (an r) r F:=by grind[bQ]
 have a:∀(lo:Option dK)(D:ad Unit),hT (fv (fM fr lo D)) r F= .bad r:=by
  intro lo D;have M:=ak2 (fr:=fr) (lo:=lo) (D:=D) (F:=F) Y he av;have U:fv (fM fr lo D) r F= .bad r:=by unfold fv;rw[aT az,ak3 he];simp only[fo,cH];rw[aT (show aZ () r F= .ok () r F from rfl)];unfold N;rw[M]
  simp_all[hT,N]
 cases m<;>exact a _ _
theorem SJ{da:ad Unit}{c:Ctx}{none:Bool}{n:Nat}{F:ai}:fa da c none n [] F=if c= .text then .ok (.inr n) [] F else cb (if none||n>0 then [] else [120]) [] F:=by unfold fa;rw[aT (cu mg)];rw[show an []= .eof from rfl,bh rfl];split<;>rfl
theorem IU{da:ad Unit}{c:Ctx}{none:Bool}{n:Nat}{r ae:H}{F:ai}(Y:bn r=some ae)(av:an ae≠ .eof)(he:ec c (an ae)=false):fa da c none n r F=N da (λ_=>N (bQ []) (iM c n)) ae F:=by unfold fa;rw[aT (cu Y),aO av,he];simp
theorem ak4{da:ad Unit}{c:Ctx}{none:Bool}{n:Nat}{r ae:H}{F:ai}(Y:bn r=some ae)(av:an ae≠ .eof)(he:ec c (an ae)=true)(a:(none||n>0)=true):fa da c none n r F= .ok (.inr n) ae F:=by unfold fa;rw[aT (cu Y),aO av,he,a];rfl
theorem ak5(fr:Bool)(m:Nat)(c:Ctx)(r:Bool):∀(bz n:Nat)(u:H)(F:ai)(k:Nat)(l:ai),u.length<=bz->dL u->u≠[]->ck (fa (jj fr m) .text true) n u F= .ok k [] l->
  l=[]/\n<k/\∀v,ck (fa (jj fr m) c r) n (u++v) F=N (ck iC true) (λ_=>ck (fa (jj fr m) c r) k) v []:=by
 obtain⟨B,bc⟩:=YV fr m;intro bz;induction bz with
 |zero=>grind
 |succ bz U=>
  intro n u F k l av hu M h;rw[cK] at h;cases Y:bn u with
  |none=>
   have:fa (jj fr m) .text true n u F= .more [] (cV [] F []).1 (cV [] F []).2:=by unfold fa;exact dm (iN Y)
   rw[this] at h;cases h
  |some ae=>
   have s1:=ef Y;have z:=hu.sfx s1;obtain⟨O,_⟩:=tV [] Y hu M;have C:an ae≠ .eof:=λe=>O (lX.1 e);have kp:=mi _ _ _ (cS _) Y;have D:ec .text (an ae)=false:=by grind[ec,beq_false_of_ne]
   rw[IU Y C D] at h;cases i:jj fr m ae F with
   |more op nd ds=>rw[dm i] at h;cases h
   |bad q=>rw[hp i] at h;cases h
   |deep q=>unfold N at h;rw[i] at h;cases h
   |ok x V j=>
    rw[aT i] at h;have E:=bc z i;have G:=z.sfx (B.sfx i);have W:ec c (an ae)=false:=by grind[ec,an,YX]
    have kg:=s1.length_le;have j0:=(B.sfx i).length_le;cases s:bn V with
    |none=>rw[dm (iN s)] at h;cases h
    |some d=>
     rw[aT (cu s)] at h;have A:=G.sfx (ef s);have Fw:=(ef s).length_le;obtain⟨P,_⟩:=tV [] s G E
     have Q:∀v,fa (jj fr m) c r n (u++v) F=iM c n (an d) (d++v) j:=by intro v;have aW:=Fo v z O;rw[IU (tV v Y hu M).2 (by grind) (by grind),aT (B.ok v z i E),aT (cu (tV v s G E).2),Fo v A P]
     have a:∀(g:H)(y:Nat),dL g->g≠[]->g.length<=d.length->(∀v,fa (jj fr m) c r n (u++v) F=N c5 (λ_=>aZ (.inl y)) (g++v) j)->cX (fa (jj fr m) .text true) u (N c5 (λ_=>aZ (.inl y)) g j)= .ok k [] l->n<y->
       l=[]/\n<k/\∀v,ck (fa (jj fr m) c r) n (u++v) F=N (ck iC true) (λ_=>ck (fa (jj fr m) c r) k) v []:=by
      intro g y I X Z R h J;cases ax:c5 g j with
      |more op nd ds=>rw[dm ax] at h;cases h
      |bad q=>rw[hp ax] at h;cases h
      |deep q=>unfold N at h;rw[ax] at h;cases h
      |ok b S lK=>
       rw[aT ax] at h;unfold cX at h;simp only[aZ] at h;split at h
       ·rename_i e9;by_cases K:S=[]
        ·subst K;rw[qL,SJ] at h;simp only[if_true] at h;cases h;obtain⟨la,qu,xj⟩:=YW _ false g j b l (Nat.le_refl _) I X (by simp_all[tW]);refine⟨la,J,λv=>?_⟩;rw[cK,R v];unfold cX;have rL:c5 (g++v) j=ck iC true v []:=by simp_all[tW]
         unfold N;rw[rL];cases aB:ck iC true v [] with
         |ok fN v2 vj=>
          simp only[aZ];have:v2.length<=v.length:=by have:=ao.rep (f:=iC) iY.lines true;exact(this.sfx aB).length_le
          grind
         |_=>rfl
        ·obtain⟨i1,i2,i3⟩:=U y S lK k l (by omega) (I.sfx (ao.lines.sfx ax)) K h;refine⟨i1,by omega,λv=>?_⟩;rw[cK,R v,aT (ao.lines.ok v I ax K)];simp_all[cX,aZ,bh]
       grind
     cases t:an d with
     |eof=>grind[absurd,lX]
     |line=>rw[t] at h;unfold iM at h;refine a d (n+1) A P (cS _) (λv=>by rw[Q v,t];rfl) h (yk _)
     |word w p=>rw[t] at h;cases h
     |op o=>
      rw[t] at h;unfold iM at h;simp only at h;by_cases T:o=[59]\/o=[38]
      ·rw[bh T] at h;have L:o.length=1:=by grind
       have aD:d.drop 1≠[]:=akX t L.symm A;refine a (d.drop 1) (n+1) (A.sfx (lM _ _)) aD (by simp) (λv=>?_) h (yk _);rw[Q v,t];unfold iM;simp only;rw[bh T,aT (show b5 1 (d++v) j= .ok () (d.drop 1++v) j from by grind[b5,YE])]
      simp_all[aO,ec,bE,cX]
def AW{α:Type}(x y:dD α):Prop:=(∃q,x= .deep q)\/y=x\/∃op a nd ds,x= .more op nd ds/\y= .more a nd ds
def aQ{α:Type}(f g:ad α):Prop:=∀r F,AW (f r F) (g r F)
theorem aQ.refl{α:Type}(f:ad α):aQ f f:=λ_ _=> .inr (.inl rfl)
theorem aQ.deep{α:Type}(g:ad α):aQ tS g:=λr _=> .inl ⟨r,rfl⟩
theorem aQ.N{α β:Type}{m b:ad α}{k k':α->ad β}(hm:aQ m b)(aw:∀a,aQ (k a) (k' a)):aQ (Go.Eng.N m k) (Go.Eng.N b k'):=by
 intro r F;rcases hm r F with⟨q,h⟩|h|⟨op,d,nd,ds,M,U⟩
 ·left;simp_all[Go.Eng.N]
 ·unfold Go.Eng.N;rw[h];cases m r F with
  |ok a ae c=>exact aw a ae c
  |more op nd ds=>exact .inr (.inl rfl)
  |bad q=>exact .inr (.inl rfl)
  |deep q=>exact .inl ⟨q,rfl⟩
 ·right;grind[Go.Eng.N]
theorem aQ.aI{α:Type}{m a:ad α}(hm:aQ m a)(x:H):aQ (m.aI x) (a.aI x):=by
 intro r F;unfold ad.aI;rcases hm r F with⟨q,h⟩|h|⟨op,b,nd,ds,M,U⟩
 ·left;grind
 ·rw[h];exact .inr (.inl rfl)
 ·rw[M,U];exact .inr (.inr ⟨_,_,_,_,rfl,rfl⟩)
theorem aQ.YZ{α:Type}{m a:ad α}(hm:aQ m a)(x:H):aQ (m.named x) a:=by
 intro r F;unfold ad.named;rcases hm r F with⟨q,h⟩|h|⟨op,b,nd,ds,M,U⟩
 ·left;grind
 ·rw[h];cases m r F with
  |more op nd ds=>exact .inr (.inr ⟨_,_,_,_,rfl,rfl⟩)
  |_=>exact .inr (.inl rfl)
 ·rw[M,U];exact .inr (.inr ⟨_,_,_,_,rfl,rfl⟩)
theorem aQ.ak_{α:Type}{m a:ad α}(hm:aQ m a)(x:H):aQ m (a.named x):=by
 intro r F;unfold ad.named;rcases hm r F with⟨q,h⟩|h|⟨op,b,nd,ds,M,U⟩
 ·left;grind
 ·rw[h];cases m r F with
  |more op nd ds=>exact .inr (.inr ⟨_,_,_,_,rfl,rfl⟩)
  |_=>exact .inr (.inl rfl)
 ·rw[M,U];exact .inr (.inr ⟨_,_,_,_,rfl,rfl⟩)
theorem aQ.named{α:Type}{m a:ad α}(hm:aQ m a)(x y:H):aQ (m.named x) (a.named y):=(hm.YZ x).ak_ y
theorem aQ.ite{α:Type}{c:Prop}[Decidable c]{f g a b:ad α}(hf:aQ f a)(bt:aQ g b):aQ (if c then f else g) (if c then a else b):=by grind
theorem aQ.rep{σ α:Type}{f c:σ->ad (σ⊕α)}(h:∀s,aQ (f s) (c s))(s:σ):aQ (ck f s) (ck c s):=by
 have b:∀(n:Nat)(s:σ)(r:H)(F:ai),r.length<=n->AW (ck f s r F) (ck c s r F):=by
  intro n;induction n with
  |zero=>
   intro s r F av;rw[cK,cK];have Z:r=[]:=nQ.1 (by omega);rcases h s r F with⟨q,e⟩|e|⟨op,i,nd,ds,d,g⟩
   ·left;exact⟨q,by rw[e];rfl⟩
   ·rw[e];cases f s r F with
    |ok x ae j=>
     cases x with
     |inl s'=>right;simp_all[cX,aO]
     |inr a=>exact .inr (.inl rfl)
    |deep q=>exact .inl ⟨q,rfl⟩
    |_=>exact .inr (.inl rfl)
   ·rw[d,g];exact .inr (.inr ⟨_,_,_,_,rfl,rfl⟩)
  |succ n k=>
   intro s r F av;rw[cK,cK];rcases h s r F with⟨q,e⟩|e|⟨op,i,nd,ds,d,g⟩
   ·left;exact⟨q,by rw[e];rfl⟩
   ·rw[e];cases f s r F with
    |ok x ae j=>
     cases x with
     |inl s'=>
      unfold cX;simp only;by_cases ax:ae.length<r.length
      ·grind
      ·rw[aO ax,aO ax];exact .inr (.inl rfl)
     |inr a=>exact .inr (.inl rfl)
    |deep q=>exact .inl ⟨q,rfl⟩
    |_=>exact .inr (.inl rfl)
   ·rw[d,g];exact .inr (.inr ⟨_,_,_,_,rfl,rfl⟩)
 exactλr F=>b _ s r F (cS _)
section
variable{D k1:ad Unit}(hD:aQ D k1)
include hD
theorem aQ.part{dq a:Option (ad Unit)}(c:match dq,a with|none,none=>True|some q,some d=>aQ q d|_,_=>False):aQ (cD D dq) (cD k1 a):=by
 intro r F;cases r with
 |nil=>exact .inr (.inl rfl)
 |cons b t=>
  unfold cD;simp only;split
  ·exact .inr (.inl rfl)
  ·split
   ·exact .inr (.inl rfl)
   ·split
    ·exact hD _ _
    ·match dq,a,c with
     |none,none,_=>exact .inr (.inl rfl)
     |some q,some d,c=>
      simp only;split
      ·exact .inr (.inl rfl)
      ·split
       ·exact c _ _
       ·exact .inr (.inl rfl)
omit hD in
theorem aQ.AT(c:UInt8){p a:ad Unit}(az:aQ p a):aQ (jy c p) (jy c a):=by
 refine aQ.rep (λ_ r F=>?_) ();cases r with
 |nil=>exact .inr (.inl rfl)
 |cons b t=>
  simp only;split
  ·exact .inr (.inl rfl)
  ·exact aQ.N az (λ_=>aQ.refl _) _ _
theorem aQ.double:aQ (eJ D) (eJ k1):=((aQ.AT 34 (aQ.part hD trivial)).aI _).named _ _
theorem aQ.zf:aQ (cD D (some (eJ D))) (cD k1 (some (eJ k1))):=aQ.part hD (aQ.double hD)
theorem aQ.param:aQ (qG D) (qG k1):=(aQ.AT 125 (aQ.zf hD)).aI _
theorem aQ.word:aQ (cO D) (cO k1):=by
 refine aQ.rep (λ_ r F=>?_) ();cases r with
 |nil=>exact .inr (.inl rfl)
 |cons b t=>
  simp only;split
  ·exact .inr (.inl rfl)
  ·exact aQ.N (aQ.zf hD) (λ_=>aQ.refl _) _ _
theorem aQ.Fq(x:H):aQ (jK D x) (jK k1 x):=by refine aQ.N (aQ.refl _) λt=>?_;grind[aQ.word,aQ.refl]
theorem aQ.iB:aQ (dI D) (dI k1):=by
 refine aQ.N (aQ.refl _) λo=>?_;cases o with
 |none=>simp[aQ.refl]
 |some o=>exact aQ.N (aQ.ite (aQ.refl _) (aQ.ite (aQ.refl _) (aQ.Fq hD _))) λ_=>aQ.refl _
theorem aQ.lY:aQ (g0 D) (g0 k1):=aQ.rep (λ_=>aQ.N (aQ.iB hD) λ_=>aQ.refl _) ()
theorem aQ.words:aQ (pt D) (pt k1):=by refine aQ.rep (λ_=>aQ.N (aQ.refl _) λt=>?_) ();grind[aQ.word,aQ.N,aQ.refl]
theorem aQ.vk:aQ (lj D) (lj k1):=by refine aQ.rep (λ_=>aQ.N (aQ.refl _) λt=>?_) ();grind[aQ.word,aQ.N,aQ.aI,aQ.refl]
end
structure zh(l gq:dK):Prop where
 ls:∀c n,aQ (l.ls c n) (gq.ls c n)
 pm:aQ l.pm gq.pm
 cp:∀t,aQ (l.cp t) (gq.cp t)
 rd:aQ l.rd gq.rd
 dl:aQ l.dl gq.dl
 has:l.has=true->gq.has=true
section
variable{l gq:dK}(h:zh l gq)
include h
theorem aQ.body(x:H):aQ (iX l x) (iX gq x):=aQ.N (aQ.refl _) λ_=>aQ.N ((h.ls _ _).aI _) λ_=>aQ.refl _
theorem aQ.cond:aQ (qI l) (qI gq):=aQ.rep (λ_=>aQ.N ((h.ls _ _).aI _) λ_=>aQ.N (aQ.refl _) λ_=>aQ.N ((h.ls _ _).aI _) λ_=>aQ.N (aQ.refl _) λt=>aQ.ite (aQ.refl _) (aQ.ite (aQ.N (aQ.refl _) λ_=>aQ.N ((h.ls _ _).aI _) λ_=>aQ.refl _) (aQ.refl _))) ()
theorem aQ.for_{D k1:ad Unit}(hD:aQ D k1):aQ (pv l D) (pv gq k1):=by
 refine aQ.N (aQ.refl _) λt=>?_;cases t with
 |word w p=>
  cases p with
  |true=>exact aQ.ite (aQ.N (aQ.refl _) λ_=>aQ.N (aQ.aI (aQ.N (aQ.refl _) λt=>aQ.ite (aQ.refl _) (aQ.N (aQ.refl _) λ_=>aQ.N (aQ.refl _) λt=>aQ.ite (aQ.N (aQ.refl _) λ_=>aQ.N (aQ.words hD) λ_=>aQ.refl _) (aQ.refl _))) _) λ_=>aQ.body h _) (aQ.refl _)
  |false=>simp[aQ.refl]
 |_=>simp[aQ.refl]
theorem aQ.items{D k1:ad Unit}(hD:aQ D k1):aQ (nJ l D) (nJ gq k1):=
 aQ.rep (λ_=>aQ.N (aQ.refl _) λ_=>aQ.N (aQ.refl _) λt=>aQ.ite (aQ.refl _) (aQ.ite (aQ.refl _) (aQ.N (aQ.refl _) λ_=>aQ.N (aQ.vk hD) λ_=>aQ.N (h.ls _ _) λ_=>aQ.refl _))) ()
theorem aQ.vl{D k1:ad Unit}(hD:aQ D k1):aQ (qJ l D) (qJ gq k1):=by
 refine aQ.N (aQ.refl _) λt=>?_;cases t with
 |word w p=>exact aQ.N (aQ.aI (aQ.N (aQ.word hD) λ_=>aQ.refl _) _) λt=>aQ.ite (aQ.N (aQ.refl _) λ_=>(aQ.items h hD).aI _) (aQ.refl _)
 |_=>simp[aQ.refl]
theorem aQ.kind(t:Tok):aQ (gA l t) (gA gq t):=by
 cases t with
 |op o=>show aQ (Go.Eng.N (b5 1) λ_=>Go.Eng.N ((l.ls .paren false).aI [41]) λ_=>ji [41]) (Go.Eng.N (b5 1) λ_=>Go.Eng.N ((gq.ls .paren false).aI [41]) λ_=>ji [41]);exact aQ.N (aQ.refl _) λ_=>aQ.N ((h.ls _ _).aI _) λ_=>aQ.refl _
 |word w p=>unfold gA;exact aQ.N (aQ.refl _) λ_=>aQ.ite (aQ.N ((h.ls _ _).aI _) λ_=>aQ.refl _) (aQ.ite (aQ.cond h) (aQ.ite (aQ.for_ h h.dl) (aQ.ite (aQ.vl h h.dl) (aQ.N ((h.ls _ _).aI _) λ_=>aQ.body h _))))
 |_=>exact aQ.refl _
end
def Fy(lo a:Option dK):Prop:=∀l,lo=some l->∃gq,a=some gq/\zh l gq
theorem aQ.rJ{lo b:Option dK}(h:Fy lo b){n:Nat}{f a:dK->ad Unit}(hf:∀l gq,zh l gq->aQ (f l) (a gq)):aQ (rJ lo n f) (rJ b n a):=by
 cases lo with
 |none=>exact aQ.deep _
 |some l=>obtain⟨gq,rfl,ax⟩:=h l rfl;show aQ (Go.Eng.N (b5 n) λ_=>f l) (Go.Eng.N (b5 n) λ_=>a gq);grind[aQ.N,aQ.refl]
theorem aQ.qQ{lo a:Option dK}(h:Fy lo a):aQ (dy lo) (dy a):=by
 intro r F;unfold dy;split
 ·exact .inr (.inl rfl)
 ·split
  ·exact aQ.rJ h (λl gq ax=>aQ.N (((ax.ls _ _).aI _).named _ _) λ_=>aQ.refl _) r F
  ·split
   ·exact aQ.rJ h (λl gq ax=>ax.pm.named _ _) r F
   ·exact .inr (.inl rfl)
theorem aQ.cp{lo a:Option dK}(h:Fy lo a)(t:Tok):aQ (qK lo t) (qK a t):=by
 cases lo with
 |none=>exact aQ.deep _
 |some l=>obtain⟨gq,rfl,ax⟩:=h l rfl;exact(aQ.kind ax t).named _ _
def Y0{α:Type}(x y:dD α):Prop:=AW x y\/∃t a F,x= .bad (40::t)/\y= .ok a (40::t) F
def fy{α:Type}(f g:ad α):Prop:=∀r F,Y0 (f r F) (g r F)
theorem aQ.b{α:Type}{f g:ad α}(h:aQ f g):fy f g:=λr F=> .inl (h r F)
theorem fy.ite{α:Type}{c:Prop}[Decidable c]{f g a b:ad α}(hf:fy f a)(bt:fy g b):fy (if c then f else g) (if c then a else b):=by grind
theorem fy.pw{α β:Type}{m b:ad α}{k k':α->ad β}(hm:aQ m b)(aw:∀a,fy (k a) (k' a)):fy (N m k) (N b k'):=by
 intro r F;rcases hm r F with⟨q,h⟩|h|⟨op,d,nd,ds,M,U⟩
 ·left;left;simp_all[N]
 ·unfold N;rw[h];cases m r F with
  |ok a ae c=>exact aw a ae c
  |more op nd ds=>exact .inl (.inr (.inl rfl))
  |bad q=>exact .inl (.inr (.inl rfl))
  |deep q=>exact .inl (.inl ⟨q,rfl⟩)
 ·left;right;grind[N]
theorem fy.l1{α β:Type}{m d:ad α}{k k':α->ad β}(hm:fy m d)(aw:∀a,fy (k a) (k' a))(Y:∀a t F,∃b e,k' a (40::t) F= .ok b (40::t) e):fy (N m k) (N d k'):=by
 intro r F;rcases hm r F with(⟨q,h⟩|h|⟨op,f,nd,ds,M,U⟩)|⟨t,a,c,M,U⟩
 ·left;left;simp_all[N]
 ·unfold N;rw[h];cases m r F with
  |ok a ae c=>exact aw a ae c
  |more op nd ds=>exact .inl (.inr (.inl rfl))
  |bad q=>exact .inl (.inr (.inl rfl))
  |deep q=>exact .inl (.inl ⟨q,rfl⟩)
 ·left;right;grind[N]
 ·right;obtain⟨b,e,g⟩:=Y a t c;grind[hp,aT]
theorem fy.rep{σ α:Type}{f i:σ->ad (σ⊕α)}(h:∀s,fy (f s) (i s))(Y:∀s t F,∃a j,i s (40::t) F= .ok (.inr a) (40::t) j)(s:σ):fy (ck f s) (ck i s):=by
 have g:∀(n:Nat)(s:σ)(r:H)(F:ai),r.length<=n->Y0 (ck f s r F) (ck i s r F):=by
  intro n;induction n with
  |zero=>
   intro s r F av;rw[cK,cK];have Z:r=[]:=nQ.1 (by omega);rcases h s r F with(⟨q,e⟩|e|⟨op,k,nd,ds,b,c⟩)|⟨t,a,d,b,c⟩
   ·left;left;exact⟨q,by rw[e];rfl⟩
   ·rw[e];cases f s r F with
    |ok x ae d=>
     cases x with
     |inl s'=>left;right;simp_all[cX,aO]
     |inr a=>exact .inl (.inr (.inl rfl))
    |deep q=>exact .inl (.inl ⟨q,rfl⟩)
    |_=>exact .inl (.inr (.inl rfl))
   ·rw[b,c];exact .inl (.inr (.inr ⟨_,_,_,_,rfl,rfl⟩))
   ·rw[b,c];cases a with
    |inr a=>exact .inr ⟨t,a,d,rfl,rfl⟩
    |inl s'=>left;right;simp_all[cX,aO]
  |succ n m=>
   intro s r F av;rw[cK,cK];rcases h s r F with(⟨q,e⟩|e|⟨op,k,nd,ds,b,c⟩)|⟨t,a,d,b,c⟩
   ·left;left;exact⟨q,by rw[e];rfl⟩
   ·rw[e];cases f s r F with
    |ok x ae d=>
     cases x with
     |inl s'=>
      unfold cX;simp only;by_cases ax:ae.length<r.length
      ·grind
      ·rw[aO ax,aO ax];exact .inl (.inr (.inl rfl))
     |inr a=>exact .inl (.inr (.inl rfl))
    |deep q=>exact .inl (.inl ⟨q,rfl⟩)
    |_=>exact .inl (.inr (.inl rfl))
   ·rw[b,c];exact .inl (.inr (.inr ⟨_,_,_,_,rfl,rfl⟩))
   ·rw[b,c];cases a with
    |inr a=>exact .inr ⟨t,a,d,rfl,rfl⟩
    |inl s'=>
     unfold cX;simp only;by_cases ax:(40::t).length<r.length
     ·rw[bh ax];right;obtain⟨a,j,l⟩:=Y s' t d;exact⟨t,a,j,rfl,by rw[cK,l];rfl⟩
     ·rw[aO ax];exact .inl (.inr (.inl rfl))
 exactλr F=>g _ s r F (cS _)
theorem IW(t:H):bn (40::t)=some (40::t):=by simp[nK,fL]
theorem wA(t:H):an (40::t)= .op [40]:=by rfl
theorem ala{D:ad Unit}(t:H)(F:ai):dI D (40::t) F= .ok false (40::t) F:=by
 have:fX (40::t) F= .ok none (40::t) F:=by unfold fX;rw[IW];rfl
 unfold dI;rw[aT this];rfl
theorem Fz{x:H}(t:H)(F:ai):bQ x (40::t) F= .ok (.op [40]) (40::t) F:=by simp[cu,IW,wA]
theorem Y1(m:ad Unit):N m (λ_=>aZ ())=m:=by
 funext r F
 unfold N;cases m r F<;>rfl
theorem k2{α β b:Type}(m:ad α)(k:α->ad β)(R:β->ad b):N (N m k) R=N m (λa=>N (k a) R):=by grind[N]
theorem zi{α β:Type}{c:Prop}[Decidable c](f g:ad α)(R:α->ad β):N (if c then f else g) R=if c then N f R else N g R:=by grind
theorem Y2{α β:Type}(x:H)(R:α->ad β):N (cb x) R=cb x:=rfl
theorem Y3{α β:Type}(R:α->ad β):N bE R=bE:=rfl
theorem aQ.alb{α β:Type}{x:ad β}{g:ad α}{R:α->ad β}(h:aQ x (Go.Eng.N g R))(nm:H):aQ x (Go.Eng.N (g.named nm) R):=by
 intro r F
 have e:Go.Eng.N (g.named nm) R r F=Go.Eng.N g R r F\/∃op a nd ds,Go.Eng.N g R r F= .more op nd ds/\Go.Eng.N (g.named nm) R r F= .more a nd ds:=by unfold Go.Eng.N ad.named;grind
 rcases e with e|⟨op,a,nd,ds,b,c⟩
 ·rw[e];exact h r F
 ·rcases h r F with⟨q,h⟩|h|⟨d,f,i,j,M,U⟩
  ·exact .inl ⟨q,h⟩
  ·right;grind
  ·rw[b] at U;cases U;exact .inr (.inr ⟨_,_,_,_,M,c⟩)
section
variable{fr oD:Bool}(hf:fr=oD\/fr=true/\oD=false)
include hf
theorem fy.simple{D k1:ad Unit}(hD:aQ D k1):fy (ho fr D) (ho oD k1):=by
 rcases hf with rfl|⟨rfl,rfl⟩
 ·refine aQ.b (aQ.rep (λ_=>aQ.N (aQ.iB hD) λb=>aQ.ite (aQ.refl _) (aQ.N (aQ.refl _) λt=>?_)) ());grind[aQ.N,aQ.word,aQ.refl]
 ·refine fy.rep (λ_=>fy.pw (aQ.iB hD) λb=>fy.ite (aQ.b (aQ.refl _)) (λr F=>?_)) (λ_ t F=>?_) ()
  ·cases Y:bn r with
   |none=>rw[dm (iN Y),dm (iN Y)];exact .inl (.inr (.inl rfl))
   |some ae=>
    rw[aT (cu Y),aT (cu Y)];cases c:an ae with
    |word w p=>exact .inl (aQ.N (aQ.word hD) (λ_=>aQ.refl _) ae F)
    |op o=>
     simp only;by_cases a:o=[40]
     ·subst a;obtain⟨_,U,_,_⟩:=h4 c;obtain⟨t,rfl⟩:=U;exact .inr ⟨t,_,_,rfl,rfl⟩
     ·simp[a];exact .inl (.inr (.inl rfl))
    |_=>exact .inl (.inr (.inl rfl))
  ·refine⟨(),F,?_⟩;rw[aT (ala t F)];simp only[fo,cH];rw[aT (Fz t F)];rfl
theorem aQ.fn{lo b:Option dK}{k1:ad Unit}(h:Fy lo b)(Z:fr=true->oD=false->∀l,lo=some l->aQ l.rd (g0 k1)){D:ad Unit}(hD:aQ D k1):
  aQ (Go.Eng.N (kH fr lo) λ_=>if fr then aZ () else g0 D) (Go.Eng.N (kH oD b) λ_=>if oD then aZ () else g0 k1):=by
 cases lo with
 |none=>intro r F;exact .inl ⟨r,rfl⟩
 |some l=>
  obtain⟨gq,rfl,ax⟩:=h l rfl;by_cases a:l.has=true
  ·have c:=ax.has a;rcases hf with rfl|⟨rfl,rfl⟩
   ·refine aQ.N ?_ λ_=>aQ.ite (aQ.refl _) (aQ.lY hD);unfold kH;simp only[a,c,cU];exact aQ.named (aQ.N (aQ.refl _) λ_=>aQ.N (aQ.refl _) λt=>aQ.ite (aQ.refl _) (aQ.ite (aQ.N (aQ.refl _) λ_=>aQ.N (aQ.refl _) λ_=>aQ.N (aQ.refl _) λt=>aQ.ite (aQ.refl _) (aQ.ite (aQ.N (ax.cp t) λ_=>aQ.ite ax.rd (aQ.refl _)) (aQ.refl _))) (aQ.refl _))) _ _
   ·have d:=Z rfl rfl l rfl;simp only[cU,fo,cH];rw[Y1];unfold kH;simp only[a,c,cU,fo,cH];refine aQ.YZ (aQ.alb ?_ _) _;rw[k2];refine aQ.N (aQ.refl _) λ_=>?_;rw[k2];refine aQ.N (aQ.refl _) λt=>?_;rw[zi,Y2,zi,Y3];refine aQ.ite (aQ.refl _) (aQ.ite ?_ (aQ.refl _));rw[k2];refine aQ.N (aQ.refl _) λ_=>?_;rw[k2];refine aQ.N (aQ.refl _) λ_=>?_;rw[k2];refine aQ.N (aQ.refl _) λt=>?_;rw[zi,Y2,zi,Y3];refine aQ.ite (aQ.refl _) (aQ.ite ?_ (aQ.refl _));rw[Y1];exact aQ.N (ax.cp t) λ_=>d
  ·intro r F;left;refine⟨r,?_⟩;unfold kH;simp only[a,cH,fo];rfl
theorem fy.command{lo a:Option dK}{D k1:ad Unit}(h:Fy lo a)(hD:aQ D k1)(Z:fr=true->oD=false->∀l,lo=some l->aQ l.rd (g0 k1)):fy (fM fr lo D) (fM oD a k1):=by
 refine fy.pw (aQ.refl _) λt=>fy.ite (aQ.b (aQ.refl _)) (fy.ite (aQ.b (aQ.N (aQ.cp h t) λ_=>aQ.lY hD)) ?_);cases t with
 |op o=>exact fy.ite (fy.pw (aQ.iB hD) λ_=>fy.simple hf hD) (aQ.b (aQ.refl _))
 |word w p=>refine fy.ite (aQ.b (aQ.refl _)) (fy.pw (aQ.iB hD) λb=>fy.ite (fy.simple hf hD) (fy.pw (aQ.word hD) λ_=>fy.ite (fy.pw (aQ.refl _) λt=>fy.ite (aQ.b (aQ.fn hf h Z hD)) (fy.simple hf hD)) (fy.simple hf hD)))
 |_=>simp[aQ.b,aQ.refl]
omit hf in
theorem fy.pipe{de b:ad Unit}(h:fy de b):fy (fv de) (fv b):=by
 have stop:∀(de:ad Unit)(s:Unit)(t:H)(F:ai),∃a c,(Go.Eng.N (bQ []) λt=>if t= .op [124] then Go.Eng.N (b5 1) λ_=>Go.Eng.N (c5.aI [120]) λ_=>Go.Eng.N de λ_=>aZ (.inl ()) else aZ (.inr ()):ad (Unit⊕Unit)) (40::t) F= .ok (.inr a) (40::t) c:=by intro de s t F;refine⟨(),F,?_⟩;rw[aT (Fz t F)];rfl
 refine fy.pw (aQ.refl _) λt=>fy.pw (aQ.refl _) λ_=>fy.l1 h (λ_=>fy.rep (λ_=>fy.pw (aQ.refl _) λt=>fy.ite (fy.pw (aQ.refl _) λ_=>fy.pw (aQ.refl _) λ_=>fy.l1 h (λ_=>aQ.b (aQ.refl _)) λ_ t F=>⟨_,_,rfl⟩) (aQ.b (aQ.refl _))) (stop b) ()) λ_ t F=>?_;obtain⟨a,c,e⟩:=stop b () t F;exact⟨a,c,by rw[cK,e];rfl⟩
omit hf in
theorem fy.oC{b c:ad Unit}(h:fy b c):fy (hT b) (hT c):=by
 have stop:∀(b:ad Unit)(s:Unit)(t:H)(F:ai),∃a d,(Go.Eng.N (bQ []) λt=>if t= .op [38,38]\/t= .op [124,124] then Go.Eng.N (b5 2) λ_=>Go.Eng.N (c5.aI [120]) λ_=>Go.Eng.N b λ_=>aZ (.inl ()) else aZ (.inr ()):ad (Unit⊕Unit)) (40::t) F= .ok (.inr a) (40::t) d:=by intro b s t F;refine⟨(),F,?_⟩;rw[aT (Fz t F)];rfl
 refine fy.l1 h (λ_=>fy.rep (λ_=>fy.pw (aQ.refl _) λt=>fy.ite (fy.pw (aQ.refl _) λ_=>fy.pw (aQ.refl _) λ_=>fy.l1 h (λ_=>aQ.b (aQ.refl _)) λ_ t F=>⟨_,_,rfl⟩) (aQ.b (aQ.refl _))) (stop c) ()) λ_ t F=>?_;obtain⟨a,d,e⟩:=stop c () t F;exact⟨a,d,by rw[cK,e];rfl⟩
omit hf in
theorem aQ.list{da f:ad Unit}(h:fy da f)(c:Ctx)(none:Bool):aQ (n4 da c none) (n4 f c none):=by
 rw[sj,sj];refine aQ.N (aQ.refl _) λ_=>aQ.rep (λn=>aQ.N (aQ.refl _) λt=>aQ.ite (aQ.refl _) (aQ.ite (aQ.refl _) (λr F=>?_))) 0;rcases h r F with(⟨q,e⟩|e|⟨op,g,nd,ds,b,d⟩)|⟨t,a,i,b,d⟩
 ·left;simp_all[Go.Eng.N]
 ·unfold Go.Eng.N;rw[e];cases da r F with
  |deep q=>exact .inl ⟨q,rfl⟩
  |_=>exact .inr (.inl rfl)
 ·exact .inr (.inr ⟨op,g,nd,ds,dm b,dm d⟩)
 ·right;left;rw[hp b,aT d,aT (Fz t i)];unfold iM;cases c<;>simp[ec,cE,bE]
end
theorem zh.of{fr oD:Bool}(hf:fr=oD\/fr=true/\oD=false){lo a:Option dK}(h:Fy lo a)(Z:fr=true->oD=false->∀l,lo=some l->aQ l.rd (g0 (dy a))){b d:Bool}(e:b=true->d=true):
  zh {ls:=n4 (hT (fv (fM fr lo (dy lo)))),pm:=qG (dy lo),cp:=qK lo,rd:=g0 (dy lo),dl:=dy lo,has:=b} {ls:=n4 (hT (fv (fM oD a (dy a)))),pm:=qG (dy a),cp:=qK a,rd:=g0 (dy a),dl:=dy a,has:=d}:=
 ⟨λc n=>aQ.list (fy.oC (fy.pipe (fy.command hf h (aQ.qQ h) Z))) c n,aQ.param (aQ.qQ h),λt=>aQ.cp h t,aQ.lY (aQ.qQ h),aQ.qQ h,e⟩
theorem SO{fr oD:Bool}(hf:fr=oD\/fr=true/\oD=false):∀n m,n<=m->zh (aS fr n) (aS oD m)
 |0,0,_=>zh.of hf (λl h=>by cases h) (λ_ _ l h=>by cases h) (λh=>h)
 |0,m+1,_=>zh.of hf (λl h=>by cases h) (λ_ _ l h=>by cases h) (λh=>rfl)
 |n+1,m+1,h=>zh.of hf (λl e=>by cases e;exact⟨_,rfl,SO hf n m (by omega)⟩) (λ_ _ l e=>by cases e;exact(SO hf n (m+1) (by omega)).rd) (λh=>h)
theorem alc{fr oD:Bool}(hf:fr=oD\/fr=true/\oD=false){n m:Nat}(h:n<=m)(r:H):AW (h3 fr n r) (h3 oD m r):=(SO hf n m h).ls .text true r []
theorem ald{fr:Bool}{m:Nat}{u:H}{k:Nat}{r:H}{F:ai}(h:h3 fr m u= .ok k r F):r=[]:=by
 unfold h3 at h;rw[AV] at h;obtain⟨_,ae,d,M,U⟩:=b7 h;refine MM (iY.round (YV fr m).1 .text true) _ (λr=>r=[]) (λ_ _ _ _ _ _ _ _=>trivial) ?_ _ _ _ _ _ _ _ (cS _) trivial U;intro n r F a r' i _ e;obtain⟨t,ae,d,M,U⟩:=b7 e;obtain⟨j,rfl,rfl⟩:=nM M;split at U
 ·cases U;grind[lX]
 ·split at U
  ·grind[ec,absurd]
  ·obtain⟨_,l,q,s,f⟩:=b7 U;obtain⟨t,v,x,y,b⟩:=b7 f;unfold iM at b;cases t with
   |eof=>cases b
   |line=>obtain⟨_,_,_,_,c⟩:=b7 b;cases c
   |word w p=>cases b
   |op o=>
    simp only at b;split at b
    ·obtain⟨_,_,_,_,c⟩:=b7 b;obtain⟨_,_,_,_,g⟩:=b7 c;cases g
    grind[ec,bE]
theorem ale:∀(bz:Nat)(b:Bool)(r:H)(F:ai),r.length<=bz->(∃r' c,(∃x,ck iC b r F= .ok x r' c)/\∃x,ck iC (!b) r F= .ok x r' c)\/ck iC b r F=ck iC (!b) r F:=by
 intro bz b r F av;cases Y:bn r with
 |none=>
  rw[cK,cK];have:∀b,iC b r F= .more [] _ _:=λb=>dm (iN Y)
  grind
 |some ae=>
  by_cases a:an ae= .line
  ·obtain⟨t,rfl⟩:=wy a;grind[cK,wz]
  ·left;exact⟨ae,F,⟨b,by rw[cK,s3 Y a];rfl⟩,⟨!b,by rw[cK,s3 Y a];rfl⟩⟩
def o0(b:UInt8):Bool:=b==60||b==62||b==38||b==124||b==59||b==40||b==41
theorem mV{b:UInt8}{t:H}(h:o0 b=false):bu (b::t)=[]:=by
 simp only[o0,J3,OL,ne_eq] at h;obtain⟨⟨⟨⟨⟨⟨M,U⟩,a⟩,d⟩,f⟩,g⟩,i⟩:=h
 have e:∀(c:UInt8)(o:H),b≠c->(c::o).isPrefixOf (b::t)=false:=by grind
 simp_all[bu,kG,w3,List.find?_nil]
def qT(b:UInt8):Bool:= !fL b&&b !=10&& !o0 b&&b !=92&&b !=39&&b !=34&&b !=96&&b !=36
theorem IX{b:UInt8}(h:qT b=true):fL b=false/\b≠10/\o0 b=false/\b≠92/\b≠39/\b≠34/\b≠96/\b≠36:=by simp_all[qT,hU,Bw,bne_iff_ne,ne_eq]
theorem IY{b:UInt8}{t:H}(h:qT b=true):c4 (b::t)=false:=by grind[IX,c4,mV]
theorem Y6{b:UInt8}{t:H}(h:b≠36):gI (b::t)=false:=by
 unfold gI;split
 ·rename_i M;cases M;exact absurd rfl h
 ·rename_i M;cases M;exact absurd rfl h
 ·rfl
theorem Y7:∀(w r:H),w.all qT=true->c4 r=true->dg (w++r)=(w,true)
 |[],r,_,Z=>by
  cases r with
  |nil=>rfl
  |cons b t=>grind[dg]
 |b::w,r,a,Z=>by simp only[By,hU] at a;obtain⟨M,U,c,d,e,f,g,h⟩:=IX a.1;simp only[ib];simp_all[dg,IY,aO,Y6,Y7]
theorem n6{w r:H}(av:w≠[])(a:w.all qT=true)(Z:c4 r=true):an (w++r)= .word w true:=by
 have az:=Y7 w r a Z;cases w with
 |nil=>grind
 |cons b t=>simp only[By,hU] at a;simp_all[IX,ib,an,aO,mV]
theorem jX{b:UInt8}{t:H}(M:fL b=false)(U:b≠35)(a:b≠92):bn (b::t)=some (b::t):=by grind[nK]
theorem k3(t:H):bn (32::t)=bn t:=by simp[nK,fL]
theorem Y8{D:ad Unit}{dq:Option (ad Unit)}{b:UInt8}{t:H}{F:ai}(h:qT b=true):cD D dq (b::t) F= .ok () t F:=by obtain⟨M,U,e,a,f,g,c,d⟩:=IX h;unfold cD;simp only[a,c,Y6 d,cH,fo];grind
theorem C5{D:ad Unit}{b:UInt8}{t r':H}{F a:ai}(c:c4 (b::t)=false)(h:cD D (some (eJ D)) (b::t) F= .ok () r' a)(ax:r'.length<(b::t).length):cO D (b::t) F=cO D r' a:=by unfold cO;rw[cK];simp only[c,fo,cH];rw[aT h];simp_all[cX,aZ,cU]
theorem SP{D:ad Unit}:∀(w r:H)(F:ai),w.all qT=true->cO D (w++r) F=cO D r F
 |[],r,F,_=>rfl
 |b::w,r,F,a=>by simp only[By,hU] at a;simp only[ib];rw[C5 (IY a.1) (Y8 a.1) (by simp),SP w r F a.2]
theorem MS{c b:UInt8}{part:ad Unit}{t r':H}{F a:ai}(d:b≠c)(h:part (b::t) F= .ok () r' a)(ax:r'.length<(b::t).length):jy c part (b::t) F=jy c part r' a:=by unfold jy;rw[cK];simp only[d,cH];rw[aT h];simp_all[cX,aZ,cU]
theorem Y9{D:ad Unit}{v v':H}{F:ai}(Y:bn v=some v')(h:fg (bu (v'.dropWhile cf))=false):dI D v F= .ok false v' F/\g0 D v F= .ok () v' F:=by
 have e:dI D v F= .ok false v' F:=by
  have:fX v F= .ok none v' F:=by grind[fX]
  unfold dI;rw[aT this];rfl
 refine⟨e,?_⟩;unfold g0;rw[cK,aT e];rfl
theorem p9{r ae:H}{F:ai}(Y:bn r=some ae)(a:an ae≠ .line):c5 r F= .ok false ae F:=by rw[tW,cK,s3 Y a];rfl
theorem Y_{de:ad Unit}{x v v':H}{F a:ai}(Y:bn x=some x)(c:cE (an x) [33]=false)(ay:de x F= .ok () v a)(b:bn v=some v')(M:an v'≠ .op [124])(U:an v'≠ .op [38,38])(f:an v'≠ .op [124,124]):
  fv de x F= .ok () v' a/\hT (fv de) x F= .ok () v' a:=by
 have d:=mi _ _ _ (cS _) b;have e:fv de x F= .ok () v' a:=by unfold fv;rw[aT (cu Y),c];simp only[fo,cH];rw[aT (show aZ () x F= .ok () x F from rfl),aT ay,cK,aT (cu b),aO M];rfl
 refine⟨e,?_⟩;unfold hT;rw[aT e,cK,aT (cu d),aO (by grind)];rfl
theorem mH{w r:H}(av:w≠[])(a:w.all qT=true)(c:w.head?≠some 35)(Z:c4 r=true):an (w++r)= .word w true/\bn (w++r)=some (w++r):=by
 refine⟨n6 av a Z,?_⟩;cases w with
 |nil=>grind
 |cons b t=>simp_all[By,hU,IX,jX]
theorem rM(t:H):c4 (32::t)=true:=by rfl
section
variable{fr:Bool}{n k:Nat}{u r:H}{F:ai}(hu:dL u)(h:h3 fr n u= .ok k r F)(aw:k≠0)
include hu h aw
omit hu h aw in
theorem rN{w v:H}{F:ai}(av:w≠[])(a:w.all qT=true)(b:w.head?≠some 35)(c:c4 v=true):cF w (w++v) F= .ok () v F:=by obtain⟨d,e⟩:=mH av a b c;unfold cF m9;rw[aT (cu e),d,aO (by simp)];simp[b5,cE]
omit hu h aw in
theorem Za{w v:H}{F:ai}:b5 w.length (w++v) F= .ok () v F:=by simp[b5,oO]
end
theorem SQ(t:H):bu (40::t)=[40]:=by rfl
theorem IZ(t:H):c4 (40::t)=true:=by rfl
theorem Zb{D:ad Unit}{b:UInt8}{t:H}{F:ai}(Y:bn (b::t)=some (b::t))(aD:cf b=false)(a:o0 b=false):dI D (b::t) F= .ok false (b::t) F:=
 (Y9 Y (by
  have:(b::t).dropWhile cf=b::t:=by simp_all
  rw[this,mV a];rfl)).1
theorem FA:∀(n:Nat)(r q:H),r.length<=n->hB r=some q->q<:+r:=by
 intro n;induction n with
 |zero=>simp_all[nQ,Nat.le_zero,hB]
 |succ n a=>
  intro r q av h;cases r with
  |nil=>grind
  |cons b t=>unfold hB at h;grind
theorem AX:∀(r q:H),gy r=some q->q<:+r
 |[],q,h=>by grind[gy]
 |b::t,q,h=>by
  unfold gy at h;split at h
  ·cases h;exact dN b _
  ·exact(AX t q h).trans (dN b t)
structure k4 where
 T:H
 bz:H->Nat
 c:Nat
 Q:H->ai->Prop
structure k4.g_(E:k4)(n:Nat)(r:H)(F:ai):Prop where
 sfx:r<:+E.T
 le:E.bz r+E.c<=n
 q:E.Q r F
def h_(E:k4){α:Type}(r0:H):dD α->Prop
 | .ok _ r F=>r<:+r0/\E.Q r F
 | .deep _=>False
 |_=>True
def ab(E:k4)(n:Nat){α:Type}(f:ad α):Prop:=∀r F,E.g_ n r F->h_ E r (f r F)
structure k4.mO(E:k4):Prop where
 e1:1<=E.c
 mono:∀r r',r'<:+r->r<:+E.T->E.bz r'<=E.bz r
 alf:∀r r' F,r'<:+r->r<:+E.T->E.Q r F->E.Q r' F
 Zc:∀r,r<:+E.T->E.Q r []
 qO:∀r F o tabs r' aF,r<:+E.T->E.Q r F->bu r=o->(o=[60,60]/\tabs=false\/o=[60,60,45]/\tabs=true)->gS tabs (r.drop o.length) F= .ok () r' aF->E.Q r' aF
 qQ:∀u,36::40::u<:+E.T->u.head?≠some 40->E.bz u+1<=E.bz (36::40::u)\/∀n F,E.c<=n->E.Q (36::40::u) F->h_ E (36::40::u) ((aS true n).dl (36::40::u) F)
 p7:∀u,36::123::u<:+E.T->E.bz u+1<=E.bz (36::123::u)\/∀n F,E.c<=n->E.Q (36::123::u) F->h_ E (36::123::u) ((aS true n).dl (36::123::u) F)
 comp:∀r,r<:+E.T->bn r=some r->gz (an r)=true->E.bz (r.drop (lJ (an r)).length)+1<=E.bz r\/∀n F,E.c<=n->E.Q r F->h_ E r ((aS true n).cp (an r) r F)
 func:∀u,40::u<:+E.T->E.bz u+1<=E.bz (40::u)\/∀n F,E.c<=n+1->E.Q (40::u) F->h_ E (40::u) (kH true (some (aS true n)) (40::u) F)
section
variable{E:k4}(ok:E.mO){n:Nat}
theorem h_.mono{α:Type}{r0 r:H}{x:dD α}(h:h_ E r x)(M:r<:+r0):h_ E r0 x:=by
 cases x with
 |ok a ae b=>exact⟨h.1.trans M,h.2⟩
 |more _ _ _=>trivial
 |bad _=>trivial
 |deep _=>exact h
theorem h_.N{α β:Type}{m:ad α}{k:α->ad β}{r0 r:H}{F:ai}(h:h_ E r0 (m r F))(aw:∀a r' b,m r F= .ok a r' b->r'<:+r0->E.Q r' b->h_ E r0 (k a r' b)):h_ E r0 (Go.Eng.N m k r F):=by
 unfold Go.Eng.N;cases hm:m r F with
 |ok a ae c=>rw[hm] at h;exact aw a ae c hm h.1 h.2
 |more _ _ _=>trivial
 |bad _=>trivial
 |deep q=>rw[hm] at h;exact h
theorem h_.aI{α:Type}{m:ad α}{r0 r:H}{F:ai}{x:H}(h:h_ E r0 (m r F)):h_ E r0 (m.aI x r F):=by
 unfold ad.aI;cases hm:m r F with
 |more _ _ _=>trivial
 |ok a ae b=>grind
 |bad _=>trivial
 |deep q=>grind
theorem h_.named{α:Type}{m:ad α}{r0 r:H}{F:ai}{x:H}(h:h_ E r0 (m r F)):h_ E r0 (m.named x r F):=by
 unfold ad.named;cases hm:m r F with
 |more _ _ _=>trivial
 |ok a ae b=>grind
 |bad _=>trivial
 |deep q=>grind
theorem ab.aI{α:Type}{m:ad α}(h:ab E n m)(x:H):ab E n (m.aI x):=λr F a=>(h r F a).aI
theorem ab.named{α:Type}{m:ad α}(h:ab E n m)(x:H):ab E n (m.named x):=λr F a=>(h r F a).named
theorem ab.cb{α:Type}(x:H):ab E n (Go.Eng.cb x:ad α):=λr F _=>trivial
theorem ab.bE{α:Type}:ab E n (Go.Eng.bE:ad α):=λr F _=>trivial
theorem ab.ret{α:Type}(a:α):ab E n (aZ a):=λr F h=>⟨fS,h.q⟩
theorem ab.ite{α:Type}{p:Prop}[Decidable p]{f g:ad α}(hf:ab E n f)(bt:ab E n g):ab E n (if p then f else g):=by grind
include ok
theorem k4.g_.down{r r':H}{F a:ai}(h:E.g_ n r F)(M:r'<:+r)(U:E.Q r' a):E.g_ n r' a:=⟨M.trans h.sfx,by have:=ok.mono r r' M h.sfx;have:=h.le;omega,U⟩
theorem k4.g_.qU{r r':H}{F:ai}(h:E.g_ n r F)(M:r'<:+r):E.g_ n r' F:=h.down ok M (ok.alf r r' F M h.sfx h.q)
theorem ab.N{α β:Type}{m:ad α}{k:α->ad β}(hm:ab E n m)(aw:∀a,ab E n (k a)):ab E n (Go.Eng.N m k):=λr F h=>
 (hm r F h).N λa r' b _ M U=>(aw a r' b (h.down ok M U)).mono M
theorem ab.iD{f:ad Unit}(hf:∀r F,match f r F with| .ok _ r' b=>r'<:+r/\b=F| .deep _=>False|_=>True):ab E n f:=λr F h=>by
 have:=hf r F;cases hm:f r F with
 |ok a ae c=>rw[hm] at this;obtain⟨M,rfl⟩:=this;exact⟨M,(h.qU ok M).q⟩
 |more _ _ _=>trivial
 |bad _=>trivial
 |deep q=>grind
theorem ab.cQ(k:Nat):ab E n (b5 k):=ab.iD ok λr F=>⟨lM _ _,rfl⟩
theorem ab.rep{σ α:Type}{f:σ->ad (σ⊕α)}(hf:∀s,ab E n (f s))(s:σ):ab E n (ck f s):=by
 have b:∀(bz:Nat)(s:σ)(r:H)(F:ai),r.length<=bz->E.g_ n r F->h_ E r (ck f s r F):=by
  intro bz;induction bz with
  |zero=>
   intro s r F d h;rw[cK];have:=hf s r F h;unfold cX;cases hm:f s r F with
   |ok x ae c=>
    rw[hm] at this;cases x with
    |inl s'=>simp only;rw[aO (by omega)];trivial
    |inr a=>exact this
   |more _ _ _=>trivial
   |bad _=>trivial
   |deep q=>rw[hm] at this;exact this
  |succ bz e=>
   intro s r F d h;rw[cK];have:=hf s r F h;unfold cX;cases hm:f s r F with
   |ok x ae c=>
    rw[hm] at this;cases x with
    |inl s'=>
     simp only;split
     ·exact(e s' ae c (by omega) (h.down ok this.1 this.2)).mono this.1
     ·trivial
    |inr a=>exact this
   |more _ _ _=>trivial
   |bad _=>trivial
   |deep q=>rw[hm] at this;exact this
 exactλr F h=>b _ s r F (cS _) h
theorem ab.cW{α:Type}{x:H}{k:Tok->ad α}(aw:∀r F,E.g_ n r F->bn r=some r->h_ E r (k (an r) r F)):ab E n (Go.Eng.N (bQ x) k):=by
 intro r F h;cases Y:bn r with
 |none=>rw[dm (iN Y)];trivial
 |some r'=>rw[aT (cu Y)];have a:=ef Y;exact(aw r' F (h.qU ok a) (mi _ _ _ (cS _) Y)).mono a
theorem ab.gb{α:Type}{x:H}{k:Tok->ad α}(aw:∀t,ab E n (k t)):ab E n (Go.Eng.N (bQ x) k):=ab.cW ok λr F h _=>aw _ r F h
theorem ab.exp(b:Tok->Bool)(k:Nat):ab E n (m9 b k):=ab.gb ok λt=>ab.ite (ab.cb _) (ab.ite (ab.cQ ok _) ab.bE)
theorem ab.ji(o:H):ab E n (Go.Eng.ji o):=ab.exp ok _ _
theorem ab.cF(o:H):ab E n (Go.Eng.cF o):=ab.exp ok _ _
theorem ab.nl:ab E n jw:=by
 intro r F h;cases r with
 |nil=>exact⟨fS,h.q⟩
 |cons b t=>
  unfold jw;simp only;cases a:lh F t with
  |inl r'=>have M:=((ve F t [] r' a).1).trans (dN b t);exact⟨M,ok.Zc _ (M.trans h.sfx)⟩
  |inr nd=>trivial
theorem ab.lines:ab E n c5:=ab.rep ok (λ_=>ab.gb ok λt=>ab.ite (ab.N ok (ab.nl ok) λ_=>ab.ret _) (ab.ret _)) _
theorem ab.part{D:ad Unit}(hD:ab E n D){dq:Option (ad Unit)}(c:∀q,dq=some q->ab E n q):ab E n (cD D dq):=by
 intro r F h;cases r with
 |nil=>exact⟨fS,h.q⟩
 |cons b t=>
  have a:t<:+b::t:=dN b t
  have d:∀(f:H->Option H)(x:H),(∀r q,f r=some q->q<:+r)->h_ E (b::t) (jx f x t F):=by
   intro f x hf;unfold jx;cases hm:f t with
   |none=>trivial
   |some q=>have:=(hf _ _ hm).trans a;exact⟨this,(h.qU ok this).q⟩
  unfold cD;simp only;split
  ·have:=(lM 1 t).trans a;exact⟨this,(h.qU ok this).q⟩
  ·split
   ·exact d _ _ λr q e=>FA _ r q (cS _) e
   ·split
    ·exact hD _ _ h
    ·cases dq with
     |none=>exact⟨a,(h.qU ok a).q⟩
     |some q=>
      simp only;split
      ·grind[AX]
      ·split
       ·exact(c q rfl t F (h.qU ok a)).mono a
       ·exact⟨a,(h.qU ok a).q⟩
theorem ab.xF{p:ad Unit}(az:ab E n p)(c:UInt8):ab E n (jy c p):=by
 refine ab.rep ok (λ_=>?_) _;intro r F h;cases r with
 |nil=>trivial
 |cons b t=>
  simp only;split
  ·exact⟨dN b t,(h.qU ok (dN b t)).q⟩
  ·exact ab.N ok az (λ_=>ab.ret _) _ _ h
theorem ab.double{D:ad Unit}(hD:ab E n D):ab E n (eJ D):=((ab.xF ok (ab.part ok hD (λq a=>by cases a)) _).aI _).named _
theorem ab.vn{D:ad Unit}(hD:ab E n D):ab E n (cD D (some (eJ D))):=ab.part ok hD λq a=>by grind[ab.double]
theorem ab.param{D:ad Unit}(hD:ab E n D):ab E n (qG D):=(ab.xF ok (ab.vn ok hD) _).aI _
theorem ab.cO{D:ad Unit}(hD:ab E n D):ab E n (Go.Eng.cO D):=by
 refine ab.rep ok (λ_=>?_) _;intro r F h;cases r with
 |nil=>trivial
 |cons b t=>
  simp only;split
  ·exact⟨fS,h.q⟩
  ·exact ab.N ok (ab.vn ok hD) (λ_=>ab.ret _) _ _ h
theorem ab.jK{D:ad Unit}(hD:ab E n D)(x:H):ab E n (Go.Eng.jK D x):=by refine ab.gb ok λt=>?_;grind[ab.cb,ab.cO,ab.bE]
theorem ab.iB{D:ad Unit}(hD:ab E n D):ab E n (dI D):=by
 intro r F h;unfold dI;cases Y:bn r with
 |none=>
  have:fX r F=Go.Eng.cb [] r F:=by grind[fX]
  unfold Go.Eng.N;rw[this];trivial
 |some r'=>
  have b:=ef Y;have f:r'.dropWhile cf<:+r:=C1.trans b;have c:=h.qU ok f;by_cases Z:fg (bu (r'.dropWhile cf))=true
  ·have:fX r F= .ok (some (bu (r'.dropWhile cf))) ((r'.dropWhile cf).drop (bu (r'.dropWhile cf)).length) F:=by simp_all[fX,bh]
   rw[aT this];generalize r'.dropWhile cf=q at*;have aD:q.drop (bu q).length<:+q:=lM _ _;have e:=c.qU ok aD;simp only;refine h_.mono (r:=q) (h_.N ?_ λ_ g i _ U j=>⟨U,j⟩) f
   have k:∀tabs,(bu q=[60,60]/\tabs=false\/bu q=[60,60,45]/\tabs=true)->h_ E q (gS tabs (q.drop (bu q).length) F):=by
    intro tabs l;cases hm:gS tabs (q.drop (bu q).length) F with
    |more _ _ _=>trivial
    |bad _=>trivial
    |deep x=>grind[gS]
    |ok a g i=>
     refine⟨?_,ok.qO q F _ tabs g i c.sfx c.q rfl l hm⟩;refine List.IsSuffix.trans ?_ aD;generalize q.drop (bu q).length=v at hm;unfold gS at hm;split at hm
     ·cases hm
     ·rename_i v' m;split at hm
      ·cases hm
      ·split at hm
       ·cases hm
       ·rename_i d p s o
        repeat' (split at hm)
        all_goals cases hm
        exact(MJ _ _ _ (cS _) o).trans (ef m)
      grind
   by_cases M:bu q=[60,60]
   ·grind
   ·rw[aO M];by_cases U:bu q=[60,60,45]
    ·grind
    ·rw[aO U];exact(ab.jK ok hD _ _ _ e).mono aD
  ·have:fX r F= .ok none r' F:=by simp_all[fX,aO]
   rw[aT this];exact⟨b,(h.qU ok b).q⟩
theorem ab.lY{D:ad Unit}(hD:ab E n D):ab E n (g0 D):=ab.rep ok (λ_=>ab.N ok (ab.iB ok hD) λb=>ab.ret _) _
theorem ab.simple{D:ad Unit}(hD:ab E n D)(fr:Bool):ab E n (ho fr D):=by
 refine ab.rep ok (λ_=>ab.N ok (ab.iB ok hD) λb=>ab.ite (ab.ret _) (ab.gb ok λt=>?_)) _;cases t with
 |word _ _=>grind[ab.N,ab.cO,ab.ret]
 |op o=>simp[ab.ite,ab.bE,ab.ret]
 |_=>simp[ab.ret]
theorem ab.pipe{de:ad Unit}(h:ab E n de):ab E n (fv de):=ab.gb ok λt=>ab.N ok (ab.ite (ab.cQ ok _) (ab.ret _)) λ_=>ab.N ok h λ_=>
 ab.rep ok (λ_=>ab.gb ok λt=>ab.ite (ab.N ok (ab.cQ ok _) λ_=>ab.N ok ((ab.lines ok).aI _) λ_=>ab.N ok h λ_=>ab.ret _) (ab.ret _)) _
theorem ab.oC{a:ad Unit}(h:ab E n a):ab E n (hT a):=ab.N ok h λ_=>
 ab.rep ok (λ_=>ab.gb ok λt=>ab.ite (ab.N ok (ab.cQ ok _) λ_=>ab.N ok ((ab.lines ok).aI _) λ_=>ab.N ok h λ_=>ab.ret _) (ab.ret _)) _
theorem ab.list{da:ad Unit}(h:ab E n da)(c:Ctx)(no:Bool):ab E n (n4 da c no):=ab.N ok ((ab.lines ok).aI _) λ_=>ab.rep ok (λk=>ab.gb ok λt=>
 ab.ite (ab.ite (ab.ret _) (ab.cb _)) (ab.ite (ab.ret _) (ab.N ok h λ_=>ab.gb ok λt=>by
  cases t with
  |eof=>simp[ab.ret]
  |line=>grind[ab.N,ab.lines,ab.ret]
  |word _ _=>exact ab.bE
  |op o=>exact ab.ite (ab.N ok (ab.cQ ok _) λ_=>ab.N ok (ab.lines ok) λ_=>ab.ret _) (ab.ite (ab.ret _) ab.bE)))) _
end
structure xG(E:k4)(n:Nat):Prop where
 ls:∀c no,ab E n ((aS true n).ls c no)
 pm:ab E n (aS true n).pm
 cp:∀r F,E.g_ n r F->bn r=some r->gz (an r)=true->h_ E r ((aS true n).cp (an r) r F)
 rd:ab E n (aS true n).rd
 dl:ab E n (aS true n).dl
section
variable{E:k4}(ok:E.mO){n:Nat}
include ok
theorem k4.g_.pos{r:H}{F:ai}(h:E.g_ n r F):1<=n:=by have:=ok.e1;have:=h.le;omega
theorem ab.mG:ab E n Go.Eng.mG:=by
 refine ab.iD ok λr F=>?_;unfold Go.Eng.mG;cases h:hR 0 r with
 |ok q=>exact⟨AU 0 r q h,rfl⟩
 |more _=>trivial
 |bad _=>trivial
theorem ab.SR{lo:Option dK}{k:Nat}(ax:(lo=none/\k=0)\/∃m,lo=some (aS true m)/\k=m+1/\xG E m):ab E k (dy lo):=by
 intro r F h;have aw:=h.pos ok;rcases ax with⟨_,rfl⟩|⟨m,rfl,rfl,hm⟩
 ·omega
 have f:(aS true (m+1)).dl=dy (some (aS true m)):=rfl;have a:∀k,r.drop k<:+r:=λk=>lM _ _
 unfold dy;split
 ·exact((ab.cQ ok _).N ok (λ_=>ab.mG ok)) r F h
 ·rename_i g;split
  ·rename_i U;rw[DQ] at U;obtain⟨u,rfl⟩:=U;have hu:u.head?≠some 40:=by
    intro e;cases u with
    |nil=>cases e
    |cons c v=>grind
   rcases ok.qQ u h.sfx hu with Y|bt
   ·have b:E.g_ m u F:=⟨(a 2).trans h.sfx,by have:=h.le;grind,(h.qU ok (a 2)).q⟩;have:rJ (some (aS true m)) 2 vd ([36,40]++u) F=vd (aS true m) u F:=rfl;rw[this];refine h_.mono ?_ (a 2);exact ab.N ok (((hm.ls _ _).aI _).named _) (λ_=>ab.ji ok _) _ _ b
   ·have:=bt (m+1) F (by have:=h.le;omega) h.q;simp_all[dy,H,aO,bh,List.isPrefixOf]
  ·rename_i U;split
   ·rename_i d;rw[DQ] at d;obtain⟨u,rfl⟩:=d;rcases ok.p7 u h.sfx with Y|bt
    ·have b:E.g_ m u F:=⟨(a 2).trans h.sfx,by have:=h.le;grind,(h.qU ok (a 2)).q⟩;have:rJ (some (aS true m)) 2 (λl=>l.pm.named [36,123]) ([36,123]++u) F=((aS true m).pm.named [36,123]) u F:=rfl;rw[this];exact((hm.pm.named _) _ _ b).mono (a 2)
    ·have:=bt (m+1) F (by have:=h.le;omega) h.q;simp_all[dy,H,aO,bh,List.isPrefixOf]
   ·exact⟨a 1,(h.qU ok (a 1)).q⟩
section
variable{m:Nat}(hm:xG E m)
include hm
theorem ab.body(x:H):ab E m (iX (aS true m) x):=ab.N ok ((ab.cF ok _).aI _) λ_=>ab.N ok ((hm.ls _ _).aI _) λ_=>ab.cF ok _
theorem ab.cond:ab E m (qI (aS true m)):=ab.rep ok (λ_=>ab.N ok ((hm.ls _ _).aI _) λ_=>ab.N ok (ab.cF ok _) λ_=>ab.N ok ((hm.ls _ _).aI _) λ_=>
 ab.gb ok λt=>ab.ite (ab.N ok (ab.cF ok _) λ_=>ab.ret _) (ab.ite (ab.N ok (ab.cF ok _) λ_=>ab.N ok ((hm.ls _ _).aI _) λ_=>ab.N ok (ab.cF ok _) λ_=>ab.ret _) (ab.N ok (ab.cF ok _) λ_=>ab.ret _))) _
theorem ab.words:ab E m (pt (aS true m).dl):=ab.rep ok (λ_=>ab.gb ok λt=>by
 cases t with
 |eof=>simp[ab.cb]
 |word _ _=>exact ab.N ok (ab.cO ok hm.dl) λ_=>ab.ret _
 |line=>simp[ab.ret]
 |op o=>exact ab.ite (ab.N ok (ab.cQ ok _) λ_=>ab.ret _) ab.bE) _
theorem ab.for_:ab E m (pv (aS true m) (aS true m).dl):=ab.gb ok λt=>by
 cases t with
 |eof=>simp[ab.cb]
 |word w p=>
  cases p with
  |true=>
   refine ab.ite (ab.N ok (ab.cQ ok _) λ_=>ab.N ok (ab.aI (ab.gb ok λt=>?_) _) λ_=>ab.body ok hm _) ab.bE;exact ab.ite (ab.N ok (ab.cQ ok _) λ_=>ab.N ok (ab.lines ok) λ_=>ab.ret _) (ab.N ok (ab.lines ok) λ_=>ab.gb ok λt=>
    ab.ite (ab.N ok (ab.cQ ok _) λ_=>ab.N ok (ab.words ok hm) λ_=>ab.N ok (ab.lines ok) λ_=>ab.ret _) (ab.ret _))
  |false=>exact ab.bE
 |_=>exact ab.bE
theorem ab.vk:ab E m (lj (aS true m).dl):=ab.rep ok (λ_=>ab.gb ok λt=>by
 cases t with
 |eof=>simp[ab.cb]
 |word _ _=>
  refine ab.N ok ((ab.cO ok hm.dl).aI _) λ_=>ab.gb ok λt=>?_;cases t with
  |op o=>exact ab.ite (ab.N ok (ab.cQ ok _) λ_=>ab.ret _) (ab.ite (ab.N ok (ab.cQ ok _) λ_=>ab.ret _) ab.bE)
  |eof=>simp[ab.cb]
  |_=>exact ab.bE
 |_=>exact ab.bE) _
theorem ab.items:ab E m (nJ (aS true m) (aS true m).dl):=ab.rep ok (λ_=>ab.N ok (ab.lines ok) λ_=>ab.gb ok λt=>ab.ite (ab.cb _) (ab.ite (ab.N ok (ab.cQ ok _) λ_=>ab.ret _)
 (ab.N ok (ab.ite (ab.cQ ok _) (ab.ret _)) λ_=>ab.N ok (ab.vk ok hm) λ_=>ab.N ok (hm.ls _ _) λ_=>ab.gb ok λt=>ab.ite (ab.N ok (ab.cQ ok _) λ_=>ab.ret _) (ab.ret _)))) _
theorem ab.vl:ab E m (qJ (aS true m) (aS true m).dl):=ab.gb ok λt=>by
 cases t with
 |eof=>simp[ab.cb]
 |word _ _=>exact ab.N ok (ab.aI (ab.N ok (ab.cO ok hm.dl) λ_=>ab.N ok (ab.lines ok) λ_=>ab.gb ok λt=>ab.ite (ab.cb _) (ab.ret _)) _) λt=>ab.ite (ab.N ok (ab.cQ ok _) λ_=>(ab.items ok hm).aI _) ab.bE
 |_=>exact ab.bE
theorem h_.kind{r:H}{F:ai}(h:E.g_ m (r.drop (lJ (an r)).length) F)(ay:gz (an r)=true):h_ E r (gA (aS true m) (an r) r F):=by
 have aD:∀k,r.drop k<:+r:=λk=>lM _ _
 cases a:an r with
 |eof=>grind[gz]
 |line=>grind[gz]
 |op o=>rw[a] at h;have:gA (aS true m) (.op o) r F=Go.Eng.N (((aS true m).ls .paren false).aI [41]) (λ_=>Go.Eng.ji [41]) (r.drop 1) F:=rfl;rw[this];exact(ab.N ok ((hm.ls _ _).aI _) (λ_=>ab.ji ok _) _ _ h).mono (aD _)
 |word w p=>
  rw[a] at h;have:gA (aS true m) (.word w p) r F=(if w=[123] then Go.Eng.N (((aS true m).ls .p7 false).aI [10,125]) λ_=>Go.Eng.cF [125]
   else if w=jW then qI (aS true m)
   else if w=mz then pv (aS true m) (aS true m).dl
   else if w=oA then qJ (aS true m) (aS true m).dl
   else Go.Eng.N (((aS true m).ls .p8 false).aI eB) λ_=>iX (aS true m) eB:ad Unit) (r.drop w.length) F:=rfl
  rw[this];refine h_.mono ?_ (aD w.length);refine ab.ite ?_ (ab.ite (ab.cond ok hm) (ab.ite (ab.for_ ok hm) (ab.ite (ab.vl ok hm) ?_))) _ _ h
  ·exact ab.N ok ((hm.ls _ _).aI _) λ_=>ab.cF ok _
  ·exact ab.N ok ((hm.ls _ _).aI _) λ_=>ab.body ok hm _
theorem h_.cp{r:H}{F:ai}(h:E.g_ (m+1) r F)(Y:bn r=some r)(ay:gz (an r)=true):h_ E r ((aS true (m+1)).cp (an r) r F):=by
 rcases ok.comp r h.sfx Y ay with a|bt
 ·have aD:r.drop (lJ (an r)).length<:+r:=lM _ _;have b:E.g_ m (r.drop (lJ (an r)).length) F:=⟨aD.trans h.sfx,by have:=h.le;omega,(h.qU ok aD).q⟩;have:(aS true (m+1)).cp (an r) r F=((gA (aS true m) (an r)).named (lJ (an r))) r F:=rfl;grind[h_.kind,h_.named]
 ·exact bt _ _ (by have:=h.le;omega) h.q
theorem h_.function{u:H}{F:ai}(h:E.g_ (m+1) (40::u) F):h_ E (40::u) (kH true (some (aS true m)) (40::u) F):=by
 rcases ok.func u h.sfx with f|bt
 ·have hu:u<:+40::u:=dN 40 u;have a:E.g_ m u F:=⟨hu.trans h.sfx,by have:=h.le;omega,(h.qU ok hu).q⟩;have c:(aS true m).has=true:=by
   cases m with
   |zero=>have:=a.pos ok;omega
   |succ _=>rfl
  unfold kH;simp only;rw[bh c];refine h_.named ?_;refine h_.mono ?_ hu;refine ab.gb ok (λt=>ab.ite (ab.cb _) (ab.ite ?_ ab.bE)) u F a;refine ab.N ok (ab.cQ ok _) λ_=>ab.N ok ((ab.lines ok).aI _) λ_=>ab.cW ok λr F Z Y=>?_;by_cases M:an r= .eof
  ·rw[bh M];trivial
  rw[aO M];by_cases U:gz (an r)=true
  ·rw[bh U];exact h_.N (hm.cp r F Z Y U) λ_ ae d _ b e=>(hm.rd ae d (Z.down ok b e)).mono b
  ·rw[aO U];trivial
 ·exact bt m F (by have:=h.le;omega) h.q
theorem ab.command:ab E (m+1) (fM true (some (aS true m)) (aS true (m+1)).dl):=by
 have hD:ab E (m+1) (aS true (m+1)).dl:=ab.SR ok (.inr ⟨m,rfl,rfl,hm⟩);refine ab.cW ok λr F h Y=>?_;by_cases M:an r= .eof
 ·rw[bh M];trivial
 rw[aO M];by_cases U:gz (an r)=true
 ·rw[bh U];exact h_.N (h_.cp ok hm h Y U) λ_ ae d _ a c=>(ab.lY ok hD ae d (h.down ok a c)).mono a
 rw[aO U];cases f:an r with
 |eof=>grind
 |line=>trivial
 |op o=>exact ab.ite (ab.N ok (ab.iB ok hD) λ_=>ab.simple ok hD true) ab.bE r F h
 |word w p=>
  refine ab.ite ab.bE (ab.N ok (ab.iB ok hD) λb=>ab.ite (ab.simple ok hD true) (ab.N ok (ab.cO ok hD) λ_=>ab.ite (ab.cW ok λr F h Y=>?_) (ab.simple ok hD true))) r F h;by_cases a:an r= .op [40]
  ·rw[bh a];obtain⟨u,rfl⟩:=(h4 a).2.1;exact h_.N (h_.function ok hm h) λ_ ae d _ c e=>⟨c,e⟩
  ·rw[aO a];exact ab.simple ok hD true r F h
end
omit n in
theorem mW:∀n,xG E n
 |0=>by
  have a:∀{r F},¬E.g_ 0 r F:=λh=>by have:=h.pos ok;omega
  exact⟨λc no r F h=>absurd h a,λr F h=>absurd h a,λr F h=>absurd h a,λr F h=>absurd h a,λr F h=>absurd h a⟩
 |m+1=>by have hm:=mW m;have hD:ab E (m+1) (aS true (m+1)).dl:=ab.SR ok (.inr ⟨m,rfl,rfl,hm⟩);exact⟨λc no=>ab.list ok (ab.oC ok (ab.pipe ok (ab.command ok hm))) c no,ab.param ok hD,λr F h Y ay=>h_.cp ok hm h Y ay,ab.lY ok hD,hD⟩
theorem Zd(h:E.bz E.T+E.c<=n):∀q,h3 true n E.T≠ .deep q:=by intro q a;have:=(mW ok n).ls .text true E.T [] ⟨fS,h,ok.Zc _ fS⟩;unfold h3 at a;rw[a] at this;exact this
end
end Go.Eng
namespace Go.Eng
open Go Go.Proofs
theorem aP{α β:Type}{m:Option α}{k:α->Option β}{y:α}(h:m=some y):au m k=k y:=by rw[h];rfl
theorem Ze{α β:Type}{c:Prop}[Decidable c]{x d:α}{k:α->Option β}(h:c):cY c (some x) d k=k x:=by unfold cY;rw[bh h];rfl
theorem wC{α:Type}[Inhabited α]{l:List α}{k:Int}(h0:0<=k)(h:k<(l.length:Int)):l.drop k.toNat=at' l k::l.drop (k+1).toNat:=by grind[List.drop_eq_getElem_cons,at']
theorem MT{α:Type}{l:List α}{k:Int}(h0:0<=k):b1 l k (l.length:Int)=l.drop k.toNat:=by simp[b1,GM]
def sm(c:UInt8):H->bw
 |[]=>[[]]
 |b::l=>if b=c then []::sm c l else match sm c l with
  |[]=>[[b]]
  |x::xs=>(b::x)::xs
theorem Zf(c:UInt8):∀(l:H),(Lib.indexByte l c= -1/\sm c l=[l]/\l.count c=0)\/
  ∃p:Nat,Lib.indexByte l c=p/\p<l.length/\sm c l=l.take p::sm c (l.drop (p+1))/\l.count c=(l.drop (p+1)).count c+1
 |[]=> .inl ⟨rfl,rfl,rfl⟩
 |b::l=>by
  by_cases h:b=c
  ·grind[Lib.indexByte,sm]
  ·have d:(b==c)=false:=by grind
   rcases Zf c l with⟨M,U,a⟩|⟨p,M,U,a,e⟩
   ·grind[Lib.indexByte,sm]
   ·refine .inr ⟨p+1,?_,?_,?_,?_⟩
    ·grind[Lib.indexByte]
    ·grind
    ·grind[sm]
    grind
theorem alh(a:bw)(s:H)(i:Nat)(bg:i<a.length):b1 (List.set a i s) 0 ((i:Int)+1)=a.take i++[s]:=by
 unfold b1;have b:((i:Int)+1).toNat=i+1:=by omega
 simp only[J5,yg,Nat.sub_zero,b];rw[List.take_set,List.take_succ_eq_append_getElem bg,List.set_append_right _ _ (by grind)];simp only[List.length_take,Nat.min_eq_left (show i<=a.length by omega),Nat.sub_self,List.set_cons_zero]
theorem ali(a:bw)(s:H)(i:Nat)(bg:i<a.length):(List.set a i s).take (i+1)=a.take i++[s]:=by rw[List.take_set,List.take_succ_eq_append_getElem bg,List.set_append_right _ _ (by grind)];simp only[List.length_take,Nat.min_eq_left (show i<=a.length by omega),Nat.sub_self,List.set_cons_zero]
theorem alj(I:H)(c:UInt8)(n:Nat)(v:(I.length:Int)<=1048576)(av:(n:Int)=I.count c+1)(j:H×bw×Int->Option bw)
  (d:∀(s:H)(a:bw)(i:Nat),a.length=n->i<n->j (s,a,(i:Int))=some (a.take i++[s])):
  ∀(m:Nat)(s:H)(a:bw)(i:Nat),a.length=n->n=i+s.count c+1->s.length<=I.length->(s.count c:Int)<m->0<m->
  fixF (Hs I [c] 0 (n:Int) j) m (s,a,(i:Int))=some (a.take i++sm c s):=by
 have kJ:=List.count_le_length (a:=c) (l:=I);have e:min (n:Int) (W ((I.length:Int)+1))=n:=by grind[dJ]
 intro m;induction m with
 |zero=>omega
 |succ m f=>
  intro s a i g bg Y hm _;simp only[fixF,Hs,a2,o8,e];have h:W ((n:Int)-1)=(n:Int)-1:=dJ (by omega) (by omega);have k:W ((i:Int)+1)=(i:Int)+1:=dJ (by omega) (by omega);rw[h];rcases Zf c s with⟨M,U,b⟩|⟨p,M,U,b,w⟩
  ·rw[aO (by omega),d _ _ _ g (by omega),U]
  ·rw[bh (by omega)];simp only[Qk,au,M];have o:W ((p:Int)+0)=p:=by grind[dJ]
   have q:W ((p:Int)+(([c]:H).length:Int))=p+1:=by rw[dJ (by omega) (by grind)];simp
   rw[o,q,if_neg (by omega),if_pos ⟨by omega,by omega,by omega⟩,if_pos ⟨by omega,by omega⟩,if_pos ⟨by omega,by omega,by omega⟩,k];have r:b1 s ((p:Int)+1) (s.length:Int)=s.drop (p+1):=by rw[MT (by omega)];congr 1
   have t:b1 s 0 (p:Int)=s.take p:=by rfl
   have u:(((i+1:Nat)):Int)=(i:Int)+1:=by omega
   rw[r,t,<-u];rw[f (s.drop (p+1)) _ (i+1) (by grind) (by omega) (by grind) (by omega) (by omega),b];simp only[Int.toNat_natCast];rw[ali _ _ _ (by omega),List.append_assoc];rfl
theorem Zg(I:H)(c:UInt8)(b:(I.length:Int)<=1048576):Hx I [c]=some (sm c I):=by
 have kJ:=List.count_le_length (a:=c) (l:=I);have bt:Ht I [c] 0 (-1)=some (sm c I):=by
  unfold Ht;simp only[a6,Bool.cond_decide,Ql,au,Lib.countByte,a2];have d:W (((I.count c:Nat):Int)+1)=((I.count c+1:Nat):Int):=by grind[dJ]
  have e:min ((I.count c+1:Nat):Int) (W ((I.length:Int)+1))=((I.count c+1:Nat):Int):=by grind[dJ]
  rw[aO (by decide),aO (by simp),bh (by decide),d,e,bh ⟨by omega,by omega⟩];have f:(List.replicate (((I.count c+1:Nat):Int).toNat) ([]:H)).length=I.count c+1:=by simp
  refine Eq.trans (alj I c (I.count c+1) b (by omega) _ (λs a i h bg=>?_) bC I _ 0 f (by omega) (by omega) (by grind[gF]) (by simp[gF])) (by simp);have g:W ((i:Int)+1)=(i:Int)+1:=dJ (by omega) (by omega);simp only[g];rw[bh ⟨by omega,by omega⟩,bh ⟨by omega,by omega,by grind⟩];grind[alh]
 grind[Hx,aP]
theorem alk(x:H)(ys:bw)(ax:(ys.length:Int)<=1048576)(j:Unit->Option Bool):∀(m:Nat)(k:Int),0<=k->k<=(ys.length:Int)->(ys.length:Int)-k<m->0<m->
  fixF (QI x ys j) m k=if(ys.drop k.toNat).contains x then some true else j ():=by
 intro m;induction m with
 |zero=>omega
 |succ m a=>
  intro k aw b hm _;simp only[fixF,QI,a2,o8];by_cases M:k<(ys.length:Int)
  ·simp only[M,aw,cU,oa];rw[dJ (by omega) (by omega),wC aw M];grind
  ·simp only[M,cH];grind[List.drop_eq_nil_of_le]
theorem SS(x w:H)(a:(w.length:Int)<=1048576)(ax:((sm 32 w).length:Int)<=1048576):EA x w=some ((sm 32 w).contains x):=by unfold EA;rw[Zg w 32 a];simp only[au,a6];rw[alk x _ ax _ bC 0 (by omega) (by omega) (by grind[gF]) (by simp[gF])];grind
theorem alm(s p:H):Lib.hasPrefix s p=decide (s.take p.length=p):=by unfold Lib.hasPrefix;rw[Bool.eq_iff_iff,DQ,List.prefix_iff_eq_take];grind
theorem Zh(l:H)(a:Int)(b:0<=a)(c:a<(l.length:Int))(n:(l.length:Int)<=1048576)(ys:bw)(ax:(ys.length:Int)<=1048576)(d:∀y∈ys,(y.length:Int)<=100)(j:Unit->Option H):
  ∀(m:Nat)(k:Int),0<=k->k<=(ys.length:Int)->(ys.length:Int)-k<m->0<m->
  fixF (L1 l a ys j) m k=(match(ys.drop k.toNat).find? (λy=>Lib.hasPrefix (l.drop a.toNat) y) with|some y=>some y|none=>j ())/\
  fixF (Ld l a ys j) m k=(match(ys.drop k.toNat).find? (λy=>Lib.hasPrefix (l.drop a.toNat) y) with|some y=>some y|none=>j ()):=by
 intro m;induction m with
 |zero=>omega
 |succ m e=>
  intro k aw o hm _;simp only[fixF,L1,Ld,a2,o8,Qu,au];by_cases M:k<(ys.length:Int)
  ·have f:=d (at' ys k) (tm (mP ⟨aw,M⟩));simp only[M,aw,cU,oa];have g:W (k+1)=k+1:=dJ (by omega) (by omega);have h:W ((l.length:Int)-a)=(l.length:Int)-a:=dJ (by omega) (by omega);have i:W (a+((at' ys k).length:Int))=a+((at' ys k).length:Int):=dJ (by omega) (by omega);obtain⟨p,q⟩:=e (k+1) (by omega) (by omega) (by omega) (by omega);rw[g,h,i,wC aw M,MT b];simp only[w3,b,sx,oa,cU,true_and,show a<=(l.length:Int) by omega];rw[alm];have Y:b1 l a (a+((at' ys k).length:Int))=(l.drop a.toNat).take (at' ys k).length:=by unfold b1;congr 1;omega
   by_cases U:(l.drop a.toNat).take (at' ys k).length=at' ys k
   ·have r:((at' ys k).length:Int)<=(l.length:Int)-a:=by grind
    grind
   grind
  ·simp only[M,cH];grind[List.drop_eq_nil_of_le]
theorem nb(b c:UInt8)(z:Int)(h:z=(c.toNat:Int)):((b.toNat:Int)=z)=(b=c):=by subst h;apply propext;grind[UInt8.toNat_inj]
theorem SU(l:H)(c:UInt8):Lib.indexByte l c<=l.length:=by
 induction l with
 |nil=>simp[Lib.indexByte]
 |cons b l a=>grind[Lib.indexByte,List.length_cons]
theorem aln(c:UInt8):∀(l:H),0<=Lib.indexByte l c->Lib.indexByte l c<l.length:=by
 intro l;induction l with
 |nil=>simp[Lib.indexByte]
 |cons b l a=>unfold Lib.indexByte;grind
theorem alo(l:H)(ax:(l.length:Int)<=1048576)(j:Int->Option Int):∀(m:Nat)(k:Int),0<=k->k<=(l.length:Int)->(l.length:Int)-k<m->0<m->
  fixF (LY l j) m k=j (if Lib.indexByte (l.drop k.toNat) 10<0 then(l.length:Int) else k+Lib.indexByte (l.drop k.toNat) 10):=by
 intro m;induction m with
 |zero=>omega
 |succ m a=>
  intro k aw b hm _;simp only[fixF,LY,a2,o8];by_cases M:k<(l.length:Int)
  ·simp only[M,aw,cU,oa,imp_true_iff,nb _ 10 10 rfl,bA];rw[dJ (by omega) (by omega),wC aw M,Lib.indexByte];grind
  ·simp only[M,cH,bH,aU,fo,false_imp_iff,cU];rw[w2 (by omega)];have e:(if Lib.indexByte ([]:H) 10<0 then(l.length:Int) else k+Lib.indexByte ([]:H) 10)=k:=by rw[bh (by decide)];omega
   rw[e]
theorem Zi{l:H}{k e:Int}(h0:0<=k)(h:k<e)(he:e<=(l.length:Int)):b1 l k e=at' l k::b1 l (k+1) e:=by
 unfold b1;rw[wC h0 (by omega)];have:e.toNat-k.toNat=(e.toNat- (k+1).toNat)+1:=by omega
 grind
theorem alp{l:H}{e:Int}:b1 l e e=[]:=by simp[b1]
theorem alq(l:H)(ax:(l.length:Int)<=1048576)(e:Int)(he:e<=(l.length:Int))(j:Int->Option Int):∀(m:Nat)(k:Int),0<=k->k<=e->e-k<m->0<m->
  ∃k',k<=k'/\k'<=e/\fixF (H5 l true e j) m k=j k'/\b1 l k' e=(b1 l k e).dropWhile (· ==9):=by
 intro m;induction m with
 |zero=>omega
 |succ m a=>
  intro k aw d hm _;simp only[fixF,H5,a2,o8,aL];by_cases M:k<e
  ·have b:k<(l.length:Int):=by omega
   simp only[M,b,aw,cU,oa,imp_true_iff,nb _ 9 9 rfl,bA,aL];rw[dJ (by omega) (by omega),Zi aw M he];by_cases U:at' l k=9
   ·obtain⟨k',ae,c,f,g⟩:=a (k+1) (by omega) (by omega) (by omega) (by omega);refine⟨k',by omega,c,?_,?_⟩
    ·grind
    simp_all
   ·refine⟨k,by omega,by omega,?_,?_⟩
    ·grind
    simp_all[Zi]
  ·have:k=e:=by omega
   subst this;refine⟨k,by omega,by omega,?_,?_⟩
   ·simp
   simp[alp]
theorem alr(l:H)(e k:Int)(j:Int->Option Int):fixF (H5 l false e j) bC k=j k:=by grind[bC,gF,fixF,H5,a2]
theorem als(j:H->Option H):∀(m:Nat)(x:H),(x.length:Int)<=1048576->x.length<m->fixF (Qz 9 j) m x=j (x.dropWhile (· ==9)):=by
 intro m;induction m with
 |zero=>omega
 |succ m c=>
  intro x g hm;simp only[fixF,Qz,a2,o8];cases x with
  |nil=>simp
  |cons b x=>
   have h0:at' (b::x) (0:Int)=b:=rfl;have Y:b1 (b::x) 1 ((b::x).length:Int)=x:=by simp[b1]
   have a:(0:Int)<((b::x).length:Int):=by simp
   have d:(1:Int)<=((b::x).length:Int):=by omega
   have e:x.length<m:=by grind
   have f:=nb b 9 ((9:UInt8).toNat:Int) rfl;rw[h0,Y];simp only[f,a,d,bA,aL,sx,oa,imp_true_iff,cU];by_cases U:b=9
   ·subst U;simp only[bA,cU,true_and,show(0:Int)<=1 from by decide];rw[c x (by grind) e];simp
   simp_all
theorem Zj(x:H)(b:(x.length:Int)<=1048576):B9 x [9]=some (x.dropWhile (· ==9)):=by
 unfold B9;by_cases h:x=[]
 ·simp_all
 ·have c:Lg x (at' [9] 0)=some (x.dropWhile (· ==9)):=by unfold Lg;have a:at' ([9]:H) (0:Int)=9:=rfl;grind[a6,als,bC,gF]
  have a:((at' ([9]:H) (0:Int)).toNat:Int)<128:=by decide
  have d:(decide (x=[]))=false:=by grind
  simp_all[aU,a2,aP]
end Go.Eng
