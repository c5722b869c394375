/- Part 3 of what FnPrefix needs. No condition. -/
import Derived.Test.YthnjiffnjaaejaaGreatDoorFnPrefixB
set_option linter.all false
namespace Go.Eng
open Go Go.Proofs
noncomputable section
theorem ah2{R:bk}(a:h7 R){x0:ah}{a2:bL}{Q:bw}{r:ah}(h:E4 R x0=some r):
  gP Tryz.prog 129 [.pointer a2] [] (eW a2 x0 Q) (λ_:bw=>True) (λq=> .tuple #[]) (λq=>eW a2 r q):=
 by
  refine V.ju (T:=cm) Tryz.call129 Tryz.func129 U λ_ _=>?_;unfold E4 at h;refine V.co ab 9 0 h ⟨U,U,U,U⟩ (λh=>?_) (λh=>?_)
  ·refine V.bI ab 7 0 h pJ [0] [] ⟨U,U,U,U⟩ λi _ h=>?_;cases h;exact V.rx ab 1 0 Q [0,0,0] U
  refine V.bI ab 26 0 h ou [0] [] ⟨U,U,U,U,U,U,U,U,U,U,U,U,U⟩ λj _ h=>?_;refine V.fb ab 1 0 h (ρ:=bw) (λs q=>[(0,.bm ⟨a2,1,1⟩ 0)]) .nil (λs q=>gQ a2 s q) U ?_ ?_
  ·intro k _ h;refine V.cJ ab 3 0 h m8 [0] U λl _ h=>?_;refine V.co ab 1 0 h U (λh=>?_) (λh=>?_)
   ·refine V.bI ab 2 0 h pI [0,0,0] [] U λm b h=>?_;exact V.a6 ab 1 0 h b [1,2,0] U
   refine V.cJ ab 3 0 h oZ [0] U λn _ h=>?_;refine V.co ab 2 0 h U (λh=>?_) (λh=>?_)
   ·refine V.bI ab 6 0 h pJ [0] [] ⟨U,U,U,U⟩ λo _ h=>?_;exact V.a6 ab 1 0 h Q [1,2,0] U
   refine V.bI ab 14 0 h Cv [0,0,0] [] ⟨U,U,U,U,U,U,U⟩ λp c h=>?_;refine V.co ab 9 0 h ⟨U,U,U,U⟩ (λh=>?_) (λh=>?_)
   ·refine V.bI ab 2 0 h qY [0,0,0] [] U λt d h=>?_;exact V.a6 ab 1 0 h d [1,2,0] U
   refine V.cJ ab 3 0 h m8 [0] U λu _ h=>?_;refine V.co ab 1 0 h U (λh=>?_) (λh=>?_)
   ·refine V.bI ab 2 0 h pI [0,0,0] [] U λv e h=>?_;exact V.a6 ab 1 0 h e [1,2,0] U
   refine V.cJ ab 3 0 h oZ [0] U λw _ h=>?_;refine V.h5 ab 3 0 h w8 [0] U (λ_=>id) λx h=>?_;refine V.h5 ab 0 0 h WV [] U (λ_=>id) λy h=>?_;refine V.co ab 2 0 h U (λh=>?_) (λh=>?_)
   ·refine V.bI ab 2 0 h (Xc a) [0,0,0] [] U λz f h=>?_;exact V.a6 ab 1 0 h f [1,2,0] U
   refine V.bI ab 6 0 h pJ [0] [] ⟨U,U,U,U⟩ λA _ h=>?_;exact V.a6 ab 1 0 h c [1,2,0] U
  rintro⟨B,C,D,E,F,G,H,I,J⟩ K h;refine V.bI ab 3 0 h qY [2,0,0] [] U λL g h=>?_;cases h;exact V.jM ab 11 0 g [0,0,0] ⟨U,U,U,U,U,U,U⟩
def IC(R:bk)(v:ah->Option ah)(e:(Int×Int×Bool×ah)->Option ah):(Int×Int×Bool×ah)->Option ah:=λ(f,g,j,k,l,m,b,h,n,o,c,p)=>
 (bif(decide (h=0)) then(aw (g9 (k,l,m,b,h,n,o,c,p)) λ(a:ah)=>(aw (gw (a.1,a.2.1,a.2.2.1,b,a.2.2.2.2.1,a.2.2.2.2.2.1,a.2.2.2.2.2.2.1,c,a.2.2.2.2.2.2.2.2)) λ(q:Bool)=>(cT (q=false) (ik (a.1,a.2.1,a.2.2.1,b,a.2.2.2.2.1,a.2.2.2.2.2.1,a.2.2.2.2.2.2.1,c,a.2.2.2.2.2.2.2.2)) (0:UInt8) λ(w:UInt8)=>(bif(bif q then true else(decide ((w.toNat:Int)=(10:Int)))) then some (a.1,a.2.1,a.2.2.1,b,a.2.2.2.2.1,a.2.2.2.2.2.1,a.2.2.2.2.2.2.1,c,a.2.2.2.2.2.2.2.2) else(aw (hF (a.1,a.2.1,a.2.2.1,b,a.2.2.2.2.1,a.2.2.2.2.2.1,a.2.2.2.2.2.2.1,c,a.2.2.2.2.2.2.2.2)) λ(i:aa)=>(a_ (λ((x,y,z,A,B,C,D,E,F,G,H,I):Int×Int×Bool×ah)=>e (x,y,z,A,B,C,D,E,F,G,H,I)) λr=>(bif(decide (i=([40]:aa))) then(a_ (λ((J,K,L,M,N,O,P,Q,S):ah)=>some (J,K,L,M,N,O,P,Q,S)) λs=>(bif(bif(bif(decide (f=1)) then(decide (g=0)) else false) then j else false) then(aw (E4 R (a.1,a.2.1,a.2.2.1,b,a.2.2.2.2.1,a.2.2.2.2.2.1,a.2.2.2.2.2.2.1,c,a.2.2.2.2.2.2.2.2)) λ(T:ah)=>s T) else(aw (hq (a.1,a.2.1,a.2.2.1,b,a.2.2.2.2.1,a.2.2.2.2.2.1,a.2.2.2.2.2.2.1,c,a.2.2.2.2.2.2.2.2) a.2.1) λ(d:ah)=>s (d.1,d.2.1,d.2.2.1,b,d.2.2.2.2.1,d.2.2.2.2.2.1,d.2.2.2.2.2.2.1,c,d.2.2.2.2.2.2.2.2)))) else(aw (vP i) λ(t:Bool)=>(cT (t=false) (Aw (a.1,a.2.1,a.2.2.1,b,a.2.2.2.2.1,a.2.2.2.2.2.1,a.2.2.2.2.2.2.1,c,a.2.2.2.2.2.2.2.2)) false λ(U:Bool)=>(bif(bif t then true else U) then(aw (Cu R (a.1,a.2.1,a.2.2.1,b,a.2.2.2.2.1,a.2.2.2.2.2.1,a.2.2.2.2.2.2.1,c,a.2.2.2.2.2.2.2.2)) λ(V:ah)=>r (f,(W (g+1)),j,V)) else(bif(!(decide (i=[]))) then some (a.1,a.2.1,a.2.2.1,b,a.2.2.2.2.1,a.2.2.2.2.2.1,a.2.2.2.2.2.2.1,c,a.2.2.2.2.2.2.2.2) else(aw (qm R (a.1,a.2.1,a.2.2.1,b,a.2.2.2.2.1,a.2.2.2.2.2.1,a.2.2.2.2.2.2.1,c,a.2.2.2.2.2.2.2.2)) λ(X,u,Y)=>(cT (u=true) (AD X) false λ(Z:Bool)=>r ((W (f+1)),g,(bif u then Z else false),Y)))))))))))))) else v (k,l,m,b,h,n,o,c,p))
def Rr(R:bk)(x0:ah):Option ah:=
 (a_ (λ((a,b,c,d,e,f,g,h,i):ah)=>some (a,b,c,d,e,f,g,h,i)) λj=>(fixF (IC R j) bC (0,0,false,x0.1,x0.2.1,x0.2.2.1,x0.2.2.2.1,x0.2.2.2.2.1,x0.2.2.2.2.2.1,x0.2.2.2.2.2.2.1,x0.2.2.2.2.2.2.2.1,x0.2.2.2.2.2.2.2.2)))
theorem ah4{R:bk}(b:h7 R){x0:ah}{a2:bL}{Q:bw}{r:ah}(h:Rr R x0=some r):
  gP Tryz.prog 101 [.pointer a2] [] (eW a2 x0 Q) (λ_:bw=>True) (λq=> .tuple #[]) (λq=>eW a2 r q):=
 by
  refine V.ju (T:=cm) Tryz.call101 Tryz.func101 U λ_ _=>?_;unfold Rr at h;refine V.db ab 12 0 h (ρ:=bw) (λs q=>[]) .nil (λs q=>gQ a2 s q) U ?_ ?_
  ·intro k _ h;refine V.fc ab 0 0 h (ρ:=bw) (λs q=>[(0,.bm ⟨a2,1,1⟩ 0),(2,.v (.int .i64 s.1)),(3,.v (.int .i64 s.2.1)),(4,.v (.bool s.2.2.1))]) .nil (λs q=>gQ a2 s.2.2.2 q) Q [1,2,0] U ?_;rintro e ⟨l,m,n,o,p,t,u,v,w,x,y,z⟩ a h;rw[IC] at h;refine V.co ab 9 2 h ⟨U,U,U,U⟩ (λh=>?_) (λh=>?_)
   ·refine V.bI ab 5 0 h ou [2] [] U λA _ h=>?_;refine V.cJ ab 5 0 h m8 [0] U λB _ h=>?_;refine V.h5 ab 2 0 h ov [0] U (λ_=>id) λC h=>?_;refine V.co ab 3 0 h U (λh=>?_) (λh=>?_)
    ·cases h;exact V.rx ab 0 0 a [0,0,0] U
    refine V.cJ ab 4 0 h oZ [0] U λD _ h=>?_;refine V.db ab 2 0 h (ρ:=bw) (λs q=>[(0,.bm ⟨a2,1,1⟩ 0),(2,.v (.int .i64 s.1)),(3,.v (.int .i64 s.2.1)),(4,.v (.bool s.2.2.1))]) .nil (λs q=>gQ a2 s.2.2.2 q) U ?_ ?_
    ·intro E _ h;refine V.co ab 6 0 h U (λh=>?_) (λh=>?_)
     ·refine V.fb ab 0 0 h (ρ:=bw) (λs q=>[]) .nil (λs q=>gQ a2 s q) U ?_ ?_
      ·intro F _ h;refine V.co ab 12 0 h U (λh=>?_) (λh=>?_)
       ·refine V.bI ab 2 0 h (ah2 b) [0,0,0] [] U λG f h=>?_;exact V.a6 ab 1 0 h f [1,2,0] U
       refine V.bI ab 6 0 h pJ [0] [] ⟨U,U,U,U⟩ λH _ h=>?_;exact V.a6 ab 1 0 h a [1,2,0] U
      rintro⟨I,J,K,L,M,N,O,P,S⟩ g h;cases h;exact V.rx ab 0 0 g [2,0,0] U
     refine V.cJ ab 3 0 h LH [] U λW _ h=>?_;refine V.h5 ab 2 0 h WW [0] U (λ_=>id) λX h=>?_;refine V.co ab 3 0 h U (λh=>?_) (λh=>?_)
     ·refine V.bI ab 3 0 h (W3 b) [0,0,0] [] U λY i h=>?_;exact V.a6 ab 7 0 h i [1,2,0] U
     refine V.co ab 6 0 h U (λh=>?_) (λh=>?_)
     ·cases h;exact V.rx ab 0 0 a [0,0,0] U
     refine V.bI ab 3 0 h (EW b) [0,0,0] [] U ?_;rintro⟨Z,iK,nU⟩ j h;refine V.h5 ab 11 0 h W1 [] U (λ_=>id) λkx h=>?_
     try dsimp only at h
     exact V.a6 ab 9 0 h j [1,2,0] U
    rintro⟨ns,rE,yP,uq,sj,vK,uD,iM,vQ,qk,pC,pF⟩ c h
    try dsimp only at h
    exact V.el ab 1 0 h c [0,1,2] U
   exact V.a6 ab 1 0 h a [0,1,2] U
  rintro⟨Ai,ID,Xd,Xe,qQ,Az,EU,yE,oW⟩ d h;cases h;exact V.jM ab 0 0 d [2,0,0] U
def sw(R:bk)(x0:ah):Option ah:=
 (aw (g9 x0) λ(a:ah)=>(aw (gw (a.1,a.2.1,a.2.2.1,x0.2.2.2.1,a.2.2.2.2.1,a.2.2.2.2.2.1,a.2.2.2.2.2.2.1,x0.2.2.2.2.2.2.2.1,a.2.2.2.2.2.2.2.2)) λ(g:Bool)=>(bif g then(aw (g_ (a.1,a.2.1,a.2.2.1,x0.2.2.2.1,a.2.2.2.2.1,a.2.2.2.2.2.1,a.2.2.2.2.2.2.1,x0.2.2.2.2.2.2.2.1,a.2.2.2.2.2.2.2.2) ([120]:aa)) λ(h:ah)=>some h) else(aw (hF (a.1,a.2.1,a.2.2.1,x0.2.2.2.1,a.2.2.2.2.1,a.2.2.2.2.2.1,a.2.2.2.2.2.2.1,x0.2.2.2.2.2.2.2.1,a.2.2.2.2.2.2.2.2)) λ(c:aa)=>(aw (lL (a.1,a.2.1,a.2.2.1,x0.2.2.2.1,a.2.2.2.2.1,a.2.2.2.2.2.1,a.2.2.2.2.2.2.1,x0.2.2.2.2.2.2.2.1,a.2.2.2.2.2.2.2.2)) λ(y23:aa)=>(a_ (λ((i,j,k,l,m,n,o,p,q):ah)=>some (i,j,k,l,m,n,o,p,q)) λd=>(cT ((decide (c=([40]:aa)))=false) (yJ y23) false λ(r:Bool)=>(bif(bif(decide (c=([40]:aa))) then true else r) then(aw (yT R (a.1,a.2.1,a.2.2.1,x0.2.2.2.1,a.2.2.2.2.1,a.2.2.2.2.2.1,a.2.2.2.2.2.2.1,x0.2.2.2.2.2.2.2.1,a.2.2.2.2.2.2.2.2)) λ(s:ah)=>d s) else(aw (ik (a.1,a.2.1,a.2.2.1,x0.2.2.2.1,a.2.2.2.2.1,a.2.2.2.2.2.1,a.2.2.2.2.2.2.1,x0.2.2.2.2.2.2.2.1,a.2.2.2.2.2.2.2.2)) λ(e:UInt8)=>(cT ((!(decide (c=[])))=true/\(decide ((e.toNat:Int)=(10:Int)))=false) (vP c) false λ(f:Bool)=>(cT ((bif(decide ((e.toNat:Int)=(10:Int))) then true else(bif(!(decide (c=[]))) then(!f) else false))=false) (EO y23) false λ(t:Bool)=>(bif(bif(bif(decide ((e.toNat:Int)=(10:Int))) then true else(bif(!(decide (c=[]))) then(!f) else false)) then true else t) then(aw (hq (a.1,a.2.1,a.2.2.1,x0.2.2.2.1,a.2.2.2.2.1,a.2.2.2.2.2.1,a.2.2.2.2.2.2.1,x0.2.2.2.2.2.2.2.1,a.2.2.2.2.2.2.2.2) a.2.1) λ(b:ah)=>d (b.1,b.2.1,b.2.2.1,x0.2.2.2.1,b.2.2.2.2.1,b.2.2.2.2.2.1,b.2.2.2.2.2.2.1,x0.2.2.2.2.2.2.2.1,b.2.2.2.2.2.2.2.2)) else(aw (Rr R (a.1,a.2.1,a.2.2.1,x0.2.2.2.1,a.2.2.2.2.1,a.2.2.2.2.2.1,a.2.2.2.2.2.2.1,x0.2.2.2.2.2.2.2.1,a.2.2.2.2.2.2.2.2)) λ(u:ah)=>d u)))))))))))))
theorem Xf{R:bk}(a:h7 R){x0:ah}{a2:bL}{Q:bw}{r:ah}(h:sw R x0=some r):
  gP Tryz.prog 80 [.pointer a2] [] (eW a2 x0 Q) (λ_:bw=>True) (λq=> .tuple #[]) (λq=>eW a2 r q):=
 by
  refine V.ju (T:=cm) Tryz.call80 Tryz.func80 U λ_ _=>?_;unfold sw at h;refine V.bI ab 3 0 h ou [0] [] U λi _ h=>?_;refine V.cJ ab 5 0 h m8 [0] U λj _ h=>?_;refine V.co ab 1 0 h U (λh=>?_) (λh=>?_)
  ·refine V.bI ab 3 0 h pI [0,0,0] [] U λk b h=>?_;cases h;exact V.rx ab 1 0 b [0,0,0] U
  refine V.cJ ab 4 0 h oZ [0] U λl _ h=>?_;refine V.cJ ab 5 0 h w8 [0] U λy23 _ h=>?_;refine V.db ab 2 0 h (ρ:=bw) (λs q=>[]) .nil (λs q=>gQ a2 s q) U ?_ ?_
  ·intro m _ h;refine V.h5 ab 6 0 h WV [] U (λ_=>id) λn h=>?_;refine V.co ab 3 0 h U (λh=>?_) (λh=>?_)
   ·refine V.bI ab 2 0 h (Xc a) [0,0,0] [] U λo c h=>?_;exact V.a6 ab 2 0 h c [1,2,0] U
   refine V.cJ ab 3 0 h ov [0] U λp _ h=>?_;refine V.h5 ab 6 0 h LH [] U (λ_ F d e=>F ⟨d,e⟩) λt h=>?_;refine V.h5 ab 5 0 h ahf [] U (λ_=>id) λu h=>?_;refine V.co ab 3 0 h U (λh=>?_) (λh=>?_)
   ·refine V.bI ab 6 0 h pJ [0] [] ⟨U,U,U,U⟩ λv _ h=>?_;exact V.a6 ab 2 0 h Q [1,2,0] U
   refine V.bI ab 2 0 h (ah4 a) [0,0,0] [] U λw f h=>?_;exact V.a6 ab 2 0 h f [1,2,0] U
  rintro⟨x,y,z,A,B,C,D,E,G⟩ g h;cases h;exact V.jM ab 0 0 g [2,0,0] U
def Xg(R:bk)(l:ah->Option ah)(m:ah->Option ah):ah->Option ah:=λ(f,g,h,b,d,i,j,c,k)=>
 (bif(decide (d=0)) then(aw (g9 (f,g,h,b,d,i,j,c,k)) λ(a:ah)=>(aw (hF (a.1,a.2.1,a.2.2.1,b,a.2.2.2.2.1,a.2.2.2.2.2.1,a.2.2.2.2.2.2.1,c,a.2.2.2.2.2.2.2.2)) λ(n:aa)=>(bif(!(decide (n=([124]:aa)))) then some (a.1,a.2.1,a.2.2.1,b,a.2.2.2.2.1,a.2.2.2.2.2.1,a.2.2.2.2.2.2.1,c,a.2.2.2.2.2.2.2.2) else(aw (ow (a.1,(W (a.2.1+1)),a.2.2.1,b,a.2.2.2.2.1,a.2.2.2.2.2.1,a.2.2.2.2.2.2.1,c,a.2.2.2.2.2.2.2.2)) λ(e:ah)=>(bif(!(decide (e.2.2.2.2.1=0))) then(aw (gx e ([]) ([120]:aa)) λ(o:ah)=>some o) else(aw (sw R e) λ(p:ah)=>m p)))))) else l (f,g,h,b,d,i,j,c,k))
def xd(R:bk)(x0:ah):Option ah:=
 (aw (g9 x0) λ(a:ah)=>(a_ (λ(d:Int)=>(aw (sw R (a.1,d,a.2.2.1,x0.2.2.2.1,a.2.2.2.2.1,a.2.2.2.2.2.1,a.2.2.2.2.2.2.1,x0.2.2.2.2.2.2.2.1,a.2.2.2.2.2.2.2.2)) λ(b:ah)=>(a_ (λ((e,f,g,h,i,j,k,l,m):ah)=>some (e,f,g,h,i,j,k,l,m)) λn=>(fixF (Xg R n) bC (b.1,b.2.1,b.2.2.1,b.2.2.2.1,b.2.2.2.2.1,b.2.2.2.2.2.1,b.2.2.2.2.2.2.1,b.2.2.2.2.2.2.2.1,b.2.2.2.2.2.2.2.2))))) λc=>(aw (lL (a.1,a.2.1,a.2.2.1,x0.2.2.2.1,a.2.2.2.2.1,a.2.2.2.2.2.1,a.2.2.2.2.2.2.1,x0.2.2.2.2.2.2.2.1,a.2.2.2.2.2.2.2.2)) λ(o:aa)=>(bif(decide (o=([33]:aa))) then c (W (a.2.1+1)) else c a.2.1))))
theorem Xh{R:bk}(b:h7 R){x0:ah}{a2:bL}{Q:bw}{r:ah}(h:xd R x0=some r):
  gP Tryz.prog 68 [.pointer a2] [] (eW a2 x0 Q) (λ_:bw=>True) (λq=> .tuple #[]) (λq=>eW a2 r q):=
 by
  refine V.ju (T:=cm) Tryz.call68 Tryz.func68 U λ_ _=>?_;unfold xd at h;refine V.bI ab 3 0 h ou [0] [] U λa _ h=>?_;refine V.fb ab 1 0 h (ρ:=Unit) (λs q=>[(0,.bm ⟨a2,1,1⟩ 0)]) .nil (λs q=>eW a2 (a.1,s,a.2.2.1,x0.2.2.2.1,a.2.2.2.2.1,a.2.2.2.2.2.1,a.2.2.2.2.2.2.1,x0.2.2.2.2.2.2.2.1,a.2.2.2.2.2.2.2.2) Q) U ?_ ?_
  ·intro i _ h;refine V.cJ ab 3 0 h w8 [0] U λj _ h=>?_;refine V.co ab 2 0 h U (λh=>?_) (λh=>?_)
   ·exact V.a6 ab 10 0 h () [0,1,2] ⟨U,U,U,U,U,U,U⟩
   exact V.a6 ab 1 0 h () [0,1,2] U
  rintro k _ h;refine V.bI ab 3 0 h (Xf b) [0,0,0] [] U λl d h=>?_;refine V.db ab 1 0 h (ρ:=bw) (λs q=>[]) .nil (λs q=>gQ a2 s q) U ?_ ?_
  ·intro m _ h;refine V.fc ab 0 0 h (ρ:=bw) (λs q=>[(0,.bm ⟨a2,1,1⟩ 0)]) .nil (λs q=>gQ a2 s q) d [1,2,0] U ?_;rintro n ⟨o,p,t,u,v,w,x,y,z⟩ c h;rw[Xg] at h;refine V.co ab 9 2 h ⟨U,U,U,U⟩ (λh=>?_) (λh=>?_)
   ·refine V.bI ab 5 0 h ou [2] [] U λA _ h=>?_;refine V.cJ ab 5 0 h oZ [0] U λB _ h=>?_;refine V.co ab 2 0 h U (λh=>?_) (λh=>?_)
    ·cases h;exact V.rx ab 0 0 c [0,0,0] U
    refine V.bI ab 15 0 h Cv [0,0,0] [] ⟨U,U,U,U,U,U,U⟩ λC D h=>?_;refine V.co ab 10 0 h ⟨U,U,U,U⟩ (λh=>?_) (λh=>?_)
    ·refine V.bI ab 3 0 h qY [0,0,0] [] U λE e h=>?_;cases h;exact V.rx ab 1 0 e [0,0,0] U
    refine V.bI ab 3 0 h (Xf b) [0,0,0] [] U λF f h=>?_;exact V.el ab 2 0 h f [1,2,0] U
   exact V.a6 ab 1 0 h c [0,1,2] U
  rintro⟨G,H,I,J,K,L,M,N,O⟩ g h;cases h;exact V.jM ab 0 0 g [2,0,0] U
def Xi(R:bk)(m:ah->Option ah)(n:ah->Option ah):ah->Option ah:=λ(f,g,h,b,d,i,j,c,k)=>
 (bif(decide (d=0)) then(aw (g9 (f,g,h,b,d,i,j,c,k)) λ(a:ah)=>(aw (hF (a.1,a.2.1,a.2.2.1,b,a.2.2.2.2.1,a.2.2.2.2.2.1,a.2.2.2.2.2.2.1,c,a.2.2.2.2.2.2.2.2)) λ(l:aa)=>(bif(bif(!(decide (l=([38,38]:aa)))) then(!(decide (l=([124,124]:aa)))) else false) then some (a.1,a.2.1,a.2.2.1,b,a.2.2.2.2.1,a.2.2.2.2.2.1,a.2.2.2.2.2.2.1,c,a.2.2.2.2.2.2.2.2) else(aw (ow (a.1,(W (a.2.1+2)),a.2.2.1,b,a.2.2.2.2.1,a.2.2.2.2.2.1,a.2.2.2.2.2.2.1,c,a.2.2.2.2.2.2.2.2)) λ(e:ah)=>(bif(!(decide (e.2.2.2.2.1=0))) then(aw (gx e ([]) ([120]:aa)) λ(o:ah)=>some o) else(aw (xd R e) λ(p:ah)=>n p)))))) else m (f,g,h,b,d,i,j,c,k))
def E6(R:bk)(x0:ah):Option ah:=
 (aw (xd R x0) λ(a:ah)=>(a_ (λ((b,c,d,e,f,g,h,i,j):ah)=>some (b,c,d,e,f,g,h,i,j)) λk=>(fixF (Xi R k) bC (a.1,a.2.1,a.2.2.1,a.2.2.2.1,a.2.2.2.2.1,a.2.2.2.2.2.1,a.2.2.2.2.2.2.1,a.2.2.2.2.2.2.2.1,a.2.2.2.2.2.2.2.2))))
theorem ah7{R:bk}(a:h7 R){x0:ah}{a2:bL}{Q:bw}{r:ah}(h:E6 R x0=some r):
  gP Tryz.prog 51 [.pointer a2] [] (eW a2 x0 Q) (λ_:bw=>True) (λq=> .tuple #[]) (λq=>eW a2 r q):=
 by
  refine V.ju (T:=cm) Tryz.call51 Tryz.func51 U λ_ _=>?_;unfold E6 at h;refine V.bI ab 3 0 h (Xh a) [0,0,0] [] U λg c h=>?_;refine V.db ab 1 0 h (ρ:=bw) (λs q=>[]) .nil (λs q=>gQ a2 s q) U ?_ ?_
  ·intro i _ h;refine V.fc ab 0 0 h (ρ:=bw) (λs q=>[(0,.bm ⟨a2,1,1⟩ 0)]) .nil (λs q=>gQ a2 s q) c [1,2,0] U ?_;rintro j ⟨k,l,m,n,o,p,t,u,v⟩ b h;rw[Xi] at h;refine V.co ab 9 2 h ⟨U,U,U,U⟩ (λh=>?_) (λh=>?_)
   ·refine V.bI ab 5 0 h ou [2] [] U λw _ h=>?_;refine V.cJ ab 4 0 h oZ [0] U λx _ h=>?_;refine V.co ab 12 0 h U (λh=>?_) (λh=>?_)
    ·cases h;exact V.rx ab 0 0 b [0,0,0] U
    refine V.bI ab 16 0 h Cv [0,0,0] [] ⟨U,U,U,U,U,U,U⟩ λy z h=>?_;refine V.co ab 10 0 h ⟨U,U,U,U⟩ (λh=>?_) (λh=>?_)
    ·refine V.bI ab 3 0 h qY [0,0,0] [] U λA d h=>?_;cases h;exact V.rx ab 1 0 d [0,0,0] U
    refine V.bI ab 3 0 h (Xh a) [0,0,0] [] U λB e h=>?_;exact V.el ab 2 0 h e [1,2,0] U
   exact V.a6 ab 1 0 h b [0,1,2] U
  rintro⟨C,D,E,F,G,H,I,J,K⟩ f h;cases h;exact V.jM ab 0 0 f [2,0,0] U
def AI(R:bk)(g:aa)(x:bt)(l:Bool)(m:(Int×ah)->Option (Int×ah))(y:(Int×ah)->Option (Int×ah)):(Int×ah)->Option (Int×ah):=λ(d,n,o,p,e,i,q,r,f,s)=>
 (bif(decide (i=0)) then(a_ (λ((z,A,B,C,D,E,F,G,H,I):Int×ah)=>y (z,A,B,C,D,E,F,G,H,I)) λj=>(aw (g9 (n,o,p,e,i,q,r,f,s)) λ(a:ah)=>(aw (gw (a.1,a.2.1,a.2.2.1,e,a.2.2.2.2.1,a.2.2.2.2.2.1,a.2.2.2.2.2.2.1,f,a.2.2.2.2.2.2.2.2)) λ(J:Bool)=>(bif J then(a_ (λ((K,L,M,N,O,P,Q,S,T):ah)=>m (d,K,L,M,N,O,P,Q,S,T)) λt=>(bif(!(decide (g=[]))) then(aw (g_ (a.1,a.2.1,a.2.2.1,e,a.2.2.2.2.1,a.2.2.2.2.2.1,a.2.2.2.2.2.2.1,f,a.2.2.2.2.2.2.2.2) ([])) λ(U:ah)=>t U) else t (a.1,a.2.1,a.2.2.1,e,a.2.2.2.2.1,a.2.2.2.2.2.1,a.2.2.2.2.2.2.1,f,a.2.2.2.2.2.2.2.2))) else(aw (ik (a.1,a.2.1,a.2.2.1,e,a.2.2.2.2.1,a.2.2.2.2.2.1,a.2.2.2.2.2.2.1,f,a.2.2.2.2.2.2.2.2)) λ(V:UInt8)=>(bif(decide ((V.toNat:Int)=(10:Int))) then(aw (Au (a.1,a.2.1,a.2.2.1,e,a.2.2.2.2.1,a.2.2.2.2.2.1,a.2.2.2.2.2.2.1,f,a.2.2.2.2.2.2.2.2)) λ(X:ah)=>j (d,X)) else(aw (hF (a.1,a.2.1,a.2.2.1,e,a.2.2.2.2.1,a.2.2.2.2.2.1,a.2.2.2.2.2.2.1,f,a.2.2.2.2.2.2.2.2)) λ(u:aa)=>(aw (lL (a.1,a.2.1,a.2.2.1,e,a.2.2.2.2.1,a.2.2.2.2.2.1,a.2.2.2.2.2.2.1,f,a.2.2.2.2.2.2.2.2)) λ(v:aa)=>(cT ((decide (0<d))=true/\(bif(bif(decide (u=g)) then(!(decide (g=[]))) else false) then(bif(decide (0<d)) then true else(!l)) else false)=false) (yI v x) false λ(Y:Bool)=>(bif(bif(bif(bif(bif(decide (u=g)) then(!(decide (g=[]))) else false) then(bif(decide (0<d)) then true else(!l)) else false) then true else(bif(decide (0<d)) then Y else false)) then true else(bif(decide (g=([59,59]:aa))) then(decide (v=([101,115,97,99]:aa))) else false)) then some (d,(a.1,a.2.1,a.2.2.1,e,a.2.2.2.2.1,a.2.2.2.2.2.1,a.2.2.2.2.2.2.1,f,a.2.2.2.2.2.2.2.2)) else(aw (E6 R (a.1,a.2.1,a.2.2.1,e,a.2.2.2.2.1,a.2.2.2.2.2.1,a.2.2.2.2.2.2.1,f,a.2.2.2.2.2.2.2.2)) λ(c:ah)=>(bif(!(decide (c.2.2.2.2.1=0))) then some ((W (d+1)),c) else(aw (g9 c) λ(b:ah)=>(aw (hF (b.1,b.2.1,b.2.2.1,c.2.2.2.1,b.2.2.2.2.1,b.2.2.2.2.2.1,b.2.2.2.2.2.2.1,c.2.2.2.2.2.2.2.1,b.2.2.2.2.2.2.2.2)) λ(k:aa)=>(aw (gw (b.1,b.2.1,b.2.2.1,c.2.2.2.1,b.2.2.2.2.1,b.2.2.2.2.2.1,b.2.2.2.2.2.2.1,c.2.2.2.2.2.2.2.1,b.2.2.2.2.2.2.2.2)) λ(w:Bool)=>(cT (w=false) (ik (b.1,b.2.1,b.2.2.1,c.2.2.2.1,b.2.2.2.2.1,b.2.2.2.2.2.1,b.2.2.2.2.2.2.1,c.2.2.2.2.2.2.2.1,b.2.2.2.2.2.2.2.2)) (0:UInt8) λ(Z:UInt8)=>(bif(bif(bif w then true else(decide ((Z.toNat:Int)=(10:Int)))) then true else(bif(decide (k=g)) then(!(decide (g=[]))) else false)) then j ((W (d+1)),b.1,b.2.1,b.2.2.1,c.2.2.2.1,b.2.2.2.2.1,b.2.2.2.2.2.1,b.2.2.2.2.2.2.1,c.2.2.2.2.2.2.2.1,b.2.2.2.2.2.2.2.2) else(bif(bif(!(decide (k=([59]:aa)))) then(!(decide (k=([38]:aa)))) else false) then(aw (hq (b.1,b.2.1,b.2.2.1,c.2.2.2.1,b.2.2.2.2.1,b.2.2.2.2.2.1,b.2.2.2.2.2.2.1,c.2.2.2.2.2.2.2.1,b.2.2.2.2.2.2.2.2) b.2.1) λ(h:ah)=>some ((W (d+1)),(h.1,h.2.1,h.2.2.1,c.2.2.2.1,h.2.2.2.2.1,h.2.2.2.2.2.1,h.2.2.2.2.2.2.1,c.2.2.2.2.2.2.2.1,h.2.2.2.2.2.2.2.2))) else j ((W (d+1)),b.1,(W (b.2.1+1)),b.2.2.1,c.2.2.2.1,b.2.2.2.2.1,b.2.2.2.2.2.1,b.2.2.2.2.2.2.1,c.2.2.2.2.2.2.2.1,b.2.2.2.2.2.2.2.2))))))))))))))))))) else m (d,n,o,p,e,i,q,r,f,s))
def E7(R:bk)(x0:ah)(n:aa)(o:bt)(b:Bool):Option (Int×ah):=
 (a_ (λ((c,d,e,f,g,h,i,j,k,l):Int×ah)=>(a_ (λ((p,q,r,s,t,u,v,w,x):ah)=>some (c,(p,q,r,s,t,u,v,w,x))) λm=>(bif(bif b then(decide (c=0)) else false) then(aw (gx (d,e,f,g,h,i,j,k,l) ([]) ([120]:aa)) λ(a:ah)=>m (a.1,a.2.1,a.2.2.1,a.2.2.2.1,a.2.2.2.2.1,a.2.2.2.2.2.1,a.2.2.2.2.2.2.1,a.2.2.2.2.2.2.2.1,a.2.2.2.2.2.2.2.2)) else m (d,e,f,g,h,i,j,k,l)))) λy=>(fixF (AI R n o b y) bC (0,x0.1,x0.2.1,x0.2.2.1,x0.2.2.2.1,x0.2.2.2.2.1,x0.2.2.2.2.2.1,x0.2.2.2.2.2.2.1,x0.2.2.2.2.2.2.2.1,x0.2.2.2.2.2.2.2.2)))
theorem ah8{R:bk}(n:h7 R){x0:ah}{d:aa}{c:bt}{b:Bool}{a:bL}{Q:bw}{e:bL}{f:Nat}{r:Int×ah}(h:E7 R x0 d c b=some r):
  gP Tryz.prog 32 [.pointer a,.string (a5 d),.slice e c.length f,.bool b] [h6 e c f] (eW a x0 Q) (λ_:bw=>True) (λq=> .int .i64 r.1) (λq=>eW a r.2 q):=
 by
  refine V.ju (T:=cm) Tryz.call32 Tryz.func32 U λ_ _=>?_;unfold E7 at h;refine V.db ab 9 0 h (ρ:=bw) (λs q=>[(0,.bm ⟨a,1,1⟩ 0),(3,.v (.bool b)),(9,.v (.int .i64 s.1))]) .nil (λs q=>gQ a s.2 q) U ?_ ?_
  ·intro z _ h;refine V.fc ab 0 0 h (ρ:=bw) (λs q=>[(0,.bm ⟨a,1,1⟩ 0),(1,.v (.string (a5 d))),(2,.v (.slice e c.length f)),(3,.v (.bool b)),(9,.v (.int .i64 s.1))]) .nil (λs q=>gQ a s.2 q) Q [1,2,0] U ?_;rintro o ⟨p,A,B,C,D,E,G,H,I,J⟩ i h;rw[AI] at h;refine V.co ab 9 3 h ⟨U,U,U,U⟩ (λh=>?_) (λh=>?_)
   ·refine V.db ab 1 0 h (ρ:=bw) (λs q=>[(0,.bm ⟨a,1,1⟩ 0),(1,.v (.string (a5 d))),(2,.v (.slice e c.length f)),(3,.v (.bool b)),(9,.v (.int .i64 s.1))]) .nil (λs q=>gQ a s.2 q) U ?_ ?_
    ·intro K _ h;refine V.bI ab 3 0 h ou [2] [] U λL _ h=>?_;refine V.cJ ab 5 0 h m8 [1] U λM _ h=>?_;refine V.co ab 1 0 h U (λh=>?_) (λh=>?_)
     ·refine V.fb ab 0 0 h (ρ:=bw) (λs q=>[(0,.bm ⟨a,1,1⟩ 0),(3,.v (.bool b)),(9,.v (.int .i64 p))]) .nil (λs q=>gQ a s q) U ?_ ?_
      ·intro N _ h;refine V.co ab 5 0 h U (λh=>?_) (λh=>?_)
       ·refine V.bI ab 2 0 h pI [0,0,0] [] U λO t h=>?_;exact V.a6 ab 1 0 h t [1,2,0] U
       exact V.a6 ab 1 0 h i [1,2,0] U
      rintro⟨P,S,W,X,Y,Z,iV,kv,qi⟩ u h
      try dsimp only at h
      exact V.a6 ab 1 0 h u [0,1,2] U
     refine V.cJ ab 5 0 h ov [1] U λl_ _ h=>?_;refine V.co ab 2 0 h U (λh=>?_) (λh=>?_)
     ·refine V.bI ab 3 0 h WT [0,0,0] [] U λgE v h=>?_;exact V.a6 ab 2 0 h v [1,2,0] U
     refine V.cJ ab 4 0 h oZ [1] U λeD _ h=>?_;refine V.cJ ab 5 0 h w8 [1] U λjP _ h=>?_;refine V.h5 ab 26 0 h LG [0] U (λ_ F j k=>F ⟨j,k⟩) λoY h=>?_;refine V.co ab 11 0 h U (λh=>?_) (λh=>?_)
     ·cases h;exact V.rx ab 5 0 i [0,0,0] U
     refine V.bI ab 4 0 h (ah7 n) [0,0,0] [] U λkY g h=>?_;refine V.co ab 16 1 h ⟨U,U,U,U⟩ (λh=>?_) (λh=>?_)
     ·cases h;exact V.rx ab 5 0 g [0,0,0] U
     refine V.bI ab 4 0 h ou [0] [] U λdg _ h=>?_;refine V.cJ ab 4 0 h oZ [1] U λg3 _ h=>?_;refine V.cJ ab 6 0 h m8 [1] U λuu _ h=>?_;refine V.h5 ab 2 0 h ov [1] U (λ_=>id) λnV h=>?_;refine V.co ab 12 0 h U (λh=>?_) (λh=>?_)
     ·exact V.a6 ab 1 0 h g [1,2,0] U
     refine V.co ab 11 0 h U (λh=>?_) (λh=>?_)
     ·refine V.bI ab 7 1 h pJ [0] [] ⟨U,U,U,U⟩ λiB _ h=>?_;cases h;exact V.rx ab 6 0 g [0,0,0] U
     exact V.a6 ab 12 1 h g [1,2,0] ⟨U,U,U,U,U,U,U⟩
    rintro⟨pC,m3,pE,pF,ql,uF,pD,q1,yO,su⟩ w h
    try dsimp only at h
    exact V.el ab 0 0 h w [0,1,2] U
   exact V.a6 ab 1 0 h i [0,1,2] U
  rintro⟨x,Et,Rs,tn,uv,Rt,Ru,yQ,E3,Rv⟩ l h;refine V.fb ab 0 0 h (ρ:=bw) (λs q=>[(9,.v (.int .i64 x))]) .nil (λs q=>gQ a s q) U ?_ ?_
  ·intro Rw _ h;refine V.co ab 8 0 h U (λh=>?_) (λh=>?_)
   ·refine V.bI ab 2 0 h qY [2,0,0] [] U λuH y h=>?_;exact V.a6 ab 1 0 h y [1,2,0] U
   exact V.a6 ab 1 0 h l [0,1,2] U
  rintro⟨Xj,HX,Iy,Iz,Xk,Xl,IA,Xm,Xn⟩ m h;cases h;exact V.rx ab 5 0 m [2,0,0] U
def L1(x0:aa)(i:Int->Option (Int×Int))(b:(Int×Int)->Option (Int×Int)):(Int×Int)->Option (Int×Int):=λ(c,a)=>
 (bif(decide (a<(x0.length:Int))) then(a_ (λ(j:Int)=>b (j,(W (a+1)))) λf=>(a9 (0<=a/\a<(x0.length:Int))<|(a_ (λ(d:UInt8)=>(bif(bif(bif(bif(bif(decide (((at' x0 a).toNat:Int)=(39:Int))) then true else(decide (((at' x0 a).toNat:Int)=(34:Int)))) then true else(decide (((at' x0 a).toNat:Int)=(92:Int)))) then true else(decide (((at' x0 a).toNat:Int)=(96:Int)))) then true else(bif(decide (((at' x0 a).toNat:Int)=(36:Int))) then(bif(decide ((d.toNat:Int)=(40:Int))) then true else(decide ((d.toNat:Int)=(123:Int)))) else false)) then some ((-2),a) else(a_ (λ(e:Int)=>(bif(bif(decide (((at' x0 a).toNat:Int)=(41:Int))) then(decide (0<e)) else false) then f (W (e-1)) else(bif(bif(decide (((at' x0 a).toNat:Int)=(41:Int))) then(decide ((W (a+1))=(x0.length:Int))) else false) then some ((-1),1) else(bif(bif(decide (((at' x0 a).toNat:Int)=(41:Int))) then(!(decide ((d.toNat:Int)=(41:Int)))) else false) then some ((-2),a) else(bif(decide (((at' x0 a).toNat:Int)=(41:Int))) then some ((W (a+2)),0) else f e))))) λg=>(bif(decide (((at' x0 a).toNat:Int)=(40:Int))) then g (W (c+1)) else g c)))) λh=>(bif(decide ((W (a+1))<(x0.length:Int))) then(a9 (0<=(W (a+1))/\(W (a+1))<(x0.length:Int))<|h (at' x0 (W (a+1)))) else h (0:UInt8))))) else i c)
def E8(x0:aa)(a:Int):Option (Int×Int):=
 (aw (At a (x0.length:Int)) λ(b:Int)=>(a_ (λ(c:Int)=>some ((-1),(W (c+2)))) λd=>(fixF (L1 x0 d) bC (0,b))))
theorem aid{x0:aa}{b:Int}{r:Int×Int}(h:E8 x0 b=some r):
  eH Tryz.prog 168 [.string (a5 x0),.int .i64 b] [] (λ_:Unit=>True) (λ_=> .tuple #[.int .i64 r.1,.int .i64 r.2]) (λ_=>[]):=
 by
  refine V.fI (T:=cm) Tryz.call168 Tryz.func168 U λ_=>?_;unfold E8 at h;refine V.cJ ab 15 0 h Lz [] U λi _ h=>?_;refine V.db ab 2 0 h (ρ:=Unit) (λs q=>[(6,.v (.int .i64 s))]) .nil (λs q=>[]) U ?_ ?_
  ·intro j _ h;refine V.fc ab 0 0 h (ρ:=Unit) (λs q=>[(0,.v (.string (a5 x0))),(6,.v (.int .i64 s.1)),(7,.v (.int .i64 s.2))]) .nil (λs q=>[]) () [] U ?_;rintro c ⟨d,a⟩ _ h;rw[L1] at h;refine V.co ab 8 0 h U (λh=>?_) (λh=>?_)
   ·refine V.db ab 2 0 h (ρ:=Unit) (λs q=>[(0,.v (.string (a5 x0))),(6,.v (.int .i64 s)),(7,.v (.int .i64 a))]) .nil (λs q=>[]) U ?_ ?_
    ·intro k _ h;obtain⟨e,h⟩:=bG h;refine V.fb ab 11 0 h (ρ:=Unit) (λs q=>[(0,.v (.string (a5 x0))),(6,.v (.int .i64 d)),(7,.v (.int .i64 a)),(8,.v (.int .u8 ((at' x0 a).toNat:Int))),(9,.v (.int .u8 (s.toNat:Int)))]) .nil (λs q=>[]) ⟨e,U⟩ ?_ ?_
     ·intro l _ h;refine V.co ab 8 0 h U (λh=>?_) (λh=>?_)
      ·obtain⟨f,h⟩:=bG h;exact V.a6 ab 7 0 h () [] ⟨f,U⟩
      exact V.a6 ab 1 0 h () [] U
     rintro g _ h;refine V.co ab 30 0 h U (λh=>?_) (λh=>?_)
     ·cases h;exact V.rt ab 6 0 () [] U
     refine V.fb ab 1 0 h (ρ:=Unit) (λs q=>[(0,.v (.string (a5 x0))),(6,.v (.int .i64 s)),(7,.v (.int .i64 a)),(8,.v (.int .u8 ((at' x0 a).toNat:Int))),(9,.v (.int .u8 (g.toNat:Int)))]) .nil (λs q=>[]) U ?_ ?_
     ·intro m _ h;refine V.co ab 5 0 h U (λh=>?_) (λh=>?_)
      ·exact V.a6 ab 5 0 h () [] U
      exact V.a6 ab 1 0 h () [] U
     rintro n _ h;refine V.co ab 10 0 h U (λh=>?_) (λh=>?_)
     ·exact V.a6 ab 7 0 h () [] U
     refine V.co ab 14 0 h U (λh=>?_) (λh=>?_)
     ·cases h;exact V.rt ab 5 0 () [] U
     refine V.co ab 11 0 h U (λh=>?_) (λh=>?_)
     ·cases h;exact V.rt ab 6 0 () [] U
     refine V.co ab 6 0 h U (λh=>?_) (λh=>?_)
     ·cases h;exact V.rt ab 7 0 () [] U
     exact V.a6 ab 2 0 h () [] U
    rintro o _ h
    try dsimp only at h
    exact V.el ab 5 0 h () [] U
   exact V.a6 ab 1 0 h () [] U
  rintro p _ h;cases h;exact V.rt ab 7 0 () [] U
def xe(R:bk)(m:ah->Option ah)(l:ah->Option ah):ah->Option ah:=λ(a,b,f,c,d,g,h,e,i)=>
 (bif(decide (d=0)) then(a_ (λ((n,o,p,q,r,s,t,u,v):ah)=>l (n,o,p,q,r,s,t,u,v)) λj=>(aw (gw (a,b,f,c,d,g,h,e,i)) λ(w:Bool)=>(bif w then(aw (g_ (a,b,f,c,d,g,h,e,i) ([])) λ(x:ah)=>j x) else(aw (ik (a,b,f,c,d,g,h,e,i)) λ(y:UInt8)=>(bif(decide ((y.toNat:Int)=(125:Int))) then some (a,(W (b+1)),f,c,d,g,h,e,i) else(aw (ik (a,b,f,c,d,g,h,e,i)) λ(z:UInt8)=>(bif(decide ((z.toNat:Int)=(92:Int))) then(aw (w9 (a,b,f,c,d,g,h,e,i)) λ(k:ah)=>j (k.1,k.2.1,k.2.2.1,c,k.2.2.2.2.1,k.2.2.2.2.2.1,k.2.2.2.2.2.2.1,e,k.2.2.2.2.2.2.2.2)) else(aw (ik (a,b,f,c,d,g,h,e,i)) λ(A:UInt8)=>(bif(decide ((A.toNat:Int)=(39:Int))) then(aw (Cs a (W (b+1))) λ(B:Int)=>(aw (ss (a,b,f,c,d,g,h,e,i) B ([39]:aa) ([39]:aa)) λ(C:ah)=>j C)) else(aw (ik (a,b,f,c,d,g,h,e,i)) λ(D:UInt8)=>(bif(decide ((D.toNat:Int)=(34:Int))) then(aw (ES R (a,b,f,c,d,g,h,e,i)) λ(E:ah)=>j E) else(aw (ik (a,b,f,c,d,g,h,e,i)) λ(F:UInt8)=>(bif(decide ((F.toNat:Int)=(96:Int))) then(aw (Ax a (W (b+1))) λ(G:Int)=>(aw (ss (a,b,f,c,d,g,h,e,i) G ([96]:aa) ([96]:aa)) λ(H:ah)=>j H)) else(aw (ik (a,b,f,c,d,g,h,e,i)) λ(I:UInt8)=>(bif(decide ((I.toNat:Int)=(36:Int))) then(aw (R.vu (a,b,f,c,d,g,h,e,i)) λ(J:ah)=>j J) else j (a,(W (b+1)),f,c,d,g,h,e,i)))))))))))))))) else m (a,b,f,c,d,g,h,e,i))
def L3(R:bk)(x0:ah):Option ah:=
 (a_ (λ((a,b,c,d,e,f,g,h,i):ah)=>(aw (gx (a,b,c,d,e,f,g,h,i) ([36,123]:aa) ([125]:aa)) λ(j:ah)=>some j)) λk=>(fixF (xe R k) bC (x0.1,(W (x0.2.1+2)),x0.2.2.1,x0.2.2.2.1,x0.2.2.2.2.1,x0.2.2.2.2.2.1,x0.2.2.2.2.2.2.1,x0.2.2.2.2.2.2.2.1,x0.2.2.2.2.2.2.2.2)))
theorem aif{R:bk}(n:h7 R){x0:ah}{a2:bL}{Q:bw}{r:ah}(h:L3 R x0=some r):
  gP Tryz.prog 169 [.pointer a2] [] (eW a2 x0 Q) (λ_:bw=>True) (λq=> .tuple #[]) (λq=>eW a2 r q):=
 by
  refine V.ju (T:=cm) Tryz.call169 Tryz.func169 U λ_ _=>?_;unfold L3 at h;refine V.db ab 13 0 h (ρ:=bw) (λs q=>[(0,.bm ⟨a2,1,1⟩ 0)]) .nil (λs q=>gQ a2 s q) ⟨U,U,U,U,U,U,U⟩ ?_ ?_
  ·intro F _ h;refine V.fc ab 0 0 h (ρ:=bw) (λs q=>[(0,.bm ⟨a2,1,1⟩ 0)]) .nil (λs q=>gQ a2 s q) Q [1,2,0] U ?_;rintro o ⟨d,b,e,f,g,i,j,k,l⟩ a h;rw[xe] at h;refine V.go ab 3 0 U ?_;refine V.cn (aJ.jf 2 U λc=>V.cA ?_);refine V.co ab 6 2 h ⟨U,U,U,U⟩ (λh=>?_) (λh=>?_)
   ·refine V.db ab 2 0 h (ρ:=bw) (λs q=>[(0,.bm ⟨a2,1,1⟩ 0)]) .nil (λs q=>gQ a2 s q) U ?_ ?_
    ·intro G _ h;refine V.cJ ab 3 0 h m8 [2] U λH _ h=>?_;refine V.co ab 2 0 h U (λh=>?_) (λh=>?_)
     ·refine V.bI ab 2 0 h pI [2,0,0] [] U λI p h=>?_;exact V.a6 ab 2 0 h p [1,2,0] U
     refine V.cJ ab 3 0 h ov [2] U λJ _ h=>?_;refine V.co ab 3 0 h U (λh=>?_) (λh=>?_)
     ·cases h;exact V.rx ab 11 2 a [0,0,0] ⟨U,U,U,U,U,U,U⟩
     refine V.cJ ab 3 0 h ov [2] U λK _ h=>?_;refine V.co ab 3 0 h U (λh=>?_) (λh=>?_)
     ·refine V.bI ab 2 0 h Q5 [2] [] U λL _ h=>?_;exact V.a6 ab 2 0 h a [1,2,0] U
     refine V.cJ ab 3 0 h ov [2] U λM _ h=>?_;refine V.co ab 3 0 h U (λh=>?_) (λh=>?_)
     ·obtain⟨N,t,h⟩:=jZ h;obtain⟨O,u,h⟩:=jZ h;refine V.j3 (aT.sc U .nil [2] [10,11] trivial U (λv=>?_));refine bE.ps ab gj 10 [0,5] U (by kernel_rfl) [] [(48,.bm ⟨a2,1,1⟩ 0),(53,.bm ⟨a2,1,1⟩ 0)] U (fH U) (bE.eI ab gj true 5 [1,2,3,6,7] U (by kernel_rfl) [] [(51,.bm ⟨a2,1,1⟩ 0),(55,.bm ⟨a2,1,1⟩ 1)] trivial [2] U U ⟨(c.fT fU).1,c.fT fU,(c.fT fU).1,c.fT fU,(fH U)⟩ (bE.kR ab gj 4 U (by kernel_rfl) U U U U U 0 U U 0 0 (d,b,e,(bz.v ⟨a.1,f.length,a.2.1⟩),g,i,j,(bz.v ⟨a.2.2.1,k.length,a.2.2.2⟩),l) ⟨U,U⟩ U U U trivial [2] U (bE.kR ab gj 8 U (by kernel_rfl) U U U U U 0 U U 0 1 (d,b,e,(bz.v ⟨a.1,f.length,a.2.1⟩),g,i,j,(bz.v ⟨a.2.2.1,k.length,a.2.2.2⟩),l) ⟨U,U⟩ U U U trivial [2] U (bE.eI ab gj true 2 [9] U (by kernel_rfl) [(W (b+1))] [(57,.v (.int .i64 (W (b+1))))] trivial [2] U U ⟨⟨trivial,U⟩,⟨U,trivial⟩⟩ (bE.one 10 (by kernel_rfl) (cM.call U U U U (WZ t) U [] U U λ_ _=>bE.nN U (bE.one 11 (by kernel_rfl) (cM.qc U U U U (ER u) U [2,0,0] U [] U U ?_))))))));rintro w-;refine bE.nN U (bE.done (by kernel_rfl) (aT.boxes (B':= .nil) trivial (V.iH ?_)));exact V.a6 ab 1 0 h w [1,2,0] U
     refine V.cJ ab 3 0 h ov [2] U λP _ h=>?_;refine V.co ab 3 0 h U (λh=>?_) (λh=>?_)
     ·refine V.bI ab 2 0 h (WY n) [2,0,0] [] U λS x h=>?_;exact V.a6 ab 2 0 h x [1,2,0] U
     refine V.cJ ab 3 0 h ov [2] U λX _ h=>?_;refine V.co ab 3 0 h U (λh=>?_) (λh=>?_)
     ·obtain⟨Y,y,h⟩:=jZ h;obtain⟨Z,z,h⟩:=jZ h;refine V.j3 (aT.sc U .nil [2] [10,11] trivial U (λA=>?_));refine bE.ps ab gj 10 [0,5] U (by kernel_rfl) [] [(70,.bm ⟨a2,1,1⟩ 0),(75,.bm ⟨a2,1,1⟩ 0)] U (fH U) (bE.eI ab gj true 5 [1,2,3,6,7] U (by kernel_rfl) [] [(73,.bm ⟨a2,1,1⟩ 0),(77,.bm ⟨a2,1,1⟩ 1)] trivial [2] U U ⟨(c.fT fU).1,c.fT fU,(c.fT fU).1,c.fT fU,(fH U)⟩ (bE.kR ab gj 4 U (by kernel_rfl) U U U U U 0 U U 0 0 (d,b,e,(bz.v ⟨a.1,f.length,a.2.1⟩),g,i,j,(bz.v ⟨a.2.2.1,k.length,a.2.2.2⟩),l) ⟨U,U⟩ U U U trivial [2] U (bE.kR ab gj 8 U (by kernel_rfl) U U U U U 0 U U 0 1 (d,b,e,(bz.v ⟨a.1,f.length,a.2.1⟩),g,i,j,(bz.v ⟨a.2.2.1,k.length,a.2.2.2⟩),l) ⟨U,U⟩ U U U trivial [2] U (bE.eI ab gj true 2 [9] U (by kernel_rfl) [(W (b+1))] [(79,.v (.int .i64 (W (b+1))))] trivial [2] U U ⟨⟨trivial,U⟩,⟨U,trivial⟩⟩ (bE.one 10 (by kernel_rfl) (cM.call U U U U (Q4 y) U [] U U λ_ _=>bE.nN U (bE.one 11 (by kernel_rfl) (cM.qc U U U U (ER z) U [2,0,0] U [] U U ?_))))))));rintro B-;refine bE.nN U (bE.done (by kernel_rfl) (aT.boxes (B':= .nil) trivial (V.iH ?_)));exact V.a6 ab 1 0 h B [1,2,0] U
     refine V.cJ ab 3 0 h ov [2] U λjP _ h=>?_;refine V.co ab 3 0 h U (λh=>?_) (λh=>?_)
     ·refine V.bI ab 2 0 h n.vu [2,0,0] [] U λoY C h=>?_;exact V.a6 ab 2 0 h C [1,2,0] U
     exact V.a6 ab 11 2 h a [1,2,0] ⟨U,U,U,U,U,U,U⟩
    rintro⟨mn,vC,ns,rE,sj,vK,uD,z9,vQ⟩ D h
    try dsimp only at h
    exact V.el ab 1 0 h D [0,1,2] U
   exact V.a6 ab 1 0 h a [0,1,2] U
  rintro⟨rC,H2,Ib,AG,Xo,Xp,Ai,ID,Xq⟩ E h;refine V.bI ab 2 0 h qY [2,0,0] [] U λXr m h=>?_;cases h;exact V.jM ab 1 0 m [0,0,0] U
def E9(d:aa->Option ah)(a:(Int×aa)->Option ah):(Int×aa)->Option ah:=λ(c,b)=>
 (bif(decide (0<c)) then(a9 (((b.length+([41]:aa).length:Nat):Int)<=9223372036854775807)<|a ((W (c-1)),(b++([41]:aa)))) else d b)
def IG(R:bk)(x0:ah):Option ah:=
 (aw (tm x0 1) λ(f:UInt8)=>(cT ((decide ((f.toNat:Int)=(40:Int)))=true) (tm x0 2) (0:UInt8) λ(k:UInt8)=>(bif(bif(decide ((f.toNat:Int)=(40:Int))) then(decide ((k.toNat:Int)=(40:Int))) else false) then(aw (E8 x0.1 (W (x0.2.1+3))) λ(g,h)=>(bif(decide (g=(-2))) then(aw (hq x0 h) λ(e:ah)=>some (e.1,e.2.1,e.2.2.1,x0.2.2.2.1,e.2.2.2.2.1,e.2.2.2.2.2.1,e.2.2.2.2.2.2.1,x0.2.2.2.2.2.2.2.1,e.2.2.2.2.2.2.2.2)) else(a_ (λ(l:aa)=>(aw (ss x0 g ([36,40,40]:aa) l) λ(m:ah)=>some m)) λn=>(fixF (E9 n) bC (h,[]))))) else(aw (tm x0 1) λ(o:UInt8)=>(bif(decide ((o.toNat:Int)=(40:Int))) then(a_ (λ((p,q,r,s,t,u,v,w,x):ah)=>some (p,q,r,s,t,u,v,w,x)) λi=>(aw (yM x0 x0.2.1) λ(y,a)=>(bif y then(aw (R.nP (a.1,(W (a.2.1+2)),a.2.2.1,x0.2.2.2.1,a.2.2.2.2.1,a.2.2.2.2.2.1,a.2.2.2.2.2.2.1,x0.2.2.2.2.2.2.2.1,a.2.2.2.2.2.2.2.2) ([41]:aa) ([]:bt) false) λ(L,z)=>(aw (gx z ([36,40]:aa) ([41]:aa)) λ(c:ah)=>i (c.1,(W (c.2.1+1)),(W (c.2.2.1-1)),c.2.2.2.1,c.2.2.2.2.1,c.2.2.2.2.2.1,c.2.2.2.2.2.2.1,c.2.2.2.2.2.2.2.1,c.2.2.2.2.2.2.2.2))) else i (a.1,a.2.1,a.2.2.1,x0.2.2.2.1,a.2.2.2.2.1,a.2.2.2.2.2.1,a.2.2.2.2.2.2.1,x0.2.2.2.2.2.2.2.1,a.2.2.2.2.2.2.2.2)))) else(aw (tm x0 1) λ(A:UInt8)=>(bif(decide ((A.toNat:Int)=(123:Int))) then(a_ (λ((B,C,D,E,F,G,H,I,J):ah)=>some (B,C,D,E,F,G,H,I,J)) λj=>(aw (yM x0 x0.2.1) λ(K,b)=>(bif K then(aw (L3 R (b.1,b.2.1,b.2.2.1,x0.2.2.2.1,b.2.2.2.2.1,b.2.2.2.2.2.1,b.2.2.2.2.2.2.1,x0.2.2.2.2.2.2.2.1,b.2.2.2.2.2.2.2.2)) λ(d:ah)=>j (d.1,d.2.1,(W (d.2.2.1-1)),d.2.2.2.1,d.2.2.2.2.1,d.2.2.2.2.2.1,d.2.2.2.2.2.2.1,d.2.2.2.2.2.2.2.1,d.2.2.2.2.2.2.2.2)) else j (b.1,b.2.1,b.2.2.1,x0.2.2.2.1,b.2.2.2.2.1,b.2.2.2.2.2.1,b.2.2.2.2.2.2.1,x0.2.2.2.2.2.2.2.1,b.2.2.2.2.2.2.2.2)))) else some (x0.1,(W (x0.2.1+1)),x0.2.2.1,x0.2.2.2.1,x0.2.2.2.2.1,x0.2.2.2.2.2.1,x0.2.2.2.2.2.2.1,x0.2.2.2.2.2.2.2.1,x0.2.2.2.2.2.2.2.2))))))))
theorem aij{R:bk}(d:h7 R){x0:ah}{a2:bL}{Q:bw}{r:ah}(h:IG R x0=some r):
  gP Tryz.prog 158 [.pointer a2] [] (eW a2 x0 Q) (λ_:bw=>True) (λq=> .tuple #[]) (λq=>eW a2 r q):=
 by
  refine V.ju (T:=cm) Tryz.call158 Tryz.func158 U λ_ _=>?_;unfold IG at h;refine V.cJ ab 4 0 h EP [0] U λl _ h=>?_;refine V.h5 ab 3 0 h EP [0] U (λ_=>id) λm h=>?_;refine V.co ab 3 0 h U (λh=>?_) (λh=>?_)
  ·refine V.jt ab 1 0 U (by kernel_rfl) ?_;refine V.go ab 9 0 ⟨U,U,U,U,U,U,U⟩ ?_;obtain⟨⟨e,n⟩,a,h⟩:=jZ h;refine V.toQ (k9.call U U U U (aid a) U [] U U (V.te ?_));refine V.co ab 12 0 h U (λh=>?_) (λh=>?_)
   ·refine V.bI ab 4 0 h pJ [0] [] U λo _ h=>?_;cases h;exact V.rx ab 1 0 Q [0,0,0] U
   refine V.db ab 6 0 h (ρ:=Unit) (λs q=>[(0,.bm ⟨a2,1,1⟩ 0),(2,.v (.int .i64 e)),(4,.v (.string (a5 s)))]) .nil (λs q=>eW a2 x0 Q) U ?_ ?_
   ·intro p _ h;refine V.fc ab 0 0 h (ρ:=Unit) (λs q=>[(0,.bm ⟨a2,1,1⟩ 0),(2,.v (.int .i64 e)),(3,.v (.int .i64 s.1)),(4,.v (.string (a5 s.2)))]) .nil (λs q=>eW a2 x0 Q) () [0,1,2] U ?_;rintro f ⟨t,u⟩ _ h;rw[E9] at h;refine V.co ab 6 0 h U (λh=>?_) (λh=>?_)
    ·obtain⟨g,h⟩:=bG h;exact V.el ab 14 0 h () [0,1,2] ⟨g,U⟩
    exact V.a6 ab 1 0 h () [0,1,2] U
   rintro v _ h;refine V.bI ab 5 0 h ER [0,0,0] [] U λw i h=>?_;cases h;exact V.rx ab 1 0 i [0,0,0] U
  refine V.cJ ab 5 0 h EP [0] U λx _ h=>?_;refine V.co ab 2 0 h U (λh=>?_) (λh=>?_)
  ·refine V.fb ab 0 0 h (ρ:=bw) (λs q=>[]) .nil (λs q=>gQ a2 s q) U ?_ ?_
   ·intro y _ h;refine V.bI ab 7 0 h Rf [0] [] ⟨U,U,U,U⟩ ?_;rintro⟨z,A⟩ _ h;refine V.co ab 1 0 h U (λh=>?_) (λh=>?_)
    ·refine V.go ab 15 0 ⟨U,U,U,U,U,U,U⟩ ?_;refine V.cn (aJ.Kr .str bz.nil U U (V.cA ?_));refine V.bI ab 0 0 h d.nP [0,0,0] [0] U ?_;rintro⟨B,C⟩ D h;refine V.bI ab 4 0 h qY [0,0,0] [] U λE b h=>?_;exact V.z3 ab 22 1 h b [1,2,0] [] ⟨U,U,U,U,U,U,U,U,U,U,U,U,U⟩
    exact V.a6 ab 1 0 h Q [1,2,0] U
   rintro⟨F,G,H,I,J,K,L,M,N⟩ j h;cases h;exact V.rx ab 0 0 j [2,0,0] U
  refine V.cJ ab 5 0 h EP [0] U λO _ h=>?_;refine V.co ab 2 0 h U (λh=>?_) (λh=>?_)
  ·refine V.fb ab 0 0 h (ρ:=bw) (λs q=>[]) .nil (λs q=>gQ a2 s q) U ?_ ?_
   ·intro P _ h;refine V.bI ab 7 0 h Rf [0] [] ⟨U,U,U,U⟩ ?_;rintro⟨S,W⟩ _ h;refine V.co ab 1 0 h U (λh=>?_) (λh=>?_)
    ·refine V.bI ab 3 0 h (aif d) [0,0,0] [] U λX k h=>?_;exact V.a6 ab 11 0 h k [1,2,0] ⟨U,U,U,U,U,U,U⟩
    exact V.a6 ab 1 0 h Q [1,2,0] U
   rintro⟨Y,Z,pD,q1,oS,su,vM,qX,rJ⟩ c h;cases h;exact V.rx ab 0 0 c [2,0,0] U
  cases h;exact V.jM ab 11 0 Q [0,0,0] ⟨U,U,U,U,U,U,U⟩
def yU(x0:aa×Int×Int):Option (Int×aa×Int×Int):=
 (a_ (λ((b,c):Int×Int)=>some (b,(x0.1,c,(W ((W (x0.2.2*6364136223846793005))+1442695040888963407))))) λa=>(bif(decide (x0.2.1<(x0.1.length:Int))) then(a9 (0<=x0.2.1/\x0.2.1<(x0.1.length:Int))<|a ((W (((BitVec.ofInt (IntKind.bits .i64) (W ((W (((BitVec.ofInt (IntKind.bits .i64) (W (((BitVec.ofInt (IntKind.bits .i64) (Int.fdiv (W ((W (x0.2.2*6364136223846793005))+1442695040888963407)) (2^(min (Int.toNat 33) (IntKind.bits .i64))))^^^BitVec.ofInt (IntKind.bits .i64) (Int.fdiv (W ((W (x0.2.2*6364136223846793005))+1442695040888963407)) (2^(min (Int.toNat 45) (IntKind.bits .i64))))).toNat:Int)))&&&BitVec.ofInt (IntKind.bits .i64) 255).toNat:Int)))+((at' x0.1 x0.2.1).toNat:Int)))&&&BitVec.ofInt (IntKind.bits .i64) 255).toNat:Int))),(W (x0.2.1+1)))) else a ((W (((BitVec.ofInt (IntKind.bits .i64) (W (((BitVec.ofInt (IntKind.bits .i64) (Int.fdiv (W ((W (x0.2.2*6364136223846793005))+1442695040888963407)) (2^(min (Int.toNat 33) (IntKind.bits .i64))))^^^BitVec.ofInt (IntKind.bits .i64) (Int.fdiv (W ((W (x0.2.2*6364136223846793005))+1442695040888963407)) (2^(min (Int.toNat 45) (IntKind.bits .i64))))).toNat:Int)))&&&BitVec.ofInt (IntKind.bits .i64) 255).toNat:Int))),x0.2.1)))
theorem IH{x0:aa×Int×Int}{a2:bL}{a3:bL}{a:Nat}{r:Int×aa×Int×Int}(h:yU x0=some r):
  gP Tryz.prog 37 [.pointer a2] [lX a3 x0.1 a] [lI a2 x0 a3 a] (λ_:Unit=>True) (λ_=> .int .i64 r.1) (λ_=>[lI a2 (x0.1,r.2.2) a3 a]):=
 by
  refine V.ju (T:=cm) Tryz.call37 Tryz.func37 U λ_ _=>?_;unfold yU at h;have d:(0:Int)<=33:=by decide
  have e:(0:Int)<=45:=by decide
  refine V.jt ab 18 1 ⟨U,U,U,U,U,U,U⟩ (by kernel_rfl) ?_;refine V.fb ab 14 1 h (ρ:=Unit) (λs q=>[(3,.v (.int .i64 s.1))]) .nil (λs q=>[lI a2 (x0.1,s.2,(W ((W (x0.2.2*6364136223846793005))+1442695040888963407))) a3 a]) ⟨U,U,U,d,U,U,U,e,U⟩ ?_ ?_
  ·intro f _ h;refine V.jt ab 1 0 U (by kernel_rfl) ?_;refine V.co ab 11 1 h ⟨U,U,U,U,U,U,U⟩ (λh=>?_) (λh=>?_)
   ·obtain⟨c,h⟩:=bG h;refine V.go ab 1 0 U ?_;refine V.j3 (aT.jf 0 U λb=>V.iH ?_);refine V.jt ab 0 0 U (by kernel_rfl) ?_;refine V.go ab 10 1 ⟨U,U,U,U,U,U,b.ix c,U⟩ ?_;refine V.toQ (k9.load ab U U U U U U U 0 U U (Int.toNat x0.2.1) 0 (at' x0.1 x0.2.1) ⟨mX c,U⟩ U U (V.te ?_));refine V.toQ (k9.eI ab 4 [((at' x0.1 x0.2.1).toNat:Int),(W ((W (((BitVec.ofInt (IntKind.bits .i64) (W (((BitVec.ofInt (IntKind.bits .i64) (Int.fdiv (W ((W (x0.2.2*6364136223846793005))+1442695040888963407)) (2^(min (Int.toNat 33) (IntKind.bits .i64))))^^^BitVec.ofInt (IntKind.bits .i64) (Int.fdiv (W ((W (x0.2.2*6364136223846793005))+1442695040888963407)) (2^(min (Int.toNat 45) (IntKind.bits .i64))))).toNat:Int)))&&&BitVec.ofInt (IntKind.bits .i64) 255).toNat:Int)))+((at' x0.1 x0.2.1).toNat:Int))),(W (((BitVec.ofInt (IntKind.bits .i64) (W ((W (((BitVec.ofInt (IntKind.bits .i64) (W (((BitVec.ofInt (IntKind.bits .i64) (Int.fdiv (W ((W (x0.2.2*6364136223846793005))+1442695040888963407)) (2^(min (Int.toNat 33) (IntKind.bits .i64))))^^^BitVec.ofInt (IntKind.bits .i64) (Int.fdiv (W ((W (x0.2.2*6364136223846793005))+1442695040888963407)) (2^(min (Int.toNat 45) (IntKind.bits .i64))))).toNat:Int)))&&&BitVec.ofInt (IntKind.bits .i64) 255).toNat:Int)))+((at' x0.1 x0.2.1).toNat:Int)))&&&BitVec.ofInt (IntKind.bits .i64) 255).toNat:Int)))] [(3,.v (.int .i64 (W (((BitVec.ofInt (IntKind.bits .i64) (W ((W (((BitVec.ofInt (IntKind.bits .i64) (W (((BitVec.ofInt (IntKind.bits .i64) (Int.fdiv (W ((W (x0.2.2*6364136223846793005))+1442695040888963407)) (2^(min (Int.toNat 33) (IntKind.bits .i64))))^^^BitVec.ofInt (IntKind.bits .i64) (Int.fdiv (W ((W (x0.2.2*6364136223846793005))+1442695040888963407)) (2^(min (Int.toNat 45) (IntKind.bits .i64))))).toNat:Int)))&&&BitVec.ofInt (IntKind.bits .i64) 255).toNat:Int)))+((at' x0.1 x0.2.1).toNat:Int)))&&&BitVec.ofInt (IntKind.bits .i64) 255).toNat:Int)))))] U ⟨⟨trivial,Kx _⟩,⟨trivial,U⟩,⟨trivial,U⟩,⟨U,trivial⟩⟩ (V.te ?_));exact V.a6 ab 12 1 h () [0] ⟨U,U,U,U,U,U,U⟩
   exact V.a6 ab 1 0 h () [0] U
  rintro⟨g,i⟩ _ h;cases h;exact V.rx ab 5 0 () [0] U
def ln(x0:aa×Int×Int)(a:Int):Option (Int×aa×Int×Int):=
 (bif(decide (a<=0)) then some (0,x0) else(bif(decide (a<=256)) then(aw (yU x0) λ(b,c)=>(a9 (a≠0)<|some ((Int.tmod b a),(x0.1,c.2)))) else(aw (yU x0) λ(d,e)=>(aw (yU (x0.1,e.2)) λ(f,g)=>(aw (yU (x0.1,g.2)) λ(h,i)=>(aw (yU (x0.1,i.2)) λ(j,k)=>(a9 (a≠0)<|some ((Int.tmod (W ((W ((W ((W (d*16777216))+(W (f*65536))))+(W (h*256))))+j)) a),(x0.1,k.2)))))))))
theorem xf{x0:aa×Int×Int}{c:Int}{a3:bL}{a:bL}{b:Nat}{r:Int×aa×Int×Int}(h:ln x0 c=some r):
  gP Tryz.prog 27 [.pointer a3,.int .i64 c] [lX a x0.1 b] [lI a3 x0 a b] (λ_:Unit=>True) (λ_=> .int .i64 r.1) (λ_=>[lI a3 (x0.1,r.2.2) a b]):=
 by
  refine V.ju (T:=cm) Tryz.call27 Tryz.func27 U λ_ _=>?_;unfold ln at h;refine V.co ab 10 0 h U (λh=>?_) (λh=>?_)
  ·cases h;exact V.rx ab 4 0 () [0] U
  refine V.co ab 7 0 h U (λh=>?_) (λh=>?_)
  ·refine V.bI ab 3 0 h IH [0] [0] U ?_;rintro⟨f,g⟩ _ h;obtain⟨d,h⟩:=bG h;cases h;exact V.rx ab 4 0 () [0] ⟨d,U⟩
  refine V.bI ab 4 0 h IH [0] [0] U ?_;rintro⟨i,j⟩ _ h;refine V.bI ab 5 0 h IH [0] [0] U ?_;rintro⟨k,l⟩ _ h;refine V.bI ab 5 0 h IH [0] [0] U ?_;rintro⟨m,n⟩ _ h;refine V.bI ab 5 0 h IH [0] [0] U ?_;rintro⟨o,p⟩ _ h;obtain⟨e,h⟩:=bG h;cases h;exact V.rx ab 18 0 () [0] ⟨e,U⟩
def CF(R:bk)(x0:aa×Int×Int)(g:Int)(h:(aa×Int×Int)->Option (aa×aa×Int×Int))(b:(aa×Int×Int×Int)->Option (aa×aa×Int×Int)):(aa×Int×Int×Int)->Option (aa×aa×Int×Int):=λ(a,c,d,e)=>
 (bif(decide (0<c)) then(a9 (((a.length+([32]:aa).length:Nat):Int)<=9223372036854775807)<|(aw (R.nQ (x0.1,d,e) g) λ(f,i)=>(a9 ((((a++([32]:aa)).length+f.length:Nat):Int)<=9223372036854775807)<|b (((a++([32]:aa))++f),(W (c-1)),i.2)))) else h (a,d,e))
def CG(R:bk)(x0:aa×Int×Int)(l:Int):Option (aa×aa×Int×Int):=
 (aw (ln x0 4) λ(c,e)=>(a9 (0<=c/\c<(([([108,115]:aa),([101,99,104,111]:aa),([99,97,116]:aa),([120,61,49]:aa)]:bt).length:Int))<|(aw (ln (x0.1,e.2.1,e.2.2) 3) λ(m,f)=>(a_ (λ((a,n,o):aa×Int×Int)=>(aw (ln (x0.1,n,o) 8) λ(g,b)=>(a_ (λ((d,p,q):aa×Int×Int)=>(a_ (λ(r:aa)=>some (r,(x0.1,p,q))) λh=>(bif(decide (g=1)) then(a9 (((d.length+([32,50,62,38,49]:aa).length:Nat):Int)<=9223372036854775807)<|h (d++([32,50,62,38,49]:aa))) else h d))) λi=>(bif(decide (g=0)) then(a9 (((a.length+([32,62]:aa).length:Nat):Int)<=9223372036854775807)<|(aw (R.nQ (x0.1,b.2.1,b.2.2) 0) λ(j,k)=>(a9 ((((a++([32,62]:aa)).length+j.length:Nat):Int)<=9223372036854775807)<|i (((a++([32,62]:aa))++j),k.2.1,k.2.2)))) else i (a,b.2.1,b.2.2))))) λs=>(fixF (CF R x0 l s) bC ((at' ([([108,115]:aa),([101,99,104,111]:aa),([99,97,116]:aa),([120,61,49]:aa)]:bt) c),m,f.2.1,f.2.2))))))
theorem aip{R:bk}(e:h7 R){x0:aa×Int×Int}{c:Int}{a3:bL}{a:bL}{b:Nat}{r:aa×aa×Int×Int}(h:CG R x0 c=some r):
  gP Tryz.prog 55 [.pointer a3,.int .i64 c] [lX a x0.1 b] [lI a3 x0 a b] (λ_:Unit=>True) (λ_=> .string (a5 r.1)) (λ_=>[lI a3 (x0.1,r.2.2) a b]):=
 by
  refine V.ju (T:=cm) Tryz.call55 Tryz.func55 U λ_ _=>?_;unfold CG at h;refine V.go ab 6 0 U ?_;refine V.cn (aJ.kH U (cM.buildSlice ab U U U U U U U U U U U [] U .str [([108,115]:aa),([101,99,104,111]:aa),([99,97,116]:aa),([120,61,49]:aa)] ⟨U,U⟩ U U λu=>aJ.kI (V.cA ?_)));refine V.bI ab 1 0 h xf [1] [0] U ?_;rintro⟨f,v⟩ _ h;refine V.cn (aJ.jf 2 U λd=>V.cA ?_);obtain⟨g,h⟩:=bG h;refine V.go ab 1 0 ⟨d.ix g,U⟩ ?_;refine V.cn (aJ.load ab U U U U U U U 2 U U (Int.toNat f) 0 (at' ([([108,115]:aa),([101,99,104,111]:aa),([99,97,116]:aa),([120,61,49]:aa)]:bt) f) ⟨mX g,U⟩ U U (V.cA ?_));refine V.bI ab 6 0 h xf [0] [0] U ?_;rintro⟨w,x⟩ _ h;refine V.db ab 2 0 h (ρ:=Unit) (λs q=>[(0,.bm ⟨a3,1,1⟩ 0),(5,.v (.string (a5 s.1)))]) .nil (λs q=>[lI a3 (x0.1,s.2) a b]) U ?_ ?_
  ·intro y _ h;refine V.fc ab 0 0 h (ρ:=Unit) (λs q=>[(0,.bm ⟨a3,1,1⟩ 0),(1,.v (.int .i64 c)),(5,.v (.string (a5 s.1))),(6,.v (.int .i64 s.2.1))]) .nil (λs q=>[lI a3 (x0.1,s.2.2) a b]) () [0] U ?_;rintro i ⟨z,A,B,C⟩ _ h;rw[CF] at h;refine V.co ab 6 0 h U (λh=>?_) (λh=>?_)
   ·obtain⟨j,h⟩:=bG h;refine V.bI ab 8 0 h e.nQ [0] [0] ⟨j,U⟩ ?_;rintro⟨D,E⟩ _ h;obtain⟨k,h⟩:=bG h
    try dsimp only at h
    exact V.el ab 9 0 h () [0] ⟨k,U⟩
   exact V.a6 ab 1 0 h () [0] U
  rintro⟨F,G,H⟩ _ h;refine V.bI ab 3 0 h xf [0] [0] U ?_;rintro⟨l,I⟩ _ h;refine V.fb ab 2 0 h (ρ:=Unit) (λs q=>[(5,.v (.string (a5 s.1))),(7,.v (.int .i64 l))]) .nil (λs q=>[lI a3 (x0.1,s.2) a b]) U ?_ ?_
  ·intro J _ h;refine V.co ab 5 0 h U (λh=>?_) (λh=>?_)
   ·obtain⟨m,h⟩:=bG h;refine V.bI ab 4 0 h e.nQ [0] [0] ⟨m,U⟩ ?_;rintro⟨K,L⟩ _ h;obtain⟨n,h⟩:=bG h
    try dsimp only at h
    exact V.a6 ab 3 0 h () [0] ⟨n,U⟩
   exact V.a6 ab 1 0 h () [0] U
  rintro⟨M,o,p⟩ _ h;refine V.fb ab 0 0 h (ρ:=Unit) (λs q=>[(5,.v (.string (a5 s)))]) .nil (λs q=>[lI a3 (x0.1,o,p) a b]) U ?_ ?_
  ·intro N _ h;refine V.co ab 5 0 h U (λh=>?_) (λh=>?_)
   ·obtain⟨t,h⟩:=bG h;exact V.a6 ab 5 0 h () [0] ⟨t,U⟩
   exact V.a6 ab 1 0 h () [0] U
  rintro O _ h;cases h;exact V.rx ab 5 0 () [0] U
def vS(R:bk)(x0:aa×Int×Int)(a:Int):Option (aa×aa×Int×Int):=
 (aw (ln x0 16) λ(r,b)=>(a_ (λ(c:Int)=>(bif(decide (c=1)) then(aw (R.ho (x0.1,b.2) (W (a-1)) ([])) λ(i,s)=>(a9 (((([40]:aa).length+i.length:Nat):Int)<=9223372036854775807)<|(a9 ((((([40]:aa)++i).length+([41]:aa).length:Nat):Int)<=9223372036854775807)<|some (((([40]:aa)++i)++([41]:aa)),(x0.1,s.2))))) else(bif(decide (c=2)) then(aw (R.ho (x0.1,b.2) (W (a-1)) ([10]:aa)) λ(j,t)=>(a9 (((([123,32]:aa).length+j.length:Nat):Int)<=9223372036854775807)<|(a9 ((((([123,32]:aa)++j).length+([125]:aa).length:Nat):Int)<=9223372036854775807)<|some (((([123,32]:aa)++j)++([125]:aa)),(x0.1,t.2))))) else(bif(decide (c=3)) then(aw (R.ho (x0.1,b.2) (W (a-1)) ([59]:aa)) λ(d,u)=>(a9 (((([105,102,32]:aa).length+d.length:Nat):Int)<=9223372036854775807)<|(a9 ((((([105,102,32]:aa)++d).length+([32,116,104,101,110,32]:aa).length:Nat):Int)<=9223372036854775807)<|(aw (R.ho (x0.1,u.2) (W (a-1)) ([10]:aa)) λ(k,v)=>(a9 (((((([105,102,32]:aa)++d)++([32,116,104,101,110,32]:aa)).length+k.length:Nat):Int)<=9223372036854775807)<|(a9 ((((((([105,102,32]:aa)++d)++([32,116,104,101,110,32]:aa))++k).length+([102,105]:aa).length:Nat):Int)<=9223372036854775807)<|some (((((([105,102,32]:aa)++d)++([32,116,104,101,110,32]:aa))++k)++([102,105]:aa)),(x0.1,v.2)))))))) else(bif(decide (c=4)) then(aw (R.ho (x0.1,b.2) (W (a-1)) ([10]:aa)) λ(e,w)=>(a9 (((([105,102,32,97,59,32,116,104,101,110,10]:aa).length+e.length:Nat):Int)<=9223372036854775807)<|(a9 ((((([105,102,32,97,59,32,116,104,101,110,10]:aa)++e).length+([101,108,105,102,32,98,10,116,104,101,110,32,99,10,101,108,115,101,32]:aa).length:Nat):Int)<=9223372036854775807)<|(aw (R.ho (x0.1,w.2) (W (a-1)) ([59]:aa)) λ(l,x)=>(a9 (((((([105,102,32,97,59,32,116,104,101,110,10]:aa)++e)++([101,108,105,102,32,98,10,116,104,101,110,32,99,10,101,108,115,101,32]:aa)).length+l.length:Nat):Int)<=9223372036854775807)<|(a9 ((((((([105,102,32,97,59,32,116,104,101,110,10]:aa)++e)++([101,108,105,102,32,98,10,116,104,101,110,32,99,10,101,108,115,101,32]:aa))++l).length+([102,105,32,50,62,102]:aa).length:Nat):Int)<=9223372036854775807)<|some (((((([105,102,32,97,59,32,116,104,101,110,10]:aa)++e)++([101,108,105,102,32,98,10,116,104,101,110,32,99,10,101,108,115,101,32]:aa))++l)++([102,105,32,50,62,102]:aa)),(x0.1,x.2)))))))) else(bif(decide (c=5)) then(aw (R.ho (x0.1,b.2) (W (a-1)) ([10]:aa)) λ(f,y)=>(a9 (((([119,104,105,108,101,32]:aa).length+f.length:Nat):Int)<=9223372036854775807)<|(a9 ((((([119,104,105,108,101,32]:aa)++f).length+([100,111,32]:aa).length:Nat):Int)<=9223372036854775807)<|(aw (R.ho (x0.1,y.2) (W (a-1)) ([59]:aa)) λ(m,z)=>(a9 (((((([119,104,105,108,101,32]:aa)++f)++([100,111,32]:aa)).length+m.length:Nat):Int)<=9223372036854775807)<|(a9 ((((((([119,104,105,108,101,32]:aa)++f)++([100,111,32]:aa))++m).length+([32,100,111,110,101]:aa).length:Nat):Int)<=9223372036854775807)<|some (((((([119,104,105,108,101,32]:aa)++f)++([100,111,32]:aa))++m)++([32,100,111,110,101]:aa)),(x0.1,z.2)))))))) else(bif(decide (c=6)) then(aw (R.nQ (x0.1,b.2) (W (a-1))) λ(g,A)=>(a9 (((([102,111,114,32,120,32,105,110,32,97,32]:aa).length+g.length:Nat):Int)<=9223372036854775807)<|(a9 ((((([102,111,114,32,120,32,105,110,32,97,32]:aa)++g).length+([59,32,100,111,32]:aa).length:Nat):Int)<=9223372036854775807)<|(aw (R.ho (x0.1,A.2) (W (a-1)) ([59]:aa)) λ(n,B)=>(a9 (((((([102,111,114,32,120,32,105,110,32,97,32]:aa)++g)++([59,32,100,111,32]:aa)).length+n.length:Nat):Int)<=9223372036854775807)<|(a9 ((((((([102,111,114,32,120,32,105,110,32,97,32]:aa)++g)++([59,32,100,111,32]:aa))++n).length+([100,111,110,101]:aa).length:Nat):Int)<=9223372036854775807)<|some (((((([102,111,114,32,120,32,105,110,32,97,32]:aa)++g)++([59,32,100,111,32]:aa))++n)++([100,111,110,101]:aa)),(x0.1,B.2)))))))) else(bif(decide (c=7)) then some (([102,111,114,32,120,10,100,111,32,97,10,100,111,110,101]:aa),(x0.1,b.2)) else(bif(decide (c=8)) then(aw (R.nQ (x0.1,b.2) (W (a-1))) λ(h,C)=>(a9 (((([99,97,115,101,32]:aa).length+h.length:Nat):Int)<=9223372036854775807)<|(a9 ((((([99,97,115,101,32]:aa)++h).length+([32,105,110,32,97,124,98,41,32]:aa).length:Nat):Int)<=9223372036854775807)<|(aw (R.ho (x0.1,C.2) (W (a-1)) ([])) λ(o,D)=>(a9 (((((([99,97,115,101,32]:aa)++h)++([32,105,110,32,97,124,98,41,32]:aa)).length+o.length:Nat):Int)<=9223372036854775807)<|(a9 ((((((([99,97,115,101,32]:aa)++h)++([32,105,110,32,97,124,98,41,32]:aa))++o).length+([59,59,10,40,99,41,32,59,59,32,100,41,32,101,115,97,99]:aa).length:Nat):Int)<=9223372036854775807)<|some (((((([99,97,115,101,32]:aa)++h)++([32,105,110,32,97,124,98,41,32]:aa))++o)++([59,59,10,40,99,41,32,59,59,32,100,41,32,101,115,97,99]:aa)),(x0.1,D.2)))))))) else(bif(decide (c=9)) then(aw (R.ho (x0.1,b.2) (W (a-1)) ([10]:aa)) λ(p,E)=>(a9 (((([102,40,41,32,123,10]:aa).length+p.length:Nat):Int)<=9223372036854775807)<|(a9 ((((([102,40,41,32,123,10]:aa)++p).length+([125,32,62,102]:aa).length:Nat):Int)<=9223372036854775807)<|some (((([102,40,41,32,123,10]:aa)++p)++([125,32,62,102]:aa)),(x0.1,E.2))))) else(aw (CG R (x0.1,b.2) a) λ(F,G)=>some (F,(x0.1,G.2))))))))))))) λq=>(bif(decide (a<=0)) then q 0 else q r)))
theorem E_{R:bk}(a:h7 R){x0:aa×Int×Int}{d:Int}{a3:bL}{b:bL}{c:Nat}{r:aa×aa×Int×Int}(h:vS R x0 d=some r):
  gP Tryz.prog 36 [.pointer a3,.int .i64 d] [lX b x0.1 c] [lI a3 x0 b c] (λ_:Unit=>True) (λ_=> .string (a5 r.1)) (λ_=>[lI a3 (x0.1,r.2.2) b c]):=
 by
  refine V.ju (T:=cm) Tryz.call36 Tryz.func36 U λ_ _=>?_;unfold vS at h;refine V.bI ab 7 0 h xf [0] [0] U ?_;rintro⟨J,t⟩ _ h;refine V.fb ab 2 0 h (ρ:=Unit) (λs q=>[(0,.bm ⟨a3,1,1⟩ 0),(1,.v (.int .i64 d)),(5,.v (.int .i64 s))]) .nil (λs q=>[lI a3 (x0.1,t.2) b c]) U ?_ ?_
  ·intro K _ h;refine V.co ab 5 0 h U (λh=>?_) (λh=>?_)
   ·exact V.a6 ab 3 0 h () [0] U
   exact V.a6 ab 1 0 h () [0] U
  rintro L _ h;refine V.co ab 11 0 h U (λh=>?_) (λh=>?_)
  ·refine V.bI ab 5 0 h a.ho [0] [0] U ?_;rintro⟨M,N⟩ _ h;obtain⟨u,h⟩:=bG h;obtain⟨v,h⟩:=bG h;cases h;exact V.rx ab 4 0 () [0] ⟨u,v,U⟩
  refine V.co ab 5 0 h U (λh=>?_) (λh=>?_)
  ·refine V.bI ab 5 0 h a.ho [0] [0] U ?_;rintro⟨O,P⟩ _ h;obtain⟨w,h⟩:=bG h;obtain⟨x,h⟩:=bG h;cases h;exact V.rx ab 4 0 () [0] ⟨w,x,U⟩
  refine V.co ab 5 0 h U (λh=>?_) (λh=>?_)
  ·refine V.bI ab 5 0 h a.ho [0] [0] U ?_;rintro⟨Q,S⟩ _ h;obtain⟨y,h⟩:=bG h;obtain⟨z,h⟩:=bG h;refine V.bI ab 5 0 h a.ho [0] [0] ⟨y,z,U⟩ ?_;rintro⟨W,X⟩ _ h;obtain⟨e,h⟩:=bG h;obtain⟨A,h⟩:=bG h;cases h;exact V.rx ab 4 0 () [0] ⟨e,A,U⟩
  refine V.co ab 5 0 h U (λh=>?_) (λh=>?_)
  ·refine V.bI ab 5 0 h a.ho [0] [0] U ?_;rintro⟨Y,Z⟩ _ h;obtain⟨B,h⟩:=bG h;obtain⟨C,h⟩:=bG h;refine V.bI ab 5 0 h a.ho [0] [0] ⟨B,C,U⟩ ?_;rintro⟨gk,eo⟩ _ h;obtain⟨D,h⟩:=bG h;obtain⟨f,h⟩:=bG h;cases h;exact V.rx ab 4 0 () [0] ⟨D,f,U⟩
  refine V.co ab 5 0 h U (λh=>?_) (λh=>?_)
  ·refine V.bI ab 5 0 h a.ho [0] [0] U ?_;rintro⟨l1,kX⟩ _ h;obtain⟨g,h⟩:=bG h;obtain⟨E,h⟩:=bG h;refine V.bI ab 5 0 h a.ho [0] [0] ⟨g,E,U⟩ ?_;rintro⟨j7,fV⟩ _ h;obtain⟨F,h⟩:=bG h;obtain⟨i,h⟩:=bG h;cases h;exact V.rx ab 4 0 () [0] ⟨F,i,U⟩
  refine V.co ab 5 0 h U (λh=>?_) (λh=>?_)
  ·refine V.bI ab 5 0 h a.nQ [0] [0] U ?_;rintro⟨fW,py⟩ _ h;obtain⟨G,h⟩:=bG h;obtain⟨H,h⟩:=bG h;refine V.bI ab 5 0 h a.ho [0] [0] ⟨G,H,U⟩ ?_;rintro⟨l_,nS⟩ _ h;obtain⟨j,h⟩:=bG h;obtain⟨I,h⟩:=bG h;cases h;exact V.rx ab 4 0 () [0] ⟨j,I,U⟩
  refine V.co ab 5 0 h U (λh=>?_) (λh=>?_)
  ·cases h;exact V.rx ab 4 0 () [0] U
  refine V.co ab 5 0 h U (λh=>?_) (λh=>?_)
  ·refine V.bI ab 5 0 h a.nQ [0] [0] U ?_;rintro⟨j5,ur⟩ _ h;obtain⟨k,h⟩:=bG h;obtain⟨l,h⟩:=bG h;refine V.bI ab 5 0 h a.ho [0] [0] ⟨k,l,U⟩ ?_;rintro⟨jP,nw⟩ _ h;obtain⟨m,h⟩:=bG h;obtain⟨n,h⟩:=bG h;cases h;exact V.rx ab 4 0 () [0] ⟨m,n,U⟩
  refine V.co ab 5 0 h U (λh=>?_) (λh=>?_)
  ·refine V.bI ab 5 0 h a.ho [0] [0] U ?_;rintro⟨nU,kY⟩ _ h;obtain⟨o,h⟩:=bG h;obtain⟨p,h⟩:=bG h;cases h;exact V.rx ab 4 0 () [0] ⟨o,p,U⟩
  refine V.bI ab 6 0 h (aip a) [0] [0] U ?_;rintro⟨m7,kx⟩ _ h;cases h;exact V.rx ab 2 0 () [0] U
def CH(R:bk)(x0:aa×Int×Int)(f:Int)(g:(aa×Int×Int)->Option (aa×aa×Int×Int))(h:(aa×Int×Int×Int)->Option (aa×aa×Int×Int)):(aa×Int×Int×Int)->Option (aa×aa×Int×Int):=λ(a,b,c,d)=>
 (bif(decide (0<b)) then(a_ (λ((i,j,k):aa×Int×Int)=>h (i,(W (b-1)),j,k)) λl=>(aw (ln (x0.1,c,d) 8) λ(y23,m)=>(a9 (0<=y23/\y23<(([([32,38,38,32]:aa),([32,124,124,32]:aa),([32,124,32]:aa),([59,32]:aa),([32,38,32]:aa),([10]:aa),([32,124,10]:aa),([59,32,35,32,114,10]:aa)]:bt).length:Int))<|(a9 (((a.length+(at' ([([32,38,38,32]:aa),([32,124,124,32]:aa),([32,124,32]:aa),([59,32]:aa),([32,38,32]:aa),([10]:aa),([32,124,10]:aa),([59,32,35,32,114,10]:aa)]:bt) y23).length:Nat):Int)<=9223372036854775807)<|(aw (vS R (x0.1,m.2) f) λ(e,n)=>(a9 ((((a++(at' ([([32,38,38,32]:aa),([32,124,124,32]:aa),([32,124,32]:aa),([59,32]:aa),([32,38,32]:aa),([10]:aa),([32,124,10]:aa),([59,32,35,32,114,10]:aa)]:bt) y23)).length+e.length:Nat):Int)<=9223372036854775807)<|l (((a++(at' ([([32,38,38,32]:aa),([32,124,124,32]:aa),([32,124,32]:aa),([59,32]:aa),([32,38,32]:aa),([10]:aa),([32,124,10]:aa),([59,32,35,32,114,10]:aa)]:bt) y23))++e),n.2))))))) else g (a,c,d))
def II(R:bk)(x0:aa×Int×Int)(a:Int)(b:aa):Option (aa×aa×Int×Int):=
 (aw (vS R x0 a) λ(f,c)=>(aw (ln (x0.1,c.2.1,c.2.2) 3) λ(g,d)=>(a_ (λ((e,h,i):aa×Int×Int)=>(a9 (((e.length+b.length:Nat):Int)<=9223372036854775807)<|some ((e++b),(x0.1,h,i)))) λj=>(fixF (CH R x0 a j) bC (f,g,d.2.1,d.2.2)))))
theorem aiC{R:bk}(e:h7 R){x0:aa×Int×Int}{i:Int}{j:aa}{a:bL}{f:bL}{g:Nat}{r:aa×aa×Int×Int}(h:II R x0 i j=some r):
  gP Tryz.prog 26 [.pointer a,.int .i64 i,.string (a5 j)] [lX f x0.1 g] [lI a x0 f g] (λ_:Unit=>True) (λ_=> .string (a5 r.1)) (λ_=>[lI a (x0.1,r.2.2) f g]):=
 by
  refine V.ju (T:=cm) Tryz.call26 Tryz.func26 U λ_ _=>?_;unfold II at h;refine V.bI ab 8 0 h (E_ e) [0] [0] U ?_;rintro⟨A,B⟩ _ h;refine V.bI ab 6 0 h xf [0] [0] U ?_;rintro⟨C,D⟩ _ h;refine V.db ab 2 0 h (ρ:=Unit) (λs q=>[(2,.v (.string (a5 j))),(7,.v (.string (a5 s.1)))]) .nil (λs q=>[lI a (x0.1,s.2) f g]) U ?_ ?_
  ·intro E _ h;refine V.fc ab 0 0 h (ρ:=Unit) (λs q=>[(0,.bm ⟨a,1,1⟩ 0),(1,.v (.int .i64 i)),(2,.v (.string (a5 j))),(7,.v (.string (a5 s.1))),(8,.v (.int .i64 s.2.1))]) .nil (λs q=>[lI a (x0.1,s.2.2) f g]) () [0] U ?_;rintro x ⟨b,y,F,G⟩ _ h;rw[CH] at h;refine V.co ab 6 0 h U (λh=>?_) (λh=>?_)
   ·refine V.aeD ab 3 0 h (ρ:=Unit) (λs q=>[(0,.bm ⟨a,1,1⟩ 0),(1,.v (.int .i64 i)),(2,.v (.string (a5 j))),(7,.v (.string (a5 s.1))),(8,.v (.int .i64 y))]) .nil (λs q=>[lI a (x0.1,s.2) f g]) U ?_ ?_
    ·intro H _ h;obtain⟨⟨y23,I⟩,w,h⟩:=jZ h;obtain⟨c,h⟩:=bG h;obtain⟨k,h⟩:=bG h;obtain⟨⟨l,J⟩,m,h⟩:=jZ h;obtain⟨n,h⟩:=bG h;refine V.j3 (aT.sc U .nil [] [] trivial U (λz=>?_));refine bE.eI ab gj true 8 [0,2,7,8] U (by kernel_rfl) [] [(18,.v (.string (a5 b))),(20,.bm ⟨a,1,1⟩ 0),(25,.bm ⟨a,1,1⟩ 0),(26,.v (.int .i64 i))] trivial [] U U (fH U) ?_;refine bE.all (rs:=[1,3]) (by kernel_rfl) U (tX.2 ⟨?_,tX.2 ⟨?_,(λ_ d=>absurd d qE)⟩⟩)
     ·refine cM.buildSlice ab U U U U U U U U U U U [] U .str [([32,38,38,32]:aa),([32,124,124,32]:aa),([32,124,32]:aa),([59,32]:aa),([32,38,32]:aa),([10]:aa),([32,124,10]:aa),([59,32,35,32,114,10]:aa)] ⟨U,U⟩ U U λo=>bE.next trivial [] U (bE.one 3 (by kernel_rfl) (cM.qc U U U U (xf w) U [1] U [0] U U λ_ _=>bE.next trivial [] U (cM.jf 2 U λp=>bE.eI ab gj true 5 [4] U (by kernel_rfl) [] [(22,.bm ⟨o,([([32,38,38,32]:aa),([32,124,124,32]:aa),([32,124,32]:aa),([59,32]:aa),([32,38,32]:aa),([10]:aa),([32,124,10]:aa),([59,32,35,32,114,10]:aa)]:bt).length,([([32,38,38,32]:aa),([32,124,124,32]:aa),([32,124,32]:aa),([59,32]:aa),([32,38,32]:aa),([10]:aa),([32,124,10]:aa),([59,32,35,32,114,10]:aa)]:bt).length⟩ (Int.toNat y23*1))] trivial [] U U ⟨p.ix c,⟨U,trivial⟩⟩ ?_)));refine bE.all (rs:=[5,9]) (by kernel_rfl) U (tX.2 ⟨?_,tX.2 ⟨?_,(λ_ d=>absurd d qE)⟩⟩)
      ·refine cM.load ab U U U U U U U 2 U U (Int.toNat y23) 0 (at' ([([32,38,38,32]:aa),([32,124,124,32]:aa),([32,124,32]:aa),([59,32]:aa),([32,38,32]:aa),([10]:aa),([32,124,10]:aa),([59,32,35,32,114,10]:aa)]:bt) y23) ⟨mX c,U⟩ U U (bE.next trivial [] U (bE.eI ab gj true 3 [6] U (by kernel_rfl) [] [(24,.v (.string (a5 (b++(at' ([([32,38,38,32]:aa),([32,124,124,32]:aa),([32,124,32]:aa),([59,32]:aa),([32,38,32]:aa),([10]:aa),([32,124,10]:aa),([59,32,35,32,114,10]:aa)]:bt) y23)))))] trivial [] U U ⟨k,⟨U,trivial⟩⟩ (bE.one 9 (by kernel_rfl) (cM.qc U U U U (E_ e m) U [0] U [0] U U λ_ _=>bE.next trivial [] U (bE.eI ab gj true 0 [10,11] U (by kernel_rfl) [] [(7,.v (.string (a5 ((b++(at' ([([32,38,38,32]:aa),([32,124,124,32]:aa),([32,124,32]:aa),([59,32]:aa),([32,38,32]:aa),([10]:aa),([32,124,10]:aa),([59,32,35,32,114,10]:aa)]:bt) y23))++l))))] trivial [] U U ⟨n,⟨U,trivial⟩⟩ (bE.done (by kernel_rfl) (aT.boxes (B':= .nil) trivial (V.iH ?_))))))));exact V.a6 ab 0 0 h () [0] U
      refine cM.qc U U U U (E_ e m) U [0] U [0] U U λ_ _=>bE.next trivial [] U (bE.one 5 (by kernel_rfl) (cM.load ab U U U U U U U 2 U U (Int.toNat y23) 0 (at' ([([32,38,38,32]:aa),([32,124,124,32]:aa),([32,124,32]:aa),([59,32]:aa),([32,38,32]:aa),([10]:aa),([32,124,10]:aa),([59,32,35,32,114,10]:aa)]:bt) y23) ⟨mX c,U⟩ U U (bE.next trivial [] U (bE.eI ab gj true 0 [6,10,11] U (by kernel_rfl) [] [(7,.v (.string (a5 ((b++(at' ([([32,38,38,32]:aa),([32,124,124,32]:aa),([32,124,32]:aa),([59,32]:aa),([32,38,32]:aa),([10]:aa),([32,124,10]:aa),([59,32,35,32,114,10]:aa)]:bt) y23))++l))))] trivial [] U U ⟨k,n,⟨U,trivial⟩⟩ (bE.done (by kernel_rfl) (aT.boxes (B':= .nil) trivial (V.iH ?_)))))));exact V.a6 ab 0 0 h () [0] U
     refine cM.qc U U U U (xf w) U [0] U [0] U U λ_ _=>bE.next trivial [] U ?_;refine bE.all (rs:=[1,9]) (by kernel_rfl) U (tX.2 ⟨?_,tX.2 ⟨?_,(λ_ d=>absurd d qE)⟩⟩)
     ·refine cM.buildSlice ab U U U U U U U U U U U [] U .str [([32,38,38,32]:aa),([32,124,124,32]:aa),([32,124,32]:aa),([59,32]:aa),([32,38,32]:aa),([10]:aa),([32,124,10]:aa),([59,32,35,32,114,10]:aa)] ⟨U,U⟩ U U λo=>bE.next trivial [] U (cM.jf 1 U λt=>bE.eI ab gj true 5 [4] U (by kernel_rfl) [] [(22,.bm ⟨o,([([32,38,38,32]:aa),([32,124,124,32]:aa),([32,124,32]:aa),([59,32]:aa),([32,38,32]:aa),([10]:aa),([32,124,10]:aa),([59,32,35,32,114,10]:aa)]:bt).length,([([32,38,38,32]:aa),([32,124,124,32]:aa),([32,124,32]:aa),([59,32]:aa),([32,38,32]:aa),([10]:aa),([32,124,10]:aa),([59,32,35,32,114,10]:aa)]:bt).length⟩ (Int.toNat y23*1))] trivial [] U U ⟨t.ix c,⟨U,trivial⟩⟩ ?_);refine bE.all (rs:=[5,9]) (by kernel_rfl) U (tX.2 ⟨?_,tX.2 ⟨?_,(λ_ d=>absurd d qE)⟩⟩)
      ·refine cM.load ab U U U U U U U 1 U U (Int.toNat y23) 0 (at' ([([32,38,38,32]:aa),([32,124,124,32]:aa),([32,124,32]:aa),([59,32]:aa),([32,38,32]:aa),([10]:aa),([32,124,10]:aa),([59,32,35,32,114,10]:aa)]:bt) y23) ⟨mX c,U⟩ U U (bE.next trivial [] U (bE.eI ab gj true 3 [6] U (by kernel_rfl) [] [(24,.v (.string (a5 (b++(at' ([([32,38,38,32]:aa),([32,124,124,32]:aa),([32,124,32]:aa),([59,32]:aa),([32,38,32]:aa),([10]:aa),([32,124,10]:aa),([59,32,35,32,114,10]:aa)]:bt) y23)))))] trivial [] U U ⟨k,⟨U,trivial⟩⟩ (bE.one 9 (by kernel_rfl) (cM.qc U U U U (E_ e m) U [1] U [0] U U λ_ _=>bE.next trivial [] U (bE.eI ab gj true 0 [10,11] U (by kernel_rfl) [] [(7,.v (.string (a5 ((b++(at' ([([32,38,38,32]:aa),([32,124,124,32]:aa),([32,124,32]:aa),([59,32]:aa),([32,38,32]:aa),([10]:aa),([32,124,10]:aa),([59,32,35,32,114,10]:aa)]:bt) y23))++l))))] trivial [] U U ⟨n,⟨U,trivial⟩⟩ (bE.done (by kernel_rfl) (aT.boxes (B':= .nil) trivial (V.iH ?_))))))));exact V.a6 ab 0 0 h () [0] U
      refine cM.qc U U U U (E_ e m) U [1] U [0] U U λ_ _=>bE.next trivial [] U (bE.one 5 (by kernel_rfl) (cM.load ab U U U U U U U 2 U U (Int.toNat y23) 0 (at' ([([32,38,38,32]:aa),([32,124,124,32]:aa),([32,124,32]:aa),([59,32]:aa),([32,38,32]:aa),([10]:aa),([32,124,10]:aa),([59,32,35,32,114,10]:aa)]:bt) y23) ⟨mX c,U⟩ U U (bE.next trivial [] U (bE.eI ab gj true 0 [6,10,11] U (by kernel_rfl) [] [(7,.v (.string (a5 ((b++(at' ([([32,38,38,32]:aa),([32,124,124,32]:aa),([32,124,32]:aa),([59,32]:aa),([32,38,32]:aa),([10]:aa),([32,124,10]:aa),([59,32,35,32,114,10]:aa)]:bt) y23))++l))))] trivial [] U U ⟨k,n,⟨U,trivial⟩⟩ (bE.done (by kernel_rfl) (aT.boxes (B':= .nil) trivial (V.iH ?_)))))));exact V.a6 ab 0 0 h () [0] U
     refine cM.qc U U U U (E_ e m) U [0] U [0] U U λ_ _=>bE.next trivial [] U (bE.one 1 (by kernel_rfl) (cM.buildSlice ab U U U U U U U U U U U [] U .str [([32,38,38,32]:aa),([32,124,124,32]:aa),([32,124,32]:aa),([59,32]:aa),([32,38,32]:aa),([10]:aa),([32,124,10]:aa),([59,32,35,32,114,10]:aa)] ⟨U,U⟩ U U λo=>bE.next trivial [] U (cM.jf 1 U λu=>bE.eI ab gj true 4 [4] U (by kernel_rfl) [] [(22,.bm ⟨o,([([32,38,38,32]:aa),([32,124,124,32]:aa),([32,124,32]:aa),([59,32]:aa),([32,38,32]:aa),([10]:aa),([32,124,10]:aa),([59,32,35,32,114,10]:aa)]:bt).length,([([32,38,38,32]:aa),([32,124,124,32]:aa),([32,124,32]:aa),([59,32]:aa),([32,38,32]:aa),([10]:aa),([32,124,10]:aa),([59,32,35,32,114,10]:aa)]:bt).length⟩ (Int.toNat y23*1))] trivial [] U U ⟨u.ix c,⟨U,trivial⟩⟩ (bE.one 5 (by kernel_rfl) (cM.load ab U U U U U U U 1 U U (Int.toNat y23) 0 (at' ([([32,38,38,32]:aa),([32,124,124,32]:aa),([32,124,32]:aa),([59,32]:aa),([32,38,32]:aa),([10]:aa),([32,124,10]:aa),([59,32,35,32,114,10]:aa)]:bt) y23) ⟨mX c,U⟩ U U (bE.next trivial [] U (bE.eI ab gj true 0 [6,10,11] U (by kernel_rfl) [] [(7,.v (.string (a5 ((b++(at' ([([32,38,38,32]:aa),([32,124,124,32]:aa),([32,124,32]:aa),([59,32]:aa),([32,38,32]:aa),([10]:aa),([32,124,10]:aa),([59,32,35,32,114,10]:aa)]:bt) y23))++l))))] trivial [] U U ⟨k,n,⟨U,trivial⟩⟩ (bE.done (by kernel_rfl) (aT.boxes (B':= .nil) trivial (V.iH ?_))))))))));exact V.a6 ab 0 0 h () [1] U
    rintro⟨K,L,M⟩ _ h
    try dsimp only at h
    exact V.el ab 6 0 h () [0] U
   exact V.a6 ab 1 0 h () [0] U
  rintro⟨N,O,P⟩ _ h;obtain⟨v,h⟩:=bG h;cases h;exact V.rx ab 7 0 () [0] ⟨v,U⟩
def IK(R:bk)(x0:aa×Int×Int)(c:Int):Option (aa×aa×Int×Int):=
 (aw (ln x0 14) λ(h,a)=>(a_ (λ(b:Int)=>(bif(decide (b=1)) then some (([39,113,32,114,39]:aa),(x0.1,a.2)) else(bif(decide (b=2)) then some (([34,97,32,98,34]:aa),(x0.1,a.2)) else(bif(decide (b=3)) then some (([97,92,32,98]:aa),(x0.1,a.2)) else(bif(decide (b=4)) then some (([36,120]:aa),(x0.1,a.2)) else(bif(decide (b=5)) then some (([36,40,40,49,43,40,50,41,41,41]:aa),(x0.1,a.2)) else(bif(decide (b=6)) then some (([96,99,32,100,96]:aa),(x0.1,a.2)) else(bif(decide (b=7)) then some (([45,108]:aa),(x0.1,a.2)) else(bif(decide (b=8)) then(aw (R.ho (x0.1,a.2) (W (c-1)) ([])) λ(d,j)=>(a9 (((([36,40]:aa).length+d.length:Nat):Int)<=9223372036854775807)<|(a9 ((((([36,40]:aa)++d).length+([41]:aa).length:Nat):Int)<=9223372036854775807)<|some (((([36,40]:aa)++d)++([41]:aa)),(x0.1,j.2))))) else(bif(decide (b=9)) then(aw (R.ho (x0.1,a.2) (W (c-1)) ([])) λ(e,k)=>(a9 (((([34,120,36,40]:aa).length+e.length:Nat):Int)<=9223372036854775807)<|(a9 ((((([34,120,36,40]:aa)++e).length+([41,34]:aa).length:Nat):Int)<=9223372036854775807)<|some (((([34,120,36,40]:aa)++e)++([41,34]:aa)),(x0.1,k.2))))) else(bif(decide (b=10)) then(aw (R.nQ (x0.1,a.2) (W (c-1))) λ(f,l)=>(a9 (((([36,123,120,58,45]:aa).length+f.length:Nat):Int)<=9223372036854775807)<|(a9 ((((([36,123,120,58,45]:aa)++f).length+([125]:aa).length:Nat):Int)<=9223372036854775807)<|some (((([36,123,120,58,45]:aa)++f)++([125]:aa)),(x0.1,l.2))))) else(bif(decide (b=11)) then some (([97,92,10,98]:aa),(x0.1,a.2)) else(aw (ln (x0.1,a.2) 7) λ(g,m)=>(a9 (0<=g/\g<(([([97]:aa),([98,49]:aa),([120,61,49]:aa),([102,105,108,101]:aa),([195,169]:aa),([105,110]:aa),([97,35,98]:aa)]:bt).length:Int))<|some ((at' ([([97]:aa),([98,49]:aa),([120,61,49]:aa),([102,105,108,101]:aa),([195,169]:aa),([105,110]:aa),([97,35,98]:aa)]:bt) g),(x0.1,m.2)))))))))))))))) λi=>(bif(bif(decide (c<=0)) then(decide (8<=h)) else false) then i 0 else i h)))
theorem aiH{R:bk}(c:h7 R){x0:aa×Int×Int}{d:Int}{a3:bL}{a:bL}{b:Nat}{r:aa×aa×Int×Int}(h:IK R x0 d=some r):
  gP Tryz.prog 54 [.pointer a3,.int .i64 d] [lX a x0.1 b] [lI a3 x0 a b] (λ_:Unit=>True) (λ_=> .string (a5 r.1)) (λ_=>[lI a3 (x0.1,r.2.2) a b]):=
 by
  refine V.ju (T:=cm) Tryz.call54 Tryz.func54 U λ_ _=>?_;unfold IK at h;refine V.bI ab 7 0 h xf [0] [0] U ?_;rintro⟨p,i⟩ _ h;refine V.fb ab 2 0 h (ρ:=Unit) (λs q=>[(0,.bm ⟨a3,1,1⟩ 0),(1,.v (.int .i64 d)),(5,.v (.int .i64 s))]) .nil (λs q=>[lI a3 (x0.1,i.2) a b]) U ?_ ?_
  ·intro t _ h;refine V.co ab 9 0 h U (λh=>?_) (λh=>?_)
   ·exact V.a6 ab 3 0 h () [0] U
   exact V.a6 ab 1 0 h () [0] U
  rintro u _ h;refine V.co ab 11 0 h U (λh=>?_) (λh=>?_)
  ·cases h;exact V.rx ab 4 0 () [0] U
  refine V.co ab 5 0 h U (λh=>?_) (λh=>?_)
  ·cases h;exact V.rx ab 4 0 () [0] U
  refine V.co ab 5 0 h U (λh=>?_) (λh=>?_)
  ·cases h;exact V.rx ab 4 0 () [0] U
  refine V.co ab 5 0 h U (λh=>?_) (λh=>?_)
  ·cases h;exact V.rx ab 4 0 () [0] U
  refine V.co ab 5 0 h U (λh=>?_) (λh=>?_)
  ·cases h;exact V.rx ab 4 0 () [0] U
  refine V.co ab 5 0 h U (λh=>?_) (λh=>?_)
  ·cases h;exact V.rx ab 4 0 () [0] U
  refine V.co ab 5 0 h U (λh=>?_) (λh=>?_)
  ·cases h;exact V.rx ab 4 0 () [0] U
  refine V.co ab 5 0 h U (λh=>?_) (λh=>?_)
  ·refine V.bI ab 5 0 h c.ho [0] [0] U ?_;rintro⟨v,w⟩ _ h;obtain⟨j,h⟩:=bG h;obtain⟨k,h⟩:=bG h;cases h;exact V.rx ab 4 0 () [0] ⟨j,k,U⟩
  refine V.co ab 5 0 h U (λh=>?_) (λh=>?_)
  ·refine V.bI ab 5 0 h c.ho [0] [0] U ?_;rintro⟨x,y⟩ _ h;obtain⟨l,h⟩:=bG h;obtain⟨m,h⟩:=bG h;cases h;exact V.rx ab 4 0 () [0] ⟨l,m,U⟩
  refine V.co ab 5 0 h U (λh=>?_) (λh=>?_)
  ·refine V.bI ab 5 0 h c.nQ [0] [0] U ?_;rintro⟨z,A⟩ _ h;obtain⟨n,h⟩:=bG h;obtain⟨o,h⟩:=bG h;cases h;exact V.rx ab 4 0 () [0] ⟨n,o,U⟩
  refine V.co ab 5 0 h U (λh=>?_) (λh=>?_)
  ·cases h;exact V.rx ab 4 0 () [0] U
  refine V.go ab 4 0 U ?_;refine V.cn (aJ.kH U (cM.buildSlice ab U U U U U U U U U U U [] U .str [([97]:aa),([98,49]:aa),([120,61,49]:aa),([102,105,108,101]:aa),([195,169]:aa),([105,110]:aa),([97,35,98]:aa)] ⟨U,U⟩ U U λB=>aJ.kI (V.cA ?_)));refine V.bI ab 1 0 h xf [1] [0] U ?_;rintro⟨f,C⟩ _ h;refine V.cn (aJ.jf 2 U λe=>V.cA ?_);obtain⟨g,h⟩:=bG h;refine V.go ab 1 0 ⟨e.ix g,U⟩ ?_;refine V.cn (aJ.load ab U U U U U U U 2 U U (Int.toNat f) 0 (at' ([([97]:aa),([98,49]:aa),([120,61,49]:aa),([102,105,108,101]:aa),([195,169]:aa),([105,110]:aa),([97,35,98]:aa)]:bt) f) ⟨mX g,U⟩ U U (V.cA ?_));cases h;exact V.rx ab 2 0 () [0] U
def kM:Nat->bk
 |0=>⟨λ_ _ _=>none,λ_ _ _=>none,λ_ _ _ _=>none,λ_=>none,λ_ _ _=>none,λ_ _=>none⟩
 |n+1=>⟨EG (kM n),Ic (kM n),E7 (kM n),IG (kM n),II (kM n),IK (kM n)⟩
theorem CI:∀n,h7 (kM n)
 |0=>⟨λh=>(DG _ (Eq.symm (show none=some _ from h))).elim,λh=>(DG _ (Eq.symm (show none=some _ from h))).elim,λh=>(DG _ (Eq.symm (show none=some _ from h))).elim,λh=>(DG _ (Eq.symm (show none=some _ from h))).elim,λh=>(DG _ (Eq.symm (show none=some _ from h))).elim,λh=>(DG _ (Eq.symm (show none=some _ from h))).elim⟩
 |n+1=>⟨agu (CI n),agK (CI n),ah8 (CI n),aij (CI n),aiC (CI n),aiH (CI n)⟩
def sy:bk:=kM bC
theorem L7:h7 sy:=CI bC
def L8(x0:aa)(d:Int->Option (aa×Int×Int))(b:(Int×Int)->Option (aa×Int×Int)):(Int×Int)->Option (aa×Int×Int):=λ(c,a)=>
 (bif(bif(decide (a<(x0.length:Int))) then(decide (a<4000)) else false) then(a9 (0<=a/\a<(x0.length:Int))<|b ((W (((BitVec.ofInt (IntKind.bits .i64) (W ((W ((W (c*137))+((at' x0 a).toNat:Int)))+7))&&&BitVec.ofInt (IntKind.bits .i64) 1073741823).toNat:Int))),(W (a+1)))) else d c)
def Fa(x0:aa):Option (aa×Int×Int):=
 (a_ (λ(a:Int)=>some (x0,0,a)) λb=>(fixF (L8 x0 b) bC ((W (600128+(x0.length:Int))),0)))
theorem aiK{x0:aa}{a2:bL}{a:Nat}{r:aa×Int×Int}(h:Fa x0=some r):
  eH Tryz.prog 20 [.slice a2 x0.length a] [lX a2 x0 a] (λ_:bL=>True) (λq=> .pointer q) (λq=>[lI q (x0,r.2) a2 a]):=
 by
  refine V.fI (T:=cm) Tryz.call20 Tryz.func20 U λ_=>?_;unfold Fa at h;refine V.db ab 16 0 h (ρ:=Unit) (λs q=>[(0,.v (.slice a2 x0.length a)),(3,.v (.int .i64 s))]) .nil (λs q=>[]) U ?_ ?_
  ·intro j _ h;refine V.fc ab 0 0 h (ρ:=Unit) (λs q=>[(0,.v (.slice a2 x0.length a)),(3,.v (.int .i64 s.1)),(4,.v (.int .i64 s.2))]) .nil (λs q=>[]) () [] U ?_;rintro i ⟨c,b⟩ _ h;rw[L8] at h;refine V.co ab 12 0 h U (λh=>?_) (λh=>?_)
   ·refine V.go ab 4 0 U ?_;refine V.cn (aJ.jf 0 U λe=>V.cA ?_);obtain⟨g,h⟩:=bG h;refine V.go ab 5 0 ⟨e.ix g,U⟩ ?_;refine V.cn (aJ.load ab U U U U U U U 0 U U (Int.toNat b) 0 (at' x0 b) ⟨mX g,U⟩ U U (V.cA ?_));refine V.cn (aJ.eI ab 5 [((at' x0 b).toNat:Int),(W ((W (c*137))+((at' x0 b).toNat:Int))),(W ((W ((W (c*137))+((at' x0 b).toNat:Int)))+7)),(W (((BitVec.ofInt (IntKind.bits .i64) (W ((W ((W (c*137))+((at' x0 b).toNat:Int)))+7))&&&BitVec.ofInt (IntKind.bits .i64) 1073741823).toNat:Int)))] [] [(3,.v (.int .i64 (W (((BitVec.ofInt (IntKind.bits .i64) (W ((W ((W (c*137))+((at' x0 b).toNat:Int)))+7))&&&BitVec.ofInt (IntKind.bits .i64) 1073741823).toNat:Int)))))] _ U ⟨⟨trivial,Kx _⟩,⟨trivial,U⟩,⟨trivial,U⟩,⟨trivial,U⟩,⟨U,trivial⟩,U⟩ (V.cA ?_));exact V.el ab 7 0 h () [] U
   exact V.a6 ab 1 0 h () [] U
  rintro f _ h;refine V.j3 (aT.D6 ab 5 [] [9] [(2,.e1 9 0),(31,.e1 9 0)] (.new 9 36 [.slice a2 x0.length a,.int .i64 0,.int .i64 f] .nil) ⟨(fH U),(js U U)⟩ U U (V.iH ?_));refine V.j3 (aT.unbox 9 U (B':= .nil) trivial U (.pair .val (.pair (.int .i64) (.int .i64))) ((bz.v ⟨a2,x0.length,a⟩),0,f) ⟨U,U,U⟩ (λd=>[(0,.v (.slice a2 x0.length a)),(2,.bm ⟨d,1,1⟩ 0),(3,.v (.int .i64 f)),(31,.bm ⟨d,1,1⟩ 0)]) (λ_=>(fH U)) λd=>V.iH ?_);cases h;exact V.rt ab 0 0 d [0] U
def Fb(x0:aa):Option aa:=
 (aw (Fa x0) λ(d:aa×Int×Int)=>(aw (sy.ho (x0,d.2) 3 ([])) λ(a,e)=>(a_ (λ((f,h,i):aa×Int×Int)=>some f) λb=>(aw (ln (x0,e.2) 4) λ(g,c)=>(bif(decide (g=0)) then(a9 (((([99,97,116,32,60,60,69,59,32]:aa).length+a.length:Nat):Int)<=9223372036854775807)<|(a9 ((((([99,97,116,32,60,60,69,59,32]:aa)++a).length+([10,98,111,100,121,10,69,10]:aa).length:Nat):Int)<=9223372036854775807)<|b (((([99,97,116,32,60,60,69,59,32]:aa)++a)++([10,98,111,100,121,10,69,10]:aa)),c.2))) else b (a,c.2))))))
theorem aiM{x0:aa}{a2:bL}{a:Nat}{r:aa}(h:Fb x0=some r):
  eH Tryz.prog 17 [.slice a2 x0.length a] [lX a2 x0 a] (λ_:Unit=>True) (λ_=> .string (a5 r)) (λ_=>[]):=
 by
  refine V.fI (T:=cm) Tryz.call17 Tryz.func17 U λ_=>?_;unfold Fb at h;refine V.cJ ab 7 0 h aiK [0] U λe b h=>?_;refine V.cn (aJ.ptr 6 b U (V.cA ?_));refine V.bI ab 5 0 h L7.ho [0] [0] U ?_;rintro⟨f,g⟩ _ h;refine V.fb ab 2 0 h (ρ:=Unit) (λs q=>[(4,.v (.string (a5 s.1)))]) .nil (λs q=>[lI b (x0,s.2) a2 a]) U ?_ ?_
  ·intro i _ h;refine V.bI ab 3 0 h xf [0] [0] U ?_;rintro⟨j,k⟩ _ h;refine V.co ab 2 0 h U (λh=>?_) (λh=>?_)
   ·obtain⟨c,h⟩:=bG h;obtain⟨d,h⟩:=bG h;exact V.a6 ab 6 0 h () [0] ⟨c,d,U⟩
   exact V.a6 ab 1 0 h () [0] U
  rintro⟨l,m,n⟩ _ h;cases h;exact V.rt ab 5 0 () [] U
def IL(x0:aa)(a:aa):Option Bool:=
 (a9 (((decide ((a.length:Int)<=(x0.length:Int)))=true)->0<=(W ((x0.length:Int)- (a.length:Int)))/\(W ((x0.length:Int)- (a.length:Int)))<=(x0.length:Int)/\(x0.length:Int)<=(x0.length:Int))<|some (bif(decide ((a.length:Int)<=(x0.length:Int))) then(decide ((b_ x0 (W ((x0.length:Int)- (a.length:Int))) (x0.length:Int))=a)) else false))
theorem aiN{x0:aa}{a:aa}{r:Bool}(h:IL x0 a=some r):
  eH Tryz.prog 35 [.string (a5 x0),.string (a5 a)] [] (λ_:Unit=>True) (λ_=> .bool r) (λ_=>[]):=
 by refine V.fI (T:=cm) Tryz.call35 Tryz.func35 U λ_=>?_;unfold IL at h;obtain⟨b,h⟩:=bG h;cases h;exact V.rt ab 24 0 () [] ⟨b,U⟩
def L9(x0:aa)(a:aa):Option Bool:=
 (aw (IL x0 a) λ(b:Bool)=>some b)
theorem aiO{x0:aa}{a:aa}{r:Bool}(h:L9 x0 a=some r):
  eH Tryz.prog 25 [.string (a5 x0),.string (a5 a)] [] (λ_:Unit=>True) (λ_=> .bool r) (λ_=>[]):=
 by refine V.fI (T:=cm) Tryz.call25 Tryz.func25 U λ_=>?_;unfold L9 at h;refine V.cJ ab 8 0 h aiN [] U λb _ h=>?_;cases h;exact V.rt ab 2 0 () [] U
def CJ(x0:aa):Option aa:=
 (aw (L9 x0 ([10]:aa)) λ(a:Bool)=>(bif a then some x0 else(a9 (((x0.length+([10]:aa).length:Nat):Int)<=9223372036854775807)<|some (x0++([10]:aa)))))
theorem RC{x0:aa}{r:aa}(h:CJ x0=some r):
  eH Tryz.prog 13 [.string (a5 x0)] [] (λ_:Unit=>True) (λ_=> .string (a5 r)) (λ_=>[]):=
 by
  refine V.fI (T:=cm) Tryz.call13 Tryz.func13 U λ_=>?_;unfold CJ at h;refine V.cJ ab 8 0 h aiO [] U λb _ h=>?_;refine V.co ab 1 0 h U (λh=>?_) (λh=>?_)
  ·cases h;exact V.rt ab 5 0 () [] U
  obtain⟨a,h⟩:=bG h;cases h;exact V.rt ab 7 0 () [] ⟨a,U⟩
theorem aiP(aA a b:bL)(w:World):CallsD Tryz.prog 29 #[.pointer aA,.pointer a,.pointer b] .returning w λe c w'=>e= .returned (.tuple #[])/\c= .returning/\w'=w:=by refine callsD_of_wpS Tryz.func29 U λd cs hu=>?_;apply wpS_seq;apply wpS_region;simp[wpOpsS,go_sem,recoverD,hu,Tryz.ntmps29,Exit.thenS];apply wpS_seq;apply wpS_region;simp[wpOpsS,go_sem,recoverD,hu,Tryz.ntmps29,Exit.thenS,Op.equal];refine wpS_cond (t:=false) (by simp[Act.eval,Array.replicate]) ?_;simp only[ew,cl];refine wpS_of_wp (wp_skip ?_);cases d;simp_all [bodyPostS,results,Tryz.results29]
theorem RD:∀{e:Env}{t:Nat}{x:eZ},c6 e t=some x->(t,x)∈e
 |[],t,x,h=>by simp[c6] at h
 |(k,y)::r,t,x,h=>by
  simp only[c6] at h;cases hk:Nat.beq k t with
  |true=>rw[hk,aK] at h;have:=kn hk;cases h;subst this;exact List.mem_cons_self
  |false=>rw[hk,aR] at h;exact Br _ (RD h)
theorem aT.enter{P:Program}{T:dS}{X:br}{w0:World}{nt:Nat}{x:Code}{Q:Exit->Act->World->Prop}{a:Act}{w:World}(β:Nat->Nat)(e:Env){O:bd}
  (he:∀p∈e,p.1<a.tmps.size/\p.2.is β a (a.tmps.getD p.1 undef)) (hf:e.all (λp=>flat p.2)=true) (ax:a.tmps.size=nt) (aE:a.defers=[])
  (hk:jX X w0 w) {L:br} (g:gy w O L) (c:L.Nodup) (bj:∀b∈L,w0.heap.size<=b\/b∈X)
  (h:∀fin,fin=Q->aT {P,T,X,w0,nt,fin} [.c x] e .nil [] O):x.wp P Q a w:=by
 have:=h Q U a w β ⟨λt y d=>he _ (RD d),λt y d=>oa.1 hf _ (RD d),ax,aE,⟨hk,?_,L,g,by simpa[bN.ids] using c,λb i=>bj b (by simpa[bN.ids] using i),λf hf=>by cases hf⟩⟩
 ·refine wp_mono (show x.wp P (hL {P,T,X,w0,nt,fin:=Q} []) a w from this) ?_;intro e a w h;exact h
 ·intro k hk;simp[bN.ids] at hk
theorem aiQ(code c:Int)(s:aa)(p:Int)(o:Value)(n:Int)(ao:bL)(lo g:Nat)(k:Int)(u x:Int)(y:Value)(aA i j f:bL)(w:World)(L:br)
  (D:gy w [⟨.val,⟨aA,1,1⟩,[.pointer f]⟩,⟨.pair (.int .i64) (.int .i64),⟨i,1,1⟩,[(u,x)]⟩,⟨.val,⟨j,1,1⟩,[y]⟩,⟨Ea,⟨f,1,1⟩,[(s,p,o,n,(bz.v ⟨ao,lo,g⟩),k)]⟩] L) (q:L.Nodup):
  CallsD Tryz.prog 29 #[.pointer aA,.pointer i,.pointer j] (.panicking [{v:= .iface 39 (.agg #[.int .i64 code,.int .i64 c]),recovered:=false}]) w λe E w'=>
   E= .panicking [{v:= .iface 39 (.agg #[.int .i64 code,.int .i64 c]),recovered:=true}]/\e= .returned (.tuple #[])/\jX L w w'/\
   ∃L',gy w' [⟨.val,⟨aA,1,1⟩,[.pointer f]⟩,⟨.pair (.int .i64) (.int .i64),⟨i,1,1⟩,[(code,c)]⟩,⟨.val,⟨j,1,1⟩,[bz.v ⟨ao,lo,g⟩]⟩,⟨Ea,⟨f,1,1⟩,[(s,p,o,n,(bz.v ⟨ao,lo,g⟩),k)]⟩] L'/\L'.Nodup/\∀b∈L',b∈L\/w.heap.size<=b:=by
 refine callsD_of_wpS Tryz.func29 U λH cs hu=>?_;apply wpS_seq;apply wpS_region;simp[wpOpsS,go_sem,recoverD,hu,Tryz.ntmps29,Exit.thenS];refine wpS_of_wp ?_;refine aT.enter (T:=cm) (X:=L) (w0:=w) (nt:=22) (λ_=>0) [(3,.v (.iface 39 (.agg #[.int .i64 code,.int .i64 c]))),(0,.v (.pointer aA)),(1,.v (.pointer i)),(2,.v (.pointer j))] ?_ U (by simp) U (jX.refl _ _) D q (λb r=> .inr r) ?_
 ·simp[eZ.is]
 intro fin z;have m:wN {P:=Tryz.prog,T:=cm,X:=L,w0:=w,nt:=22,fin:=fin}:=by subst z;intro I d v a w h;obtain⟨ad,F⟩:=h;exact⟨by rw[put_defers] at ad;exact ad,F⟩
 refine aT.ptr 0 aA U (aT.ptr 1 i U (aT.ptr 2 j U ?_));refine aT.seq (aT.region (aJ.eI ab 1 [] [] [(7,.v (.iface 39 (.agg #[.int .i64 code,.int .i64 c])))] _ U ⟨⟨U,trivial⟩,U⟩ (aJ.aep U U ⟨_,U⟩ U U Tryz.underlying20 ⟨_,U⟩ U (aJ.done U ?_))));refine aT.cond U (λl=>?_) (λl=>absurd l (by decide));refine aT.seq (aT.region (aJ.eI ab 1 [] [] [(10,.v (.iface 39 (.agg #[.int .i64 code,.int .i64 c])))] _ U ⟨⟨U,trivial⟩,U⟩ (aJ.aeq ab U U U U U U U U ?_)));refine aJ.oO ab 6 [] [1] [(4,.e1 1 0),(5,.v (.bool true))] (.new 1 39 [.int .i64 code,.int .i64 c] .nil) U ⟨fH U,js U U⟩ (aJ.done U ?_);refine aT.seq (aT.seq (aT.region (aJ.eI ab 2 [] [] [(15,.v (.bool false))] _ U ⟨⟨U,trivial⟩,U⟩ (aJ.done U ?_))));refine aT.cond U (λl=>absurd l (by decide)) (λl=>aT.skip ?_);refine aT.jf 3 U λhk=>?_;refine aT.sc U (.new 1 39 [.int .i64 code,.int .i64 c] .nil) [0,3] [5,6] (js U U) U (λJ=>?_);refine bE.eI ab m true 6 [0] U (by kernel_rfl) [] [(17,.v (.agg #[.int .i64 code,.int .i64 c]))] (js U U) [0,3] U U ⟨U,trivial⟩ ?_;refine bE.kR ab m 1 U (by kernel_rfl) U U U U U 0 U U 0 0 (.pointer f) ⟨U,U⟩ U U U (js U U) [0,3] U ?_;refine cM.ptr 18 f U ?_;refine bE.eI ab m true 3 [2,3] U (by kernel_rfl) [] [(20,.bm ⟨f,1,1⟩ 4)] (js U U) [0,3] U U ⟨(hk.fT fU).1,hk.fT fU,⟨U,trivial⟩⟩ ?_;refine bE.kR ab m 4 U (by kernel_rfl) U U U U U 1 U U 0 4 (s,p,o,n,(bz.v ⟨ao,lo,g⟩),k) ⟨U,U⟩ U U U (js U U) [0,3] U ?_;refine bE.one 5 (by kernel_rfl) (cM.qO ab U U U U U U U U U [1] (fs:=[]) U 0 0 (u,x) (code,c) ⟨U,U⟩ ⟨U,U,U⟩ (bE.nN U ?_));refine bE.one 6 (by kernel_rfl) (cM.qO ab U U U U U U U U U [2] (fs:=[]) U 0 0 y (bz.v ⟨ao,lo,g⟩) ⟨U,U⟩ ⟨U,U,U,U⟩ (bE.nN U ?_));refine bE.done (by kernel_rfl) (aT.boxes (B':= .nil) trivial ?_);intro a w' β t;subst z;obtain⟨_,_,G,A,B,C,_⟩:=t.inv.pick (idx:=[2,1,0,0]) rfl;simp only[bN.ids,List.map_nil,sY,rl] at A B C;exact⟨t.h2,_,U,_,by simp[results,Tryz.results29],U,U,t.inv.xY,G,A,B,λb r=>(C b r).symm⟩
def L_(w0:World)(r:(Int×Int)×bt×Int):Ending->World->Prop:=
 Ki w0 (λ_:bL×Nat=>True) (λq=> .tuple #[.agg #[.int .i64 r.1.1,.int .i64 r.1.2],.slice q.1 r.2.1.length q.2,.int .i64 r.2.2]) (λq=>[⟨.str,⟨q.1,r.2.1.length,q.2⟩,r.2.1⟩])
theorem Xv{w:World}{O:bd}{L:br}(h:gy w O L){f:Fact}(hf:f∈O):∃M,f.rep false w M:=by obtain⟨M,a,_⟩:=h.mem hf;exact⟨M,Fact.p3 a⟩
theorem Xw{tmps:Array Value}{w:World}{L:br}{a2 a3:bL}{e_ a n:Int}{O:bd}(d:tmps.getD 2 undef= .pointer a2)(e:tmps.getD 3 undef= .pointer a3)(f:tmps.getD 4 undef= .int .i64 n)
  (c:gy w O L) (g:⟨.pair (.int .i64) (.int .i64),⟨a2,1,1⟩,[(e_,a)]⟩∈O) {ao:bL} {lo b:Nat} (h:⟨.val,⟨a3,1,1⟩,[bz.v ⟨ao,lo,b⟩]⟩∈O):
  (results Tryz.f23 tmps).run Tryz.prog w= .ok (.tuple #[.agg #[.int .i64 e_,.int .i64 a],.slice ao lo b,.int .i64 n]) w:=by
 obtain⟨r,i⟩:=Xv c g;obtain⟨j,k⟩:=Xv c h;have l:=VT (P:=Tryz.prog) ab (q:=2) (t:=39) U d i U U U (v:= .agg #[.int .i64 e_,.int .i64 a]) U;have m:=VT (P:=Tryz.prog) ab (q:=3) (t:=29) U e k U U U (v:= .slice ao lo b) U;have o:(x_ tmps (.tmp 4)).run Tryz.prog w= .ok (.int .i64 n) w:=by simp only[x_,f];rfl
 have p:Tryz.f23.results= #[.cell 2 39,.cell 3 29,.tmp 4]:=U;rw[UT,p,Array.mapM_eq_mapM_toList];simp only[hB,Sem.run_map,List.mapM_cons,List.mapM_nil,l,m,o,ng];rfl
theorem aiR{a:Act}{w0 w:World}{L:br}{aA a2 a3:bL}{e_ b n:Int}{O:bd}(aE:a.defers=[{target:= .fn (.func 29) #[.pointer aA,.pointer a2,.pointer a3],args:= #[]}])
  (c:a.tmps.getD 2 undef= .pointer a2) (d:a.tmps.getD 3 undef= .pointer a3) (g:a.tmps.getD 4 undef= .int .i64 n) (hk:jX [] w0 w)
  (h:gy w O L) (i:⟨.pair (.int .i64) (.int .i64),⟨a2,1,1⟩,[(e_,b)]⟩∈O) (j:⟨.val,⟨a3,1,1⟩,[bz.v ⟨none,0,0⟩]⟩∈O):
  Leaves Tryz.prog Tryz.f23 a.tmps (L_ w0 ((e_,b),[],n)) a.defers .returning w:=by
 rw[aE];refine leaves_cons (f:=29) (args:= #[.pointer aA,.pointer a2,.pointer a3]) (by simp) (by simp[go_sem,invoke]) ?_;refine(aiP aA a2 a3 w).mono ?_;rintro e k w' ⟨rfl,rfl,rfl⟩;show Leaves Tryz.prog Tryz.f23 a.tmps (L_ w0 ((e_,b),[],n)) [] .returning w';refine⟨_,Xw c d g h i j,(none,0),trivial,U,hk,[],⟨[],[],⟨U,.inl ⟨U,U,U⟩⟩,U,U⟩,List.nodup_nil,by simp⟩
theorem aiS{a b c:World}{L:br}(h:jX [] a b)(k:jX L b c)(bj:∀x∈L,a.heap.size<=x):jX [] a c:=
 ⟨k.os.trans h.os,k.tape.trans h.tape,k.output.trans h.output,lQ h.size k.size,λx d _=>(k.block x (Nat.lt_of_lt_of_le d h.size) λhm=>Nat.lt_irrefl _ (Nat.lt_of_lt_of_le d (bj x hm))).trans (h.block x d (by simp))⟩
theorem aiT{a:Act}{w0 w:World}{L:br}{aA a2 a3 h:bL}{code c n:Int}{s:aa}{p:Int}{i:Value}{j:Int}{ao:bL}{d:Nat}{op:bt}{k:Int}
  (aE:a.defers=[{target:= .fn (.func 29) #[.pointer aA,.pointer a2,.pointer a3],args:= #[]}])
  (y:a.tmps.getD 2 undef= .pointer a2) (z:a.tmps.getD 3 undef= .pointer a3) (A:a.tmps.getD 4 undef= .int .i64 n) (hk:jX [] w0 w)
  {l m:Int} {o:Value} (B:gy w [⟨.val,⟨aA,1,1⟩,[.pointer h]⟩,⟨.pair (.int .i64) (.int .i64),⟨a2,1,1⟩,[(l,m)]⟩,⟨.val,⟨a3,1,1⟩,[o]⟩,⟨Ea,⟨h,1,1⟩,[(s,p,i,j,(bz.v ⟨ao,op.length,d⟩),k)]⟩,⟨.str,⟨ao,op.length,d⟩,op⟩] L)
  (q:L.Nodup) (r:∀b∈L,w0.heap.size<=b):
  Leaves Tryz.prog Tryz.f23 a.tmps (L_ w0 ((code,c),op,n)) a.defers (.panicking [{v:= .iface 39 (.agg #[.int .i64 code,.int .i64 c]),recovered:=false}]) w:=by
 rw[aE];refine leaves_cons (f:=29) (args:= #[.pointer aA,.pointer a2,.pointer a3]) (by simp) (by simp[go_sem,invoke]) ?_;obtain⟨C,t,D,u,rfl⟩:=gy.split (fs:=[⟨.val,⟨aA,1,1⟩,[.pointer h]⟩,⟨.pair (.int .i64) (.int .i64),⟨a2,1,1⟩,[(l,m)]⟩,⟨.val,⟨a3,1,1⟩,[o]⟩,⟨Ea,⟨h,1,1⟩,[(s,p,i,j,(bz.v ⟨ao,op.length,d⟩),k)]⟩]) (gs:=[⟨.str,⟨ao,op.length,d⟩,op⟩]) B;obtain⟨E,F,G⟩:=hd.1 q;refine(aiQ code c s p i j ao op.length d k l m o aA a2 a3 h w C D E).mono ?_;rintro e M w' ⟨rfl,rfl,x,L',H,N,I⟩;have J:gy w' [⟨.str,⟨ao,op.length,d⟩,op⟩] t:=u.frame λb g=>x.block b (u.lt b g) λK=>G b K b g U;show Leaves Tryz.prog Tryz.f23 a.tmps (L_ w0 ((code,c),op,n)) [] .returning w';refine⟨_,Xw y z A H (by simp) (by simp),(ao,d),trivial,U,aiS hk x (λb g=>r b (by simp[g])),t,J,F,λb g=>r b (by simp[g])⟩
theorem Ma(a:bL):a.map (·.add 0)=a:=by cases a<;>simp[Addr.add]
def AJ(x0:aa):Option ((Int×Int)×bt×Int):=
 (aw (CJ x0) λy=>match sy.ks (y,0,[],0,[],0) 0 true with
  |none=>none
  |some (.inl e)=>some ((e.1,e.2.1),e.2.2.2.2.2.2.1,0)
  |some (.inr r)=>some ((0,(r.2.1.length:Int)),[],r.1))
set_option maxHeartbeats 1000000 in
theorem Xx{x0:aa}{r:(Int×Int)×bt×Int}(h:AJ x0=some r):
  eH Tryz.prog 23 [.string (a5 x0)] [] (λ_:bL×Nat=>True) (λq=> .tuple #[.agg #[.int .i64 r.1.1,.int .i64 r.1.2],.slice q.1 r.2.1.length q.2,.int .i64 r.2.2]) (λq=>[⟨.str,⟨q.1,r.2.1.length,q.2⟩,r.2.1⟩]):=by
 refine⟨Tryz.call23,λw _=>calls_of_wp_defers Tryz.func23 U ?_⟩;unfold AJ at h;obtain⟨y,k,h⟩:=jZ h;rw[Tryz.ntmps23];refine aT.enter (T:=cm) (X:=[]) (w0:=w) (nt:=20) (λ_=>0) [(0,.v (.string (a5 x0)))] (O:=[]) ?_ U (by simp) U (jX.refl _ _) (L:=[]) U List.nodup_nil (by simp) ?_
 ·simp[eZ.is]
 intro fin j;refine aT.seq (aT.region (aJ.oO ab 3 [] [1,2] [(2,.e1 1 0),(3,.e1 2 0),(4,.v (.int .i64 0))] (.new 1 39 [.int .i64 0,.int .i64 0] (.new 2 29 [.slice none 0 0] .nil)) U ⟨fH U,js U U⟩ (aJ.done U ?_)));refine aT.seq (aT.region (aJ.eI ab 1 [] [] [(6,.v (.string (a5 x0)))] _ U ⟨⟨U,trivial⟩,U⟩ (aJ.call U U U U (RC k) U [] U U λ_ _=>?_)));refine aJ.oO ab 2 [] [3] [(9,.e1 3 0)] (.new 1 39 [.int .i64 0,.int .i64 0] (.new 2 29 [.slice none 0 0] (.new 3 55 [.string (a5 y),.int .i64 0,.slice none 0 0,.int .i64 0,.slice none 0 0,.int .i64 0] .nil))) U ⟨⟨U,trivial⟩,js U U⟩ ?_;refine aJ.unbox 3 U (B':= .new 1 39 [.int .i64 0,.int .i64 0] (.new 2 29 [.slice none 0 0] .nil)) (js U U) U Ea (y,0,(bz.v ⟨none,0,0⟩),0,(bz.v ⟨none,0,0⟩),0) ⟨U,U,U,U⟩ (λa=>[(2,.e1 1 0),(3,.e1 2 0),(4,.v (.int .i64 0)),(9,.bm ⟨a,1,1⟩ 0)]) (λ_=>fH U) λd=>?_;refine aJ.oO ab 2 [] [4] [(5,.e1 4 0)] (.new 1 39 [.int .i64 0,.int .i64 0] (.new 2 29 [.slice none 0 0] (.new 4 52 [.pointer d] .nil))) U ⟨⟨U,trivial⟩,js U U⟩ (aJ.done U ?_);refine aT.unbox 1 U (B':= .new 2 29 [.slice none 0 0] (.new 4 52 [.pointer d] .nil)) (js U U) U (.pair (.int .i64) (.int .i64)) (0,0) ⟨U,U⟩ (λa=>[(2,.bm ⟨a,1,1⟩ 0),(3,.e1 2 0),(4,.v (.int .i64 0)),(5,.e1 4 0)]) (λ_=>fH U) λa2=>?_;refine aT.unbox 2 U (B':= .new 4 52 [.pointer d] .nil) (js U U) U .val (bz.v ⟨none,0,0⟩) ⟨U,U,U⟩ (λa=>[(2,.bm ⟨a2,1,1⟩ 0),(3,.bm ⟨a,1,1⟩ 0),(4,.v (.int .i64 0)),(5,.e1 4 0)]) (λ_=>fH U) λa3=>?_;refine aT.unbox 4 U (B':= .nil) trivial U .val (.pointer d) ⟨U,U,U⟩ (λa=>[(2,.bm ⟨a2,1,1⟩ 0),(3,.bm ⟨a3,1,1⟩ 0),(4,.v (.int .i64 0)),(5,.bm ⟨a,1,1⟩ 0)]) (λ_=>fH U) λaA=>?_;refine aT.qb (.pair .str .bool) bz.nil U U (aT.qb .str bz.nil U U ?_);refine aT.seq (aT.region (aJ.aec U U U U U U (aJ.defer U U U U U (aJ.done U ?_))));refine aT.seq (aT.region (aJ.kR ab U U U U U U 2 U U 0 0 (.pointer d) ⟨U,U⟩ U U U (aJ.ptr 11 d U ?_)));rcases hm:sy.ks (y,0,[],0,[],0) 0 true with _|⟨e|aC⟩
 ·rw[hm] at h;cases h
 ·rw[hm] at h;cases h;refine aJ.VS U U U U (L7.ks (Q:=(none,0,none,0)) hm) U [5,1,0] U [] U U (λ_=>by simp) (λs v _ he _=>?_) (λs l _ he a w' β c=>?_)
  ·simp at he
  ·simp only[Ending.panicked.injEq] at he;subst he;subst j;obtain⟨_,_,m,f,g,i,_⟩:=(c.inv.pick (idx:=[3,4,3,0,1]) rfl).drop;simp only[bN.ids,List.map_nil,sY,rl] at f g i;refine BR (aiT (aA:=aA) (a2:=a2) (a3:=a3) c.h2 ?_ ?_ ?_ c.inv.xY f g λb n=>(i b n).resolve_right (by simp))
   ·exact(c.env 2 _ U).2.trans (by rw[Ma])
   ·exact(c.env 3 _ U).2.trans (by rw[Ma])
   ·exact(c.env 4 _ U).2
 ·rw[hm] at h;cases h;refine aJ.VS U U U U (L7.ks (Q:=(none,0,none,0)) hm) U [5,1,0] U [] U U (λ_=>by simp) (λs v _ he o=>?_) (λs l _ he=>?_)
  ·simp only[Bn] at he;subst he;refine aJ.eI ab 1 [] [] [(4,.v (.int .i64 aC.1))] _ U ⟨⟨U,trivial⟩,U⟩ (aJ.done U ?_);refine aT.jf 0 U λhk=>?_;refine aT.seq (aT.region (aJ.kR ab U U U U U U 3 U U 0 0 (.pointer d) ⟨U,U⟩ U U U (aJ.ptr 13 d U ?_)));refine aJ.eI ab 2 [] [] [(15,.bm ⟨d,1,1⟩ 0)] _ U ⟨(hk.fT fU).1,hk.fT fU,⟨U,trivial⟩,U⟩ ?_;refine aJ.kR ab U U U U U U 0 U U 0 0 _ ⟨U,U⟩ U U U ?_;refine aJ.eI ab 3 [] [] [(18,.v (.agg #[.int .i64 0,.int .i64 (aC.2.1.length:Int)])),(19,.v (.int .i64 aC.1))] _ U ⟨fH U,U⟩ ?_;refine aJ.qO ab U U U U U U U U U [5] (fs:=[]) U 0 0 (0,0) (0,(aC.2.1.length:Int)) ⟨U,U⟩ ⟨U,U,U⟩ ?_;refine aJ.qO ab U U U U U U U U U [5] (fs:=[]) U 0 0 (bz.v ⟨none,0,0⟩) (bz.v ⟨none,0,0⟩) ⟨U,U⟩ ⟨U,U,U,U⟩ ?_;refine aJ.eI ab 1 [] [] [(4,.v (.int .i64 aC.1))] _ U ⟨⟨U,trivial⟩,U⟩ (aJ.done U ?_);intro a w' β c;subst j;obtain⟨_,_,m,f,g,i,_⟩:=c.inv;refine wp_ret (Bz (aiR (aA:=aA) (a2:=a2) (a3:=a3) c.h2 ?_ ?_ ?_ c.inv.xY f (by simp) (by simp)))
   ·exact(c.env 2 _ U).2.trans (by rw[Ma])
   ·exact(c.env 3 _ U).2.trans (by rw[Ma])
   ·exact(c.env 4 _ U).2
  ·simp at he
def Fc(x0:aa):Option Int:=
 (aw (AJ x0) λ(a,c,b)=>(bif(!(decide (a.1=0))) then some (-1) else some b))
theorem aiU{x0:aa}{r:Int}(h:Fc x0=some r):
  eH Tryz.prog 14 [.string (a5 x0)] [] (λ_:Unit=>True) (λ_=> .int .i64 r) (λ_=>[]):=
 by
  refine V.fI (T:=cm) Tryz.call14 Tryz.func14 U λ_=>?_;unfold Fc at h;refine V.cJ ab 7 0 h Xx [] U ?_;rintro⟨a,c,b⟩ ⟨d,e⟩ h;refine V.cn (aJ.oO ab 8 [] [8] [(3,.e1 8 0),(5,.v (.int .i64 b))] (.new 8 39 [.int .i64 a.1,.int .i64 a.2] .nil) U ⟨(fH U),(js U U)⟩ (V.cA ?_));refine V.co ab 8 0 h U (λh=>?_) (λh=>?_)
  ·cases h;exact V.rt ab 4 0 () [] U
  cases h;exact V.rt ab 6 0 () [] U
def Ff(x0:aa):Option aa:=
 (a9 (((decide (0<(x0.length:Int)))=true)->0<=(W ((x0.length:Int)-1))/\(W ((x0.length:Int)-1))<(x0.length:Int))<|(bif(bif(decide (0<(x0.length:Int))) then(decide (((at' x0 (W ((x0.length:Int)-1))).toNat:Int)=(10:Int))) else false) then some x0 else(a9 (((x0.length+([10]:aa).length:Nat):Int)<=9223372036854775807)<|some (x0++([10]:aa)))))
theorem aiV{x0:aa}{r:aa}(h:Ff x0=some r):
  eH Tryz.prog 31 [.string (a5 x0)] [] (λ_:Unit=>True) (λ_=> .string (a5 r)) (λ_=>[]):=
 by
  refine V.fI (T:=cm) Tryz.call31 Tryz.func31 U λ_=>?_;unfold Ff at h;obtain⟨a,h⟩:=bG h;refine V.co ab 19 0 h ⟨a,U⟩ (λh=>?_) (λh=>?_)
  ·cases h;exact V.rt ab 5 0 () [] U
  obtain⟨b,h⟩:=bG h;cases h;exact V.rt ab 7 0 () [] ⟨b,U⟩
def AK(x0:aa):Option (ah×Int):=
 (aw (Ff x0) λ(p:aa)=>(aw (sy.nP (p,0,0,([]:aq),0,0,[],([]:bt),false) ([]) ([]:bt) false) λ(q,a)=>(a_ (λ((c,d,e,f,b,g,h,i,j):ah)=>(a_ (λ((k,r,s,t,l,u,v,w,x):ah)=>(a_ (λ(y:Int)=>some ((k,r,s,t,l,y,v,w,x),q)) λm=>(bif(!(decide (l=2))) then m (k.length:Int) else m u))) λn=>(bif(decide (b=1)) then(aw (vN (c,d,e,f,b,g,h,i,j) ([10]:aa)) λ(z:ah)=>n z) else n (c,d,e,f,b,g,h,i,j)))) λo=>(bif(bif(decide (a.2.2.2.2.1=0)) then(bif a.2.2.2.2.2.2.2.2 then true else(decide (0<(a.2.2.2.1.length:Int)))) else false) then(aw (g_ a ([])) λ(A:ah)=>o A) else o a))))
theorem aiW{x0:aa}{r:ah×Int}(h:AK x0=some r):
  eH Tryz.prog 24 [.string (a5 x0)] [] (λ_:bL×bw=>True) (λq=> .tuple #[.pointer q.1,.int .i64 r.2]) (λq=>eW q.1 r.1 q.2):=
 by
  refine V.fI (T:=cm) Tryz.call24 Tryz.func24 U λ_=>?_;unfold AK at h;refine V.cJ ab 8 0 h aiV [] U λb _ h=>?_;refine V.cn (aJ.oO ab 3 [] [3] [(4,.e1 3 0),(9,.e1 3 0)] (.new 3 47 (aeG (b,0,0,[],0,0,[],[],false) none 0 none 0) .nil) U ⟨(fH U),(js U U)⟩ (V.cA ?_));refine V.go ab 4 0 U ?_;obtain⟨⟨c,v⟩,d,h⟩:=jZ h;refine V.cn (aJ.unbox 3 U (B':= .nil) trivial U (.pair .str (.pair (.int .i64) (.pair (.int .i64) (.pair .val (.pair (.int .i64) (.pair (.int .i64) (.pair .str (.pair .val .bool)))))))) (b,0,0,(bz.v ⟨none,0,0⟩),0,0,[],(bz.v ⟨none,0,0⟩),false) ⟨U,U,U,U⟩ (λa=>[(0,.v (.string (a5 x0))),(4,.bm ⟨a,1,1⟩ 0),(6,.v (.string (a5 x0))),(7,.v (.string (a5 b))),(9,.bm ⟨a,1,1⟩ 0),(10,.bm ⟨a,1,1⟩ 0)]) (λ_=>(fH U)) λa=>V.cA ?_);refine V.cn (aJ.qb (.pair .str .bool) bz.nil U U (V.cA ?_));refine V.cn (aJ.qb .str bz.nil U U (V.cA ?_));refine V.cn (aJ.Kr .str bz.nil U U (V.cA ?_));refine V.cn (aJ.qc U U U U (L7.nP (Q:=(none,0,none,0)) d) U [2,1,0] U [0] U U ?_);rintro e-;refine V.cA ?_;refine V.fb ab 2 0 h (ρ:=bw) (λs q=>[(4,.bm ⟨a,1,1⟩ 0),(5,.v (.int .i64 c))]) .nil (λs q=>gQ a s q) U ?_ ?_
  ·intro w _ h;refine V.co ab 22 1 h ⟨U,U,U,U,U,U,U,U,U,U⟩ (λh=>?_) (λh=>?_)
   ·refine V.bI ab 2 0 h pI [0,0,0] [] U λx g h=>?_;exact V.a6 ab 1 0 h g [1,2,0] U
   exact V.a6 ab 1 0 h e [1,2,0] U
  rintro⟨y,z,A,B,C,D,E,F,G⟩ i h;refine V.fb ab 0 0 h (ρ:=bw) (λs q=>[(4,.bm ⟨a,1,1⟩ 0),(5,.v (.int .i64 c))]) .nil (λs q=>gQ a s q) U ?_ ?_
  ·intro H _ h;refine V.co ab 8 3 h ⟨U,U,U,U⟩ (λh=>?_) (λh=>?_)
   ·refine V.bI ab 2 0 h QX [2,0,0] [] U λI j h=>?_;exact V.a6 ab 1 0 h j [1,2,0] U
   exact V.a6 ab 1 0 h i [0,1,2] U
  rintro⟨k,l,m,n,o,J,p,t,u⟩ f h;refine V.fb ab 0 0 h (ρ:=Unit) (λs q=>[(4,.bm ⟨a,1,1⟩ 0),(5,.v (.int .i64 c))]) .nil (λs q=>eW a (k,l,m,n,o,s,p,t,u) f) U ?_ ?_
  ·intro K _ h;refine V.co ab 8 3 h ⟨U,U,U,U⟩ (λh=>?_) (λh=>?_)
   ·exact V.a6 ab 11 3 h () [0,1,2] ⟨U,U,U,U,U,U,U⟩
   exact V.a6 ab 1 0 h () [2,0,1] U
  rintro L _ h;cases h;exact V.rt ab 7 0 (a,f) [0,0,0] U
def ard(x0:aa):Option Int:=
 (aw (AK x0) λ(a,b)=>(bif(!(decide (a.2.2.2.2.1=0))) then some (-1) else some b))
def AL(x0:aa):Option (Int×Int):=
 (aw (AJ x0) λ(a,b,c)=>some a)
theorem Xz{x0:aa}{r:Int×Int}(h:AL x0=some r):
  eH Tryz.prog 11 [.string (a5 x0)] [] (λ_:Unit=>True) (λ_=> .tuple #[.int .i64 r.1,.int .i64 r.2]) (λ_=>[]):=
 by refine V.fI (T:=cm) Tryz.call11 Tryz.func11 U λ_=>?_;unfold AL at h;refine V.cJ ab 8 0 h Xx [] U ?_;rintro⟨a,b,c⟩ ⟨d,e⟩ h;refine V.cn (aJ.oO ab 8 [] [8] [(4,.e1 8 0)] (.new 8 39 [.int .i64 a.1,.int .i64 a.2] .nil) U ⟨⟨U,trivial⟩,(js U U)⟩ (V.cA ?_));refine V.jt ab 2 0 U (by kernel_rfl) ?_;cases h;exact V.rt ab 7 0 () [] U
def IM(x0:aa):Option (Int×Int):=
 (aw (AK x0) λ(a,b)=>some (a.2.2.2.2.1,a.2.2.2.2.2.1))
theorem aiZ{x0:aa}{r:Int×Int}(h:IM x0=some r):
  eH Tryz.prog 12 [.string (a5 x0)] [] (λ_:Unit=>True) (λ_=> .tuple #[.int .i64 r.1,.int .i64 r.2]) (λ_=>[]):=
 by refine V.fI (T:=cm) Tryz.call12 Tryz.func12 U λ_=>?_;unfold IM at h;refine V.cJ ab 8 0 h aiW [] U ?_;rintro⟨b,c⟩ ⟨a,d,e,f,g⟩ h;refine V.go ab 2 0 U ?_;refine V.cn (aJ.ptr 9 a U (V.cA ?_));refine V.jt ab 5 0 U (by kernel_rfl) ?_;cases h;exact V.rt ab 11 0 () [] ⟨U,U,U,U,U,U,U⟩
def Mb(b:aa)(e:Unit->Option Bool)(c:Int->Option Bool):Int->Option Bool:=λa=>
 (bif(decide (a<(b.length:Int))) then(a_ (λ(_:Unit)=>c (W (a+1))) λd=>(a9 (0<=a/\a<(b.length:Int))<|(bif(decide (((at' b a).toNat:Int)=(10:Int))) then(a9 (0<=(0:Int)/\(0:Int)<=(W (a+1))/\(W (a+1))<=(b.length:Int))<|(aw (AL (b_ b 0 (W (a+1)))) λ(f,y23)=>(bif(decide (f=2)) then some false else d ()))) else d ()))) else e ())
def M_l_FnPrefix(x0:aa):Option Bool:=
 (bif(decide (1048576<(x0.length:Int))) then some true else(aw (Fb x0) λ(a:aa)=>(aw (AL a) λ(b,h)=>(aw (IM a) λ(c,i)=>(cT ((!(decide (b=c)))=false) (CJ a) [] λ(d:aa)=>(bif(bif(!(decide (b=c))) then true else(decide (d=[]))) then some false else(bif(!(decide (b=0))) then some true else(aw (CJ a) λ(e:aa)=>(a_ (λ(_:Unit)=>(aw (Fc a) λ(f:Int)=>some (decide (0<f)))) λg=>(fixF (Mb e g) bC 0))))))))))
theorem ok_l_FnPrefix{x0:aa}{a2:bL}{b:Nat}{r:Bool}(h:M_l_FnPrefix x0=some r):
  eH Tryz.prog 6 [.slice a2 x0.length b] [lX a2 x0 b] (λ_:Unit=>True) (λ_=> .bool r) (λ_=>[]):=
 by
  refine V.fI (T:=cm) Tryz.call6 Tryz.func6 U λ_=>?_;unfold M_l_FnPrefix at h;refine V.co ab 11 0 h U (λh=>?_) (λh=>?_)
  ·cases h;exact V.rt ab 4 0 () [] U
  refine V.cJ ab 4 0 h aiM [0] U λa _ h=>?_;refine V.cJ ab 5 0 h Xz [] U ?_;rintro⟨i,j⟩ _ h;refine V.cJ ab 9 0 h aiZ [] U ?_;rintro⟨k,l⟩ _ h;refine V.h5 ab 14 0 h RC [] U (λ_=>id) λm h=>?_;refine V.co ab 3 0 h U (λh=>?_) (λh=>?_)
  ·cases h;exact V.rt ab 4 0 () [] U
  refine V.co ab 7 0 h U (λh=>?_) (λh=>?_)
  ·cases h;exact V.rt ab 4 0 () [] U
  refine V.cJ ab 4 0 h RC [] U λc _ h=>?_;refine V.db ab 7 0 h (ρ:=Unit) (λs q=>[(3,.v (.string (a5 a)))]) .nil (λs q=>[]) U ?_ ?_
  ·intro n _ h;refine V.fc ab 0 0 h (ρ:=Unit) (λs q=>[(3,.v (.string (a5 a))),(8,.v (.string (a5 c))),(9,.v (.int .i64 s))]) .nil (λs q=>[]) () [] U ?_;rintro d e _ h;rw[Mb] at h;refine V.co ab 8 0 h U (λh=>?_) (λh=>?_)
   ·refine V.db ab 2 0 h (ρ:=Unit) (λs q=>[(3,.v (.string (a5 a))),(8,.v (.string (a5 c))),(9,.v (.int .i64 e))]) .nil (λs q=>[]) U ?_ ?_
    ·intro o _ h;obtain⟨f,h⟩:=bG h;refine V.co ab 7 0 h ⟨f,U⟩ (λh=>?_) (λh=>?_)
     ·obtain⟨g,h⟩:=bG h;refine V.cJ ab 6 0 h Xz [] ⟨g,U⟩ ?_;rintro⟨p,y23⟩ _ h;refine V.co ab 11 0 h U (λh=>?_) (λh=>?_)
      ·cases h;exact V.rt ab 4 0 () [] U
      exact V.a6 ab 2 0 h () [] U
     exact V.a6 ab 2 0 h () [] U
    rintro _ _ h
    try dsimp only at h
    exact V.el ab 5 0 h () [] U
   exact V.a6 ab 1 0 h () [] U
  rintro _ _ h;refine V.cJ ab 3 0 h aiU [] U λt _ h=>?_;cases h;exact V.rt ab 3 0 () [] U
end
end Go.Eng
namespace Go.Eng
inductive dw(α:Type) where
 |ok (a:α) (r:aa) (pd:aq)
 |more (op:bt) (nd:aa) (pd:aq)
 |bad (r:aa)
 |deep (r:aa)
abbrev ak(α:Type):=aa->aq->dw α
def aW{α:Type}(a:α):ak α:=λr pd=> .ok a r pd
def ae{α β:Type}(m:ak α)(k:α->ak β):ak β:=λr pd=>match m r pd with
 | .ok a r pd=>k a r pd
 | .more op nd ds=> .more op nd ds
 | .bad r=> .bad r
 | .deep r=> .deep r
def lM:aq->aa
 |[]=>[]
 |d::ds=>d.1++10::lM ds
def cP(nd:aa)(ds:aq):aa->aa×aq
 |[]=>(nd,ds)
 |b::x=>if b=10 then cP (nd++10::lM ds) [] x else cP (nd++[b]) ds x
def ak.aM{α:Type}(m:ak α)(x:aa):ak α:=λr pd=>match m r pd with
 | .more op nd ds=> .more op (cP nd ds x).1 (cP nd ds x).2
 |y=>y
def ak.named{α:Type}(m:ak α)(n:aa):ak α:=λr pd=>match m r pd with
 | .more op nd ds=> .more (n::op) nd ds
 |y=>y
def b7{α:Type}(x:aa):ak α:=λ_ pd=> .more [] (cP [] pd x).1 (cP [] pd x).2
def bK{α:Type}:ak α:=λr _=> .bad r
def uJ{α:Type}:ak α:=λr _=> .deep r
def cb{σ α:Type}(f:σ->ak (σ⊕α))(s:σ):ak α:=λr pd=>match f s r pd with
 | .ok (.inl s') r' b=>if r'.length<r.length then cb f s' r' b else .bad r'
 | .ok (.inr a) r' b=> .ok a r' b
 | .more op nd ds=> .more op nd ds
 | .bad r=> .bad r
 | .deep r=> .deep r
termination_by r=>r.length
def ga(b:UInt8):Bool:=b==32||b==9
def lp:aa->aa
 |[]=>[]
 |b::t=>if b=10 then b::t else lp t
theorem AM:∀(r:aa),(lp r).length<=r.length
 |[]=>cX _
 |b::t=>by
  unfold lp;split
  ·omega
  ·exact lQ (AM t) (Nat.le_succ _)
def bx:aa->Option aa
 |[]=>some []
 |b::t=>if ga b then bx t else if b=35 then bx (lp t) else
  if b=92 then match t with
   |10::u=>if u=[] then none else bx u
   |_=>some (b::t)
  else some (b::t)
termination_by r=>r.length
decreasing_by
 all_goals simp_wf
 ·grind[AM]
 ·omega
def lq:bt:=[[60,60,45],[38,38],[124,124],[59,59],[60,60],[60,38],[60,62],[62,62],[62,38],[62,124],[38],[124],[59],[60],[62],[40],[41]]
def bs(r:aa):aa:=(lq.find? (λo=>o.isPrefixOf r)).getD []
def c3:aa->Bool
 |[]=>true
 |b::t=>ga b||b==10||bs (b::t)!=[]
def gb:aa->Bool
 |36::40::_=>true
 |36::123::_=>true
 |_=>false
def c8:aa->aa×Bool
 |[]=>([],true)
 |b::t=>if c3 (b::t) then([],true) else
  if b=92\/b=39\/b=34\/b=96\/gb (b::t) then([],false) else
  match c8 t with
  |(w,true)=>(b::w,true)
  |(_,false)=>([],false)
inductive Tok where
 |eof
 |line
 |op (o:aa)
 |word (t:aa) (plain:Bool)
deriving DecidableEq
def av:aa->Tok
 |[]=> .eof
 |b::t=>if b=10 then .line else if bs (b::t)≠[] then .op (bs (b::t)) else .word (c8 (b::t)).1 (c8 (b::t)).2
def bQ(x:aa):ak Tok:=λr pd=>match bx r with
 |none=>b7 x r pd
 |some r'=> .ok (av r') r' pd
def b2(n:Nat):ak Unit:=λr pd=> .ok () (r.drop n) pd
def gd:aa->Option aa
 |[]=>none
 |b::t=>if b=39 then some t else gd t
def g4:aa->Option aa
 |[]=>none
 |b::t=>if b=96 then some t else if b=92 then(match t with|[]=>none|_::u=>g4 u) else g4 t
inductive XA where
 |ok (r:aa)
 |more (n:Nat)
 |bad (r:aa)
def hQ:Nat->aa->XA
 |d,[]=> .more (d+2)
 |d,b::t=>if b=39\/b=34\/b=92\/b=96\/gb (b::t) then .bad (b::t) else
  if b=40 then hQ (d+1) t else
  if b=41 then match d with
   |ei+1=>hQ ei t
   |0=>match t with
    |[]=> .more 1
    |c::u=>if c=41 then .ok u else .bad (b::t)
  else hQ d t
def iN:aa->aa×aa
 |[]=>([],[])
 |b::t=>if b=10 then([],t) else((b::(iN t).1),(iN t).2)
theorem Mc:∀(r:aa),r≠[]->(iN r).2.length<r.length
 |[],h=>absurd rfl h
 |b::t,_=>by
  unfold iN;split
  ·simp
  ·rcases t with _|⟨c,u⟩
   ·exact xW _
   ·exact Nat.lt_trans (Mc (c::u) (by simp)) (xW _)
def nx(d:aa)(tabs:Bool):aa->Option aa
 |[]=>none
 |b::t=>if(if tabs then(iN (b::t)).1.dropWhile (· ==9) else(iN (b::t)).1)=d then some (iN (b::t)).2 else nx d tabs (iN (b::t)).2
termination_by r=>r.length
decreasing_by grind[Mc]
def mc:aq->aa->aa⊕aa
 |[],r=> .inl r
 |d::ds,r=>match nx d.1 d.2 r with
  |some r'=>mc ds r'
  |none=> .inr (lM (d::ds))
def jj:ak Unit:=λr pd=>match r with
 |[]=> .ok () [] pd
 |_::t=>match mc pd t with
  | .inl r'=> .ok () r' []
  | .inr nd=> .more [[60,60]] nd []
def cU:ak Bool:=cb (λsome=>ae (bQ []) λt=>if t= .line then ae jj λ_=>aW (.inl true) else aW (.inr some)) false
def jx(f:aa->Option aa)(n:aa):ak Unit:=λr pd=>match f r with
 |some r'=> .ok () r' pd
 |none=> .more [n] n pd
def cE(D:ak Unit)(dq:Option (ak Unit)):ak Unit:=λr pd=>match r with
 |[]=> .ok () [] pd
 |b::t=>
  if b=92 then .ok () (t.drop 1) pd
  else if b=96 then jx g4 [96] t pd
  else if gb (b::t) then D (b::t) pd
  else match dq with
   |none=> .ok () t pd
   |some q=>if b=39 then jx gd [39] t pd else if b=34 then q t pd else .ok () t pd
def jk(c:UInt8)(part:ak Unit):ak Unit:=cb (λ_ r pd=>match r with
 |[]=>b7 [] r pd
 |b::t=>if b=c then .ok (.inr ()) t pd else(ae part λ_=>aW (.inl ())) r pd) ()
def eN(D:ak Unit):ak Unit:=((jk 34 (cE D none)).aM [34]).named [34]
def q3(D:ak Unit):ak Unit:=(jk 125 (cE D (some (eN D)))).aM [125]
def cQ(D:ak Unit):ak Unit:=cb (λ_ r pd=>match r with
 |[]=>b7 [] r pd
 |_::_=>if c3 r then .ok (.inr ()) r pd else(ae (cE D (some (eN D))) λ_=>aW (.inl ())) r pd) ()
def jQ(D:ak Unit)(x:aa):ak Unit:=ae (bQ x) λt=>match t with
 | .eof=>b7 x
 | .word _ _=>cQ D
 |_=>bK
def yV(b:UInt8):Bool:=(97<=b&&b<=122)||(65<=b&&b<=90)||b==95
def cd(b:UInt8):Bool:=48<=b&&b<=57
def me:aa->Bool
 |[]=>false
 |b::t=>yV b&&t.all λc=>yV c||cd c
def m_:aa:=[105,102]
def iX:aa:=[116,104,101,110]
def il:aa:=[101,108,105,102]
def hR:aa:=[101,108,115,101]
def fe:aa:=[102,105]
def gU:aa:=[100,111]
def iO:aa:=[100,111,110,101]
def xg:aa:=[119,104,105,108,101]
def IP:aa:=[117,110,116,105,108]
def ny:aa:=[102,111,114]
def pL:aa:=[99,97,115,101]
def ev:aa:=[101,115,97,99]
def fB:aa:=[105,110]
def rK(w:aa):Bool:=[m_,iX,il,hR,fe,gU,iO,xg,IP,ny,pL,ev,[123],[125],[33]].contains w
def q4(w:aa):Bool:=[m_,xg,IP,ny,pL,[123]].contains w
def e2(o:aa):Bool:=[[60,60,45],[60,60],[60,38],[60,62],[62,62],[62,38],[62,124],[60],[62]].contains o
theorem yW:∀(r q:aa),gd r=some q->q.length<r.length
 |[],q,h=>by grind[gd]
 |b::t,q,h=>by
  unfold gd at h;split at h
  ·grind
  ·exact Nat.lt_trans (yW t q h) (xW _)
inductive jl where
 |closed (o r:aa)
 |part
 |open_ (o:aa)
def jl.add(x:aa):jl->jl
 | .closed o r=> .closed (x++o) r
 | .part=> .part
 | .open_ o=> .open_ (x++o)
def AN(c:UInt8):aa:=if c=36\/c=34\/c=92\/c=96 then [c] else if c=10 then [] else [92,c]
def eE:aa->jl
 |[]=> .open_ []
 |b::t=>if b=34 then .closed [] t else if b=36\/b=96 then .part else
  if b=92 then match t with
   |[]=> .part
   |c::u=>(eE u).add (AN c)
  else(eE t).add [b]
theorem jl.RH{x:aa}{q:jl}{o r:aa}(h:q.add x= .closed o r):∃a,q= .closed a r:=by cases q<;>simp[jl.add] at h;simp_all
theorem Fg:∀(r:aa)(o q:aa),eE r= .closed o q->q.length<r.length
 |[],o,q,h=>by grind[eE]
 |b::t,o,q,h=>by
  unfold eE at h;split at h
  ·grind
  ·split at h
   ·cases h
   ·split at h
    ·match t,h with
     |[],h=>cases h
     |c::u,h=>obtain⟨a,ad⟩:=jl.RH h;have:=Fg u a q ad;grind
    ·obtain⟨a,ad⟩:=jl.RH h;have:=Fg t a q ad;grind
def dt:aa->Option (aa×aa×aa)
 |[]=>some ([],[],[])
 |b::t=>if c3 (b::t) then some ([],b::t,[]) else
  if b=92 then match t with
   |[]=>none
   |c::u=>(dt u).map λq=>((if c=10 then [] else [c])++q.1,q.2)
  else if b=39 then match h:gd t with
   |none=>none
   |some r=>(dt r).map λq=>(t.take (t.length-r.length-1)++q.1,q.2)
  else if b=36\/b=96 then none else
  if b=34 then match h:eE t with
   | .part=>none
   | .open_ o=>some (o,[],[34])
   | .closed o r=>(dt r).map λq=>(o++q.1,q.2)
  else(dt t).map λq=>(b::q.1,q.2)
termination_by r=>r.length
decreasing_by
 all_goals simp_wf
 ·omega
 ·have:=yW t r h;omega
 ·have:=Fg t o r h;omega
def hr(tabs:Bool):ak Unit:=(λr pd=>match bx r with
 |none=> .more [] [120] (pd++[([120],tabs)])
 |some r'=>match av r' with
  | .eof=> .more [] [120] (pd++[([120],tabs)])
  | .word _ _=>match dt r' with
    |none=> .bad r'
    |some (d,q,a)=>if d.contains 10 then .bad r' else
     if tabs/\d.head?=some 9 then .bad r' else
     if a≠[] then .more [a] a (pd++[(d,tabs)]) else
     if q=[] then .more [] [] (pd++[(d,tabs)]) else .ok () q (pd++[(d,tabs)])
  |_=> .bad r')
def fJ:ak (Option aa):=λr pd=>match bx r with
 |none=>b7 [] r pd
 |some r'=>let q:=r'.dropWhile cd
  if e2 (bs q) then .ok (some (bs q)) (q.drop (bs q).length) pd else .ok none r' pd
def dF(D:ak Unit):ak Bool:=ae fJ λo=>match o with
 |none=>aW false
 |some o=>ae (if o=[60,60] then hr false else if o=[60,60,45] then hr true else jQ D [120]) λ_=>aW true
def gV(D:ak Unit):ak Unit:=cb (λ_=>ae (dF D) λb=>aW (if b then .inl () else .inr ())) ()
inductive Ctx where
 |text|paren|q5|rL|qo|jY|pM|done|item
deriving DecidableEq
def cG(t:Tok)(w:aa):Bool:=t== .word w true
def dT(c:Ctx)(t:Tok):Bool:=match c with
 | .text=>t== .eof
 | .paren=>t== .op [41]
 | .q5=>cG t [125]
 | .rL=>cG t iX
 | .qo=>cG t il||cG t hR||cG t fe
 | .jY=>cG t fe
 | .pM=>cG t gU
 | .done=>cG t iO
 | .item=>t== .op [59,59]||cG t ev
def na(b:Tok->Bool)(n:Nat):ak Unit:=ae (bQ []) λt=>if t= .eof then b7 [] else if b t then b2 n else bK
def jR(o:aa):ak Unit:=na (· == .op o) o.length
def cY(w:aa):ak Unit:=na (cG · w) w.length
structure dU where
 ls:Ctx->Bool->ak Nat
 pm:ak Unit
 cp:Tok->ak Unit
 rd:ak Unit
 dl:ak Unit
 has:Bool
def nz:ak Unit:=λt pd=>match hQ 0 t with
 | .ok r'=> .ok () r' pd
 | .more n=> .more [[36,40,40]] (List.replicate n 41) pd
 | .bad r'=> .bad r'
def sz(lo:Option dU)(n:Nat)(f:dU->ak Unit):ak Unit:=match lo with
 |none=>uJ
 |some l=>ae (b2 n) λ_=>f l
def uK(l:dU):ak Unit:=ae (((l.ls .paren true).aM [41]).named [36,40]) λ_=>jR [41]
def dM(lo:Option dU):ak Unit:=λr pd=>
 if [36,40,40].isPrefixOf r then ae (b2 3) (λ_=>nz) r pd
 else if [36,40].isPrefixOf r then sz lo 2 uK r pd
 else if [36,123].isPrefixOf r then sz lo 2 (λl=>l.pm.named [36,123]) r pd
 else .ok () (r.drop 1) pd
def hG(t:Tok):Bool:=t== .op [40]||(match t with| .word w true=>q4 w|_=>false)
def hH(fr:Bool)(D:ak Unit):ak Unit:=cb (λ_=>ae (dF D) λb=>if b then aW (.inl ()) else ae (bQ []) λt=>match t with
 | .word _ _=>ae (cQ D) λ_=>aW (.inl ())
 | .op o=>if fr/\o=[40] then bK else aW (.inr ())
 |_=>aW (.inr ())) ()
def mf(fr:Bool)(lo:Option dU):ak Unit:=match lo with
 |none=>uJ
 |some l=>if l.has then
   (ae (b2 1) λ_=>ae (bQ [41,32,123,32,120,10,125]) λt=>if t= .eof then b7 [41,32,123,32,120,10,125] else if t= .op [41] then
    ae (b2 1) λ_=>ae (cU.aM [123,32,120,10,125]) λ_=>ae (bQ [123,32,120,10,125]) λt=>if t= .eof then b7 [123,32,120,10,125] else
     if hG t then ae (l.cp t) λ_=>if fr then l.rd else aW () else bK
    else bK).named [102,40,41]
  else uJ
def iP(l:dU)(x:aa):ak Unit:=ae ((cY gU).aM x) λ_=>ae ((l.ls .done false).aM (10::iO)) λ_=>cY iO
def q6(l:dU):ak Unit:=cb (λ_=>ae ((l.ls .rL false).aM ([10]++iX++[32,120,10]++fe)) λ_=>ae (cY iX) λ_=>ae ((l.ls .qo false).aM (10::fe)) λ_=>
    ae (bQ []) λt=>if cG t il then ae (cY il) λ_=>aW (.inl ()) else
     if cG t hR then ae (cY hR) λ_=>ae ((l.ls .jY false).aM (10::fe)) λ_=>ae (cY fe) λ_=>aW (.inr ()) else ae (cY fe) λ_=>aW (.inr ())) ()
def er:aa:=[10]++gU++[32,120,10]++iO
def tq:aa:=120::er
def pN(D:ak Unit):ak Unit:=cb (λ_=>ae (bQ []) λt=>match t with
 | .eof=>b7 []
 | .word _ _=>ae (cQ D) λ_=>aW (.inl ())
 | .line=>aW (.inr ())
 | .op o=>if o=[59] then ae (b2 1) λ_=>aW (.inr ()) else bK) ()
def pO(l:dU)(D:ak Unit):ak Unit:=ae (bQ tq) λt=>match t with
 | .eof=>b7 tq
 | .word w true=>if me w then ae (b2 w.length) λ_=>
   ae ((ae (bQ []) λt=>if t= .op [59] then ae (b2 1) λ_=>ae cU λ_=>aW () else
    ae cU λ_=>ae (bQ []) λt=>if cG t fB then ae (b2 2) λ_=>ae (pN D) λ_=>ae cU λ_=>aW () else aW ()).aM er) λ_=>iP l er
  else bK
 |_=>bK
def kZ(D:ak Unit):ak Unit:=cb (λ_=>ae (bQ [120,41]) λt=>match t with
 | .eof=>b7 [120,41]
 | .word _ _=>ae ((cQ D).aM [41]) λ_=>ae (bQ [41]) λt=>match t with
   | .eof=>b7 [41]
   | .op o=>if o=[124] then ae (b2 1) λ_=>aW (.inl ()) else if o=[41] then ae (b2 1) λ_=>aW (.inr ()) else bK
   |_=>bK
 |_=>bK) ()
def nA(l:dU)(D:ak Unit):ak Unit:=cb (λ_=>ae cU λ_=>ae (bQ []) λt=>if t= .eof then b7 [] else if cG t ev then ae (b2 4) λ_=>aW (.inr ()) else
 ae ((if t= .op [40] then b2 1 else aW ())) λ_=>ae (kZ D) λ_=>ae (l.ls .item true) λ_=>ae (bQ []) λt=>if t= .op [59,59] then ae (b2 2) λ_=>aW (.inl ()) else aW (.inl ())) ()
def q7(l:dU)(D:ak Unit):ak Unit:=ae (bQ ([120,32]++fB++[10]++ev)) λt=>match t with
 | .eof=>b7 ([120,32]++fB++[10]++ev)
 | .word _ _=>ae ((ae (cQ D) λ_=>ae cU λ_=>ae (bQ []) λt=>if t= .eof then b7 [] else aW t).aM ([32]++fB++[10]++ev)) λt=>
  if cG t fB then ae (b2 2) λ_=>(nA l D).aM (10::ev) else bK
 |_=>bK
def hS(l:dU)(t:Tok):ak Unit:=match t with
 | .op _=>ae (b2 1) λ_=>ae ((l.ls .paren false).aM [41]) λ_=>jR [41]
 | .word w _=>ae (b2 w.length) λ_=>
  if w=[123] then ae ((l.ls .q5 false).aM [10,125]) λ_=>cY [125]
  else if w=m_ then q6 l
  else if w=ny then pO l l.dl
  else if w=pL then q7 l l.dl
  else ae ((l.ls .pM false).aM er) λ_=>iP l er
 |_=>bK
def mH:Tok->aa
 | .word w _=>w
 |_=>[40]
def sA(lo:Option dU)(t:Tok):ak Unit:=match lo with
 |none=>uJ
 |some l=>(hS l t).named (mH t)
def gm(fr:Bool)(lo:Option dU)(D:ak Unit):ak Unit:=ae (bQ [120]) λt=>
 if t= .eof then b7 [120] else if hG t then ae (sA lo t) λ_=>gV D else match t with
  | .op o=>if e2 o then ae (dF D) λ_=>hH fr D else bK
  | .word w p=>if p&&rK w then bK else ae (dF D) λb=>if b then hH fr D else ae (cQ D) λ_=>
   if p&&me w then ae (bQ []) λt=>if t= .op [40] then ae (mf fr lo) λ_=>if fr then aW () else gV D else hH fr D else hH fr D
  |_=>bK
def fu(df:ak Unit):ak Unit:=ae (bQ [120]) λt=>ae (if cG t [33] then b2 1 else aW ()) λ_=>ae df λ_=>
 cb (λ_=>ae (bQ []) λt=>if t= .op [124] then ae (b2 1) λ_=>ae (cU.aM [120]) λ_=>ae df λ_=>aW (.inl ()) else aW (.inr ())) ()
def hs(a:ak Unit):ak Unit:=ae a λ_=>
 cb (λ_=>ae (bQ []) λt=>if t= .op [38,38]\/t= .op [124,124] then ae (b2 2) λ_=>ae (cU.aM [120]) λ_=>ae a λ_=>aW (.inl ()) else aW (.inr ())) ()
def oz(ao:ak Unit)(c:Ctx)(none:Bool):ak Nat:=ae (cU.aM (if none then [] else [120])) λ_=>cb (λn=>ae (bQ (if none||n>0 then [] else [120])) λt=>
 if t= .eof then(if c= .text then aW (.inr n) else b7 (if none||n>0 then [] else [120])) else if(none||n>0)&&dT c t then aW (.inr n) else
 ae ao λ_=>ae (bQ []) λt=>match t with
  | .eof=>aW (.inl (n+1))
  | .line=>ae cU λ_=>aW (.inl (n+1))
  | .word _ _=>bK
  | .op o=>if o=[59]\/o=[38] then ae (b2 1) λ_=>ae cU λ_=>aW (.inl (n+1)) else if dT c t then aW (.inr (n+1)) else bK) 0
def a1(fr:Bool):Nat->dU
 |0=>let D:=dM none;{ls:=oz (hs (fu (gm fr none D))),pm:=q3 D,cp:=sA none,rd:=gV D,dl:=D,has:=false}
 |n+1=>let lo:=some (a1 fr n);let D:=dM lo;{ls:=oz (hs (fu (gm fr lo D))),pm:=q3 D,cp:=sA lo,rd:=gV D,dl:=D,has:=true}
def hT(fr:Bool)(n:Nat)(r:aa):dw Nat:=(a1 fr n).ls .text true r []
def dx(u:aa):Prop:=u=[]\/∃t,u=t++[10]
theorem dx.tail{b:UInt8}{t:aa}(h:dx (b::t)):dx t:=by
 rcases h with h|⟨s,h⟩
 ·cases h
 ·cases s with
  |nil=>simp at h;exact .inl h.2
  |cons c s=>simp at h;exact .inr ⟨s,h.2⟩
theorem dx.head{b:UInt8}(h:dx [b]):b=10:=by
 rcases h with h|⟨s,h⟩
 ·cases h
 ·cases s with
  |nil=>grind
  |cons c s=>simp at h
theorem dx.ne{b:UInt8}{t:aa}(h:dx (b::t))(a:b≠10):t≠[]:=by rintro rfl;exact a h.head
theorem dx.sfx{u r:aa}(h:dx u)(a:r<:+u):dx r:=by
 obtain⟨p,rfl⟩:=a;induction p with
 |nil=>exact h
 |cons b p c=>exact c h.tail
structure ar{α:Type}(f:ak α):Prop where
 sfx:∀{r:aa}{pd:aq}{a:α}{r':aa}{aG:aq},f r pd= .ok a r' aG->r'<:+r
 ok:∀{u:aa}{pd:aq}{a:α}{r':aa}{aG:aq}(v:aa),dx u->f u pd= .ok a r' aG->r'≠[]->f (u++v) pd= .ok a (r'++v) aG
 bad:∀{u:aa}{pd:aq}{r':aa}(v:aa),dx u->f u pd= .bad r'->r'≠[]/\r'<:+u/\f (u++v) pd= .bad (r'++v)
 deep:∀{u:aa}{pd:aq}{r':aa}(v:aa),dx u->f u pd= .deep r'->r'≠[]/\r'<:+u/\f (u++v) pd= .deep (r'++v)
 nil:∀(pd:aq),(∃op nd ds,f [] pd= .more op nd ds)\/∃a,f [] pd= .ok a [] pd
theorem ar.ret{α:Type}(a:α):ar (aW a) where
 sfx h:=by cases h;simp
 ok v _ h _:=by cases h;rfl
 bad v _ h:=by cases h
 deep v _ h:=by cases h
 nil pd:= .inr ⟨a,rfl⟩
theorem ar.ae{α β:Type}{m:ak α}{k:α->ak β}(hm:ar m)(hk:∀a,ar (k a)):ar (ae m k) where
 sfx {r pd b r' l} h:=by
  unfold Go.Eng.ae at h;split at h
  ·rename_i a r1 c ad;exact List.IsSuffix.trans ((hk a).sfx h) (hm.sfx ad)
  all_goals cases h
 ok {u pd b r' l} v hu h n:=by
  unfold Go.Eng.ae at h⊢;split at h
  ·rename_i a r1 c ad;by_cases e:r1=[]
   ·subst e;rcases(hk a).nil c with⟨op,nd,ds,d⟩|⟨j,d⟩
    ·grind
    grind
   ·rw[hm.ok v hu ad e];exact(hk a).ok v (hu.sfx (hm.sfx ad)) h n
  all_goals cases h
 bad {u pd r'} v hu h:=by
  unfold Go.Eng.ae at h⊢;split at h
  ·rename_i a r1 c ad;by_cases e:r1=[]
   ·subst e;rcases(hk a).nil c with⟨op,nd,ds,d⟩|⟨j,d⟩<;>(grind)
   ·rw[hm.ok v hu ad e];obtain⟨f,g,i⟩:=(hk a).bad v (hu.sfx (hm.sfx ad)) h;exact⟨f,g.trans (hm.sfx ad),i⟩
  ·cases h
  ·rename_i r1 ad;cases h;obtain⟨f,g,i⟩:=hm.bad v hu ad;grind
  grind
 deep {u pd r'} v hu h:=by
  unfold Go.Eng.ae at h⊢;split at h
  ·rename_i a r1 c ad;by_cases e:r1=[]
   ·subst e;rcases(hk a).nil c with⟨op,nd,ds,d⟩|⟨j,d⟩<;>(grind)
   ·rw[hm.ok v hu ad e];obtain⟨f,g,i⟩:=(hk a).deep v (hu.sfx (hm.sfx ad)) h;exact⟨f,g.trans (hm.sfx ad),i⟩
  ·cases h
  ·cases h
  ·rename_i r1 ad;cases h;obtain⟨f,g,i⟩:=hm.deep v hu ad;grind
 nil pd:=by
  unfold Go.Eng.ae;rcases hm.nil pd with⟨op,nd,ds,h⟩|⟨a,h⟩
  ·simp_all
  simp_all[nil]
theorem ar.XB{α:Type}{m c:ak α}(hm:ar m)(h:∀r pd,c r pd=m r pd\/∃op nd ds d f g,m r pd= .more op nd ds/\c r pd= .more d f g):ar c where
 sfx {r pd a r' i} e:=by
  rcases h r pd with ad|⟨_,_,_,_,_,_,ad,b⟩
  ·exact hm.sfx (ad▸e)
  grind
 ok {u pd a r' i} v hu e j:=by
  rcases h u pd with ad|⟨_,_,_,_,_,_,ad,b⟩
  ·have:=hm.ok v hu (ad▸e) j;grind
  grind
 bad {u pd r'} v hu e:=by
  rcases h u pd with ad|⟨_,_,_,_,_,_,ad,b⟩
  ·obtain⟨k,l,this⟩:=hm.bad v hu (ad▸e);grind
  grind
 deep {u pd r'} v hu e:=by
  rcases h u pd with ad|⟨_,_,_,_,_,_,ad,b⟩
  ·obtain⟨k,l,this⟩:=hm.deep v hu (ad▸e);grind
  grind
 nil pd:=by
  rcases h [] pd with ad|⟨_,_,_,_,_,_,ad,b⟩
  ·rw[ad];exact hm.nil pd
  grind
theorem ar.aM{α:Type}{m:ak α}(hm:ar m)(x:aa):ar (m.aM x):=hm.XB λr pd=>by unfold ak.aM;grind
theorem ar.named{α:Type}{m:ak α}(hm:ar m)(x:aa):ar (m.named x):=hm.XB λr pd=>by unfold ak.named;grind
theorem ar.b7{α:Type}(x:aa):ar (b7 x:ak α) where
 sfx h:=by cases h
 ok v _ h _:=by cases h
 bad v _ h:=by cases h
 deep v _ h:=by cases h
 nil pd:= .inl ⟨_,_,_,rfl⟩
theorem qp{σ α:Type}(f:σ->ak (σ⊕α))(s:σ)(r:aa)(pd:aq):cb f s r pd=match f s r pd with
 | .ok (.inl s') r' b=>if r'.length<r.length then cb f s' r' b else .bad r'
 | .ok (.inr a) r' b=> .ok a r' b
 | .more op nd ds=> .more op nd ds
 | .bad r=> .bad r
 | .deep r=> .deep r:=by
 grind[cb]
structure iD{σ α:Type}(f:σ->ak (σ⊕α)):Prop where
 ex:∀s,ar (f s)
 lt:∀{s:σ}{r:aa}{pd:aq}{s':σ}{r':aa}{aG:aq},f s r pd= .ok (.inl s') r' aG->r'.length<r.length
theorem ar.rep{σ α:Type}{f:σ->ak (σ⊕α)}(h:iD f)(s:σ):ar (cb f s):=by
 have nil:∀s (pd:aq),(∃op nd ds,cb f s [] pd= .more op nd ds)\/∃a,cb f s [] pd= .ok a [] pd:=by
  intro s pd;rw[qp];rcases(h.ex s).nil pd with⟨op,nd,ds,e⟩|⟨a,e⟩
  ·simp_all
  ·rw[e];cases a with
   |inl s'=>exact absurd (h.lt e) (by simp)
   |inr a=>simp
 have sfx:∀(n:Nat)(s:σ)(r:aa)(pd:aq)(a:α)(r':aa)(d:aq),r.length<=n->cb f s r pd= .ok a r' d->r'<:+r:=by
  intro n;induction n with
  |zero=>
   intro s r pd a r' d ax e;have:r=[]:=nH.1 (by omega);subst this;rcases nil s pd with⟨op,nd,ds,q⟩|⟨a,q⟩<;>rw[q] at e<;>cases e
   simp
  |succ n i=>
   intro s r pd a r' d ax e;rw[qp] at e;split at e
   ·rename_i s1 r1 g b;rw[bo (h.lt b)] at e;have:=h.lt b;exact(i s1 r1 g a r' d (by omega) e).trans ((h.ex s).sfx b)
   ·rename_i b;cases e;exact(h.ex s).sfx b
   all_goals cases e
 have c:∀(n:Nat)(s:σ)(u:aa)(pd:aq)(v:aa),u.length<=n->dx u->
   (∀a r' d,cb f s u pd= .ok a r' d->r'≠[]->cb f s (u++v) pd= .ok a (r'++v) d)/\
   (∀r',cb f s u pd= .bad r'->r'≠[]/\r'<:+u/\cb f s (u++v) pd= .bad (r'++v))/\
   (∀r',cb f s u pd= .deep r'->r'≠[]/\r'<:+u/\cb f s (u++v) pd= .deep (r'++v)):=by
  intro n;induction n with
  |zero=>
   intro s u pd v ax hu;have:u=[]:=nH.1 (by omega);subst this;rcases nil s pd with⟨op,nd,ds,q⟩|⟨a,q⟩<;>rw[q]<;>refine⟨?_,?_,?_⟩
   ·simp
   ·simp
   ·simp
   ·simp
   ·simp
   simp
  |succ n i=>
   intro s u pd v ax hu;rw[qp f s u pd];cases b:f s u pd with
   |ok x r1 g=>
    cases x with
    |inl s1=>
     simp only[h.lt b,cD];by_cases o:r1=[]
     ·subst o;rcases nil s1 g with⟨op,nd,ds,q⟩|⟨a,q⟩<;>rw[q]<;>refine⟨?_,?_,?_⟩
      ·simp
      ·simp
      ·simp
      ·simp
      ·simp
      simp
     ·have p:=(h.ex s).ok v hu b o;have j:=(h.ex s).sfx b;obtain⟨t,k,l⟩:=i s1 r1 g v (by have:=h.lt b;omega) (hu.sfx j);have w:cb f s (u++v) pd=cb f s1 (r1++v) g:=by rw[qp f s (u++v) pd,p];simp only[h.lt p,cD]
      rw[w];exact⟨t,λr' e=>⟨(k r' e).1,(k r' e).2.1.trans j,(k r' e).2.2⟩,λr' e=>⟨(l r' e).1,(l r' e).2.1.trans j,(l r' e).2.2⟩⟩
    |inr a=>
     refine⟨?_,?_,?_⟩
     ·intro B r' d e m;cases e;rw[qp,(h.ex s).ok v hu b m]
     ·simp
     simp
   |more op nd ds=>simp
   |bad r1=>refine⟨λ_ _ _ e=>(by cases e),λr' e=>?_,λ_ e=>(by cases e)⟩;cases e;obtain⟨y,z,A⟩:=(h.ex s).bad v hu b;grind[qp]
   |deep r1=>refine⟨λ_ _ _ e=>(by cases e),λ_ e=>(by cases e),λr' e=>?_⟩;cases e;obtain⟨y,z,A⟩:=(h.ex s).deep v hu b;grind[qp]
 exact⟨λe=>sfx _ s _ _ _ _ _ (cX _) e,λv hu e m=>(c _ s _ _ v (cX _) hu).1 _ _ _ e m,λv hu e=>(c _ s _ _ v (cX _) hu).2.1 _ e,λv hu e=>(c _ s _ _ v (cX _) hu).2.2 _ e,nil s⟩
theorem Md{o:aa}:∀{r:aa}(v:aa),10∉o->dx r->r≠[]->o.isPrefixOf (r++v)=o.isPrefixOf r:=by
 induction o with
 |nil=>simp
 |cons c o d=>
  intro r v e a ax;cases r with
  |nil=>grind
  |cons b t=>
   simp only[gX,List.isPrefixOf];by_cases f:b=10
   ·grind
   ·rw[d v (λh=>e (Br _ h)) a.tail (a.ne f)]
theorem RL{r:aa}(v:aa)(a:dx r)(ax:r≠[]):bs (r++v)=bs r:=by
 unfold bs;congr 1
 have:∀(l:bt),(∀o∈l,(10:UInt8)∉o)->l.find? (λo=>o.isPrefixOf (r++v))=l.find? (λo=>o.isPrefixOf r):=by
  intro l;induction l with
  |nil=>simp
  |cons o l b=>grind[Md,List.mem_cons_self,List.mem_cons_of_mem]
 simp_all[lq]
theorem IQ{r:aa}(v:aa)(a:dx r)(ax:r≠[]):c3 (r++v)=c3 r:=by
 cases r with
 |nil=>grind
 |cons b t=>grind[RL,c3]
theorem RM{r:aa}(v:aa)(c:dx r)(ax:r≠[]):gb (r++v)=gb r:=by
 match r,c,ax with
 |[b],c,_=>rw[c.head];rfl
 |a::b::t,c,_=>simp only[gX];unfold gb;grind
theorem Me(t:aa):c3 (10::t)=true:=by rfl
theorem XC:∀{r:aa}(v:aa),dx r->r≠[]->c8 (r++v)=c8 r
 |[],_,_,ax=>absurd rfl ax
 |b::t,v,a,ax=>by
  have ad:=IQ v a ax;have c:=RM v a ax;simp only[gX] at ad c;simp only[gX,c8,ad,c];by_cases d:b=10
  ·subst d;simp[Me]
  ·rw[XC v a.tail (a.ne d)]
theorem Fh{r:aa}(v:aa)(a:dx r)(ax:r≠[]):av (r++v)=av r:=by
 cases r with
 |nil=>grind
 |cons b t=>grind[RL,XC,av]
theorem Fi:∀(r:aa),lp r<:+r
 |[]=>sZ _
 |b::t=>by
  unfold lp;split
  ·exact sZ _
  ·exact(Fi t).trans (ee _ _)
theorem XD:∀{r:aa},dx r->r≠[]->lp r≠[]
 |[],_,ax=>absurd rfl ax
 |b::t,a,_=>by
  unfold lp;split
  ·simp
  ·rename_i c;exact XD a.tail (a.ne c)
theorem XE:∀{r:aa}(v:aa),dx r->r≠[]->lp (r++v)=lp r++v
 |[],_,_,ax=>absurd rfl ax
 |b::t,v,a,_=>by
  simp only[gX];rw[lp,lp];split
  ·rfl
  ·rename_i c;exact XE v a.tail (a.ne c)
theorem nX(b:UInt8)(t:aa):bx (b::t)=(if ga b then bx t else if b=35 then bx (lp t) else
  if b=92 then match t with
   |10::u=>if u=[] then none else bx u
   |_=>some (b::t)
  else some (b::t)):=by
 grind[bx.eq_def]
theorem mg:bx []=some []:=by rw[bx]
theorem XF:∀(n:Nat)(r:aa)(v:aa),r.length<=n->(∀r',bx r=some r'->r'<:+r/\(dx r->r≠[]->r'≠[]/\bx (r++v)=some (r'++v))):=by
 intro n;induction n with
 |zero=>intro r v ax r' h;have:r=[]:=nH.1 (by omega);subst this;rw[mg] at h;cases h;exact⟨sZ _,λ_ h=>absurd rfl h⟩
 |succ n i=>
  intro r v ax r' h;cases r with
  |nil=>rw[mg] at h;cases h;exact⟨sZ _,λ_ h=>absurd rfl h⟩
  |cons b t=>
   simp only[mA] at ax;rw[nX] at h;have f:bx (b::t++v)=_:=nX b (t++v);split at h
   ·rename_i d;obtain⟨ad,e⟩:=i t v (by omega) r' h;refine⟨ad.trans (ee _ _),λa _=>?_⟩;have j:b≠10:=by rintro rfl;grind[ga]
    rw[f,bo d];exact e a.tail (a.ne j)
   ·rename_i d;split at h
    ·rename_i g;subst g;obtain⟨ad,e⟩:=i (lp t) v (by grind[AM]) r' h;refine⟨ad.trans ((Fi t).trans (ee _ _)),λa _=>?_⟩;rw[f,aS d,bo rfl,XE v a.tail (a.ne (by decide))];exact e (a.tail.sfx (Fi t)) (XD a.tail (a.ne (by decide)))
    ·rename_i g;split at h
     ·rename_i k;subst k;split at h
      ·rename_i u;split at h
       ·cases h
       ·rename_i hu;obtain⟨ad,e⟩:=i u v (by grind) r' h;refine⟨ad.trans ((ee _ _).trans (ee _ _)),λa _=>?_⟩;rw[f,aS d,aS g,bo rfl];simp only[gX];rw[aS (by simp[hu])];exact e a.tail.tail hu
      ·rename_i hu;cases h;refine⟨sZ _,λa l=>⟨l,?_⟩⟩;rw[f,aS d,aS g,bo rfl];cases t with
       |nil=>exact absurd a.head (by decide)
       |cons c u=>simp_all
     grind
theorem dV{r r':aa}(h:bx r=some r'):r'<:+r:=(XF _ r [] (cX _) r' h).1
theorem ts{r r':aa}(v:aa)(h:bx r=some r')(a:dx r)(ax:r≠[]):r'≠[]/\bx (r++v)=some (r'++v):=(XF _ r v (cX _) r' h).2 a ax
theorem ai1{r:aa}(h:r<:+[]):r=[]:=List.suffix_nil.1 h
theorem ar.dJ(x:aa):ar (bQ x) where
 sfx {r pd a r' d} h:=by
  unfold bQ at h;split at h
  ·cases h
  grind[dV]
 ok {u pd a r' d} v hu h c:=by
  unfold bQ at h⊢;split at h
  ·cases h
  ·rename_i q b;cases h;have ax:u≠[]:=by rintro rfl;exact c (ai1 (dV b))
   rw[(ts v b hu ax).2];simp only[Fh v (hu.sfx (dV b)) c]
 bad v _ h:=by unfold bQ at h;split at h<;>cases h
 deep v _ h:=by unfold bQ at h;split at h<;>cases h
 nil pd:=by unfold bQ;rw[mg];exact .inr ⟨_,rfl⟩
theorem ar.dm(n:Nat):ar (b2 n) where
 sfx h:=by cases h;simp[lP]
 ok {u pd a r' b} v _ h c:=by
  cases h;have:n<=u.length:=by grind[Nat.lt_or_ge,absurd,List.drop_eq_nil_of_le,Nat.le_of_lt]
  grind[b2]
 bad v _ h:=by cases h
 deep v _ h:=by cases h
 nil pd:= .inr ⟨(),by simp[b2]⟩
theorem ar.ite{α:Type}{c:Prop}[Decidable c]{f g:ak α}(hf:ar f)(bf:ar g):ar (if c then f else g):=by grind
theorem IS:∀(r:aa)(v:aa)(q:aa),gd r=some q->q<:+r/\gd (r++v)=some (q++v)
 |[],v,q,h=>by grind[gd]
 |b::t,v,q,h=>by
  rw[gd] at h;simp only[gX];rw[gd];split at h
  ·grind
  ·rename_i a;obtain⟨ad,c⟩:=IS t v q h;grind
theorem ai2:∀(n:Nat)(r:aa)(v:aa)(q:aa),r.length<=n->g4 r=some q->q<:+r/\g4 (r++v)=some (q++v):=by
 intro n;induction n with
 |zero=>grind[List.length_eq_zero_iff,g4]
 |succ n d=>
  intro r v q ax h
  match r,ax,h with
  |[],_,h=>grind[g4]
  |[b],ax,h=>grind[g4,List.suffix_cons,g4.eq_def]
  |b::c::t,ax,h=>
   simp only[mA] at ax;by_cases g:b=96
   ·grind[g4,List.suffix_cons]
   ·by_cases e:b=92
    ·subst e;have a:g4 t=some q:=by grind[g4]
     obtain⟨ad,f⟩:=d t v q (by omega) a;grind[List.suffix_cons,trans,g4]
    ·have a:g4 (c::t)=some q:=by grind[g4]
     obtain⟨ad,f⟩:=d (c::t) v q (by grind) a;grind[List.suffix_cons,g4]
theorem ar.to{f:aa->Option aa}(n:aa)(hf:∀r v q,f r=some q->q<:+r/\f (r++v)=some (q++v))(h0:f []=none):ar (jx f n) where
 sfx {r pd a r' b} h:=by
  unfold jx at h;split at h
  ·rename_i q c;cases h;exact(hf r [] _ c).1
  grind
 ok {u pd a r' b} v _ h d:=by
  unfold jx at h⊢;split at h
  ·grind
  grind
 bad v _ h:=by unfold jx at h;split at h<;>cases h
 deep v _ h:=by unfold jx at h;split at h<;>cases h
 nil pd:=by unfold jx;rw[h0];exact .inl ⟨_,_,_,rfl⟩
def mJ{α:Type}(f:ak α):Prop:=∀{r:aa}{pd:aq}{a:α}{r':aa}{b:aq},r≠[]->f r pd= .ok a r' b->r'.length<r.length
def fO{σ α:Type}(f:ak (σ⊕α)):Prop:=∀{r:aa}{pd:aq}{s:σ}{r':aa}{a:aq},r≠[]->f r pd= .ok (.inl s) r' a->r'.length<r.length
def iY{σ α:Type}(f:ak (σ⊕α)):Prop:=∀{pd:aq}{s:σ}{r':aa}{a:aq},f [] pd≠ .ok (.inl s) r' a
theorem b3{α β:Type}{m:ak α}{k:α->ak β}{r:aa}{pd:aq}{b:β}{r':aa}{c:aq}(h:ae m k r pd= .ok b r' c):∃a r1 d,m r pd= .ok a r1 d/\k a r1 d= .ok b r' c:=by grind[ae]
theorem aZ{α β:Type}{m:ak α}{k:α->ak β}{r:aa}{pd:aq}{a:α}{r1:aa}{b:aq}(h:m r pd= .ok a r1 b):ae m k r pd=k a r1 b:=by grind[ae]
theorem jC{α:Type}{m:ak α}{x r:aa}{pd:aq}{a:α}{r':aa}{b:aq}:m.aM x r pd= .ok a r' b↔m r pd= .ok a r' b:=by grind[ak.aM]
theorem CN{α:Type}{m:ak α}{x r:aa}{pd:aq}{a:α}{r':aa}{b:aq}:m.named x r pd= .ok a r' b↔m r pd= .ok a r' b:=by grind[ak.named]
theorem iD.of{σ α:Type}{f:σ->ak (σ⊕α)}(h:∀s,ar (f s))(ad:∀s,fO (f s))(b:∀s,iY (f s)):iD f:=⟨h,λ{s r pd s' r' c} e=>by
 by_cases a:r=[]
 ·subst a;exact absurd e (b s)
 ·exact ad s a e⟩
theorem xh{r r':aa}(h:r'<:+r):r'.length<=r.length:=h.length_le
theorem l2{r:aa}:av r= .eof↔r=[]:=by
 cases r with
 |nil=>decide
 |cons b t=>simp only[av,reduceCtorEq,iff_false];grind
theorem nB{x r:aa}{pd:aq}{t:Tok}{r':aa}{a:aq}(h:bQ x r pd= .ok t r' a):bx r=some r'/\t=av r'/\a=pd:=by
 unfold bQ at h;split at h
 ·cases h
 grind
theorem fO.dJ{σ α:Type}{x:aa}{k:Tok->ak (σ⊕α)}(h:∀t,t≠ .eof->fO (k t))(h0:iY (k .eof)):fO (ae (bQ x) k):=by
 intro r pd s r' c d e;obtain⟨t,r1,f,ad,a⟩:=b3 e;obtain⟨b,rfl,rfl⟩:=nB ad;have hl:=xh (dV b);by_cases ax:r1=[]
 ·subst ax;exact absurd a h0
 ·have:=h (av r1) (λhe=>ax (l2.1 he)) ax a;omega
theorem iY.dJ{σ α:Type}{x:aa}{k:Tok->ak (σ⊕α)}(h:iY (k .eof)):iY (ae (bQ x) k):=by intro pd s r' c e;obtain⟨t,r1,d,ad,b⟩:=b3 e;obtain⟨a,rfl,rfl⟩:=nB ad;rw[mg] at a;cases a;exact h b
theorem fO.inr{σ α:Type}(a:α):fO (aW (.inr a):ak (σ⊕α)):=by intro _ _ _ _ _ _ e;cases e
theorem iY.inr{σ α:Type}(a:α):iY (aW (.inr a):ak (σ⊕α)):=by intro _ _ _ _ e;cases e
theorem iY.more{σ α:Type}(x:aa):iY (b7 x:ak (σ⊕α)):=by intro _ _ _ _ e;cases e
theorem fO.bad{σ α:Type}:fO (bK:ak (σ⊕α)):=by intro _ _ _ _ _ _ e;cases e
theorem fO.CO{σ α β:Type}{m:ak β}{k:β->ak (σ⊕α)}(hm:mJ m)(hk:∀b,ar (k b)):fO (ae m k):=by intro r pd s r' d a e;obtain⟨t,r1,f,ad,c⟩:=b3 e;have:=hm a ad;have:=xh ((hk t).sfx c);omega
theorem fO.ite{σ α:Type}{c:Prop}[Decidable c]{f g:ak (σ⊕α)}(hf:fO f)(bf:fO g):fO (if c then f else g):=by grind
theorem mJ.dm(n:Nat):mJ (b2 (n+1)):=by
 intro r pd a r' c d e;cases e;cases r with
 |nil=>grind
 |cons b t=>grind
theorem XG:∀(r:aa),(iN r).2<:+r
 |[]=>sZ _
 |b::t=>by
  unfold iN;split
  ·exact ee _ _
  ·exact(XG t).trans (ee _ _)
theorem RN:∀{r:aa}(v:aa),dx r->r≠[]->iN (r++v)=((iN r).1,(iN r).2++v)
 |[],_,_,ax=>absurd rfl ax
 |b::t,v,a,_=>by
  simp only[gX];rw[iN,iN];split
  ·rfl
  ·rename_i c;rw[RN v a.tail (a.ne c)]
theorem CP(d:aa)(tabs:Bool)(b:UInt8)(t:aa):nx d tabs (b::t)=(if(if tabs then(iN (b::t)).1.dropWhile (· ==9) else(iN (b::t)).1)=d then some (iN (b::t)).2 else nx d tabs (iN (b::t)).2):=by rw[nx]
theorem RO(d:aa)(tabs:Bool):∀(n:Nat)(r v q:aa),r.length<=n->nx d tabs r=some q->q<:+r/\(dx r->nx d tabs (r++v)=some (q++v)):=by
 intro n;induction n with
 |zero=>grind[List.length_eq_zero_iff,nx]
 |succ n f=>
  intro r v q ax h;cases r with
  |nil=>grind[nx]
  |cons b t=>
   rw[CP] at h;have i:=Mc (b::t) (by simp);have c:=XG (b::t);by_cases aF:(if tabs then(iN (b::t)).1.dropWhile (· ==9) else(iN (b::t)).1)=d
   ·rw[bo aF] at h;cases h;refine⟨c,λa=>?_⟩;have e:=RN v a (by simp);simp_all[gX,CP,bo]
   ·rw[aS aF] at h;obtain⟨ad,g⟩:=f _ v q (by omega) h;refine⟨ad.trans c,λa=>?_⟩;have e:=RN v a (by simp);simp only[gX] at e⊢;rw[CP,e,aS aF];exact g (a.sfx c)
theorem vT:∀(ds:aq)(r v q:aa),mc ds r= .inl q->q<:+r/\(dx r->mc ds (r++v)= .inl (q++v))
 |[],r,v,q,h=>by cases h;exact⟨sZ _,λ_=>rfl⟩
 |d::ds,r,v,q,h=>by
  rw[mc] at h;split at h
  ·rename_i r1 ad;obtain⟨a,a2⟩:=RO d.1 d.2 _ r v r1 (cX _) ad;obtain⟨c,e⟩:=vT ds r1 v q h;refine⟨c.trans a,λb=>?_⟩;rw[mc,a2 b];exact e (b.sfx a)
  grind
theorem tu(b:UInt8)(t:aa)(pd:aq):jj (b::t) pd=(match mc pd t with| .inl r'=> .ok () r' []| .inr nd=> .more [[60,60]] nd []):=rfl
theorem ar.nl:ar jj where
 sfx {r pd a r' d} h:=by
  cases r with
  |nil=>cases h;simp
  |cons b t=>
   rw[tu] at h;split at h
   ·rename_i q c;cases h;exact(vT pd t [] _ c).1.trans (ee _ _)
   grind
 ok {u pd a r' d} v hu h e:=by
  cases u with
  |nil=>cases h;grind
  |cons b t=>
   rw[tu] at h;simp only[gX];rw[tu];split at h
   ·rename_i q c;cases h;rw[(vT pd t v _ c).2 hu.tail]
   grind
 bad {u pd r'} v _ h:=by
  cases u with
  |nil=>cases h
  |cons b t=>grind[tu]
 deep {u pd r'} v _ h:=by
  cases u with
  |nil=>cases h
  |cons b t=>grind[tu]
 nil pd:= .inr ⟨(),rfl⟩
theorem mJ.nl:mJ jj:=by
 intro r pd a r' d f e;cases r with
 |nil=>grind
 |cons b t=>
  rw[tu] at e;split at e
  ·rename_i q c;cases e;have:=xh (vT pd t [] _ c).1;grind
  grind
theorem iD.lines:iD (λ(some:Bool)=>ae (bQ []) λt=>if t= .line then ae jj λ_=>aW (.inl true) else aW (.inr some):Bool->ak (Bool⊕Bool)):=by
 refine iD.of (λs=>(ar.dJ _).ae λt=>ar.ite (ar.nl.ae λ_=>ar.ret _) (ar.ret _)) (λs=>fO.dJ (λt a=>fO.ite (fO.CO mJ.nl λ_=>ar.ret _) (fO.inr _)) ?_) (λs=>iY.dJ ?_)
 ·simp[cl,iY.inr]
 simp[cl,iY.inr]
theorem ar.lines:ar cU:=ar.rep iD.lines false
structure hU(D:ak Unit):Prop where
 ex:ar D
 lt:∀{r:aa}{pd:aq}{r':aa}{aG:aq},gb r=true->D r pd= .ok () r' aG->r'.length<r.length
theorem XH{t:aa}(v:aa):t.drop 1≠[]->(t++v).drop 1=t.drop 1++v:=by intro h;rw[DA];grind
theorem ar.tick:ar (jx g4 [96]):=ar.to _ (λr v q h=>ai2 _ r v q (cX _) h) (by decide)
theorem ar.single:ar (jx gd [39]):=ar.to _ (λr v q h=>IS r v q h) (by decide)
theorem ar.part{D:ak Unit}(hD:hU D){dq:Option (ak Unit)}(m:∀q∈dq,ar q):ar (cE D dq):=by
 have d:∀(b:UInt8)(t v:aa),dx (b::t)->∃(f:ak Unit)(g:aa->aa),ar f/\(∀pd,cE D dq (b::t) pd=f (g (b::t)) pd)/\(∀pd,cE D dq (b::t++v) pd=f (g (b::t)++v) pd\/g (b::t)=[]/\f=aW ())/\g (b::t)<:+b::t:=by
  intro b t v k;by_cases n:b=92
  ·refine⟨aW (),λr=>(r.drop 1).drop 1,ar.ret _,λpd=>by simp_all[cE,aW],λpd=>?_,(lP _ _).trans (lP _ _)⟩;by_cases ax:t.drop 1=[]
   ·grind
   ·left;simp only[gX,cE,n,cD,GJ,tW];rw[XH v ax];rfl
  ·by_cases x:b=96
   ·exact⟨jx g4 [96],λr=>r.drop 1,ar.tick,λpd=>by simp_all[cE],λpd=> .inl (by simp_all[cE]),lP _ _⟩
   ·have o:=RM v k (by simp);simp only[gX] at o;by_cases y:gb (b::t)=true
    ·exact⟨D,id,hD.ex,λpd=>by simp_all[cE],λpd=> .inl (by simp_all[cE]),sZ _⟩
    ·cases dq with
     |none=>exact⟨aW (),λr=>r.drop 1,ar.ret _,λpd=>by grind[cE,aW],λpd=> .inl (by grind[cE,aW]),lP _ _⟩
     |some q=>
      by_cases z:b=39
      ·exact⟨jx gd [39],λr=>r.drop 1,ar.single,λpd=>by grind[cE,gb],λpd=> .inl (by grind[cE,gb]),lP _ _⟩
      ·by_cases A:b=34
       ·exact⟨q,λr=>r.drop 1,m q rfl,λpd=>by grind[cE,gb],λpd=> .inl (by grind[cE,gb]),lP _ _⟩
       ·exact⟨aW (),λr=>r.drop 1,ar.ret _,λpd=>by grind[cE,aW],λpd=> .inl (by grind[cE,aW]),lP _ _⟩
 have sfx:∀(b:UInt8)(t:aa)(pd:aq)(r':aa)(j:aq),cE D dq (b::t) pd= .ok () r' j->r'<:+b::t:=by
  intro b t pd r' j h;unfold cE at h;simp only at h;split at h
  ·grind[List.drop_suffix,trans,List.suffix_cons]
  ·split at h
   ·exact(ar.tick.sfx h).trans (ee _ _)
   ·split at h
    ·exact hD.ex.sfx h
    ·cases dq with
     |none=>grind
     |some q=>
      simp only at h;split at h
      ·exact(ar.single.sfx h).trans (ee _ _)
      ·split at h
       ·exact((m q rfl).sfx h).trans (ee _ _)
       grind
 constructor
 ·intro r pd a r' j h;cases r with
  |nil=>cases h;simp
  |cons b t=>grind
 ·intro u pd a r' j v hu h k;cases u with
  |nil=>cases h;grind
  |cons b t=>
   obtain⟨f,g,ad,e,c,i⟩:=d b t v hu;rw[e] at h;rcases c pd with c|⟨l,rfl⟩
   ·rw[c];exact ad.ok v (hu.sfx i) h k
   ·rw[l] at h;cases h;grind
 ·intro u pd r' v hu h;cases u with
  |nil=>cases h
  |cons b t=>
   obtain⟨f,g,ad,e,c,i⟩:=d b t v hu;rw[e] at h;rcases c pd with c|⟨l,rfl⟩
   ·rw[c];obtain⟨p,s,w⟩:=ad.bad v (hu.sfx i) h;grind
   ·cases h
 ·intro u pd r' v hu h;cases u with
  |nil=>cases h
  |cons b t=>
   obtain⟨f,g,ad,e,c,i⟩:=d b t v hu;rw[e] at h;rcases c pd with c|⟨l,rfl⟩
   ·rw[c];obtain⟨p,s,w⟩:=ad.deep v (hu.sfx i) h;grind
   ·cases h
 ·intro pd;exact .inr ⟨(),rfl⟩
theorem mJ.part{D:ak Unit}(hD:hU D){dq:Option (ak Unit)}(c:∀q∈dq,ar q):mJ (cE D dq):=by
 intro r pd a r' d e h;cases r with
 |nil=>grind
 |cons b t=>
  unfold cE at h;simp only at h;split at h
  ·grind
  ·split at h
   ·have:=xh (ar.tick.sfx h);grind
   ·split at h
    ·exact hD.lt ‹_› h
    ·cases dq with
     |none=>grind
     |some q=>
      simp only at h;split at h
      ·have:=xh (ar.single.sfx h);grind
      ·split at h
       ·have:=xh ((c q rfl).sfx h);grind
       grind
theorem iD.bytes{α:Type}{stop:aa->Option (aa×α)}{part:ak Unit}(aB:ar part)(hl:mJ part)
  {f:Unit->ak (Unit⊕α)} (h0:∀pd,f () [] pd=b7 [] [] pd) (ad:∀b t pd,f () (b::t) pd=match stop (b::t) with
   |some q=> .ok (.inr q.2) q.1 pd
   |none=>ae part (λ_=>aW (.inl ())) (b::t) pd)
  (k:∀b t q,stop (b::t)=some q->q.1<:+b::t) (l:∀b t q v,dx (b::t)->stop (b::t)=some q->stop (b::t++v)=some (q.1++v,q.2)) (g:∀b t v,dx (b::t)->stop (b::t)=none->stop (b::t++v)=none):iD f:=by
 have d:ar (ae part (λ_=>aW (.inl ()):Unit->ak (Unit⊕α))):=aB.ae λ_=>ar.ret _;refine⟨λs=>?_,?_⟩
 ·constructor
  ·intro r pd a r' i h;cases r with
   |nil=>rw[h0] at h;cases h
   |cons b t=>
    rw[ad] at h;split at h
    ·grind
    ·exact d.sfx h
  ·intro u pd a r' i v hu h j;cases u with
   |nil=>rw[h0] at h;cases h
   |cons b t=>
    rw[ad] at h;have e:=ad b (t++v) pd;simp only[gX] at e⊢;rw[e];split at h
    ·grind
    ·rename_i c;have:=g b t v hu c;simp only[gX] at this;rw[this];exact d.ok v hu h j
  ·intro u pd r' v hu h;cases u with
   |nil=>rw[h0] at h;cases h
   |cons b t=>
    rw[ad] at h;have e:=ad b (t++v) pd;simp only[gX] at e⊢;rw[e];split at h
    ·cases h
    ·rename_i c;have:=g b t v hu c;simp only[gX] at this;rw[this];exact d.bad v hu h
  ·intro u pd r' v hu h;cases u with
   |nil=>rw[h0] at h;cases h
   |cons b t=>
    rw[ad] at h;have e:=ad b (t++v) pd;simp only[gX] at e⊢;rw[e];split at h
    ·cases h
    ·rename_i c;have:=g b t v hu c;simp only[gX] at this;rw[this];exact d.deep v hu h
  ·intro pd;exact .inl ⟨_,_,_,h0 pd⟩
 ·intro s r pd s' r' i h;cases r with
  |nil=>rw[h0] at h;cases h
  |cons b t=>
   rw[ad] at h;split at h
   ·cases h
   ·exact fO.CO hl (λ_=>ar.ret _) (by simp) h
theorem iD.AO(c:UInt8){part:ak Unit}(aB:ar part)(hl:mJ part):iD (λ(_:Unit)(r:aa)(pd:aq)=>(match r with
 |[]=>b7 [] r pd
 |b::t=>if b=c then .ok (.inr ()) t pd else(ae part λ_=>aW (.inl ())) r pd:dw (Unit⊕Unit))):=by
 refine iD.bytes (stop:=λr=>match r with|[]=>none|b::t=>if b=c then some (t,()) else none) aB hl (λ_=>rfl) (λb t pd=>?_) ?_ ?_ ?_
 ·grind
 ·simp
 ·simp
 simp
theorem ar.AO(c:UInt8){part:ak Unit}(aB:ar part)(hl:mJ part):ar (jk c part):=ar.rep (iD.AO c aB hl) ()
theorem ar.double{D:ak Unit}(hD:hU D):ar (eN D):=((ar.AO 34 (ar.part hD (by simp)) (mJ.part hD (by simp))).aM _).named _
theorem ar.yX{D:ak Unit}(hD:hU D):ar (cE D (some (eN D))):=ar.part hD λq a=>by grind[ar.double]
theorem mJ.yX{D:ak Unit}(hD:hU D):mJ (cE D (some (eN D))):=mJ.part hD λq a=>by grind[ar.double]
theorem ar.param{D:ak Unit}(hD:hU D):ar (q3 D):=(ar.AO 125 (ar.yX hD) (mJ.yX hD)).aM _
theorem iD.word{D:ak Unit}(hD:hU D):iD (λ(_:Unit)(r:aa)(pd:aq)=>(match r with
 |[]=>b7 [] r pd
 |_::_=>if c3 r then .ok (.inr ()) r pd else(ae (cE D (some (eN D))) λ_=>aW (.inl ())) r pd:dw (Unit⊕Unit))):=by
 refine iD.bytes (stop:=λr=>if c3 r then some (r,()) else none) (ar.yX hD) (mJ.yX hD) (λ_=>rfl) (λb t pd=>?_) ?_ ?_ ?_
 ·grind
 ·simp
 ·intro b t q v a h;split at h
  ·rename_i c;cases h;rw[IQ v a (by simp),bo c]
  grind
 ·intro b t v a h;split at h
  ·cases h
  ·rename_i c;rw[IQ v a (by simp),aS c]
theorem ar.word{D:ak Unit}(hD:hU D):ar (cQ D):=ar.rep (iD.word hD) ()
theorem vU{D:ak Unit}(hD:hU D){r:aa}{pd:aq}{r':aa}{a:aq}(f:r≠[])(c:c3 r=false)(h:cQ D r pd= .ok () r' a):r'.length<r.length:=by
 unfold cQ at h;rw[qp] at h;cases r with
 |nil=>grind
 |cons b t=>
  simp only[c,ew,cl] at h;split at h
  ·rename_i s1 r1 g ad;have d:=fO.CO (mJ.yX hD) (λ_=>ar.ret _) (by simp) ad;rw[bo d] at h;have:=xh ((ar.word hD).sfx h);omega
  ·rename_i ad;obtain⟨_,_,_,i,e⟩:=b3 ad;cases e
  all_goals cases h
theorem IU{b:UInt8}{t:aa}:(∃w p,av (b::t)= .word w p)->ga b=false->c3 (b::t)=false:=by grind[av,c3]
theorem XI:∀(n:Nat)(r:aa),r.length<=n->∀b t,bx r=some (b::t)->ga b=false:=by
 intro n;induction n with
 |zero=>simp[nH,mg]
 |succ n a=>
  intro r ax b t h;cases r with
  |nil=>grind
  |cons c u=>grind[List.length_cons,nX,AM]
theorem fO.Mf{σ α:Type}{D:ak Unit}(hD:hU D){x:aa}{k:Tok->ak (σ⊕α)}(h:∀t,t≠ .eof->(∀w p,t≠ .word w p)->fO (k t))(h0:iY (k .eof))
  (g:∀w p,∃(m:ak Unit)(k':Unit->ak (σ⊕α)),k (.word w p)=ae m k'/\(∀{r pd r' d},m r pd= .ok () r' d↔cQ D r pd= .ok () r' d)/\∀u,ar (k' u)):fO (ae (bQ x) k):=by
 intro r pd s r' d o e;obtain⟨t,r1,q,ad,a⟩:=b3 e;obtain⟨f,rfl,rfl⟩:=nB ad;have hl:=xh (dV f);cases r1 with
 |nil=>exact absurd a h0
 |cons b u=>
  by_cases c:∃w p,av (b::u)= .word w p
  ·have i:=IU c (XI _ _ (cX _) _ _ f);obtain⟨w,p,c⟩:=c;rw[c] at a;obtain⟨m,k',hk,hm,j⟩:=g w p;rw[hk] at a;obtain⟨_,v,y,l,n⟩:=b3 a;have:=vU hD (by simp) i (hm.1 l);have:=xh ((j ()).sfx n);omega
  ·have:=h (av (b::u)) (λhe=>by grind[l2]) (λw p he=>c ⟨w,p,he⟩) (by simp) a;omega
theorem ai3{r:aa}(v:aa){p:UInt8->Bool}(aB:p 10=false):dx r->r≠[]->r.dropWhile p≠[]/\(r++v).dropWhile p=r.dropWhile p++v:=by
 induction r with
 |nil=>simp
 |cons b t c=>
  intro a _;simp only[gX,ab6];cases e:p b with
  |false=>simp
  |true=>
   have d:b≠10:=by grind
   simpa using c a.tail (a.ne d)
theorem CQ{r:aa}{p:UInt8->Bool}:r.dropWhile p<:+r:=List.dropWhile_suffix _
theorem RP{r:aa}:(bs r).length<=r.length:=by
 unfold bs;cases h:lq.find? (λo=>o.isPrefixOf r) with
 |none=>simp
 |some o=>grind
theorem RQ{r:aa}:bs r<+:r:=by
 unfold bs;cases h:lq.find? (λo=>o.isPrefixOf r) with
 |none=>simp
 |some o=>grind
theorem ar.XJ:ar fJ where
 sfx {r pd a r' c} h:=by
  unfold fJ at h;split at h
  ·cases h
  ·rename_i q b;simp only at h;split at h
   ·cases h;exact((lP _ _).trans CQ).trans (dV b)
   grind[dV]
 ok {u pd a r' c} v hu h j:=by
  unfold fJ at h⊢;split at h
  ·cases h
  ·rename_i q b;simp only at h;by_cases ax:u=[]
   ·simp_all[mg,bs,lq,e2,absurd]
   ·obtain⟨d,e⟩:=ts v b hu ax;obtain⟨f,g⟩:=ai3 v (p:=cd) (by decide) (hu.sfx (dV b)) d;have i:=RL v ((hu.sfx (dV b)).sfx CQ) f;rw[e];simp only[g,i];split at h
    ·simp_all[bo,DA,RP]
    grind
 bad v _ h:=by
  unfold fJ at h;split at h
  ·cases h
  grind
 deep v _ h:=by
  unfold fJ at h;split at h
  ·cases h
  grind
 nil pd:=by simp[fJ,mg,bs,lq,e2]
theorem Mg(b:UInt8)(t:aa):eE (b::t)=(if b=34 then .closed [] t else if b=36\/b=96 then .part else
  if b=92 then match t with
   |[]=> .part
   |c::u=>(eE u).add (AN c)
  else(eE t).add [b]):=by
 grind[eE.eq_def]
def vV:jl->Prop
 | .closed o _=>(10:UInt8)∈o
 | .part=>True
 | .open_ o=>(10:UInt8)∈o
theorem vV.add{x:aa}{q:jl}(h:vV q):vV (q.add x):=by cases q<;>simp_all [vV,jl.add]
theorem vV.RR{x:aa}{q:jl}(h:(10:UInt8)∈x):vV (q.add x):=by cases q<;>simp_all [vV,jl.add]
theorem XK:∀(n:Nat)(r v:aa),r.length<=n->dx r->r≠[]->
  (∀o q,eE r= .closed o q->q<:+r/\eE (r++v)= .closed o (q++v))/\(eE r= .part->eE (r++v)= .part)/\(∀o,eE r= .open_ o->10∈o->vV (eE (r++v))):=by
 intro n;induction n with
 |zero=>grind
 |succ n k=>
  intro r v ax d bc;cases r with
  |nil=>grind
  |cons b t=>
   simp only[mA] at ax;simp only[gX];rw[Mg,Mg];by_cases l:b=34
   ·simp_all
   by_cases aB:b=36\/b=96
   ·grind
   by_cases m:b=92
   ·subst m;simp only[l,aB,cD,cl];cases t with
    |nil=>exact absurd d.head (by decide)
    |cons c u=>
     simp only[gX];by_cases hu:u=[]
     ·grind[eE,jl.add,AN]
     ·obtain⟨f,g,j⟩:=k u v (by grind) d.tail.tail hu;refine⟨?_,?_,?_⟩
      ·intro o q e;cases a:eE u<;>rw[a] at e<;>simp[jl.add] at e;obtain⟨rfl,rfl⟩:=e;obtain⟨h,i⟩:=f _ _ a;exact⟨h.trans ((ee _ _).trans (ee _ _)),by rw[i];rfl⟩
      ·intro e;cases a:eE u<;>rw[a] at e<;>simp[jl.add] at e;rw[g a];rfl
      ·intro o e he;cases a:eE u<;>rw[a] at e<;>simp[jl.add] at e;subst e;rcases l3.1 he with he|he
       ·grind[vV.RR]
       ·exact(j _ a he).add
   ·simp only[l,aB,m,cl];by_cases p:b=10
    ·subst p;by_cases s:t=[]
     ·grind[eE,jl.add,vV.RR]
     ·obtain⟨f,g,j⟩:=k t v (by omega) d.tail s;refine⟨?_,?_,?_⟩
      ·intro o q e;cases a:eE t<;>rw[a] at e<;>simp[jl.add] at e;obtain⟨rfl,rfl⟩:=e;obtain⟨h,i⟩:=f _ _ a;exact⟨h.trans (ee _ _),by rw[i];rfl⟩
      ·intro e;cases a:eE t<;>rw[a] at e<;>simp[jl.add] at e;rw[g a];rfl
      simp[vV.RR]
    ·obtain⟨f,g,j⟩:=k t v (by omega) d.tail (d.ne p);refine⟨?_,?_,?_⟩
     ·intro o q e;cases a:eE t<;>rw[a] at e<;>simp[jl.add] at e;obtain⟨rfl,rfl⟩:=e;obtain⟨h,i⟩:=f _ _ a;exact⟨h.trans (ee _ _),by rw[i];rfl⟩
     ·intro e;cases a:eE t<;>rw[a] at e<;>simp[jl.add] at e;rw[g a];rfl
     ·intro o e he;cases a:eE t<;>rw[a] at e<;>simp[jl.add] at e;subst e;rcases kc.1 he with he|he
      ·grind
      ·exact(j _ a he).add
theorem Fj(b:UInt8)(t:aa):dt (b::t)=(if c3 (b::t) then some ([],b::t,[]) else
  if b=92 then match t with
   |[]=>none
   |c::u=>(dt u).map λq=>((if c=10 then [] else [c])++q.1,q.2)
  else if b=39 then match gd t with
   |none=>none
   |some r=>(dt r).map λq=>(t.take (t.length-r.length-1)++q.1,q.2)
  else if b=36\/b=96 then none else
  if b=34 then match eE t with
   | .part=>none
   | .open_ o=>some (o,[],[34])
   | .closed o r=>(dt r).map λq=>(o++q.1,q.2)
  else(dt t).map λq=>(b::q.1,q.2)):=by
 grind[dt.eq_def]
def sB(x:Option (aa×aa×aa)):Prop:=x=none\/∃d q c,x=some (d,q,c)/\(10:UInt8)∈d
theorem sB.map{x:Option (aa×aa×aa)}{f:aa->aa}(h:sB x)(hf:∀d,(10:UInt8)∈d->(10:UInt8)∈f d):sB (x.map λq=>(f q.1,q.2)):=by
 rcases h with rfl|⟨d,q,c,rfl,aE⟩
 ·exact .inl rfl
 ·exact .inr ⟨_,_,_,rfl,hf d aE⟩
theorem sB.Mh{x:Option (aa×aa×aa)}{f:aa->aa}(hf:∀d,(10:UInt8)∈f d):sB (x.map λq=>(f q.1,q.2)):=by
 cases x with
 |none=>exact .inl rfl
 |some q=>exact .inr ⟨_,_,_,rfl,hf _⟩
theorem ai4:∀{t:aa}(v q:aa),gd t=none->gd (t++v)=some q->(t++v).take ((t++v).length-q.length-1)=t++(v.take (v.length-q.length-1)):=by
 intro t;induction t with
 |nil=>simp
 |cons b t c=>
  intro v q ad a;rw[gd] at ad;simp only[gX] at a⊢;rw[gd] at a;split at ad
  ·cases ad
  ·rename_i d;rw[aS d] at a;have:=c v q ad a;have hl:=yW _ _ a;have e:(b::(t++v)).length-q.length-1=((t++v).length-q.length-1)+1:=by grind
   grind
theorem XL{t:aa}(h:dx t)(ax:t≠[]):(10:UInt8)∈t:=by
 rcases h with h|⟨s,rfl⟩
 ·grind
 ·simp
theorem XM{t q v:aa}(h:q<:+t):(t++v).take ((t++v).length- (q++v).length-1)=t.take (t.length-q.length-1):=by grind
theorem XN:∀(n:Nat)(r v:aa),r.length<=n->dx r->r≠[]->
  (dt r=none->sB (dt (r++v)))/\(∀d q c,dt r=some (d,q,c)->q<:+r/\(10∈d->sB (dt (r++v)))/\(c=[]->q≠[]->dt (r++v)=some (d,q++v,[]))):=by
 intro n;induction n with
 |zero=>grind
 |succ n A=>
  intro r v ax g bc;cases r with
  |nil=>grind
  |cons b t=>
   simp only[mA] at ax;have m:=IQ v g bc;simp only[gX] at m⊢;rw[Fj,Fj,m];have step:∀(u:aa)(f:aa->aa),u<:+t->u.length<=n->(∀d,(10:UInt8)∈d->(10:UInt8)∈f d)->(∀d,(10:UInt8)∈f d->(10:UInt8)∈d\/∀d,(10:UInt8)∈f d)->
     ((dt u).map (λq=>(f q.1,q.2))=none->sB ((dt (u++v)).map λq=>(f q.1,q.2)))/\
     (∀d q c,(dt u).map (λq=>(f q.1,q.2))=some (d,q,c)->q<:+b::t/\(10∈d->sB ((dt (u++v)).map λq=>(f q.1,q.2)))/\(c=[]->q≠[]->(dt (u++v)).map (λq=>(f q.1,q.2))=some (d,q++v,[]))):=by
    intro u f hu i p s;by_cases w:u=[]
    ·subst w;have e0:dt []=some ([],[],[]):=by rw[dt]
     rw[e0];refine⟨λh=>by grind,λd q c h=>?_⟩;simp only[r3,dE,iT] at h;obtain⟨rfl,rfl,rfl⟩:=h;refine⟨oK,λaE=>?_,λ_ a=>absurd rfl a⟩;rcases s _ aE with h|h
     ·cases h
     ·exact sB.Mh h
    ·obtain⟨B,C⟩:=A u v i (g.tail.sfx hu) w;refine⟨λh=>?_,λd q c h=>?_⟩
     ·simp only[Option.map_eq_none_iff] at h;exact(B h).map p
     ·simp only[vb,iT] at h;obtain⟨⟨K,L,M⟩,ad,rfl,rfl,rfl⟩:=h;obtain⟨D,E,N⟩:=C _ _ _ ad;refine⟨D.trans (hu.trans (ee _ _)),λaE=>?_,λaF a=>?_⟩
      ·rcases s _ aE with h|h
       ·exact(E h).map p
       ·exact sB.Mh h
      grind
   by_cases e:c3 (b::t)=true
   ·simp only[e,cD];grind
   by_cases j:b=92
   ·subst j;simp only[e,cD,ew,cl];cases t with
    |nil=>exact absurd g.head (by decide)
    |cons c u=>
     simp only[gX];refine step u (λd=>(if c=10 then [] else [c])++d) (ee _ _) (by grind) ?_ ?_
     ·grind
     grind
   have F:t≠[]:=g.ne (by rintro rfl;grind[Me]);by_cases k:b=39
   ·subst k;simp only[e,cD,ew,cl];rw[aS (by decide),aS (by decide)];cases x:gd t with
    |none=>
     refine⟨λ_=>?_,λd q c h=>by grind⟩;cases G:gd (t++v) with
     |none=>exact .inl rfl
     |some q=>simp only;rw[ai4 v q x G];exact sB.Mh (f:=λd=>t++List.take (v.length-q.length-1) v++d) λd=>by grind[XL]
    |some q=>obtain⟨s1,s2⟩:=IS t v q x;rw[s2];simp only;rw[XM s1];refine step q (λd=>List.take (t.length-q.length-1) t++d) s1 (by grind) (λd aE=>by grind) (λd aE=>?_);grind
   by_cases aB:b=36\/b=96
   ·simp only[e,j,k,aB,cD,ew,cl];exact⟨λ_=> .inl rfl,λd q c h=>by grind⟩
   by_cases y:b=34
   ·subst y;simp only[e,cD,ew,cl];rw[aS (by decide),aS (by decide),aS (by decide),aS (by decide),aS (by decide),aS (by decide)];obtain⟨H,I,J⟩:=XK t.length t v (cX _) g.tail F;cases a:eE t with
    |part=>rw[I a];exact⟨λ_=> .inl rfl,λd q c h=>by grind⟩
    |open_ o=>
     refine⟨λh=>by grind,λd q c h=>?_⟩;simp only[dE,iT] at h;obtain⟨rfl,rfl,rfl⟩:=h;refine⟨oK,λaE=>?_,λh=>by simp⟩;have:=J o a aE;cases z:eE (t++v) with
     |part=>exact .inl rfl
     |open_ l=>rw[z] at this;exact .inr ⟨_,_,_,rfl,this⟩
     |closed l O=>rw[z] at this;exact sB.Mh (f:=λd=>l++d) λd=>by simp[show(10:UInt8)∈l from this]
    |closed o q=>obtain⟨s1,s2⟩:=H o q a;rw[s2];refine step q (λd=>o++d) s1 (by grind) (λd aE=>by grind) (λd aE=>?_);grind
   simp only[e,j,k,aB,y,ew,cl];refine step t (λd=>b::d) (sZ _) (by omega) (λd aE=>by grind) (λd aE=>?_);grind
theorem RS:∀(n:Nat)(r o q:aa),r.length<=n->eE r= .closed o q->q<:+r:=by
 intro n;induction n with
 |zero=>grind[List.length_eq_zero_iff,eE]
 |succ n a=>
  intro r o q ax h;cases r with
  |nil=>grind
  |cons b t=>grind[List.length_cons,Mg,List.suffix_cons,jl.RH,trans]
theorem RT:∀(n:Nat)(r:aa)(x:aa×aa×aa),r.length<=n->dt r=some x->x.2.1<:+r:=by
 intro n;induction n with
 |zero=>grind[List.length_eq_zero_iff,dt,List.suffix_refl]
 |succ n a=>
  intro r x ax h;cases r with
  |nil=>grind
  |cons b t=>
   simp only[mA] at ax
   have go:∀(u:aa)(f:aa->aa),u<:+t->(dt u).map (λq=>(f q.1,q.2))=some x->x.2.1<:+b::t:=by intro u f hu h;simp only[vb] at h;grind
   rw[Fj] at h;split at h
   ·grind
   ·split at h
    ·split at h
     ·cases h
     ·rename_i c u _;exact go u (λd=>(if c=10 then [] else [c])++d) (ee _ _) h
    ·split at h
     ·split at h
      ·cases h
      ·rename_i r1 ad;exact go r1 (λd=>List.take (t.length-r1.length-1) t++d) (IS t [] _ ad).1 h
     ·split at h
      ·cases h
      ·split at h
       ·split at h
        ·cases h
        ·grind
        ·rename_i o r1 ad;exact go r1 (λd=>o++d) (RS _ _ _ _ (cX _) ad) h
       ·exact go t (λd=>b::d) (sZ _) h
def IW(o:aa):jl->Prop
 | .closed a _=>o<+:a
 | .part=>True
 | .open_ a=>o<+:a
theorem IW.add{x o:aa}{q:jl}(h:IW o q):IW (x++o) (q.add x):=by
 cases q with
 |part=>trivial
 |closed a r=>exact(List.prefix_append_right_inj _).2 h
 |open_ a=>exact(List.prefix_append_right_inj _).2 h
theorem ai5:∀(n:Nat)(r v o:aa),r.length<=n->dx r->eE r= .open_ o->IW o (eE (r++v)):=by
 intro n;induction n with
 |zero=>intro r v o ax _ h;have:r=[]:=nH.1 (by omega);subst this;simp[eE] at h;subst h;cases eE ([]++v)<;>simp[IW]
 |succ n e=>
  intro r v o ax hl h;cases r with
  |nil=>grind
  |cons b t=>
   simp only[mA] at ax;simp only[gX];rw[Mg] at h⊢;split at h
   ·cases h
   ·rename_i f;split at h
    ·cases h
    ·rename_i aB;rw[aS f,aS aB];split at h
     ·rename_i d;rw[bo d];cases t with
      |nil=>cases h
      |cons c u=>simp only[gX] at h⊢;cases a:eE u<;>rw[a] at h<;>simp[jl.add] at h;subst h;exact(e u v _ (by grind) hl.tail.tail a).add
     ·rename_i d;rw[aS d];cases a:eE t<;>rw[a] at h<;>simp[jl.add] at h;subst h;exact(e t v _ (by omega) hl.tail a).add (x:=[b])
def IX(d:aa)(x:Option (aa×aa×aa)):Prop:=∀y,x=some y->d<+:y.1
theorem IX.map{d:aa}{x:Option (aa×aa×aa)}(p:aa)(h:IX d x):IX (p++d) (x.map λq=>(p++q.1,q.2)):=by intro y a;simp only[vb] at a;obtain⟨z,b,rfl⟩:=a;exact(List.prefix_append_right_inj _).2 (h z b)
theorem ai6:∀(n:Nat)(r v:aa)(x:aa×aa×aa),r.length<=n->dx r->dt r=some x->IX x.1 (dt (r++v)):=by
 intro n;induction n with
 |zero=>intro r v x ax _ h;have:r=[]:=nH.1 (by omega);subst this;simp[dt] at h;subst h;intro y _;simp
 |succ n s=>
  intro r v x ax d h;cases r with
  |nil=>grind
  |cons b t=>
   simp only[mA] at ax;have j:=IQ v d (by simp);simp only[gX] at j⊢
   have go:∀(u p:aa),u<:+t->(dt u).map (λq=>(p++q.1,q.2))=some x->IX x.1 ((dt (u++v)).map λq=>(p++q.1,q.2)):=by intro u p hu h;simp only[vb] at h;obtain⟨y,ad,rfl⟩:=h;exact(s u v y (by grind) (d.tail.sfx hu) ad).map p
   rw[Fj] at h⊢;rw[j];split at h
   ·rename_i k;cases h;intro y _;simp
   ·rename_i k;rw[aS k];have w:t≠[]:=d.ne (by rintro rfl;grind[Me]);split at h
    ·rename_i f;rw[bo f];cases t with
     |nil=>cases h
     |cons c u=>exact go u (if c=10 then [] else [c]) (ee _ _) h
    ·rename_i f;rw[aS f];split at h
     ·rename_i g;rw[bo g];cases l:gd t with
      |none=>grind
      |some q=>rw[l] at h;obtain⟨s1,s2⟩:=IS t v q l;rw[s2];simp only at h⊢;rw[XM s1];exact go q _ s1 h
     ·rename_i g;rw[aS g];split at h
      ·cases h
      ·rename_i aB;rw[aS aB];split at h
       ·rename_i i;rw[bo i];obtain⟨A,C,D⟩:=XK t.length t v (cX _) d.tail w;cases e:eE t with
        |part=>grind
        |open_ o=>
         rw[e] at h;simp only[dE] at h;subst h;have:=ai5 t.length t v o (cX _) d.tail e;cases m:eE (t++v) with
         |part=>intro y a;cases a
         |open_ B=>rw[m] at this;intro y a;cases a;exact this
         |closed B E=>rw[m] at this;intro y a;simp only[vb] at a;obtain⟨z,F,rfl⟩:=a;exact List.IsPrefix.trans this (List.prefix_append _ _)
        |closed o q=>rw[e] at h;obtain⟨s1,s2⟩:=A o q e;rw[s2];exact go q o s1 h
       ·rename_i i;rw[aS i];exact go t [b] (sZ _) h
def vW(tabs:Bool)(r':aa)(pd:aq):dw Unit:=match dt r' with
 |none=> .bad r'
 |some (d,q,a)=>if d.contains 10 then .bad r' else
  if tabs/\d.head?=some 9 then .bad r' else
  if a≠[] then .more [a] a (pd++[(d,tabs)]) else
  if q=[] then .more [] [] (pd++[(d,tabs)]) else .ok () q (pd++[(d,tabs)])
theorem XQ{tabs:Bool}{r':aa}{pd:aq}(h:sB (dt r')):vW tabs r' pd= .bad r':=by
 unfold vW;rcases h with h|⟨d,q,c,h,aE⟩
 ·rw[h]
 grind
theorem CR(tabs:Bool)(r:aa)(pd:aq):hr tabs r pd=match bx r with
 |none=> .more [] [120] (pd++[([120],tabs)])
 |some r'=>match av r' with
  | .eof=> .more [] [120] (pd++[([120],tabs)])
  | .word _ _=>vW tabs r' pd
  |_=> .bad r':=rfl
theorem ar.sC(tabs:Bool):ar (hr tabs) where
 sfx {r pd a r' n} h:=by
  rw[CR] at h;split at h
  ·cases h
  ·rename_i q b;split at h
   ·cases h
   ·unfold vW at h;split at h
    ·cases h
    ·rename_i d f c aE;split at h
     ·cases h
     ·split at h
      ·cases h
      ·split at h
       ·cases h
       ·split at h
        ·cases h
        ·cases h;exact(RT _ _ _ (cX _) aE).trans (dV b)
   grind
 ok {u pd a r' n} v hu h o:=by
  rw[CR] at h;split at h
  ·cases h
  ·rename_i q b;have ax:u≠[]:=by rintro rfl;grind[mg,av]
   obtain⟨e,f⟩:=ts v b hu ax;have g:=hu.sfx (dV b);have i:hr tabs (u++v) pd=(match av q with
    | .eof=> .more [] [120] (pd++[([120],tabs)])
    | .word _ _=>vW tabs (q++v) pd
    |_=> .bad (q++v)):=by grind[CR,Fh]
   rw[i];split at h
   ·cases h
   ·rename_i p;unfold vW at h⊢;split at h
    ·cases h
    ·rename_i d f c aE;split at h
     ·cases h
     ·rename_i j;split at h
      ·cases h
      ·rename_i k;split at h
       ·cases h
       ·rename_i s;split at h
        ·cases h
        ·rename_i t;cases h;have l:c=[]:=by grind
         rw[((XN _ q v (cX _) g e).2 d _ c aE).2.2 l o];simp_all
   grind
 bad {u pd r'} v hu h:=by
  rw[CR] at h;split at h
  ·cases h
  ·rename_i q b;have ax:u≠[]:=by rintro rfl;grind[mg,av]
   obtain⟨e,f⟩:=ts v b hu ax;have g:=hu.sfx (dV b);have i:hr tabs (u++v) pd=(match av q with
    | .eof=> .more [] [120] (pd++[([120],tabs)])
    | .word _ _=>vW tabs (q++v) pd
    |_=> .bad (q++v)):=by grind[CR,Fh]
   rw[i];obtain⟨A,a2⟩:=XN _ q v (cX _) g e;split at h
   ·cases h
   ·rename_i p;unfold vW at h;split at h
    ·grind[dV,XQ]
    ·rename_i d f c aE;split at h
     ·grind[dV,XQ]
     ·rename_i j;split at h
      ·rename_i k;cases h;refine⟨e,dV b,?_⟩;have aB:=ai6 _ r' v _ (cX _) g aE;unfold vW;cases w:dt (r'++v) with
       |none=>rfl
       |some y=>
        obtain⟨m,B,C⟩:=y;have x:d<+:m:=aB _ w;simp only;split
        ·rfl
        ·have D:m.head?=some 9:=by obtain⟨z,rfl⟩:=x;grind
         grind
      grind
   ·rename_i E F;cases h;exact⟨e,dV b,rfl⟩
 deep {u pd r'} v _ h:=by rw[CR] at h;grind[vW]
 nil pd:=by unfold hr;rw[mg];exact .inl ⟨_,_,_,rfl⟩
structure dZ{α:Type}(f:ak α):Prop where
 sfx:∀{r:aa}{pd:aq}{a:α}{r':aa}{aG:aq},f r pd= .ok a r' aG->r'<:+r
 ok:∀{u:aa}{pd:aq}{a:α}{r':aa}{aG:aq}(v:aa),dx u->f u pd= .ok a r' aG->r'≠[]->f (u++v) pd= .ok a (r'++v) aG
 bad:∀{u:aa}{pd:aq}{r':aa}(v:aa),dx u->u≠[]->f u pd= .bad r'->r'≠[]/\r'<:+u/\f (u++v) pd= .bad (r'++v)
 deep:∀{u:aa}{pd:aq}{r':aa}(v:aa),dx u->u≠[]->f u pd= .deep r'->r'≠[]/\r'<:+u/\f (u++v) pd= .deep (r'++v)
theorem ar.n{α:Type}{f:ak α}(h:ar f):dZ f:=⟨h.sfx,h.ok,λv hu _=>h.bad v hu,λv hu _=>h.deep v hu⟩
theorem dZ.bK{α:Type}:dZ (bK:ak α):=⟨λh=>(by cases h),λv _ h=>(by cases h),λv _ ax h=>(by cases h;exact⟨ax,sZ _,rfl⟩),λv _ _ h=>(by cases h)⟩
theorem dZ.uJ{α:Type}:dZ (uJ:ak α):=⟨λh=>(by cases h),λv _ h=>(by cases h),λv _ _ h=>(by cases h),λv _ ax h=>(by cases h;exact⟨ax,sZ _,rfl⟩)⟩
theorem dZ.ite{α:Type}{c:Prop}[Decidable c]{f g:ak α}(hf:dZ f)(bf:dZ g):dZ (if c then f else g):=by grind
theorem dZ.ae{α β:Type}{m:ak α}{k:α->ak β}(hm:dZ m)(hk:∀a,ar (k a)):dZ (Go.Eng.ae m k):=by
 constructor
 ·intro r pd b r' l h;obtain⟨a,r1,d,ad,c⟩:=b3 h;exact((hk a).sfx c).trans (hm.sfx ad)
 ·intro u pd b r' l v hu h n;obtain⟨a,r1,d,ad,c⟩:=b3 h;by_cases e:r1=[]
  ·subst e;rcases(hk a).nil d with⟨op,nd,ds,o⟩|⟨j,o⟩
   ·grind
   grind
  ·rw[aZ (hm.ok v hu ad e)];exact(hk a).ok v (hu.sfx (hm.sfx ad)) c n
 ·intro u pd r' v hu ax h;unfold Go.Eng.ae at h⊢;split at h
  ·rename_i a r1 d ad;by_cases e:r1=[]
   ·subst e;rcases(hk a).nil d with⟨op,nd,ds,c⟩|⟨j,c⟩<;>(grind)
   ·rw[hm.ok v hu ad e];obtain⟨f,g,i⟩:=(hk a).bad v (hu.sfx (hm.sfx ad)) h;exact⟨f,g.trans (hm.sfx ad),i⟩
  ·cases h
  ·rename_i r1 ad;cases h;obtain⟨f,g,i⟩:=hm.bad v hu ax ad;grind
  grind
 ·intro u pd r' v hu ax h;unfold Go.Eng.ae at h⊢;split at h
  ·rename_i a r1 d ad;by_cases e:r1=[]
   ·subst e;rcases(hk a).nil d with⟨op,nd,ds,c⟩|⟨j,c⟩<;>(grind)
   ·rw[hm.ok v hu ad e];obtain⟨f,g,i⟩:=(hk a).deep v (hu.sfx (hm.sfx ad)) h;exact⟨f,g.trans (hm.sfx ad),i⟩
  ·cases h
  ·cases h
  ·rename_i r1 ad;cases h;obtain⟨f,g,i⟩:=hm.deep v hu ax ad;grind
theorem ar.fP{α:Type}{x:aa}{k:Tok->ak α}(h:∀t,t≠ .eof->dZ (k t))(h0:ar (k .eof)):ar (Go.Eng.ae (bQ x) k):=by
 have aB:=ar.dJ x
 have c:∀{u:aa}{pd:aq}(v:aa),dx u->u≠[]->∀r1,bx u=some r1->r1≠[]/\av r1≠ .eof/\Go.Eng.ae (bQ x) k u pd=k (av r1) r1 pd/\Go.Eng.ae (bQ x) k (u++v) pd=k (av r1) (r1++v) pd:=by
  intro u pd v hu ax r1 m;obtain⟨d,g⟩:=ts v m hu ax;refine⟨d,λh=>d (l2.1 h),?_,?_⟩
  ·exact aZ (by grind[bQ])
  ·have:bQ x (u++v) pd= .ok (av r1) (r1++v) pd:=by unfold bQ;rw[g];simp only[Fh v (hu.sfx (dV m)) d]
   grind[aZ]
 constructor
 ·intro r pd a r' p e;obtain⟨t,r1,f,ad,i⟩:=b3 e;obtain⟨b,rfl,rfl⟩:=nB ad;by_cases n:av r1= .eof
  ·rw[n] at i;exact(h0.sfx i).trans (dV b)
  ·exact((h _ n).sfx i).trans (dV b)
 ·intro u pd a r' p v hu e q;obtain⟨t,r1,f,ad,i⟩:=b3 e;obtain⟨b,rfl,rfl⟩:=nB ad;by_cases ax:u=[]
  ·subst ax;rw[mg] at b;cases b;have:=h0.sfx i;grind
  ·obtain⟨d,g,o,j⟩:=c (pd:=f) v hu ax r1 b;rw[j];exact(h _ g).ok v (hu.sfx (dV b)) i q
 ·intro u pd r' v hu e;unfold Go.Eng.ae at e;split at e
  ·rename_i t r1 f ad;obtain⟨b,rfl,rfl⟩:=nB ad;by_cases ax:u=[]
   ·subst ax;rw[mg] at b;cases b;rcases h0.nil f with⟨_,_,_,h⟩|⟨_,h⟩<;>(rw[show av []= .eof from rfl,h] at e;cases e)
   ·obtain⟨d,g,o,j⟩:=c (pd:=f) v hu ax r1 b;rw[j];obtain⟨l,a2,a3⟩:=(h _ g).bad v (hu.sfx (dV b)) d e;exact⟨l,a2.trans (dV b),a3⟩
  ·cases e
  ·rename_i ad;exact absurd ad (by unfold bQ;split<;>(intro h;cases h))
  grind
 ·intro u pd r' v hu e;unfold Go.Eng.ae at e;split at e
  ·rename_i t r1 f ad;obtain⟨b,rfl,rfl⟩:=nB ad;by_cases ax:u=[]
   ·subst ax;rw[mg] at b;cases b;rcases h0.nil f with⟨_,_,_,h⟩|⟨_,h⟩<;>(rw[show av []= .eof from rfl,h] at e;cases e)
   ·obtain⟨d,g,o,j⟩:=c (pd:=f) v hu ax r1 b;rw[j];obtain⟨l,a2,a3⟩:=(h _ g).deep v (hu.sfx (dV b)) d e;exact⟨l,a2.trans (dV b),a3⟩
  ·cases e
  ·cases e
  ·rename_i ad;exact absurd ad (by unfold bQ;split<;>(intro h;cases h))
 ·intro pd;have:Go.Eng.ae (bQ x) k [] pd=k .eof [] pd:=aZ (by unfold bQ;rw[mg];rfl);rw[this];exact h0.nil pd
theorem ar.Fl{D:ak Unit}(hD:hU D)(x:aa):ar (jQ D x):=by
 refine ar.fP (λt a=>?_) (ar.b7 x);cases t with
 |word w p=>grind[ar.word,ar.n]
 |eof=>grind
 |_=>exact dZ.bK
theorem ar.jm{D:ak Unit}(hD:hU D):ar (dF D):=by
 refine ar.XJ.ae λo=>?_;cases o with
 |none=>simp[ar.ret]
 |some o=>exact(ar.ite (ar.sC _) (ar.ite (ar.sC _) (ar.Fl hD _))).ae λ_=>ar.ret _
theorem ai_{o:aa}(h:e2 o=true):o.length≠0:=by intro h0;simp_all[nH,e2]
theorem sD{D:ak Unit}(hD:hU D){r:aa}{pd:aq}{r':aa}{b:aq}(h:dF D r pd= .ok true r' b):r'.length<r.length:=by
 obtain⟨o,r1,f,ad,a⟩:=b3 h;cases o with
 |none=>cases a
 |some o=>
  obtain⟨_,g,i,c,d⟩:=b3 a;cases d;have j:r'.length<=r1.length:=by have uL:ar (if o=[60,60] then hr false else if o=[60,60,45] then hr true else jQ D [120]):=ar.ite (ar.sC _) (ar.ite (ar.sC _) (ar.Fl hD _));exact(uL.sfx c).length_le
  unfold fJ at ad;split at ad
  ·cases ad
  ·rename_i q e;simp only at ad;split at ad
   ·rename_i k;cases ad;have l:=(dV e).length_le;have a2:(q.dropWhile cd).length<=q.length:=CQ.length_le;grind[ai_,RP,cd,List.length_drop]
   grind
theorem ar.mK{D:ak Unit}(hD:hU D):ar (gV D):=by
 refine ar.rep ⟨λ_=>(ar.jm hD).ae λb=>ar.ret _,λ{s r pd s' r' c} h=>?_⟩ ();obtain⟨b,r1,d,ad,a⟩:=b3 h;cases b with
 |true=>cases a;exact sD hD ad
 |false=>cases a
theorem ar.simple{D:ak Unit}(hD:hU D)(fr:Bool):ar (hH fr D):=by
 have he:ar (Go.Eng.ae (bQ []) λt=>match t with
  | .word _ _=>Go.Eng.ae (cQ D) λ_=>aW (.inl ())
  | .op o=>if fr/\o=[40] then bK else aW (.inr ())
  |_=>aW (.inr ()):ak (Unit⊕Unit)):=by
  refine ar.fP (λt c=>?_) (ar.ret _);cases t with
  |word w p=>grind[ar.word,ar.ae,ar.ret,ar.n]
  |op o=>simp[dZ.ite,dZ.bK,ar.ret,ar.n]
  |_=>simp[ar.ret,ar.n]
 have hl:fO (Go.Eng.ae (bQ []) λt=>match t with
  | .word _ _=>Go.Eng.ae (cQ D) λ_=>aW (.inl ())
  | .op o=>if fr/\o=[40] then bK else aW (.inr ())
  |_=>aW (.inr ()):ak (Unit⊕Unit)):=by
  refine fO.Mf hD (λt c d=>?_) (iY.inr _) (λw p=>⟨cQ D,_,rfl,Iff.rfl,λ_=>ar.ret _⟩);cases t with
  |word w p=>grind
  |op o=>simp[fO.ite,fO.bad,fO.inr]
  |_=>simp[fO.inr]
 refine ar.rep ⟨λ_=>(ar.jm hD).ae λb=>ar.ite (ar.ret _) he,λ{s r pd s' r' e} h=>?_⟩ ();obtain⟨b,r1,f,ad,a⟩:=b3 h;cases b with
 |true=>cases a;exact sD hD ad
 |false=>
  have g:=((ar.jm hD).sfx ad).length_le;by_cases ax:r1=[]
  ·subst ax;simp only[ew,cl] at a;have:iY (Go.Eng.ae (bQ []) λt=>match t with
    | .word _ _=>Go.Eng.ae (cQ D) λ_=>aW (.inl ())
    | .op o=>if fr/\o=[40] then bK else aW (.inr ())
    |_=>aW (.inr ()):ak (Unit⊕Unit)):=iY.dJ (iY.inr _)
   exact absurd a this
  ·simp only[ew,cl] at a;have:=hl ax a;omega
structure uM(l:dU):Prop where
 ls:∀c n,ar (l.ls c n)
 pm:ar l.pm
 cp:∀t,dZ (l.cp t)
 rd:ar l.rd
 dl:hU l.dl
theorem ar.exp(b:Tok->Bool)(n:Nat):ar (na b n):=by refine ar.fP (λt a=>?_) (by simp[cD,ar.b7]);rw[aS a];exact dZ.ite (ar.dm n).n dZ.bK
theorem ar.op(o:aa):ar (jR o):=ar.exp _ _
theorem ar.res(w:aa):ar (cY w):=ar.exp _ _
theorem vX(d:Nat)(b:UInt8)(t:aa):hQ d (b::t)=(if b=39\/b=34\/b=92\/b=96\/gb (b::t) then .bad (b::t) else
  if b=40 then hQ (d+1) t else
  if b=41 then match d with
   |ei+1=>hQ ei t
   |0=>match t with
    |[]=> .more 1
    |c::u=>if c=41 then .ok u else .bad (b::t)
  else hQ d t):=by
 rfl
theorem RU:∀(d:Nat)(r v:aa),dx r->r≠[]->(∀q,hQ d r= .ok q->q<:+r/\hQ d (r++v)= .ok (q++v))/\(∀q,hQ d r= .bad q->q≠[]/\q<:+r/\hQ d (r++v)= .bad (q++v))
 |d,[],v,_,ax=>absurd rfl ax
 |d,b::t,v,f,ax=>by
  have g:=RM v f ax;simp only[gX] at g⊢;rw[vX,vX,g];split
  ·simp
  ·rename_i ad
   have go:∀a,(∀q,hQ a t= .ok q->q<:+b::t/\hQ a (t++v)= .ok (q++v))/\(∀q,hQ a t= .bad q->q≠[]/\q<:+b::t/\hQ a (t++v)= .bad (q++v)):=by
    intro a;by_cases h:t=[]
    ·grind[hQ]
    ·obtain⟨i,j⟩:=RU a t v f.tail h;grind
   split
   ·grind
   ·split
    ·rename_i k;cases d with
     |succ a=>grind
     |zero=>
      cases t with
      |nil=>simp
      |cons c u=>
       simp only[gX];split
       ·refine⟨λq e=>?_,λq e=>(by cases e)⟩;cases e;exact⟨(ee _ _).trans (ee _ _),rfl⟩
       simp
    grind
theorem RV{b:Tok->Bool}{n:Nat}(ax:0<n){r:aa}{pd:aq}{r':aa}{c:aq}(h:na b n r pd= .ok () r' c):r'.length<r.length:=by
 obtain⟨t,r1,f,ad,a⟩:=b3 h;obtain⟨d,rfl,rfl⟩:=nB ad;have hl:=xh (dV d);split at a
 ·cases a
 ·rename_i he;have:r1≠[]:=λe=>he (l2.2 e);split at a
  ·cases a;grind[List.length_pos_iff,List.length_drop]
  ·cases a
theorem XS(t:aa):bx (10::t)=some (10::t):=by simp[nX,ga]
theorem XT{t:aa}{pd:aq}{b:Bool}{r':aa}{e:aq}(h:cU (10::t) pd= .ok b r' e):r'.length<(10::t).length:=by
 unfold cU at h;rw[qp] at h;split at h
 ·rename_i s1 r1 f ad;have g:=iD.lines.lt ad;rw[bo g] at h;have:=(ar.rep iD.lines s1).sfx h;grind
 ·rename_i a ad;obtain⟨k,r1,f,i,c⟩:=b3 ad;obtain⟨d,rfl,rfl⟩:=nB i;rw[XS] at d;cases d;simp only[av,cD] at c;obtain⟨_,_,_,_,j⟩:=b3 c;cases j
 all_goals cases h
theorem vY{r:aa}(h:av r= .line):∃t,r=10::t:=by
 cases r with
 |nil=>grind[av]
 |cons b t=>grind[av]
section
variable{fr:Bool}{l:dU}(hl:uM l)
include hl
theorem ar.body(x:aa):ar (iP l x):=((ar.res _).aM _).ae λ_=>((hl.ls _ _).aM _).ae λ_=>ar.res _
theorem ar.cond:ar (q6 l):=by
 refine ar.rep ⟨λ_=>((hl.ls _ _).aM _).ae λ_=>(ar.res _).ae λ_=>((hl.ls _ _).aM _).ae λ_=>(ar.dJ _).ae λt=>ar.ite ((ar.res _).ae λ_=>ar.ret _) (ar.ite ((ar.res _).ae λ_=>((hl.ls _ _).aM _).ae λ_=>(ar.res _).ae λ_=>ar.ret _) ((ar.res _).ae λ_=>ar.ret _)),λ{s r pd s' r' g} h=>?_⟩ ();obtain⟨_,r1,i,ad,h⟩:=b3 h;obtain⟨_,j,k,d,h⟩:=b3 h;obtain⟨_,m,n,e,h⟩:=b3 h;obtain⟨t,o,p,f,h⟩:=b3 h;have q:=((hl.ls _ _).sfx (jC.1 ad)).length_le;have a2:=((ar.res _).sfx d).length_le;have a3:=((hl.ls _ _).sfx (jC.1 e)).length_le;have u:=((ar.dJ _).sfx f).length_le;split at h
 ·obtain⟨_,b,c,a,h⟩:=b3 h;cases h;have:=RV (by decide) a;omega
 ·split at h
  ·obtain⟨_,b,c,a,h⟩:=b3 h;obtain⟨_,v,w,x,h⟩:=b3 h;obtain⟨_,y,z,A,h⟩:=b3 h;cases h
  ·obtain⟨_,b,c,a,h⟩:=b3 h;cases h
omit hl in
theorem ar.words{D:ak Unit}(hD:hU D):ar (pN D):=by
 refine ar.rep (iD.of (λ_=>ar.fP (λt a=>?_) (ar.b7 _)) (λ_=>fO.Mf hD (λt a b=>?_) (iY.more _) (λw p=>⟨cQ D,_,rfl,Iff.rfl,λ_=>ar.ret _⟩)) λ_=>iY.dJ (iY.more _)) ()
 ·cases t with
  |eof=>grind
  |word w p=>grind[ar.word,ar.ae,ar.ret,ar.n]
  |line=>simp[ar.ret,ar.n]
  |op o=>exact dZ.ite ((ar.dm _).ae λ_=>ar.ret _).n dZ.bK
 ·cases t with
  |eof=>grind
  |word w p=>grind
  |line=>simp[fO.inr]
  |op o=>exact fO.ite (by intro r pd s r' c d e;obtain⟨_,_,_,_,e⟩:=b3 e;cases e) fO.bad
theorem ar.for_{D:ak Unit}(hD:hU D):ar (pO l D):=by
 have a:ar (Go.Eng.ae (bQ []) λt=>if t= .op [59] then Go.Eng.ae (b2 1) λ_=>Go.Eng.ae cU λ_=>aW () else
   Go.Eng.ae cU λ_=>Go.Eng.ae (bQ []) λt=>if cG t fB then Go.Eng.ae (b2 2) λ_=>Go.Eng.ae (pN D) λ_=>Go.Eng.ae cU λ_=>aW () else aW ()):=
  (ar.dJ _).ae λt=>ar.ite ((ar.dm _).ae λ_=>ar.lines.ae λ_=>ar.ret _) (ar.lines.ae λ_=>(ar.dJ _).ae λt=>ar.ite ((ar.dm _).ae λ_=>(ar.words hD).ae λ_=>ar.lines.ae λ_=>ar.ret _) (ar.ret _))
 refine ar.fP (λt b=>?_) (ar.b7 _);cases t with
 |eof=>grind
 |word w p=>
  cases p with
  |true=>exact dZ.ite ((ar.dm _).ae λ_=>(a.aM _).ae λ_=>ar.body hl _).n dZ.bK
  |false=>exact dZ.bK
 |_=>exact dZ.bK
omit hl in
theorem RX{D:ak Unit}(hD:hU D):iD (λ(_:Unit)=>Go.Eng.ae (bQ [120,41]) λt=>match t with
 | .eof=>b7 [120,41]
 | .word _ _=>Go.Eng.ae ((cQ D).aM [41]) λ_=>Go.Eng.ae (bQ [41]) λt=>match t with
   | .eof=>b7 [41]
   | .op o=>if o=[124] then Go.Eng.ae (b2 1) λ_=>aW (.inl ()) else if o=[41] then Go.Eng.ae (b2 1) λ_=>aW (.inr ()) else bK
   |_=>bK
 |_=>bK:Unit->ak (Unit⊕Unit)):=by
 have b:ar (Go.Eng.ae (bQ [41]) λt=>match t with
  | .eof=>b7 [41]
  | .op o=>if o=[124] then Go.Eng.ae (b2 1) λ_=>aW (.inl ()) else if o=[41] then Go.Eng.ae (b2 1) λ_=>aW (.inr ()) else bK
  |_=>bK:ak (Unit⊕Unit)):=by
  refine ar.fP (λt a=>?_) (ar.b7 _);cases t with
  |eof=>grind
  |op o=>exact dZ.ite ((ar.dm _).ae λ_=>ar.ret _).n (dZ.ite ((ar.dm _).ae λ_=>ar.ret _).n dZ.bK)
  |_=>exact dZ.bK
 refine iD.of (λ_=>ar.fP (λt a=>?_) (ar.b7 _)) (λ_=>fO.Mf hD (λt a c=>?_) (iY.more _) (λw p=>⟨(cQ D).aM [41],_,rfl,jC,λ_=>b⟩)) λ_=>iY.dJ (iY.more _)
 ·cases t with
  |eof=>grind
  |word w p=>exact(((ar.word hD).aM _).ae λ_=>b).n
  |_=>exact dZ.bK
 ·cases t with
  |eof=>exact absurd rfl a
  |word w p=>exact absurd rfl (c w p)
  |_=>exact fO.bad
omit hl in
theorem ar.xj{D:ak Unit}(hD:hU D):ar (kZ D):=ar.rep (RX hD) ()
omit hl in
theorem RY{D:ak Unit}(hD:hU D){r:aa}{pd:aq}{r':aa}{j:aq}(h:kZ D r pd= .ok () r' j):r'.length<r.length:=by
 unfold kZ at h;rw[qp] at h;split at h
 ·rename_i s1 r1 k ad;have l:=(RX hD).lt (s:=()) ad;rw[bo l] at h;have:=((ar.rep (RX hD) s1).sfx h).length_le;omega
 ·rename_i a ad;cases h;obtain⟨t,r1,k,m,d⟩:=b3 ad;obtain⟨g,rfl,rfl⟩:=nB m;have a0:=(dV g).length_le;cases e:av r1 with
  |word w p=>
   rw[e] at d;obtain⟨_,B,C,n,q⟩:=b3 d
   have u:∃b t,r1=b::t:=by
    cases r1 with
    |nil=>grind[av]
    |cons b t=>simp
   obtain⟨b,t,rfl⟩:=u;have v:=IU ⟨w,p,e⟩ (XI _ _ (cX _) _ _ g);have E:=vU hD (by simp) v (jC.1 n);obtain⟨F,x,G,y,c⟩:=b3 q;obtain⟨z,rfl,rfl⟩:=nB y;have a2:=(dV z).length_le;cases i:av x with
   |op o=>
    rw[i] at c;simp only at c;split at c
    ·obtain⟨_,_,_,_,f⟩:=b3 c;cases f
    ·split at c
     ·obtain⟨_,H,I,f,A⟩:=b3 c;cases A;have:=((ar.dm 1).sfx f).length_le;omega
     ·cases c
   |_=>rw[i] at c;cases c
  |_=>rw[e] at d;cases d
 all_goals cases h
theorem ar.items{D:ak Unit}(hD:hU D):ar (nA l D):=by
 have a:ar (Go.Eng.ae (kZ D) λ_=>Go.Eng.ae (l.ls .item true) λ_=>Go.Eng.ae (bQ []) λt=>if t= .op [59,59] then Go.Eng.ae (b2 2) λ_=>aW (.inl ()) else aW (.inl ()):ak (Unit⊕Unit)):=
  (ar.xj hD).ae λ_=>(hl.ls _ _).ae λ_=>(ar.dJ _).ae λt=>ar.ite ((ar.dm _).ae λ_=>ar.ret _) (ar.ret _)
 refine ar.rep ⟨λ_=>ar.lines.ae λ_=>(ar.dJ _).ae λt=>ar.ite (ar.b7 _) (ar.ite ((ar.dm _).ae λ_=>ar.ret _) ((ar.ite (ar.dm _) (ar.ret _)).ae λ_=>a)),λ{s r pd s' r' i} h=>?_⟩ ();obtain⟨_,r1,j,ad,h⟩:=b3 h;obtain⟨t,k,m,b,h⟩:=b3 h;have n:=(ar.lines.sfx ad).length_le;have a2:=((ar.dJ _).sfx b).length_le;split at h
 ·cases h
 ·split at h
  ·obtain⟨_,_,_,_,h⟩:=b3 h;cases h
  ·obtain⟨_,o,p,c,h⟩:=b3 h;have a3:=((ar.ite (ar.dm 1) (ar.ret ())).sfx c).length_le;obtain⟨_,q,u,d,h⟩:=b3 h;have v:=RY hD d;obtain⟨_,w,x,e,h⟩:=b3 h;have y:=((hl.ls _ _).sfx e).length_le;obtain⟨_,z,A,f,h⟩:=b3 h;have B:=((ar.dJ _).sfx f).length_le;split at h
   ·obtain⟨_,C,E,g,h⟩:=b3 h;cases h;have:=((ar.dm 2).sfx g).length_le;omega
   ·cases h;omega
omit hl in
theorem ar.aja{α β:Type}{m:ak α}{k:α->ak β}(hm:ar m)(bc:∀{r pd a r' f},m r pd= .ok a r' f->r'≠[])(hk:∀a,dZ (k a)):ar (Go.Eng.ae m k):=by
 constructor
 ·intro r pd b r' f h;obtain⟨a,r1,g,ad,i⟩:=b3 h;exact((hk a).sfx i).trans (hm.sfx ad)
 ·intro u pd b r' f v hu h j;obtain⟨a,r1,g,ad,i⟩:=b3 h;rw[aZ (hm.ok v hu ad (bc ad))];exact(hk a).ok v (hu.sfx (hm.sfx ad)) i j
 ·intro u pd r' v hu h;unfold Go.Eng.ae at h⊢;split at h
  ·rename_i a r1 g ad;rw[hm.ok v hu ad (bc ad)];obtain⟨c,d,e⟩:=(hk a).bad v (hu.sfx (hm.sfx ad)) (bc ad) h;exact⟨c,d.trans (hm.sfx ad),e⟩
  ·cases h
  ·rename_i r1 ad;cases h;obtain⟨c,d,e⟩:=hm.bad v hu ad;grind
  grind
 ·intro u pd r' v hu h;unfold Go.Eng.ae at h⊢;split at h
  ·rename_i a r1 g ad;rw[hm.ok v hu ad (bc ad)];obtain⟨c,d,e⟩:=(hk a).deep v (hu.sfx (hm.sfx ad)) (bc ad) h;exact⟨c,d.trans (hm.sfx ad),e⟩
  ·cases h
  ·cases h
  ·rename_i r1 ad;cases h;obtain⟨c,d,e⟩:=hm.deep v hu ad;grind
 ·intro pd;rcases hm.nil pd with⟨op,nd,ds,h⟩|⟨a,h⟩
  ·left;unfold Go.Eng.ae;rw[h];exact⟨_,_,_,rfl⟩
  grind
theorem ar.xk{D:ak Unit}(hD:hU D):ar (q7 l D):=by
 have ad:ar (Go.Eng.ae (cQ D) λ_=>Go.Eng.ae cU λ_=>Go.Eng.ae (bQ []) λt=>if t= .eof then Go.Eng.b7 [] else aW t):=
  (ar.word hD).ae λ_=>ar.lines.ae λ_=>(ar.dJ _).ae λt=>ar.ite (ar.b7 _) (ar.ret _)
 refine ar.fP (λt f=>?_) (ar.b7 _);cases t with
 |eof=>grind
 |word w p=>
  refine(ar.aja (ad.aM _) (λ{r pd a r' g} h=>?_) λt=>dZ.ite ((ar.dm _).ae λ_=>(ar.items hl hD).aM _).n dZ.bK).n;obtain⟨_,i,j,k,c⟩:=b3 (jC.1 h);obtain⟨_,m,n,o,d⟩:=b3 c;obtain⟨t,q,s,e,b⟩:=b3 d;obtain⟨u,rfl,rfl⟩:=nB e;split at b
  ·cases b
  ·rename_i he;cases b;grind[l2]
 |_=>exact dZ.bK
theorem dZ.kind(t:Tok):dZ (hS l t):=by
 cases t with
 |op o=>exact((ar.dm _).ae λ_=>((hl.ls _ _).aM _).ae λ_=>ar.op _).n
 |word w p=>exact((ar.dm _).ae λ_=>ar.ite (((hl.ls _ _).aM _).ae λ_=>ar.res _) (ar.ite (ar.cond hl) (ar.ite (ar.for_ hl hl.dl) (ar.ite (ar.xk hl hl.dl) (((hl.ls _ _).aM _).ae λ_=>ar.body hl _))))).n
 |_=>exact dZ.bK
omit hl in
theorem dZ.named{α:Type}{m:ak α}(hm:dZ m)(x:aa):dZ (m.named x):=by
 have d:∀r pd q,m.named x r pd= .bad q↔m r pd= .bad q:=by grind[ak.named]
 have aE:∀r pd q,m.named x r pd= .deep q↔m r pd= .deep q:=by grind[ak.named]
 exact⟨λh=>hm.sfx (CN.1 h),λv hu h e=>CN.2 (hm.ok v hu (CN.1 h) e),
  λ{u pd r'} v hu ax h=>(by obtain⟨a,b,c⟩:=hm.bad v hu ax ((d _ _ _).1 h);grind),
  λ{u pd r'} v hu ax h=>(by obtain⟨a,b,c⟩:=hm.deep v hu ax ((aE _ _ _).1 h);grind)⟩
end
section
variable{fr:Bool}{lo:Option dU}(j8:∀l∈lo,uM l)
include j8
theorem dZ.cp(t:Tok):dZ (sA lo t):=by
 cases lo with
 |none=>exact dZ.uJ
 |some l=>exact(dZ.kind (j8 l rfl) t).named _
theorem dZ.function:dZ (mf fr lo):=by
 cases lo with
 |none=>exact dZ.uJ
 |some l=>have hl:=j8 l rfl;unfold mf;simp only;refine dZ.ite (dZ.named ?_ _) dZ.uJ;refine((ar.dm _).ae λ_=>ar.fP (λt a=>?_) (by simp[cD,ar.b7])).n;rw[aS a];refine dZ.ite ?_ dZ.bK;refine((ar.dm _).ae λ_=>(ar.lines.aM _).ae λ_=>ar.fP (λt a=>?_) (by simp[cD,ar.b7])).n;rw[aS a];exact dZ.ite ((hl.cp t).ae λ_=>ar.ite hl.rd (ar.ret _)) dZ.bK
omit j8 in
theorem AP:∀(d:Nat)(r q:aa),hQ d r= .ok q->q<:+r
 |d,[],q,h=>by grind[hQ]
 |d,b::t,q,h=>by
  rw[vX] at h;split at h
  ·cases h
  ·split at h
   ·exact(AP _ t q h).trans (ee _ _)
   ·split at h
    ·cases d with
     |succ a=>exact(AP a t q h).trans (ee _ _)
     |zero=>
      cases t with
      |nil=>cases h
      |cons c u=>
       simp only at h;split at h
       ·cases h;exact(ee _ _).trans (ee _ _)
       ·cases h
    ·exact(AP d t q h).trans (ee _ _)
omit j8 in
theorem ar.nz:ar nz:=by
 constructor
 ·grind[Go.Eng.nz,AP]
 ·intro u pd a r' e v hu h f;by_cases ax:u=[]
  ·subst ax;cases h
  ·unfold Go.Eng.nz at h⊢;split at h
   ·simp_all[RU]
   ·cases h
   grind
 ·intro u pd r' v hu h;by_cases ax:u=[]
  ·subst ax;cases h
  ·unfold Go.Eng.nz at h⊢;split at h
   ·cases h
   ·cases h
   ·rename_i q d;cases h;obtain⟨a,b,c⟩:=(RU 0 u v hu ax).2 _ d;grind
 ·grind[Go.Eng.nz]
 ·intro pd;exact .inl ⟨_,_,_,rfl⟩
omit j8 in
theorem ar.R0{o:aa}(b:(10:UInt8)∉o)(i:o≠[]){α:Type}{f g:ak α}(hf:dZ f)(bf:ar g):ar (λr pd=>if o.isPrefixOf r then f r pd else g r pd):=by
 have h0:o.isPrefixOf ([]:aa)=false:=by grind
 constructor
 ·intro r pd a r' e h;split at h
  ·exact hf.sfx h
  ·exact bf.sfx h
 ·intro u pd a r' e v hu h d;by_cases ax:u=[]
  ·subst ax;simp only[h0] at h;have:=bf.sfx h;grind
  ·rw[Md v b hu ax];split at h
   ·rename_i aF;rw[bo aF];exact hf.ok v hu h d
   ·rename_i aF;rw[aS aF];exact bf.ok v hu h d
 ·intro u pd r' v hu h;by_cases ax:u=[]
  ·subst ax;simp only[h0] at h;rcases bf.nil pd with⟨_,_,_,c⟩|⟨_,c⟩<;>(grind)
  ·rw[Md v b hu ax];split at h
   ·rename_i aF;rw[bo aF];exact hf.bad v hu ax h
   ·rename_i aF;rw[aS aF];exact bf.bad v hu h
 ·intro u pd r' v hu h;by_cases ax:u=[]
  ·subst ax;simp only[h0] at h;rcases bf.nil pd with⟨_,_,_,c⟩|⟨_,c⟩<;>(grind)
  ·rw[Md v b hu ax];split at h
   ·rename_i aF;rw[bo aF];exact hf.deep v hu ax h
   ·rename_i aF;rw[aS aF];exact bf.deep v hu h
 ·intro pd;simp only[h0];exact bf.nil pd
omit j8 in
theorem dZ.sz{n:Nat}{f:dU->ak Unit}(hf:∀l∈lo,ar (f l)):dZ (sz lo n f):=by
 cases lo with
 |none=>exact dZ.uJ
 |some l=>exact((ar.dm _).ae λ_=>hf l rfl).n
theorem ar.vZ:ar (dM lo):=by refine ar.R0 (by decide) (by decide) ((ar.dm 3).ae λ_=>ar.nz).n ?_;refine ar.R0 (by decide) (by decide) (dZ.sz λl h=>((((j8 l h).ls _ _).aM _).named _).ae λ_=>ar.op _) ?_;refine ar.R0 (by decide) (by decide) (dZ.sz λl h=>(j8 l h).pm.named _) ?_;exact ar.dm 1
theorem CS:hU (dM lo):=by
 refine⟨ar.vZ j8,λ{r pd r' b} g h=>?_⟩;have i:r≠[]:=by rintro rfl;grind[gb]
 have c:∀n (f:dU->ak Unit),(∀l∈lo,ar (f l))->0<n->sz lo n f r pd= .ok () r' b->r'.length<r.length:=by
  intro n f hf ax h;cases lo with
  |none=>cases h
  |some l=>have d:Go.Eng.ae (b2 n) (λ_=>f l) r pd= .ok () r' b:=h;obtain⟨_,r1,e,ad,a⟩:=b3 d;cases ad;have:=((hf l rfl).sfx a).length_le;grind[List.length_pos_iff,List.length_drop]
 unfold dM at h;split at h
 ·obtain⟨_,r1,e,ad,a⟩:=b3 h;cases ad;have:=(ar.nz.sfx a).length_le;grind
 ·split at h
  ·exact c 2 _ (λl h=>((((j8 l h).ls _ _).aM _).named _).ae λ_=>ar.op _) (by decide) h
  ·split at h
   ·exact c 2 _ (λl h=>(j8 l h).pm.named _) (by decide) h
   grind[List.length_pos_iff,List.length_drop]
theorem ar.command{D:ak Unit}(hD:hU D):ar (gm fr lo D):=by
 refine ar.fP (λt a=>?_) (by simp[cD,ar.b7]);rw[aS a];refine dZ.ite ((dZ.cp j8 t).ae λ_=>ar.mK hD) ?_;cases t with
 |eof=>grind
 |line=>exact dZ.bK
 |op o=>exact dZ.ite ((ar.jm hD).ae λ_=>ar.simple hD _).n dZ.bK
 |word w p=>
  refine dZ.ite dZ.bK ((ar.jm hD).ae λb=>ar.ite (ar.simple hD _) ((ar.word hD).ae λ_=>ar.ite (ar.fP (λt a=>?_) ?_) (ar.simple hD _))).n
  ·exact dZ.ite ((dZ.function j8).ae λ_=>ar.ite (ar.ret _) (ar.mK hD)) (ar.simple hD _).n
  simp_all[aS,ar.simple]
omit j8 in
theorem ar.pipe{df:ak Unit}(aF:ar df):ar (fu df):=by
 have hk:ar (Go.Eng.ae (cU.aM [120]) λ_=>Go.Eng.ae df λ_=>aW (.inl ()):ak (Unit⊕Unit)):=(ar.lines.aM _).ae λ_=>aF.ae λ_=>ar.ret _;refine(ar.dJ _).ae λt=>(ar.ite (ar.dm _) (ar.ret _)).ae λ_=>aF.ae λ_=>ar.rep (iD.of (λ_=>(ar.dJ _).ae λt=>ar.ite ((ar.dm _).ae λ_=>hk) (ar.ret _)) (λ_=>fO.dJ (λt a=>fO.ite (fO.CO (mJ.dm 0) λ_=>hk) (fO.inr _)) ?_) (λ_=>iY.dJ ?_)) ()
 ·simp[cl,iY.inr]
 simp[cl,iY.inr]
omit j8 in
theorem ar.pP{a:ak Unit}(aF:ar a):ar (hs a):=by
 have hk:ar (Go.Eng.ae (cU.aM [120]) λ_=>Go.Eng.ae a λ_=>aW (.inl ()):ak (Unit⊕Unit)):=(ar.lines.aM _).ae λ_=>aF.ae λ_=>ar.ret _;refine aF.ae λ_=>ar.rep (iD.of (λ_=>(ar.dJ _).ae λt=>ar.ite ((ar.dm _).ae λ_=>hk) (ar.ret _)) (λ_=>fO.dJ (λt b=>fO.ite (fO.CO (mJ.dm 1) λ_=>hk) (fO.inr _)) ?_) (λ_=>iY.dJ ?_)) ()
 ·simp[or_self,cl,iY.inr]
 simp[or_self,cl,iY.inr]
end
def hX(c:Ctx)(n:Nat)(t:Tok):ak (Nat⊕Nat):=match t with
    | .eof=>aW (.inl (n+1))
    | .line=>ae cU λ_=>aW (.inl (n+1))
    | .word _ _=>bK
    | .op o=>if o=[59]\/o=[38] then ae (b2 1) λ_=>ae cU λ_=>aW (.inl (n+1)) else if dT c t then aW (.inr (n+1)) else bK
def eh(ao:ak Unit)(c:Ctx)(none:Bool)(n:Nat):ak (Nat⊕Nat):=ae (bQ (if none||n>0 then [] else [120])) λt=>
 if t= .eof then(if c= .text then aW (.inr n) else b7 (if none||n>0 then [] else [120])) else if(none||n>0)&&dT c t then aW (.inr n) else
 ae ao λ_=>ae (bQ []) (hX c n)
theorem uO(ao:ak Unit)(c:Ctx)(none:Bool):oz ao c none=ae (cU.aM (if none then [] else [120])) λ_=>cb (eh ao c none) 0:=rfl
theorem ar.ajb(c:Ctx)(n:Nat):ar (Go.Eng.ae (bQ []) (hX c n)):=by
 refine ar.fP (λt a=>?_) (ar.ret _);cases t with
 |eof=>grind
 |line=>exact(ar.lines.ae λ_=>ar.ret _).n
 |word w p=>exact dZ.bK
 |op o=>exact dZ.ite ((ar.dm _).ae λ_=>ar.lines.ae λ_=>ar.ret _).n (dZ.ite (ar.ret _).n dZ.bK)
theorem iD.round{ao:ak Unit}(i:ar ao)(c:Ctx)(none:Bool):iD (eh ao c none):=by
 refine⟨λn=>(ar.dJ _).ae λt=>ar.ite (ar.ite (ar.ret _) (ar.b7 _)) (ar.ite (ar.ret _) (i.ae λ_=>ar.ajb c n)),λ{n r pd z r' A} h=>?_⟩;obtain⟨t,r1,B,ad,b⟩:=b3 h;obtain⟨j,rfl,rfl⟩:=nB ad;have C:=(dV j).length_le;split at b
 ·split at b<;>cases b
 ·rename_i bc;have D:0<r1.length:=N0.2 λe=>bc (l2.2 e);split at b
  ·cases b
  ·obtain⟨_,E,F,k,l⟩:=b3 b;have a2:=(i.sfx k).length_le;obtain⟨t,m,G,q,a⟩:=b3 l;obtain⟨s,rfl,rfl⟩:=nB q;have a3:=(dV s).length_le;cases d:av m with
   |eof=>rw[d] at a;cases a;grind[l2]
   |line=>rw[d] at a;obtain⟨t,rfl⟩:=vY d;obtain⟨_,u,v,f,g⟩:=b3 a;cases g;have:=XT f;omega
   |word w p=>rw[d] at a;cases a
   |op o=>
    rw[d] at a;unfold hX at a;simp only at a;split at a
    ·obtain⟨_,u,v,f,g⟩:=b3 a;cases f;obtain⟨_,H,I,x,y⟩:=b3 g;cases y;have J:=(ar.lines.sfx x).length_le;grind
    ·split at a<;>cases a
theorem ar.list{ao:ak Unit}(a:ar ao)(c:Ctx)(none:Bool):ar (oz ao c none):=by rw[uO];exact(ar.lines.aM _).ae λ_=>ar.rep (iD.round a c none) 0
theorem XV{fr:Bool}{lo:Option dU}(j8:∀l∈lo,uM l)(b:Bool):uM {ls:=oz (hs (fu (gm fr lo (dM lo)))),pm:=q3 (dM lo),cp:=sA lo,rd:=gV (dM lo),dl:=dM lo,has:=b}:=
 have hD:=CS j8
 ⟨λc n=>ar.list (ar.pP (ar.pipe (ar.command j8 hD))) c n,ar.param hD,dZ.cp j8,ar.mK hD,hD⟩
theorem pQ(fr:Bool):∀n,uM (a1 fr n)
 |0=>XV (λl h=>by cases h) false
 |n+1=>XV (λl h=>by cases h;exact pQ fr n) true
theorem ajc{fr:Bool}{n:Nat}{u v r:aa}(hu:dx u)(h:hT fr n u= .bad r):r<:+u/\hT fr n (u++v)= .bad (r++v):=
 ((pQ fr n).ls .text true).bad v hu h|>.2
theorem ajd{fr:Bool}{n:Nat}{u v r:aa}(hu:dx u)(h:hT fr n u= .deep r):r<:+u/\hT fr n (u++v)= .deep (r++v):=
 ((pQ fr n).ls .text true).deep v hu h|>.2
def ff{α:Type}(f:ak α):Prop:=∀⦃u:aa⦄ ⦃pd:aq⦄ ⦃a:α⦄ ⦃r':aa⦄ ⦃b:aq⦄,dx u->u≠[]->f u pd= .ok a r' b->r'≠[]
def NE{α:Type}(f:ak α):Prop:=∀⦃u:aa⦄ ⦃pd:aq⦄ ⦃a:α⦄ ⦃r':aa⦄ ⦃b:aq⦄,dx u->f u pd= .ok a r' b->r'≠[]
theorem NE.k{α:Type}{f:ak α}(h:NE f):ff f:=λ_ _ _ _ _ hu _ e=>h hu e
theorem NE.o1{α β:Type}{m:ak α}{k:α->ak β}(c:ar m)(hm:NE m)(hk:∀a,ff (k a)):NE (ae m k):=by intro u pd b r' e hu h;obtain⟨a,r1,f,ad,d⟩:=b3 h;exact hk a (hu.sfx (c.sfx ad)) (hm hu ad) d
theorem NE.lv{α β:Type}{m:ak α}{k:α->ak β}(c:ar m)(hk:∀a,NE (k a)):NE (ae m k):=by intro u pd b r' e hu h;obtain⟨a,r1,f,ad,d⟩:=b3 h;exact hk a (hu.sfx (c.sfx ad)) d
theorem ff.ae{α β:Type}{m:ak α}{k:α->ak β}(c:ar m)(hm:ff m)(hk:∀a,ff (k a)):ff (Go.Eng.ae m k):=by intro u pd b r' e hu ax h;obtain⟨a,r1,f,ad,d⟩:=b3 h;exact hk a (hu.sfx (c.sfx ad)) (hm hu ax ad) d
theorem ff.ret{α:Type}(a:α):ff (aW a):=by intro u pd b r' c hu ax h;cases h;exact ax
theorem NE.more{α:Type}(x:aa):NE (b7 x:ak α):=by intro u pd b r' a hu h;cases h
theorem NE.bad{α:Type}:NE (bK:ak α):=by intro u pd b r' a hu h;cases h
theorem NE.deep{α:Type}:NE (uJ:ak α):=by intro u pd b r' a hu h;cases h
theorem ff.ite{α:Type}{c:Prop}[Decidable c]{f g:ak α}(hf:ff f)(bf:ff g):ff (if c then f else g):=by grind
theorem NE.ite{α:Type}{c:Prop}[Decidable c]{f g:ak α}(hf:NE f)(bf:NE g):NE (if c then f else g):=by grind
theorem NE.aM{α:Type}{m:ak α}(h:NE m)(x:aa):NE (m.aM x):=λ_ _ _ _ _ hu e=>h hu (jC.1 e)
theorem NE.named{α:Type}{m:ak α}(h:NE m)(x:aa):NE (m.named x):=λ_ _ _ _ _ hu e=>h hu (CN.1 e)
theorem ff.dJ(x:aa):ff (bQ x):=by intro u pd t r' a hu ax h;obtain⟨ad,_,_⟩:=nB h;exact(ts [] ad hu ax).1
theorem NE.fP{α:Type}{x:aa}{k:Tok->ak α}(h:∀t r,t≠ .eof->dx r->av r=t->∀{pd a r' c},k t r pd= .ok a r' c->r'≠[])(h0:NE (k .eof)):NE (ae (bQ x) k):=by
 intro u pd b r' c hu e;obtain⟨t,r1,j,ad,d⟩:=b3 e;obtain⟨f,rfl,rfl⟩:=nB ad;have g:=hu.sfx (dV f);by_cases i:av r1= .eof
 ·rw[i] at d;exact h0 g d
 grind
theorem Mj{o r:aa}(a:(10:UInt8)∉o)(aB:o<+:r)(b:dx r)(ax:r≠[]):r.drop o.length≠[]:=by obtain⟨t,rfl⟩:=aB;rw[pf];rintro rfl;grind[XL]
theorem aje{r:aa}:bs r∈lq\/bs r=[]:=by
 unfold bs;cases h:lq.find? (λo=>o.isPrefixOf r) with
 |none=>simp
 |some o=>grind
theorem XW{r:aa}:(10:UInt8)∉bs r:=by
 rcases aje (r:=r) with h|h
 ·have:∀o∈lq,(10:UInt8)∉o:=by decide
  grind
 grind
theorem iq{r o:aa}(h:av r= .op o):o=bs r/\o<+:r/\(10:UInt8)∉o/\o≠[]:=by
 cases r with
 |nil=>grind[av]
 |cons b t=>
  simp only[av] at h;split at h
  ·cases h
  ·split at h
   ·rename_i ad;cases h;exact⟨rfl,RQ,XW,ad⟩
   grind
theorem Fo:∀(r w:aa),c8 r=(w,true)->w<+:r/\(10:UInt8)∉w
 |[],w,h=>by grind[c8]
 |b::t,w,h=>by
  rw[c8] at h;split at h
  ·grind
  ·rename_i d;split at h
   ·cases h
   ·split at h
    ·rename_i w' a;cases h;obtain⟨c,e⟩:=Fo t w' a;refine⟨List.cons_prefix_cons.2 ⟨rfl,c⟩,?_⟩;simp only[kc,GO];grind[Me]
    grind
theorem qu{r w:aa}(h:av r= .word w true):w<+:r/\(10:UInt8)∉w:=by
 cases r with
 |nil=>grind[av]
 |cons b t=>grind[av,Tok.word.injEq,Fo]
theorem NE.exp{b:Tok->Bool}{n:Nat}(h:∀r t,dx r->av r=t->b t=true->r.drop n≠[]):NE (na b n):=by
 refine NE.fP (λt r c d he {pd a r' f} e=>?_) ?_
 ·rw[aS c] at e;split at e
  ·rename_i g;cases e;grind
  ·cases e
 ·rw[bo rfl];exact NE.more _
theorem NE.op(o:aa):NE (jR o):=by
 refine NE.exp λr t a he d=>?_;have:t= .op o:=by grind
 subst this;obtain⟨ad,b,c,e⟩:=iq he;exact Mj c b a (by grind)
theorem NE.res(w:aa):NE (cY w):=by
 refine NE.exp λr t a he c=>?_;have:t= .word w true:=by grind[cG]
 subst this;obtain⟨ad,b⟩:=qu he;exact Mj b ad a (by rintro rfl;grind[av])
theorem Mk{σ α:Type}{f:σ->ak (σ⊕α)}(hf:iD f)(P:aa->Prop)(Q:aa->Prop)(ad:∀s r pd s' r' b,P r->f s r pd= .ok (.inl s') r' b->P r')(c:∀s r pd a r' b,P r->f s r pd= .ok (.inr a) r' b->Q r'):
  ∀(n:Nat)(s:σ)(r:aa)(pd:aq)(a:α)(r':aa)(b:aq),r.length<=n->P r->cb f s r pd= .ok a r' b->Q r':=by
 intro n;induction n with
 |zero=>grind[qp]
 |succ n d=>intro s r pd a r' b ax aB h;rw[qp] at h;grind
theorem NE.word{D:ak Unit}(hD:hU D):NE (cQ D):=by
 intro u pd a r' b hu h;refine Mk (iD.word hD) (λ_=>True) (λr=>r≠[]) (λ_ _ _ _ _ _ _ _=>trivial) ?_ _ _ _ _ _ _ _ (cX _) trivial h;intro s r pd a r' b _ e;split at e
 ·cases e
 ·split at e
  ·grind
  ·obtain⟨_,_,_,_,e⟩:=b3 e;cases e
theorem NE.sC(tabs:Bool):NE (hr tabs):=by intro u pd a r' b hu h;grind[CR,vW]
theorem NE.Fl{D:ak Unit}(hD:hU D)(x:aa):NE (jQ D x):=by
 refine NE.fP (λt r c b he {pd a r' d} e=>?_) (NE.more x);cases t with
 |eof=>grind
 |word w p=>exact NE.word hD b e
 |_=>cases e
theorem ff.jm{D:ak Unit}(hD:hU D):ff (dF D):=by
 intro u pd a r' g hu ax h;obtain⟨o,r1,i,ad,b⟩:=b3 h;cases o with
 |none=>
  cases b;unfold fJ at ad;split at ad
  ·cases ad
  ·rename_i q c;simp only at ad;split at ad
   ·cases ad
   ·cases ad;exact(ts [] c hu ax).1
 |some o=>obtain⟨_,j,k,d,e⟩:=b3 b;cases e;have f:=hu.sfx (ar.XJ.sfx ad);have:NE (if o=[60,60] then hr false else if o=[60,60,45] then hr true else jQ D [120]):=NE.ite (NE.sC _) (NE.ite (NE.sC _) (NE.Fl hD _));exact this f d
theorem ajf{D:ak Unit}(hD:hU D):iD (λ(_:Unit)=>ae (dF D) λb=>aW (if b then .inl () else .inr ()):Unit->ak (Unit⊕Unit)):=by
 refine⟨λ_=>(ar.jm hD).ae λb=>ar.ret _,λ{s r pd s' r' c} h=>?_⟩;obtain⟨b,r1,d,ad,a⟩:=b3 h;cases b with
 |true=>cases a;exact sD hD ad
 |false=>cases a
theorem ff.rep{σ α:Type}{f:σ->ak (σ⊕α)}(hf:iD f)(hk:∀s,ff (f s))(s:σ):ff (cb f s):=by intro u pd a r' b hu ax h;have:=Mk hf (λr=>dx r/\r≠[]) (λr=>r≠[]) (λs r pd s' r' b aB e=>⟨aB.1.sfx ((hf.ex s).sfx e),hk s aB.1 aB.2 e⟩) (λs r pd a r' b aB e=>hk s aB.1 aB.2 e);exact this _ _ _ _ _ _ _ (cX _) ⟨hu,ax⟩ h
theorem ff.mK{D:ak Unit}(hD:hU D):ff (gV D):=ff.rep (ajf hD) (λ_=>ff.ae (ar.jm hD) (ff.jm hD) λb=>ff.ret _) ()
theorem ajg{D:ak Unit}(hD:hU D)(fr:Bool):iD (λ(_:Unit)=>ae (dF D) λb=>if b then aW (.inl ()) else ae (bQ []) λt=>match t with
 | .word _ _=>ae (cQ D) λ_=>aW (.inl ())
 | .op o=>if fr/\o=[40] then bK else aW (.inr ())
 |_=>aW (.inr ()):Unit->ak (Unit⊕Unit)):=by
 have he:ar (ae (bQ []) λt=>match t with
  | .word _ _=>ae (cQ D) λ_=>aW (.inl ())
  | .op o=>if fr/\o=[40] then bK else aW (.inr ())
  |_=>aW (.inr ()):ak (Unit⊕Unit)):=by
  refine ar.fP (λt c=>?_) (ar.ret _);cases t with
  |word w p=>exact((ar.word hD).ae λ_=>ar.ret _).n
  |op o=>exact dZ.ite dZ.bK (ar.ret _).n
  |_=>exact(ar.ret _).n
 have hl:fO (ae (bQ []) λt=>match t with
  | .word _ _=>ae (cQ D) λ_=>aW (.inl ())
  | .op o=>if fr/\o=[40] then bK else aW (.inr ())
  |_=>aW (.inr ()):ak (Unit⊕Unit)):=by
  refine fO.Mf hD (λt c d=>?_) (iY.inr _) (λw p=>⟨cQ D,_,rfl,Iff.rfl,λ_=>ar.ret _⟩);cases t with
  |word w p=>grind
  |op o=>simp[fO.ite,fO.bad,fO.inr]
  |_=>simp[fO.inr]
 refine⟨λ_=>(ar.jm hD).ae λb=>ar.ite (ar.ret _) he,λ{s r pd s' r' e} h=>?_⟩;obtain⟨b,r1,f,ad,a⟩:=b3 h;cases b with
 |true=>cases a;exact sD hD ad
 |false=>
  have g:=((ar.jm hD).sfx ad).length_le;by_cases ax:r1=[]
  ·subst ax;simp only[ew,cl] at a;have:iY (ae (bQ []) λt=>match t with
    | .word _ _=>ae (cQ D) λ_=>aW (.inl ())
    | .op o=>if fr/\o=[40] then bK else aW (.inr ())
    |_=>aW (.inr ()):ak (Unit⊕Unit)):=iY.dJ (iY.inr _)
   exact absurd a this
  ·simp only[ew,cl] at a;have:=hl ax a;omega
theorem ff.simple{D:ak Unit}(hD:hU D)(fr:Bool):ff (hH fr D):=by
 refine ff.rep (ajg hD fr) (λ_=>ff.ae (ar.jm hD) (ff.jm hD) λb=>ff.ite (ff.ret _) ?_) ();refine ff.ae (ar.dJ _) (ff.dJ _) λt=>?_;cases t with
 |word w p=>exact ff.ae (ar.word hD) (NE.word hD).k λ_=>ff.ret _
 |op o=>exact ff.ite NE.bad.k (ff.ret _)
 |_=>simp[ff.ret]
structure Ml(l:dU):Prop where
 cp:∀t,NE (l.cp t)
 rd:ff l.rd
section
variable{l:dU}(hl:uM l)
include hl
theorem NE.body(x:aa):NE (iP l x):=NE.lv ((ar.res _).aM _) λ_=>NE.lv ((hl.ls _ _).aM _) λ_=>NE.res _
theorem NE.rep{σ α:Type}{f:σ->ak (σ⊕α)}(hf:iD f)(hk:∀s {u pd a r' b},dx u->f s u pd= .ok (.inr a) r' b->r'≠[])(s:σ):NE (cb f s):=by intro u pd a r' b hu h;have:=Mk hf (λr=>dx r) (λr=>r≠[]) (λs r pd s' r' b aB e=>aB.sfx ((hf.ex s).sfx e)) (λs r pd a r' b aB e=>hk s aB e);exact this _ _ _ _ _ _ _ (cX _) hu h
theorem XX:iD (λ(_:Unit)=>ae ((l.ls .rL false).aM ([10]++iX++[32,120,10]++fe)) λ_=>ae (cY iX) λ_=>ae ((l.ls .qo false).aM (10::fe)) λ_=>
  ae (bQ []) λt=>if cG t il then ae (cY il) λ_=>aW (.inl ()) else
   if cG t hR then ae (cY hR) λ_=>ae ((l.ls .jY false).aM (10::fe)) λ_=>ae (cY fe) λ_=>aW (.inr ()) else ae (cY fe) λ_=>aW (.inr ()):Unit->ak (Unit⊕Unit)):=by
 refine⟨λ_=>((hl.ls _ _).aM _).ae λ_=>(ar.res _).ae λ_=>((hl.ls _ _).aM _).ae λ_=>(ar.dJ _).ae λt=>ar.ite ((ar.res _).ae λ_=>ar.ret _) (ar.ite ((ar.res _).ae λ_=>((hl.ls _ _).aM _).ae λ_=>(ar.res _).ae λ_=>ar.ret _) ((ar.res _).ae λ_=>ar.ret _)),λ{s r pd s' r' g} h=>?_⟩;obtain⟨_,r1,i,ad,h⟩:=b3 h;obtain⟨_,j,k,d,h⟩:=b3 h;obtain⟨_,m,n,e,h⟩:=b3 h;obtain⟨t,o,p,f,h⟩:=b3 h;have q:=((hl.ls _ _).sfx (jC.1 ad)).length_le;have a2:=((ar.res _).sfx d).length_le;have a3:=((hl.ls _ _).sfx (jC.1 e)).length_le;have u:=((ar.dJ _).sfx f).length_le;split at h
 ·obtain⟨_,b,c,a,h⟩:=b3 h;cases h;have:=RV (by decide) a;omega
 ·split at h
  ·obtain⟨_,b,c,a,h⟩:=b3 h;obtain⟨_,v,w,x,h⟩:=b3 h;obtain⟨_,y,z,A,h⟩:=b3 h;cases h
  ·obtain⟨_,b,c,a,h⟩:=b3 h;cases h
theorem NE.cond:NE (q6 l):=by
 refine NE.rep hl (XX hl) (λs {u pd a r' p} hu h=>?_) ();obtain⟨_,r1,q,ad,h⟩:=b3 h;obtain⟨_,r,v,f,h⟩:=b3 h;obtain⟨_,w,x,g,h⟩:=b3 h;obtain⟨t,y,z,i,h⟩:=b3 h;have j:=hu.sfx ((hl.ls _ _).sfx (jC.1 ad));have k:=j.sfx ((ar.res _).sfx f);have m:=k.sfx ((hl.ls _ _).sfx (jC.1 g));have c:=m.sfx ((ar.dJ _).sfx i);split at h
 ·obtain⟨_,d,e,b,h⟩:=b3 h;cases h
 ·split at h
  ·obtain⟨_,d,e,b,h⟩:=b3 h;obtain⟨_,A,B,n,h⟩:=b3 h;obtain⟨_,C,D,o,h⟩:=b3 h;cases h;exact NE.res _ ((c.sfx ((ar.res _).sfx b)).sfx ((hl.ls _ _).sfx (jC.1 n))) o
  ·obtain⟨_,d,e,b,h⟩:=b3 h;cases h;exact NE.res _ c b
theorem NE.for_{D:ak Unit}(hD:hU D):NE (pO l D):=by
 have a:ar (ae (bQ []) λt=>if t= .op [59] then ae (b2 1) λ_=>ae cU λ_=>aW () else
   ae cU λ_=>ae (bQ []) λt=>if cG t fB then ae (b2 2) λ_=>ae (pN D) λ_=>ae cU λ_=>aW () else aW ()):=
  (ar.dJ _).ae λt=>ar.ite ((ar.dm _).ae λ_=>ar.lines.ae λ_=>ar.ret _) (ar.lines.ae λ_=>(ar.dJ _).ae λt=>ar.ite ((ar.dm _).ae λ_=>(ar.words hD).ae λ_=>ar.lines.ae λ_=>ar.ret _) (ar.ret _))
 refine NE.lv (ar.dJ _) λt=>?_;cases t with
 |eof=>simp[NE.more]
 |word w p=>
  cases p with
  |true=>exact NE.ite (NE.lv (ar.dm _) λ_=>NE.lv (a.aM _) λ_=>NE.body hl _) NE.bad
  |false=>exact NE.bad
 |_=>exact NE.bad
end
theorem ajh{r w:aa}{n:Nat}(he:cG (av r) w=true)(ax:n=w.length)(a:dx r):r.drop n≠[]:=by
 have:av r= .word w true:=by grind[cG]
 obtain⟨ad,b⟩:=qu this;subst ax;exact Mj b ad a (by rintro rfl;grind[av])
theorem aji{r o:aa}{n:Nat}(he:av r= .op o)(ax:n=o.length)(a:dx r):r.drop n≠[]:=by obtain⟨ad,b,c,d⟩:=iq he;subst ax;exact Mj c b a (by grind)
section
variable{l:dU}(hl:uM l)
include hl
theorem XY{D:ak Unit}(hD:hU D):iD (λ(_:Unit)=>ae cU λ_=>ae (bQ []) λt=>if t= .eof then b7 [] else if cG t ev then ae (b2 4) λ_=>aW (.inr ()) else
 ae ((if t= .op [40] then b2 1 else aW ())) λ_=>ae (kZ D) λ_=>ae (l.ls .item true) λ_=>ae (bQ []) λt=>if t= .op [59,59] then ae (b2 2) λ_=>aW (.inl ()) else aW (.inl ()):Unit->ak (Unit⊕Unit)):=by
 have a:ar (ae (kZ D) λ_=>ae (l.ls .item true) λ_=>ae (bQ []) λt=>if t= .op [59,59] then ae (b2 2) λ_=>aW (.inl ()) else aW (.inl ()):ak (Unit⊕Unit)):=
  (ar.xj hD).ae λ_=>(hl.ls _ _).ae λ_=>(ar.dJ _).ae λt=>ar.ite ((ar.dm _).ae λ_=>ar.ret _) (ar.ret _)
 refine⟨λ_=>ar.lines.ae λ_=>(ar.dJ _).ae λt=>ar.ite (ar.b7 _) (ar.ite ((ar.dm _).ae λ_=>ar.ret _) ((ar.ite (ar.dm _) (ar.ret _)).ae λ_=>a)),λ{s r pd s' r' i} h=>?_⟩;obtain⟨_,r1,j,ad,h⟩:=b3 h;obtain⟨t,k,m,b,h⟩:=b3 h;have n:=(ar.lines.sfx ad).length_le;have a2:=((ar.dJ _).sfx b).length_le;split at h
 ·cases h
 ·split at h
  ·obtain⟨_,_,_,_,h⟩:=b3 h;cases h
  ·obtain⟨_,o,p,c,h⟩:=b3 h;have a3:=((ar.ite (ar.dm 1) (ar.ret ())).sfx c).length_le;obtain⟨_,q,u,d,h⟩:=b3 h;have v:=RY hD d;obtain⟨_,w,x,e,h⟩:=b3 h;have y:=((hl.ls _ _).sfx e).length_le;obtain⟨_,z,A,f,h⟩:=b3 h;have B:=((ar.dJ _).sfx f).length_le;split at h
   ·obtain⟨_,C,E,g,h⟩:=b3 h;cases h;have:=((ar.dm 2).sfx g).length_le;omega
   ·cases h;omega
theorem NE.items{D:ak Unit}(hD:hU D):NE (nA l D):=by
 refine NE.rep hl (XY hl hD) (λs {u pd a r' o} hu h=>?_) ();obtain⟨_,r1,p,ad,f⟩:=b3 h;obtain⟨t,q,r,g,b⟩:=b3 f;obtain⟨i,rfl,rfl⟩:=nB g;have j:=(hu.sfx (ar.lines.sfx ad)).sfx (dV i);split at b
 ·cases b
 ·split at b
  ·rename_i he;obtain⟨_,_,_,e,c⟩:=b3 b;cases e;cases c;exact ajh he rfl j
  ·obtain⟨_,v,w,e,c⟩:=b3 b;obtain⟨_,x,y,z,k⟩:=b3 c;obtain⟨_,A,B,C,m⟩:=b3 k;obtain⟨_,E,F,G,d⟩:=b3 m;split at d
   ·obtain⟨_,H,I,J,n⟩:=b3 d;cases n
   ·cases d
theorem NE.xk{D:ak Unit}(hD:hU D):NE (q7 l D):=by
 have ad:ar (ae (cQ D) λ_=>ae cU λ_=>ae (bQ []) λt=>if t= .eof then b7 [] else aW t):=
  (ar.word hD).ae λ_=>ar.lines.ae λ_=>(ar.dJ _).ae λt=>ar.ite (ar.b7 _) (ar.ret _)
 refine NE.lv (ar.dJ _) λt=>?_;cases t with
 |eof=>simp[NE.more]
 |word w p=>exact NE.lv (ad.aM _) λt=>NE.ite (NE.lv (ar.dm _) λ_=>NE.aM (NE.items hl hD) _) NE.bad
 |_=>exact NE.bad
theorem NE.kind(t:Tok):NE (hS l t):=by
 cases t with
 |op o=>show NE (ae (b2 1) λ_=>ae ((l.ls .paren false).aM [41]) λ_=>jR [41]);exact NE.lv (ar.dm _) λ_=>NE.lv ((hl.ls _ _).aM _) λ_=>NE.op _
 |word w p=>unfold hS;exact NE.lv (ar.dm _) λ_=>NE.ite (NE.lv ((hl.ls _ _).aM _) λ_=>NE.res _) (NE.ite (NE.cond hl) (NE.ite (NE.for_ hl hl.dl) (NE.ite (NE.xk hl hl.dl) (NE.lv ((hl.ls _ _).aM _) λ_=>NE.body hl _))))
 |_=>exact NE.bad
end
section
variable{fr:Bool}{lo:Option dU}(j8:∀l∈lo,uM l)(hle:∀l∈lo,Ml l)
include j8 hle
omit hle in
theorem NE.cp(t:Tok):NE (sA lo t):=by
 cases lo with
 |none=>exact NE.deep
 |some l=>exact NE.named (NE.kind (j8 l rfl) t) _
theorem NE.function:NE (mf fr lo):=by
 cases lo with
 |none=>exact NE.deep
 |some l=>
  have hl:=j8 l rfl;have he:=hle l rfl;unfold mf;simp only;refine NE.ite (NE.named ?_ _) NE.deep;refine NE.lv (ar.dm _) λ_=>NE.lv (ar.dJ _) λt=>NE.ite (NE.more _) (NE.ite ?_ NE.bad);refine NE.lv (ar.dm _) λ_=>NE.lv (ar.lines.aM _) λ_=>NE.lv (ar.dJ _) λt=>NE.ite (NE.more _) (NE.ite ?_ NE.bad);intro u pd b r' e hu h;obtain⟨_,r1,f,ad,a⟩:=b3 h;have d:=hu.sfx ((hl.cp t).sfx ad);have c:=he.cp t hu ad;split at a
  ·exact he.rd d c a
  ·cases a;exact c
theorem NE.command{D:ak Unit}(hD:hU D):NE (gm fr lo D):=by
 refine NE.fP (λt r m c he {pd a r' B} e=>?_) (by rw[bo rfl];exact NE.more _);have n:r≠[]:=by rintro rfl;exact m he.symm
 rw[aS m] at e;split at e
 ·obtain⟨_,r1,y,ad,d⟩:=b3 e;exact ff.mK hD (c.sfx ((dZ.cp j8 t).sfx ad)) (NE.cp j8 t c ad) d
 ·cases t with
  |eof=>grind
  |line=>cases e
  |op o=>
   simp only at e;split at e
   ·exact ff.ae (ar.jm hD) (ff.jm hD) (λ_=>ff.simple hD fr) c n e
   ·cases e
  |word w p=>
   simp only at e;split at e
   ·cases e
   ·obtain⟨b,r1,y,ad,d⟩:=b3 e;have f:=c.sfx ((ar.jm hD).sfx ad);have z:=ff.jm hD c n ad;split at d
    ·exact ff.simple hD fr f z d
    ·obtain⟨_,C,E,q,g⟩:=b3 d;have h:=f.sfx ((ar.word hD).sfx q);have s:=NE.word hD f q;split at g
     ·obtain⟨F,G,H,u,i⟩:=b3 g;have j:=h.sfx ((ar.dJ _).sfx u);have A:=ff.dJ _ h s u;split at i
      ·obtain⟨_,I,J,v,k⟩:=b3 i;have l:=j.sfx ((dZ.function j8).sfx v);have x:=NE.function j8 hle j v;split at k
       ·cases k;exact x
       ·exact ff.mK hD l x k
      ·exact ff.simple hD fr j A i
     ·exact ff.simple hD fr h s g
end
theorem ajk{df:ak Unit}(aF:ar df):iD (λ(_:Unit)=>ae (bQ []) λt=>if t= .op [124] then ae (b2 1) λ_=>ae (cU.aM [120]) λ_=>ae df λ_=>aW (.inl ()) else aW (.inr ()):Unit->ak (Unit⊕Unit)):=by
 have hk:ar (ae (cU.aM [120]) λ_=>ae df λ_=>aW (.inl ()):ak (Unit⊕Unit)):=(ar.lines.aM _).ae λ_=>aF.ae λ_=>ar.ret _;refine iD.of (λ_=>(ar.dJ _).ae λt=>ar.ite ((ar.dm _).ae λ_=>hk) (ar.ret _)) (λ_=>fO.dJ (λt a=>fO.ite (fO.CO (mJ.dm 0) λ_=>hk) (fO.inr _)) ?_) (λ_=>iY.dJ ?_)
 ·simp[cl,iY.inr]
 simp[cl,iY.inr]
theorem NE.pipe{df:ak Unit}(a:ar df)(aF:NE df):NE (fu df):=by refine NE.lv (ar.dJ _) λt=>NE.lv (ar.ite (ar.dm _) (ar.ret _)) λ_=>NE.o1 a aF λ_=>ff.rep (ajk a) (λ_=>ff.ae (ar.dJ _) (ff.dJ _) λt=>ff.ite ?_ (ff.ret _)) ();refine NE.k (NE.lv (ar.dm _) λ_=>NE.lv (ar.lines.aM _) λ_=>NE.o1 a aF λ_=>ff.ret _)
theorem ajl{a:ak Unit}(aF:ar a):iD (λ(_:Unit)=>ae (bQ []) λt=>if t= .op [38,38]\/t= .op [124,124] then ae (b2 2) λ_=>ae (cU.aM [120]) λ_=>ae a λ_=>aW (.inl ()) else aW (.inr ()):Unit->ak (Unit⊕Unit)):=by
 have hk:ar (ae (cU.aM [120]) λ_=>ae a λ_=>aW (.inl ()):ak (Unit⊕Unit)):=(ar.lines.aM _).ae λ_=>aF.ae λ_=>ar.ret _;refine iD.of (λ_=>(ar.dJ _).ae λt=>ar.ite ((ar.dm _).ae λ_=>hk) (ar.ret _)) (λ_=>fO.dJ (λt b=>fO.ite (fO.CO (mJ.dm 1) λ_=>hk) (fO.inr _)) ?_) (λ_=>iY.dJ ?_)
 ·simp[or_self,cl,iY.inr]
 simp[or_self,cl,iY.inr]
theorem NE.pP{a:ak Unit}(b:ar a)(aF:NE a):NE (hs a):=by refine NE.o1 b aF λ_=>ff.rep (ajl b) (λ_=>ff.ae (ar.dJ _) (ff.dJ _) λt=>ff.ite ?_ (ff.ret _)) ();refine NE.k (NE.lv (ar.dm _) λ_=>NE.lv (ar.lines.aM _) λ_=>NE.o1 b aF λ_=>ff.ret _)
theorem ajm(fr:Bool):∀n,Ml (a1 fr n)
 |0=>⟨λt=>NE.cp (lo:=none) (λl h=>by cases h) t,ff.mK (CS (lo:=none) λl h=>by cases h)⟩
 |n+1=>⟨λt=>NE.cp (lo:=some (a1 fr n)) (λl h=>by grind[pQ]) t,ff.mK (CS (lo:=some (a1 fr n)) λl h=>by grind[pQ])⟩
def jn(fr:Bool):Nat->ak Unit
 |0=>hs (fu (gm fr none (dM none)))
 |n+1=>hs (fu (gm fr (some (a1 fr n)) (dM (some (a1 fr n)))))
theorem Fq(fr:Bool)(n:Nat):(a1 fr n).ls=oz (jn fr n):=by cases n<;>rfl
theorem X0(fr:Bool):∀n,ar (jn fr n)/\NE (jn fr n)
 |0=>by
  have ad:∀l∈(none:Option dU),uM l:=λl h=>by cases h
  have b:∀l∈(none:Option dU),Ml l:=λl h=>by cases h
  have a:=ar.command (fr:=fr) ad (CS ad);exact⟨ar.pP (ar.pipe a),NE.pP (ar.pipe a) (NE.pipe a (NE.command ad b (CS ad)))⟩
 |n+1=>by
  have ad:∀l∈some (a1 fr n),uM l:=λl h=>by grind[pQ]
  have b:∀l∈some (a1 fr n),Ml l:=λl h=>by grind[ajm]
  have a:=ar.command (fr:=fr) ad (CS ad);exact⟨ar.pP (ar.pipe a),NE.pP (ar.pipe a) (NE.pipe a (NE.command ad b (CS ad)))⟩
def cO{σ α:Type}(f:σ->ak (σ⊕α))(r:aa)(x:dw (σ⊕α)):dw α:=match x with
 | .ok (.inl s') r' b=>if r'.length<r.length then cb f s' r' b else .bad r'
 | .ok (.inr a) r' b=> .ok a r' b
 | .more op nd ds=> .more op nd ds
 | .bad r=> .bad r
 | .deep r=> .deep r
theorem cH{σ α:Type}(f:σ->ak (σ⊕α))(s:σ)(r:aa)(pd:aq):cb f s r pd=cO f r (f s r pd):=by grind[qp,cO]
theorem dh{α β:Type}{m:ak α}{k:α->ak β}{r:aa}{pd:aq}{op:bt}{nd:aa}{ds:aq}(h:m r pd= .more op nd ds):ae m k r pd= .more op nd ds:=by grind[ae]
theorem g5{α β:Type}{m:ak α}{k:α->ak β}{r:aa}{pd:aq}{q:aa}(h:m r pd= .bad q):ae m k r pd= .bad q:=by grind[ae]
theorem iE{x r:aa}{pd:aq}(h:bx r=none):bQ x r pd=b7 x r pd:=by grind[bQ]
theorem cB{x r r':aa}{pd:aq}(h:bx r=some r'):bQ x r pd= .ok (av r') r' pd:=by grind[bQ]
def h9(some:Bool):ak (Bool⊕Bool):=ae (bQ []) λt=>if t= .line then ae jj λ_=>aW (.inl true) else aW (.inr some)
theorem sE:cU=cb h9 false:=rfl
theorem uP{b:Bool}{r t:aa}{pd:aq}(h:bx r=some (10::t)):h9 b r pd=ae jj (λ_=>aW (.inl true)) (10::t) pd:=by
 have:bQ [] r pd= .ok .line (10::t) pd:=by unfold bQ;rw[h];rfl
 unfold h9;rw[aZ this,bo rfl]
theorem rM{b:Bool}{r r1:aa}{pd:aq}(h:bx r=some r1)(a:av r1≠ .line):h9 b r pd= .ok (.inr b) r1 pd:=by
 have:bQ [] r pd= .ok (av r1) r1 pd:=by grind[bQ]
 unfold h9;rw[aZ this,aS a];rfl
theorem X1:∀(n:Nat)(b:Bool)(u:aa)(pd:aq)(d:Bool)(e:aq),u.length<=n->dx u->u≠[]->cb h9 b u pd= .ok d [] e->
  e=[]/\d=true/\∀v,cb h9 b (u++v) pd=cb h9 true v []:=by
 intro n;induction n with
 |zero=>grind
 |succ n k=>
  intro b u pd d e ax hu bc h;rw[qp] at h;cases c:bx u with
  |none=>
   have:h9 b u pd= .more [] (cP [] pd []).1 (cP [] pd []).2:=by exact dh (iE c)
   grind
  |some r1=>
   have s1:=dV c;by_cases g:av r1= .line
   ·obtain⟨t,rfl⟩:=vY g;rw[uP c] at h;have nt:dx t:=(hu.sfx s1).tail;cases f:mc pd t with
    |inr nd=>grind[ae,jj,aW,tu]
    |inl a=>
     have l:ae jj (λ_=>aW (.inl true)) (10::t) pd=(.ok (.inl true) a []:dw (Bool⊕Bool)):=by unfold ae;rw[tu,f];rfl
     rw[l] at h;have s2:=(vT pd t [] a f).1;have m:=s1.length_le;have o:=s2.length_le;simp only[mA] at m;simp only[show a.length<u.length by omega,cD] at h
     have step:∀v,cb h9 b (u++v) pd=cb h9 true (a++v) []:=by
      intro v;rw[qp];have i:=(ts v c hu bc).2;simp only[gX] at i;rw[uP i];have p:ae jj (λ_=>aW (.inl true)) (10::(t++v)) pd=(.ok (.inl true) (a++v) []:dw (Bool⊕Bool)):=by unfold ae;rw[tu,(vT pd t v a f).2 nt];rfl
      grind
     by_cases j:a=[]
     ·subst j;have:cb h9 true [] []=(.ok true [] []:dw Bool):=by rw[qp,rM (r1:=[]) mg (by decide)]
      grind
     ·obtain⟨q,r,s⟩:=k true a [] d e (by omega) (nt.sfx s2) j h;grind
   ·rw[rM c g] at h;cases h;exact absurd rfl (ts [] c hu bc).1
theorem ajn{fr:Bool}{lo:Option dU}{D:ak Unit}{c:Ctx}{r:aa}{pd:aq}(e:bx r=some r)(he:dT c (av r)=true)(ax:av r≠ .eof):gm fr lo D r pd= .bad r:=by
 have aB:bQ [120] r pd= .ok (av r) r pd:=by grind[bQ]
 unfold gm;rw[aZ aB,aS ax]
 have a:(∃w,av r= .word w true/\rK w=true/\q4 w=false)\/∃o,av r= .op o/\e2 o=false/\o≠[40]:=by
  cases c<;>simp[dT,cG] at he
  ·grind
  ·exact .inr ⟨_,he,by decide,by decide⟩
  ·exact .inl ⟨_,he,by decide,by decide⟩
  ·exact .inl ⟨_,he,by decide,by decide⟩
  ·rcases he with(he|he)|he<;>exact .inl ⟨_,he,by decide,by decide⟩
  ·exact .inl ⟨_,he,by decide,by decide⟩
  ·exact .inl ⟨_,he,by decide,by decide⟩
  ·exact .inl ⟨_,he,by decide,by decide⟩
  ·rcases he with he|he
   ·exact .inr ⟨_,he,by decide,by decide⟩
   ·exact .inl ⟨_,he,by decide,by decide⟩
 rcases a with⟨w,ad,b,d⟩|⟨o,ad,b,d⟩
 ·simp_all[hG,bK]
 simp_all[hG,bK]
theorem lO:∀(n:Nat)(r r':aa),r.length<=n->bx r=some r'->bx r'=some r':=by
 intro n;induction n with
 |zero=>grind[List.length_eq_zero_iff,mg]
 |succ n a=>
  intro r r' ax h;cases r with
  |nil=>grind
  |cons b t=>grind[List.length_cons,nX,AM]
theorem ajo{c:Ctx}{t:Tok}(he:dT c t=true):cG t [33]=false:=by
 cases t with
 |word w p=>
  cases h:cG (.word w p) [33] with
  |false=>rfl
  |true=>
   have:w=[33]/\p=true:=by grind[cG]
   obtain⟨rfl,rfl⟩:=this;cases c<;>simp[dT,cG,iX,il,hR,fe,gU,iO,ev] at he
 |_=>rfl
theorem ajp{fr:Bool}{m:Nat}{c:Ctx}{r:aa}{pd:aq}(b:bx r=some r)(he:dT c (av r)=true)(ax:av r≠ .eof):jn fr m r pd= .bad r:=by
 have aB:bQ [120] r pd= .ok (av r) r pd:=by grind[bQ]
 have a:∀(lo:Option dU)(D:ak Unit),hs (fu (gm fr lo D)) r pd= .bad r:=by
  intro lo D;have ad:=ajn (fr:=fr) (lo:=lo) (D:=D) (pd:=pd) b he ax;have d:fu (gm fr lo D) r pd= .bad r:=by unfold fu;rw[aZ aB,ajo he];simp only[ew,cl];rw[aZ (show aW () r pd= .ok () r pd from rfl)];unfold ae;rw[ad]
  simp_all[hs,ae]
 cases m<;>exact a _ _
theorem R1{ao:ak Unit}{c:Ctx}{none:Bool}{n:Nat}{pd:aq}:eh ao c none n [] pd=if c= .text then .ok (.inr n) [] pd else b7 (if none||n>0 then [] else [120]) [] pd:=by unfold eh;rw[aZ (cB mg)];rw[show av []= .eof from rfl,bo rfl];split<;>rfl
theorem Mm{ao:ak Unit}{c:Ctx}{none:Bool}{n:Nat}{r r1:aa}{pd:aq}(a:bx r=some r1)(ax:av r1≠ .eof)(he:dT c (av r1)=false):eh ao c none n r pd=ae ao (λ_=>ae (bQ []) (hX c n)) r1 pd:=by unfold eh;rw[aZ (cB a),aS ax,he];simp
theorem ajq{ao:ak Unit}{c:Ctx}{none:Bool}{n:Nat}{r r1:aa}{pd:aq}(a:bx r=some r1)(ax:av r1≠ .eof)(he:dT c (av r1)=true)(b:(none||n>0)=true):eh ao c none n r pd= .ok (.inr n) r1 pd:=by unfold eh;rw[aZ (cB a),aS ax,he,b];rfl
theorem ajr(fr:Bool)(m:Nat)(c:Ctx)(r:Bool):∀(N n:Nat)(u:aa)(pd:aq)(k:Nat)(l:aq),u.length<=N->dx u->u≠[]->cb (eh (jn fr m) .text true) n u pd= .ok k [] l->
  l=[]/\n<k/\∀v,cb (eh (jn fr m) c r) n (u++v) pd=ae (cb h9 true) (λ_=>cb (eh (jn fr m) c r) k) v []:=by
 obtain⟨C,bc⟩:=X0 fr m;intro N;induction N with
 |zero=>grind
 |succ N T=>
  intro n u pd k l ax hu L h;rw[cH] at h;cases s:bx u with
  |none=>
   have:eh (jn fr m) .text true n u pd= .more [] (cP [] pd []).1 (cP [] pd []).2:=by unfold eh;exact dh (iE s)
   rw[this] at h;cases h
  |some r1=>
   have s1:=dV s;have A:=hu.sfx s1;obtain⟨M,_⟩:=ts [] s hu L;have U:av r1≠ .eof:=λe=>M (l2.1 e);have j9:=lO _ _ _ (cX _) s;have D:dT .text (av r1)=false:=by grind[dT,beq_false_of_ne]
   rw[Mm s U D] at h;cases i:jn fr m r1 pd with
   |more op nd ds=>rw[dh i] at h;cases h
   |bad q=>rw[g5 i] at h;cases h
   |deep q=>unfold ae at h;rw[i] at h;cases h
   |ok x V j=>
    rw[aZ i] at h;have E:=bc A i;have F:=A.sfx (C.sfx i);have W:dT c (av r1)=false:=by grind[dT,av,ajp]
    have jK:=s1.length_le;have jr:=(C.sfx i).length_le;cases t:bx V with
    |none=>rw[dh (iE t)] at h;cases h
    |some d=>
     rw[aZ (cB t)] at h;have B:=F.sfx (dV t);have Ft:=(dV t).length_le;obtain⟨O,_⟩:=ts [] t F E
     have P:∀v,eh (jn fr m) c r n (u++v) pd=hX c n (av d) (d++v) j:=by intro v;have a4:=Fh v A M;rw[Mm (ts v s hu L).2 (by grind) (by grind),aZ (C.ok v A i E),aZ (cB (ts v t F E).2),Fh v B O]
     have a:∀(g:aa)(z:Nat),dx g->g≠[]->g.length<=d.length->(∀v,eh (jn fr m) c r n (u++v) pd=ae cU (λ_=>aW (.inl z)) (g++v) j)->cO (eh (jn fr m) .text true) u (ae cU (λ_=>aW (.inl z)) g j)= .ok k [] l->n<z->
       l=[]/\n<k/\∀v,cb (eh (jn fr m) c r) n (u++v) pd=ae (cb h9 true) (λ_=>cb (eh (jn fr m) c r) k) v []:=by
      intro g z G X Y Q h H;cases hl:cU g j with
      |more op nd ds=>rw[dh hl] at h;cases h
      |bad q=>rw[g5 hl] at h;cases h
      |deep q=>unfold ae at h;rw[hl] at h;cases h
      |ok b R Z=>
       rw[aZ hl] at h;unfold cO at h;simp only[aW] at h;split at h
       ·rename_i c9;by_cases I:R=[]
        ·subst I;rw[qp,R1] at h;simp only[if_true] at h;cases h;obtain⟨kJ,qe,wO⟩:=X1 _ false g j b l (Nat.le_refl _) G X (by simp_all[sE]);refine⟨kJ,H,λv=>?_⟩;rw[cH,Q v];unfold cO;have J:cU (g++v) j=cb h9 true v []:=by simp_all[sE]
         unfold ae;rw[J];cases ay:cb h9 true v [] with
         |ok fy v2 uN=>
          simp only[aW];have:v2.length<=v.length:=by have:=ar.rep (f:=h9) iD.lines true;exact(this.sfx ay).length_le
          grind
         |_=>rfl
        ·obtain⟨i1,i2,i3⟩:=T z R Z k l (by omega) (G.sfx (ar.lines.sfx hl)) I h;refine⟨i1,by omega,λv=>?_⟩;rw[cH,Q v,aZ (ar.lines.ok v G hl I)];simp_all[cO,aW,bo]
       grind
     cases y:av d with
     |eof=>grind[absurd,l2]
     |line=>rw[y] at h;unfold hX at h;refine a d (n+1) B O (cX _) (λv=>by rw[P v,y];rfl) h (xW _)
     |word w p=>rw[y] at h;cases h
     |op o=>
      rw[y] at h;unfold hX at h;simp only at h;by_cases S:o=[59]\/o=[38]
      ·rw[bo S] at h;have K:o.length=1:=by grind
       have aE:d.drop 1≠[]:=aji y K.symm B;refine a (d.drop 1) (n+1) (B.sfx (lP _ _)) aE (by simp) (λv=>?_) h (xW _);rw[P v,y];unfold hX;simp only;rw[bo S,aZ (show b2 1 (d++v) j= .ok () (d.drop 1++v) j from by grind[b2,XH])]
      simp_all[aS,dT,bK,cO]
def AQ{α:Type}(x y:dw α):Prop:=(∃q,x= .deep q)\/y=x\/∃op a nd ds,x= .more op nd ds/\y= .more a nd ds
def aO{α:Type}(f g:ak α):Prop:=∀r pd,AQ (f r pd) (g r pd)
theorem aO.refl{α:Type}(f:ak α):aO f f:=λ_ _=> .inr (.inl rfl)
theorem aO.deep{α:Type}(g:ak α):aO uJ g:=λr _=> .inl ⟨r,rfl⟩
theorem aO.ae{α β:Type}{m b:ak α}{k k':α->ak β}(hm:aO m b)(hk:∀a,aO (k a) (k' a)):aO (Go.Eng.ae m k) (Go.Eng.ae b k'):=by
 intro r pd;rcases hm r pd with⟨q,h⟩|h|⟨op,d,nd,ds,ad,e⟩
 ·left;simp_all[Go.Eng.ae]
 ·unfold Go.Eng.ae;rw[h];cases m r pd with
  |ok a r1 c=>exact hk a r1 c
  |more op nd ds=>exact .inr (.inl rfl)
  |bad q=>exact .inr (.inl rfl)
  |deep q=>exact .inl ⟨q,rfl⟩
 ·right;grind[Go.Eng.ae]
theorem aO.aM{α:Type}{m a:ak α}(hm:aO m a)(x:aa):aO (m.aM x) (a.aM x):=by
 intro r pd;unfold ak.aM;rcases hm r pd with⟨q,h⟩|h|⟨op,c,nd,ds,ad,b⟩
 ·left;grind
 ·rw[h];exact .inr (.inl rfl)
 ·rw[ad,b];exact .inr (.inr ⟨_,_,_,_,rfl,rfl⟩)
theorem aO.X3{α:Type}{m a:ak α}(hm:aO m a)(x:aa):aO (m.named x) a:=by
 intro r pd;unfold ak.named;rcases hm r pd with⟨q,h⟩|h|⟨op,c,nd,ds,ad,b⟩
 ·left;grind
 ·rw[h];cases m r pd with
  |more op nd ds=>exact .inr (.inr ⟨_,_,_,_,rfl,rfl⟩)
  |_=>exact .inr (.inl rfl)
 ·rw[ad,b];exact .inr (.inr ⟨_,_,_,_,rfl,rfl⟩)
theorem aO.ajw{α:Type}{m a:ak α}(hm:aO m a)(x:aa):aO m (a.named x):=by
 intro r pd;unfold ak.named;rcases hm r pd with⟨q,h⟩|h|⟨op,c,nd,ds,ad,b⟩
 ·left;grind
 ·rw[h];cases m r pd with
  |more op nd ds=>exact .inr (.inr ⟨_,_,_,_,rfl,rfl⟩)
  |_=>exact .inr (.inl rfl)
 ·rw[ad,b];exact .inr (.inr ⟨_,_,_,_,rfl,rfl⟩)
theorem aO.named{α:Type}{m a:ak α}(hm:aO m a)(x y:aa):aO (m.named x) (a.named y):=(hm.X3 x).ajw y
theorem aO.ite{α:Type}{c:Prop}[Decidable c]{f g a b:ak α}(hf:aO f a)(bf:aO g b):aO (if c then f else g) (if c then a else b):=by grind
theorem aO.rep{σ α:Type}{f c:σ->ak (σ⊕α)}(h:∀s,aO (f s) (c s))(s:σ):aO (cb f s) (cb c s):=by
 have b:∀(n:Nat)(s:σ)(r:aa)(pd:aq),r.length<=n->AQ (cb f s r pd) (cb c s r pd):=by
  intro n;induction n with
  |zero=>
   intro s r pd ax;rw[cH,cH];have k:r=[]:=nH.1 (by omega);rcases h s r pd with⟨q,e⟩|e|⟨op,i,nd,ds,d,g⟩
   ·left;exact⟨q,by rw[e];rfl⟩
   ·rw[e];cases f s r pd with
    |ok x r1 j=>
     cases x with
     |inl s'=>right;simp_all[cO,aS]
     |inr a=>exact .inr (.inl rfl)
    |deep q=>exact .inl ⟨q,rfl⟩
    |_=>exact .inr (.inl rfl)
   ·rw[d,g];exact .inr (.inr ⟨_,_,_,_,rfl,rfl⟩)
  |succ n l=>
   intro s r pd ax;rw[cH,cH];rcases h s r pd with⟨q,e⟩|e|⟨op,i,nd,ds,d,g⟩
   ·left;exact⟨q,by rw[e];rfl⟩
   ·rw[e];cases f s r pd with
    |ok x r1 j=>
     cases x with
     |inl s'=>
      unfold cO;simp only;by_cases hl:r1.length<r.length
      ·grind
      ·rw[aS hl,aS hl];exact .inr (.inl rfl)
     |inr a=>exact .inr (.inl rfl)
    |deep q=>exact .inl ⟨q,rfl⟩
    |_=>exact .inr (.inl rfl)
   ·rw[d,g];exact .inr (.inr ⟨_,_,_,_,rfl,rfl⟩)
 exactλr pd=>b _ s r pd (cX _)
section
variable{D kz:ak Unit}(hD:aO D kz)
include hD
theorem aO.part{dq a:Option (ak Unit)}(c:match dq,a with|none,none=>True|some q,some d=>aO q d|_,_=>False):aO (cE D dq) (cE kz a):=by
 intro r pd;cases r with
 |nil=>exact .inr (.inl rfl)
 |cons b t=>
  unfold cE;simp only;split
  ·exact .inr (.inl rfl)
  ·split
   ·exact .inr (.inl rfl)
   ·split
    ·exact hD _ _
    ·match dq,a,c with
     |none,none,_=>exact .inr (.inl rfl)
     |some q,some d,c=>
      simp only;split
      ·exact .inr (.inl rfl)
      ·split
       ·exact c _ _
       ·exact .inr (.inl rfl)
omit hD in
theorem aO.AO(c:UInt8){p a:ak Unit}(aB:aO p a):aO (jk c p) (jk c a):=by
 refine aO.rep (λ_ r pd=>?_) ();cases r with
 |nil=>exact .inr (.inl rfl)
 |cons b t=>
  simp only;split
  ·exact .inr (.inl rfl)
  ·exact aO.ae aB (λ_=>aO.refl _) _ _
theorem aO.double:aO (eN D) (eN kz):=((aO.AO 34 (aO.part hD trivial)).aM _).named _ _
theorem aO.yX:aO (cE D (some (eN D))) (cE kz (some (eN kz))):=aO.part hD (aO.double hD)
theorem aO.param:aO (q3 D) (q3 kz):=(aO.AO 125 (aO.yX hD)).aM _
theorem aO.word:aO (cQ D) (cQ kz):=by
 refine aO.rep (λ_ r pd=>?_) ();cases r with
 |nil=>exact .inr (.inl rfl)
 |cons b t=>
  simp only;split
  ·exact .inr (.inl rfl)
  ·exact aO.ae (aO.yX hD) (λ_=>aO.refl _) _ _
theorem aO.Fl(x:aa):aO (jQ D x) (jQ kz x):=by refine aO.ae (aO.refl _) λt=>?_;grind[aO.word,aO.refl]
theorem aO.jm:aO (dF D) (dF kz):=by
 refine aO.ae (aO.refl _) λo=>?_;cases o with
 |none=>simp[aO.refl]
 |some o=>exact aO.ae (aO.ite (aO.refl _) (aO.ite (aO.refl _) (aO.Fl hD _))) λ_=>aO.refl _
theorem aO.mK:aO (gV D) (gV kz):=aO.rep (λ_=>aO.ae (aO.jm hD) λ_=>aO.refl _) ()
theorem aO.words:aO (pN D) (pN kz):=by refine aO.rep (λ_=>aO.ae (aO.refl _) λt=>?_) ();grind[aO.word,aO.ae,aO.refl]
theorem aO.xj:aO (kZ D) (kZ kz):=by refine aO.rep (λ_=>aO.ae (aO.refl _) λt=>?_) ();grind[aO.word,aO.ae,aO.aM,aO.refl]
end
structure yY(l fL:dU):Prop where
 ls:∀c n,aO (l.ls c n) (fL.ls c n)
 pm:aO l.pm fL.pm
 cp:∀t,aO (l.cp t) (fL.cp t)
 rd:aO l.rd fL.rd
 dl:aO l.dl fL.dl
 has:l.has=true->fL.has=true
section
variable{l fL:dU}(h:yY l fL)
include h
theorem aO.body(x:aa):aO (iP l x) (iP fL x):=aO.ae (aO.refl _) λ_=>aO.ae ((h.ls _ _).aM _) λ_=>aO.refl _
theorem aO.cond:aO (q6 l) (q6 fL):=aO.rep (λ_=>aO.ae ((h.ls _ _).aM _) λ_=>aO.ae (aO.refl _) λ_=>aO.ae ((h.ls _ _).aM _) λ_=>aO.ae (aO.refl _) λt=>aO.ite (aO.refl _) (aO.ite (aO.ae (aO.refl _) λ_=>aO.ae ((h.ls _ _).aM _) λ_=>aO.refl _) (aO.refl _))) ()
theorem aO.for_{D kz:ak Unit}(hD:aO D kz):aO (pO l D) (pO fL kz):=by
 refine aO.ae (aO.refl _) λt=>?_;cases t with
 |word w p=>
  cases p with
  |true=>exact aO.ite (aO.ae (aO.refl _) λ_=>aO.ae (aO.aM (aO.ae (aO.refl _) λt=>aO.ite (aO.refl _) (aO.ae (aO.refl _) λ_=>aO.ae (aO.refl _) λt=>aO.ite (aO.ae (aO.refl _) λ_=>aO.ae (aO.words hD) λ_=>aO.refl _) (aO.refl _))) _) λ_=>aO.body h _) (aO.refl _)
  |false=>simp[aO.refl]
 |_=>simp[aO.refl]
theorem aO.items{D kz:ak Unit}(hD:aO D kz):aO (nA l D) (nA fL kz):=
 aO.rep (λ_=>aO.ae (aO.refl _) λ_=>aO.ae (aO.refl _) λt=>aO.ite (aO.refl _) (aO.ite (aO.refl _) (aO.ae (aO.refl _) λ_=>aO.ae (aO.xj hD) λ_=>aO.ae (h.ls _ _) λ_=>aO.refl _))) ()
theorem aO.xk{D kz:ak Unit}(hD:aO D kz):aO (q7 l D) (q7 fL kz):=by
 refine aO.ae (aO.refl _) λt=>?_;cases t with
 |word w p=>exact aO.ae (aO.aM (aO.ae (aO.word hD) λ_=>aO.refl _) _) λt=>aO.ite (aO.ae (aO.refl _) λ_=>(aO.items h hD).aM _) (aO.refl _)
 |_=>simp[aO.refl]
theorem aO.kind(t:Tok):aO (hS l t) (hS fL t):=by
 cases t with
 |op o=>show aO (Go.Eng.ae (b2 1) λ_=>Go.Eng.ae ((l.ls .paren false).aM [41]) λ_=>jR [41]) (Go.Eng.ae (b2 1) λ_=>Go.Eng.ae ((fL.ls .paren false).aM [41]) λ_=>jR [41]);exact aO.ae (aO.refl _) λ_=>aO.ae ((h.ls _ _).aM _) λ_=>aO.refl _
 |word w p=>unfold hS;exact aO.ae (aO.refl _) λ_=>aO.ite (aO.ae ((h.ls _ _).aM _) λ_=>aO.refl _) (aO.ite (aO.cond h) (aO.ite (aO.for_ h h.dl) (aO.ite (aO.xk h h.dl) (aO.ae ((h.ls _ _).aM _) λ_=>aO.body h _))))
 |_=>exact aO.refl _
end
def Fv(lo a:Option dU):Prop:=∀l,lo=some l->∃fL,a=some fL/\yY l fL
theorem aO.sz{lo b:Option dU}(h:Fv lo b){n:Nat}{f a:dU->ak Unit}(hf:∀l fL,yY l fL->aO (f l) (a fL)):aO (sz lo n f) (sz b n a):=by
 cases lo with
 |none=>exact aO.deep _
 |some l=>obtain⟨fL,rfl,hl⟩:=h l rfl;show aO (Go.Eng.ae (b2 n) λ_=>f l) (Go.Eng.ae (b2 n) λ_=>a fL);grind[aO.ae,aO.refl]
theorem aO.vZ{lo a:Option dU}(h:Fv lo a):aO (dM lo) (dM a):=by
 intro r pd;unfold dM;split
 ·exact .inr (.inl rfl)
 ·split
  ·exact aO.sz h (λl fL hl=>aO.ae (((hl.ls _ _).aM _).named _ _) λ_=>aO.refl _) r pd
  ·split
   ·exact aO.sz h (λl fL hl=>hl.pm.named _ _) r pd
   ·exact .inr (.inl rfl)
theorem aO.cp{lo a:Option dU}(h:Fv lo a)(t:Tok):aO (sA lo t) (sA a t):=by
 cases lo with
 |none=>exact aO.deep _
 |some l=>obtain⟨fL,rfl,hl⟩:=h l rfl;exact(aO.kind hl t).named _ _
def X4{α:Type}(x y:dw α):Prop:=AQ x y\/∃t a pd,x= .bad (40::t)/\y= .ok a (40::t) pd
def fg{α:Type}(f g:ak α):Prop:=∀r pd,X4 (f r pd) (g r pd)
theorem aO.b{α:Type}{f g:ak α}(h:aO f g):fg f g:=λr pd=> .inl (h r pd)
theorem fg.ite{α:Type}{c:Prop}[Decidable c]{f g a b:ak α}(hf:fg f a)(bf:fg g b):fg (if c then f else g) (if c then a else b):=by grind
theorem fg.o1{α β:Type}{m b:ak α}{k k':α->ak β}(hm:aO m b)(hk:∀a,fg (k a) (k' a)):fg (ae m k) (ae b k'):=by
 intro r pd;rcases hm r pd with⟨q,h⟩|h|⟨op,d,nd,ds,ad,e⟩
 ·left;left;simp_all[ae]
 ·unfold ae;rw[h];cases m r pd with
  |ok a r1 c=>exact hk a r1 c
  |more op nd ds=>exact .inl (.inr (.inl rfl))
  |bad q=>exact .inl (.inr (.inl rfl))
  |deep q=>exact .inl (.inl ⟨q,rfl⟩)
 ·left;right;grind[ae]
theorem fg.lv{α β:Type}{m d:ak α}{k k':α->ak β}(hm:fg m d)(hk:∀a,fg (k a) (k' a))(f:∀a t pd,∃b e,k' a (40::t) pd= .ok b (40::t) e):fg (ae m k) (ae d k'):=by
 intro r pd;rcases hm r pd with(⟨q,h⟩|h|⟨op,i,nd,ds,ad,g⟩)|⟨t,a,c,ad,g⟩
 ·left;left;simp_all[ae]
 ·unfold ae;rw[h];cases m r pd with
  |ok a r1 c=>exact hk a r1 c
  |more op nd ds=>exact .inl (.inr (.inl rfl))
  |bad q=>exact .inl (.inr (.inl rfl))
  |deep q=>exact .inl (.inl ⟨q,rfl⟩)
 ·left;right;grind[ae]
 ·right;obtain⟨b,e,j⟩:=f a t c;grind[g5,aZ]
theorem fg.rep{σ α:Type}{f i:σ->ak (σ⊕α)}(h:∀s,fg (f s) (i s))(k:∀s t pd,∃a j,i s (40::t) pd= .ok (.inr a) (40::t) j)(s:σ):fg (cb f s) (cb i s):=by
 have g:∀(n:Nat)(s:σ)(r:aa)(pd:aq),r.length<=n->X4 (cb f s r pd) (cb i s r pd):=by
  intro n;induction n with
  |zero=>
   intro s r pd ax;rw[cH,cH];have o:r=[]:=nH.1 (by omega);rcases h s r pd with(⟨q,e⟩|e|⟨op,l,nd,ds,b,c⟩)|⟨t,a,d,b,c⟩
   ·left;left;exact⟨q,by rw[e];rfl⟩
   ·rw[e];cases f s r pd with
    |ok x r1 d=>
     cases x with
     |inl s'=>left;right;simp_all[cO,aS]
     |inr a=>exact .inl (.inr (.inl rfl))
    |deep q=>exact .inl (.inl ⟨q,rfl⟩)
    |_=>exact .inl (.inr (.inl rfl))
   ·rw[b,c];exact .inl (.inr (.inr ⟨_,_,_,_,rfl,rfl⟩))
   ·rw[b,c];cases a with
    |inr a=>exact .inr ⟨t,a,d,rfl,rfl⟩
    |inl s'=>left;right;simp_all[cO,aS]
  |succ n p=>
   intro s r pd ax;rw[cH,cH];rcases h s r pd with(⟨q,e⟩|e|⟨op,l,nd,ds,b,c⟩)|⟨t,a,d,b,c⟩
   ·left;left;exact⟨q,by rw[e];rfl⟩
   ·rw[e];cases f s r pd with
    |ok x r1 d=>
     cases x with
     |inl s'=>
      unfold cO;simp only;by_cases hl:r1.length<r.length
      ·grind
      ·rw[aS hl,aS hl];exact .inl (.inr (.inl rfl))
     |inr a=>exact .inl (.inr (.inl rfl))
    |deep q=>exact .inl (.inl ⟨q,rfl⟩)
    |_=>exact .inl (.inr (.inl rfl))
   ·rw[b,c];exact .inl (.inr (.inr ⟨_,_,_,_,rfl,rfl⟩))
   ·rw[b,c];cases a with
    |inr a=>exact .inr ⟨t,a,d,rfl,rfl⟩
    |inl s'=>
     unfold cO;simp only;by_cases hl:(40::t).length<r.length
     ·rw[bo hl];right;obtain⟨a,j,m⟩:=k s' t d;exact⟨t,a,j,rfl,by rw[cH,m];rfl⟩
     ·rw[aS hl];exact .inl (.inr (.inl rfl))
 exactλr pd=>g _ s r pd (cX _)
theorem X5(t:aa):bx (40::t)=some (40::t):=by simp[nX,ga]
theorem ajx(t:aa):av (40::t)= .op [40]:=by rfl
theorem ajy{D:ak Unit}(t:aa)(pd:aq):dF D (40::t) pd= .ok false (40::t) pd:=by
 have:fJ (40::t) pd= .ok none (40::t) pd:=by unfold fJ;rw[X5];rfl
 unfold dF;rw[aZ this];rfl
theorem Mp{x:aa}(t:aa)(pd:aq):bQ x (40::t) pd= .ok (.op [40]) (40::t) pd:=by simp[cB,X5,ajx]
theorem X6(m:ak Unit):ae m (λ_=>aW ())=m:=by
 funext r pd
 unfold ae;cases m r pd<;>rfl
theorem kA{α β b:Type}(m:ak α)(k:α->ak β)(R:β->ak b):ae (ae m k) R=ae m (λa=>ae (k a) R):=by grind[ae]
theorem yZ{α β:Type}{c:Prop}[Decidable c](f g:ak α)(R:α->ak β):ae (if c then f else g) R=if c then ae f R else ae g R:=by grind
theorem X7{α β:Type}(x:aa)(R:α->ak β):ae (b7 x) R=b7 x:=rfl
theorem X8{α β:Type}(R:α->ak β):ae bK R=bK:=rfl
theorem aO.ajz{α β:Type}{x:ak β}{g:ak α}{R:α->ak β}(h:aO x (Go.Eng.ae g R))(nm:aa):aO x (Go.Eng.ae (g.named nm) R):=by
 intro r pd
 have e:Go.Eng.ae (g.named nm) R r pd=Go.Eng.ae g R r pd\/∃op a nd ds,Go.Eng.ae g R r pd= .more op nd ds/\Go.Eng.ae (g.named nm) R r pd= .more a nd ds:=by unfold Go.Eng.ae ak.named;grind
 rcases e with e|⟨op,a,nd,ds,c,d⟩
 ·rw[e];exact h r pd
 ·rcases h r pd with⟨q,h⟩|h|⟨f,i,j,k,ad,b⟩
  ·exact .inl ⟨q,h⟩
  ·right;grind
  ·rw[c] at b;cases b;exact .inr (.inr ⟨_,_,_,_,ad,d⟩)
section
variable{fr nZ:Bool}(hf:fr=nZ\/fr=true/\nZ=false)
include hf
theorem fg.simple{D kz:ak Unit}(hD:aO D kz):fg (hH fr D) (hH nZ kz):=by
 rcases hf with rfl|⟨rfl,rfl⟩
 ·refine aO.b (aO.rep (λ_=>aO.ae (aO.jm hD) λb=>aO.ite (aO.refl _) (aO.ae (aO.refl _) λt=>?_)) ());grind[aO.ae,aO.word,aO.refl]
 ·refine fg.rep (λ_=>fg.o1 (aO.jm hD) λb=>fg.ite (aO.b (aO.refl _)) (λr pd=>?_)) (λ_ t pd=>?_) ()
  ·cases a:bx r with
   |none=>rw[dh (iE a),dh (iE a)];exact .inl (.inr (.inl rfl))
   |some r1=>
    rw[aZ (cB a),aZ (cB a)];cases d:av r1 with
    |word w p=>exact .inl (aO.ae (aO.word hD) (λ_=>aO.refl _) r1 pd)
    |op o=>
     simp only;by_cases c:o=[40]
     ·subst c;obtain⟨_,e,_,_⟩:=iq d;obtain⟨t,rfl⟩:=e;exact .inr ⟨t,_,_,rfl,rfl⟩
     ·simp[c];exact .inl (.inr (.inl rfl))
    |_=>exact .inl (.inr (.inl rfl))
  ·refine⟨(),pd,?_⟩;rw[aZ (ajy t pd)];simp only[ew,cl];rw[aZ (Mp t pd)];rfl
theorem aO.fn{lo b:Option dU}{kz:ak Unit}(h:Fv lo b)(d:fr=true->nZ=false->∀l,lo=some l->aO l.rd (gV kz)){D:ak Unit}(hD:aO D kz):
  aO (Go.Eng.ae (mf fr lo) λ_=>if fr then aW () else gV D) (Go.Eng.ae (mf nZ b) λ_=>if nZ then aW () else gV kz):=by
 cases lo with
 |none=>intro r pd;exact .inl ⟨r,rfl⟩
 |some l=>
  obtain⟨fL,rfl,hl⟩:=h l rfl;by_cases a:l.has=true
  ·have c:=hl.has a;rcases hf with rfl|⟨rfl,rfl⟩
   ·refine aO.ae ?_ λ_=>aO.ite (aO.refl _) (aO.mK hD);unfold mf;simp only[a,c,cD];exact aO.named (aO.ae (aO.refl _) λ_=>aO.ae (aO.refl _) λt=>aO.ite (aO.refl _) (aO.ite (aO.ae (aO.refl _) λ_=>aO.ae (aO.refl _) λ_=>aO.ae (aO.refl _) λt=>aO.ite (aO.refl _) (aO.ite (aO.ae (hl.cp t) λ_=>aO.ite hl.rd (aO.refl _)) (aO.refl _))) (aO.refl _))) _ _
   ·have e:=d rfl rfl l rfl;simp only[cD,ew,cl];rw[X6];unfold mf;simp only[a,c,cD,ew,cl];refine aO.X3 (aO.ajz ?_ _) _;rw[kA];refine aO.ae (aO.refl _) λ_=>?_;rw[kA];refine aO.ae (aO.refl _) λt=>?_;rw[yZ,X7,yZ,X8];refine aO.ite (aO.refl _) (aO.ite ?_ (aO.refl _));rw[kA];refine aO.ae (aO.refl _) λ_=>?_;rw[kA];refine aO.ae (aO.refl _) λ_=>?_;rw[kA];refine aO.ae (aO.refl _) λt=>?_;rw[yZ,X7,yZ,X8];refine aO.ite (aO.refl _) (aO.ite ?_ (aO.refl _));rw[X6];exact aO.ae (hl.cp t) λ_=>e
  ·intro r pd;left;refine⟨r,?_⟩;unfold mf;simp only[a,cl,ew];rfl
theorem fg.command{lo a:Option dU}{D kz:ak Unit}(h:Fv lo a)(hD:aO D kz)(c:fr=true->nZ=false->∀l,lo=some l->aO l.rd (gV kz)):fg (gm fr lo D) (gm nZ a kz):=by
 refine fg.o1 (aO.refl _) λt=>fg.ite (aO.b (aO.refl _)) (fg.ite (aO.b (aO.ae (aO.cp h t) λ_=>aO.mK hD)) ?_);cases t with
 |op o=>exact fg.ite (fg.o1 (aO.jm hD) λ_=>fg.simple hf hD) (aO.b (aO.refl _))
 |word w p=>refine fg.ite (aO.b (aO.refl _)) (fg.o1 (aO.jm hD) λb=>fg.ite (fg.simple hf hD) (fg.o1 (aO.word hD) λ_=>fg.ite (fg.o1 (aO.refl _) λt=>fg.ite (aO.b (aO.fn hf h c hD)) (fg.simple hf hD)) (fg.simple hf hD)))
 |_=>simp[aO.b,aO.refl]
omit hf in
theorem fg.pipe{df b:ak Unit}(h:fg df b):fg (fu df) (fu b):=by
 have stop:∀(df:ak Unit)(s:Unit)(t:aa)(pd:aq),∃a c,(Go.Eng.ae (bQ []) λt=>if t= .op [124] then Go.Eng.ae (b2 1) λ_=>Go.Eng.ae (cU.aM [120]) λ_=>Go.Eng.ae df λ_=>aW (.inl ()) else aW (.inr ()):ak (Unit⊕Unit)) (40::t) pd= .ok (.inr a) (40::t) c:=by intro df s t pd;refine⟨(),pd,?_⟩;rw[aZ (Mp t pd)];rfl
 refine fg.o1 (aO.refl _) λt=>fg.o1 (aO.refl _) λ_=>fg.lv h (λ_=>fg.rep (λ_=>fg.o1 (aO.refl _) λt=>fg.ite (fg.o1 (aO.refl _) λ_=>fg.o1 (aO.refl _) λ_=>fg.lv h (λ_=>aO.b (aO.refl _)) λ_ t pd=>⟨_,_,rfl⟩) (aO.b (aO.refl _))) (stop b) ()) λ_ t pd=>?_;obtain⟨a,c,e⟩:=stop b () t pd;exact⟨a,c,by rw[cH,e];rfl⟩
omit hf in
theorem fg.pP{b c:ak Unit}(h:fg b c):fg (hs b) (hs c):=by
 have stop:∀(b:ak Unit)(s:Unit)(t:aa)(pd:aq),∃a d,(Go.Eng.ae (bQ []) λt=>if t= .op [38,38]\/t= .op [124,124] then Go.Eng.ae (b2 2) λ_=>Go.Eng.ae (cU.aM [120]) λ_=>Go.Eng.ae b λ_=>aW (.inl ()) else aW (.inr ()):ak (Unit⊕Unit)) (40::t) pd= .ok (.inr a) (40::t) d:=by intro b s t pd;refine⟨(),pd,?_⟩;rw[aZ (Mp t pd)];rfl
 refine fg.lv h (λ_=>fg.rep (λ_=>fg.o1 (aO.refl _) λt=>fg.ite (fg.o1 (aO.refl _) λ_=>fg.o1 (aO.refl _) λ_=>fg.lv h (λ_=>aO.b (aO.refl _)) λ_ t pd=>⟨_,_,rfl⟩) (aO.b (aO.refl _))) (stop c) ()) λ_ t pd=>?_;obtain⟨a,d,e⟩:=stop c () t pd;exact⟨a,d,by rw[cH,e];rfl⟩
omit hf in
theorem aO.list{ao f:ak Unit}(h:fg ao f)(c:Ctx)(none:Bool):aO (oz ao c none) (oz f c none):=by
 rw[uO,uO];refine aO.ae (aO.refl _) λ_=>aO.rep (λn=>aO.ae (aO.refl _) λt=>aO.ite (aO.refl _) (aO.ite (aO.refl _) (λr pd=>?_))) 0;rcases h r pd with(⟨q,e⟩|e|⟨op,g,nd,ds,b,d⟩)|⟨t,a,i,b,d⟩
 ·left;simp_all[Go.Eng.ae]
 ·unfold Go.Eng.ae;rw[e];cases ao r pd with
  |deep q=>exact .inl ⟨q,rfl⟩
  |_=>exact .inr (.inl rfl)
 ·exact .inr (.inr ⟨op,g,nd,ds,dh b,dh d⟩)
 ·right;left;rw[g5 b,aZ d,aZ (Mp t i)];unfold hX;cases c<;>simp[dT,cG,bK]
end
theorem yY.of{fr nZ:Bool}(hf:fr=nZ\/fr=true/\nZ=false){lo a:Option dU}(h:Fv lo a)(e:fr=true->nZ=false->∀l,lo=some l->aO l.rd (gV (dM a))){b d:Bool}(f:b=true->d=true):
  yY {ls:=oz (hs (fu (gm fr lo (dM lo)))),pm:=q3 (dM lo),cp:=sA lo,rd:=gV (dM lo),dl:=dM lo,has:=b} {ls:=oz (hs (fu (gm nZ a (dM a)))),pm:=q3 (dM a),cp:=sA a,rd:=gV (dM a),dl:=dM a,has:=d}:=
 ⟨λc n=>aO.list (fg.pP (fg.pipe (fg.command hf h (aO.vZ h) e))) c n,aO.param (aO.vZ h),λt=>aO.cp h t,aO.mK (aO.vZ h),aO.vZ h,f⟩
theorem R6{fr nZ:Bool}(hf:fr=nZ\/fr=true/\nZ=false):∀n m,n<=m->yY (a1 fr n) (a1 nZ m)
 |0,0,_=>yY.of hf (λl h=>by cases h) (λ_ _ l h=>by cases h) (λh=>h)
 |0,m+1,_=>yY.of hf (λl h=>by cases h) (λ_ _ l h=>by cases h) (λh=>rfl)
 |n+1,m+1,h=>yY.of hf (λl e=>by cases e;exact⟨_,rfl,R6 hf n m (by omega)⟩) (λ_ _ l e=>by cases e;exact(R6 hf n (m+1) (by omega)).rd) (λh=>h)
theorem ajA{fr nZ:Bool}(hf:fr=nZ\/fr=true/\nZ=false){n m:Nat}(h:n<=m)(r:aa):AQ (hT fr n r) (hT nZ m r):=(R6 hf n m h).ls .text true r []
theorem ajB{fr:Bool}{m:Nat}{u:aa}{k:Nat}{r:aa}{pd:aq}(h:hT fr m u= .ok k r pd):r=[]:=by
 unfold hT at h;rw[Fq,uO] at h;obtain⟨_,r1,f,ad,b⟩:=b3 h;refine Mk (iD.round (X0 fr m).1 .text true) (λ_=>True) (λr=>r=[]) (λ_ _ _ _ _ _ _ _=>trivial) ?_ _ _ _ _ _ _ _ (cX _) trivial b;intro n r pd a r' l _ e;obtain⟨t,r1,f,ad,b⟩:=b3 e;obtain⟨q,rfl,rfl⟩:=nB ad;split at b
 ·rename_i g;rw[bo rfl] at b;cases b;grind[l2]
 ·rename_i g;split at b
  ·grind[dT,absurd]
  ·obtain⟨_,s,v,x,i⟩:=b3 b;obtain⟨t,y,z,A,c⟩:=b3 i;unfold hX at c;cases t with
   |eof=>cases c
   |line=>obtain⟨_,_,_,_,d⟩:=b3 c;cases d
   |word w p=>cases c
   |op o=>
    simp only at c;split at c
    ·obtain⟨_,_,_,_,d⟩:=b3 c;obtain⟨_,_,_,_,j⟩:=b3 d;cases j
    grind[dT,bK]
def ajC(k:Nat):dw Nat->dw Nat
 | .ok n r pd=> .ok (n+k) r pd
 |x=>x
def v3(k:Nat):dw (Nat⊕Nat)->dw (Nat⊕Nat)
 | .ok (.inl s) r pd=> .ok (.inl (s+k)) r pd
 | .ok (.inr s) r pd=> .ok (.inr (s+k)) r pd
 | .more op nd ds=> .more op nd ds
 | .bad r=> .bad r
 | .deep r=> .deep r
theorem Fw{α:Type}{j:Nat}{m:ak α}{k k':α->ak (Nat⊕Nat)}(h:∀a r pd,k' a r pd=v3 j (k a r pd))(r:aa)(pd:aq):ae m k' r pd=v3 j (ae m k r pd):=by
 unfold ae;cases m r pd with
 |ok a r1 b=>grind
 |_=>rfl
theorem Ms{j:Nat}{c:Prop}[Decidable c]{f g a b:ak (Nat⊕Nat)}{r:aa}{pd:aq}(hf:a r pd=v3 j (f r pd))(bf:b r pd=v3 j (g r pd)):(if c then a else b) r pd=v3 j ((if c then f else g) r pd):=by grind
theorem R7{n k:Nat}{r:aa}{pd:aq}:(aW (.inl (n+k+1)):ak (Nat⊕Nat)) r pd=v3 k (aW (.inl (n+1)) r pd):=by simp[aW,v3,Nat.add_right_comm]
theorem ajD{ao:ak Unit}(k n:Nat)(r:aa)(pd:aq):eh ao .text true (n+k) r pd=v3 k (eh ao .text true n r pd):=by
 unfold eh;simp only[Bool.true_or,cD,JU];refine Fw (λt r pd=>Ms rfl (Ms rfl (Fw (λ_ r pd=>Fw (λt r pd=>?_) r pd) r pd))) r pd;unfold hX;cases t with
 |eof=>exact R7
 |line=>exact Fw (λ_ r pd=>R7) r pd
 |word w p=>rfl
 |op o=>exact Ms (Fw (λ_ r pd=>Fw (λ_ r pd=>R7) r pd) r pd) (Ms (by simp[aW,v3,Nat.add_right_comm]) rfl)
theorem ajE{ao:ak Unit}(k:Nat):∀(N n:Nat)(r:aa)(pd:aq),r.length<=N->cb (eh ao .text true) (n+k) r pd=ajC k (cb (eh ao .text true) n r pd):=by
 intro N;have b:=ajD (ao:=ao) k;induction N with
 |zero=>
  intro n r pd ax;rw[cH,cH,b];have d:r=[]:=nH.1 (by omega);cases eh ao .text true n r pd with
  |ok x r1 c=>
   cases x with
   |inl s=>unfold cO v3;simp only;rw[aS (by omega),aS (by omega)];rfl
   |inr a=>rfl
  |_=>rfl
 |succ N e=>
  intro n r pd ax;rw[cH,cH,b];cases eh ao .text true n r pd with
  |ok x r1 c=>
   cases x with
   |inl s=>
    unfold cO v3;simp only;by_cases hl:r1.length<r.length
    ·grind
    ·rw[aS hl,aS hl];rfl
   |inr a=>rfl
  |_=>rfl
theorem ajF:∀(N:Nat)(b:Bool)(r:aa)(pd:aq),r.length<=N->(∃r' d,(∃x,cb h9 b r pd= .ok x r' d)/\∃x,cb h9 (!b) r pd= .ok x r' d)\/cb h9 b r pd=cb h9 (!b) r pd:=by
 intro N b r pd ax;cases a:bx r with
 |none=>
  right;rw[cH,cH];have:∀b,h9 b r pd= .more [] (cP [] pd []).1 (cP [] pd []).2:=λb=>dh (iE a)
  grind
 |some r1=>
  by_cases c:av r1= .line
  ·obtain⟨t,rfl⟩:=vY c;grind[cH,uP]
  ·left;exact⟨r1,pd,⟨b,by rw[cH,rM a c];rfl⟩,⟨!b,by rw[cH,rM a c];rfl⟩⟩
def o2(b:UInt8):Bool:=b==60||b==62||b==38||b==124||b==59||b==40||b==41
theorem oB{b:UInt8}{t:aa}(h:o2 b=false):bs (b::t)=[]:=by
 simp only[o2,GF,J4,ne_eq] at h;obtain⟨⟨⟨⟨⟨⟨ad,a⟩,d⟩,f⟩,g⟩,i⟩,j⟩:=h
 have e:∀(c:UInt8)(o:aa),b≠c->(c::o).isPrefixOf (b::t)=false:=by grind
 simp_all[bs,lq,xS,List.find?_nil]
def rO(b:UInt8):Bool:= !ga b&&b !=10&& !o2 b&&b !=92&&b !=39&&b !=34&&b !=96&&b !=36
theorem I0{b:UInt8}(h:rO b=true):ga b=false/\b≠10/\o2 b=false/\b≠92/\b≠39/\b≠34/\b≠96/\b≠36:=by simp_all[rO,hj,GD,bne_iff_ne,ne_eq]
theorem R8{b:UInt8}{t:aa}(h:rO b=true):c3 (b::t)=false:=by grind[I0,c3,oB]
theorem Ya{b:UInt8}{t:aa}(h:b≠36):gb (b::t)=false:=by
 unfold gb;split
 ·rename_i ad;cases ad;exact absurd rfl h
 ·rename_i ad;cases ad;exact absurd rfl h
 ·rfl
theorem Yb:∀(w r:aa),w.all rO=true->c3 r=true->c8 (w++r)=(w,true)
 |[],r,_,c=>by
  cases r with
  |nil=>rfl
  |cons b t=>grind[c8]
 |b::w,r,a,c=>by simp only[Bo,hj] at a;obtain⟨ad,d,e,f,g,h,i,j⟩:=I0 a.1;simp only[gX];simp_all[c8,R8,aS,Ya,Yb]
theorem tw{w r:aa}(ax:w≠[])(a:w.all rO=true)(c:c3 r=true):av (w++r)= .word w true:=by
 have aB:=Yb w r a c;cases w with
 |nil=>grind
 |cons b t=>simp only[Bo,hj] at a;simp_all[I0,gX,av,aS,oB]
theorem kO{b:UInt8}{t:aa}(ad:ga b=false)(a:b≠35)(c:b≠92):bx (b::t)=some (b::t):=by grind[nX]
theorem k1(t:aa):bx (32::t)=bx t:=by simp[nX,ga]
theorem Yc{D:ak Unit}{dq:Option (ak Unit)}{b:UInt8}{t:aa}{pd:aq}(h:rO b=true):cE D dq (b::t) pd= .ok () t pd:=by obtain⟨ad,e,f,a,g,i,c,d⟩:=I0 h;unfold cE;simp only[a,c,Ya d,cl,ew];grind
theorem CT{D:ak Unit}{b:UInt8}{t r':aa}{pd a:aq}(c:c3 (b::t)=false)(h:cE D (some (eN D)) (b::t) pd= .ok () r' a)(hl:r'.length<(b::t).length):cQ D (b::t) pd=cQ D r' a:=by unfold cQ;rw[cH];simp only[c,ew,cl];rw[aZ h];simp_all[cO,aW,cD]
theorem R9{D:ak Unit}:∀(w r:aa)(pd:aq),w.all rO=true->cQ D (w++r) pd=cQ D r pd
 |[],r,pd,_=>rfl
 |b::w,r,pd,a=>by simp only[Bo,hj] at a;simp only[gX];rw[CT (R8 a.1) (Yc a.1) (by simp),R9 w r pd a.2]
theorem Mt{c b:UInt8}{part:ak Unit}{t r':aa}{pd a:aq}(d:b≠c)(h:part (b::t) pd= .ok () r' a)(hl:r'.length<(b::t).length):jk c part (b::t) pd=jk c part r' a:=by unfold jk;rw[cH];simp only[d,cl];rw[aZ h];simp_all[cO,aW,cD]
theorem ajG{D:ak Unit}{v a:aa}{pd:aq}(b:bx v=some a)(h:e2 (bs (a.dropWhile cd))=false):dF D v pd= .ok false a pd/\gV D v pd= .ok () a pd:=by
 have e:dF D v pd= .ok false a pd:=by
  have:fJ v pd= .ok none a pd:=by grind[fJ]
  unfold dF;rw[aZ this];rfl
 refine⟨e,?_⟩;unfold gV;rw[cH,aZ e];rfl
theorem sG{r r1:aa}{pd:aq}(a:bx r=some r1)(b:av r1≠ .line):cU r pd= .ok false r1 pd:=by rw[sE,cH,rM a b];rfl
theorem ajH{pd:aq}(a:mc pd []= .inl []):cU [10] pd= .ok true [] []:=by
 rw[sE,cH,uP (XS [])];have:ae jj (λ_=>aW (.inl true)) [10] pd=(.ok (.inl true) [] []:dw (Bool⊕Bool)):=by unfold ae;rw[tu,a];rfl
 rw[this];unfold cO;simp only[DE,N1,Nat.lt_one_iff,cD];rw[cH,rM mg (by decide)];rfl
theorem ajI{df:ak Unit}{x v a:aa}{pd b:aq}(d:bx x=some x)(f:cG (av x) [33]=false)(aF:df x pd= .ok () v b)(c:bx v=some a)(ad:av a≠ .op [124])(h:av a≠ .op [38,38])(i:av a≠ .op [124,124]):
  fu df x pd= .ok () a b/\hs (fu df) x pd= .ok () a b:=by
 have g:=lO _ _ _ (cX _) c;have e:fu df x pd= .ok () a b:=by unfold fu;rw[aZ (cB d),f];simp only[ew,cl];rw[aZ (show aW () x pd= .ok () x pd from rfl),aZ aF,cH,aZ (cB c),aS ad];rfl
 refine⟨e,?_⟩;unfold hs;rw[aZ e,cH,aZ (cB g),aS (by grind)];rfl
theorem n0{w r:aa}(ax:w≠[])(a:w.all rO=true)(d:w.head?≠some 35)(c:c3 r=true):av (w++r)= .word w true/\bx (w++r)=some (w++r):=by
 refine⟨tw ax a c,?_⟩;cases w with
 |nil=>grind
 |cons b t=>simp_all[Bo,hj,I0,kO]
theorem CU(t:aa):c3 (32::t)=true:=by rfl
section
variable{fr:Bool}{n k:Nat}{u r:aa}{pd:aq}(hu:dx u)(h:hT fr n u= .ok k r pd)(hk:k≠0)
include hu h hk
omit hu h hk in
theorem tx{w v:aa}{pd:aq}(ax:w≠[])(a:w.all rO=true)(b:w.head?≠some 35)(c:c3 v=true):cY w (w++v) pd= .ok () v pd:=by obtain⟨d,e⟩:=n0 ax a b c;unfold cY na;rw[aZ (cB e),d,aS (by simp)];simp[b2,cG]
omit hu h hk in
theorem Yd{w v:aa}{pd:aq}:b2 w.length (w++v) pd= .ok () v pd:=by simp[b2,pf]
end
theorem Ye(t:aa):bs (40::t)=[40]:=by rfl
theorem Yf(t:aa):c3 (40::t)=true:=by rfl
theorem Yg{D:ak Unit}{b:UInt8}{t:aa}{pd:aq}(a:bx (b::t)=some (b::t))(aE:cd b=false)(c:o2 b=false):dF D (b::t) pd= .ok false (b::t) pd:=
 (ajG a (by
  have:(b::t).dropWhile cd=b::t:=by simp_all
  rw[this,oB c];rfl)).1
theorem Fx:∀(n:Nat)(r q:aa),r.length<=n->g4 r=some q->q<:+r:=by
 intro n;induction n with
 |zero=>simp_all[nH,Nat.le_zero,g4]
 |succ n a=>
  intro r q ax h;cases r with
  |nil=>grind
  |cons b t=>unfold g4 at h;grind
theorem AR:∀(r q:aa),gd r=some q->q<:+r
 |[],q,h=>by grind[gd]
 |b::t,q,h=>by
  unfold gd at h;split at h
  ·cases h;exact ee b _
  ·exact(AR t q h).trans (ee b t)
structure lx where
 T:aa
 N:aa->Nat
 c:Nat
 Q:aa->aq->Prop
structure lx.H(E:lx)(n:Nat)(r:aa)(pd:aq):Prop where
 sfx:r<:+E.T
 le:E.N r+E.c<=n
 q:E.Q r pd
def h_(E:lx){α:Type}(r0:aa):dw α->Prop
 | .ok _ r pd=>r<:+r0/\E.Q r pd
 | .deep _=>False
 |_=>True
def aj(E:lx)(n:Nat){α:Type}(f:ak α):Prop:=∀r pd,E.H n r pd->h_ E r (f r pd)
structure lx.mW(E:lx):Prop where
 e_:1<=E.c
 mono:∀r r',r'<:+r->r<:+E.T->E.N r'<=E.N r
 ajJ:∀r r' pd,r'<:+r->r<:+E.T->E.Q r pd->E.Q r' pd
 ajK:∀r,r<:+E.T->E.Q r []
 sC:∀r pd o tabs r' aG,r<:+E.T->E.Q r pd->bs r=o->(o=[60,60]/\tabs=false\/o=[60,60,45]/\tabs=true)->hr tabs (r.drop o.length) pd= .ok () r' aG->E.Q r' aG
 vZ:∀u,36::40::u<:+E.T->u.head?≠some 40->E.N u+1<=E.N (36::40::u)\/∀n pd,E.c<=n->E.Q (36::40::u) pd->h_ E (36::40::u) ((a1 true n).dl (36::40::u) pd)
 q5:∀u,36::123::u<:+E.T->E.N u+1<=E.N (36::123::u)\/∀n pd,E.c<=n->E.Q (36::123::u) pd->h_ E (36::123::u) ((a1 true n).dl (36::123::u) pd)
 comp:∀r,r<:+E.T->bx r=some r->hG (av r)=true->E.N (r.drop (mH (av r)).length)+1<=E.N r\/∀n pd,E.c<=n->E.Q r pd->h_ E r ((a1 true n).cp (av r) r pd)
 func:∀u,40::u<:+E.T->E.N u+1<=E.N (40::u)\/∀n pd,E.c<=n+1->E.Q (40::u) pd->h_ E (40::u) (mf true (some (a1 true n)) (40::u) pd)
section
variable{E:lx}(ok:E.mW){n:Nat}
theorem h_.mono{α:Type}{r0 r:aa}{x:dw α}(h:h_ E r x)(ad:r<:+r0):h_ E r0 x:=by
 cases x with
 |ok a r1 b=>exact⟨h.1.trans ad,h.2⟩
 |more _ _ _=>trivial
 |bad _=>trivial
 |deep _=>exact h
theorem h_.ae{α β:Type}{m:ak α}{k:α->ak β}{r0 r:aa}{pd:aq}(h:h_ E r0 (m r pd))(hk:∀a r' b,m r pd= .ok a r' b->r'<:+r0->E.Q r' b->h_ E r0 (k a r' b)):h_ E r0 (Go.Eng.ae m k r pd):=by
 unfold Go.Eng.ae;cases hm:m r pd with
 |ok a r1 c=>rw[hm] at h;exact hk a r1 c hm h.1 h.2
 |more _ _ _=>trivial
 |bad _=>trivial
 |deep q=>rw[hm] at h;exact h
theorem h_.aM{α:Type}{m:ak α}{r0 r:aa}{pd:aq}{x:aa}(h:h_ E r0 (m r pd)):h_ E r0 (m.aM x r pd):=by
 unfold ak.aM;cases hm:m r pd with
 |more _ _ _=>trivial
 |ok a r1 b=>grind
 |bad _=>trivial
 |deep q=>grind
theorem h_.named{α:Type}{m:ak α}{r0 r:aa}{pd:aq}{x:aa}(h:h_ E r0 (m r pd)):h_ E r0 (m.named x r pd):=by
 unfold ak.named;cases hm:m r pd with
 |more _ _ _=>trivial
 |ok a r1 b=>grind
 |bad _=>trivial
 |deep q=>grind
theorem aj.aM{α:Type}{m:ak α}(h:aj E n m)(x:aa):aj E n (m.aM x):=λr pd a=>(h r pd a).aM
theorem aj.named{α:Type}{m:ak α}(h:aj E n m)(x:aa):aj E n (m.named x):=λr pd a=>(h r pd a).named
theorem aj.b7{α:Type}(x:aa):aj E n (Go.Eng.b7 x:ak α):=λr pd _=>trivial
theorem aj.bK{α:Type}:aj E n (Go.Eng.bK:ak α):=λr pd _=>trivial
theorem aj.ret{α:Type}(a:α):aj E n (aW a):=λr pd h=>⟨fQ,h.q⟩
theorem aj.ite{α:Type}{p:Prop}[Decidable p]{f g:ak α}(hf:aj E n f)(bf:aj E n g):aj E n (if p then f else g):=by grind
include ok
theorem lx.H.down{r r':aa}{pd a:aq}(h:E.H n r pd)(ad:r'<:+r)(b:E.Q r' a):E.H n r' a:=⟨ad.trans h.sfx,by have:=ok.mono r r' ad h.sfx;have:=h.le;omega,b⟩
theorem lx.H.qv{r r':aa}{pd:aq}(h:E.H n r pd)(ad:r'<:+r):E.H n r' pd:=h.down ok ad (ok.ajJ r r' pd ad h.sfx h.q)
theorem aj.ae{α β:Type}{m:ak α}{k:α->ak β}(hm:aj E n m)(hk:∀a,aj E n (k a)):aj E n (Go.Eng.ae m k):=λr pd h=>
 (hm r pd h).ae λa r' b _ ad c=>(hk a r' b (h.down ok ad c)).mono ad
theorem aj.ia{f:ak Unit}(hf:∀r pd,match f r pd with| .ok _ r' b=>r'<:+r/\b=pd| .deep _=>False|_=>True):aj E n f:=λr pd h=>by
 have:=hf r pd;cases hm:f r pd with
 |ok a r1 c=>rw[hm] at this;obtain⟨ad,rfl⟩:=this;exact⟨ad,(h.qv ok ad).q⟩
 |more _ _ _=>trivial
 |bad _=>trivial
 |deep q=>grind
theorem aj.dm(k:Nat):aj E n (b2 k):=aj.ia ok λr pd=>⟨lP _ _,rfl⟩
theorem aj.rep{σ α:Type}{f:σ->ak (σ⊕α)}(hf:∀s,aj E n (f s))(s:σ):aj E n (cb f s):=by
 have b:∀(N:Nat)(s:σ)(r:aa)(pd:aq),r.length<=N->E.H n r pd->h_ E r (cb f s r pd):=by
  intro N;induction N with
  |zero=>
   intro s r pd d h;rw[cH];have:=hf s r pd h;unfold cO;cases hm:f s r pd with
   |ok x r1 c=>
    rw[hm] at this;cases x with
    |inl s'=>simp only;rw[aS (by omega)];trivial
    |inr a=>exact this
   |more _ _ _=>trivial
   |bad _=>trivial
   |deep q=>rw[hm] at this;exact this
  |succ N e=>
   intro s r pd d h;rw[cH];have:=hf s r pd h;unfold cO;cases hm:f s r pd with
   |ok x r1 c=>
    rw[hm] at this;cases x with
    |inl s'=>
     simp only;split
     ·exact(e s' r1 c (by omega) (h.down ok this.1 this.2)).mono this.1
     ·trivial
    |inr a=>exact this
   |more _ _ _=>trivial
   |bad _=>trivial
   |deep q=>rw[hm] at this;exact this
 exactλr pd h=>b _ s r pd (cX _) h
theorem aj.dJ{α:Type}{x:aa}{k:Tok->ak α}(hk:∀r pd,E.H n r pd->bx r=some r->h_ E r (k (av r) r pd)):aj E n (Go.Eng.ae (bQ x) k):=by
 intro r pd h;cases a:bx r with
 |none=>rw[dh (iE a)];trivial
 |some r'=>rw[aZ (cB a)];have b:=dV a;exact(hk r' pd (h.qv ok b) (lO _ _ _ (cX _) a)).mono b
theorem aj.fP{α:Type}{x:aa}{k:Tok->ak α}(hk:∀t,aj E n (k t)):aj E n (Go.Eng.ae (bQ x) k):=aj.dJ ok λr pd h _=>hk _ r pd h
theorem aj.exp(b:Tok->Bool)(k:Nat):aj E n (na b k):=aj.fP ok λt=>aj.ite (aj.b7 _) (aj.ite (aj.dm ok _) aj.bK)
theorem aj.jR(o:aa):aj E n (Go.Eng.jR o):=aj.exp ok _ _
theorem aj.cY(o:aa):aj E n (Go.Eng.cY o):=aj.exp ok _ _
theorem aj.nl:aj E n jj:=by
 intro r pd h;cases r with
 |nil=>exact⟨fQ,h.q⟩
 |cons b t=>
  unfold jj;simp only;cases a:mc pd t with
  |inl r'=>have ad:=((vT pd t [] r' a).1).trans (ee b t);exact⟨ad,ok.ajK _ (ad.trans h.sfx)⟩
  |inr nd=>trivial
theorem aj.lines:aj E n cU:=aj.rep ok (λ_=>aj.fP ok λt=>aj.ite (aj.ae ok (aj.nl ok) λ_=>aj.ret _) (aj.ret _)) _
theorem aj.part{D:ak Unit}(hD:aj E n D){dq:Option (ak Unit)}(c:∀q,dq=some q->aj E n q):aj E n (cE D dq):=by
 intro r pd h;cases r with
 |nil=>exact⟨fQ,h.q⟩
 |cons b t=>
  have a:t<:+b::t:=ee b t
  have d:∀(f:aa->Option aa)(x:aa),(∀r q,f r=some q->q<:+r)->h_ E (b::t) (jx f x t pd):=by
   intro f x hf;unfold jx;cases hm:f t with
   |none=>trivial
   |some q=>have:=(hf _ _ hm).trans a;exact⟨this,(h.qv ok this).q⟩
  unfold cE;simp only;split
  ·have:=(lP 1 t).trans a;exact⟨this,(h.qv ok this).q⟩
  ·split
   ·exact d _ _ λr q e=>Fx _ r q (cX _) e
   ·split
    ·exact hD _ _ h
    ·cases dq with
     |none=>exact⟨a,(h.qv ok a).q⟩
     |some q=>
      simp only;split
      ·grind[AR]
      ·split
       ·exact(c q rfl t pd (h.qv ok a)).mono a
       ·exact⟨a,(h.qv ok a).q⟩
theorem aj.CV{p:ak Unit}(aB:aj E n p)(c:UInt8):aj E n (jk c p):=by
 refine aj.rep ok (λ_=>?_) _;intro r pd h;cases r with
 |nil=>trivial
 |cons b t=>
  simp only;split
  ·exact⟨ee b t,(h.qv ok (ee b t)).q⟩
  ·exact aj.ae ok aB (λ_=>aj.ret _) _ _ h
theorem aj.double{D:ak Unit}(hD:aj E n D):aj E n (eN D):=((aj.CV ok (aj.part ok hD (λq a=>by cases a)) _).aM _).named _
theorem aj.y0{D:ak Unit}(hD:aj E n D):aj E n (cE D (some (eN D))):=aj.part ok hD λq a=>by grind[aj.double]
theorem aj.param{D:ak Unit}(hD:aj E n D):aj E n (q3 D):=(aj.CV ok (aj.y0 ok hD) _).aM _
theorem aj.cQ{D:ak Unit}(hD:aj E n D):aj E n (Go.Eng.cQ D):=by
 refine aj.rep ok (λ_=>?_) _;intro r pd h;cases r with
 |nil=>trivial
 |cons b t=>
  simp only;split
  ·exact⟨fQ,h.q⟩
  ·exact aj.ae ok (aj.y0 ok hD) (λ_=>aj.ret _) _ _ h
theorem aj.jQ{D:ak Unit}(hD:aj E n D)(x:aa):aj E n (Go.Eng.jQ D x):=by refine aj.fP ok λt=>?_;grind[aj.b7,aj.cQ,aj.bK]
theorem aj.jm{D:ak Unit}(hD:aj E n D):aj E n (dF D):=by
 intro r pd h;unfold dF;cases k:bx r with
 |none=>
  have:fJ r pd=Go.Eng.b7 [] r pd:=by grind[fJ]
  unfold Go.Eng.ae;rw[this];trivial
 |some r'=>
  have b:=dV k;have g:r'.dropWhile cd<:+r:=CQ.trans b;have c:=h.qv ok g;by_cases t:e2 (bs (r'.dropWhile cd))=true
  ·have:fJ r pd= .ok (some (bs (r'.dropWhile cd))) ((r'.dropWhile cd).drop (bs (r'.dropWhile cd)).length) pd:=by simp_all[fJ,bo]
   rw[aZ this];generalize r'.dropWhile cd=q at*;have aE:q.drop (bs q).length<:+q:=lP _ _;have e:=c.qv ok aE;simp only;refine h_.mono (r:=q) (h_.ae ?_ λ_ i j _ f l=>⟨f,l⟩) g
   have m:∀tabs,(bs q=[60,60]/\tabs=false\/bs q=[60,60,45]/\tabs=true)->h_ E q (hr tabs (q.drop (bs q).length) pd):=by
    intro tabs o;cases hm:hr tabs (q.drop (bs q).length) pd with
    |more _ _ _=>trivial
    |bad _=>trivial
    |deep x=>grind[hr]
    |ok a i j=>
     refine⟨?_,ok.sC q pd _ tabs i j c.sfx c.q rfl o hm⟩;refine List.IsSuffix.trans ?_ aE;generalize q.drop (bs q).length=v at hm;unfold hr at hm;split at hm
     ·cases hm
     ·rename_i u p;split at hm
      ·cases hm
      ·split at hm
       ·cases hm
       ·rename_i d w y s
        repeat' (split at hm)
        all_goals cases hm
        exact(RT _ _ _ (cX _) s).trans (dV p)
      grind
   by_cases ad:bs q=[60,60]
   ·grind
   ·rw[aS ad];by_cases f:bs q=[60,60,45]
    ·grind
    ·rw[aS f];exact(aj.jQ ok hD _ _ _ e).mono aE
  ·have:fJ r pd= .ok none r' pd:=by simp_all[fJ,aS]
   rw[aZ this];exact⟨b,(h.qv ok b).q⟩
theorem aj.mK{D:ak Unit}(hD:aj E n D):aj E n (gV D):=aj.rep ok (λ_=>aj.ae ok (aj.jm ok hD) λb=>aj.ret _) _
theorem aj.simple{D:ak Unit}(hD:aj E n D)(fr:Bool):aj E n (hH fr D):=by
 refine aj.rep ok (λ_=>aj.ae ok (aj.jm ok hD) λb=>aj.ite (aj.ret _) (aj.fP ok λt=>?_)) _;cases t with
 |word _ _=>grind[aj.ae,aj.cQ,aj.ret]
 |op o=>simp[aj.ite,aj.bK,aj.ret]
 |_=>simp[aj.ret]
theorem aj.pipe{df:ak Unit}(h:aj E n df):aj E n (fu df):=aj.fP ok λt=>aj.ae ok (aj.ite (aj.dm ok _) (aj.ret _)) λ_=>aj.ae ok h λ_=>
 aj.rep ok (λ_=>aj.fP ok λt=>aj.ite (aj.ae ok (aj.dm ok _) λ_=>aj.ae ok ((aj.lines ok).aM _) λ_=>aj.ae ok h λ_=>aj.ret _) (aj.ret _)) _
theorem aj.pP{a:ak Unit}(h:aj E n a):aj E n (hs a):=aj.ae ok h λ_=>
 aj.rep ok (λ_=>aj.fP ok λt=>aj.ite (aj.ae ok (aj.dm ok _) λ_=>aj.ae ok ((aj.lines ok).aM _) λ_=>aj.ae ok h λ_=>aj.ret _) (aj.ret _)) _
theorem aj.list{ao:ak Unit}(h:aj E n ao)(c:Ctx)(no:Bool):aj E n (oz ao c no):=aj.ae ok ((aj.lines ok).aM _) λ_=>aj.rep ok (λk=>aj.fP ok λt=>
 aj.ite (aj.ite (aj.ret _) (aj.b7 _)) (aj.ite (aj.ret _) (aj.ae ok h λ_=>aj.fP ok λt=>by
  cases t with
  |eof=>simp[aj.ret]
  |line=>grind[aj.ae,aj.lines,aj.ret]
  |word _ _=>exact aj.bK
  |op o=>exact aj.ite (aj.ae ok (aj.dm ok _) λ_=>aj.ae ok (aj.lines ok) λ_=>aj.ret _) (aj.ite (aj.ret _) aj.bK)))) _
end
structure xl(E:lx)(n:Nat):Prop where
 ls:∀c no,aj E n ((a1 true n).ls c no)
 pm:aj E n (a1 true n).pm
 cp:∀r pd,E.H n r pd->bx r=some r->hG (av r)=true->h_ E r ((a1 true n).cp (av r) r pd)
 rd:aj E n (a1 true n).rd
 dl:aj E n (a1 true n).dl
section
variable{E:lx}(ok:E.mW){n:Nat}
include ok
theorem lx.H.pos{r:aa}{pd:aq}(h:E.H n r pd):1<=n:=by have:=ok.e_;have:=h.le;omega
theorem aj.nz:aj E n Go.Eng.nz:=by
 refine aj.ia ok λr pd=>?_;unfold Go.Eng.nz;cases h:hQ 0 r with
 |ok q=>exact⟨AP 0 r q h,rfl⟩
 |more _=>trivial
 |bad _=>trivial
theorem aj.R_{lo:Option dU}{k:Nat}(hl:(lo=none/\k=0)\/∃m,lo=some (a1 true m)/\k=m+1/\xl E m):aj E k (dM lo):=by
 intro r pd h;have hk:=h.pos ok;rcases hl with⟨_,rfl⟩|⟨m,rfl,rfl,hm⟩
 ·omega
 have i:(a1 true (m+1)).dl=dM (some (a1 true m)):=rfl;have a:∀k,r.drop k<:+r:=λk=>lP _ _
 unfold dM;split
 ·exact((aj.dm ok _).ae ok (λ_=>aj.nz ok)) r pd h
 ·rename_i j;split
  ·rename_i b;rw[DC] at b;obtain⟨u,rfl⟩:=b;have hu:u.head?≠some 40:=by
    intro f;cases u with
    |nil=>cases f
    |cons c v=>grind
   rcases ok.vZ u h.sfx hu with g|bf
   ·have d:E.H m u pd:=⟨(a 2).trans h.sfx,by have:=h.le;grind,(h.qv ok (a 2)).q⟩;have:sz (some (a1 true m)) 2 uK ([36,40]++u) pd=uK (a1 true m) u pd:=rfl;rw[this];refine h_.mono ?_ (a 2);exact aj.ae ok (((hm.ls _ _).aM _).named _) (λ_=>aj.jR ok _) _ _ d
   ·have:=bf (m+1) pd (by have:=h.le;omega) h.q;simp_all[dM,aa,aS,bo,List.isPrefixOf]
  ·rename_i b;split
   ·rename_i e;rw[DC] at e;obtain⟨u,rfl⟩:=e;rcases ok.q5 u h.sfx with g|bf
    ·have d:E.H m u pd:=⟨(a 2).trans h.sfx,by have:=h.le;grind,(h.qv ok (a 2)).q⟩;have:sz (some (a1 true m)) 2 (λl=>l.pm.named [36,123]) ([36,123]++u) pd=((a1 true m).pm.named [36,123]) u pd:=rfl;rw[this];exact((hm.pm.named _) _ _ d).mono (a 2)
    ·have:=bf (m+1) pd (by have:=h.le;omega) h.q;simp_all[dM,aa,aS,bo,List.isPrefixOf]
   ·exact⟨a 1,(h.qv ok (a 1)).q⟩
section
variable{m:Nat}(hm:xl E m)
include hm
theorem aj.body(x:aa):aj E m (iP (a1 true m) x):=aj.ae ok ((aj.cY ok _).aM _) λ_=>aj.ae ok ((hm.ls _ _).aM _) λ_=>aj.cY ok _
theorem aj.cond:aj E m (q6 (a1 true m)):=aj.rep ok (λ_=>aj.ae ok ((hm.ls _ _).aM _) λ_=>aj.ae ok (aj.cY ok _) λ_=>aj.ae ok ((hm.ls _ _).aM _) λ_=>
 aj.fP ok λt=>aj.ite (aj.ae ok (aj.cY ok _) λ_=>aj.ret _) (aj.ite (aj.ae ok (aj.cY ok _) λ_=>aj.ae ok ((hm.ls _ _).aM _) λ_=>aj.ae ok (aj.cY ok _) λ_=>aj.ret _) (aj.ae ok (aj.cY ok _) λ_=>aj.ret _))) _
theorem aj.words:aj E m (pN (a1 true m).dl):=aj.rep ok (λ_=>aj.fP ok λt=>by
 cases t with
 |eof=>simp[aj.b7]
 |word _ _=>exact aj.ae ok (aj.cQ ok hm.dl) λ_=>aj.ret _
 |line=>simp[aj.ret]
 |op o=>exact aj.ite (aj.ae ok (aj.dm ok _) λ_=>aj.ret _) aj.bK) _
theorem aj.for_:aj E m (pO (a1 true m) (a1 true m).dl):=aj.fP ok λt=>by
 cases t with
 |eof=>simp[aj.b7]
 |word w p=>
  cases p with
  |true=>
   refine aj.ite (aj.ae ok (aj.dm ok _) λ_=>aj.ae ok (aj.aM (aj.fP ok λt=>?_) _) λ_=>aj.body ok hm _) aj.bK;exact aj.ite (aj.ae ok (aj.dm ok _) λ_=>aj.ae ok (aj.lines ok) λ_=>aj.ret _) (aj.ae ok (aj.lines ok) λ_=>aj.fP ok λt=>
    aj.ite (aj.ae ok (aj.dm ok _) λ_=>aj.ae ok (aj.words ok hm) λ_=>aj.ae ok (aj.lines ok) λ_=>aj.ret _) (aj.ret _))
  |false=>exact aj.bK
 |_=>exact aj.bK
theorem aj.xj:aj E m (kZ (a1 true m).dl):=aj.rep ok (λ_=>aj.fP ok λt=>by
 cases t with
 |eof=>simp[aj.b7]
 |word _ _=>
  refine aj.ae ok ((aj.cQ ok hm.dl).aM _) λ_=>aj.fP ok λt=>?_;cases t with
  |op o=>exact aj.ite (aj.ae ok (aj.dm ok _) λ_=>aj.ret _) (aj.ite (aj.ae ok (aj.dm ok _) λ_=>aj.ret _) aj.bK)
  |eof=>simp[aj.b7]
  |_=>exact aj.bK
 |_=>exact aj.bK) _
theorem aj.items:aj E m (nA (a1 true m) (a1 true m).dl):=aj.rep ok (λ_=>aj.ae ok (aj.lines ok) λ_=>aj.fP ok λt=>aj.ite (aj.b7 _) (aj.ite (aj.ae ok (aj.dm ok _) λ_=>aj.ret _)
 (aj.ae ok (aj.ite (aj.dm ok _) (aj.ret _)) λ_=>aj.ae ok (aj.xj ok hm) λ_=>aj.ae ok (hm.ls _ _) λ_=>aj.fP ok λt=>aj.ite (aj.ae ok (aj.dm ok _) λ_=>aj.ret _) (aj.ret _)))) _
theorem aj.xk:aj E m (q7 (a1 true m) (a1 true m).dl):=aj.fP ok λt=>by
 cases t with
 |eof=>simp[aj.b7]
 |word _ _=>exact aj.ae ok (aj.aM (aj.ae ok (aj.cQ ok hm.dl) λ_=>aj.ae ok (aj.lines ok) λ_=>aj.fP ok λt=>aj.ite (aj.b7 _) (aj.ret _)) _) λt=>aj.ite (aj.ae ok (aj.dm ok _) λ_=>(aj.items ok hm).aM _) aj.bK
 |_=>exact aj.bK
theorem h_.kind{r:aa}{pd:aq}(h:E.H m (r.drop (mH (av r)).length) pd)(aF:hG (av r)=true):h_ E r (hS (a1 true m) (av r) r pd):=by
 have aE:∀k,r.drop k<:+r:=λk=>lP _ _
 cases a:av r with
 |eof=>grind[hG]
 |line=>grind[hG]
 |op o=>rw[a] at h;have:hS (a1 true m) (.op o) r pd=Go.Eng.ae (((a1 true m).ls .paren false).aM [41]) (λ_=>Go.Eng.jR [41]) (r.drop 1) pd:=rfl;rw[this];exact(aj.ae ok ((hm.ls _ _).aM _) (λ_=>aj.jR ok _) _ _ h).mono (aE _)
 |word w p=>
  rw[a] at h;have:hS (a1 true m) (.word w p) r pd=(if w=[123] then Go.Eng.ae (((a1 true m).ls .q5 false).aM [10,125]) λ_=>Go.Eng.cY [125]
   else if w=m_ then q6 (a1 true m)
   else if w=ny then pO (a1 true m) (a1 true m).dl
   else if w=pL then q7 (a1 true m) (a1 true m).dl
   else Go.Eng.ae (((a1 true m).ls .pM false).aM er) λ_=>iP (a1 true m) er:ak Unit) (r.drop w.length) pd:=rfl
  rw[this];refine h_.mono ?_ (aE w.length);refine aj.ite ?_ (aj.ite (aj.cond ok hm) (aj.ite (aj.for_ ok hm) (aj.ite (aj.xk ok hm) ?_))) _ _ h
  ·exact aj.ae ok ((hm.ls _ _).aM _) λ_=>aj.cY ok _
  ·exact aj.ae ok ((hm.ls _ _).aM _) λ_=>aj.body ok hm _
theorem h_.cp{r:aa}{pd:aq}(h:E.H (m+1) r pd)(a:bx r=some r)(aF:hG (av r)=true):h_ E r ((a1 true (m+1)).cp (av r) r pd):=by
 rcases ok.comp r h.sfx a aF with b|bf
 ·have aE:r.drop (mH (av r)).length<:+r:=lP _ _;have c:E.H m (r.drop (mH (av r)).length) pd:=⟨aE.trans h.sfx,by have:=h.le;omega,(h.qv ok aE).q⟩;have:(a1 true (m+1)).cp (av r) r pd=((hS (a1 true m) (av r)).named (mH (av r))) r pd:=rfl;grind[h_.kind,h_.named]
 ·exact bf _ _ (by have:=h.le;omega) h.q
theorem h_.function{u:aa}{pd:aq}(h:E.H (m+1) (40::u) pd):h_ E (40::u) (mf true (some (a1 true m)) (40::u) pd):=by
 rcases ok.func u h.sfx with j|bf
 ·have hu:u<:+40::u:=ee 40 u;have b:E.H m u pd:=⟨hu.trans h.sfx,by have:=h.le;omega,(h.qv ok hu).q⟩;have e:(a1 true m).has=true:=by
   cases m with
   |zero=>have:=b.pos ok;omega
   |succ _=>rfl
  unfold mf;simp only;rw[bo e];refine h_.named ?_;refine h_.mono ?_ hu;refine aj.fP ok (λt=>aj.ite (aj.b7 _) (aj.ite ?_ aj.bK)) u pd b;refine aj.ae ok (aj.dm ok _) λ_=>aj.ae ok ((aj.lines ok).aM _) λ_=>aj.dJ ok λr pd c f=>?_;by_cases ad:av r= .eof
  ·rw[bo ad];trivial
  rw[aS ad];by_cases a:hG (av r)=true
  ·rw[bo a];exact h_.ae (hm.cp r pd c f a) λ_ r1 g _ d i=>(hm.rd r1 g (c.down ok d i)).mono d
  ·rw[aS a];trivial
 ·exact bf m pd (by have:=h.le;omega) h.q
theorem aj.command:aj E (m+1) (gm true (some (a1 true m)) (a1 true (m+1)).dl):=by
 have hD:aj E (m+1) (a1 true (m+1)).dl:=aj.R_ ok (.inr ⟨m,rfl,rfl,hm⟩);refine aj.dJ ok λr pd h e=>?_;by_cases ad:av r= .eof
 ·rw[bo ad];trivial
 rw[aS ad];by_cases c:hG (av r)=true
 ·rw[bo c];exact h_.ae (h_.cp ok hm h e c) λ_ r1 f _ a d=>(aj.mK ok hD r1 f (h.down ok a d)).mono a
 rw[aS c];cases i:av r with
 |eof=>grind
 |line=>trivial
 |op o=>exact aj.ite (aj.ae ok (aj.jm ok hD) λ_=>aj.simple ok hD true) aj.bK r pd h
 |word w p=>
  refine aj.ite aj.bK (aj.ae ok (aj.jm ok hD) λb=>aj.ite (aj.simple ok hD true) (aj.ae ok (aj.cQ ok hD) λ_=>aj.ite (aj.dJ ok λr pd h e=>?_) (aj.simple ok hD true))) r pd h;by_cases a:av r= .op [40]
  ·rw[bo a];obtain⟨u,rfl⟩:=(iq a).2.1;exact h_.ae (h_.function ok hm h) λ_ r1 f _ d g=>⟨d,g⟩
  ·rw[aS a];exact aj.simple ok hD true r pd h
end
omit n in
theorem oC:∀n,xl E n
 |0=>by
  have a:∀{r pd},¬E.H 0 r pd:=λh=>by have:=h.pos ok;omega
  exact⟨λc no r pd h=>absurd h a,λr pd h=>absurd h a,λr pd h=>absurd h a,λr pd h=>absurd h a,λr pd h=>absurd h a⟩
 |m+1=>by have hm:=oC m;have hD:aj E (m+1) (a1 true (m+1)).dl:=aj.R_ ok (.inr ⟨m,rfl,rfl,hm⟩);exact⟨λc no=>aj.list ok (aj.pP ok (aj.pipe ok (aj.command ok hm))) c no,aj.param ok hD,λr pd h b aF=>h_.cp ok hm h b aF,aj.mK ok hD,hD⟩
end
end Go.Eng
namespace Go.Eng
open Go Go.Proofs
theorem aP{α β:Type}{m:Option α}{k:α->Option β}{y:α}(h:m=some y):aw m k=k y:=by rw[h];rfl
theorem ajM{α β:Type}{c:Prop}[Decidable c]{x d:α}{k:α->Option β}(h:c):cT c (some x) d k=k x:=by unfold cT;rw[bo h];rfl
theorem v5{α:Type}[Inhabited α]{l:List α}{k:Int}(h0:0<=k)(h:k<(l.length:Int)):l.drop k.toNat=at' l k::l.drop (k+1).toNat:=by grind[List.drop_eq_getElem_cons,at']
theorem Mu{α:Type}{l:List α}{k:Int}(h0:0<=k):b_ l k (l.length:Int)=l.drop k.toNat:=by simp[b_,GM]
def rP(c:UInt8):aa->bt
 |[]=>[[]]
 |b::l=>if b=c then []::rP c l else match rP c l with
  |[]=>[[b]]
  |x::xs=>(b::x)::xs
theorem Yh(c:UInt8):∀(l:aa),(Lib.indexByte l c= -1/\rP c l=[l]/\l.count c=0)\/
  ∃p:Nat,Lib.indexByte l c=p/\p<l.length/\rP c l=l.take p::rP c (l.drop (p+1))/\l.count c=(l.drop (p+1)).count c+1
 |[]=> .inl ⟨rfl,rfl,rfl⟩
 |b::l=>by
  by_cases h:b=c
  ·grind[Lib.indexByte,rP]
  ·have e:(b==c)=false:=by grind
   rcases Yh c l with⟨ad,a,d⟩|⟨p,ad,a,d,f⟩
   ·grind[Lib.indexByte,rP]
   ·refine .inr ⟨p+1,?_,?_,?_,?_⟩
    ·grind[Lib.indexByte]
    ·grind
    ·grind[rP]
    grind
theorem ajN(a:bt)(s:aa)(i:Nat)(a8:i<a.length):b_ (List.set a i s) 0 ((i:Int)+1)=a.take i++[s]:=by
 unfold b_;have b:((i:Int)+1).toNat=i+1:=by omega
 simp only[GH,tW,Nat.sub_zero,b];rw[List.take_set,List.take_succ_eq_append_getElem a8,List.set_append_right _ _ (by grind)];simp only[List.length_take,Nat.min_eq_left (show i<=a.length by omega),Nat.sub_self,List.set_cons_zero]
theorem ajO(a:bt)(s:aa)(i:Nat)(a8:i<a.length):(List.set a i s).take (i+1)=a.take i++[s]:=by rw[List.take_set,List.take_succ_eq_append_getElem a8,List.set_append_right _ _ (by grind)];simp only[List.length_take,Nat.min_eq_left (show i<=a.length by omega),Nat.sub_self,List.set_cons_zero]
theorem ajP(x0:aa)(c:UInt8)(n:Nat)(w:(x0.length:Int)<=1048576)(ax:(n:Int)=x0.count c+1)(j:aa×bt×Int->Option bt)
  (e:∀(s:aa)(a:bt)(i:Nat),a.length=n->i<n->j (s,a,(i:Int))=some (a.take i++[s])):
  ∀(m:Nat)(s:aa)(a:bt)(i:Nat),a.length=n->n=i+s.count c+1->s.length<=x0.length->(s.count c:Int)<m->0<m->
  fixF (Hw x0 [c] 0 (n:Int) j) m (s,a,(i:Int))=some (a.take i++rP c s):=by
 have kl:=List.count_le_length (a:=c) (l:=x0);have f:min (n:Int) (W ((x0.length:Int)+1))=n:=by grind[dW]
 intro m;induction m with
 |zero=>omega
 |succ m g=>
  intro s a i h a8 x hm _;simp only[fixF,Hw,a9,oJ,f];have k:W ((n:Int)-1)=(n:Int)-1:=dW (by omega) (by omega);have o:W ((i:Int)+1)=(i:Int)+1:=dW (by omega) (by omega);rw[k];rcases Yh c s with⟨ad,b,d⟩|⟨p,ad,b,d,y⟩
  ·rw[aS (by omega),e _ _ _ h (by omega),b]
  ·rw[bo (by omega)];simp only[PQ,aw,ad];have q:W ((p:Int)+0)=p:=by grind[dW]
   have r:W ((p:Int)+(([c]:aa).length:Int))=p+1:=by rw[dW (by omega) (by grind)];simp
   rw[q,r,if_neg (by omega),if_pos ⟨by omega,by omega,by omega⟩,if_pos ⟨by omega,by omega⟩,if_pos ⟨by omega,by omega,by omega⟩,o];have t:b_ s ((p:Int)+1) (s.length:Int)=s.drop (p+1):=by rw[Mu (by omega)];congr 1
   have u:b_ s 0 (p:Int)=s.take p:=by rfl
   have v:(((i+1:Nat)):Int)=(i:Int)+1:=by omega
   rw[t,u,<-v];rw[g (s.drop (p+1)) _ (i+1) (by grind) (by omega) (by grind) (by omega) (by omega),d];simp only[Int.toNat_natCast];rw[ajO _ _ _ (by omega),List.append_assoc];rfl
theorem Yi(x0:aa)(c:UInt8)(b:(x0.length:Int)<=1048576):Eg x0 [c]=some (rP c x0):=by
 have kl:=List.count_le_length (a:=c) (l:=x0);have bf:Hx x0 [c] 0 (-1)=some (rP c x0):=by
  unfold Hx;simp only[a_,Bool.cond_decide,PR,aw,Lib.countByte,a9];have d:W (((x0.count c:Nat):Int)+1)=((x0.count c+1:Nat):Int):=by grind[dW]
  have e:min ((x0.count c+1:Nat):Int) (W ((x0.length:Int)+1))=((x0.count c+1:Nat):Int):=by grind[dW]
  rw[aS (by decide),aS (by simp),bo (by decide),d,e,bo ⟨by omega,by omega⟩];have f:(List.replicate (((x0.count c+1:Nat):Int).toNat) ([]:aa)).length=x0.count c+1:=by simp
  refine Eq.trans (ajP x0 c (x0.count c+1) b (by omega) _ (λs a i h a8=>?_) bC x0 _ 0 f (by omega) (by omega) (by grind[gi]) (by simp[gi])) (by simp);have g:W ((i:Int)+1)=(i:Int)+1:=dW (by omega) (by omega);simp only[g];rw[bo ⟨by omega,by omega⟩,bo ⟨by omega,by omega,by grind⟩];grind[ajN]
 grind[Eg,aP]
theorem ajQ(x:aa)(ys:bt)(hl:(ys.length:Int)<=1048576)(j:Unit->Option Bool):∀(m:Nat)(k:Int),0<=k->k<=(ys.length:Int)->(ys.length:Int)-k<m->0<m->
  fixF (K4 x ys j) m k=if(ys.drop k.toNat).contains x then some true else j ():=by
 intro m;induction m with
 |zero=>omega
 |succ m a=>
  intro k hk b hm _;simp only[fixF,K4,a9,oJ];by_cases ad:k<(ys.length:Int)
  ·simp only[ad,hk,cD,nI];rw[dW (by omega) (by omega),v5 hk ad];grind
  ·simp only[ad,cl];grind[List.drop_eq_nil_of_le]
theorem Sb(x w:aa)(a:(w.length:Int)<=1048576)(hl:((rP 32 w).length:Int)<=1048576):B2 x w=some ((rP 32 w).contains x):=by unfold B2;rw[Yi w 32 a];simp only[aw,a_];rw[ajQ x _ hl _ bC 0 (by omega) (by omega) (by grind[gi]) (by simp[gi])];grind
theorem ajR(s p:aa):Lib.hasPrefix s p=decide (s.take p.length=p):=by unfold Lib.hasPrefix;rw[Bool.eq_iff_iff,DC,List.prefix_iff_eq_take];grind
theorem Yj(l:aa)(a:Int)(b:0<=a)(c:a<(l.length:Int))(n:(l.length:Int)<=1048576)(ys:bt)(hl:(ys.length:Int)<=1048576)(d:∀y∈ys,(y.length:Int)<=100)(j:Unit->Option aa):
  ∀(m:Nat)(k:Int),0<=k->k<=(ys.length:Int)->(ys.length:Int)-k<m->0<m->
  fixF (Ik l a ys j) m k=(match(ys.drop k.toNat).find? (λy=>Lib.hasPrefix (l.drop a.toNat) y) with|some y=>some y|none=>j ())/\
  fixF (HA l a ys j) m k=(match(ys.drop k.toNat).find? (λy=>Lib.hasPrefix (l.drop a.toNat) y) with|some y=>some y|none=>j ()):=by
 intro m;induction m with
 |zero=>omega
 |succ m e=>
  intro k hk o hm _;simp only[fixF,Ik,HA,a9,oJ,P0,aw];by_cases ad:k<(ys.length:Int)
  ·have f:=d (at' ys k) (r2 (mX ⟨hk,ad⟩));simp only[ad,hk,cD,nI];have g:W (k+1)=k+1:=dW (by omega) (by omega);have h:W ((l.length:Int)-a)=(l.length:Int)-a:=dW (by omega) (by omega);have i:W (a+((at' ys k).length:Int))=a+((at' ys k).length:Int):=dW (by omega) (by omega);obtain⟨p,q⟩:=e (k+1) (by omega) (by omega) (by omega) (by omega);rw[g,h,i,v5 hk ad,Mu b];simp only[xS,b,u9,nI,cD,true_and,show a<=(l.length:Int) by omega];rw[ajR];have r:b_ l a (a+((at' ys k).length:Int))=(l.drop a.toNat).take (at' ys k).length:=by unfold b_;congr 1;omega
   by_cases s:(l.drop a.toNat).take (at' ys k).length=at' ys k
   ·have t:((at' ys k).length:Int)<=(l.length:Int)-a:=by grind
    grind
   grind
  ·simp only[ad,cl];grind[List.drop_eq_nil_of_le]
theorem mL(b c:UInt8)(z:Int)(h:z=(c.toNat:Int)):((b.toNat:Int)=z)=(b=c):=by subst h;apply propext;grind[UInt8.toNat_inj]
theorem Sc(l:aa)(c:UInt8):Lib.indexByte l c<=l.length:=by
 induction l with
 |nil=>simp[Lib.indexByte]
 |cons b l a=>grind[Lib.indexByte,List.length_cons]
theorem ajS(c:UInt8):∀(l:aa),0<=Lib.indexByte l c->Lib.indexByte l c<l.length:=by
 intro l;induction l with
 |nil=>simp[Lib.indexByte]
 |cons b l a=>unfold Lib.indexByte;grind
theorem ajT(l:aa)(hl:(l.length:Int)<=1048576)(j:Int->Option Int):∀(m:Nat)(k:Int),0<=k->k<=(l.length:Int)->(l.length:Int)-k<m->0<m->
  fixF (Ii l j) m k=j (if Lib.indexByte (l.drop k.toNat) 10<0 then(l.length:Int) else k+Lib.indexByte (l.drop k.toNat) 10):=by
 intro m;induction m with
 |zero=>omega
 |succ m a=>
  intro k hk b hm _;simp only[fixF,Ii,a9,oJ];by_cases ad:k<(l.length:Int)
  ·simp only[ad,hk,cD,nI,imp_true_iff,mL _ 10 10 rfl,bA];rw[dW (by omega) (by omega),v5 hk ad,Lib.indexByte];grind
  ·simp only[ad,cl,bF,aR,ew,false_imp_iff,cD];rw[tV (by omega)];have e:(if Lib.indexByte ([]:aa) 10<0 then(l.length:Int) else k+Lib.indexByte ([]:aa) 10)=k:=by rw[bo (by decide)];omega
   rw[e]
theorem Yk{l:aa}{k e:Int}(h0:0<=k)(h:k<e)(he:e<=(l.length:Int)):b_ l k e=at' l k::b_ l (k+1) e:=by
 unfold b_;rw[v5 h0 (by omega)];have:e.toNat-k.toNat=(e.toNat- (k+1).toNat)+1:=by omega
 grind
theorem ajU{l:aa}{e:Int}:b_ l e e=[]:=by simp[b_]
theorem ajV(l:aa)(hl:(l.length:Int)<=1048576)(e:Int)(he:e<=(l.length:Int))(j:Int->Option Int):∀(m:Nat)(k:Int),0<=k->k<=e->e-k<m->0<m->
  ∃k',k<=k'/\k'<=e/\fixF (EL l true e j) m k=j k'/\b_ l k' e=(b_ l k e).dropWhile (· ==9):=by
 intro m;induction m with
 |zero=>omega
 |succ m a=>
  intro k hk d hm _;simp only[fixF,EL,a9,oJ,aK];by_cases ad:k<e
  ·have b:k<(l.length:Int):=by omega
   simp only[ad,b,hk,cD,nI,imp_true_iff,mL _ 9 9 rfl,bA,aK];rw[dW (by omega) (by omega),Yk hk ad he];by_cases f:at' l k=9
   ·obtain⟨k',r1,c,g,h⟩:=a (k+1) (by omega) (by omega) (by omega) (by omega);refine⟨k',by omega,c,?_,?_⟩
    ·grind
    simp_all
   ·refine⟨k,by omega,by omega,?_,?_⟩
    ·grind
    simp_all[Yk]
  ·have:k=e:=by omega
   subst this;refine⟨k,by omega,by omega,?_,?_⟩
   ·simp
   simp[ajU]
theorem ajW(l:aa)(e k:Int)(j:Int->Option Int):fixF (EL l false e j) bC k=j k:=by grind[bC,gi,fixF,EL,a9]
theorem ajX(j:aa->Option aa):∀(m:Nat)(x:aa),(x.length:Int)<=1048576->x.length<m->fixF (K1 9 j) m x=j (x.dropWhile (· ==9)):=by
 intro m;induction m with
 |zero=>omega
 |succ m c=>
  intro x i hm;simp only[fixF,K1,a9,oJ];cases x with
  |nil=>simp
  |cons b x=>
   have h0:at' (b::x) (0:Int)=b:=rfl;have d:b_ (b::x) 1 ((b::x).length:Int)=x:=by simp[b_]
   have a:(0:Int)<((b::x).length:Int):=by simp
   have e:(1:Int)<=((b::x).length:Int):=by omega
   have f:x.length<m:=by grind
   have g:=mL b 9 ((9:UInt8).toNat:Int) rfl;rw[h0,d];simp only[g,a,e,bA,aK,u9,nI,imp_true_iff,cD];by_cases h:b=9
   ·subst h;simp only[bA,cD,true_and,show(0:Int)<=1 from by decide];rw[c x (by grind) f];simp
   simp_all
theorem Yl(x:aa)(b:(x.length:Int)<=1048576):BX x [9]=some (x.dropWhile (· ==9)):=by
 unfold BX;by_cases h:x=[]
 ·simp_all
 ·have c:HF x (at' [9] 0)=some (x.dropWhile (· ==9)):=by unfold HF;have a:at' ([9]:aa) (0:Int)=9:=rfl;grind[a_,ajX,bC,gi]
  have a:((at' ([9]:aa) (0:Int)).toNat:Int)<128:=by decide
  have d:(decide (x=[]))=false:=by grind
  simp_all[aR,a9,aP]
theorem ajY(l d:aa)(t:Bool)(hl:(l.length:Int)<=1048576):∀(m:Nat)(k:Int),0<=k->k<=(l.length:Int)->(l.length:Int)-k<m->0<m->
  ∃r,fixF (w6 l d t λ_=>some (-1)) m k=some r/\fixF (rB l d t λ_=>some (-1)) m k=some r:=by
 intro m;induction m with
 |zero=>omega
 |succ m G=>
  intro k hk g hm _;by_cases ad:k<(l.length:Int)
  ·
   have u:=Sc (l.drop k.toNat) 10;have H:=JV (l.drop k.toNat) 10;have n:=ajS 10 (l.drop k.toNat);simp only[DD] at u n;have h:b_ l k (l.length:Int)=l.drop k.toNat:=Mu hk;have c:∀(e a:Int),k<=e->e<=(l.length:Int)->k<a->a<=(l.length:Int)->
     (∀j,fixF (Ii l j) bC k=j e)->(if e<(l.length:Int) then W (e+1) else e)=a->
     (∃r,fixF (w6 l d t λ_=>some (-1)) (m+1) k=some r/\
      (bif decide ((if t then(b_ l k e).dropWhile (· ==9) else b_ l k e)=d) then some a else fixF (rB l d t λ_=>some (-1)) m a)=some r):=by
    intro e a i o I J v w;simp only[fixF,w6,a_,oJ,ad,cD];rw[v];have fin:∀k',k<=k'->k'<=e->b_ l k' e=(if t then(b_ l k e).dropWhile (· ==9) else b_ l k e)->
      ∃r,(if e<(l.length:Int) then a9 (0<=k'/\k'<=e/\e<=(l.length:Int)) (if b_ l k' e=d then some (W (e+1)) else fixF (w6 l d t λ_=>some (-1)) m (W (e+1)))
       else a9 (0<=k'/\k'<=e/\e<=(l.length:Int)) (if b_ l k' e=d then some e else fixF (w6 l d t λ_=>some (-1)) m e))=some r/\
      (if((if t then(b_ l k e).dropWhile (· ==9) else b_ l k e)=d) then some a else fixF (rB l d t λ_=>some (-1)) m a)=some r:=by
     intro k' x q y;have bf:0<=k'/\k'<=e/\e<=(l.length:Int):=⟨by omega,q,o⟩;simp only[a9,bf,cD,nI];grind
    cases t with
    |true=>
     obtain⟨k',x,q,y,K⟩:=ajV l hl e o (λb=>if e<(l.length:Int) then a9 (0<=b/\b<=e/\e<=(l.length:Int)) (if b_ l b e=d then some (W (e+1)) else fixF (w6 l d true λ_=>some (-1)) m (W (e+1)))
      else a9 (0<=b/\b<=e/\e<=(l.length:Int)) (if b_ l b e=d then some e else fixF (w6 l d true λ_=>some (-1)) m e)) bC k hk i (by grind[gi]) (by simp[gi])
     grind
    |false=>rw[ajW];grind
   have a8:∀(line:aa)(a:Int),(line.length:Int)<=1048576->
     (bif t then aw (BX line [9]) λ(z:aa)=>(if z=d then some a else fixF (rB l d t λ_=>some (-1)) m a) else(if line=d then some a else fixF (rB l d t λ_=>some (-1)) m a))=
     (bif decide ((if t then line.dropWhile (· ==9) else line)=d) then some a else fixF (rB l d t λ_=>some (-1)) m a):=by
    intro line a A;cases t with
    |true=>simp_all[aK,aP,Yl]
    |false=>simp
   have B:=λj=>ajT l hl j bC k hk g (by grind[gi]) (by simp[gi]);generalize aB:Lib.indexByte (l.drop k.toNat) 10=p at*;by_cases L:p<0
   ·obtain⟨r,r1,s⟩:=c (l.length:Int) (l.length:Int) g (u9 _) ad (u9 _) (λj=>by grind) (by simp);refine⟨r,r1,?_⟩;simp only[fixF,rB,a_,oJ,ad,cD,a9,Ej,aw,h,aB,hk,g,u9,nI];rw[aS (by omega)];rw[h] at s;have:=a8 (l.drop k.toNat) (l.length:Int) (by grind);grind[aw]
   ·have M:=n (by omega);have C:W (k+p+1)=k+p+1:=dW (by omega) (by omega);have D:W (k+p)=k+p:=dW (by omega) (by omega);obtain⟨r,r1,s⟩:=c (k+p) (k+p+1) (by omega) (by omega) (by omega) (by omega) (λj=>by grind) (by omega);refine⟨r,r1,?_⟩;simp only[fixF,rB,a_,oJ,ad,cD,a9,Ej,aw,h,aB,hk,g,u9,nI];have e_:0<=p:=by omega
    have E:(0:Int)<=0/\0<=p/\p<=((l.drop k.toNat).length:Int):=⟨by omega,by omega,by grind⟩;rw[D,C];simp only[e_,cD,true_and,show p<=((l.drop k.toNat).length:Int) from E.2.2];have F:b_ (l.drop k.toNat) 0 p=b_ l k (k+p):=by unfold b_;simp only[GH,tW,Nat.sub_zero];congr 1;omega
    rw[F];have f:((b_ l k (k+p)).length:Int)<=1048576:=by grind[b_]
    have:=a8 (b_ l k (k+p)) (k+p+1) f;grind[aw]
  ·simp only[fixF,w6,rB,oJ,ad,cl];simp
def dl:aa->UInt8->Option aa
 |[],q=>if q=0 then some [] else none
 |b::r,q=>
  if q=39 then(if b=39 then dl r 0 else(dl r 39).map (b::·))
  else if b=92 then
   match r with
   |[]=>none
   |n::r'=>if n=10 then dl r' q else if q=0\/n=36\/n=34\/n=92\/n=96 then(dl r' q).map (n::·) else(dl (n::r') q).map (b::·)
  else if b=36\/b=96 then none
  else if b=34 then(if q=0 then dl r 34 else dl r 0)
  else if b=39/\q=0 then dl r 39
  else(dl r q).map (b::·)
termination_by l _=>l.length
decreasing_by all_goals grind
def n2(j:aa->Option (aa×Bool))(o:aa)(m:Option aa):Option (aa×Bool):=match m with
 |some s=>j (o++s)
 |none=>some ([],false)
theorem o3(j:aa->Option (aa×Bool))(o:aa)(b:UInt8)(m:Option aa):n2 j o (m.map (b::·))=n2 j (o++[b]) m:=by
 cases m with
 |none=>rfl
 |some s=>simp[n2]
theorem tA(j:aa->Option (aa×Bool))(o:aa):n2 j o none=some ([],false):=rfl
theorem aj0(l:aa)(hl:(l.length:Int)<=200000000)(j:aa×UInt8->Option (aa×Bool))(B:∀o q,q≠0->j (o,q)=some ([],false)):
  ∀(m:Nat)(o:aa)(q:UInt8)(k:Int),0<=k->k<=(l.length:Int)->(o.length:Int)<=k->(l.length:Int)-k<m->0<m->(q=0\/q=34\/q=39)->
  fixF (Ct l j) m (o,q,k)=n2 (λo=>j (o,0)) o (dl (l.drop k.toNat) q):=by
 intro m;induction m with
 |zero=>omega
 |succ m u=>
  intro o q k hk H I hm _ e;by_cases ad:k<(l.length:Int)
  ·have p:∀f a,(f.length:Int)<=k+1->(a=0\/a=34\/a=39)->fixF (Ct l j) m (f,a,k+1)=n2 (λo=>j (o,0)) f (dl (l.drop (k+1).toNat) a):=λf a i t=>u f a (k+1) (by omega) (by omega) i (by omega) (by omega) t
   have C:k+1<(l.length:Int)->∀f a,(f.length:Int)<=k+1->(a=0\/a=34\/a=39)->fixF (Ct l j) m (f,a,k+2)=n2 (λo=>j (o,0)) f (dl (l.drop (k+2).toNat) a):=λh0 f a i t=>u f a (k+2) (by omega) (by omega) (by omega) (by omega) (by omega) t
   have D:W (k+1)=k+1:=dW (by omega) (by omega);have E:W (k+1+1)=k+2:=by grind[dW]
   have bf:∀b:UInt8,o.length+([b]:aa).length<=536870912:=by grind
   have g:∀b:UInt8,((o++[b]).length:Int)<=k+1:=by grind
   simp only[fixF,Ct,a9,a_,oJ,D,E,ad,hk,cD,nI,bf,mL _ 39 39 rfl,mL _ 92 92 rfl,mL _ 10 10 rfl,mL _ 36 36 rfl,mL _ 34 34 rfl,mL _ 96 96 rfl,mL _ 0 0 rfl];rw[v5 hk ad];generalize at' l k=b at*;by_cases i:k+1=(l.length:Int)
   ·have ec:l.drop (k+1).toNat=[]:=tV (by omega);rw[ec] at p⊢;simp only[i,bA,gW,aR];rw[dl];have c:=λ(b:UInt8)(a:UInt8)(h:a=0\/a=34\/a=39)=>p (o++[b]) a (g b) h;have d:=λ(a:UInt8)(h:a=0\/a=34\/a=39)=>p o a (by omega) h;rw[i] at c d;by_cases q_:b=39
    ·subst q_;rcases e with rfl|rfl|rfl<;>simp[c,d,o3]
    by_cases mM:b=92
    ·subst mM;rcases e with rfl|rfl|rfl<;>simp[c,d,o3,tA]
    by_cases qw:b=36
    ·subst qw;rcases e with rfl|rfl|rfl<;>simp[c,d,o3,tA]
    by_cases n3:b=96
    ·subst n3;rcases e with rfl|rfl|rfl<;>simp[c,d,o3,tA]
    by_cases n4:b=34
    ·subst n4;rcases e with rfl|rfl|rfl<;>simp[c,d,o3,tA]
    rcases e with rfl|rfl|rfl<;>simp[c,d,o3,q_,mM,qw,n3,n4]
   ·have t:k+1<(l.length:Int):=by omega
    have ec:l.drop (k+1).toNat=at' l (k+1)::l.drop (k+2).toNat:=by grind[v5]
    have v:=C t;rw[ec] at p⊢;generalize at' l (k+1)=n at*;have F:¬(k+1=(l.length:Int)):=i;have G:0<=k+1/\k+1<(l.length:Int):=by omega
    simp only[F,G,bF,e8,aK,cD,nI];rw[dl];have c:=λ(b:UInt8)(a:UInt8)(h:a=0\/a=34\/a=39)=>p (o++[b]) a (g b) h;have d:=λ(a:UInt8)(h:a=0\/a=34\/a=39)=>p o a (by omega) h;have r:=λ(b:UInt8)(a:UInt8)(h:a=0\/a=34\/a=39)=>v (o++[b]) a (g b) h;have s:=λ(a:UInt8)(h:a=0\/a=34\/a=39)=>v o a (by omega) h;by_cases q_:b=39
    ·subst q_;rcases e with rfl|rfl|rfl<;>simp[c,d,o3]
    by_cases mM:b=92
    ·subst mM;by_cases w:n=10
     ·subst w;rcases e with rfl|rfl|rfl<;>simp[c,d,r,s,o3]
     by_cases x:n=36
     ·subst x;rcases e with rfl|rfl|rfl<;>simp[c,d,r,s,o3]
     by_cases y:n=34
     ·subst y;rcases e with rfl|rfl|rfl<;>simp[c,d,r,s,o3]
     by_cases z:n=92
     ·subst z;rcases e with rfl|rfl|rfl<;>simp[c,d,r,s,o3]
     by_cases A:n=96
     ·subst A;rcases e with rfl|rfl|rfl<;>simp[c,d,r,s,o3]
     rcases e with rfl|rfl|rfl<;>simp[c,d,r,s,o3,w,x,y,z,A]
    by_cases qw:b=36
    ·subst qw;rcases e with rfl|rfl|rfl<;>simp[c,d,o3,tA]
    by_cases n3:b=96
    ·subst n3;rcases e with rfl|rfl|rfl<;>simp[c,d,o3,tA]
    by_cases n4:b=34
    ·subst n4;rcases e with rfl|rfl|rfl<;>simp[c,d,o3,tA]
    rcases e with rfl|rfl|rfl<;>simp[c,d,o3,q_,mM,qw,n3,n4]
  ·simp only[fixF,Ct,a9,a_,oJ,ad,cl];rw[tV (by omega)];simp only[dl];by_cases i:q=0
   ·grind[n2]
   ·rw[B _ _ i,aS i];rfl
theorem aj1(l:aa):dl l 39=if Lib.indexByte l 39<0 then none else(dl (l.drop (Lib.indexByte l 39+1).toNat) 0).map ((l.take (Lib.indexByte l 39).toNat)++·):=by
 induction l with
 |nil=>simp[dl,Lib.indexByte]
 |cons b l a=>
  rw[dl.eq_def,Lib.indexByte];by_cases h:b=39
  ·simp_all
  ·have c:(b==39)=false:=by grind
   have g:=JV l 39;simp only[cD,h,cl,c,ew];rw[a];generalize Lib.indexByte l 39=p at*;by_cases i:p= -1
   ·grind
   ·have d:(p== -1)=false:=by grind
    simp only[d,ew,cl];rw[aS (by omega),aS (by omega)];have e:(p+1+1).toNat=(p+1).toNat+1:=by omega
    have f:(p+1).toNat=p.toNat+1:=by omega
    rw[e,f,GJ,N3,Option.map_map];rfl
theorem aj2(l:aa)(hl:(l.length:Int)<=1048576)(j:Unit->Option (aa×Int))(E:j ()=some ([], -1)):
  ∀(m:Nat)(o:aa)(k:Int),0<=k->k<=(l.length:Int)->(o.length:Int)<=k->(l.length:Int)-k<m->0<m->
  (fixF (sn l j) m (o,k)=some ([], -1)/\dl (l.drop k.toNat) 34=none)\/
  ∃(s:aa)(k':Int),fixF (sn l j) m (o,k)=some (o++s,k')/\k<k'/\k'<=(l.length:Int)/\((o++s).length:Int)<=k'/\dl (l.drop k.toNat) 34=(dl (l.drop k'.toNat) 0).map (s++·):=by
 intro m;induction m with
 |zero=>omega
 |succ m w=>
  intro o k hk F G hm _;by_cases ad:k<(l.length:Int)
  ·have x:W (k+1)=k+1:=dW (by omega) (by omega);have y:W (k+1+1)=k+2:=by grind[dW]
   have bf:∀b:UInt8,o.length+([b]:aa).length<=536870912:=by grind
   have e:∀b c:UInt8,o.length+([b,c]:aa).length<=536870912:=by grind
   simp only[fixF,sn,a9,a_,oJ,x,y,ad,hk,cD,nI,bf,e,mL _ 39 39 rfl,mL _ 92 92 rfl,mL _ 10 10 rfl,mL _ 36 36 rfl,mL _ 34 34 rfl,mL _ 96 96 rfl];rw[v5 hk ad];have f:∀(t:aa),(t.length:Int)<=1->dl (at' l k::l.drop (k+1).toNat) 34=(dl (l.drop (k+1).toNat) 34).map (t++·)->
     (fixF (sn l j) m (o++t,k+1)=some ([], -1)/\dl (at' l k::l.drop (k+1).toNat) 34=none)\/
     ∃(s:aa)(k':Int),fixF (sn l j) m (o++t,k+1)=some (o++s,k')/\k<k'/\k'<=(l.length:Int)/\((o++s).length:Int)<=k'/\dl (at' l k::l.drop (k+1).toNat) 34=(dl (l.drop k'.toNat) 0).map (s++·):=by
    intro t z he;rcases w (o++t) (k+1) (by omega) (by omega) (by grind) (by omega) (by omega) with⟨r1,g⟩|⟨s,k',r1,g,h,A,i⟩
    ·grind
    ·refine .inr ⟨t++s,k',by grind,by omega,h,by grind,?_⟩;rw[he,i,Option.map_map];congr 1;grind
   have a:∀(t:aa),k+1<(l.length:Int)->(t.length:Int)<=2->dl (at' l k::l.drop (k+1).toNat) 34=(dl (l.drop (k+2).toNat) 34).map (t++·)->
     (fixF (sn l j) m (o++t,k+2)=some ([], -1)/\dl (at' l k::l.drop (k+1).toNat) 34=none)\/
     ∃(s:aa)(k':Int),fixF (sn l j) m (o++t,k+2)=some (o++s,k')/\k<k'/\k'<=(l.length:Int)/\((o++s).length:Int)<=k'/\dl (at' l k::l.drop (k+1).toNat) 34=(dl (l.drop k'.toNat) 0).map (s++·):=by
    intro t h0 z he;rcases w (o++t) (k+2) (by omega) (by omega) (by grind) (by omega) (by omega) with⟨r1,g⟩|⟨s,k',r1,g,h,A,i⟩
    ·grind
    ·refine .inr ⟨t++s,k',by grind,by omega,h,by grind,?_⟩;rw[he,i,Option.map_map];congr 1;grind
   by_cases B:k+1=(l.length:Int)
   ·have ec:l.drop (k+1).toNat=[]:=tV (by omega);rw[ec] at f⊢;generalize at' l k=b at*;by_cases n4:b=34
    ·subst n4;grind[dl]
    by_cases mM:b=92
    ·grind[dl]
    by_cases qw:b=36
    ·grind[dl]
    by_cases n3:b=96
    ·grind[dl]
    grind[dl]
   ·have d:k+1<(l.length:Int):=by omega
    have ec:l.drop (k+1).toNat=at' l (k+1)::l.drop (k+2).toNat:=by grind[v5]
    rw[ec] at f a⊢;generalize at' l (k+1)=n at*;generalize at' l k=b at*;have C:¬(k+1=(l.length:Int)):=B;have D:0<=k+1/\k+1<(l.length:Int):=by omega
    simp only[C,D,cl,cD,nI];by_cases n4:b=34
    ·subst n4;refine .inr ⟨[],k+1,by simp,by omega,by omega,by grind,?_⟩;simp_all[dl]
    by_cases mM:b=92
    ·subst mM;by_cases p:n=10
     ·subst p;grind[dl]
     by_cases q:n=36
     ·subst q;simpa using a [36] d (by simp) (by simp[dl])
     by_cases r:n=34
     ·subst r;simpa using a [34] d (by simp) (by simp[dl])
     by_cases u:n=92
     ·subst u;simpa using a [92] d (by simp) (by simp[dl])
     by_cases v:n=96
     ·subst v;simpa using a [96] d (by simp) (by simp[dl])
     have:=a [92,n] d (by simp) (by rw[dl];simp[p,q,r,u,v];rw[dl.eq_def];simp[p,q,r,u,v];rfl);grind
    by_cases qw:b=36
    ·grind[dl]
    by_cases n3:b=96
    ·grind[dl]
    have:=f [b] (by simp) (by simp_all[dl]);grind
  ·simp only[fixF,sn,a9,a_,oJ,ad,cl];grind[List.drop_eq_nil_of_le,dl]
theorem aj4(l:aa)(hl:(l.length:Int)<=1048576)(a:Int)(h0:0<=a)(ad:a<=(l.length:Int)):
  vE l a=some (if Lib.indexByte (l.drop a.toNat) 39<0 then-1 else a+Lib.indexByte (l.drop a.toNat) 39+1):=by
 have b:=Sc (l.drop a.toNat) 39;have c:=JV (l.drop a.toNat) 39;simp only[DD] at b;unfold vE wU Ej;have e:max (0:Int) (min a (l.length:Int))=a:=by omega
 simp only[aw,a9,e];rw[bo ⟨h0,ad,u9 _⟩,Mu h0];generalize Lib.indexByte (l.drop a.toNat) 39=p at*;simp only[oJ];grind[dW]
theorem Yo(j:aa->Option (aa×Bool))(o s:aa)(m:Option aa):n2 j o (m.map (s++·))=n2 j (o++s) m:=by
 cases m with
 |none=>rfl
 |some t=>simp[n2]
theorem aj5(l:aa)(hl:(l.length:Int)<=1048576)(j:aa->Option (aa×Bool)):
  ∀(m:Nat)(o:aa)(k:Int),0<=k->k<=(l.length:Int)->(o.length:Int)<=k->(l.length:Int)-k<m->0<m->
  fixF (Ci l j) m (o,k)=n2 j o (dl (l.drop k.toNat) 0):=by
 intro m;induction m with
 |zero=>omega
 |succ m e=>
  intro o k hk A B hm _;by_cases ad:k<(l.length:Int)
  ·have g:W (k+1)=k+1:=dW (by omega) (by omega);have h:W (k+2)=k+2:=dW (by omega) (by omega)
   have bf:∀b:UInt8,o.length+([b]:aa).length<=536870912:=by grind
   have i:=aj4 l hl (k+1) (by omega) (by omega);simp only[fixF,Ci,a9,a_,oJ,g,h,ad,hk,cD,nI,bf,mL _ 39 39 rfl,mL _ 92 92 rfl,mL _ 10 10 rfl,mL _ 36 36 rfl,mL _ 34 34 rfl,mL _ 96 96 rfl];rw[aP i,v5 hk ad]
   have f:∀a,(a.length:Int)<=k+1->fixF (Ci l j) m (a,k+1)=n2 j a (dl (l.drop (k+1).toNat) 0):=λa c=>e a (k+1) (by omega) (by omega) c (by omega) (by omega)
   have d:∀b:UInt8,((o++[b]).length:Int)<=k+1:=by grind
   by_cases q_:at' l k=39
   ·rw[q_];simp only[show¬((39:UInt8)=92) by decide,cl,cD];have aE:dl (39::l.drop (k+1).toNat) 0=dl (l.drop (k+1).toNat) 39:=by grind[dl.eq_def]
    rw[aE,aj1];have q:=Sc (l.drop (k+1).toNat) 39;have C:=JV (l.drop (k+1).toNat) 39;simp only[DD] at q;generalize aB:Lib.indexByte (l.drop (k+1).toNat) 39=p at*;have r:0<=p->k+1+p<(l.length:Int):=by
     intro h0
     have:∀(l:aa),0<=Lib.indexByte l 39->Lib.indexByte l 39<l.length:=by
      intro l;induction l with
      |nil=>decide
      |cons b l e=>unfold Lib.indexByte;grind
     grind
    by_cases ax:p<0
    ·simp_all[cD,tA]
    ·simp only[ax,cl];have:=r (by omega);rw[aS (by omega),dW (x:=k+1+p+1-1) (by omega) (by omega)];have t:k+1+p+1-1=k+1+p:=by omega
     rw[t,bo ⟨by omega,by omega,by omega⟩];have u:b_ l (k+1) (k+1+p)=(l.drop (k+1).toNat).take p.toNat:=by grind[b_]
     have D:((b_ l (k+1) (k+1+p)).length:Int)<=p:=by grind
     rw[bo (by omega),u,Yo,List.drop_drop];grind
   ·by_cases n4:at' l k=34
    ·rw[n4];simp only[show¬((34:UInt8)=92) by decide,show¬((34:UInt8)=39) by decide,cl,cD];have aE:dl (34::l.drop (k+1).toNat) 0=dl (l.drop (k+1).toNat) 34:=by grind[dl.eq_def]
     rw[aE];have v:Ch l (k+1) o=fixF (sn l λ_=>some ([], -1)) bC (o,k+1):=rfl;rcases aj2 l hl (λ_=>some ([], -1)) rfl bC o (k+1) (by omega) (by omega) (by omega) (by grind[gi]) (by simp[gi]) with⟨r1,w⟩|⟨s,k',r1,w,E,F,y⟩
     ·grind[aP,tA]
     ·rw[aP (v.trans r1),y,Yo];grind
    ·simp only[q_,n4,cl];by_cases c:k+1=(l.length:Int)
     ·have ec:l.drop (k+1).toNat=[]:=tV (by omega);rw[ec] at f⊢;generalize at' l k=b at*;by_cases mM:b=92
      ·grind[dl,tA]
      by_cases qw:b=36
      ·grind[dl,tA]
      by_cases n3:b=96
      ·grind[dl,tA]
      simp only[mM,qw,n3,cl,bF,aR,ew];rw[f _ (d b),show [b]=b::([]:aa) from rfl];grind[dl.eq_def,o3]
     ·have G:k+1<(l.length:Int):=by omega
      have ec:l.drop (k+1).toNat=at' l (k+1)::l.drop (k+2).toNat:=by grind[v5]
      have H:∀a,(a.length:Int)<=k+2->fixF (Ci l j) m (a,k+2)=n2 j a (dl (l.drop (k+2).toNat) 0):=λa c=>e a (k+2) (by omega) (by omega) c (by omega) (by omega)
      have z:0<=k+1/\k+1<(l.length:Int):=by omega
      rw[ec] at f⊢;generalize at' l (k+1)=n at*;generalize at' l k=b at*;simp only[c,z,cl,cD,nI];grind[dl,dl.eq_def,o3,tA]
  ·simp only[fixF,Ci,a9,a_,oJ,ad,cl];grind[List.drop_eq_nil_of_le,dl,n2]
theorem Yp:∀(n:Nat)(l:aa),l.length<=n->∀(q:UInt8)(s:aa),dl l q=some s->s.length<=l.length:=by
 intro n;induction n with
 |zero=>simp[nH,dl,dE]
 |succ n g=>
  intro l ax q s h
  match l with
  |[]=>grind
  |b::r=>
   simp only[mA] at ax⊢
   have a:∀(d:UInt8),dl r d=some s->s.length<=r.length+1:=λd f=>by grind
   have e:∀(d c:UInt8),(dl r d).map (c::·)=some s->s.length<=r.length+1:=by
    intro d c f;cases aE:dl r d with
    |none=>grind
    |some t=>grind
   rw[dl.eq_def] at h;simp only at h;split at h
   ·grind
   ·split at h
    ·match r,a,e,h with
     |[],_,_,h=>cases h
     |x::r',a,e,h=>
      simp only at h;simp only[mA] at ax a e⊢;split at h
      ·grind
      ·split at h
       ·cases aE:dl r' q with
        |none=>grind
        |some t=>grind
       grind
    grind
theorem aj6(l:aa)(hl:(l.length:Int)<=200000000):∀(m:Nat)(k:Int),0<=k->k<=(l.length:Int)->(l.length:Int)-k<m->0<m->
  fixF (LM l λ_=>some (l,true)) m k=if 0<=Lib.indexByte (l.drop k.toNat) 10 then some ([],false) else some (l,true):=by
 intro m;induction m with
 |zero=>omega
 |succ m a=>
  intro k hk b hm _;simp only[fixF,LM,a9,oJ];by_cases ad:k<(l.length:Int)
  ·simp only[ad,hk,cD,nI,mL _ 10 10 rfl];rw[dW (by omega) (by omega),v5 hk ad,Lib.indexByte];grind
  ·simp only[ad,cl];simp_all[tV,Lib.indexByte]
theorem aj7(l:aa)(hl:(l.length:Int)<=200000000):EX l=n2 (λs=>if 0<=Lib.indexByte s 10 then some ([],false) else some (s,true)) [] (dl l 0):=by
 unfold EX;simp only[a_];rw[aj0 l hl _ (by intro o q a;simp only[mL _ 0 0 rfl,a,bF,e8,aK]) bC [] 0 0 (by omega) (by omega) (by simp) (by grind[gi]) (by simp[gi]) (.inl rfl)];simp only[GH,tW];cases aE:dl l 0 with
 |none=>rfl
 |some s=>
  have b:=Yp _ l (cX _) 0 s aE;simp only[n2,sY];have:(!decide (((0:UInt8).toNat:Int)=0))=false:=by decide
  simp only[this,aR];grind[aj6,bC,gi]
theorem aj8(l:aa)(hl:(l.length:Int)<=1048576):w5 l=n2 (λs=>if 0<=Lib.indexByte s 10 then some ([],false) else some (s,true)) [] (dl l 0):=by
 unfold w5;simp only[a_];rw[aj5 l hl _ bC [] 0 (by omega) (by omega) (by simp) (by grind[gi]) (by simp[gi])];simp only[GH,tW];cases aE:dl l 0 with
 |none=>rfl
 |some s=>simp[n2,sY,Qz,aw,oJ]
def az(S r:aa):Int:=(S.length:Int)-r.length
theorem eO{r S:aa}(h:r<:+S):r.length<=S.length:=h.length_le
theorem d_{b:UInt8}{t S:aa}(h:b::t<:+S):t<:+S:=(ee b t).trans h
theorem jD{b:UInt8}{t S:aa}(h:b::t<:+S):at' S (az S (b::t))=b:=by obtain⟨u,rfl⟩:=h;simp[az,at']
theorem iR{b:UInt8}{t S:aa}(di:S.length<=1000000)(h:b::t<:+S):W (az S (b::t)+1)=az S t:=by grind[eO,List.length_cons,dW,az]
theorem kB{w t S:aa}(di:S.length<=1000000)(h:w++t<:+S):W (az S (w++t)+w.length)=az S t:=by grind[eO,List.length_append,dW,az]
theorem hY{b:UInt8}{t S:aa}(h:b::t<:+S):0<=az S (b::t)/\az S (b::t)<S.length:=by grind[eO,List.length_cons,az]
theorem nc{b:UInt8}{t S:aa}(h:b::t<:+S):az S (b::t)<S.length:=(hY h).2
theorem iu(S:aa):az S []=S.length:=by rfl
theorem I1(S:aa):az S S=0:=by simp[az]
theorem o5{r S:aa}:az S r<=S.length:=by grind[az]
theorem y1{r S:aa}:az S r=S.length↔r=[]:=by
 unfold az;constructor
 ·grind[List.length_eq_zero_iff]
 grind
theorem ra{b c:UInt8}:((b.toNat:Int)=(c.toNat:Int))↔b=c:=by
 constructor
 ·grind[UInt8.toNat_inj]
 grind
theorem I2(b:UInt8):((b.toNat:Int)=9)↔b=9:=ra (c:=9)
theorem pR(b:UInt8):((b.toNat:Int)=10)↔b=10:=ra (c:=10)
theorem Sh(b:UInt8):((b.toNat:Int)=32)↔b=32:=ra (c:=32)
theorem n4(b:UInt8):((b.toNat:Int)=34)↔b=34:=ra (c:=34)
theorem Yq(b:UInt8):((b.toNat:Int)=35)↔b=35:=ra (c:=35)
theorem qw(b:UInt8):((b.toNat:Int)=36)↔b=36:=ra (c:=36)
theorem q_(b:UInt8):((b.toNat:Int)=39)↔b=39:=ra (c:=39)
theorem CY(b:UInt8):((b.toNat:Int)=40)↔b=40:=ra (c:=40)
theorem Yr(b:UInt8):((b.toNat:Int)=41)↔b=41:=ra (c:=41)
theorem mM(b:UInt8):((b.toNat:Int)=92)↔b=92:=ra (c:=92)
theorem n3(b:UInt8):((b.toNat:Int)=96)↔b=96:=ra (c:=96)
theorem CZ(b:UInt8):((b.toNat:Int)=123)↔b=123:=ra (c:=123)
theorem b9{α:Type}{c:Prop}[Decidable c]{k:Option α}(h:c):a9 c k=k:=bo h
structure cI where
 S:aa
 ne:Int
 op:bt
 ka:Int
def cI.st(e:cI)(r:aa)(pd:aq):an:=(e.S,az e.S r,pd,e.ne,e.op,e.ka)
structure dR(e:cI)(r:aa)(pd:aq):Prop where
 b0:e.S.length<=1000000
 sfx:r<:+e.S
 jS:pd.length+r.length<=e.S.length
 ops:e.op.length+r.length<=e.S.length+1
theorem dR.mono{e:cI}{r r':aa}{pd:aq}(h:dR e r pd)(ad:r'<:+r):dR e r' pd:=
 ⟨h.b0,ad.trans h.sfx,by have:=h.jS;grind,by have:=h.ops;grind⟩
def aV{α β:Type}(e:cI)(r0:aa)(m:dw α)(cv:α->aa->aq->β)(y:Option (bq an β)):Prop:=match m with
 | .ok a r pd=>r<:+r0/\dR e r pd/\y=some (.inr (cv a r pd))
 | .more op _ _=>∃st:an,y=some (.inl (1,e.S.length,st))/\st.2.2.2.2.1=e.op++op
 | .bad r=>r<:+e.S/\∃st:an,y=some (.inl (2,az e.S r,st))
 | .deep _=>True
theorem aV.mono{α β:Type}{e:cI}{r0 r1:aa}{m:dw α}{cv:α->aa->aq->β}{y:Option (bq an β)}(h:aV e r0 m cv y)(ad:r0<:+r1):aV e r1 m cv y:=by
 cases m with
 |ok a r pd=>exact⟨h.1.trans ad,h.2⟩
 |_=>exact h
structure c4{α β:Type}(C:dw α->dw β):Prop where
 more:∀op nd ds,C (.more op nd ds)= .more op nd ds
 bad:∀r,C (.bad r)= .bad r
 deep:∀r,C (.deep r)= .deep r
theorem c4.id{α:Type}:c4 (λx:dw α=>x):=⟨λ_ _ _=>rfl,λ_=>rfl,λ_=>rfl⟩
theorem c4.k{σ α:Type}{f:σ->ak (σ⊕α)}{r:aa}:c4 (cO f r):=⟨λ_ _ _=>rfl,λ_=>rfl,λ_=>rfl⟩
theorem aV.iF{α d g β i:Type}{C:dw d->dw g}(c:c4 C){e:cI}{r0 r:aa}{pd:aq}{m:ak α}{k:α->ak d}{cv:α->aa->aq->β}{cv':g->aa->aq->i}{y:Option (bq an β)}{k':β->Option (bq an i)}{f:an->an}
  (h:aV e r0 (m r pd) cv y) (hf:∀st,(f st).2.2.2.2.1=st.2.2.2.2.1) (hk:∀a r1 b,m r pd= .ok a r1 b->r1<:+r0->dR e r1 b->aV e r0 (C (k a r1 b)) cv' (k' (cv a r1 b))):
  aV e r0 (C (Go.Eng.ae m k r pd)) cv' (bb y f k'):=by
 unfold Go.Eng.ae;cases hm:m r pd with
 |ok a r1 b=>rw[hm] at h;obtain⟨ad,j,rfl⟩:=h;exact hk a r1 b hm ad j
 |more op nd ds=>rw[hm] at h;obtain⟨st,rfl,j⟩:=h;rw[c.more];exact⟨f st,rfl,by grind⟩
 |bad q=>rw[hm] at h;obtain⟨ad,st,rfl⟩:=h;rw[c.bad];exact⟨ad,f st,rfl⟩
 |deep q=>rw[c.deep];trivial
theorem aV.Ys{α a β:Type}{C:dw α->dw a}(b:c4 C){e:cI}{r0 r:aa}{pd:aq}{cv:a->aa->aq->β}{x:aa}{st:an}{f:an->an}{k:Empty->Option (bq an β)}(ad:st.1=e.S)(c:(f st).2.2.2.2.1=e.op):aV e r0 (C ((b7 x:ak α) r pd)) cv (bb (ry st) f k):=by unfold b7;rw[b.more];exact⟨f st,by grind[ry,bb],by grind⟩
theorem aV.inl{σ α β:Type}{e:cI}{f:σ->ak (σ⊕α)}{r0 r r':aa}{a:aq}{s':σ}{cv:α->aa->aq->β}{y:Option (bq an β)}(hl:r'.length<r.length)(h:aV e r0 (cb f s' r' a) cv y):aV e r0 (cO f r (aW (.inl s') r' a)) cv y:=by simp_all[aW,cO,bo]
theorem aV.inr{σ α β:Type}{e:cI}{f:σ->ak (σ⊕α)}{r0 r r':aa}{b:aq}{a:α}{cv:α->aa->aq->β}{y:Option (bq an β)}(ad:r'<:+r0)(c:dR e r' b)(h:y=some (.inr (cv a r' b))):aV e r0 (cO f r (aW (.inr a) r' b)) cv y:=⟨ad,c,h⟩
theorem aV.rep{σ α τ β:Type}{e:cI}{f:σ->ak (σ⊕α)}{cv:α->aa->aq->β}{en:σ->aa->aq->τ}{body:(τ->Option (bq an β))->τ->Option (bq an β)}
  (b:∀(k:τ->Option (bq an β))(s:σ)(r:aa)(pd:aq),dR e r pd->(∀s' r' a,r'<:+r->dR e r' a->r'.length<r.length->aV e r (cb f s' r' a) cv (k (en s' r' a)))->aV e r (cO f r (f s r pd)) cv (body k (en s r pd))):
  ∀(n:Nat)(s:σ)(r:aa)(pd:aq),r.length<n->dR e r pd->aV e r (cb f s r pd) cv (fixF body n (en s r pd)):=by
 intro n;induction n with
 |zero=>omega
 |succ n c=>grind[cH,aV,fixF,aV.mono]
theorem lz{n:Nat}(h:n<=1000000):n<bC:=by grind[gi]
theorem e5{σ α:Type}{f:(σ->Option α)->σ->Option α}{n:Nat}{s:σ}:fixF f (n+1) s=f (fixF f n) s:=rfl
theorem aj9{e:cI}(x0:an)(c:x0.1=e.S){j:Int->Option (bq an an)}(di:e.S.length<=1000000):∀(n:Nat)(r:aa),r.length<n->r<:+e.S->fixF (Hs x0 j) n (az e.S r)=j (az e.S (lp r)):=by
 intro n;induction n with
 |zero=>omega
 |succ n d=>
  intro r ax a;rw[e5];generalize fixF (Hs x0 j) n=k at d;unfold Hs;rw[c];cases r with
  |nil=>simp[iu,a9,lp]
  |cons b t=>
   rw[b9 (λ_=>hY a),jD a,iR di a];simp only[nc a,bA,aK,pR];unfold lp;by_cases f:b=10
   ·grind
   ·simp only[f,bF,e8,aK,cl];grind[List.length_cons,d_]
def I3(e:cI)(r:aa)(pd:aq)(y:Option (bq an an)):Prop:=match bx r with
 |some r'=>y=some (.inr (e.st r' pd))
 |none=>∃st:an,y=some (.inl (1,e.S.length,st))/\st.2.2.2.2.1=e.op
theorem Si{c:UInt8}{u:aa}(aF:c≠10):bx (92::c::u)=some (92::c::u):=by rw[nX,aS (by decide),aS (by decide),bo rfl];grind
theorem Sj{u:aa}:bx (92::10::u)=if u=[] then none else bx u:=by rw[nX,aS (by decide),aS (by decide),bo rfl];rfl
theorem Yt:bx [92]=some [92]:=by rw[nX,aS (by decide),aS (by decide),bo rfl]
theorem Sk{t:aa}:bx (35::t)=bx (lp t):=by rw[nX,aS (by decide),bo rfl]
end Go.Eng
