/- Part 3 of what FnMore needs. No condition. -/
import Derived.Test.YthnjiffnjaaejaaGreatDoorFnMoreB
set_option linter.all false
namespace Go.Eng
open Go Go.Proofs
noncomputable section
variable{I r:H}{L:bq}{O:bb}{P:Program}{Q:bx}{R:bl}{T:eh}{a:Act}{a3 av:bK}{d:Nat}{w w0:World}
theorem ak4(n:iG R){I:aa}{r:aa}(h:S3 R I=some r):
  g4 Tryz.prog 169 [.pointer av] [] (fg av I Q) (λ_:bx=>True) (λq=> .tuple #[]) (λq=>fg av r q):=
 V.jy (T:=cl) Tryz.call169 Tryz.func169 A λ_ _=>V.du J 13 0 h (ρ:=bx) (λs q=>[(0,bJ av)]) .nil (λs q=>hv av s q) ⟨A,A,A,A,A,A,A⟩ (λG _ h=>V.fy J 0 0 h (ρ:=bx) (λs q=>[(0,bJ av)]) .nil (λs q=>hv av s q) Q [1,2,0] A λo ⟨d,b,e,f,g,i,j,k,l⟩ a h=>V.go J 3 0 A (V.ck (aI.jl 2 A λc=>V.ct (V.co J 6 2 h ⟨A,A,A,A⟩ (λh=>V.du J 2 0 h (ρ:=bx) (λs q=>[(0,bJ av)]) .nil (λs q=>hv av s q) A (λH _ h=>V.cA J 3 0 h nT [2] A λK _ h=>V.co J 2 0 h A (λh=>V.bH J 2 0 h qn [2,0,0] [] A λL p h=>V.a5 J 2 0 h p [1,2,0] A) (λh=>V.cA J 3 0 h o9 [2] A λM _ h=>V.co J 3 0 h A (λh=>bo h▸V.rx J 11 2 a [0,0,0] ⟨A,A,A,A,A,A,A⟩) (λh=>V.cA J 3 0 h o9 [2] A λN _ h=>V.co J 3 0 h A (λh=>V.bH J 2 0 h Sw [2] [] A λO _ h=>V.a5 J 2 0 h a [1,2,0] A) (λh=>V.cA J 3 0 h o9 [2] A λP _ h=>V.co J 3 0 h A (λh=>sg h λS t h=>sg h λU u h=>V.j5 (aX.sf A .nil [2] [10,11] trivial A (λv=>bD.qb J gE 10 [0,5] A (by kernel_rfl) [] [(48,bJ av),(53,bJ av)] A (fY A) (bD.eN J gE true 5 [1,2,3,6,7] A (by kernel_rfl) [] [(51,bJ av),(55,.eI ⟨av,1,1⟩ 1)] trivial [2] A A ⟨(c.gD gF).1,c.gD gF,(c.gD gF).1,c.gD gF,(fY A)⟩ (bD.lH J gE 4 A (by kernel_rfl) A A A A A 0 A A 0 0 (d,b,e,(bA.v ⟨a.1,f.length,a.2.1⟩),g,i,j,(bA.v ⟨a.2.2.1,k.length,a.2.2.2⟩),l) ⟨A,A⟩ A A A trivial [2] A (bD.lH J gE 8 A (by kernel_rfl) A A A A A 0 A A 0 1 (d,b,e,(bA.v ⟨a.1,f.length,a.2.1⟩),g,i,j,(bA.v ⟨a.2.2.1,k.length,a.2.2.2⟩),l) ⟨A,A⟩ A A A trivial [2] A (bD.eN J gE true 2 [9] A (by kernel_rfl) [(W (b+1))] [(57,bE (W (b+1)))] trivial [2] A A ⟨⟨trivial,A⟩,⟨A,trivial⟩⟩ (bD.one 10 (by kernel_rfl) (cO.call A A A A (Y3 t) A [] A A λ_ _=>bD.ow A (bD.one 11 (by kernel_rfl) (cO.p_ A A A A (FA u) A [2,0,0] A [] A A (λw _=>bD.ow A (bD.done (by kernel_rfl) (aX.boxes (B':= .nil) trivial (V.iN (V.a5 J 1 0 h w [1,2,0] A)))))))))))))))) (λh=>V.cA J 3 0 h o9 [2] A λX _ h=>V.co J 3 0 h A (λh=>V.bH J 2 0 h (Y2 n) [2,0,0] [] A λY x h=>V.a5 J 2 0 h x [1,2,0] A) (λh=>V.cA J 3 0 h o9 [2] A λZ _ h=>V.co J 3 0 h A (λh=>sg h λoE y h=>sg h λvj z h=>V.j5 (aX.sf A .nil [2] [10,11] trivial A (λB=>bD.qb J gE 10 [0,5] A (by kernel_rfl) [] [(70,bJ av),(75,bJ av)] A (fY A) (bD.eN J gE true 5 [1,2,3,6,7] A (by kernel_rfl) [] [(73,bJ av),(77,.eI ⟨av,1,1⟩ 1)] trivial [2] A A ⟨(c.gD gF).1,c.gD gF,(c.gD gF).1,c.gD gF,(fY A)⟩ (bD.lH J gE 4 A (by kernel_rfl) A A A A A 0 A A 0 0 (d,b,e,(bA.v ⟨a.1,f.length,a.2.1⟩),g,i,j,(bA.v ⟨a.2.2.1,k.length,a.2.2.2⟩),l) ⟨A,A⟩ A A A trivial [2] A (bD.lH J gE 8 A (by kernel_rfl) A A A A A 0 A A 0 1 (d,b,e,(bA.v ⟨a.1,f.length,a.2.1⟩),g,i,j,(bA.v ⟨a.2.2.1,k.length,a.2.2.2⟩),l) ⟨A,A⟩ A A A trivial [2] A (bD.eN J gE true 2 [9] A (by kernel_rfl) [(W (b+1))] [(79,bE (W (b+1)))] trivial [2] A A ⟨⟨trivial,A⟩,⟨A,trivial⟩⟩ (bD.one 10 (by kernel_rfl) (cO.call A A A A (Sv y) A [] A A λ_ _=>bD.ow A (bD.one 11 (by kernel_rfl) (cO.p_ A A A A (FA z) A [2,0,0] A [] A A (λC _=>bD.ow A (bD.done (by kernel_rfl) (aX.boxes (B':= .nil) trivial (V.iN (V.a5 J 1 0 h C [1,2,0] A)))))))))))))))) (λh=>V.cA J 3 0 h o9 [2] A λkd _ h=>V.co J 3 0 h A (λh=>V.bH J 2 0 h n.v9 [2,0,0] [] A λpH D h=>V.a5 J 2 0 h D [1,2,0] A) (λh=>V.a5 J 11 2 h a [1,2,0] ⟨A,A,A,A,A,A,A⟩)))))))) λ⟨mW,wq,n3,sq,s0,wA,vq,AF,wF⟩ E h=>V.el J 1 0 h E [0,1,2] A) (λh=>V.a5 J 1 0 h a [0,1,2] A))))) λ⟨sn,Iw,IG,A5,Zr,Zs,AK,I6,Zt⟩ F h=>V.bH J 2 0 h rL [2,0,0] [] A λZu m h=>bo h▸V.kb J 1 0 m a7 A
def FN(d:H->Option aa)(a:(Int×H)->Option aa):(Int×H)->Option aa:=λ(c,b)=>
 (bif(decide (0<c)) then(a4 (((b.length+([41]:H).length:Nat):Int)<=9223372036854775807)<|a ((W (c-1)),(b++([41]:H)))) else d b)
def Ja(R:bl)(I:aa):Option aa:=
 (ay (vp I 1) λ(f:UInt8)=>(c1 ((decide ((f.toNat:Int)=(40:Int)))=true) (vp I 2) (0:UInt8) λ(k:UInt8)=>(bif(bif(decide ((f.toNat:Int)=(40:Int))) then(decide ((k.toNat:Int)=(40:Int))) else false) then(ay (I_ I.1 (W (I.2.1+3))) λ(g,h)=>(bif(decide (g=(-2))) then(ay (ih I h) λ(e:aa)=>some (e.1,e.2.1,e.2.2.1,I.2.2.2.1,e.2.2.2.2.1,e.2.2.2.2.2.1,e.2.2.2.2.2.2.1,I.2.2.2.2.2.2.2.1,e.2.2.2.2.2.2.2.2)) else(a6 (λ(l:H)=>(ay (uc I g ([36,40,40]:H) l) λ(m:aa)=>some m)) λn=>(fixF (FN n) bB (h,[]))))) else(ay (vp I 1) λ(o:UInt8)=>(bif(decide ((o.toNat:Int)=(40:Int))) then(a6 (λ((p,q,r,s,t,u,v,w,x):aa)=>some (p,q,r,s,t,u,v,w,x)) λi=>(ay (A3 I I.2.1) λ(y,a)=>(bif y then(ay (R.oA (a.1,(W (a.2.1+2)),a.2.2.1,I.2.2.2.1,a.2.2.2.2.1,a.2.2.2.2.2.1,a.2.2.2.2.2.2.1,I.2.2.2.2.2.2.2.1,a.2.2.2.2.2.2.2.2) ([41]:H) ([]:bs) false) λ(N,z)=>(ay (g_ z ([36,40]:H) ([41]:H)) λ(c:aa)=>i (c.1,(W (c.2.1+1)),(W (c.2.2.1-1)),c.2.2.2.1,c.2.2.2.2.1,c.2.2.2.2.2.1,c.2.2.2.2.2.2.1,c.2.2.2.2.2.2.2.1,c.2.2.2.2.2.2.2.2))) else i (a.1,a.2.1,a.2.2.1,I.2.2.2.1,a.2.2.2.2.1,a.2.2.2.2.2.1,a.2.2.2.2.2.2.1,I.2.2.2.2.2.2.2.1,a.2.2.2.2.2.2.2.2)))) else(ay (vp I 1) λ(A:UInt8)=>(bif(decide ((A.toNat:Int)=(123:Int))) then(a6 (λ((B,C,D,E,F,G,J,K,L):aa)=>some (B,C,D,E,F,G,J,K,L)) λj=>(ay (A3 I I.2.1) λ(M,b)=>(bif M then(ay (S3 R (b.1,b.2.1,b.2.2.1,I.2.2.2.1,b.2.2.2.2.1,b.2.2.2.2.2.1,b.2.2.2.2.2.2.1,I.2.2.2.2.2.2.2.1,b.2.2.2.2.2.2.2.2)) λ(d:aa)=>j (d.1,d.2.1,(W (d.2.2.1-1)),d.2.2.2.1,d.2.2.2.2.1,d.2.2.2.2.2.1,d.2.2.2.2.2.2.1,d.2.2.2.2.2.2.2.1,d.2.2.2.2.2.2.2.2)) else j (b.1,b.2.1,b.2.2.1,I.2.2.2.1,b.2.2.2.2.1,b.2.2.2.2.2.1,b.2.2.2.2.2.2.1,I.2.2.2.2.2.2.2.1,b.2.2.2.2.2.2.2.2)))) else some (I.1,(W (I.2.1+1)),I.2.2.1,I.2.2.2.1,I.2.2.2.2.1,I.2.2.2.2.2.1,I.2.2.2.2.2.2.1,I.2.2.2.2.2.2.2.1,I.2.2.2.2.2.2.2.2))))))))
theorem ak7(d:iG R){I:aa}{r:aa}(h:Ja R I=some r):
  g4 Tryz.prog 158 [.pointer av] [] (fg av I Q) (λ_:bx=>True) (λq=> .tuple #[]) (λq=>fg av r q):=
 by
  refine V.jy (T:=cl) Tryz.call158 Tryz.func158 A λ_ _=>?_;unfold Ja at h;refine V.cA J 4 0 h Fy [0] A λl _ h=>?_;refine V.ig J 3 0 h Fy [0] A (λ_=>id) λm h=>?_;refine V.co J 3 0 h A (λh=>?_) (λh=>?_)
  ·refine V.jV J 1 0 A (by kernel_rfl) ?_;refine V.go J 9 0 ⟨A,A,A,A,A,A,A⟩ ?_;obtain⟨⟨e,n⟩,a,h⟩:=ov h;refine V.toQ (lW.call A A A A (ak2 a) A [] A A (V.tT ?_));refine V.co J 12 0 h A (λh=>?_) (λh=>?_)
   ·refine V.bH J 4 0 h qo [0] [] A λo _ h=>?_;cases h;exact V.rx J 1 0 Q a7 A
   refine V.du J 6 0 h (ρ:=Unit) (λs q=>[(0,bJ av),(2,bE e),(4,cg s)]) .nil (λs q=>fg av I Q) A ?_ ?_
   ·intro p _ h;refine V.fy J 0 0 h (ρ:=Unit) (λs q=>[(0,bJ av),(2,bE e),(3,bE s.1),(4,cg s.2)]) .nil (λs q=>fg av I Q) () [0,1,2] A ?_;rintro f ⟨t,u⟩ _ h;rw[FN] at h;refine V.co J 6 0 h A (λh=>?_) (λh=>?_)
    ·obtain⟨g,h⟩:=h6 h;exact V.el J 14 0 h () [0,1,2] ⟨g,A⟩
    exact V.a5 J 1 0 h () [0,1,2] A
   rintro v _ h;refine V.bH J 5 0 h FA a7 [] A λw i h=>?_;cases h;exact V.rx J 1 0 i a7 A
  refine V.cA J 5 0 h Fy [0] A λx _ h=>?_;refine V.co J 2 0 h A (λh=>?_) (λh=>?_)
  ·refine V.e7 J 0 0 h (ρ:=bx) (λs q=>[]) .nil (λs q=>hv av s q) A ?_ ?_
   ·intro y _ h;refine V.bH J 7 0 h SJ [0] [] ⟨A,A,A,A⟩ ?_;rintro⟨z,B⟩ _ h;refine V.co J 1 0 h A (λh=>?_) (λh=>?_)
    ·refine V.go J 15 0 ⟨A,A,A,A,A,A,A⟩ ?_;refine V.ck (aI.Lg .str bA.nil A A (V.ct ?_));refine V.bH J 0 0 h d.oA a7 [0] A ?_;rintro⟨C,D⟩ E h;refine V.bH J 4 0 h rL a7 [] A λF b h=>?_;exact V.Ay J 22 1 h b [1,2,0] [] ⟨A,A,A,A,A,A,A,A,A,A,A,A,A⟩
    exact V.a5 J 1 0 h Q [1,2,0] A
   rintro⟨G,H,K,L,M,N,O,P,S⟩ j h;cases h;exact V.rx J 0 0 j [2,0,0] A
  refine V.cA J 5 0 h Fy [0] A λU _ h=>?_;refine V.co J 2 0 h A (λh=>?_) (λh=>?_)
  ·refine V.e7 J 0 0 h (ρ:=bx) (λs q=>[]) .nil (λs q=>hv av s q) A ?_ ?_
   ·intro W _ h;refine V.bH J 7 0 h SJ [0] [] ⟨A,A,A,A⟩ ?_;rintro⟨X,Y⟩ _ h;refine V.co J 1 0 h A (λh=>?_) (λh=>?_)
    ·refine V.bH J 3 0 h (ak4 d) a7 [] A λZ k h=>?_;exact V.a5 J 11 0 h k [1,2,0] ⟨A,A,A,A,A,A,A⟩
    exact V.a5 J 1 0 h Q [1,2,0] A
   rintro⟨Da,vs,qi,rO,pB,s8,wC,rK,su⟩ c h;cases h;exact V.rx J 0 0 c [2,0,0] A
  cases h;exact V.kb J 11 0 Q [0,0,0] ⟨A,A,A,A,A,A,A⟩
def zq(I:H×Int×Int):Option (Int×H×Int×Int):=
 (a6 (λ((b,c):Int×Int)=>some (b,(I.1,c,(W ((W (I.2.2*6364136223846793005))+1442695040888963407))))) λa=>(bif(decide (I.2.1<(I.1.length:Int))) then(a4 (0<=I.2.1/\I.2.1<(I.1.length:Int))<|a ((W (((BitVec.ofInt (IntKind.bits .i64) (W ((W (((BitVec.ofInt (IntKind.bits .i64) (W (((BitVec.ofInt (IntKind.bits .i64) (Int.fdiv (W ((W (I.2.2*6364136223846793005))+1442695040888963407)) (2^(min (Int.toNat 33) (IntKind.bits .i64))))^^^BitVec.ofInt (IntKind.bits .i64) (Int.fdiv (W ((W (I.2.2*6364136223846793005))+1442695040888963407)) (2^(min (Int.toNat 45) (IntKind.bits .i64))))).toNat:Int)))&&&BitVec.ofInt (IntKind.bits .i64) 255).toNat:Int)))+((at' I.1 I.2.1).toNat:Int)))&&&BitVec.ofInt (IntKind.bits .i64) 255).toNat:Int))),(W (I.2.1+1)))) else a ((W (((BitVec.ofInt (IntKind.bits .i64) (W (((BitVec.ofInt (IntKind.bits .i64) (Int.fdiv (W ((W (I.2.2*6364136223846793005))+1442695040888963407)) (2^(min (Int.toNat 33) (IntKind.bits .i64))))^^^BitVec.ofInt (IntKind.bits .i64) (Int.fdiv (W ((W (I.2.2*6364136223846793005))+1442695040888963407)) (2^(min (Int.toNat 45) (IntKind.bits .i64))))).toNat:Int)))&&&BitVec.ofInt (IntKind.bits .i64) 255).toNat:Int))),I.2.1)))
theorem Jb{I:H×Int×Int}{a:Nat}{r:Int×H×Int×Int}(h:zq I=some r):
  g4 Tryz.prog 37 [.pointer av] [lY a3 I.1 a] [jz av I a3 a] (λ_:Unit=>True) (λ_=>c3 r.1) (λ_=>[jz av (I.1,r.2.2) a3 a]):=
 by
  refine V.jy (T:=cl) Tryz.call37 Tryz.func37 A λ_ _=>?_;unfold zq at h;have d:(0:Int)<=33:=by decide
  have e:(0:Int)<=45:=by decide
  refine V.jV J 18 1 ⟨A,A,A,A,A,A,A⟩ (by kernel_rfl) ?_;refine V.e7 J 14 1 h (ρ:=Unit) (λs q=>[(3,bE s.1)]) .nil (λs q=>[jz av (I.1,s.2,(W ((W (I.2.2*6364136223846793005))+1442695040888963407))) a3 a]) ⟨A,A,A,d,A,A,A,e,A⟩ ?_ ?_
  ·intro f _ h;refine V.jV J 1 0 A (by kernel_rfl) ?_;refine V.co J 11 1 h ⟨A,A,A,A,A,A,A⟩ (λh=>?_) (λh=>?_)
   ·obtain⟨c,h⟩:=h6 h;refine V.go J 1 0 A ?_;refine V.j5 (aX.jl 0 A λb=>V.iN ?_);refine V.jV J 0 0 A (by kernel_rfl) ?_;refine V.go J 10 1 ⟨A,A,A,A,A,A,b.ix c,A⟩ ?_;refine V.toQ (lW.load J A A A A A A A 0 A A (Int.toNat I.2.1) 0 (at' I.1 I.2.1) ⟨mU c,A⟩ A A (V.tT ?_));refine V.toQ (lW.eN J 4 [((at' I.1 I.2.1).toNat:Int),(W ((W (((BitVec.ofInt (IntKind.bits .i64) (W (((BitVec.ofInt (IntKind.bits .i64) (Int.fdiv (W ((W (I.2.2*6364136223846793005))+1442695040888963407)) (2^(min (Int.toNat 33) (IntKind.bits .i64))))^^^BitVec.ofInt (IntKind.bits .i64) (Int.fdiv (W ((W (I.2.2*6364136223846793005))+1442695040888963407)) (2^(min (Int.toNat 45) (IntKind.bits .i64))))).toNat:Int)))&&&BitVec.ofInt (IntKind.bits .i64) 255).toNat:Int)))+((at' I.1 I.2.1).toNat:Int))),(W (((BitVec.ofInt (IntKind.bits .i64) (W ((W (((BitVec.ofInt (IntKind.bits .i64) (W (((BitVec.ofInt (IntKind.bits .i64) (Int.fdiv (W ((W (I.2.2*6364136223846793005))+1442695040888963407)) (2^(min (Int.toNat 33) (IntKind.bits .i64))))^^^BitVec.ofInt (IntKind.bits .i64) (Int.fdiv (W ((W (I.2.2*6364136223846793005))+1442695040888963407)) (2^(min (Int.toNat 45) (IntKind.bits .i64))))).toNat:Int)))&&&BitVec.ofInt (IntKind.bits .i64) 255).toNat:Int)))+((at' I.1 I.2.1).toNat:Int)))&&&BitVec.ofInt (IntKind.bits .i64) 255).toNat:Int)))] [(3,bE (W (((BitVec.ofInt (IntKind.bits .i64) (W ((W (((BitVec.ofInt (IntKind.bits .i64) (W (((BitVec.ofInt (IntKind.bits .i64) (Int.fdiv (W ((W (I.2.2*6364136223846793005))+1442695040888963407)) (2^(min (Int.toNat 33) (IntKind.bits .i64))))^^^BitVec.ofInt (IntKind.bits .i64) (Int.fdiv (W ((W (I.2.2*6364136223846793005))+1442695040888963407)) (2^(min (Int.toNat 45) (IntKind.bits .i64))))).toNat:Int)))&&&BitVec.ofInt (IntKind.bits .i64) 255).toNat:Int)))+((at' I.1 I.2.1).toNat:Int)))&&&BitVec.ofInt (IntKind.bits .i64) 255).toNat:Int))))] A ⟨⟨trivial,Ll _⟩,⟨trivial,A⟩,⟨trivial,A⟩,⟨A,trivial⟩⟩ (V.tT ?_));exact V.a5 J 12 1 h () [0] ⟨A,A,A,A,A,A,A⟩
   exact V.a5 J 1 0 h () [0] A
  rintro⟨g,i⟩ _ h;cases h;exact V.rx J 5 0 () [0] A
def iP(I:H×Int×Int)(a:Int):Option (Int×H×Int×Int):=
 (bif(decide (a<=0)) then some (0,I) else(bif(decide (a<=256)) then(ay (zq I) λ(b,c)=>(a4 (a≠0)<|some ((Int.tmod b a),(I.1,c.2)))) else(ay (zq I) λ(d,e)=>(ay (zq (I.1,e.2)) λ(f,g)=>(ay (zq (I.1,g.2)) λ(h,i)=>(ay (zq (I.1,i.2)) λ(j,k)=>(a4 (a≠0)<|some ((Int.tmod (W ((W ((W ((W (d*16777216))+(W (f*65536))))+(W (h*256))))+j)) a),(I.1,k.2)))))))))
theorem rQ{I:H×Int×Int}{c:Int}{a:bK}{b:Nat}{r:Int×H×Int×Int}(h:iP I c=some r):
  g4 Tryz.prog 27 [.pointer a3,c3 c] [lY a I.1 b] [jz a3 I a b] (λ_:Unit=>True) (λ_=>c3 r.1) (λ_=>[jz a3 (I.1,r.2.2) a b]):=
 V.jy (T:=cl) Tryz.call27 Tryz.func27 A λ_ _=>V.co J 10 0 h A (λh=>bo h▸V.rx J 4 0 () [0] A) (λh=>V.co J 7 0 h A (λh=>V.bH J 3 0 h Jb [0] [0] A λ⟨f,g⟩ _ h=>b7 h λd h=>bo h▸V.rx J 4 0 () [0] ⟨d,A⟩) (λh=>V.bH J 4 0 h Jb [0] [0] A λ⟨i,j⟩ _ h=>V.bH J 5 0 h Jb [0] [0] A λ⟨k,l⟩ _ h=>V.bH J 5 0 h Jb [0] [0] A λ⟨m,n⟩ _ h=>V.bH J 5 0 h Jb [0] [0] A λ⟨o,p⟩ _ h=>b7 h λe h=>bo h▸V.rx J 18 0 () [0] ⟨e,A⟩))
def Dc(R:bl)(I:H×Int×Int)(g:Int)(h:(H×Int×Int)->Option (H×H×Int×Int))(b:(H×Int×Int×Int)->Option (H×H×Int×Int)):(H×Int×Int×Int)->Option (H×H×Int×Int):=λ(a,c,d,e)=>
 (bif(decide (0<c)) then(a4 (((a.length+([32]:H).length:Nat):Int)<=9223372036854775807)<|(ay (R.oB (I.1,d,e) g) λ(f,i)=>(a4 ((((a++([32]:H)).length+f.length:Nat):Int)<=9223372036854775807)<|b (((a++([32]:H))++f),(W (c-1)),i.2)))) else h (a,d,e))
def Dd(R:bl)(I:H×Int×Int)(l:Int):Option (H×H×Int×Int):=
 (ay (iP I 4) λ(c,e)=>(a4 (0<=c/\c<(([([108,115]:H),([101,99,104,111]:H),([99,97,116]:H),([120,61,49]:H)]:bs).length:Int))<|(ay (iP (I.1,e.2.1,e.2.2) 3) λ(m,f)=>(a6 (λ((a,n,o):H×Int×Int)=>(ay (iP (I.1,n,o) 8) λ(g,b)=>(a6 (λ((d,p,q):H×Int×Int)=>(a6 (λ(r:H)=>some (r,(I.1,p,q))) λh=>(bif(decide (g=1)) then(a4 (((d.length+([32,50,62,38,49]:H).length:Nat):Int)<=9223372036854775807)<|h (d++([32,50,62,38,49]:H))) else h d))) λi=>(bif(decide (g=0)) then(a4 (((a.length+([32,62]:H).length:Nat):Int)<=9223372036854775807)<|(ay (R.oB (I.1,b.2.1,b.2.2) 0) λ(j,k)=>(a4 ((((a++([32,62]:H)).length+j.length:Nat):Int)<=9223372036854775807)<|i (((a++([32,62]:H))++j),k.2.1,k.2.2)))) else i (a,b.2.1,b.2.2))))) λs=>(fixF (Dc R I l s) bB ((at' ([([108,115]:H),([101,99,104,111]:H),([99,97,116]:H),([120,61,49]:H)]:bs) c),m,f.2.1,f.2.2))))))
theorem alc(e:iG R){I:H×Int×Int}{c:Int}{a:bK}{b:Nat}{r:H×H×Int×Int}(h:Dd R I c=some r):
  g4 Tryz.prog 55 [.pointer a3,c3 c] [lY a I.1 b] [jz a3 I a b] (λ_:Unit=>True) (λ_=>zs r.1) (λ_=>[jz a3 (I.1,r.2.2) a b]):=
 by
  refine V.jy (T:=cl) Tryz.call55 Tryz.func55 A λ_ _=>?_;unfold Dd at h;refine V.go J 6 0 A ?_;refine V.ck (aI.kL A (cO.buildSlice J A A A A A A A A A A A [] A .str [([108,115]:H),([101,99,104,111]:H),([99,97,116]:H),([120,61,49]:H)] ⟨A,A⟩ A A λu=>aI.kM (V.ct ?_)));refine V.bH J 1 0 h rQ [1] [0] A ?_;rintro⟨f,v⟩ _ h;refine V.ck (aI.jl 2 A λd=>V.ct ?_);obtain⟨g,h⟩:=h6 h;refine V.go J 1 0 ⟨d.ix g,A⟩ ?_;refine V.ck (aI.load J A A A A A A A 2 A A (Int.toNat f) 0 (at' ([([108,115]:H),([101,99,104,111]:H),([99,97,116]:H),([120,61,49]:H)]:bs) f) ⟨mU g,A⟩ A A (V.ct ?_));refine V.bH J 6 0 h rQ [0] [0] A ?_;rintro⟨w,x⟩ _ h;refine V.du J 2 0 h (ρ:=Unit) (λs q=>[(0,bJ a3),(5,cg s.1)]) .nil (λs q=>[jz a3 (I.1,s.2) a b]) A ?_ ?_
  ·intro y _ h;refine V.fy J 0 0 h (ρ:=Unit) (λs q=>[(0,bJ a3),(1,bE c),(5,cg s.1),(6,bE s.2.1)]) .nil (λs q=>[jz a3 (I.1,s.2.2) a b]) () [0] A ?_;rintro i ⟨z,B,C,D⟩ _ h;rw[Dc] at h;refine V.co J 6 0 h A (λh=>?_) (λh=>?_)
   ·obtain⟨j,h⟩:=h6 h;refine V.bH J 8 0 h e.oB [0] [0] ⟨j,A⟩ ?_;rintro⟨E,F⟩ _ h;obtain⟨k,h⟩:=h6 h
    try dsimp only at h
    exact V.el J 9 0 h () [0] ⟨k,A⟩
   exact V.a5 J 1 0 h () [0] A
  rintro⟨G,K,L⟩ _ h;refine V.bH J 3 0 h rQ [0] [0] A ?_;rintro⟨l,M⟩ _ h;refine V.e7 J 2 0 h (ρ:=Unit) (λs q=>[(5,cg s.1),(7,bE l)]) .nil (λs q=>[jz a3 (I.1,s.2) a b]) A ?_ ?_
  ·intro N _ h;refine V.co J 5 0 h A (λh=>?_) (λh=>?_)
   ·obtain⟨m,h⟩:=h6 h;refine V.bH J 4 0 h e.oB [0] [0] ⟨m,A⟩ ?_;rintro⟨O,P⟩ _ h;obtain⟨n,h⟩:=h6 h
    try dsimp only at h
    exact V.a5 J 3 0 h () [0] ⟨n,A⟩
   exact V.a5 J 1 0 h () [0] A
  rintro⟨Q,o,p⟩ _ h;refine V.e7 J 0 0 h (ρ:=Unit) (λs q=>[(5,cg s)]) .nil (λs q=>[jz a3 (I.1,o,p) a b]) A ?_ ?_
  ·intro S _ h;refine V.co J 5 0 h A (λh=>?_) (λh=>?_)
   ·obtain⟨t,h⟩:=h6 h;exact V.a5 J 5 0 h () [0] ⟨t,A⟩
   exact V.a5 J 1 0 h () [0] A
  rintro U _ h;cases h;exact V.rx J 5 0 () [0] A
def wH(R:bl)(I:H×Int×Int)(a:Int):Option (H×H×Int×Int):=
 (ay (iP I 16) λ(r,b)=>(a6 (λ(c:Int)=>(bif(decide (c=1)) then(ay (R.h8 (I.1,b.2) (W (a-1)) ([])) λ(i,s)=>(a4 (((([40]:H).length+i.length:Nat):Int)<=9223372036854775807)<|(a4 ((((([40]:H)++i).length+([41]:H).length:Nat):Int)<=9223372036854775807)<|some (((([40]:H)++i)++([41]:H)),(I.1,s.2))))) else(bif(decide (c=2)) then(ay (R.h8 (I.1,b.2) (W (a-1)) ([10]:H)) λ(j,t)=>(a4 (((([123,32]:H).length+j.length:Nat):Int)<=9223372036854775807)<|(a4 ((((([123,32]:H)++j).length+([125]:H).length:Nat):Int)<=9223372036854775807)<|some (((([123,32]:H)++j)++([125]:H)),(I.1,t.2))))) else(bif(decide (c=3)) then(ay (R.h8 (I.1,b.2) (W (a-1)) ([59]:H)) λ(d,u)=>(a4 (((([105,102,32]:H).length+d.length:Nat):Int)<=9223372036854775807)<|(a4 ((((([105,102,32]:H)++d).length+([32,116,104,101,110,32]:H).length:Nat):Int)<=9223372036854775807)<|(ay (R.h8 (I.1,u.2) (W (a-1)) ([10]:H)) λ(k,v)=>(a4 (((((([105,102,32]:H)++d)++([32,116,104,101,110,32]:H)).length+k.length:Nat):Int)<=9223372036854775807)<|(a4 ((((((([105,102,32]:H)++d)++([32,116,104,101,110,32]:H))++k).length+([102,105]:H).length:Nat):Int)<=9223372036854775807)<|some (((((([105,102,32]:H)++d)++([32,116,104,101,110,32]:H))++k)++([102,105]:H)),(I.1,v.2)))))))) else(bif(decide (c=4)) then(ay (R.h8 (I.1,b.2) (W (a-1)) ([10]:H)) λ(e,w)=>(a4 (((([105,102,32,97,59,32,116,104,101,110,10]:H).length+e.length:Nat):Int)<=9223372036854775807)<|(a4 ((((([105,102,32,97,59,32,116,104,101,110,10]:H)++e).length+([101,108,105,102,32,98,10,116,104,101,110,32,99,10,101,108,115,101,32]:H).length:Nat):Int)<=9223372036854775807)<|(ay (R.h8 (I.1,w.2) (W (a-1)) ([59]:H)) λ(l,x)=>(a4 (((((([105,102,32,97,59,32,116,104,101,110,10]:H)++e)++([101,108,105,102,32,98,10,116,104,101,110,32,99,10,101,108,115,101,32]:H)).length+l.length:Nat):Int)<=9223372036854775807)<|(a4 ((((((([105,102,32,97,59,32,116,104,101,110,10]:H)++e)++([101,108,105,102,32,98,10,116,104,101,110,32,99,10,101,108,115,101,32]:H))++l).length+([102,105,32,50,62,102]:H).length:Nat):Int)<=9223372036854775807)<|some (((((([105,102,32,97,59,32,116,104,101,110,10]:H)++e)++([101,108,105,102,32,98,10,116,104,101,110,32,99,10,101,108,115,101,32]:H))++l)++([102,105,32,50,62,102]:H)),(I.1,x.2)))))))) else(bif(decide (c=5)) then(ay (R.h8 (I.1,b.2) (W (a-1)) ([10]:H)) λ(f,y)=>(a4 (((([119,104,105,108,101,32]:H).length+f.length:Nat):Int)<=9223372036854775807)<|(a4 ((((([119,104,105,108,101,32]:H)++f).length+([100,111,32]:H).length:Nat):Int)<=9223372036854775807)<|(ay (R.h8 (I.1,y.2) (W (a-1)) ([59]:H)) λ(m,z)=>(a4 (((((([119,104,105,108,101,32]:H)++f)++([100,111,32]:H)).length+m.length:Nat):Int)<=9223372036854775807)<|(a4 ((((((([119,104,105,108,101,32]:H)++f)++([100,111,32]:H))++m).length+([32,100,111,110,101]:H).length:Nat):Int)<=9223372036854775807)<|some (((((([119,104,105,108,101,32]:H)++f)++([100,111,32]:H))++m)++([32,100,111,110,101]:H)),(I.1,z.2)))))))) else(bif(decide (c=6)) then(ay (R.oB (I.1,b.2) (W (a-1))) λ(g,A)=>(a4 (((([102,111,114,32,120,32,105,110,32,97,32]:H).length+g.length:Nat):Int)<=9223372036854775807)<|(a4 ((((([102,111,114,32,120,32,105,110,32,97,32]:H)++g).length+([59,32,100,111,32]:H).length:Nat):Int)<=9223372036854775807)<|(ay (R.h8 (I.1,A.2) (W (a-1)) ([59]:H)) λ(n,B)=>(a4 (((((([102,111,114,32,120,32,105,110,32,97,32]:H)++g)++([59,32,100,111,32]:H)).length+n.length:Nat):Int)<=9223372036854775807)<|(a4 ((((((([102,111,114,32,120,32,105,110,32,97,32]:H)++g)++([59,32,100,111,32]:H))++n).length+([100,111,110,101]:H).length:Nat):Int)<=9223372036854775807)<|some (((((([102,111,114,32,120,32,105,110,32,97,32]:H)++g)++([59,32,100,111,32]:H))++n)++([100,111,110,101]:H)),(I.1,B.2)))))))) else(bif(decide (c=7)) then some (([102,111,114,32,120,10,100,111,32,97,10,100,111,110,101]:H),(I.1,b.2)) else(bif(decide (c=8)) then(ay (R.oB (I.1,b.2) (W (a-1))) λ(h,C)=>(a4 (((([99,97,115,101,32]:H).length+h.length:Nat):Int)<=9223372036854775807)<|(a4 ((((([99,97,115,101,32]:H)++h).length+([32,105,110,32,97,124,98,41,32]:H).length:Nat):Int)<=9223372036854775807)<|(ay (R.h8 (I.1,C.2) (W (a-1)) ([])) λ(o,D)=>(a4 (((((([99,97,115,101,32]:H)++h)++([32,105,110,32,97,124,98,41,32]:H)).length+o.length:Nat):Int)<=9223372036854775807)<|(a4 ((((((([99,97,115,101,32]:H)++h)++([32,105,110,32,97,124,98,41,32]:H))++o).length+([59,59,10,40,99,41,32,59,59,32,100,41,32,101,115,97,99]:H).length:Nat):Int)<=9223372036854775807)<|some (((((([99,97,115,101,32]:H)++h)++([32,105,110,32,97,124,98,41,32]:H))++o)++([59,59,10,40,99,41,32,59,59,32,100,41,32,101,115,97,99]:H)),(I.1,D.2)))))))) else(bif(decide (c=9)) then(ay (R.h8 (I.1,b.2) (W (a-1)) ([10]:H)) λ(p,E)=>(a4 (((([102,40,41,32,123,10]:H).length+p.length:Nat):Int)<=9223372036854775807)<|(a4 ((((([102,40,41,32,123,10]:H)++p).length+([125,32,62,102]:H).length:Nat):Int)<=9223372036854775807)<|some (((([102,40,41,32,123,10]:H)++p)++([125,32,62,102]:H)),(I.1,E.2))))) else(ay (Dd R (I.1,b.2) a) λ(F,G)=>some (F,(I.1,G.2))))))))))))) λq=>(bif(decide (a<=0)) then q 0 else q r)))
theorem FO(a:iG R){I:H×Int×Int}{d:Int}{b:bK}{c:Nat}{r:H×H×Int×Int}(h:wH R I d=some r):
  g4 Tryz.prog 36 [.pointer a3,c3 d] [lY b I.1 c] [jz a3 I b c] (λ_:Unit=>True) (λ_=>zs r.1) (λ_=>[jz a3 (I.1,r.2.2) b c]):=
 by refine V.jy (T:=cl) Tryz.call36 Tryz.func36 A λ_ _=>?_;unfold wH at h;exact V.bH J 7 0 h rQ [0] [0] A λ⟨N,p⟩ _ h=>V.e7 J 2 0 h (ρ:=Unit) (λs q=>[(0,bJ a3),(1,bE d),(5,bE s)]) .nil (λs q=>[jz a3 (I.1,p.2) b c]) A (λO _ h=>V.co J 5 0 h A (λh=>V.a5 J 3 0 h () [0] A) (λh=>V.a5 J 1 0 h () [0] A)) λP _ h=>V.co J 11 0 h A (λh=>V.bH J 5 0 h a.h8 [0] [0] A λ⟨Q,S⟩ _ h=>b7 h λt h=>b7 h λu h=>bo h▸V.rx J 4 0 () [0] ⟨t,u,A⟩) (λh=>V.co J 5 0 h A (λh=>V.bH J 5 0 h a.h8 [0] [0] A λ⟨U,W⟩ _ h=>b7 h λv h=>b7 h λw h=>bo h▸V.rx J 4 0 () [0] ⟨v,w,A⟩) (λh=>V.co J 5 0 h A (λh=>V.bH J 5 0 h a.h8 [0] [0] A λ⟨X,Y⟩ _ h=>b7 h λx h=>b7 h λy h=>V.bH J 5 0 h a.h8 [0] [0] ⟨x,y,A⟩ λ⟨Z,fO⟩ _ h=>b7 h λe h=>b7 h λz h=>bo h▸V.rx J 4 0 () [0] ⟨e,z,A⟩) (λh=>V.co J 5 0 h A (λh=>V.bH J 5 0 h a.h8 [0] [0] A λ⟨dm,ja⟩ _ h=>b7 h λB h=>b7 h λC h=>V.bH J 5 0 h a.h8 [0] [0] ⟨B,C,A⟩ λ⟨gR,eE⟩ _ h=>b7 h λD h=>b7 h λf h=>bo h▸V.rx J 4 0 () [0] ⟨D,f,A⟩) (λh=>V.co J 5 0 h A (λh=>V.bH J 5 0 h a.h8 [0] [0] A λ⟨mz,lN⟩ _ h=>b7 h λg h=>b7 h λE h=>V.bH J 5 0 h a.h8 [0] [0] ⟨g,E,A⟩ λ⟨kA,fN⟩ _ h=>b7 h λF h=>b7 h λG h=>bo h▸V.rx J 4 0 () [0] ⟨F,G,A⟩) (λh=>V.co J 5 0 h A (λh=>V.bH J 5 0 h a.oB [0] [0] A λ⟨gG,qf⟩ _ h=>b7 h λK h=>b7 h λL h=>V.bH J 5 0 h a.h8 [0] [0] ⟨K,L,A⟩ λ⟨mJ,oE⟩ _ h=>b7 h λi h=>b7 h λM h=>bo h▸V.rx J 4 0 () [0] ⟨i,M,A⟩) (λh=>V.co J 5 0 h A (λh=>bo h▸V.rx J 4 0 () [0] A) (λh=>V.co J 5 0 h A (λh=>V.bH J 5 0 h a.oB [0] [0] A λ⟨jY,vf⟩ _ h=>b7 h λj h=>b7 h λk h=>V.bH J 5 0 h a.h8 [0] [0] ⟨j,k,A⟩ λ⟨kd,n8⟩ _ h=>b7 h λl h=>b7 h λm h=>bo h▸V.rx J 4 0 () [0] ⟨l,m,A⟩) (λh=>V.co J 5 0 h A (λh=>V.bH J 5 0 h a.h8 [0] [0] A λ⟨mY,lP⟩ _ h=>b7 h λn h=>b7 h λo h=>bo h▸V.rx J 4 0 () [0] ⟨n,o,A⟩) (λh=>V.bH J 6 0 h (alc a) [0] [0] A λ⟨nS,k_⟩ _ h=>bo h▸V.rx J 2 0 () [0] A)))))))))
def De(R:bl)(I:H×Int×Int)(f:Int)(g:(H×Int×Int)->Option (H×H×Int×Int))(h:(H×Int×Int×Int)->Option (H×H×Int×Int)):(H×Int×Int×Int)->Option (H×H×Int×Int):=λ(a,b,c,d)=>
 (bif(decide (0<b)) then(a6 (λ((i,j,k):H×Int×Int)=>h (i,(W (b-1)),j,k)) λl=>(ay (iP (I.1,c,d) 8) λ(y23,m)=>(a4 (0<=y23/\y23<(([([32,38,38,32]:H),([32,124,124,32]:H),([32,124,32]:H),([59,32]:H),([32,38,32]:H),([10]:H),([32,124,10]:H),([59,32,35,32,114,10]:H)]:bs).length:Int))<|(a4 (((a.length+(at' ([([32,38,38,32]:H),([32,124,124,32]:H),([32,124,32]:H),([59,32]:H),([32,38,32]:H),([10]:H),([32,124,10]:H),([59,32,35,32,114,10]:H)]:bs) y23).length:Nat):Int)<=9223372036854775807)<|(ay (wH R (I.1,m.2) f) λ(e,n)=>(a4 ((((a++(at' ([([32,38,38,32]:H),([32,124,124,32]:H),([32,124,32]:H),([59,32]:H),([32,38,32]:H),([10]:H),([32,124,10]:H),([59,32,35,32,114,10]:H)]:bs) y23)).length+e.length:Nat):Int)<=9223372036854775807)<|l (((a++(at' ([([32,38,38,32]:H),([32,124,124,32]:H),([32,124,32]:H),([59,32]:H),([32,38,32]:H),([10]:H),([32,124,10]:H),([59,32,35,32,114,10]:H)]:bs) y23))++e),n.2))))))) else g (a,c,d))
def Jc(R:bl)(I:H×Int×Int)(a:Int)(b:H):Option (H×H×Int×Int):=
 (ay (wH R I a) λ(f,c)=>(ay (iP (I.1,c.2.1,c.2.2) 3) λ(g,d)=>(a6 (λ((e,h,i):H×Int×Int)=>(a4 (((e.length+b.length:Nat):Int)<=9223372036854775807)<|some ((e++b),(I.1,h,i)))) λj=>(fixF (De R I a j) bB (f,g,d.2.1,d.2.2)))))
theorem alp(e:iG R){I:H×Int×Int}{i:Int}{j:H}{a:bK}{f:bK}{g:Nat}{r:H×H×Int×Int}(h:Jc R I i j=some r):
  g4 Tryz.prog 26 [.pointer a,c3 i,zs j] [lY f I.1 g] [jz a I f g] (λ_:Unit=>True) (λ_=>zs r.1) (λ_=>[jz a (I.1,r.2.2) f g]):=
 by
  refine V.jy (T:=cl) Tryz.call26 Tryz.func26 A λ_ _=>?_;unfold Jc at h;refine V.bH J 8 0 h (FO e) [0] [0] A ?_;rintro⟨B,C⟩ _ h;refine V.bH J 6 0 h rQ [0] [0] A ?_;rintro⟨D,E⟩ _ h;refine V.du J 2 0 h (ρ:=Unit) (λs q=>[(2,cg j),(7,cg s.1)]) .nil (λs q=>[jz a (I.1,s.2) f g]) A ?_ ?_
  ·intro F _ h;refine V.fy J 0 0 h (ρ:=Unit) (λs q=>[(0,bJ a),(1,bE i),(2,cg j),(7,cg s.1),(8,bE s.2.1)]) .nil (λs q=>[jz a (I.1,s.2.2) f g]) () [0] A ?_;rintro x ⟨b,y,G,K⟩ _ h;rw[De] at h;refine V.co J 6 0 h A (λh=>?_) (λh=>?_)
   ·refine V.ahq J 3 0 h (ρ:=Unit) (λs q=>[(0,bJ a),(1,bE i),(2,cg j),(7,cg s.1),(8,bE y)]) .nil (λs q=>[jz a (I.1,s.2) f g]) A ?_ ?_
    ·intro L _ h;obtain⟨⟨y23,M⟩,w,h⟩:=ov h;obtain⟨c,h⟩:=h6 h;obtain⟨k,h⟩:=h6 h;obtain⟨⟨l,N⟩,m,h⟩:=ov h;obtain⟨n,h⟩:=h6 h;refine V.j5 (aX.sf A .nil [] [] trivial A (λz=>?_));refine bD.eN J gE true 8 [0,2,7,8] A (by kernel_rfl) [] [(18,cg b),(20,bJ a),(25,bJ a),(26,bE i)] trivial [] A A (fY A) ?_;refine bD.all (rs:=[1,3]) (by kernel_rfl) A (yA.2 ⟨?_,yA.2 ⟨?_,(λ_ d=>absurd d ru)⟩⟩)
     ·refine cO.buildSlice J A A A A A A A A A A A [] A .str oz ⟨A,A⟩ A A λo=>bD.next trivial [] A (bD.one 3 (by kernel_rfl) (cO.p_ A A A A (rQ w) A [1] A [0] A A λ_ _=>bD.next trivial [] A (cO.jl 2 A λp=>bD.eN J gE true 5 [4] A (by kernel_rfl) [] [(22,.eI ⟨o,oz.length,oz.length⟩ (Int.toNat y23*1))] trivial [] A A ⟨p.ix c,⟨A,trivial⟩⟩ ?_)));refine bD.all (rs:=[5,9]) (by kernel_rfl) A (yA.2 ⟨?_,yA.2 ⟨?_,(λ_ d=>absurd d ru)⟩⟩)
      ·refine cO.load J A A A A A A A 2 A A (Int.toNat y23) 0 (at' oz y23) ⟨mU c,A⟩ A A (bD.next trivial [] A (bD.eN J gE true 3 [6] A (by kernel_rfl) [] [(24,cg (b++(at' oz y23)))] trivial [] A A ⟨k,⟨A,trivial⟩⟩ (bD.one 9 (by kernel_rfl) (cO.p_ A A A A (FO e m) A [0] A [0] A A λ_ _=>bD.next trivial [] A (bD.eN J gE true 0 [10,11] A (by kernel_rfl) [] [(7,cg ((b++(at' oz y23))++l))] trivial [] A A ⟨n,⟨A,trivial⟩⟩ (bD.done (by kernel_rfl) (aX.boxes (B':= .nil) trivial (V.iN ?_))))))));exact V.a5 J 0 0 h () [0] A
      refine cO.p_ A A A A (FO e m) A [0] A [0] A A λ_ _=>bD.next trivial [] A (bD.one 5 (by kernel_rfl) (cO.load J A A A A A A A 2 A A (Int.toNat y23) 0 (at' oz y23) ⟨mU c,A⟩ A A (bD.next trivial [] A (bD.eN J gE true 0 [6,10,11] A (by kernel_rfl) [] [(7,cg ((b++(at' oz y23))++l))] trivial [] A A ⟨k,n,⟨A,trivial⟩⟩ (bD.done (by kernel_rfl) (aX.boxes (B':= .nil) trivial (V.iN ?_)))))));exact V.a5 J 0 0 h () [0] A
     refine cO.p_ A A A A (rQ w) A [0] A [0] A A λ_ _=>bD.next trivial [] A ?_;refine bD.all (rs:=[1,9]) (by kernel_rfl) A (yA.2 ⟨?_,yA.2 ⟨?_,(λ_ d=>absurd d ru)⟩⟩)
     ·refine cO.buildSlice J A A A A A A A A A A A [] A .str oz ⟨A,A⟩ A A λo=>bD.next trivial [] A (cO.jl 1 A λt=>bD.eN J gE true 5 [4] A (by kernel_rfl) [] [(22,.eI ⟨o,oz.length,oz.length⟩ (Int.toNat y23*1))] trivial [] A A ⟨t.ix c,⟨A,trivial⟩⟩ ?_);refine bD.all (rs:=[5,9]) (by kernel_rfl) A (yA.2 ⟨?_,yA.2 ⟨?_,(λ_ d=>absurd d ru)⟩⟩)
      ·refine cO.load J A A A A A A A 1 A A (Int.toNat y23) 0 (at' oz y23) ⟨mU c,A⟩ A A (bD.next trivial [] A (bD.eN J gE true 3 [6] A (by kernel_rfl) [] [(24,cg (b++(at' oz y23)))] trivial [] A A ⟨k,⟨A,trivial⟩⟩ (bD.one 9 (by kernel_rfl) (cO.p_ A A A A (FO e m) A [1] A [0] A A λ_ _=>bD.next trivial [] A (bD.eN J gE true 0 [10,11] A (by kernel_rfl) [] [(7,cg ((b++(at' oz y23))++l))] trivial [] A A ⟨n,⟨A,trivial⟩⟩ (bD.done (by kernel_rfl) (aX.boxes (B':= .nil) trivial (V.iN ?_))))))));exact V.a5 J 0 0 h () [0] A
      refine cO.p_ A A A A (FO e m) A [1] A [0] A A λ_ _=>bD.next trivial [] A (bD.one 5 (by kernel_rfl) (cO.load J A A A A A A A 2 A A (Int.toNat y23) 0 (at' oz y23) ⟨mU c,A⟩ A A (bD.next trivial [] A (bD.eN J gE true 0 [6,10,11] A (by kernel_rfl) [] [(7,cg ((b++(at' oz y23))++l))] trivial [] A A ⟨k,n,⟨A,trivial⟩⟩ (bD.done (by kernel_rfl) (aX.boxes (B':= .nil) trivial (V.iN ?_)))))));exact V.a5 J 0 0 h () [0] A
     refine cO.p_ A A A A (FO e m) A [0] A [0] A A λ_ _=>bD.next trivial [] A (bD.one 1 (by kernel_rfl) (cO.buildSlice J A A A A A A A A A A A [] A .str oz ⟨A,A⟩ A A λo=>bD.next trivial [] A (cO.jl 1 A λu=>bD.eN J gE true 4 [4] A (by kernel_rfl) [] [(22,.eI ⟨o,oz.length,oz.length⟩ (Int.toNat y23*1))] trivial [] A A ⟨u.ix c,⟨A,trivial⟩⟩ (bD.one 5 (by kernel_rfl) (cO.load J A A A A A A A 1 A A (Int.toNat y23) 0 (at' oz y23) ⟨mU c,A⟩ A A (bD.next trivial [] A (bD.eN J gE true 0 [6,10,11] A (by kernel_rfl) [] [(7,cg ((b++(at' oz y23))++l))] trivial [] A A ⟨k,n,⟨A,trivial⟩⟩ (bD.done (by kernel_rfl) (aX.boxes (B':= .nil) trivial (V.iN ?_))))))))));exact V.a5 J 0 0 h () [1] A
    rintro⟨O,P,Q⟩ _ h
    try dsimp only at h
    exact V.el J 6 0 h () [0] A
   exact V.a5 J 1 0 h () [0] A
  rintro⟨S,U,W⟩ _ h;obtain⟨v,h⟩:=h6 h;cases h;exact V.rx J 7 0 () [0] ⟨v,A⟩
def M8(R:bl)(I:H×Int×Int)(c:Int):Option (H×H×Int×Int):=
 (ay (iP I 14) λ(h,a)=>(a6 (λ(b:Int)=>(bif(decide (b=1)) then some (([39,113,32,114,39]:H),(I.1,a.2)) else(bif(decide (b=2)) then some (([34,97,32,98,34]:H),(I.1,a.2)) else(bif(decide (b=3)) then some (([97,92,32,98]:H),(I.1,a.2)) else(bif(decide (b=4)) then some (([36,120]:H),(I.1,a.2)) else(bif(decide (b=5)) then some (([36,40,40,49,43,40,50,41,41,41]:H),(I.1,a.2)) else(bif(decide (b=6)) then some (([96,99,32,100,96]:H),(I.1,a.2)) else(bif(decide (b=7)) then some (([45,108]:H),(I.1,a.2)) else(bif(decide (b=8)) then(ay (R.h8 (I.1,a.2) (W (c-1)) ([])) λ(d,j)=>(a4 (((([36,40]:H).length+d.length:Nat):Int)<=9223372036854775807)<|(a4 ((((([36,40]:H)++d).length+([41]:H).length:Nat):Int)<=9223372036854775807)<|some (((([36,40]:H)++d)++([41]:H)),(I.1,j.2))))) else(bif(decide (b=9)) then(ay (R.h8 (I.1,a.2) (W (c-1)) ([])) λ(e,k)=>(a4 (((([34,120,36,40]:H).length+e.length:Nat):Int)<=9223372036854775807)<|(a4 ((((([34,120,36,40]:H)++e).length+([41,34]:H).length:Nat):Int)<=9223372036854775807)<|some (((([34,120,36,40]:H)++e)++([41,34]:H)),(I.1,k.2))))) else(bif(decide (b=10)) then(ay (R.oB (I.1,a.2) (W (c-1))) λ(f,l)=>(a4 (((([36,123,120,58,45]:H).length+f.length:Nat):Int)<=9223372036854775807)<|(a4 ((((([36,123,120,58,45]:H)++f).length+([125]:H).length:Nat):Int)<=9223372036854775807)<|some (((([36,123,120,58,45]:H)++f)++([125]:H)),(I.1,l.2))))) else(bif(decide (b=11)) then some (([97,92,10,98]:H),(I.1,a.2)) else(ay (iP (I.1,a.2) 7) λ(g,m)=>(a4 (0<=g/\g<(([([97]:H),([98,49]:H),([120,61,49]:H),([102,105,108,101]:H),([195,169]:H),([105,110]:H),([97,35,98]:H)]:bs).length:Int))<|some ((at' ([([97]:H),([98,49]:H),([120,61,49]:H),([102,105,108,101]:H),([195,169]:H),([105,110]:H),([97,35,98]:H)]:bs) g),(I.1,m.2)))))))))))))))) λi=>(bif(bif(decide (c<=0)) then(decide (8<=h)) else false) then i 0 else i h)))
theorem alv(c:iG R){I:H×Int×Int}{d:Int}{a:bK}{b:Nat}{r:H×H×Int×Int}(h:M8 R I d=some r):
  g4 Tryz.prog 54 [.pointer a3,c3 d] [lY a I.1 b] [jz a3 I a b] (λ_:Unit=>True) (λ_=>zs r.1) (λ_=>[jz a3 (I.1,r.2.2) a b]):=
 V.jy (T:=cl) Tryz.call54 Tryz.func54 A λ_ _=>V.bH J 7 0 h rQ [0] [0] A λ⟨p,i⟩ _ h=>V.e7 J 2 0 h (ρ:=Unit) (λs q=>[(0,bJ a3),(1,bE d),(5,bE s)]) .nil (λs q=>[jz a3 (I.1,i.2) a b]) A (λt _ h=>V.co J 9 0 h A (λh=>V.a5 J 3 0 h () [0] A) (λh=>V.a5 J 1 0 h () [0] A)) λu _ h=>V.co J 11 0 h A (λh=>bo h▸V.rx J 4 0 () [0] A) (λh=>V.co J 5 0 h A (λh=>bo h▸V.rx J 4 0 () [0] A) (λh=>V.co J 5 0 h A (λh=>bo h▸V.rx J 4 0 () [0] A) (λh=>V.co J 5 0 h A (λh=>bo h▸V.rx J 4 0 () [0] A) (λh=>V.co J 5 0 h A (λh=>bo h▸V.rx J 4 0 () [0] A) (λh=>V.co J 5 0 h A (λh=>bo h▸V.rx J 4 0 () [0] A) (λh=>V.co J 5 0 h A (λh=>bo h▸V.rx J 4 0 () [0] A) (λh=>V.co J 5 0 h A (λh=>V.bH J 5 0 h c.h8 [0] [0] A λ⟨v,w⟩ _ h=>b7 h λj h=>b7 h λk h=>bo h▸V.rx J 4 0 () [0] ⟨j,k,A⟩) (λh=>V.co J 5 0 h A (λh=>V.bH J 5 0 h c.h8 [0] [0] A λ⟨x,y⟩ _ h=>b7 h λl h=>b7 h λm h=>bo h▸V.rx J 4 0 () [0] ⟨l,m,A⟩) (λh=>V.co J 5 0 h A (λh=>V.bH J 5 0 h c.oB [0] [0] A λ⟨z,B⟩ _ h=>b7 h λn h=>b7 h λo h=>bo h▸V.rx J 4 0 () [0] ⟨n,o,A⟩) (λh=>V.co J 5 0 h A (λh=>bo h▸V.rx J 4 0 () [0] A) (λh=>V.go J 4 0 A (V.ck (aI.kL A (cO.buildSlice J A A A A A A A A A A A [] A .str [([97]:H),([98,49]:H),([120,61,49]:H),([102,105,108,101]:H),([195,169]:H),([105,110]:H),([97,35,98]:H)] ⟨A,A⟩ A A λC=>aI.kM (V.ct (V.bH J 1 0 h rQ [1] [0] A λ⟨f,D⟩ _ h=>V.ck (aI.jl 2 A λe=>V.ct (b7 h λg h=>V.go J 1 0 ⟨e.ix g,A⟩ (V.ck (aI.load J A A A A A A A 2 A A (Int.toNat f) 0 (at' ([([97]:H),([98,49]:H),([120,61,49]:H),([102,105,108,101]:H),([195,169]:H),([105,110]:H),([97,35,98]:H)]:bs) f) ⟨mU g,A⟩ A A (V.ct (bo h▸V.rx J 2 0 () [0] A))))))))))))))))))))))
def lv:Nat->bl
 |0=>⟨λ_ _ _=>none,λ_ _ _=>none,λ_ _ _ _=>none,λ_=>none,λ_ _ _=>none,λ_ _=>none⟩
 |n+1=>⟨Fq (lv n),Mr (lv n),FM (lv n),Ja (lv n),Jc (lv n),M8 (lv n)⟩
theorem Df:∀n,iG (lv n)
 |0=>⟨λh=>(Ej _ (Eq.symm (show none=some _ from h))).elim,λh=>(Ej _ (Eq.symm (show none=some _ from h))).elim,λh=>(Ej _ (Eq.symm (show none=some _ from h))).elim,λh=>(Ej _ (Eq.symm (show none=some _ from h))).elim,λh=>(Ej _ (Eq.symm (show none=some _ from h))).elim,λh=>(Ej _ (Eq.symm (show none=some _ from h))).elim⟩
 |n+1=>⟨ajg (Df n),ajw (Df n),akW (Df n),ak7 (Df n),alp (Df n),alv (Df n)⟩
def s_:bl:=lv bB
theorem M9:iG s_:=Df bB
def S9(I:H)(d:Int->Option (H×Int×Int))(b:(Int×Int)->Option (H×Int×Int)):(Int×Int)->Option (H×Int×Int):=λ(c,a)=>
 (bif(bif(decide (a<(I.length:Int))) then(decide (a<4000)) else false) then(a4 (0<=a/\a<(I.length:Int))<|b ((W (((BitVec.ofInt (IntKind.bits .i64) (W ((W ((W (c*137))+((at' I a).toNat:Int)))+7))&&&BitVec.ofInt (IntKind.bits .i64) 1073741823).toNat:Int))),(W (a+1)))) else d c)
def M_(I:H):Option (H×Int×Int):=
 (a6 (λ(a:Int)=>some (I,0,a)) λb=>(fixF (S9 I b) bB ((W (600128+(I.length:Int))),0)))
theorem aly{a:Nat}{r:H×Int×Int}(h:M_ I=some r):
  FC Tryz.prog 20 [.slice av I.length a] [lY av I a] (λ_:bK=>True) (λq=> .pointer q) (λq=>[jz q (I,r.2) av a]):=
 V.fT (T:=cl) Tryz.call20 Tryz.func20 A λ_=>V.du J 16 0 h (ρ:=Unit) (λs q=>[(0,.v (.slice av I.length a)),(3,bE s)]) .nil (λs q=>[]) A (λj _ h=>V.fy J 0 0 h (ρ:=Unit) (λs q=>[(0,.v (.slice av I.length a)),(3,bE s.1),(4,bE s.2)]) .nil (λs q=>[]) () [] A λi ⟨c,b⟩ _ h=>V.co J 12 0 h A (λh=>V.go J 4 0 A (V.ck (aI.jl 0 A λe=>V.ct (b7 h λg h=>V.go J 5 0 ⟨e.ix g,A⟩ (V.ck (aI.load J A A A A A A A 0 A A (Int.toNat b) 0 (at' I b) ⟨mU g,A⟩ A A (V.ct (V.ck (aI.eN J 5 [((at' I b).toNat:Int),(W ((W (c*137))+((at' I b).toNat:Int))),(W ((W ((W (c*137))+((at' I b).toNat:Int)))+7)),(W (((BitVec.ofInt (IntKind.bits .i64) (W ((W ((W (c*137))+((at' I b).toNat:Int)))+7))&&&BitVec.ofInt (IntKind.bits .i64) 1073741823).toNat:Int)))] [] [(3,bE (W (((BitVec.ofInt (IntKind.bits .i64) (W ((W ((W (c*137))+((at' I b).toNat:Int)))+7))&&&BitVec.ofInt (IntKind.bits .i64) 1073741823).toNat:Int))))] _ A ⟨⟨trivial,Ll _⟩,⟨trivial,A⟩,⟨trivial,A⟩,⟨trivial,A⟩,⟨A,trivial⟩,A⟩ (V.ct (V.el J 7 0 h () [] A))))))))))) (λh=>V.a5 J 1 0 h () [] A)) λf _ h=>V.j5 (aX.EM J 5 [] [9] [(2,.fc 9 0),(31,.fc 9 0)] (.new 9 36 [.slice av I.length a,c3 0,c3 f] .nil) ⟨(fY A),(jL A A)⟩ A A (V.iN (V.j5 (aX.unbox 9 A (B':= .nil) trivial A (.pair .val (.pair (.int .i64) (.int .i64))) ((bA.v ⟨av,I.length,a⟩),0,f) ⟨A,A,A⟩ (λd=>[(0,.v (.slice av I.length a)),(2,bJ d),(3,bE f),(31,bJ d)]) (λ_=>(fY A)) λd=>V.iN (bo h▸V.rt J 0 0 d [0] A)))))
def Na(I:H)(a:H):Option Bool:=
 (a4 (((decide ((a.length:Int)<=(I.length:Int)))=true)->0<=(W ((I.length:Int)- (a.length:Int)))/\(W ((I.length:Int)- (a.length:Int)))<=(I.length:Int)/\(I.length:Int)<=(I.length:Int))<|some (bif(decide ((a.length:Int)<=(I.length:Int))) then(decide ((b3 I (W ((I.length:Int)- (a.length:Int))) (I.length:Int))=a)) else false))
theorem alA{a:H}{r:Bool}(h:Na I a=some r):
  FC Tryz.prog 35 [zs I,zs a] [] (λ_:Unit=>True) (λ_=> .bool r) (λ_=>[]):=
 V.fT (T:=cl) Tryz.call35 Tryz.func35 A λ_=>b7 h λb h=>bo h▸V.rt J 24 0 () [] ⟨b,A⟩
def S_(I:H)(a:H):Option Bool:=
 (ay (Na I a) λ(b:Bool)=>some b)
theorem alB{a:H}{r:Bool}(h:S_ I a=some r):
  FC Tryz.prog 25 [zs I,zs a] [] (λ_:Unit=>True) (λ_=> .bool r) (λ_=>[]):=
 V.fT (T:=cl) Tryz.call25 Tryz.func25 A λ_=>V.cA J 8 0 h alA [] A λb _ h=>bo h▸V.rt J 2 0 () [] A
def Dg(I:H):Option H:=
 (ay (S_ I ([10]:H)) λ(a:Bool)=>(bif a then some I else(a4 (((I.length+([10]:H).length:Nat):Int)<=9223372036854775807)<|some (I++([10]:H)))))
theorem Nb(h:Dg I=some r):
  FC Tryz.prog 13 [zs I] [] (λ_:Unit=>True) (λ_=>zs r) (λ_=>[]):=
 V.fT (T:=cl) Tryz.call13 Tryz.func13 A λ_=>V.cA J 8 0 h alB [] A λb _ h=>V.co J 1 0 h A (λh=>bo h▸V.rt J 5 0 () [] A) (λh=>b7 h λa h=>bo h▸V.rt J 7 0 () [] ⟨a,A⟩)
theorem alC(aA a b:bK)(w:World):CallsD Tryz.prog 29 #[.pointer aA,.pointer a,.pointer b] .returning w λe c w'=>e= .returned (.tuple #[])/\c= .returning/\w'=w:=by refine callsD_of_wpS Tryz.func29 A λd cs hu=>?_;apply wpS_seq;apply wpS_region;simp[wpOpsS,go_sem,recoverD,hu,Tryz.ntmps29,Exit.thenS];apply wpS_seq;apply wpS_region;simp[wpOpsS,go_sem,recoverD,hu,Tryz.ntmps29,Exit.thenS,Op.equal];refine wpS_cond (t:=false) (by simp[Act.eval,Array.replicate]) ?_;simp only[fR,cZ];refine wpS_of_wp (wp_skip ?_);cases d;simp_all [bodyPostS,results,Tryz.results29]
theorem Ta:∀{e:Env}{t:Nat}{x:fa},dp e t=some x->(t,x)∈e
 |[],t,x,h=>by simp[dp] at h
 |(k,y)::r,t,x,h=>by
  simp only[dp] at h;cases az:Nat.beq k t with
  |true=>rw[az,aO] at h;have:=xf az;cases h;subst this;exact List.mem_cons_self
  |false=>rw[az,aY] at h;exact Pz _ (Ta h)
theorem aX.enter{X:bq}{nt:Nat}{x:Code}{Q:Exit->Act->World->Prop}(β:Nat->Nat)(e:Env)
  (he:∀p∈e,p.1<a.tmps.size/\p.2.is β a (a.tmps.getD p.1 undef)) (hf:e.all (λp=>flat p.2)=true) (af:a.tmps.size=nt) (aB:a.defers=[])
  (az:Keep X w0 w) (g:g2 w O L) (c:L.Nodup) (bm:∀b∈L,w0.heap.size<=b\/b∈X)
  (h:∀fin,fin=Q->aX {P,T,X,w0,nt,fin} [.c x] e .nil [] O):x.wp P Q a w:=by
 have:=h Q A a w β ⟨λt y d=>he _ (Ta d),λt y d=>pY.1 hf _ (Ta d),af,aB,⟨az,?_,L,g,by simpa[bU.ids] using c,λb i=>bm b (by simpa[bU.ids] using i),λf hf=>by cases hf⟩⟩
 ·refine wp_mono (show x.wp P (ir {P,T,X,w0,nt,fin:=Q} []) a w from this) ?_;intro e a w h;exact h
 ·intro k az;simp[bU.ids] at az
theorem alD(code c:Int)(s:H)(p:Int)(o:Value)(n:Int)(cX:bK)(lo g:Nat)(k:Int)(t u:Int)(x:Value)(aA i j f:bK)(w:World)(L:bq)
  (D:g2 w [⟨.val,⟨aA,1,1⟩,[.pointer f]⟩,⟨.pair (.int .i64) (.int .i64),⟨i,1,1⟩,[(t,u)]⟩,⟨.val,⟨j,1,1⟩,[x]⟩,⟨ET,⟨f,1,1⟩,[(s,p,o,n,(bA.v ⟨cX,lo,g⟩),k)]⟩] L) (q:L.Nodup):
  CallsD Tryz.prog 29 #[.pointer aA,.pointer i,.pointer j] (.panicking [{v:= .iface 39 (.agg #[.int .i64 code,.int .i64 c]),recovered:=false}]) w λe E w'=>
   E= .panicking [{v:= .iface 39 (.agg #[.int .i64 code,.int .i64 c]),recovered:=true}]/\e= .returned (.tuple #[])/\Keep L w w'/\
   ∃L',g2 w' [⟨.val,⟨aA,1,1⟩,[.pointer f]⟩,⟨.pair (.int .i64) (.int .i64),⟨i,1,1⟩,[(code,c)]⟩,⟨.val,⟨j,1,1⟩,[bA.v ⟨cX,lo,g⟩]⟩,⟨ET,⟨f,1,1⟩,[(s,p,o,n,(bA.v ⟨cX,lo,g⟩),k)]⟩] L'/\L'.Nodup/\∀b∈L',b∈L\/w.heap.size<=b:=by
 refine callsD_of_wpS Tryz.func29 A λG cs hu=>?_;apply wpS_seq;apply wpS_region;simp[wpOpsS,go_sem,recoverD,hu,Tryz.ntmps29,Exit.thenS];refine wpS_of_wp ?_;refine aX.enter (T:=cl) (X:=L) (w0:=w) (nt:=22) (λ_=>0) [(3,.v (.iface 39 (.agg #[.int .i64 code,.int .i64 c]))),(0,.v (.pointer aA)),(1,.v (.pointer i)),(2,.v (.pointer j))] ?_ A (by simp) A (Keep.refl _ _) D q (λb r=> .inr r) ?_
 ·simp[fa.is]
 intro fin y;have m:xu {P:=Tryz.prog,T:=cl,X:=L,w0:=w,nt:=22,fin:=fin}:=by subst y;intro I d v a w h;obtain⟨M,U⟩:=h;exact⟨by rw[put_defers] at M;exact M,U⟩
 refine aX.ptr 0 aA A (aX.ptr 1 i A (aX.ptr 2 j A ?_));refine aX.seq (aX.region (aI.eN J 1 [] [] [(7,.v (.iface 39 (.agg #[.int .i64 code,.int .i64 c])))] _ A ⟨⟨A,trivial⟩,A⟩ (aI.ahc A A ⟨_,A⟩ A A Tryz.underlying20 ⟨_,A⟩ A (aI.done A ?_))));refine aX.cond A (λl=>?_) (λl=>absurd l (by decide));refine aX.seq (aX.region (aI.eN J 1 [] [] [(10,.v (.iface 39 (.agg #[.int .i64 code,.int .i64 c])))] _ A ⟨⟨A,trivial⟩,A⟩ (aI.ahd J A A A A A A A A ?_)));refine aI.o0 J 6 [] [1] [(4,.fc 1 0),(5,.v (.bool true))] (.new 1 39 [.int .i64 code,.int .i64 c] .nil) A ⟨fY A,jL A A⟩ (aI.done A ?_);refine aX.seq (aX.seq (aX.region (aI.eN J 2 [] [] [(15,.v (.bool false))] _ A ⟨⟨A,trivial⟩,A⟩ (aI.done A ?_))));refine aX.cond A (λl=>absurd l (by decide)) (λl=>aX.skip ?_);refine aX.jl 3 A λaz=>?_;refine aX.sf A (.new 1 39 [.int .i64 code,.int .i64 c] .nil) [0,3] [5,6] (jL A A) A (λK=>?_);refine bD.eN J m true 6 [0] A (by kernel_rfl) [] [(17,.v (.agg #[.int .i64 code,.int .i64 c]))] (jL A A) [0,3] A A ⟨A,trivial⟩ ?_;refine bD.lH J m 1 A (by kernel_rfl) A A A A A 0 A A 0 0 (.pointer f) ⟨A,A⟩ A A A (jL A A) [0,3] A ?_;refine cO.ptr 18 f A ?_;refine bD.eN J m true 3 [2,3] A (by kernel_rfl) [] [(20,.eI ⟨f,1,1⟩ 4)] (jL A A) [0,3] A A ⟨(az.gD gF).1,az.gD gF,⟨A,trivial⟩⟩ ?_;refine bD.lH J m 4 A (by kernel_rfl) A A A A A 1 A A 0 4 (s,p,o,n,(bA.v ⟨cX,lo,g⟩),k) ⟨A,A⟩ A A A (jL A A) [0,3] A ?_;refine bD.one 5 (by kernel_rfl) (cO.rC J A A A A A A A A A [1] (fs:=[]) A 0 0 (t,u) (code,c) ⟨A,A⟩ ⟨A,A,A⟩ (bD.ow A ?_));refine bD.one 6 (by kernel_rfl) (cO.rC J A A A A A A A A A [2] (fs:=[]) A 0 0 x (bA.v ⟨cX,lo,g⟩) ⟨A,A⟩ ⟨A,A,A,A⟩ (bD.ow A ?_));refine bD.done (by kernel_rfl) (aX.boxes (B':= .nil) trivial ?_);intro a w' β Y;subst y;obtain⟨_,_,F,z,B,C,_⟩:=Y.inv.pick (idx:=[2,1,0,0]) rfl;simp only[bU.ids,List.map_nil,ps,pZ] at z B C;exact⟨Y.iE,_,A,_,by simp[results,Tryz.results29],A,A,Y.inv.yF,F,z,B,λb r=>(C b r).symm⟩
def Nc(w0:World)(r:(Int×Int)×bs×Int):Ending->World->Prop:=
 K8 w0 (λ_:bK×Nat=>True) (λq=> .tuple #[.agg #[.int .i64 r.1.1,.int .i64 r.1.2],.slice q.1 r.2.1.length q.2,.int .i64 r.2.2]) (λq=>[⟨.str,⟨q.1,r.2.1.length,q.2⟩,r.2.1⟩])
theorem Zy(h:g2 w O L){f:Fact}(hf:f∈O):∃gZ,f.rep false w gZ:=by obtain⟨gZ,a,_⟩:=h.mem hf;exact⟨gZ,Fact.qI a⟩
theorem Zz{tmps:Array Value}{e_ a n:Int}(U:tmps.getD 2 undef= .pointer av)(d:tmps.getD 3 undef= .pointer a3)(e:tmps.getD 4 undef= .int .i64 n)
  (c:g2 w O L) (f:⟨.pair (.int .i64) (.int .i64),⟨av,1,1⟩,[(e_,a)]⟩∈O) {cX:bK} {lo b:Nat} (g:⟨.val,⟨a3,1,1⟩,[bA.v ⟨cX,lo,b⟩]⟩∈O):
  (results Tryz.f23 tmps).run Tryz.prog w= .ok (.tuple #[.agg #[.int .i64 e_,.int .i64 a],.slice cX lo b,.int .i64 n]) w:=by
 obtain⟨o,h⟩:=Zy c f;obtain⟨i,j⟩:=Zy c g;have k:=XY (P:=Tryz.prog) J (q:=2) (t:=39) A U h A A A (v:= .agg #[.int .i64 e_,.int .i64 a]) A;have l:=XY (P:=Tryz.prog) J (q:=3) (t:=29) A d j A A A (v:= .slice cX lo b) A;have m:(yL tmps (.tmp 4)).run Tryz.prog w= .ok (.int .i64 n) w:=by simp only[yL,e];rfl
 have Z:Tryz.f23.results= #[.cell 2 39,.cell 3 29,.tmp 4]:=A;rw[W0,Z,Array.mapM_eq_mapM_toList];simp only[p1,Sem.run_map,List.mapM_cons,List.mapM_nil,k,l,m,Ab];rfl
theorem alE{aA:bK}{e_ b n:Int}(aB:a.defers=[{target:= .fn (.func 29) #[.pointer aA,.pointer av,.pointer a3],args:= #[]}])
  (U:a.tmps.getD 2 undef= .pointer av) (c:a.tmps.getD 3 undef= .pointer a3) (d:a.tmps.getD 4 undef= .int .i64 n) (az:Keep [] w0 w)
  (g:g2 w O L) (h:⟨.pair (.int .i64) (.int .i64),⟨av,1,1⟩,[(e_,b)]⟩∈O) (i:⟨.val,⟨a3,1,1⟩,[bA.v ⟨none,0,0⟩]⟩∈O):
  Leaves Tryz.prog Tryz.f23 a.tmps (Nc w0 ((e_,b),[],n)) a.defers .returning w:=by
 rw[aB];refine leaves_cons (f:=29) (args:= #[.pointer aA,.pointer av,.pointer a3]) (by simp) (by simp[go_sem,invoke]) ?_;refine(alC aA av a3 w).mono ?_;rintro e j w' ⟨rfl,rfl,rfl⟩;show Leaves Tryz.prog Tryz.f23 a.tmps (Nc w0 ((e_,b),[],n)) [] .returning w';refine⟨_,Zz U c d g h i,(none,0),trivial,A,az,[],⟨[],[],⟨A,.inl ⟨A,A,A⟩⟩,A,A⟩,List.nodup_nil,by simp⟩
theorem alF{a b c:World}(h:Keep [] a b)(k:Keep L b c)(bm:∀x∈L,a.heap.size<=x):Keep [] a c:=
 ⟨k.os.trans h.os,k.tape.trans h.tape,k.output.trans h.output,k1 h.size k.size,λx d _=>(k.block x (Nat.lt_of_lt_of_le d h.size) λhm=>Nat.lt_irrefl _ (Nat.lt_of_lt_of_le d (bm x hm))).trans (h.block x d (by simp))⟩
theorem alG{aA h:bK}{code c n:Int}{s:H}{p:Int}{i:Value}{j:Int}{cX:bK}{op:bs}{k:Int}
  (aB:a.defers=[{target:= .fn (.func 29) #[.pointer aA,.pointer av,.pointer a3],args:= #[]}])
  (U:a.tmps.getD 2 undef= .pointer av) (y:a.tmps.getD 3 undef= .pointer a3) (z:a.tmps.getD 4 undef= .int .i64 n) (az:Keep [] w0 w)
  {l m:Int} {o:Value} (B:g2 w [⟨.val,⟨aA,1,1⟩,[.pointer h]⟩,⟨.pair (.int .i64) (.int .i64),⟨av,1,1⟩,[(l,m)]⟩,⟨.val,⟨a3,1,1⟩,[o]⟩,⟨ET,⟨h,1,1⟩,[(s,p,i,j,(bA.v ⟨cX,op.length,d⟩),k)]⟩,⟨.str,⟨cX,op.length,d⟩,op⟩] L)
  (q:L.Nodup) (r:∀b∈L,w0.heap.size<=b):
  Leaves Tryz.prog Tryz.f23 a.tmps (Nc w0 ((code,c),op,n)) a.defers (.panicking [{v:= .iface 39 (.agg #[.int .i64 code,.int .i64 c]),recovered:=false}]) w:=by
 rw[aB];refine leaves_cons (f:=29) (args:= #[.pointer aA,.pointer av,.pointer a3]) (by simp) (by simp[go_sem,invoke]) ?_;obtain⟨C,t,D,u,rfl⟩:=g2.split (fs:=[⟨.val,⟨aA,1,1⟩,[.pointer h]⟩,⟨.pair (.int .i64) (.int .i64),⟨av,1,1⟩,[(l,m)]⟩,⟨.val,⟨a3,1,1⟩,[o]⟩,⟨ET,⟨h,1,1⟩,[(s,p,i,j,(bA.v ⟨cX,op.length,d⟩),k)]⟩]) (gs:=[⟨.str,⟨cX,op.length,d⟩,op⟩]) B;obtain⟨E,F,G⟩:=iq.1 q;refine(alD code c s p i j cX op.length d k l m o aA av a3 h w C D E).mono ?_;rintro e N w' ⟨rfl,rfl,x,L',I,O,J⟩;have K:g2 w' [⟨.str,⟨cX,op.length,d⟩,op⟩] t:=u.frame λb g=>x.block b (u.lt b g) λM=>G b M b g A;show Leaves Tryz.prog Tryz.f23 a.tmps (Nc w0 ((code,c),op,n)) [] .returning w';refine⟨_,Zz U y z I (by simp) (by simp),(cX,d),trivial,A,alF az x (λb g=>r b (by simp[g])),t,K,F,λb g=>r b (by simp[g])⟩
theorem Nd(a:bK):a.map (·.add 0)=a:=by cases a<;>simp[Addr.add]
def xM(I:H):Option ((Int×Int)×bs×Int):=
 (ay (Dg I) λy=>match s_.k5 (y,0,[],0,[],0) 0 true with
  |none=>none
  |some (.inl e)=>some ((e.1,e.2.1),e.2.2.2.2.2.2.1,0)
  |some (.inr r)=>some ((0,(r.2.1.length:Int)),[],r.1))
set_option maxHeartbeats 1000000 in
theorem Tc{r:(Int×Int)×bs×Int}(h:xM I=some r):
  FC Tryz.prog 23 [zs I] [] (λ_:bK×Nat=>True) (λq=> .tuple #[.agg #[c3 r.1.1,c3 r.1.2],.slice q.1 r.2.1.length q.2,c3 r.2.2]) (λq=>[⟨.str,⟨q.1,r.2.1.length,q.2⟩,r.2.1⟩]):=by
 refine⟨Tryz.call23,λw _=>calls_of_wp_defers Tryz.func23 A ?_⟩;unfold xM at h;obtain⟨y,j,h⟩:=ov h;rw[Tryz.ntmps23];refine aX.enter (T:=cl) (X:=[]) (w0:=w) (nt:=20) (λ_=>0) [(0,cg I)] (O:=[]) ?_ A (by simp) A (Keep.refl _ _) (L:=[]) A List.nodup_nil (by simp) ?_
 ·simp[fa.is]
 intro fin i;refine aX.seq (aX.region (aI.o0 J 3 [] [1,2] [(2,.fc 1 0),(3,.fc 2 0),(4,bE 0)] (.new 1 39 [c3 0,c3 0] (.new 2 29 [.slice none 0 0] .nil)) A ⟨fY A,jL A A⟩ (aI.done A ?_)));refine aX.seq (aX.region (aI.eN J 1 [] [] [(6,cg I)] _ A ⟨⟨A,trivial⟩,A⟩ (aI.call A A A A (Nb j) A [] A A λ_ _=>?_)));refine aI.o0 J 2 [] [3] [(9,.fc 3 0)] (.new 1 39 [c3 0,c3 0] (.new 2 29 [.slice none 0 0] (.new 3 55 [zs y,c3 0,.slice none 0 0,c3 0,.slice none 0 0,c3 0] .nil))) A ⟨⟨A,trivial⟩,jL A A⟩ ?_;refine aI.unbox 3 A (B':= .new 1 39 [c3 0,c3 0] (.new 2 29 [.slice none 0 0] .nil)) (jL A A) A ET (y,0,(bA.v ⟨none,0,0⟩),0,(bA.v ⟨none,0,0⟩),0) ⟨A,A,A,A⟩ (λa=>[(2,.fc 1 0),(3,.fc 2 0),(4,bE 0),(9,bJ a)]) (λ_=>fY A) λc=>?_;refine aI.o0 J 2 [] [4] [(5,.fc 4 0)] (.new 1 39 [c3 0,c3 0] (.new 2 29 [.slice none 0 0] (.new 4 52 [.pointer c] .nil))) A ⟨⟨A,trivial⟩,jL A A⟩ (aI.done A ?_);refine aX.unbox 1 A (B':= .new 2 29 [.slice none 0 0] (.new 4 52 [.pointer c] .nil)) (jL A A) A (.pair (.int .i64) (.int .i64)) (0,0) ⟨A,A⟩ (λa=>[(2,bJ a),(3,.fc 2 0),(4,bE 0),(5,.fc 4 0)]) (λ_=>fY A) λav=>?_;refine aX.unbox 2 A (B':= .new 4 52 [.pointer c] .nil) (jL A A) A .val (bA.v ⟨none,0,0⟩) ⟨A,A,A⟩ (λa=>[(2,bJ av),(3,bJ a),(4,bE 0),(5,.fc 4 0)]) (λ_=>fY A) λa3=>?_;refine aX.unbox 4 A (B':= .nil) trivial A .val (.pointer c) ⟨A,A,A⟩ (λa=>[(2,bJ av),(3,bJ a3),(4,bE 0),(5,bJ a)]) (λ_=>fY A) λaA=>?_;refine aX.px (.pair .str .bool) bA.nil A A (aX.px .str bA.nil A A ?_);refine aX.seq (aX.region (aI.ag0 A A A A A A (aI.defer A A A A A (aI.done A ?_))));refine aX.seq (aX.region (aI.lH J A A A A A A 2 A A 0 0 (.pointer c) ⟨A,A⟩ A A A (aI.ptr 11 c A ?_)));rcases hm:s_.k5 (y,0,[],0,[],0) 0 true with _|⟨e|aF⟩
 ·rw[hm] at h;cases h
 ·rw[hm] at h;cases h;refine aI.XX A A A A (M9.k5 (Q:=(none,0,none,0)) hm) A [5,1,0] A [] A A (λ_=>by simp) (λs v _ he _=>?_) (λs k _ he a w' β Y=>?_)
  ·simp at he
  ·simp only[Ending.panicked.injEq] at he;subst he;subst i;obtain⟨_,_,l,d,f,g,_⟩:=(Y.inv.pick (idx:=[3,4,3,0,1]) rfl).drop;simp only[bU.ids,List.map_nil,ps,pZ] at d f g;refine Cq (alG (aA:=aA) (av:=av) (a3:=a3) Y.iE ?_ ?_ ?_ Y.inv.yF d f λb m=>(g b m).resolve_right (by simp))
   ·exact(Y.env 2 _ A).2.trans (by rw[Nd])
   ·exact(Y.env 3 _ A).2.trans (by rw[Nd])
   ·exact(Y.env 4 _ A).2
 ·rw[hm] at h;cases h;refine aI.XX A A A A (M9.k5 (Q:=(none,0,none,0)) hm) A [5,1,0] A [] A A (λ_=>by simp) (λs v _ he n=>?_) (λs k _ he=>?_)
  ·simp only[BT] at he;subst he;refine aI.eN J 1 [] [] [(4,bE aF.1)] _ A ⟨⟨A,trivial⟩,A⟩ (aI.done A ?_);refine aX.jl 0 A λaz=>?_;refine aX.seq (aX.region (aI.lH J A A A A A A 3 A A 0 0 (.pointer c) ⟨A,A⟩ A A A (aI.ptr 13 c A ?_)));refine aI.eN J 2 [] [] [(15,bJ c)] _ A ⟨(az.gD gF).1,az.gD gF,⟨A,trivial⟩,A⟩ ?_;refine aI.lH J A A A A A A 0 A A 0 0 _ ⟨A,A⟩ A A A ?_;refine aI.eN J 3 [] [] [(18,.v (.agg #[c3 0,c3 (aF.2.1.length:Int)])),(19,bE aF.1)] _ A ⟨fY A,A⟩ ?_;refine aI.rC J A A A A A A A A A [5] (fs:=[]) A 0 0 (0,0) (0,(aF.2.1.length:Int)) ⟨A,A⟩ ⟨A,A,A⟩ ?_;refine aI.rC J A A A A A A A A A [5] (fs:=[]) A 0 0 (bA.v ⟨none,0,0⟩) (bA.v ⟨none,0,0⟩) ⟨A,A⟩ ⟨A,A,A,A⟩ ?_;refine aI.eN J 1 [] [] [(4,bE aF.1)] _ A ⟨⟨A,trivial⟩,A⟩ (aI.done A ?_);intro a w' β Y;subst i;obtain⟨_,_,l,d,f,g,_⟩:=Y.inv;refine wp_ret (B_ (alE (aA:=aA) (av:=av) (a3:=a3) Y.iE ?_ ?_ ?_ Y.inv.yF d (by simp) (by simp)))
   ·exact(Y.env 2 _ A).2.trans (by rw[Nd])
   ·exact(Y.env 3 _ A).2.trans (by rw[Nd])
   ·exact(Y.env 4 _ A).2
  ·simp at he
def Nf(I:H):Option Int:=
 (ay (xM I) λ(a,c,b)=>(bif(!(decide (a.1=0))) then some (-1) else some b))
theorem alH{r:Int}(h:Nf I=some r):
  FC Tryz.prog 14 [zs I] [] (λ_:Unit=>True) (λ_=>c3 r) (λ_=>[]):=
 V.fT (T:=cl) Tryz.call14 Tryz.func14 A λ_=>V.cA J 7 0 h Tc [] A λ⟨a,c,b⟩⟨d,e⟩ h=>V.ck (aI.o0 J 8 [] [8] [(3,.fc 8 0),(5,bE b)] (.new 8 39 [c3 a.1,c3 a.2] .nil) A ⟨(fY A),(jL A A)⟩ (V.ct (V.co J 8 0 h A (λh=>bo h▸V.rt J 4 0 () [] A) (λh=>bo h▸V.rt J 6 0 () [] A))))
def Je(I:H):Option H:=
 (a4 (((decide (0<(I.length:Int)))=true)->0<=(W ((I.length:Int)-1))/\(W ((I.length:Int)-1))<(I.length:Int))<|(bif(bif(decide (0<(I.length:Int))) then(decide (((at' I (W ((I.length:Int)-1))).toNat:Int)=(10:Int))) else false) then some I else(a4 (((I.length+([10]:H).length:Nat):Int)<=9223372036854775807)<|some (I++([10]:H)))))
theorem alI(h:Je I=some r):
  FC Tryz.prog 31 [zs I] [] (λ_:Unit=>True) (λ_=>zs r) (λ_=>[]):=
 V.fT (T:=cl) Tryz.call31 Tryz.func31 A λ_=>b7 h λa h=>V.co J 19 0 h ⟨a,A⟩ (λh=>bo h▸V.rt J 5 0 () [] A) (λh=>b7 h λb h=>bo h▸V.rt J 7 0 () [] ⟨b,A⟩)
def zt(I:H):Option (aa×Int):=
 (ay (Je I) λ(p:H)=>(ay (s_.oA (p,0,0,([]:ag),0,0,[],([]:bs),false) ([]) ([]:bs) false) λ(q,a)=>(a6 (λ((c,d,e,f,b,g,h,i,j):aa)=>(a6 (λ((k,r,s,t,l,u,v,w,x):aa)=>(a6 (λ(y:Int)=>some ((k,r,s,t,l,y,v,w,x),q)) λm=>(bif(!(decide (l=2))) then m (k.length:Int) else m u))) λn=>(bif(decide (b=1)) then(ay (xF (c,d,e,f,b,g,h,i,j) ([10]:H)) λ(z:aa)=>n z) else n (c,d,e,f,b,g,h,i,j)))) λo=>(bif(bif(decide (a.2.2.2.2.1=0)) then(bif a.2.2.2.2.2.2.2.2 then true else(decide (0<(a.2.2.2.1.length:Int)))) else false) then(ay (h2 a ([])) λ(A:aa)=>o A) else o a))))
theorem ZA{r:aa×Int}(h:zt I=some r):
  FC Tryz.prog 24 [zs I] [] (λ_:bK×bx=>True) (λq=> .tuple #[.pointer q.1,c3 r.2]) (λq=>fg q.1 r.1 q.2):=
 by
  refine V.fT (T:=cl) Tryz.call24 Tryz.func24 A λ_=>?_;unfold zt at h;refine V.cA J 8 0 h alI [] A λb _ h=>?_;refine V.ck (aI.o0 J 3 [] [3] [(4,.fc 3 0),(9,.fc 3 0)] (.new 3 47 (aht (b,0,0,[],0,0,[],[],false) none 0 none 0) .nil) A ⟨(fY A),(jL A A)⟩ (V.ct ?_));refine V.go J 4 0 A ?_;obtain⟨⟨c,v⟩,d,h⟩:=ov h;refine V.ck (aI.unbox 3 A (B':= .nil) trivial A ES (b,0,0,(bA.v ⟨none,0,0⟩),0,0,[],(bA.v ⟨none,0,0⟩),false) ⟨A,A,A,A⟩ (λa=>[(0,cg I),(4,bJ a),(6,cg I),(7,cg b),(9,bJ a),(10,bJ a)]) (λ_=>(fY A)) λa=>V.ct ?_);refine V.ck (aI.px (.pair .str .bool) bA.nil A A (V.ct ?_));refine V.ck (aI.px .str bA.nil A A (V.ct ?_));refine V.ck (aI.Lg .str bA.nil A A (V.ct ?_));refine V.ck (aI.p_ A A A A (M9.oA (Q:=(none,0,none,0)) d) A [2,1,0] A [0] A A ?_);rintro e-;refine V.ct ?_;refine V.e7 J 2 0 h (ρ:=bx) (λs q=>[(4,bJ a),(5,bE c)]) .nil (λs q=>hv a s q) A ?_ ?_
  ·intro w _ h;refine V.co J 22 1 h ⟨A,A,A,A,A,A,A,A,A,A⟩ (λh=>?_) (λh=>?_)
   ·refine V.bH J 2 0 h qn a7 [] A λx g h=>?_;exact V.a5 J 1 0 h g [1,2,0] A
   exact V.a5 J 1 0 h e [1,2,0] A
  rintro⟨y,z,B,C,D,E,F,G,K⟩ i h;refine V.e7 J 0 0 h (ρ:=bx) (λs q=>[(4,bJ a),(5,bE c)]) .nil (λs q=>hv a s q) A ?_ ?_
  ·intro L _ h;refine V.co J 8 3 h ⟨A,A,A,A⟩ (λh=>?_) (λh=>?_)
   ·refine V.bH J 2 0 h Sm [2,0,0] [] A λM j h=>?_;exact V.a5 J 1 0 h j [1,2,0] A
   exact V.a5 J 1 0 h i [0,1,2] A
  rintro⟨k,l,m,n,o,N,p,t,u⟩ f h;refine V.e7 J 0 0 h (ρ:=Unit) (λs q=>[(4,bJ a),(5,bE c)]) .nil (λs q=>fg a (k,l,m,n,o,s,p,t,u) f) A ?_ ?_
  ·intro O _ h;refine V.co J 8 3 h ⟨A,A,A,A⟩ (λh=>?_) (λh=>?_)
   ·exact V.a5 J 11 3 h () [0,1,2] ⟨A,A,A,A,A,A,A⟩
   exact V.a5 J 1 0 h () [2,0,1] A
  rintro P _ h;cases h;exact V.rt J 7 0 (a,f) a7 A
def auR(I:H):Option Int:=
 (ay (zt I) λ(a,b)=>(bif(!(decide (a.2.2.2.2.1=0))) then some (-1) else some b))
def ZB:Option bs:=
 some ([([97]:H),([98,49]:H),([32]:H),([32]:H),([10]:H),([10]:H),([59]:H),([38]:H),([124]:H),([38,38]:H),([124,124]:H),([59,59]:H),([40]:H),([41]:H),([105,102,32]:H),([116,104,101,110,32]:H),([101,108,115,101,32]:H),([101,108,105,102,32]:H),([102,105]:H),([100,111,32]:H),([100,111,110,101]:H),([119,104,105,108,101,32]:H),([117,110,116,105,108,32]:H),([102,111,114,32]:H),([120,32]:H),([105,110,32]:H),([99,97,115,101,32]:H),([101,115,97,99]:H),([123,32]:H),([125]:H),([33,32]:H),([60]:H),([62]:H),([60,60,69]:H),([60,60,45,69]:H),([69,10]:H),([9,69,10]:H),([50,62]:H),([62,38,49]:H),([39]:H),([39,113,39]:H),([34]:H),([34,113,34]:H),([92]:H),([92,10]:H),([36]:H),([36,40]:H),([36,40,40]:H),([49,43,40,50,41]:H),([41,41]:H),([36,123]:H),([125]:H),([96]:H),([96,99,96]:H),([35,114]:H),([9]:H),([102,40,41,32]:H),([195,169]:H)]:bs)
set_option maxRecDepth 9999 in
theorem alL{r:bs}(h:ZB=some r):
  FC Tryz.prog 28 [] [] (λ_:bK×Nat=>True) (λq=> .slice q.1 r.length q.2) (λq=>[h7 q.1 r q.2]):=
 V.fT (T:=cl) Tryz.call28 Tryz.func28 A λ_=>V.go J 6 0 A (V.ck (aI.kL A (cO.buildSlice J A A A A A A A A A A A [] A .str [([97]:H),([98,49]:H),([32]:H),([32]:H),([10]:H),([10]:H),([59]:H),([38]:H),([124]:H),([38,38]:H),([124,124]:H),([59,59]:H),([40]:H),([41]:H),([105,102,32]:H),([116,104,101,110,32]:H),([101,108,115,101,32]:H),([101,108,105,102,32]:H),([102,105]:H),([100,111,32]:H),([100,111,110,101]:H),([119,104,105,108,101,32]:H),([117,110,116,105,108,32]:H),([102,111,114,32]:H),([120,32]:H),([105,110,32]:H),([99,97,115,101,32]:H),([101,115,97,99]:H),([123,32]:H),([125]:H),([33,32]:H),([60]:H),([62]:H),([60,60,69]:H),([60,60,45,69]:H),([69,10]:H),([9,69,10]:H),([50,62]:H),([62,38,49]:H),([39]:H),([39,113,39]:H),([34]:H),([34,113,34]:H),([92]:H),([92,10]:H),([36]:H),([36,40]:H),([36,40,40]:H),([49,43,40,50,41]:H),([41,41]:H),([36,123]:H),([125]:H),([96]:H),([96,99,96]:H),([35,114]:H),([9]:H),([102,40,41,32]:H),([195,169]:H)] ⟨A,A⟩ A A λa=>aI.kM (V.ct (bo h▸V.rt J 2 0 (a,([([97]:H),([98,49]:H),([32]:H),([32]:H),([10]:H),([10]:H),([59]:H),([38]:H),([124]:H),([38,38]:H),([124,124]:H),([59,59]:H),([40]:H),([41]:H),([105,102,32]:H),([116,104,101,110,32]:H),([101,108,115,101,32]:H),([101,108,105,102,32]:H),([102,105]:H),([100,111,32]:H),([100,111,110,101]:H),([119,104,105,108,101,32]:H),([117,110,116,105,108,32]:H),([102,111,114,32]:H),([120,32]:H),([105,110,32]:H),([99,97,115,101,32]:H),([101,115,97,99]:H),([123,32]:H),([125]:H),([33,32]:H),([60]:H),([62]:H),([60,60,69]:H),([60,60,45,69]:H),([69,10]:H),([9,69,10]:H),([50,62]:H),([62,38,49]:H),([39]:H),([39,113,39]:H),([34]:H),([34,113,34]:H),([92]:H),([92,10]:H),([36]:H),([36,40]:H),([36,40,40]:H),([49,43,40,50,41]:H),([41,41]:H),([36,123]:H),([125]:H),([96]:H),([96,99,96]:H),([35,114]:H),([9]:H),([102,40,41,32]:H),([195,169]:H)]:bs).length) [0] A)))))
def Ng(I:H×Int×Int)(a:bs)(g:(H×Int×Int)->Option (H×H×Int×Int))(h:(H×Int×Int×Int)->Option (H×H×Int×Int)):(H×Int×Int×Int)->Option (H×H×Int×Int):=λ(c,d,e,f)=>
 (bif(decide (0<d)) then(ay (iP (I.1,e,f) (a.length:Int)) λ(b,i)=>(a4 (0<=b/\b<(a.length:Int))<|(a4 (((c.length+(at' a b).length:Nat):Int)<=9223372036854775807)<|h ((c++(at' a b)),(W (d-1)),i.2)))) else g (c,e,f))
def zu(I:H×Int×Int)(b:Int):Option (H×H×Int×Int):=
 (ay (ZB) λ(c:bs)=>(ay (iP I (W (b+1))) λ(d,a)=>(a6 (λ((e,f,g):H×Int×Int)=>some (e,(I.1,f,g))) λh=>(fixF (Ng I c h) bB ([],d,a.2.1,a.2.2)))))
theorem Te{I:H×Int×Int}{e:Int}{a:bK}{b:Nat}{r:H×H×Int×Int}(h:zu I e=some r):
  g4 Tryz.prog 22 [.pointer a3,c3 e] [lY a I.1 b] [jz a3 I a b] (λ_:Unit=>True) (λ_=>zs r.1) (λ_=>[jz a3 (I.1,r.2.2) a b]):=
 V.jy (T:=cl) Tryz.call22 Tryz.func22 A λ_ _=>V.cA J 10 0 h alL [] A λc ⟨f,g⟩ h=>V.bH J 8 0 h rQ [1] [0] A λ⟨m,n⟩ _ h=>V.du J 2 0 h (ρ:=Unit) (λs q=>[(5,cg s.1)]) .nil (λs q=>[jz a3 (I.1,s.2) a b]) A (λo _ h=>V.fy J 0 0 h (ρ:=Unit) (λs q=>[(0,bJ a3),(5,cg s.1),(6,.v (.slice f c.length g)),(7,bE s.2.1)]) .nil (λs q=>[jz a3 (I.1,s.2.2) a b,h7 f c g]) () [0,1] A λk ⟨p,t,u,v⟩ _ h=>V.co J 6 0 h A (λh=>V.bH J 9 0 h rQ [0] [0] A λ⟨i,w⟩ _ h=>V.ck (aI.jl 2 A λd=>V.ct (b7 h λj h=>V.go J 1 0 ⟨d.ix j,A⟩ (V.ck (aI.load J A A A A A A A 2 A A (Int.toNat i) 0 (at' c i) ⟨mU j,A⟩ A A (V.ct (b7 h λl h=>V.el J 9 0 h () [0,1] ⟨l,A⟩))))))) (λh=>V.a5 J 1 0 h () [0] A)) λ⟨x,y,z⟩ _ h=>bo h▸V.rx J 5 0 () [0] A
def Jf(I:H×Int×Int):Option (H×H×Int×Int):=
 (ay (iP I 12) λ(c,l)=>(bif(decide (c=0)) then(ay (zu (I.1,l.2) 12) λ(B,C)=>some (B,(I.1,C.2))) else(ay (s_.h8 (I.1,l.2) 3 ([])) λ(f,m)=>(a6 (λ((g,n,o):H×Int×Int)=>(a6 (λ(e:H)=>(a6 (λ((a,p,q):H×Int×Int)=>(a6 (λ((h,r,s):H×Int×Int)=>(a6 (λ((i,D,E):H×Int×Int)=>(a6 (λ((F,G,J):H×Int×Int)=>some (F,(I.1,G,J))) λt=>(ay (iP (I.1,D,E) 12) λ(K,u)=>(bif(decide (K=0)) then(a4 (((i.length+([92,10]:H).length:Nat):Int)<=9223372036854775807)<|t ((i++([92,10]:H)),u.2)) else t (i,u.2))))) λv=>(bif(decide (c=10)) then(ay (zu (I.1,r,s) 2) λ(w,L)=>(a4 (((h.length+w.length:Nat):Int)<=9223372036854775807)<|v ((h++w),L.2))) else v (h,r,s)))) λx=>(bif(decide (c=9)) then(ay (iP (I.1,p,q) (W ((a.length:Int)+1))) λ(b,M)=>(a4 (0<=(0:Int)/\(0:Int)<=b/\b<=(a.length:Int))<|(ay (zu (I.1,M.2) 1) λ(j,N)=>(a4 ((((b3 a 0 b).length+j.length:Nat):Int)<=9223372036854775807)<|(a4 (0<=b/\b<=(a.length:Int)/\(a.length:Int)<=(a.length:Int))<|(a4 (((((b3 a 0 b)++j).length+(b3 a b (a.length:Int)).length:Nat):Int)<=9223372036854775807)<|x ((((b3 a 0 b)++j)++(b3 a b (a.length:Int))),N.2))))))) else x (a,p,q)))) λy=>(bif(bif(bif(decide (3<c)) then(decide (c<9)) else false) then(decide (0<(e.length:Int))) else false) then(ay (iP (I.1,n,o) (W ((e.length:Int)+1))) λ(k,O)=>(a4 (0<=(0:Int)/\(0:Int)<=k/\k<=(e.length:Int))<|y ((b3 e 0 k),O.2))) else y (e,n,o)))) λz=>(bif(decide (c=3)) then(a4 (((([99,97,116,32,60,60,45,39,69,32,70,39,32,60,60,92,71,10,120,10,9,69,32,70,10,121,10,71,10]:H).length+g.length:Nat):Int)<=9223372036854775807)<|z (([99,97,116,32,60,60,45,39,69,32,70,39,32,60,60,92,71,10,120,10,9,69,32,70,10,121,10,71,10]:H)++g)) else z g))) λA=>(bif(decide (c<3)) then(ay (iP (I.1,m.2) 4) λ(d,P)=>(a4 (0<=d/\d<(([[],([32,38,38,32]:H),([32,124,32]:H),([59,32]:H)]:bs).length:Int))<|(a4 (((([99,97,116,32,60,60,69]:H).length+(at' ([[],([32,38,38,32]:H),([32,124,32]:H),([59,32]:H)]:bs) d).length:Nat):Int)<=9223372036854775807)<|(a4 ((((([99,97,116,32,60,60,69]:H)++(at' ([[],([32,38,38,32]:H),([32,124,32]:H),([59,32]:H)]:bs) d)).length+f.length:Nat):Int)<=9223372036854775807)<|(a4 (((((([99,97,116,32,60,60,69]:H)++(at' ([[],([32,38,38,32]:H),([32,124,32]:H),([59,32]:H)]:bs) d))++f).length+([10,120,10,69,10]:H).length:Nat):Int)<=9223372036854775807)<|A ((((([99,97,116,32,60,60,69]:H)++(at' ([[],([32,38,38,32]:H),([32,124,32]:H),([59,32]:H)]:bs) d))++f)++([10,120,10,69,10]:H)),P.2)))))) else A (f,m.2))))))
theorem alN{I:H×Int×Int}{a:Nat}{r:H×H×Int×Int}(h:Jf I=some r):
  g4 Tryz.prog 21 [.pointer av] [lY a3 I.1 a] [jz av I a3 a] (λ_:Unit=>True) (λ_=>zs r.1) (λ_=>[jz av (I.1,r.2.2) a3 a]):=
 by
  refine V.jy (T:=cl) Tryz.call21 Tryz.func21 A λ_ _=>?_;unfold Jf at h;refine V.bH J 7 0 h rQ [0] [0] A ?_;rintro⟨c,C⟩ _ h;refine V.co J 8 0 h A (λh=>?_) (λh=>?_)
  ·refine V.bH J 3 0 h Te [0] [0] A ?_;rintro⟨D,E⟩ _ h;cases h;exact V.rx J 2 0 () [0] A
  refine V.bH J 4 0 h M9.h8 [0] [0] A ?_;rintro⟨F,G⟩ _ h;refine V.e7 J 2 0 h (ρ:=Unit) (λs q=>[(0,bJ av),(3,bE c),(4,cg s.1)]) .nil (λs q=>[jz av (I.1,s.2) a3 a]) A ?_ ?_
  ·intro K _ h;refine V.co J 5 0 h A (λh=>?_) (λh=>?_)
   ·refine V.go J 1 0 A ?_;refine V.ck (aI.kL A (cO.buildSlice J A A A A A A A A A A A [] A .str [[],([32,38,38,32]:H),([32,124,32]:H),([59,32]:H)] ⟨A,A⟩ A A λL=>aI.kM (V.ct ?_)));refine V.bH J 1 0 h rQ [1] [0] A ?_;rintro⟨l,M⟩ _ h;refine V.ck (aI.jl 2 A λe=>V.ct ?_);obtain⟨m,h⟩:=h6 h;refine V.go J 1 0 ⟨e.ix m,A⟩ ?_;refine V.ck (aI.load J A A A A A A A 2 A A (Int.toNat l) 0 (at' ([[],([32,38,38,32]:H),([32,124,32]:H),([59,32]:H)]:bs) l) ⟨mU m,A⟩ A A (V.ct ?_));obtain⟨n,h⟩:=h6 h;obtain⟨o,h⟩:=h6 h;obtain⟨p,h⟩:=h6 h
    try dsimp only at h
    exact V.a5 J 6 0 h () [0] ⟨n,o,p,A⟩
   exact V.a5 J 1 0 h () [0] A
  rintro⟨N,t,u⟩ _ h;refine V.e7 J 0 0 h (ρ:=Unit) (λs q=>[(0,bJ av),(3,bE c),(4,cg s)]) .nil (λs q=>[jz av (I.1,t,u) a3 a]) A ?_ ?_
  ·intro O _ h;refine V.co J 5 0 h A (λh=>?_) (λh=>?_)
   ·obtain⟨v,h⟩:=h6 h;exact V.a5 J 5 0 h () [0] ⟨v,A⟩
   exact V.a5 J 1 0 h () [0] A
  rintro P _ h;refine V.e7 J 0 0 h (ρ:=Unit) (λs q=>[(0,bJ av),(3,bE c),(4,cg s.1)]) .nil (λs q=>[jz av (I.1,s.2) a3 a]) A ?_ ?_
  ·intro Q _ h;refine V.co J 14 0 h A (λh=>?_) (λh=>?_)
   ·refine V.bH J 6 0 h rQ [0] [0] A ?_;rintro⟨R,S⟩ _ h;obtain⟨w,h⟩:=h6 h
    try dsimp only at h
    exact V.a5 J 3 0 h () [0] ⟨w,A⟩
   exact V.a5 J 1 0 h () [0] A
  rintro⟨b,U,W⟩ _ h;refine V.e7 J 0 0 h (ρ:=Unit) (λs q=>[(0,bJ av),(3,bE c),(4,cg s.1)]) .nil (λs q=>[jz av (I.1,s.2) a3 a]) A ?_ ?_
  ·intro X _ h;refine V.co J 5 0 h A (λh=>?_) (λh=>?_)
   ·refine V.bH J 6 0 h rQ [0] [0] A ?_;rintro⟨d,Y⟩ _ h;obtain⟨x,h⟩:=h6 h;refine V.go J 2 0 A ?_;obtain⟨⟨y,Z⟩,f,h⟩:=ov h;obtain⟨z,h⟩:=h6 h;obtain⟨g,h⟩:=h6 h;obtain⟨i,h⟩:=h6 h;refine V.j5 (aX.sf A .nil [] [] trivial A (λB=>?_));refine bD.eN J gE true 4 [0,1,2,3,6,7,8] A (by kernel_rfl) [] [(56,cg (b3 b 0 d)),(57,bJ av),(62,cg (b3 b d (b.length:Int)))] trivial [] A A ⟨x,g,(fY A)⟩ (bD.one 4 (by kernel_rfl) (cO.p_ A A A A (Te f) A [0] A [0] A A λ_ _=>bD.next trivial [] A (bD.eN J gE true 0 [5,9,10] A (by kernel_rfl) [] [(4,cg (((b3 b 0 d)++y)++(b3 b d (b.length:Int))))] trivial [] A A ⟨z,i,⟨A,trivial⟩⟩ (bD.done (by kernel_rfl) (aX.boxes (B':= .nil) trivial (V.iN ?_))))))
    try dsimp only at h
    exact V.a5 J 0 0 h () [0] A
   exact V.a5 J 1 0 h () [0] A
  rintro⟨tX,n7,nM⟩ _ h;refine V.e7 J 0 0 h (ρ:=Unit) (λs q=>[(0,bJ av),(4,cg s.1)]) .nil (λs q=>[jz av (I.1,s.2) a3 a]) A ?_ ?_
  ·intro Tf _ h;refine V.co J 5 0 h A (λh=>?_) (λh=>?_)
   ·refine V.bH J 3 0 h Te [0] [0] A ?_;rintro⟨iv,jY⟩ _ h;obtain⟨j,h⟩:=h6 h
    try dsimp only at h
    exact V.a5 J 3 0 h () [0] ⟨j,A⟩
   exact V.a5 J 1 0 h () [0] A
  rintro⟨lu,k8,k9⟩ _ h;refine V.e7 J 0 0 h (ρ:=Unit) (λs q=>[(4,cg s.1)]) .nil (λs q=>[jz av (I.1,s.2) a3 a]) A ?_ ?_
  ·intro wG _ h;refine V.bH J 3 0 h rQ [0] [0] A ?_;rintro⟨iH,mY⟩ _ h;refine V.co J 2 0 h A (λh=>?_) (λh=>?_)
   ·obtain⟨k,h⟩:=h6 h;exact V.a5 J 5 0 h () [0] ⟨k,A⟩
   exact V.a5 J 1 0 h () [0] A
  rintro⟨s5,my,lO⟩ _ h;cases h;exact V.rx J 5 0 () [0] A
def Jg(I:H):Option H:=
 (ay (M_ I) λ(a:H×Int×Int)=>(ay (Jf (I,a.2)) λ(b,c)=>some b))
theorem alU{a:Nat}(h:Jg I=some r):
  FC Tryz.prog 9 [.slice av I.length a] [lY av I a] (λ_:Unit=>True) (λ_=>zs r) (λ_=>[]):=
 V.fT (T:=cl) Tryz.call9 Tryz.func9 A λ_=>V.cA J 7 0 h aly [0] A λc b h=>V.ck (aI.ptr 6 b A (V.ct (V.bH J 5 0 h alN [0] [0] A λ⟨d,e⟩ _ h=>bo h▸V.rt J 7 0 () [] A)))
def Jh(I:H):Option (Int×Int):=
 (ay (xM I) λ(a,b,c)=>some a)
theorem ZD{r:Int×Int}(h:Jh I=some r):
  FC Tryz.prog 11 [zs I] [] (λ_:Unit=>True) (λ_=> .tuple #[c3 r.1,c3 r.2]) (λ_=>[]):=
 V.fT (T:=cl) Tryz.call11 Tryz.func11 A λ_=>V.cA J 8 0 h Tc [] A λ⟨a,b,c⟩⟨d,e⟩ h=>V.ck (aI.o0 J 8 [] [8] [(4,.fc 8 0)] (.new 8 39 [c3 a.1,c3 a.2] .nil) A ⟨⟨A,trivial⟩,(jL A A)⟩ (V.ct (V.jV J 2 0 A (by kernel_rfl) (bo h▸V.rt J 7 0 () [] A))))
def Nh(I:H):Option (Int×Int):=
 (ay (zt I) λ(a,b)=>some (a.2.2.2.2.1,a.2.2.2.2.2.1))
theorem alV{r:Int×Int}(h:Nh I=some r):
  FC Tryz.prog 12 [zs I] [] (λ_:Unit=>True) (λ_=> .tuple #[c3 r.1,c3 r.2]) (λ_=>[]):=
 V.fT (T:=cl) Tryz.call12 Tryz.func12 A λ_=>V.cA J 8 0 h ZA [] A λ⟨b,c⟩⟨a,d,e,f,g⟩ h=>V.go J 2 0 A (V.ck (aI.ptr 9 a A (V.ct (V.jV J 5 0 A (by kernel_rfl) (bo h▸V.rt J 11 0 () [] ⟨A,A,A,A,A,A,A⟩)))))
def Ni(I:H):Option bs:=
 (ay (xM I) λ(b,a,c)=>(bif(!(decide (b.1=1))) then some ([]) else(a4 (([]:bs).length+a.length<=536870912)<|some (([]:bs)++a))))
theorem alW{r:bs}(h:Ni I=some r):
  FC Tryz.prog 15 [zs I] [] (λ_:bK×Nat=>True) (λq=> .slice q.1 r.length q.2) (λq=>[h7 q.1 r q.2]):=
 V.fT (T:=cl) Tryz.call15 Tryz.func15 A λ_=>V.cA J 7 0 h Tc [] A λ⟨a,b,i⟩⟨c,d⟩ h=>V.ck (aI.o0 J 8 [] [8] [(3,.fc 8 0),(4,.v (.slice c b.length d))] (.new 8 39 [c3 a.1,c3 a.2] .nil) A ⟨(fY A),(jL A A)⟩ (V.ct (V.co J 8 0 h A (λh=>bo h▸V.go J 4 0 A (V.j5 (aX.px .str bA.nil A A (V.iN (V.rt J 0 0 (none,0) [0] A))))) (λh=>b7 h λe h=>V.go J 4 0 A (V.ck (aI.px .str bA.nil A A (V.ct (V.ck (aI.qP J A A A A ⟨A,A,A,A,trivial,A,A,A,A⟩ A A A [0] A 1 A e A λf g=>V.ct (bo h▸V.rt J 2 0 (f,g) [0] A))))))))))
def Nj(I:H):Option H:=
 (ay (zt I) λ(a,b)=>(bif(!(decide (a.2.2.2.2.1=1))) then some ([]) else some a.2.2.2.2.2.2.1))
theorem alX(h:Nj I=some r):
  FC Tryz.prog 16 [zs I] [] (λ_:Unit=>True) (λ_=>zs r) (λ_=>[]):=
 V.fT (T:=cl) Tryz.call16 Tryz.func16 A λ_=>V.cA J 7 0 h ZA [] A λ⟨b,c⟩⟨a,d,e,f,g⟩ h=>V.go J 2 0 A (V.ck (aI.ptr 8 a A (V.ct (V.co J 13 0 h ⟨A,A,A,A⟩ (λh=>bo h▸V.rt J 4 0 () [] A) (λh=>bo h▸V.rt J 9 0 () [] ⟨A,A,A,A⟩)))))
def M_l_FnMore(I:H):Option Bool:=
 (bif(decide (1048576<(I.length:Int))) then some true else(ay (Jg I) λ(a:H)=>(ay (Jh a) λ(b,c)=>(ay (Nh a) λ(d,l)=>(c1 ((bif(!(decide (b=d))) then true else(decide (c<0)))=false) (Dg a) [] λ(i:H)=>(bif(bif(bif(!(decide (b=d))) then true else(decide (c<0))) then true else(decide ((i.length:Int)<c))) then some false else(bif(!(decide (b=1))) then(ay (Ni a) λ(e:bs)=>(c1 ((decide ((e.length:Int)=0))=true) (Dg a) [] λ(j:H)=>some (bif(decide ((e.length:Int)=0)) then(decide (0<(j.length:Int))) else false))) else(ay (Dg a) λ(f:H)=>(ay (Nj a) λ(g:H)=>(a4 (((f.length+g.length:Nat):Int)<=9223372036854775807)<|(ay (Jh (f++g)) λ(h,m)=>(c1 ((decide (h=0))=true) (Nf a) (0:Int) λ(k:Int)=>some (bif(decide (h=0)) then(decide (k=(-1))) else false)))))))))))))
theorem ok_l_FnMore{a:Nat}{r:Bool}(h:M_l_FnMore I=some r):
  FC Tryz.prog 4 [.slice av I.length a] [lY av I a] (λ_:Unit=>True) (λ_=> .bool r) (λ_=>[]):=
 V.fT (T:=cl) Tryz.call4 Tryz.func4 A λ_=>V.co J 11 0 h A (λh=>bo h▸V.rt J 4 0 () [] A) (λh=>V.cA J 4 0 h alU [0] A λc _ h=>V.cA J 5 0 h ZD [] A λ⟨d,e⟩ _ h=>V.cA J 9 0 h alV [] A λ⟨f,g⟩ _ h=>V.ig J 19 0 h Nb [] A (λ_=>id) λi h=>V.co J 4 0 h A (λh=>bo h▸V.rt J 4 0 () [] A) (λh=>V.co J 7 0 h A (λh=>V.cA J 3 0 h alW [] A λj ⟨k,l⟩ h=>V.ig J 4 0 h Nb [] A (λ_=>id) λm h=>bo h▸V.rt J 5 0 () [] A) (λh=>V.cA J 4 0 h Nb [] A λn _ h=>V.cA J 1 0 h alX [] A λo _ h=>b7 h λb h=>V.cA J 1 0 h ZD [] ⟨b,A⟩ λ⟨p,q⟩ _ h=>V.ig J 12 0 h alH [] A (λ_=>id) λs h=>bo h▸V.rt J 4 0 () [] A)))
end
end Go.Eng
namespace Go.Eng
variable{F ds:ag}{an r r' r0 t u v' x:H}{b:UInt8}{α σ:Type}{fr no:Bool}{m n:Nat}
inductive dn(α:Type) where
 |ok (a:α) (r:H) (F:ag)
 |more (op:bs) (nd:H) (F:ag)
 |bad (r:H)
 |deep (r:H)
abbrev ab(α:Type):=H->ag->dn α
variable{D cX:ab Unit}{dq:Option (ab Unit)}{f:σ->ab (σ⊕α)}
def aU{α:Type}(a:α):ab α:=λr F=> .ok a r F
def N{α β:Type}(m:ab α)(k:α->ab β):ab β:=λr F=>match m r F with
 | .ok a r F=>k a r F
 | .more op nd ds=> .more op nd ds
 | .bad r=> .bad r
 | .deep r=> .deep r
def fl:ag->H
 |[]=>[]
 |d::ds=>d.1++10::fl ds
def b8(nd:H)(ds:ag):H->H×ag
 |[]=>(nd,ds)
 |b::x=>if b=10 then b8 (nd++10::fl ds) [] x else b8 (nd++[b]) ds x
def ab.aG{α:Type}(m:ab α)(x:H):ab α:=λr F=>match m r F with
 | .more op nd ds=> .more op (b8 nd ds x).1 (b8 nd ds x).2
 |y=>y
def ab.named{α:Type}(m:ab α)(n:H):ab α:=λr F=>match m r F with
 | .more op nd ds=> .more (n::op) nd ds
 |y=>y
def b5{α:Type}(x:H):ab α:=λ_ F=> .more [] (b8 [] F x).1 (b8 [] F x).2
def b6{α:Type}:ab α:=λr _=> .bad r
def Dk{α:Type}:ab α:=λr _=> .deep r
def cD{σ α:Type}(f:σ->ab (σ⊕α))(s:σ):ab α:=λr F=>match f s r F with
 | .ok (.inl s') r' b=>if r'.length<r.length then cD f s' r' b else .bad r'
 | .ok (.inr a) r' b=> .ok a r' b
 | .more op nd ds=> .more op nd ds
 | .bad r=> .bad r
 | .deep r=> .deep r
termination_by r=>r.length
def fV(b:UInt8):Bool:=b==32||b==9
def mi:H->H
 |[]=>[]
 |b::t=>if b=10 then b::t else mi t
theorem zv:∀(r:H),(mi r).length<=r.length
 |[]=>cS _
 |b::t=>by
  unfold mi;split
  ·omega
  ·exact k1 (zv t) (Nat.le_succ _)
def bg:H->Option H
 |[]=>some []
 |b::t=>if fV b then bg t else if b=35 then bg (mi t) else
  if b=92 then match t with
   |10::u=>if u=[] then none else bg u
   |_=>some (b::t)
  else some (b::t)
termination_by r=>r.length
decreasing_by
 all_goals simp_wf
 ·grind[zv]
 ·omega
def l2:bs:=[[60,60,45],[38,38],[124,124],[59,59],[60,60],[60,38],[60,62],[62,62],[62,38],[62,124],[38],[124],[59],[60],[62],[40],[41]]
def bt(r:H):H:=(l2.find? (λo=>o.isPrefixOf r)).getD []
def cV:H->Bool
 |[]=>true
 |b::t=>fV b||b==10||bt (b::t)!=[]
def fD:H->Bool
 |36::40::_=>true
 |36::123::_=>true
 |_=>false
def di:H->H×Bool
 |[]=>([],true)
 |b::t=>if cV (b::t) then([],true) else
  if b=92\/b=39\/b=34\/b=96\/fD (b::t) then([],false) else
  match di t with
  |(w,true)=>(b::w,true)
  |(_,false)=>([],false)
inductive Tok where
 |eof
 |line
 |op (o:H)
 |word (t:H) (plain:Bool)
deriving DecidableEq
def ar:H->Tok
 |[]=> .eof
 |b::t=>if b=10 then .line else if bt (b::t)≠[] then .op (bt (b::t)) else .word (di (b::t)).1 (di (b::t)).2
def bN(x:H):ab Tok:=λr F=>match bg r with
 |none=>b5 x r F
 |some r'=> .ok (ar r') r' F
def bV(n:Nat):ab Unit:=λr F=> .ok () (r.drop n) F
def gw:H->Option H
 |[]=>none
 |b::t=>if b=39 then some t else gw t
def gx:H->Option H
 |[]=>none
 |b::t=>if b=96 then some t else if b=92 then(match t with|[]=>none|_::u=>gx u) else gx t
inductive ZE where
 |ok (r:H)
 |more (n:Nat)
 |bad (r:H)
def ij:Nat->H->ZE
 |d,[]=> .more (d+2)
 |d,b::t=>if b=39\/b=34\/b=92\/b=96\/fD (b::t) then .bad (b::t) else
  if b=40 then ij (d+1) t else
  if b=41 then match d with
   |ft+1=>ij ft t
   |0=>match t with
    |[]=> .more 1
    |c::u=>if c=41 then .ok u else .bad (b::t)
  else ij d t
def hK:H->H×H
 |[]=>([],[])
 |b::t=>if b=10 then([],t) else((b::(hK t).1),(hK t).2)
theorem Ji:∀(r:H),r≠[]->(hK r).2.length<r.length
 |[],h=>absurd rfl h
 |b::t,_=>by
  unfold hK;split
  ·simp
  ·rcases t with _|⟨c,u⟩
   ·exact tE _
   ·exact Nat.lt_trans (Ji (c::u) (by simp)) (tE _)
def kf(d:H)(tabs:Bool):H->Option H
 |[]=>none
 |b::t=>if(if tabs then(hK (b::t)).1.dropWhile (· ==9) else(hK (b::t)).1)=d then some (hK (b::t)).2 else kf d tabs (hK (b::t)).2
termination_by r=>r.length
decreasing_by grind[Ji]
def kg:ag->H->H⊕H
 |[],r=> .inl r
 |d::ds,r=>match kf d.1 d.2 r with
  |some r'=>kg ds r'
  |none=> .inr (fl (d::ds))
def kh:ab Unit:=λr F=>match r with
 |[]=> .ok () [] F
 |_::t=>match kg F t with
  | .inl r'=> .ok () r' []
  | .inr nd=> .more [[60,60]] nd []
def cQ:ab Bool:=cD (λsome=>N (bN []) λt=>if t= .line then N kh λ_=>aU (.inl true) else aU (.inr some)) false
def ki(f:H->Option H)(n:H):ab Unit:=λr F=>match f r with
 |some r'=> .ok () r' F
 |none=> .more [n] n F
def cC(D:ab Unit)(dq:Option (ab Unit)):ab Unit:=λr F=>match r with
 |[]=> .ok () [] F
 |b::t=>
  if b=92 then .ok () (t.drop 1) F
  else if b=96 then ki gx [96] t F
  else if fD (b::t) then D (b::t) F
  else match dq with
   |none=> .ok () t F
   |some q=>if b=39 then ki gw [39] t F else if b=34 then q t F else .ok () t F
def iQ(c:UInt8)(part:ab Unit):ab Unit:=cD (λ_ r F=>match r with
 |[]=>b5 [] r F
 |b::t=>if b=c then .ok (.inr ()) t F else(N part λ_=>aU (.inl ())) r F) ()
def eP(D:ab Unit):ab Unit:=((iQ 34 (cC D none)).aG [34]).named [34]
def qp(D:ab Unit):ab Unit:=(iQ 125 (cC D (some (eP D)))).aG [125]
def cR(D:ab Unit):ab Unit:=cD (λ_ r F=>match r with
 |[]=>b5 [] r F
 |_::_=>if cV r then .ok (.inr ()) r F else(N (cC D (some (eP D))) λ_=>aU (.inl ())) r F) ()
def jP(D:ab Unit)(x:H):ab Unit:=N (bN x) λt=>match t with
 | .eof=>b5 x
 | .word _ _=>cR D
 |_=>b6
def zw(b:UInt8):Bool:=(97<=b&&b<=122)||(65<=b&&b<=90)||b==95
def cd(b:UInt8):Bool:=48<=b&&b<=57
def l3:H->Bool
 |[]=>false
 |b::t=>zw b&&t.all λc=>zw c||cd c
def j7:H:=[105,102]
def hQ:H:=[116,104,101,110]
def h_:H:=[101,108,105,102]
def gy:H:=[101,108,115,101]
def ea:H:=[102,105]
def gd:H:=[100,111]
def hc:H:=[100,111,110,101]
def ug:H:=[119,104,105,108,101]
def FT:H:=[117,110,116,105,108]
def mB:H:=[102,111,114]
def oI:H:=[99,97,115,101]
def dt:H:=[101,115,97,99]
def eb:H:=[105,110]
def q3(w:H):Bool:=[j7,hQ,h_,gy,ea,gd,hc,ug,FT,mB,oI,dt,[123],[125],[33]].contains w
def oJ(w:H):Bool:=[j7,ug,FT,mB,oI,[123]].contains w
def fm(o:H):Bool:=[[60,60,45],[60,60],[60,38],[60,62],[62,62],[62,38],[62,124],[60],[62]].contains o
theorem A_:∀(r q:H),gw r=some q->q.length<r.length
 |[],q,h=>by grind[gw]
 |b::t,q,h=>by
  unfold gw at h;split at h
  ·grind
  ·exact Nat.lt_trans (A_ t q h) (tE _)
inductive nk where
 |closed (o r:H)
 |part
 |open_ (o:H)
def nk.add(x:H):nk->nk
 | .closed o r=> .closed (x++o) r
 | .part=> .part
 | .open_ o=> .open_ (x++o)
def Dl(c:UInt8):H:=if c=36\/c=34\/c=92\/c=96 then [c] else if c=10 then [] else [92,c]
def g1:H->nk
 |[]=> .open_ []
 |b::t=>if b=34 then .closed [] t else if b=36\/b=96 then .part else
  if b=92 then match t with
   |[]=> .part
   |c::u=>(g1 u).add (Dl c)
  else(g1 t).add [b]
theorem nk.ZF{q:nk}{o:H}(h:q.add x= .closed o r):∃a,q= .closed a r:=by cases q<;>simp[nk.add] at h;simp_all
theorem FU:∀(r:H)(o q:H),g1 r= .closed o q->q.length<r.length
 |[],o,q,h=>by grind[g1]
 |b::t,o,q,h=>by
  unfold g1 at h;split at h
  ·grind
  ·split at h
   ·cases h
   ·split at h
    ·match t,h with
     |[],h=>cases h
     |c::u,h=>obtain⟨a,M⟩:=nk.ZF h;have:=FU u a q M;grind
    ·obtain⟨a,M⟩:=nk.ZF h;have:=FU t a q M;grind
def dP:H->Option (H×H×H)
 |[]=>some ([],[],[])
 |b::t=>if cV (b::t) then some ([],b::t,[]) else
  if b=92 then match t with
   |[]=>none
   |c::u=>(dP u).map λq=>((if c=10 then [] else [c])++q.1,q.2)
  else if b=39 then match h:gw t with
   |none=>none
   |some r=>(dP r).map λq=>(t.take (t.length-r.length-1)++q.1,q.2)
  else if b=36\/b=96 then none else
  if b=34 then match h:g1 t with
   | .part=>none
   | .open_ o=>some (o,[],[34])
   | .closed o r=>(dP r).map λq=>(o++q.1,q.2)
  else(dP t).map λq=>(b::q.1,q.2)
termination_by r=>r.length
decreasing_by
 all_goals simp_wf
 ·omega
 ·have:=A_ t r h;omega
 ·have:=FU t o r h;omega
def gm(tabs:Bool):ab Unit:=(λr F=>match bg r with
 |none=> .more [] [120] (F++[([120],tabs)])
 |some r'=>match ar r' with
  | .eof=> .more [] [120] (F++[([120],tabs)])
  | .word _ _=>match dP r' with
    |none=> .bad r'
    |some (d,q,a)=>if d.contains 10 then .bad r' else
     if tabs/\d.head?=some 9 then .bad r' else
     if a≠[] then .more [a] a (F++[(d,tabs)]) else
     if q=[] then .more [] [] (F++[(d,tabs)]) else .ok () q (F++[(d,tabs)])
  |_=> .bad r')
def fI:ab (Option H):=λr F=>match bg r with
 |none=>b5 [] r F
 |some r'=>let q:=r'.dropWhile cd
  if fm (bt q) then .ok (some (bt q)) (q.drop (bt q).length) F else .ok none r' F
def dM(D:ab Unit):ab Bool:=N fI λo=>match o with
 |none=>aU false
 |some o=>N (if o=[60,60] then gm false else if o=[60,60,45] then gm true else jP D [120]) λ_=>aU true
def gH(D:ab Unit):ab Unit:=cD (λ_=>N (dM D) λb=>aU (if b then .inl () else .inr ())) ()
inductive Ctx where
 |text|paren|pK|rT|pL|ko|pa|done|item
deriving DecidableEq
variable{c:Ctx}
def cm(t:Tok)(w:H):Bool:=t== .word w true
def dC(c:Ctx)(t:Tok):Bool:=match c with
 | .text=>t== .eof
 | .paren=>t== .op [41]
 | .pK=>cm t [125]
 | .rT=>cm t hQ
 | .pL=>cm t h_||cm t gy||cm t ea
 | .ko=>cm t ea
 | .pa=>cm t gd
 | .done=>cm t hc
 | .item=>t== .op [59,59]||cm t dt
def mL(b:Tok->Bool)(n:Nat):ab Unit:=N (bN []) λt=>if t= .eof then b5 [] else if b t then bV n else b6
def jr(o:H):ab Unit:=mL (· == .op o) o.length
def cI(w:H):ab Unit:=mL (cm · w) w.length
structure dD where
 ls:Ctx->Bool->ab Nat
 pm:ab Unit
 cp:Tok->ab Unit
 rd:ab Unit
 dl:ab Unit
 has:Bool
variable{lo:Option dD}
def oK:ab Unit:=λt F=>match ij 0 t with
 | .ok r'=> .ok () r' F
 | .more n=> .more [[36,40,40]] (List.replicate n 41) F
 | .bad r'=> .bad r'
def ta(lo:Option dD)(n:Nat)(f:dD->ab Unit):ab Unit:=match lo with
 |none=>Dk
 |some l=>N (bV n) λ_=>f l
def uh(l:dD):ab Unit:=N (((l.ls .paren true).aG [41]).named [36,40]) λ_=>jr [41]
def dj(lo:Option dD):ab Unit:=λr F=>
 if [36,40,40].isPrefixOf r then N (bV 3) (λ_=>oK) r F
 else if [36,40].isPrefixOf r then ta lo 2 uh r F
 else if [36,123].isPrefixOf r then ta lo 2 (λl=>l.pm.named [36,123]) r F
 else .ok () (r.drop 1) F
def fJ(t:Tok):Bool:=t== .op [40]||(match t with| .word w true=>oJ w|_=>false)
def gS(fr:Bool)(D:ab Unit):ab Unit:=cD (λ_=>N (dM D) λb=>if b then aU (.inl ()) else N (bN []) λt=>match t with
 | .word _ _=>N (cR D) λ_=>aU (.inl ())
 | .op o=>if fr/\o=[40] then b6 else aU (.inr ())
 |_=>aU (.inr ())) ()
def kU(fr:Bool)(lo:Option dD):ab Unit:=match lo with
 |none=>Dk
 |some l=>if l.has then
   (N (bV 1) λ_=>N (bN [41,32,123,32,120,10,125]) λt=>if t= .eof then b5 [41,32,123,32,120,10,125] else if t= .op [41] then
    N (bV 1) λ_=>N (cQ.aG [123,32,120,10,125]) λ_=>N (bN [123,32,120,10,125]) λt=>if t= .eof then b5 [123,32,120,10,125] else
     if fJ t then N (l.cp t) λ_=>if fr then l.rd else aU () else b6
    else b6).named [102,40,41]
  else Dk
def h3(l:dD)(x:H):ab Unit:=N ((cI gd).aG x) λ_=>N ((l.ls .done false).aG (10::hc)) λ_=>cI hc
def q4(l:dD):ab Unit:=cD (λ_=>N ((l.ls .rT false).aG ([10]++hQ++[32,120,10]++ea)) λ_=>N (cI hQ) λ_=>N ((l.ls .pL false).aG (10::ea)) λ_=>
    N (bN []) λt=>if cm t h_ then N (cI h_) λ_=>aU (.inl ()) else
     if cm t gy then N (cI gy) λ_=>N ((l.ls .ko false).aG (10::ea)) λ_=>N (cI ea) λ_=>aU (.inr ()) else N (cI ea) λ_=>aU (.inr ())) ()
def dY:H:=[10]++gd++[32,120,10]++hc
def tb:H:=120::dY
def oL(D:ab Unit):ab Unit:=cD (λ_=>N (bN []) λt=>match t with
 | .eof=>b5 []
 | .word _ _=>N (cR D) λ_=>aU (.inl ())
 | .line=>aU (.inr ())
 | .op o=>if o=[59] then N (bV 1) λ_=>aU (.inr ()) else b6) ()
def pM(l:dD)(D:ab Unit):ab Unit:=N (bN tb) λt=>match t with
 | .eof=>b5 tb
 | .word w true=>if l3 w then N (bV w.length) λ_=>
   N ((N (bN []) λt=>if t= .op [59] then N (bV 1) λ_=>N cQ λ_=>aU () else
    N cQ λ_=>N (bN []) λt=>if cm t eb then N (bV 2) λ_=>N (oL D) λ_=>N cQ λ_=>aU () else aU ()).aG dY) λ_=>h3 l dY
  else b6
 |_=>b6
def lb(D:ab Unit):ab Unit:=cD (λ_=>N (bN [120,41]) λt=>match t with
 | .eof=>b5 [120,41]
 | .word _ _=>N ((cR D).aG [41]) λ_=>N (bN [41]) λt=>match t with
   | .eof=>b5 [41]
   | .op o=>if o=[124] then N (bV 1) λ_=>aU (.inl ()) else if o=[41] then N (bV 1) λ_=>aU (.inr ()) else b6
   |_=>b6
 |_=>b6) ()
def nn(l:dD)(D:ab Unit):ab Unit:=cD (λ_=>N cQ λ_=>N (bN []) λt=>if t= .eof then b5 [] else if cm t dt then N (bV 4) λ_=>aU (.inr ()) else
 N ((if t= .op [40] then bV 1 else aU ())) λ_=>N (lb D) λ_=>N (l.ls .item true) λ_=>N (bN []) λt=>if t= .op [59,59] then N (bV 2) λ_=>aU (.inl ()) else aU (.inl ())) ()
def q5(l:dD)(D:ab Unit):ab Unit:=N (bN ([120,32]++eb++[10]++dt)) λt=>match t with
 | .eof=>b5 ([120,32]++eb++[10]++dt)
 | .word _ _=>N ((N (cR D) λ_=>N cQ λ_=>N (bN []) λt=>if t= .eof then b5 [] else aU t).aG ([32]++eb++[10]++dt)) λt=>
  if cm t eb then N (bV 2) λ_=>(nn l D).aG (10::dt) else b6
 |_=>b6
def hd(l:dD)(t:Tok):ab Unit:=match t with
 | .op _=>N (bV 1) λ_=>N ((l.ls .paren false).aG [41]) λ_=>jr [41]
 | .word w _=>N (bV w.length) λ_=>
  if w=[123] then N ((l.ls .pK false).aG [10,125]) λ_=>cI [125]
  else if w=j7 then q4 l
  else if w=mB then pM l l.dl
  else if w=oI then q5 l l.dl
  else N ((l.ls .pa false).aG dY) λ_=>h3 l dY
 |_=>b6
def mM:Tok->H
 | .word w _=>w
 |_=>[40]
def rU(lo:Option dD)(t:Tok):ab Unit:=match lo with
 |none=>Dk
 |some l=>(hd l t).named (mM t)
def fA(fr:Bool)(lo:Option dD)(D:ab Unit):ab Unit:=N (bN [120]) λt=>
 if t= .eof then b5 [120] else if fJ t then N (rU lo t) λ_=>gH D else match t with
  | .op o=>if fm o then N (dM D) λ_=>gS fr D else b6
  | .word w p=>if p&&q3 w then b6 else N (dM D) λb=>if b then gS fr D else N (cR D) λ_=>
   if p&&l3 w then N (bN []) λt=>if t= .op [40] then N (kU fr lo) λ_=>if fr then aU () else gH D else gS fr D else gS fr D
  |_=>b6
def fv(c2:ab Unit):ab Unit:=N (bN [120]) λt=>N (if cm t [33] then bV 1 else aU ()) λ_=>N c2 λ_=>
 cD (λ_=>N (bN []) λt=>if t= .op [124] then N (bV 1) λ_=>N (cQ.aG [120]) λ_=>N c2 λ_=>aU (.inl ()) else aU (.inr ())) ()
def hR(a:ab Unit):ab Unit:=N a λ_=>
 cD (λ_=>N (bN []) λt=>if t= .op [38,38]\/t= .op [124,124] then N (bV 2) λ_=>N (cQ.aG [120]) λ_=>N a λ_=>aU (.inl ()) else aU (.inr ())) ()
def np(cX:ab Unit)(c:Ctx)(none:Bool):ab Nat:=N (cQ.aG (if none then [] else [120])) λ_=>cD (λn=>N (bN (if none||n>0 then [] else [120])) λt=>
 if t= .eof then(if c= .text then aU (.inr n) else b5 (if none||n>0 then [] else [120])) else if(none||n>0)&&dC c t then aU (.inr n) else
 N cX λ_=>N (bN []) λt=>match t with
  | .eof=>aU (.inl (n+1))
  | .line=>N cQ λ_=>aU (.inl (n+1))
  | .word _ _=>b6
  | .op o=>if o=[59]\/o=[38] then N (bV 1) λ_=>N cQ λ_=>aU (.inl (n+1)) else if dC c t then aU (.inr (n+1)) else b6) 0
def aW(fr:Bool):Nat->dD
 |0=>let D:=dj none;{ls:=np (hR (fv (fA fr none D))),pm:=qp D,cp:=rU none,rd:=gH D,dl:=D,has:=false}
 |n+1=>let lo:=some (aW fr n);let D:=dj lo;{ls:=np (hR (fv (fA fr lo D))),pm:=qp D,cp:=rU lo,rd:=gH D,dl:=D,has:=true}
def iA(fr:Bool)(n:Nat)(r:H):dn Nat:=(aW fr n).ls .text true r []
def cx(u:H):Prop:=u=[]\/∃t,u=t++[10]
theorem cx.tail(h:cx (b::t)):cx t:=by
 rcases h with h|⟨s,h⟩
 ·cases h
 ·cases s with
  |nil=>simp at h;exact .inl h.2
  |cons c s=>simp at h;exact .inr ⟨s,h.2⟩
theorem cx.head(h:cx [b]):b=10:=by
 rcases h with h|⟨s,h⟩
 ·cases h
 ·cases s with
  |nil=>grind
  |cons c s=>simp at h
theorem cx.ne(h:cx (b::t))(a:b≠10):t≠[]:=by rintro rfl;exact a h.head
theorem cx.sfx(h:cx u)(Y:r<:+u):cx r:=by
 obtain⟨p,rfl⟩:=Y;induction p with
 |nil=>exact h
 |cons b p a=>exact a h.tail
structure ae{α:Type}(f:ab α):Prop where
 sfx:∀{r:H}{F:ag}{a:α}{r':H}{aE:ag},f r F= .ok a r' aE->r'<:+r
 ok:∀{u:H}{F:ag}{a:α}{r':H}{aE:ag}(v:H),cx u->f u F= .ok a r' aE->r'≠[]->f (u++v) F= .ok a (r'++v) aE
theorem ae.ret(a:α):ae (aU a) where
 sfx h:=by cases h;simp
 ok v _ h _:=by cases h;rfl
theorem ae.N{α β:Type}{m:ab α}{k:α->ab β}(hm:ae m)(az:∀a,ae (k a)):ae (N m k) where
 sfx {r F b r' c} h:=by
  unfold Eng.N at h;split at h
  ·rename_i a an d M;exact List.IsSuffix.trans ((az a).sfx h) (hm.sfx M)
  all_goals cases h
 ok {u F b r' c} v hu h Z:=by
  unfold Eng.N at h⊢;split at h
  ·rename_i a an d M;by_cases e:an=[]
   ·subst e;exact absurd (List.suffix_nil.1 ((az a).sfx h)) Z
   ·rw[hm.ok v hu M e];exact(az a).ok v (hu.sfx (hm.sfx M)) h Z
  all_goals cases h
theorem ae.ZG{m b:ab α}(hm:ae m)(h:∀r F,b r F=m r F\/∃op nd ds c d f,m r F= .more op nd ds/\b r F= .more c d f):ae b where
 sfx {r F a r' g} e:=by
  rcases h r F with M|⟨_,_,_,_,_,_,M,U⟩
  ·exact hm.sfx (M▸e)
  grind
 ok {u F a r' g} v hu e Z:=by
  rcases h u F with M|⟨_,_,_,_,_,_,M,U⟩
  ·have:=hm.ok v hu (M▸e) Z;grind
  grind
theorem ae.aG{α:Type}{m:ab α}(hm:ae m)(x:H):ae (m.aG x):=hm.ZG λr F=>by grind[ab.aG]
theorem ae.named{α:Type}{m:ab α}(hm:ae m)(x:H):ae (m.named x):=hm.ZG λr F=>by grind[ab.named]
theorem ae.b5(x:H):ae (b5 x:ab α) where
 sfx h:=by cases h
 ok v _ h _:=by cases h
theorem vw(f:σ->ab (σ⊕α))(s:σ)(r:H)(F:ag):cD f s r F=match f s r F with
 | .ok (.inl s') r' b=>if r'.length<r.length then cD f s' r' b else .bad r'
 | .ok (.inr a) r' b=> .ok a r' b
 | .more op nd ds=> .more op nd ds
 | .bad r=> .bad r
 | .deep r=> .deep r:=by
 grind[cD]
structure fP{σ α:Type}(f:σ->ab (σ⊕α)):Prop where
 ex:∀s,ae (f s)
 lt:∀{s:σ}{r:H}{F:ag}{s':σ}{r':H}{aE:ag},f s r F= .ok (.inl s') r' aE->r'.length<r.length
theorem ae.rep(h:fP f)(s:σ):ae (cD f s):=by
 have c:∀(n:Nat)(s:σ)(r:H)(F:ag)(a:α)(r':H)(d:ag),r.length<n->cD f s r F= .ok a r' d->r'<:+r/\∀v,cx r->r'≠[]->cD f s (r++v) F= .ok a (r'++v) d:=by
  intro n;induction n with
  |zero=>omega
  |succ n i=>
   intro s r F a r' d af e;rw[vw] at e;split at e
   ·rename_i s1 an j b;have aw:=h.lt b;rw[ba aw] at e;obtain⟨k,l⟩:=i s1 an j a r' d (by omega) e;have Y:=(h.ex s).sfx b;refine⟨k.trans Y,λv hu Z=>?_⟩;have g:=(h.ex s).ok v hu b (by grind);rw[vw,g];simp only[h.lt g];exact l v (hu.sfx Y) Z
   ·rename_i b;cases e;exact⟨(h.ex s).sfx b,λv hu Z=>by rw[vw,(h.ex s).ok v hu b Z]⟩
   all_goals cases e
 exact⟨λe=>(c _ s _ _ _ _ _ (tE _) e).1,λv hu e Z=>(c _ s _ _ _ _ _ (tE _) e).2 v hu Z⟩
theorem Th{o:H}:∀{r:H}(v:H),10∉o->cx r->r≠[]->o.isPrefixOf (r++v)=o.isPrefixOf r:=by
 induction o with
 |nil=>simp
 |cons c o a=>
  intro r v d Z af;cases r with
  |nil=>grind
  |cons b t=>
   simp only[jI,List.isPrefixOf];by_cases e:b=10
   ·grind
   ·rw[a v (λh=>d (Pz _ h)) Z.tail (Z.ne e)]
theorem Ti(v:H)(Z:cx r)(af:r≠[]):bt (r++v)=bt r:=by
 unfold bt
 have:∀(l:bs),(∀o∈l,10∉o)->l.find? (λo=>o.isPrefixOf (r++v))=l.find? (λo=>o.isPrefixOf r):=by
  intro l;induction l with
  |nil=>simp
  |cons o l a=>grind[Th,List.mem_cons_self,List.mem_cons_of_mem]
 simp_all[l2]
theorem FV(v:H)(Z:cx r)(af:r≠[]):cV (r++v)=cV r:=by
 cases r with
 |nil=>grind
 |cons b t=>grind[Ti,cV]
theorem Jj(v:H)(Z:cx r)(af:r≠[]):fD (r++v)=fD r:=by
 match r,Z,af with
 |[b],Z,_=>rw[Z.head];rfl
 |a::b::t,Z,_=>unfold fD;grind
theorem xN(t:H):cV (10::t)=true:=by rfl
theorem ZH:∀{r:H}(v:H),cx r->r≠[]->di (r++v)=di r
 |[],_,_,af=>absurd rfl af
 |b::t,v,Z,af=>by
  have M:=FV v Z af;have U:=Jj v Z af;simp only[jI] at M U;simp only[jI,di,M,U];by_cases a:b=10
  ·subst a;simp[xN]
  ·rw[ZH v Z.tail (Z.ne a)]
theorem Jk(v:H)(Z:cx r)(af:r≠[]):ar (r++v)=ar r:=by
 cases r with
 |nil=>grind
 |cons b t=>grind[Ti,ZH,ar]
theorem Dm:∀(r:H),mi r<:+r
 |[]=>yD _
 |b::t=>by
  unfold mi;split
  ·exact yD _
  ·exact(Dm t).trans (eL _ _)
theorem ZI:∀{r:H},cx r->r≠[]->mi r≠[]
 |[],_,af=>absurd rfl af
 |b::t,Z,_=>by
  unfold mi;split
  ·simp
  ·rename_i a;exact ZI Z.tail (Z.ne a)
theorem Tj:∀{r:H}(v:H),cx r->r≠[]->mi (r++v)=mi r++v
 |[],_,_,af=>absurd rfl af
 |b::t,v,Z,_=>by
  simp;rw[mi,mi];split
  ·rfl
  ·rename_i a;exact Tj v Z.tail (Z.ne a)
theorem m0(b:UInt8)(t:H):bg (b::t)=(if fV b then bg t else if b=35 then bg (mi t) else
  if b=92 then match t with
   |10::u=>if u=[] then none else bg u
   |_=>some (b::t)
  else some (b::t)):=by
 grind[bg.eq_def]
theorem mj:bg []=some []:=by rw[bg]
theorem ZJ:∀(n:Nat)(r:H)(v:H),r.length<=n->(∀r',bg r=some r'->r'<:+r/\(cx r->r≠[]->r'≠[]/\bg (r++v)=some (r'++v))):=by
 intro n;induction n with
 |zero=>simp_all[mj]
 |succ n a=>
  intro r v af r' h;cases r with
  |nil=>simp_all[mj]
  |cons b t=>
   simp only[nB] at af;rw[m0] at h;have d:bg (b::t++v)=_:=m0 b (t++v);split at h
   ·rename_i e;obtain⟨M,U⟩:=a t v (by omega) r' h;refine⟨M.trans (eL _ _),λZ _=>?_⟩;have g:b≠10:=by grind[fV]
    rw[d,ba e];exact U Z.tail (Z.ne g)
   ·rename_i e;split at h
    ·rename_i f;subst f;obtain⟨M,U⟩:=a _ v (by grind[zv]) r' h;refine⟨M.trans ((Dm t).trans (eL _ _)),λZ _=>?_⟩;rw[d,Tj v Z.tail (Z.ne (by decide))];exact U (Z.tail.sfx (Dm t)) (ZI Z.tail (Z.ne (by decide)))
    ·rename_i f;split at h
     ·rename_i i;subst i;split at h
      ·rename_i u;split at h
       ·cases h
       ·rename_i hu;obtain⟨M,U⟩:=a u v (by grind) r' h;refine⟨M.trans ((eL _ _).trans (eL _ _)),λZ _=>?_⟩;rw[d,aM e,aM f,ba rfl];simp only[jI];rw[aM (by simp[hu])];exact U Z.tail.tail hu
      ·cases h;refine⟨yD _,λZ j=>⟨j,?_⟩⟩;cases t with
       |nil=>exact absurd Z.head (by decide)
       |cons c u=>simp_all
     grind
theorem eV(h:bg r=some r'):r'<:+r:=(ZJ _ r [] (cS _) r' h).1
theorem ui(v:H)(h:bg r=some r')(Z:cx r)(af:r≠[]):r'≠[]/\bg (r++v)=some (r'++v):=(ZJ _ r v (cS _) r' h).2 Z af
theorem alY(h:r<:+[]):r=[]:=List.suffix_nil.1 h
theorem ae.c4(x:H):ae (bN x) where
 sfx {r F a r' b} h:=by
  unfold bN at h;split at h
  ·cases h
  grind[eV]
 ok {u F a r' b} v hu h Z:=by
  unfold bN at h⊢;split at h
  ·cases h
  ·rename_i q Y;cases h;have af:u≠[]:=by rintro rfl;exact Z (alY (eV Y))
   rw[(ui v Y hu af).2];simp only[Jk v (hu.sfx (eV Y)) Z]
theorem ae.cM(n:Nat):ae (bV n) where
 sfx h:=by cases h;simp[iI]
 ok {u F a r' b} v _ h Z:=by
  cases h;have:n<=u.length:=by grind[Nat.lt_or_ge,absurd,List.drop_eq_nil_of_le,Nat.le_of_lt]
  grind[bV]
theorem ae.ite{c:Prop}[Decidable c]{f g:ab α}(hf:ae f)(bk:ae g):ae (if c then f else g):=by grind
theorem Jl:∀(r:H)(v:H)(q:H),gw r=some q->q<:+r/\gw (r++v)=some (q++v)
 |[],v,q,h=>by grind[gw]
 |b::t,v,q,h=>by
  rw[gw] at h;simp;rw[gw];split at h
  ·grind
  ·obtain⟨M,U⟩:=Jl t v q h;grind
theorem alZ:∀(n:Nat)(r:H)(v:H)(q:H),r.length<=n->gx r=some q->q<:+r/\gx (r++v)=some (q++v):=by
 intro n;induction n with
 |zero=>grind[List.length_eq_zero_iff,gx]
 |succ n d=>
  intro r v q af h
  match r,af,h with
  |[],_,h=>grind[gx]
  |[b],af,h=>grind[gx,List.suffix_cons,gx.eq_def]
  |b::c::t,af,h=>
   simp only[nB] at af;by_cases e:b=96
   ·grind[gx,List.suffix_cons]
   ·by_cases f:b=92
    ·have a:gx t=some q:=by grind[gx]
     obtain⟨M,U⟩:=d t v q (by omega) a;grind[List.suffix_cons,trans,gx]
    ·have a:gx (c::t)=some q:=by grind[gx]
     obtain⟨M,U⟩:=d _ v q (by grind) a;grind[List.suffix_cons,gx]
theorem ae.to{f:H->Option H}(n:H)(hf:∀r v q,f r=some q->q<:+r/\f (r++v)=some (q++v))(h0:f []=none):ae (ki f n) where
 sfx {r F a r' b} h:=by
  unfold ki at h;split at h
  ·rename_i q c;cases h;exact(hf r [] _ c).1
  grind
 ok {u F a r' b} v _ h Z:=by
  unfold ki at h⊢;split at h
  ·grind
  grind
def lx{α:Type}(f:ab α):Prop:=∀{r:H}{F:ag}{a:α}{r':H}{b:ag},r≠[]->f r F= .ok a r' b->r'.length<r.length
def fW{σ α:Type}(f:ab (σ⊕α)):Prop:=∀{r:H}{F:ag}{s:σ}{r':H}{a:ag},r≠[]->f r F= .ok (.inl s) r' a->r'.length<r.length
def iR{σ α:Type}(f:ab (σ⊕α)):Prop:=∀{F:ag}{s:σ}{r':H}{a:ag},f [] F≠ .ok (.inl s) r' a
theorem bW{β:Type}{m:ab α}{k:α->ab β}{b:β}{c:ag}(h:N m k r F= .ok b r' c):∃a an d,m r F= .ok a an d/\k a an d= .ok b r' c:=by grind[N]
theorem aJ{β:Type}{m:ab α}{k:α->ab β}{a:α}{b:ag}(h:m r F= .ok a an b):N m k r F=k a an b:=by grind[N]
theorem hn{m:ab α}{a:α}{b:ag}:m.aG x r F= .ok a r' b↔m r F= .ok a r' b:=by grind[ab.aG]
theorem FW{m:ab α}{a:α}{b:ag}:m.named x r F= .ok a r' b↔m r F= .ok a r' b:=by grind[ab.named]
theorem fP.of(h:∀s,ae (f s))(M:∀s,fW (f s))(U:∀s,iR (f s)):fP f:=⟨h,λ{s r F s' r' a} e=>by
 by_cases Z:r=[]
 ·subst Z;exact absurd e (U s)
 ·exact M s Z e⟩
theorem xO(h:r'<:+r):r'.length<=r.length:=h.length_le
theorem jd:ar r= .eof↔r=[]:=by
 cases r with
 |nil=>decide
 |cons b t=>simp only[ar,iff_false];grind
theorem nr{t:Tok}{a:ag}(h:bN x r F= .ok t r' a):bg r=some r'/\t=ar r'/\a=F:=by
 unfold bN at h;split at h
 ·cases h
 grind
theorem fW.c4{k:Tok->ab (σ⊕α)}(h:∀t,t≠ .eof->fW (k t))(h0:iR (k .eof)):fW (N (bN x) k):=by
 intro r F s r' b Z e;obtain⟨t,an,c,M,U⟩:=bW e;obtain⟨a,rfl,rfl⟩:=nr M;have aw:=xO (eV a);by_cases af:an=[]
 ·subst af;exact absurd U h0
 ·have:=h _ (λhe=>af (jd.1 he)) af U;omega
theorem iR.c4{k:Tok->ab (σ⊕α)}(h:iR (k .eof)):iR (N (bN x) k):=by intro F s r' b e;obtain⟨t,an,c,M,U⟩:=bW e;obtain⟨a,rfl,rfl⟩:=nr M;rw[mj] at a;cases a;exact h U
theorem fW.inr(a:α):fW (aU (.inr a):ab (σ⊕α)):=by intro _ _ _ _ _ _ e;cases e
theorem iR.inr(a:α):iR (aU (.inr a):ab (σ⊕α)):=by intro _ _ _ _ e;cases e
theorem iR.more(x:H):iR (b5 x:ab (σ⊕α)):=by intro _ _ _ _ e;cases e
theorem fW.bad:fW (b6:ab (σ⊕α)):=by intro _ _ _ _ _ _ e;cases e
theorem fW.Dn{β:Type}{m:ab β}{k:β->ab (σ⊕α)}(hm:lx m)(az:∀b,ae (k b)):fW (N m k):=by intro r F s r' a Z e;obtain⟨t,an,c,M,U⟩:=bW e;have:=hm Z M;have:=xO ((az t).sfx U);omega
theorem fW.ite{c:Prop}[Decidable c]{f g:ab (σ⊕α)}(hf:fW f)(bk:fW g):fW (if c then f else g):=by grind
theorem lx.cM(n:Nat):lx (bV (n+1)):=by
 intro r F a r' c Z e;cases e;cases r with
 |nil=>grind
 |cons b t=>grind
theorem Tk:∀(r:H),(hK r).2<:+r
 |[]=>yD _
 |b::t=>by
  unfold hK;split
  ·exact eL _ _
  ·exact(Tk t).trans (eL _ _)
theorem Nk:∀{r:H}(v:H),cx r->r≠[]->hK (r++v)=((hK r).1,(hK r).2++v)
 |[],_,_,af=>absurd rfl af
 |b::t,v,Z,_=>by
  simp;rw[hK,hK];split
  ·rfl
  ·rename_i a;rw[Nk v Z.tail (Z.ne a)]
theorem xP(d:H)(tabs:Bool)(b:UInt8)(t:H):kf d tabs (b::t)=(if(if tabs then(hK (b::t)).1.dropWhile (· ==9) else(hK (b::t)).1)=d then some (hK (b::t)).2 else kf d tabs (hK (b::t)).2):=by rw[kf]
theorem Nl(d:H)(tabs:Bool):∀(n:Nat)(r v q:H),r.length<=n->kf d tabs r=some q->q<:+r/\(cx r->kf d tabs (r++v)=some (q++v)):=by
 intro n;induction n with
 |zero=>grind[List.length_eq_zero_iff,kf]
 |succ n c=>
  intro r v q af h;cases r with
  |nil=>grind[kf]
  |cons b t=>
   rw[xP] at h;have f:=Ji (b::t) (by simp);have a:=Tk (b::t);by_cases aq:(if tabs then(hK (b::t)).1.dropWhile (· ==9) else(hK (b::t)).1)=d
   ·rw[ba aq] at h;cases h;refine⟨a,λZ=>?_⟩;have e:=Nk v Z (by simp);simp_all[xP]
   ·rw[aM aq] at h;obtain⟨M,U⟩:=c _ v q (by omega) h;refine⟨M.trans a,λZ=>?_⟩;have e:=Nk v Z (by simp);simp only[jI] at e⊢;rw[xP,e,aM aq];exact U (Z.sfx a)
theorem wI:∀(ds:ag)(r v q:H),kg ds r= .inl q->q<:+r/\(cx r->kg ds (r++v)= .inl (q++v))
 |[],r,v,q,h=>by cases h;exact⟨yD _,λ_=>rfl⟩
 |d::ds,r,v,q,h=>by
  rw[kg] at h;split at h
  ·rename_i an M;obtain⟨a,av⟩:=Nl d.1 d.2 _ r v an (cS _) M;obtain⟨b,c⟩:=wI ds an v q h;refine⟨b.trans a,λZ=>?_⟩;rw[kg,av Z];exact c (Z.sfx a)
  grind
theorem zx(b:UInt8)(t:H)(F:ag):kh (b::t) F=(match kg F t with| .inl r'=> .ok () r' []| .inr nd=> .more [[60,60]] nd []):=rfl
theorem ae.nl:ae kh where
 sfx {r F a r' d} h:=by
  cases r with
  |nil=>cases h;simp
  |cons b t=>
   rw[zx] at h;split at h
   ·rename_i q c;cases h;exact(wI F t [] _ c).1.trans (eL _ _)
   grind
 ok {u F a r' d} v hu h Z:=by
  cases u with
  |nil=>cases h;grind
  |cons b t=>
   rw[zx] at h;simp;rw[zx];split at h
   ·rename_i q c;cases h;rw[(wI F t v _ c).2 hu.tail]
   grind
theorem lx.nl:lx kh:=by
 intro r F a r' d Z e;cases r with
 |nil=>grind
 |cons b t=>
  rw[zx] at e;split at e
  ·rename_i q c;have:=xO (wI F t [] _ c).1;grind
  grind
theorem fP.lines:fP (λ(some:Bool)=>N (bN []) λt=>if t= .line then N kh λ_=>aU (.inl true) else aU (.inr some):Bool->ab (Bool⊕Bool)):=by
 refine fP.of (λs=>(ae.c4 _).N λt=>ae.ite (ae.nl.N λ_=>ae.ret _) (ae.ret _)) (λs=>fW.c4 (λt a=>fW.ite (fW.Dn lx.nl λ_=>ae.ret _) (fW.inr _)) ?_) (λs=>iR.c4 ?_)
 ·simp[iR.inr]
 simp[iR.inr]
theorem ae.lines:ae cQ:=ae.rep fP.lines false
structure gn(D:ab Unit):Prop where
 ex:ae D
 lt:∀{r:H}{F:ag}{r':H}{aE:ag},fD r=true->D r F= .ok () r' aE->r'.length<r.length
theorem al0(v:H):t.drop 1≠[]->(t++v).drop 1=t.drop 1++v:=by intro h;rw[Pt];grind
theorem ae.tick:ae (ki gx [96]):=ae.to _ (λr v q h=>alZ _ r v q (cS _) h) (by decide)
theorem ae.single:ae (ki gw [39]):=ae.to _ (λr v q h=>Jl r v q h) (by decide)
theorem ae.part(hD:gn D)(i:∀q∈dq,ae q):ae (cC D dq):=by
 have d:∀(b:UInt8)(t v:H),cx (b::t)->∃(f:ab Unit)(g:H->H),ae f/\(∀F,cC D dq (b::t) F=f (g (b::t)) F)/\(∀F,cC D dq (b::t++v) F=f (g (b::t)++v) F\/g (b::t)=[]/\f=aU ())/\g (b::t)<:+b::t:=by
  intro b t v Z;by_cases j:b=92
  ·refine⟨aU (),λr=>(r.drop 1).drop 1,ae.ret _,λF=>by simp_all[cC,aU],λF=>?_,(iI _ _).trans (iI _ _)⟩;by_cases af:t.drop 1=[]
   ·grind
   ·left;simp only[jI,cC,j,yy];rw[al0 v af];rfl
  ·by_cases l:b=96
   ·exact⟨_,λr=>r.drop 1,ae.tick,λF=>by simp_all[cC],λF=> .inl (by simp_all[cC]),iI _ _⟩
   ·have m:=Jj v Z (by simp);by_cases n:fD (b::t)=true
    ·exact⟨D,id,hD.ex,λF=>by simp_all[cC],λF=> .inl (by simp_all[cC]),yD _⟩
    ·cases dq with
     |none=>exact⟨aU (),λr=>r.drop 1,ae.ret _,λF=>by grind[cC,aU],λF=> .inl (by grind[cC,aU]),iI _ _⟩
     |some q=>
      by_cases o:b=39
      ·exact⟨_,λr=>r.drop 1,ae.single,λF=>by grind[cC,fD],λF=> .inl (by grind[cC,fD]),iI _ _⟩
      ·by_cases p:b=34
       ·exact⟨q,λr=>r.drop 1,i q rfl,λF=>by grind[cC,fD],λF=> .inl (by grind[cC,fD]),iI _ _⟩
       ·exact⟨aU (),λr=>r.drop 1,ae.ret _,λF=>by grind[cC,aU],λF=> .inl (by grind[cC,aU]),iI _ _⟩
 have sfx:∀(b:UInt8)(t:H)(F:ag)(r':H)(c:ag),cC D dq (b::t) F= .ok () r' c->r'<:+b::t:=by
  intro b t F r' c h;unfold cC at h;simp only at h;split at h
  ·grind[List.drop_suffix,trans,List.suffix_cons]
  ·split at h
   ·exact(ae.tick.sfx h).trans (eL _ _)
   ·split at h
    ·exact hD.ex.sfx h
    ·cases dq with
     |none=>grind
     |some q=>
      simp only at h;split at h
      ·exact(ae.single.sfx h).trans (eL _ _)
      ·split at h
       ·exact((i q rfl).sfx h).trans (eL _ _)
       grind
 constructor
 ·intro r F a r' c h;cases r with
  |nil=>cases h;simp
  |cons b t=>grind
 ·intro u F a r' c v hu h Z;cases u with
  |nil=>cases h;grind
  |cons b t=>
   obtain⟨f,g,M,U,e,k⟩:=d b t v hu;rw[U] at h;rcases e F with e|⟨s,rfl⟩
   ·rw[e];exact M.ok v (hu.sfx k) h Z
   ·cases h;grind
theorem lx.part(hD:gn D)(c:∀q∈dq,ae q):lx (cC D dq):=by
 intro r F a r' d Z h;cases r with
 |nil=>grind
 |cons b t=>
  unfold cC at h;simp only at h;split at h
  ·grind
  ·split at h
   ·have:=xO (ae.tick.sfx h);grind
   ·split at h
    ·exact hD.lt ‹_› h
    ·cases dq with
     |none=>grind
     |some q=>
      simp only at h;split at h
      ·have:=xO (ae.single.sfx h);grind
      ·split at h
       ·have:=xO ((c q rfl).sfx h);grind
       grind
theorem fP.bytes{stop:H->Option (H×α)}{part:ab Unit}(ah:ae part)(aw:lx part)
  {f:Unit->ab (Unit⊕α)} (h0:∀F,f () [] F=b5 [] [] F) (M:∀b t F,f () (b::t) F=match stop (b::t) with
   |some q=> .ok (.inr q.2) q.1 F
   |none=>N part (λ_=>aU (.inl ())) (b::t) F)
  (Y:∀b t q,stop (b::t)=some q->q.1<:+b::t) (j:∀b t q v,cx (b::t)->stop (b::t)=some q->stop (b::t++v)=some (q.1++v,q.2)) (g:∀b t v,cx (b::t)->stop (b::t)=none->stop (b::t++v)=none):fP f:=by
 have c:ae (N part (λ_=>aU (.inl ()):Unit->ab (Unit⊕α))):=ah.N λ_=>ae.ret _;refine⟨λs=>?_,?_⟩
 ·constructor
  ·intro r F a r' d h;cases r with
   |nil=>rw[h0] at h;cases h
   |cons b t=>
    rw[M] at h;split at h
    ·grind
    ·exact c.sfx h
  ·intro u F a r' d v hu h Z;cases u with
   |nil=>rw[h0] at h;cases h
   |cons b t=>
    rw[M] at h;have e:=M b (t++v) F;simp only[jI] at e⊢;rw[e];split at h
    ·grind
    ·rename_i i;have:=g b t v hu i;simp only[jI] at this;rw[this];exact c.ok v hu h Z
 ·intro s r F s' r' d h;cases r with
  |nil=>rw[h0] at h;cases h
  |cons b t=>
   rw[M] at h;split at h
   ·cases h
   ·exact fW.Dn aw (λ_=>ae.ret _) (by simp) h
theorem fP.qq(c:UInt8){part:ab Unit}(ah:ae part)(aw:lx part):fP (λ(_:Unit)(r:H)(F:ag)=>(match r with
 |[]=>b5 [] r F
 |b::t=>if b=c then .ok (.inr ()) t F else(N part λ_=>aU (.inl ())) r F:dn (Unit⊕Unit))):=by
 refine fP.bytes (stop:=λr=>match r with|[]=>none|b::t=>if b=c then some (t,()) else none) ah aw (λ_=>rfl) (λb t F=>?_) ?_ ?_ ?_
 ·grind
 ·simp
 ·simp
 simp
theorem ae.qq(c:UInt8){part:ab Unit}(ah:ae part)(aw:lx part):ae (iQ c part):=ae.rep (fP.qq c ah aw) ()
theorem ae.double(hD:gn D):ae (eP D):=((ae.qq 34 (ae.part hD (by simp)) (lx.part hD (by simp))).aG _).named _
theorem ae.pN(hD:gn D):ae (cC D (some (eP D))):=ae.part hD λq a=>by grind[ae.double]
theorem lx.pN(hD:gn D):lx (cC D (some (eP D))):=lx.part hD λq a=>by grind[ae.double]
theorem ae.param(hD:gn D):ae (qp D):=(ae.qq 125 (ae.pN hD) (lx.pN hD)).aG _
theorem fP.word(hD:gn D):fP (λ(_:Unit)(r:H)(F:ag)=>(match r with
 |[]=>b5 [] r F
 |_::_=>if cV r then .ok (.inr ()) r F else(N (cC D (some (eP D))) λ_=>aU (.inl ())) r F:dn (Unit⊕Unit))):=by
 refine fP.bytes (stop:=λr=>if cV r then some (r,()) else none) (ae.pN hD) (lx.pN hD) (λ_=>rfl) (λb t F=>?_) ?_ ?_ ?_
 ·grind
 ·simp
 ·intro b t q v Z h;split at h
  ·rename_i a;cases h;rw[FV v Z (by simp),ba a]
  grind
 ·intro b t v Z h;split at h
  ·cases h
  ·rename_i a;rw[FV v Z (by simp),aM a]
theorem ae.word{D:ab Unit}(hD:gn D):ae (cR D):=ae.rep (fP.word hD) ()
theorem wJ(hD:gn D){a:ag}(Z:r≠[])(c:cV r=false)(h:cR D r F= .ok () r' a):r'.length<r.length:=by
 unfold cR at h;rw[vw] at h;cases r with
 |nil=>grind
 |cons b t=>
  simp only[c,fR,cZ] at h;split at h
  ·rename_i s1 an f M;have d:=fW.Dn (lx.pN hD) (λ_=>ae.ret _) (by simp) M;rw[ba d] at h;have:=xO ((ae.word hD).sfx h);omega
  ·rename_i M;obtain⟨_,_,_,U,e⟩:=bW M;cases e
  all_goals cases h
theorem Jn:(∃w p,ar (b::t)= .word w p)->fV b=false->cV (b::t)=false:=by grind[ar,cV]
theorem ZK:∀(n:Nat)(r:H),r.length<=n->∀b t,bg r=some (b::t)->fV b=false:=by
 intro n;induction n with
 |zero=>simp[mj]
 |succ n a=>
  intro r af b t h;cases r with
  |nil=>grind
  |cons c u=>grind[List.length_cons,m0,zv]
theorem fW.Jo(hD:gn D){k:Tok->ab (σ⊕α)}(h:∀t,t≠ .eof->(∀w p,t≠ .word w p)->fW (k t))(h0:iR (k .eof))
  (f:∀w p,∃(m:ab Unit)(k':Unit->ab (σ⊕α)),k (.word w p)=N m k'/\(∀{r F r' c},m r F= .ok () r' c↔cR D r F= .ok () r' c)/\∀u,ae (k' u)):fW (N (bN x) k):=by
 intro r F s r' c Z e;obtain⟨t,an,n,M,U⟩:=bW e;obtain⟨d,rfl,rfl⟩:=nr M;have aw:=xO (eV d);cases an with
 |nil=>exact absurd U h0
 |cons b u=>
  by_cases a:∃w p,ar (b::u)= .word w p
  ·have g:=Jn a (ZK _ _ (cS _) _ _ d);obtain⟨w,p,a⟩:=a;rw[a] at U;obtain⟨m,k',az,hm,i⟩:=f w p;rw[az] at U;obtain⟨_,o,q,j,l⟩:=bW U;have:=wJ hD (by simp) g (hm.1 j);have:=xO ((i ()).sfx l);omega
  ·have:=h _ (λhe=>by grind[jd]) (λw p he=>a ⟨w,p,he⟩) (by simp) U;omega
theorem ZL(v:H){p:UInt8->Bool}(ah:p 10=false):cx r->r≠[]->r.dropWhile p≠[]/\(r++v).dropWhile p=r.dropWhile p++v:=by
 induction r with
 |nil=>simp
 |cons b t a=>
  intro Z _;simp only[jI,aeN];cases d:p b with
  |false=>simp
  |true=>
   have c:b≠10:=by grind
   simpa using a Z.tail (Z.ne c)
theorem Bb{p:UInt8->Bool}:r.dropWhile p<:+r:=List.dropWhile_suffix _
theorem Tl:(bt r).length<=r.length:=by
 unfold bt;cases h:l2.find? _ with
 |none=>simp
 |some o=>grind
theorem Nm:bt r<+:r:=by
 unfold bt;cases h:l2.find? _ with
 |none=>simp
 |some o=>grind
theorem ae.Bc:ae fI where
 sfx {r F a r' c} h:=by
  unfold fI at h;split at h
  ·cases h
  ·rename_i q b;simp only at h;split at h
   ·cases h;exact((iI _ _).trans Bb).trans (eV b)
   grind[eV]
 ok {u F a r' c} v hu h Z:=by
  unfold fI at h⊢;split at h
  ·cases h
  ·rename_i q b;simp only at h;by_cases af:u=[]
   ·simp_all[mj,bt,l2,fm]
   ·obtain⟨d,f⟩:=ui v b hu af;obtain⟨e,g⟩:=ZL v (p:=cd) (by decide) (hu.sfx (eV b)) d;have i:=Ti v ((hu.sfx (eV b)).sfx Bb) e;split at h
    ·simp_all[Pt,Tl]
    grind
theorem Jp(b:UInt8)(t:H):g1 (b::t)=(if b=34 then .closed [] t else if b=36\/b=96 then .part else
  if b=92 then match t with
   |[]=> .part
   |c::u=>(g1 u).add (Dl c)
  else(g1 t).add [b]):=by
 grind[g1.eq_def]
theorem Tm:∀(n:Nat)(r v o q:H),r.length<n->g1 r= .closed o q->q<:+r/\g1 (r++v)= .closed o (q++v):=by
 intro n;induction n with
 |zero=>grind
 |succ n f=>
  intro r v o q af h
  have d:∀{x:H}{e:nk},e.add x= .closed o q->∃a,e= .closed a q/\o=x++a:=λ{x e} h=>by cases e<;>simp[nk.add] at h;grind
  cases r with
  |nil=>grind[g1]
  |cons b t=>
   simp only[nB] at af;rw[Jp] at h;rw[jI,Jp];split at h
   ·grind
   ·split at h
    ·cases h
    ·split at h
     ·cases t with
      |nil=>cases h
      |cons c u=>obtain⟨a,M,rfl⟩:=d h;obtain⟨g,i⟩:=f u v a q (by grind) M;grind[List.suffix_cons,nk.add]
     ·obtain⟨a,M,rfl⟩:=d h;obtain⟨g,i⟩:=f t v a q (by omega) M;grind[nk.add]
theorem vx(b:UInt8)(t:H):dP (b::t)=(if cV (b::t) then some ([],b::t,[]) else
  if b=92 then match t with
   |[]=>none
   |c::u=>(dP u).map λq=>((if c=10 then [] else [c])++q.1,q.2)
  else if b=39 then match gw t with
   |none=>none
   |some r=>(dP r).map λq=>(t.take (t.length-r.length-1)++q.1,q.2)
  else if b=36\/b=96 then none else
  if b=34 then match g1 t with
   | .part=>none
   | .open_ o=>some (o,[],[34])
   | .closed o r=>(dP r).map λq=>(o++q.1,q.2)
  else(dP t).map λq=>(b::q.1,q.2)):=by
 grind[dP.eq_def]
theorem al1(h:cx t)(af:t≠[]):(10:UInt8)∈t:=by
 rcases h with h|⟨s,rfl⟩
 ·grind
 ·simp
theorem ZM{q v:H}(h:q<:+t):(t++v).take ((t++v).length- (q++v).length-1)=t.take (t.length-q.length-1):=by grind
theorem Tn(n:Nat)(r o q:H)(_:r.length<=n)(h:g1 r= .closed o q):q<:+r:=(Tm _ r [] o q (tE _) h).1
theorem Nn:∀(n:Nat)(r:H)(x:H×H×H),r.length<=n->dP r=some x->x.2.1<:+r:=by
 intro n;induction n with
 |zero=>grind[List.length_eq_zero_iff,dP,List.suffix_refl]
 |succ n a=>
  intro r x af h;cases r with
  |nil=>grind
  |cons b t=>
   have go:∀(u:H)(f:H->H),u<:+t->(dP u).map (λq=>(f q.1,q.2))=some x->x.2.1<:+b::t:=by grind[Option.map_eq_some_iff]
   rw[vx] at h;split at h
   ·grind
   ·split at h
    ·split at h
     ·cases h
     ·rename_i c u _;exact go u _ (eL _ _) h
    ·split at h
     ·split at h
      ·cases h
      ·rename_i an M;exact go an _ (Jl t [] _ M).1 h
     ·split at h
      ·cases h
      ·split at h
       ·split at h
        ·cases h
        ·grind
        ·rename_i o an M;exact go an _ (Tn _ _ _ _ (cS _) M) h
       ·exact go t _ (yD _) h
theorem al2:∀(n:Nat)(r v d q:H),r.length<n->cx r->q≠[]->dP r=some (d,q,[])->dP (r++v)=some (d,q++v,[]):=by
 intro n;induction n with
 |zero=>grind
 |succ n l=>
  intro r v d q af Z cU h;cases r with
  |nil=>grind[dP]
  |cons b t=>
   have g:=FV v Z (by simp)
   have go:∀(u:H)(f:H->H),u<:+t->(dP u).map (λq=>(f q.1,q.2))=some (d,q,[])->(dP (u++v)).map (λq=>(f q.1,q.2))=some (d,q++v,[]):=by intro u f hu h;simp only[BY] at h;obtain⟨⟨m,s,w⟩,M,U⟩:=h;cases U;rw[l u v m q (by grind) (Z.tail.sfx hu) cU M];rfl
   rw[vx] at h;simp only[List.cons_append] at g⊢;rw[vx,g];by_cases p:cV (b::t)=true
   ·grind
   rw[aM p] at h⊢;by_cases i:b=92
   ·rw[ba i] at h⊢;cases t with
    |nil=>cases h
    |cons e u=>exact go u _ (eL _ _) h
   rw[aM i] at h⊢;by_cases j:b=39
   ·rw[ba j] at h⊢;cases Y:gw t with
    |none=>grind
    |some a=>rw[Y] at h;obtain⟨s1,s2⟩:=Jl t v a Y;rw[s2];simp only at h⊢;rw[ZM s1];exact go a _ s1 h
   rw[aM j] at h⊢;by_cases ah:b=36\/b=96
   ·rw[ba ah] at h;cases h
   rw[aM ah] at h⊢;by_cases k:b=34
   ·rw[ba k] at h⊢;cases c:g1 t with
    |part=>rw[c] at h;cases h
    |open_ o=>rw[c] at h;cases h
    |closed o a=>rw[c] at h;obtain⟨s1,s2⟩:=Tm _ t v o a (tE _) c;rw[s2];exact go a _ s1 h
   rw[aM k] at h⊢;exact go t _ (yD _) h
def wK(tabs:Bool)(r':H)(F:ag):dn Unit:=match dP r' with
 |none=> .bad r'
 |some (d,q,a)=>if d.contains 10 then .bad r' else
  if tabs/\d.head?=some 9 then .bad r' else
  if a≠[] then .more [a] a (F++[(d,tabs)]) else
  if q=[] then .more [] [] (F++[(d,tabs)]) else .ok () q (F++[(d,tabs)])
theorem Dp(tabs:Bool)(r:H)(F:ag):gm tabs r F=match bg r with
 |none=> .more [] [120] (F++[([120],tabs)])
 |some r'=>match ar r' with
  | .eof=> .more [] [120] (F++[([120],tabs)])
  | .word _ _=>wK tabs r' F
  |_=> .bad r':=rfl
theorem ae.oM(tabs:Bool):ae (gm tabs) where
 sfx {r F a r' g} h:=by
  rw[Dp] at h;split at h
  ·cases h
  ·rename_i q b;split at h
   ·cases h
   ·unfold wK at h;split at h
    ·cases h
    ·rename_i d f c aB;split at h
     ·cases h
     ·split at h
      ·cases h
      ·split at h
       ·cases h
       ·split at h
        ·cases h
        ·cases h;exact(Nn _ _ _ (cS _) aB).trans (eV b)
   grind
 ok {u F a r' g} v hu h Z:=by
  rw[Dp] at h;split at h
  ·cases h
  ·rename_i q b;have af:u≠[]:=by grind[mj,ar]
   obtain⟨k,f⟩:=ui v b hu af;have i:=hu.sfx (eV b);have j:gm tabs (u++v) F=(match ar q with
    | .eof=> .more [] [120] (F++[([120],tabs)])
    | .word _ _=>wK tabs (q++v) F
    |_=> .bad (q++v)):=by grind[Dp,Jk]
   rw[j];split at h
   ·cases h
   ·unfold wK at h⊢;split at h
    ·cases h
    ·rename_i d f c aB;split at h
     ·cases h
     ·split at h
      ·cases h
      ·split at h
       ·cases h
       ·split at h
        ·cases h
        ·cases h;have e:c=[]:=by grind
         subst e;rw[al2 _ q v d _ (tE _) i Z aB];simp_all
   grind
theorem ae.n_:ae (b6:ab α):=⟨λh=>(by cases h),λv _ h=>(by cases h)⟩
theorem ae.No:ae (Dk:ab α):=⟨λh=>(by cases h),λv _ h=>(by cases h)⟩
theorem ae.gf{k:Tok->ab α}(h:∀t,t≠ .eof->ae (k t))(h0:ae (k .eof)):ae (Eng.N (bN x) k):=(ae.c4 x).N λt=>by grind
theorem ae.xR(hD:gn D)(x:H):ae (jP D x):=by refine ae.gf (λt a=>?_) (ae.b5 x);grind[ae.word,ae.n_]
theorem ae.gP(hD:gn D):ae (dM D):=by
 refine ae.Bc.N λo=>?_;cases o with
 |none=>simp[ae.ret]
 |some o=>exact(ae.ite (ae.oM _) (ae.ite (ae.oM _) (ae.xR hD _))).N λ_=>ae.ret _
theorem al4{o:H}(h:fm o=true):o.length≠0:=by intro h0;simp_all[fm]
theorem tc(hD:gn D){a:ag}(h:dM D r F= .ok true r' a):r'.length<r.length:=by
 obtain⟨o,an,e,M,U⟩:=bW h;cases o with
 |none=>cases U
 |some o=>
  obtain⟨_,f,g,b,c⟩:=bW U;cases c;have i:r'.length<=an.length:=by have vy:ae (if o=[60,60] then gm false else if o=[60,60,45] then gm true else jP D [120]):=ae.ite (ae.oM _) (ae.ite (ae.oM _) (ae.xR hD _));exact(vy.sfx b).length_le
  unfold fI at M;split at M
  ·cases M
  ·rename_i q d;simp only at M;split at M
   ·have j:=(eV d).length_le;have av:(q.dropWhile cd).length<=q.length:=Bb.length_le;grind[al4,Tl,cd,List.length_drop]
   grind
theorem ae.l4(hD:gn D):ae (gH D):=by
 refine ae.rep ⟨λ_=>(ae.gP hD).N λb=>ae.ret _,λ{s r F s' r' a} h=>?_⟩ ();obtain⟨b,an,c,M,U⟩:=bW h;cases b with
 |true=>cases U;exact tc hD M
 |false=>cases U
theorem ae.simple(hD:gn D)(fr:Bool):ae (gS fr D):=by
 have he:ae (Eng.N (bN []) λt=>match t with
  | .word _ _=>Eng.N (cR D) λ_=>aU (.inl ())
  | .op o=>if fr/\o=[40] then b6 else aU (.inr ())
  |_=>aU (.inr ()):ab (Unit⊕Unit)):=by
  refine ae.gf (λt a=>?_) (ae.ret _);cases t with
  |word w p=>grind[ae.word,ae.N,ae.ret]
  |op o=>simp[ae.ite,ae.n_,ae.ret]
  |_=>simp[ae.ret]
 have aw:fW (Eng.N (bN []) λt=>match t with
  | .word _ _=>Eng.N (cR D) λ_=>aU (.inl ())
  | .op o=>if fr/\o=[40] then b6 else aU (.inr ())
  |_=>aU (.inr ())):=by
  refine fW.Jo hD (λt a c=>?_) (iR.inr _) (λw p=>⟨cR D,_,rfl,Iff.rfl,λ_=>ae.ret _⟩);cases t with
  |word w p=>grind
  |op o=>simp[fW.ite,fW.bad,fW.inr]
  |_=>simp[fW.inr]
 refine ae.rep ⟨λ_=>(ae.gP hD).N λb=>ae.ite (ae.ret _) he,λ{s r F s' r' d} h=>?_⟩ ();obtain⟨b,an,e,M,U⟩:=bW h;cases b with
 |true=>cases U;exact tc hD M
 |false=>
  have f:=((ae.gP hD).sfx M).length_le;by_cases af:an=[]
  ·subst af;have:iR (Eng.N (bN []) λt=>match t with
    | .word _ _=>Eng.N (cR D) λ_=>aU (.inl ())
    | .op o=>if fr/\o=[40] then b6 else aU (.inr ())
    |_=>aU (.inr ())):=iR.c4 (iR.inr _)
   exact absurd U this
  ·have:=aw af U;omega
structure uj(l:dD):Prop where
 ls:∀c n,ae (l.ls c n)
 pm:ae l.pm
 cp:∀t,ae (l.cp t)
 rd:ae l.rd
 dl:gn l.dl
theorem ae.exp(b:Tok->Bool)(n:Nat):ae (mL b n):=by refine ae.gf (λt a=>?_) (by simp[ae.b5]);simp_all[ae.ite,ae.cM,ae.n_]
theorem ae.op(o:H):ae (jr o):=ae.exp _ _
theorem ae.res(w:H):ae (cI w):=ae.exp _ _
theorem sv(d:Nat)(b:UInt8)(t:H):ij d (b::t)=(if b=39\/b=34\/b=92\/b=96\/fD (b::t) then .bad (b::t) else
  if b=40 then ij (d+1) t else
  if b=41 then match d with
   |ft+1=>ij ft t
   |0=>match t with
    |[]=> .more 1
    |c::u=>if c=41 then .ok u else .bad (b::t)
  else ij d t):=by
 rfl
theorem Np:∀(d:Nat)(r v q:H),cx r->ij d r= .ok q->ij d (r++v)= .ok (q++v)
 |d,[],v,q,_,h=>by grind[ij]
 |d,b::t,v,q,Z,h=>by
  have a:=Jj v Z (by simp);rw[sv] at h;simp only[jI] at a⊢;rw[sv,a];by_cases M:b=39\/b=34\/b=92\/b=96\/fD (b::t)=true
  ·grind
  rw[aM M] at h⊢;by_cases U:b=40
  ·rw[ba U] at h⊢;exact Np _ t v q Z.tail h
  rw[aM U] at h⊢;by_cases c:b=41
  ·rw[ba c] at h⊢;cases d with
   |succ e=>exact Np e t v q Z.tail h
   |zero=>grind
  rw[aM c] at h⊢;exact Np d t v q Z.tail h
theorem To{b:Tok->Bool}(af:0<n){a:ag}(h:mL b n r F= .ok () r' a):r'.length<r.length:=by
 obtain⟨t,an,d,M,U⟩:=bW h;obtain⟨c,rfl,rfl⟩:=nr M;have aw:=xO (eV c);split at U
 ·cases U
 ·rename_i he;have:=λe=>he (jd.2 e);split at U
  ·cases U;grind[List.length_pos_iff,List.length_drop]
  ·cases U
theorem FX(t:H):bg (10::t)=some (10::t):=by simp[m0,fV]
theorem ZN{b:Bool}{d:ag}(h:cQ (10::t) F= .ok b r' d):r'.length<(10::t).length:=by
 unfold cQ at h;rw[vw] at h;split at h
 ·rename_i s1 an e M;have f:=fP.lines.lt M;rw[ba f] at h;have:=(ae.rep fP.lines s1).sfx h;grind
 ·rename_i a M;obtain⟨j,an,e,U,g⟩:=bW M;obtain⟨c,rfl,rfl⟩:=nr U;rw[FX] at c;cases c;obtain⟨_,_,_,_,i⟩:=bW g;cases i
 all_goals cases h
theorem wL(h:ar r= .line):∃t,r=10::t:=by
 cases r with
 |nil=>grind[ar]
 |cons b t=>grind[ar]
section
variable{l:dD}(aw:uj l)
include aw
theorem ae.body(x:H):ae (h3 l x):=((ae.res _).aG _).N λ_=>((aw.ls _ _).aG _).N λ_=>ae.res _
theorem ae.cond:ae (q4 l):=by
 refine ae.rep ⟨λ_=>((aw.ls _ _).aG _).N λ_=>(ae.res _).N λ_=>((aw.ls _ _).aG _).N λ_=>(ae.c4 _).N λt=>ae.ite ((ae.res _).N λ_=>ae.ret _) (ae.ite ((ae.res _).N λ_=>((aw.ls _ _).aG _).N λ_=>(ae.res _).N λ_=>ae.ret _) ((ae.res _).N λ_=>ae.ret _)),λ{s r F s' r' f} h=>?_⟩ ();obtain⟨_,an,g,M,h⟩:=bW h;obtain⟨_,i,j,U,h⟩:=bW h;obtain⟨_,k,m,d,h⟩:=bW h;obtain⟨t,n,o,e,h⟩:=bW h;have p:=((aw.ls _ _).sfx (hn.1 M)).length_le;have av:=((ae.res _).sfx U).length_le;have a3:=((aw.ls _ _).sfx (hn.1 d)).length_le;have q:=((ae.c4 _).sfx e).length_le;split at h
 ·obtain⟨_,b,c,a,h⟩:=bW h;cases h;have:=To (by decide) a;omega
 ·split at h
  ·obtain⟨_,b,c,a,h⟩:=bW h;obtain⟨_,u,v,w,h⟩:=bW h;obtain⟨_,x,y,z,h⟩:=bW h;cases h
  ·obtain⟨_,b,c,a,h⟩:=bW h;cases h
omit aw in
theorem ae.words(hD:gn D):ae (oL D):=by
 refine ae.rep (fP.of (λ_=>ae.gf (λt a=>?_) (ae.b5 _)) (λ_=>fW.Jo hD (λt a b=>?_) (iR.more _) (λw p=>⟨cR D,_,rfl,Iff.rfl,λ_=>ae.ret _⟩)) λ_=>iR.c4 (iR.more _)) ()
 ·cases t with
  |eof=>grind
  |word w p=>grind[ae.word,ae.N,ae.ret]
  |line=>simp[ae.ret]
  |op o=>exact ae.ite ((ae.cM _).N λ_=>ae.ret _) ae.n_
 ·cases t with
  |eof=>grind
  |word w p=>grind
  |line=>simp[fW.inr]
  |op o=>exact fW.ite (by intro r F s r' c Z e;cases e) fW.bad
theorem ae.for_(hD:gn D):ae (pM l D):=by
 have a:ae (Eng.N (bN []) λt=>if t= .op [59] then Eng.N (bV 1) λ_=>Eng.N cQ λ_=>aU () else
   Eng.N cQ λ_=>Eng.N (bN []) λt=>if cm t eb then Eng.N (bV 2) λ_=>Eng.N _ λ_=>Eng.N cQ λ_=>aU () else aU ()):=
  (ae.c4 _).N λt=>ae.ite ((ae.cM _).N λ_=>ae.lines.N λ_=>ae.ret _) (ae.lines.N λ_=>(ae.c4 _).N λt=>ae.ite ((ae.cM _).N λ_=>(ae.words hD).N λ_=>ae.lines.N λ_=>ae.ret _) (ae.ret _))
 refine ae.gf (λt b=>?_) (ae.b5 _);cases t with
 |eof=>grind
 |word w p=>
  cases p with
  |true=>exact ae.ite ((ae.cM _).N λ_=>(a.aG _).N λ_=>ae.body aw _) ae.n_
  |false=>exact ae.n_
 |_=>exact ae.n_
omit aw in
theorem Jq(hD:gn D):fP (λ(_:Unit)=>Eng.N (bN [120,41]) λt=>match t with
 | .eof=>b5 [120,41]
 | .word _ _=>Eng.N ((cR D).aG [41]) λ_=>Eng.N (bN [41]) λt=>match t with
   | .eof=>b5 [41]
   | .op o=>if o=[124] then Eng.N (bV 1) λ_=>aU (.inl ()) else if o=[41] then Eng.N (bV 1) λ_=>aU (.inr ()) else b6
   |_=>b6
 |_=>b6:Unit->ab (Unit⊕Unit)):=by
 have U:ae (Eng.N (bN [41]) λt=>match t with
  | .eof=>b5 [41]
  | .op o=>if o=[124] then Eng.N (bV 1) λ_=>aU (.inl ()) else if o=[41] then Eng.N (bV 1) λ_=>aU (.inr ()) else b6
  |_=>b6:ab (Unit⊕Unit)):=by
  refine ae.gf (λt a=>?_) (ae.b5 _);cases t with
  |eof=>grind
  |op o=>exact ae.ite ((ae.cM _).N λ_=>ae.ret _) (ae.ite ((ae.cM _).N λ_=>ae.ret _) ae.n_)
  |_=>exact ae.n_
 refine fP.of (λ_=>ae.gf (λt a=>?_) (ae.b5 _)) (λ_=>fW.Jo hD (λt a b=>?_) (iR.more _) (λw p=>⟨_,_,rfl,hn,λ_=>U⟩)) λ_=>iR.c4 (iR.more _)
 ·cases t with
  |eof=>grind
  |word w p=>exact(((ae.word hD).aG _).N λ_=>U)
  |_=>exact ae.n_
 simp[fW.bad]
omit aw in
theorem ae.uk(hD:gn D):ae (lb D):=ae.rep (Jq hD) ()
omit aw in
theorem Tq(hD:gn D){j:ag}(h:lb D r F= .ok () r' j):r'.length<r.length:=by
 unfold lb at h;rw[vw] at h;split at h
 ·rename_i s1 an k M;have l:=(Jq hD).lt (s:=()) M;rw[ba l] at h;have:=((ae.rep (Jq hD) s1).sfx h).length_le;omega
 ·rename_i a M;cases h;obtain⟨t,an,k,U,d⟩:=bW M;obtain⟨g,rfl,rfl⟩:=nr U;have a0:=(eV g).length_le;cases e:ar an with
  |word w p=>
   rw[e] at d;obtain⟨_,A,B,m,n⟩:=bW d
   have q:∃b t,an=b::t:=by
    cases an with
    |nil=>grind[ar]
    |cons b t=>simp
   obtain⟨b,t,rfl⟩:=q;have u:=Jn ⟨w,p,e⟩ (ZK _ _ (cS _) _ _ g);have C:=wJ hD (by simp) u (hn.1 m);obtain⟨E,v,G,x,c⟩:=bW n;obtain⟨y,rfl,rfl⟩:=nr x;have av:=(eV y).length_le;cases i:ar v with
   |op o=>
    rw[i] at c;simp only at c;split at c
    ·obtain⟨_,_,_,_,f⟩:=bW c;cases f
    ·split at c
     ·obtain⟨_,I,J,f,z⟩:=bW c;cases z;have:=((ae.cM 1).sfx f).length_le;omega
     ·cases c
   |_=>rw[i] at c;cases c
  |_=>rw[e] at d;cases d
 all_goals cases h
theorem ae.items(hD:gn D):ae (nn l D):=by
 have a:ae (Eng.N _ λ_=>Eng.N (l.ls .item true) λ_=>Eng.N (bN []) λt=>if t= .op [59,59] then Eng.N (bV 2) λ_=>aU (.inl ()) else aU (.inl ()):ab (Unit⊕Unit)):=
  (ae.uk hD).N λ_=>(aw.ls _ _).N λ_=>(ae.c4 _).N λt=>ae.ite ((ae.cM _).N λ_=>ae.ret _) (ae.ret _)
 refine ae.rep ⟨λ_=>ae.lines.N λ_=>(ae.c4 _).N λt=>ae.ite (ae.b5 _) (ae.ite ((ae.cM _).N λ_=>ae.ret _) ((ae.ite (ae.cM _) (ae.ret _)).N λ_=>a)),λ{s r F s' r' g} h=>?_⟩ ();obtain⟨_,an,i,M,h⟩:=bW h;obtain⟨t,j,k,U,h⟩:=bW h;have m:=(ae.lines.sfx M).length_le;have av:=((ae.c4 _).sfx U).length_le;split at h
 ·cases h
 ·split at h
  ·cases h
  ·obtain⟨_,n,o,b,h⟩:=bW h;have a3:=((ae.ite (ae.cM 1) (ae.ret ())).sfx b).length_le;obtain⟨_,p,q,c,h⟩:=bW h;have u:=Tq hD c;obtain⟨_,v,w,d,h⟩:=bW h;have x:=((aw.ls _ _).sfx d).length_le;obtain⟨_,y,z,e,h⟩:=bW h;have A:=((ae.c4 _).sfx e).length_le;split at h
   ·obtain⟨_,B,C,f,h⟩:=bW h;cases h;have:=((ae.cM 2).sfx f).length_le;omega
   ·cases h;omega
theorem ae.vz(hD:gn D):ae (q5 l D):=by
 have M:ae (Eng.N _ λ_=>Eng.N cQ λ_=>Eng.N (bN []) λt=>if t= .eof then Eng.b5 [] else aU t):=
  (ae.word hD).N λ_=>ae.lines.N λ_=>(ae.c4 _).N λt=>ae.ite (ae.b5 _) (ae.ret _)
 refine ae.gf (λt a=>?_) (ae.b5 _);cases t with
 |eof=>grind
 |word w p=>exact(M.aG _).N λt=>ae.ite ((ae.cM _).N λ_=>(ae.items aw hD).aG _) ae.n_
 |_=>exact ae.n_
theorem ae.kind(t:Tok):ae (hd l t):=by
 cases t with
 |op o=>exact((ae.cM _).N λ_=>((aw.ls _ _).aG _).N λ_=>ae.op _)
 |word w p=>exact((ae.cM _).N λ_=>ae.ite (((aw.ls _ _).aG _).N λ_=>ae.res _) (ae.ite (ae.cond aw) (ae.ite (ae.for_ aw aw.dl) (ae.ite (ae.vz aw aw.dl) (((aw.ls _ _).aG _).N λ_=>ae.body aw _)))))
 |_=>exact ae.n_
end
section
variable(kB:∀l∈lo,uj l)
include kB
theorem ae.cp(t:Tok):ae (rU lo t):=by
 cases lo with
 |none=>exact ae.No
 |some l=>exact(ae.kind (kB l rfl) t).named _
theorem ae.function:ae (kU fr lo):=by
 cases lo with
 |none=>exact ae.No
 |some l=>have aw:=kB l rfl;refine ae.ite (ae.named ?_ _) ae.No;refine((ae.cM _).N λ_=>ae.gf (λt a=>?_) (by simp[ae.b5]));rw[aM a];refine ae.ite ?_ ae.n_;refine((ae.cM _).N λ_=>(ae.lines.aG _).N λ_=>ae.gf (λt a=>?_) (by simp[ae.b5]));rw[aM a];exact ae.ite ((aw.cp t).N λ_=>ae.ite aw.rd (ae.ret _)) ae.n_
omit kB in
theorem Bd:∀(d:Nat)(r q:H),ij d r= .ok q->q<:+r
 |d,[],q,h=>by grind[ij]
 |d,b::t,q,h=>by
  rw[sv] at h;split at h
  ·cases h
  ·split at h
   ·exact(Bd _ t q h).trans (eL _ _)
   ·split at h
    ·cases d with
     |succ a=>exact(Bd a t q h).trans (eL _ _)
     |zero=>
      cases t with
      |nil=>cases h
      |cons c u=>
       simp only at h;split at h
       ·cases h;exact(eL _ _).trans (eL _ _)
       ·cases h
    ·exact(Bd d t q h).trans (eL _ _)
omit kB in
theorem ae.oK:ae oK:=by
 constructor
 ·grind[Eng.oK,Bd]
 grind[Eng.oK,Np]
omit kB in
theorem ae.Ts{o:H}(b:(10:UInt8)∉o)(d:o≠[]){f g:ab α}(hf:ae f)(bk:ae g):ae (λr F=>if o.isPrefixOf r then f r F else g r F):=by
 constructor
 ·intro r F a r' c h;split at h
  ·exact hf.sfx h
  ·exact bk.sfx h
 ·intro u F a r' c v hu h Z;have af:u≠[]:=by
   rintro rfl;refine Z (List.suffix_nil.1 ?_);split at h
   ·exact hf.sfx h
   ·exact bk.sfx h
  rw[Th v b hu af];split at h
  ·rename_i aq;rw[ba aq];exact hf.ok v hu h Z
  ·rename_i aq;rw[aM aq];exact bk.ok v hu h Z
omit kB in
theorem ae.ta{f:dD->ab Unit}(hf:∀l∈lo,ae (f l)):ae (ta lo n f):=by
 cases lo with
 |none=>exact ae.No
 |some l=>exact((ae.cM _).N λ_=>hf l rfl)
theorem ae.um:ae (dj lo):=by refine ae.Ts (by decide) (by decide) ((ae.cM 3).N λ_=>ae.oK) ?_;refine ae.Ts (by decide) (by decide) (ae.ta λl h=>((((kB l h).ls _ _).aG _).named _).N λ_=>ae.op _) ?_;refine ae.Ts (by decide) (by decide) (ae.ta λl h=>(kB l h).pm.named _) ?_;exact ae.cM 1
theorem zy:gn (dj lo):=by
 refine⟨ae.um kB,λ{r F r' a} e h=>?_⟩;have Z:r≠[]:=by grind[fD]
 have b:∀n (f:dD->ab Unit),(∀l∈lo,ae (f l))->0<n->ta lo n f r F= .ok () r' a->r'.length<r.length:=by
  intro n f hf af h;cases lo with
  |none=>cases h
  |some l=>have c:Eng.N (bV n) (λ_=>f l) r F= .ok () r' a:=h;obtain⟨_,an,d,M,U⟩:=bW c;cases M;have:=((hf l rfl).sfx U).length_le;grind[List.length_pos_iff,List.length_drop]
 unfold dj at h;split at h
 ·obtain⟨_,an,d,M,U⟩:=bW h;cases M;have:=(ae.oK.sfx U).length_le;grind
 ·split at h
  ·exact b 2 _ (λl h=>((((kB l h).ls _ _).aG _).named _).N λ_=>ae.op _) (by decide) h
  ·split at h
   ·exact b 2 _ (λl h=>(kB l h).pm.named _) (by decide) h
   grind[List.length_pos_iff,List.length_drop]
theorem ae.command(hD:gn D):ae (fA fr lo D):=by
 refine ae.gf (λt a=>?_) (by simp[ae.b5]);rw[aM a];refine ae.ite ((ae.cp kB t).N λ_=>ae.l4 hD) ?_;cases t with
 |eof=>grind
 |line=>exact ae.n_
 |op o=>exact ae.ite ((ae.gP hD).N λ_=>ae.simple hD _) ae.n_
 |word w p=>
  refine ae.ite ae.n_ ((ae.gP hD).N λb=>ae.ite (ae.simple hD _) ((ae.word hD).N λ_=>ae.ite (ae.gf (λt a=>?_) ?_) (ae.simple hD _)))
  ·exact ae.ite ((ae.function kB).N λ_=>ae.ite (ae.ret _) (ae.l4 hD)) (ae.simple hD _)
  simp_all[ae.simple]
omit kB in
theorem ae.pipe{c2:ab Unit}(aq:ae c2):ae (fv c2):=by
 have az:ae (Eng.N (cQ.aG [120]) λ_=>Eng.N c2 λ_=>aU (.inl ()):ab (Unit⊕Unit)):=(ae.lines.aG _).N λ_=>aq.N λ_=>ae.ret _;refine(ae.c4 _).N λt=>(ae.ite (ae.cM _) (ae.ret _)).N λ_=>aq.N λ_=>ae.rep (fP.of (λ_=>(ae.c4 _).N λt=>ae.ite ((ae.cM _).N λ_=>az) (ae.ret _)) (λ_=>fW.c4 (λt a=>fW.ite (fW.Dn (lx.cM 0) λ_=>az) (fW.inr _)) ?_) (λ_=>iR.c4 ?_)) ()
 ·simp[iR.inr]
 simp[iR.inr]
omit kB in
theorem ae.oc{a:ab Unit}(aq:ae a):ae (hR a):=by
 have az:ae (Eng.N (cQ.aG [120]) λ_=>Eng.N a λ_=>aU (.inl ()):ab (Unit⊕Unit)):=(ae.lines.aG _).N λ_=>aq.N λ_=>ae.ret _;refine aq.N λ_=>ae.rep (fP.of (λ_=>(ae.c4 _).N λt=>ae.ite ((ae.cM _).N λ_=>az) (ae.ret _)) (λ_=>fW.c4 (λt b=>fW.ite (fW.Dn (lx.cM 1) λ_=>az) (fW.inr _)) ?_) (λ_=>iR.c4 ?_)) ()
 ·simp[iR.inr]
 simp[iR.inr]
end
def jB(c:Ctx)(n:Nat)(t:Tok):ab (Nat⊕Nat):=match t with
    | .eof=>aU (.inl (n+1))
    | .line=>N cQ λ_=>aU (.inl (n+1))
    | .word _ _=>b6
    | .op o=>if o=[59]\/o=[38] then N (bV 1) λ_=>N cQ λ_=>aU (.inl (n+1)) else if dC c t then aU (.inr (n+1)) else b6
def fw(cX:ab Unit)(c:Ctx)(none:Bool)(n:Nat):ab (Nat⊕Nat):=N (bN (if none||n>0 then [] else [120])) λt=>
 if t= .eof then(if c= .text then aU (.inr n) else b5 (if none||n>0 then [] else [120])) else if(none||n>0)&&dC c t then aU (.inr n) else
 N cX λ_=>N (bN []) (jB c n)
theorem td(cX:ab Unit)(c:Ctx)(none:Bool):np cX c none=N (cQ.aG (if none then [] else [120])) λ_=>cD (fw cX c none) 0:=rfl
theorem ae.al5(c:Ctx)(n:Nat):ae (Eng.N (bN []) (jB c n)):=by
 refine ae.gf (λt a=>?_) (ae.ret _);cases t with
 |eof=>grind
 |line=>exact(ae.lines.N λ_=>ae.ret _)
 |word w p=>exact ae.n_
 |op o=>exact ae.ite ((ae.cM _).N λ_=>ae.lines.N λ_=>ae.ret _) (ae.ite (ae.ret _) ae.n_)
theorem fP.round(g:ae cX)(c:Ctx)(none:Bool):fP (fw cX c none):=by
 refine⟨λn=>(ae.c4 _).N λt=>ae.ite (ae.ite (ae.ret _) (ae.b5 _)) (ae.ite (ae.ret _) (g.N λ_=>ae.al5 c n)),λ{n r F i r' z} h=>?_⟩;obtain⟨t,an,A,M,U⟩:=bW h;obtain⟨j,rfl,rfl⟩:=nr M;have B:=(eV j).length_le;split at U
 ·split at U<;>cases U
 ·rename_i bj;have C:=Px.2 λe=>bj (jd.2 e);split at U
  ·cases U
  ·obtain⟨_,D,E,k,l⟩:=bW U;have av:=(g.sfx k).length_le;obtain⟨t,m,G,q,a⟩:=bW l;obtain⟨s,rfl,rfl⟩:=nr q;have a3:=(eV s).length_le;cases b:ar m with
   |eof=>rw[b] at a;cases a;grind[jd]
   |line=>obtain⟨t,rfl⟩:=wL b;obtain⟨_,u,v,d,f⟩:=bW a;cases f;have:=ZN d;omega
   |word w p=>rw[b] at a;cases a
   |op o=>
    rw[b] at a;unfold jB at a;simp only at a;split at a
    ·obtain⟨_,u,v,d,f⟩:=bW a;cases d;obtain⟨_,H,I,x,y⟩:=bW f;cases y;have J:=(ae.lines.sfx x).length_le;grind
    ·split at a<;>cases a
theorem ae.list(a:ae cX)(c:Ctx)(none:Bool):ae (np cX c none):=by exact(ae.lines.aG _).N λ_=>ae.rep (fP.round a c none) 0
theorem Tt(kB:∀l∈lo,uj l)(b:Bool):uj {ls:=np (hR (fv (fA fr lo (dj lo)))),pm:=qp (dj lo),cp:=rU lo,rd:=gH (dj lo),dl:=dj lo,has:=b}:=
 have hD:=zy kB
 ⟨λc n=>ae.list (ae.oc (ae.pipe (ae.command kB hD))) c n,ae.param hD,ae.cp kB,ae.l4 hD,hD⟩
theorem rW(fr:Bool):∀n,uj (aW fr n)
 |0=>Tt (λl h=>by cases h) false
 |n+1=>Tt (λl h=>by cases h;exact rW fr n) true
def c7{α:Type}(f:ab α):Prop:=∀⦃u:H⦄ ⦃F:ag⦄ ⦃a:α⦄ ⦃r':H⦄ ⦃b:ag⦄,cx u->u≠[]->f u F= .ok a r' b->r'≠[]
def NE{α:Type}(f:ab α):Prop:=∀⦃u:H⦄ ⦃F:ag⦄ ⦃a:α⦄ ⦃r':H⦄ ⦃b:ag⦄,cx u->f u F= .ok a r' b->r'≠[]
theorem NE.k{f:ab α}(h:NE f):c7 f:=λ_ _ _ _ _ hu _ e=>h hu e
theorem NE.od{β:Type}{m:ab α}{k:α->ab β}(c:ae m)(hm:NE m)(az:∀a,c7 (k a)):NE (N m k):=by intro u F b r' d hu h;obtain⟨a,an,e,M,U⟩:=bW h;exact az a (hu.sfx (c.sfx M)) (hm hu M) U
theorem NE.kj{β:Type}{m:ab α}{k:α->ab β}(c:ae m)(az:∀a,NE (k a)):NE (N m k):=by intro u F b r' d hu h;obtain⟨a,an,e,M,U⟩:=bW h;exact az a (hu.sfx (c.sfx M)) U
theorem c7.N{β:Type}{m:ab α}{k:α->ab β}(c:ae m)(hm:c7 m)(az:∀a,c7 (k a)):c7 (Eng.N m k):=by intro u F b r' d hu af h;obtain⟨a,an,e,M,U⟩:=bW h;exact az a (hu.sfx (c.sfx M)) (hm hu af M) U
theorem c7.ret(a:α):c7 (aU a):=by intro u F b r' c hu af h;cases h;exact af
theorem NE.more(x:H):NE (b5 x:ab α):=by intro u F b r' a hu h;cases h
theorem NE.bad:NE (b6:ab α):=by intro u F b r' a hu h;cases h
theorem NE.deep:NE (Dk:ab α):=by intro u F b r' a hu h;cases h
theorem c7.ite{c:Prop}[Decidable c]{f g:ab α}(hf:c7 f)(bk:c7 g):c7 (if c then f else g):=by grind
theorem NE.ite{c:Prop}[Decidable c]{f g:ab α}(hf:NE f)(bk:NE g):NE (if c then f else g):=by grind
theorem NE.aG{m:ab α}(h:NE m)(x:H):NE (m.aG x):=λ_ _ _ _ _ hu e=>h hu (hn.1 e)
theorem NE.named{m:ab α}(h:NE m)(x:H):NE (m.named x):=λ_ _ _ _ _ hu e=>h hu (FW.1 e)
theorem c7.c4(x:H):c7 (bN x):=by intro u F t r' a hu af h;obtain⟨M,_,_⟩:=nr h;exact(ui [] M hu af).1
theorem NE.gf{k:Tok->ab α}(h:∀t r,t≠ .eof->cx r->ar r=t->∀{F a r' c},k t r F= .ok a r' c->r'≠[])(h0:NE (k .eof)):NE (N (bN x) k):=by
 intro u F b r' c hu e;obtain⟨t,an,g,M,U⟩:=bW e;obtain⟨d,rfl,rfl⟩:=nr M;have Z:=hu.sfx (eV d);by_cases f:ar an= .eof
 ·rw[f] at U;exact h0 Z U
 grind
theorem FZ{o:H}(a:(10:UInt8)∉o)(ah:o<+:r)(Z:cx r)(af:r≠[]):r.drop o.length≠[]:=by obtain⟨t,rfl⟩:=ah;rw[pq];rintro rfl;grind[al1]
theorem al6:bt r∈l2\/bt r=[]:=by
 unfold bt;cases h:l2.find? (λo=>o.isPrefixOf r) with
 |none=>simp
 |some o=>grind
theorem Tu:(10:UInt8)∉bt r:=by
 rcases al6 (r:=r) with h|h
 ·have:∀o∈l2,(10:UInt8)∉o:=by decide
  grind
 grind
theorem ib{o:H}(h:ar r= .op o):o=bt r/\o<+:r/\(10:UInt8)∉o/\o≠[]:=by
 cases r with
 |nil=>grind[ar]
 |cons b t=>
  simp only[ar] at h;split at h
  ·cases h
  ·split at h
   ·rename_i M;cases h;exact⟨rfl,Nm,Tu,M⟩
   grind
theorem F0:∀(r w:H),di r=(w,true)->w<+:r/\(10:UInt8)∉w
 |[],w,h=>by grind[di]
 |b::t,w,h=>by
  rw[di] at h;split at h
  ·grind
  ·rename_i d;split at h
   ·cases h
   ·split at h
    ·rename_i w' a;cases h;obtain⟨c,e⟩:=F0 t w' a;refine⟨List.cons_prefix_cons.2 ⟨rfl,c⟩,?_⟩;simp only[lS,B0];grind[xN]
    grind
theorem q8{w:H}(h:ar r= .word w true):w<+:r/\(10:UInt8)∉w:=by
 cases r with
 |nil=>grind[ar]
 |cons b t=>grind[ar,Tok.word.injEq,F0]
theorem NE.exp{b:Tok->Bool}(h:∀r t,cx r->ar r=t->b t=true->r.drop n≠[]):NE (mL b n):=by
 refine NE.gf (λt r c Z he {F a r' d} e=>?_) ?_
 ·rw[aM c] at e;split at e
  ·rename_i f;cases e;grind
  ·cases e
 ·rw[ba rfl];exact NE.more _
theorem NE.op(o:H):NE (jr o):=by
 refine NE.exp λr t Z he b=>?_;have:t= .op o:=by grind
 subst this;obtain⟨M,U,a,c⟩:=ib he;exact FZ a U Z (by grind)
theorem NE.res(w:H):NE (cI w):=by
 refine NE.exp λr t Z he a=>?_;have:t= .word w true:=by grind[cm]
 subst this;obtain⟨M,U⟩:=q8 he;exact FZ U M Z (by rintro rfl;grind[ar])
theorem Js(P Q:H->ag->Prop)(M:∀s r F s' r' b,P r F->f s r F= .ok (.inl s') r' b->P r' b)(U:∀s r F a r' b,P r F->f s r F= .ok (.inr a) r' b->Q r' b):
  ∀(n:Nat)(s:σ)(r:H)(F:ag)(a:α)(r':H)(b:ag),r.length<=n->P r F->cD f s r F= .ok a r' b->Q r' b:=by
 intro n;induction n with
 |zero=>grind[vw]
 |succ n c=>intro s r F a r' b af ah h;rw[vw] at h;grind
theorem Nq(hf:fP f)(P:H->Prop)(Q:H->Prop)(M:∀s r F s' r' b,P r->f s r F= .ok (.inl s') r' b->P r')(U:∀s r F a r' b,P r->f s r F= .ok (.inr a) r' b->Q r'):
 ∀(n:Nat)(s:σ)(r:H)(F:ag)(a:α)(r':H)(b:ag),r.length<=n->P r->cD f s r F= .ok a r' b->Q r':=Js (λr _=>P r) (λr _=>Q r) M U
theorem NE.word{D:ab Unit}(hD:gn D):NE (cR D):=by
 intro u F a r' b hu h;refine Nq (fP.word hD) (λ_=>True) (λr=>r≠[]) (λ_ _ _ _ _ _ _ _=>trivial) ?_ _ _ _ _ _ _ _ (cS _) trivial h;intro s r F a r' b _ e;split at e
 ·cases e
 ·split at e
  ·grind
  ·obtain⟨_,_,_,_,e⟩:=bW e;cases e
theorem NE.oM(tabs:Bool):NE (gm tabs):=by intro u F a r' b hu h;grind[Dp,wK]
theorem NE.xR(hD:gn D)(x:H):NE (jP D x):=by
 refine NE.gf (λt r b Z he {F a r' c} e=>?_) (NE.more x);cases t with
 |eof=>grind
 |word w p=>exact NE.word hD Z e
 |_=>cases e
theorem c7.gP(hD:gn D):c7 (dM D):=by
 intro u F a r' f hu af h;obtain⟨o,an,g,M,U⟩:=bW h;cases o with
 |none=>
  cases U;unfold fI at M;split at M
  ·cases M
  ·rename_i q b;simp only at M;split at M
   ·cases M
   ·cases M;exact(ui [] b hu af).1
 |some o=>obtain⟨_,i,j,c,d⟩:=bW U;cases d;have e:=hu.sfx (ae.Bc.sfx M);have:NE (if o=[60,60] then gm false else if o=[60,60,45] then gm true else jP D [120]):=NE.ite (NE.oM _) (NE.ite (NE.oM _) (NE.xR hD _));exact this e c
theorem ZP(hD:gn D):fP (λ(_:Unit)=>N (dM D) λb=>aU (if b then .inl () else .inr ()):Unit->ab (Unit⊕Unit)):=by
 refine⟨λ_=>(ae.gP hD).N λb=>ae.ret _,λ{s r F s' r' a} h=>?_⟩;obtain⟨b,an,c,M,U⟩:=bW h;cases b with
 |true=>cases U;exact tc hD M
 |false=>cases U
theorem c7.rep(hf:fP f)(az:∀s,c7 (f s))(s:σ):c7 (cD f s):=by intro u F a r' b hu af h;have:=Nq hf (λr=>cx r/\r≠[]) (λr=>r≠[]) (λs r F s' r' b ah e=>⟨ah.1.sfx ((hf.ex s).sfx e),az s ah.1 ah.2 e⟩) (λs r F a r' b ah e=>az s ah.1 ah.2 e);exact this _ _ _ _ _ _ _ (cS _) ⟨hu,af⟩ h
theorem c7.l4(hD:gn D):c7 (gH D):=c7.rep (ZP hD) (λ_=>c7.N (ae.gP hD) (c7.gP hD) λb=>c7.ret _) ()
theorem ZQ(hD:gn D)(fr:Bool):fP (λ(_:Unit)=>N (dM D) λb=>if b then aU (.inl ()) else N (bN []) λt=>match t with
 | .word _ _=>N (cR D) λ_=>aU (.inl ())
 | .op o=>if fr/\o=[40] then b6 else aU (.inr ())
 |_=>aU (.inr ()):Unit->ab (Unit⊕Unit)):=by
 have he:ae (N (bN []) λt=>match t with
  | .word _ _=>N (cR D) λ_=>aU (.inl ())
  | .op o=>if fr/\o=[40] then b6 else aU (.inr ())
  |_=>aU (.inr ()):ab (Unit⊕Unit)):=by
  refine ae.gf (λt a=>?_) (ae.ret _);cases t with
  |word w p=>exact((ae.word hD).N λ_=>ae.ret _)
  |op o=>exact ae.ite ae.n_ (ae.ret _)
  |_=>exact(ae.ret _)
 have aw:fW (N (bN []) λt=>match t with
  | .word _ _=>N (cR D) λ_=>aU (.inl ())
  | .op o=>if fr/\o=[40] then b6 else aU (.inr ())
  |_=>aU (.inr ()):ab (Unit⊕Unit)):=by
  refine fW.Jo hD (λt a c=>?_) (iR.inr _) (λw p=>⟨cR D,_,rfl,Iff.rfl,λ_=>ae.ret _⟩);cases t with
  |word w p=>grind
  |op o=>simp[fW.ite,fW.bad,fW.inr]
  |_=>simp[fW.inr]
 refine⟨λ_=>(ae.gP hD).N λb=>ae.ite (ae.ret _) he,λ{s r F s' r' d} h=>?_⟩;obtain⟨b,an,e,M,U⟩:=bW h;cases b with
 |true=>cases U;exact tc hD M
 |false=>
  have f:=((ae.gP hD).sfx M).length_le;by_cases af:an=[]
  ·subst af;simp only[fR,cZ] at U;have:iR (N (bN []) λt=>match t with
    | .word _ _=>N (cR D) λ_=>aU (.inl ())
    | .op o=>if fr/\o=[40] then b6 else aU (.inr ())
    |_=>aU (.inr ()):ab (Unit⊕Unit)):=iR.c4 (iR.inr _)
   exact absurd U this
  ·simp only[fR,cZ] at U;have:=aw af U;omega
theorem c7.simple(hD:gn D)(fr:Bool):c7 (gS fr D):=by
 refine c7.rep (ZQ hD fr) (λ_=>c7.N (ae.gP hD) (c7.gP hD) λb=>c7.ite (c7.ret _) ?_) ();refine c7.N (ae.c4 _) (c7.c4 _) λt=>?_;cases t with
 |word w p=>exact c7.N (ae.word hD) (NE.word hD).k λ_=>c7.ret _
 |op o=>exact c7.ite NE.bad.k (c7.ret _)
 |_=>simp[c7.ret]
structure Jt(l:dD):Prop where
 cp:∀t,NE (l.cp t)
 rd:c7 l.rd
section
variable{l:dD}(aw:uj l)
include aw
theorem NE.body(x:H):NE (h3 l x):=NE.kj ((ae.res _).aG _) λ_=>NE.kj ((aw.ls _ _).aG _) λ_=>NE.res _
theorem NE.rep(hf:fP f)(az:∀s {u F a r' b},cx u->f s u F= .ok (.inr a) r' b->r'≠[])(s:σ):NE (cD f s):=by intro u F a r' b hu h;have:=Nq hf (λr=>cx r) (λr=>r≠[]) (λs r F s' r' b ah e=>ah.sfx ((hf.ex s).sfx e)) (λs r F a r' b ah e=>az s ah e);exact this _ _ _ _ _ _ _ (cS _) hu h
theorem Tv:fP (λ(_:Unit)=>N ((l.ls .rT false).aG ([10]++hQ++[32,120,10]++ea)) λ_=>N (cI hQ) λ_=>N ((l.ls .pL false).aG (10::ea)) λ_=>
  N (bN []) λt=>if cm t h_ then N (cI h_) λ_=>aU (.inl ()) else
   if cm t gy then N (cI gy) λ_=>N ((l.ls .ko false).aG (10::ea)) λ_=>N (cI ea) λ_=>aU (.inr ()) else N (cI ea) λ_=>aU (.inr ()):Unit->ab (Unit⊕Unit)):=by
 refine⟨λ_=>((aw.ls _ _).aG _).N λ_=>(ae.res _).N λ_=>((aw.ls _ _).aG _).N λ_=>(ae.c4 _).N λt=>ae.ite ((ae.res _).N λ_=>ae.ret _) (ae.ite ((ae.res _).N λ_=>((aw.ls _ _).aG _).N λ_=>(ae.res _).N λ_=>ae.ret _) ((ae.res _).N λ_=>ae.ret _)),λ{s r F s' r' f} h=>?_⟩;obtain⟨_,an,g,M,h⟩:=bW h;obtain⟨_,i,j,U,h⟩:=bW h;obtain⟨_,k,m,d,h⟩:=bW h;obtain⟨t,n,o,e,h⟩:=bW h;have p:=((aw.ls _ _).sfx (hn.1 M)).length_le;have av:=((ae.res _).sfx U).length_le;have a3:=((aw.ls _ _).sfx (hn.1 d)).length_le;have q:=((ae.c4 _).sfx e).length_le;split at h
 ·obtain⟨_,b,c,a,h⟩:=bW h;cases h;have:=To (by decide) a;omega
 ·split at h
  ·obtain⟨_,b,c,a,h⟩:=bW h;obtain⟨_,u,v,w,h⟩:=bW h;obtain⟨_,x,y,z,h⟩:=bW h;cases h
  ·obtain⟨_,b,c,a,h⟩:=bW h;cases h
theorem NE.cond:NE (q4 l):=by
 refine NE.rep aw (Tv aw) (λs {u F a r' o} hu h=>?_) ();obtain⟨_,an,p,M,h⟩:=bW h;obtain⟨_,q,r,U,h⟩:=bW h;obtain⟨_,v,w,f,h⟩:=bW h;obtain⟨t,x,y,g,h⟩:=bW h;have i:=hu.sfx ((aw.ls _ _).sfx (hn.1 M));have j:=i.sfx ((ae.res _).sfx U);have k:=j.sfx ((aw.ls _ _).sfx (hn.1 f));have c:=k.sfx ((ae.c4 _).sfx g);split at h
 ·obtain⟨_,d,e,b,h⟩:=bW h;cases h
 ·split at h
  ·obtain⟨_,d,e,b,h⟩:=bW h;obtain⟨_,z,A,m,h⟩:=bW h;obtain⟨_,B,C,n,h⟩:=bW h;cases h;exact NE.res _ ((c.sfx ((ae.res _).sfx b)).sfx ((aw.ls _ _).sfx (hn.1 m))) n
  ·obtain⟨_,d,e,b,h⟩:=bW h;cases h;exact NE.res _ c b
theorem NE.for_(hD:gn D):NE (pM l D):=by
 have a:ae (N (bN []) λt=>if t= .op [59] then N (bV 1) λ_=>N cQ λ_=>aU () else
   N cQ λ_=>N (bN []) λt=>if cm t eb then N (bV 2) λ_=>N (oL D) λ_=>N cQ λ_=>aU () else aU ()):=
  (ae.c4 _).N λt=>ae.ite ((ae.cM _).N λ_=>ae.lines.N λ_=>ae.ret _) (ae.lines.N λ_=>(ae.c4 _).N λt=>ae.ite ((ae.cM _).N λ_=>(ae.words hD).N λ_=>ae.lines.N λ_=>ae.ret _) (ae.ret _))
 refine NE.kj (ae.c4 _) λt=>?_;cases t with
 |eof=>simp[NE.more]
 |word w p=>
  cases p with
  |true=>exact NE.ite (NE.kj (ae.cM _) λ_=>NE.kj (a.aG _) λ_=>NE.body aw _) NE.bad
  |false=>exact NE.bad
 |_=>exact NE.bad
end
theorem Be{w:H}(he:cm (ar r) w=true)(af:n=w.length)(Z:cx r):r.drop n≠[]:=by
 have:ar r= .word w true:=by grind[cm]
 obtain⟨M,U⟩:=q8 this;subst af;exact FZ U M Z (by rintro rfl;grind[ar])
theorem te{o:H}(he:ar r= .op o)(af:n=o.length)(Z:cx r):r.drop n≠[]:=by obtain⟨M,U,a,b⟩:=ib he;subst af;exact FZ a U Z (by grind)
section
variable{l:dD}(aw:uj l)
include aw
theorem Tw(hD:gn D):fP (λ(_:Unit)=>N cQ λ_=>N (bN []) λt=>if t= .eof then b5 [] else if cm t dt then N (bV 4) λ_=>aU (.inr ()) else
 N ((if t= .op [40] then bV 1 else aU ())) λ_=>N (lb D) λ_=>N (l.ls .item true) λ_=>N (bN []) λt=>if t= .op [59,59] then N (bV 2) λ_=>aU (.inl ()) else aU (.inl ()):Unit->ab (Unit⊕Unit)):=by
 have a:ae (N (lb D) λ_=>N (l.ls .item true) λ_=>N (bN []) λt=>if t= .op [59,59] then N (bV 2) λ_=>aU (.inl ()) else aU (.inl ()):ab (Unit⊕Unit)):=
  (ae.uk hD).N λ_=>(aw.ls _ _).N λ_=>(ae.c4 _).N λt=>ae.ite ((ae.cM _).N λ_=>ae.ret _) (ae.ret _)
 refine⟨λ_=>ae.lines.N λ_=>(ae.c4 _).N λt=>ae.ite (ae.b5 _) (ae.ite ((ae.cM _).N λ_=>ae.ret _) ((ae.ite (ae.cM _) (ae.ret _)).N λ_=>a)),λ{s r F s' r' g} h=>?_⟩;obtain⟨_,an,i,M,h⟩:=bW h;obtain⟨t,j,k,U,h⟩:=bW h;have m:=(ae.lines.sfx M).length_le;have av:=((ae.c4 _).sfx U).length_le;split at h
 ·cases h
 ·split at h
  ·obtain⟨_,_,_,_,h⟩:=bW h;cases h
  ·obtain⟨_,n,o,b,h⟩:=bW h;have a3:=((ae.ite (ae.cM 1) (ae.ret ())).sfx b).length_le;obtain⟨_,p,q,c,h⟩:=bW h;have u:=Tq hD c;obtain⟨_,v,w,d,h⟩:=bW h;have x:=((aw.ls _ _).sfx d).length_le;obtain⟨_,y,z,e,h⟩:=bW h;have A:=((ae.c4 _).sfx e).length_le;split at h
   ·obtain⟨_,B,C,f,h⟩:=bW h;cases h;have:=((ae.cM 2).sfx f).length_le;omega
   ·cases h;omega
theorem NE.items(hD:gn D):NE (nn l D):=by
 refine NE.rep aw (Tw aw hD) (λs {u F a r' n} hu h=>?_) ();obtain⟨_,an,o,M,f⟩:=bW h;obtain⟨t,p,q,U,b⟩:=bW f;obtain⟨g,rfl,rfl⟩:=nr U;have i:=(hu.sfx (ae.lines.sfx M)).sfx (eV g);split at b
 ·cases b
 ·split at b
  ·rename_i he;obtain⟨_,_,_,e,c⟩:=bW b;cases e;cases c;exact Be he rfl i
  ·obtain⟨_,r,v,e,c⟩:=bW b;obtain⟨_,w,x,y,j⟩:=bW c;obtain⟨_,z,A,B,k⟩:=bW j;obtain⟨_,C,E,G,d⟩:=bW k;split at d
   ·obtain⟨_,H,I,J,m⟩:=bW d;cases m
   ·cases d
theorem NE.vz(hD:gn D):NE (q5 l D):=by
 have M:ae (N (cR D) λ_=>N cQ λ_=>N (bN []) λt=>if t= .eof then b5 [] else aU t):=
  (ae.word hD).N λ_=>ae.lines.N λ_=>(ae.c4 _).N λt=>ae.ite (ae.b5 _) (ae.ret _)
 refine NE.kj (ae.c4 _) λt=>?_;cases t with
 |eof=>simp[NE.more]
 |word w p=>exact NE.kj (M.aG _) λt=>NE.ite (NE.kj (ae.cM _) λ_=>NE.aG (NE.items aw hD) _) NE.bad
 |_=>exact NE.bad
theorem NE.kind(t:Tok):NE (hd l t):=by
 cases t with
 |op o=>show NE (N (bV 1) λ_=>N ((l.ls .paren false).aG [41]) λ_=>jr [41]);exact NE.kj (ae.cM _) λ_=>NE.kj ((aw.ls _ _).aG _) λ_=>NE.op _
 |word w p=>unfold hd;exact NE.kj (ae.cM _) λ_=>NE.ite (NE.kj ((aw.ls _ _).aG _) λ_=>NE.res _) (NE.ite (NE.cond aw) (NE.ite (NE.for_ aw aw.dl) (NE.ite (NE.vz aw aw.dl) (NE.kj ((aw.ls _ _).aG _) λ_=>NE.body aw _))))
 |_=>exact NE.bad
end
section
variable(kB:∀l∈lo,uj l)(hle:∀l∈lo,Jt l)
include kB hle
omit hle in
theorem NE.cp(t:Tok):NE (rU lo t):=by
 cases lo with
 |none=>exact NE.deep
 |some l=>exact NE.named (NE.kind (kB l rfl) t) _
theorem NE.function:NE (kU fr lo):=by
 cases lo with
 |none=>exact NE.deep
 |some l=>
  have aw:=kB l rfl;have he:=hle l rfl;unfold kU;simp only;refine NE.ite (NE.named ?_ _) NE.deep;refine NE.kj (ae.cM _) λ_=>NE.kj (ae.c4 _) λt=>NE.ite (NE.more _) (NE.ite ?_ NE.bad);refine NE.kj (ae.cM _) λ_=>NE.kj (ae.lines.aG _) λ_=>NE.kj (ae.c4 _) λt=>NE.ite (NE.more _) (NE.ite ?_ NE.bad);intro u F b r' d hu h;obtain⟨_,an,e,M,U⟩:=bW h;have c:=hu.sfx ((aw.cp t).sfx M);have a:=he.cp t hu M;split at U
  ·exact he.rd c a U
  ·cases U;exact a
theorem NE.command(hD:gn D):NE (fA fr lo D):=by
 refine NE.gf (λt r k Z he {F a r' z} e=>?_) (by rw[ba rfl];exact NE.more _);have l:r≠[]:=by rintro rfl;exact k he.symm
 rw[aM k] at e;split at e
 ·obtain⟨_,an,v,M,U⟩:=bW e;exact c7.l4 hD (Z.sfx ((ae.cp kB t).sfx M)) (NE.cp kB t Z M) U
 ·cases t with
  |eof=>grind
  |line=>cases e
  |op o=>
   simp only at e;split at e
   ·exact c7.N (ae.gP hD) (c7.gP hD) (λ_=>c7.simple hD fr) Z l e
   ·cases e
  |word w p=>
   simp only at e;split at e
   ·cases e
   ·obtain⟨b,an,v,M,U⟩:=bW e;have c:=Z.sfx ((ae.gP hD).sfx M);have x:=c7.gP hD Z l M;split at U
    ·exact c7.simple hD fr c x U
    ·obtain⟨_,A,B,m,d⟩:=bW U;have f:=c.sfx ((ae.word hD).sfx m);have n:=NE.word hD c m;split at d
     ·obtain⟨C,E,G,q,g⟩:=bW d;have h:=f.sfx ((ae.c4 _).sfx q);have y:=c7.c4 _ f n q;split at g
      ·obtain⟨_,H,I,s,i⟩:=bW g;have j:=h.sfx ((ae.function kB).sfx s);have u:=NE.function kB hle h s;split at i
       ·cases i;exact u
       ·exact c7.l4 hD j u i
      ·exact c7.simple hD fr h y g
     ·exact c7.simple hD fr f n d
end
theorem al8{c2:ab Unit}(aq:ae c2):fP (λ(_:Unit)=>N (bN []) λt=>if t= .op [124] then N (bV 1) λ_=>N (cQ.aG [120]) λ_=>N c2 λ_=>aU (.inl ()) else aU (.inr ()):Unit->ab (Unit⊕Unit)):=by
 have az:ae (N (cQ.aG [120]) λ_=>N c2 λ_=>aU (.inl ()):ab (Unit⊕Unit)):=(ae.lines.aG _).N λ_=>aq.N λ_=>ae.ret _;refine fP.of (λ_=>(ae.c4 _).N λt=>ae.ite ((ae.cM _).N λ_=>az) (ae.ret _)) (λ_=>fW.c4 (λt a=>fW.ite (fW.Dn (lx.cM 0) λ_=>az) (fW.inr _)) ?_) (λ_=>iR.c4 ?_)
 ·simp[cZ,iR.inr]
 simp[cZ,iR.inr]
theorem NE.pipe{c2:ab Unit}(a:ae c2)(aq:NE c2):NE (fv c2):=by refine NE.kj (ae.c4 _) λt=>NE.kj (ae.ite (ae.cM _) (ae.ret _)) λ_=>NE.od a aq λ_=>c7.rep (al8 a) (λ_=>c7.N (ae.c4 _) (c7.c4 _) λt=>c7.ite ?_ (c7.ret _)) ();refine NE.k (NE.kj (ae.cM _) λ_=>NE.kj (ae.lines.aG _) λ_=>NE.od a aq λ_=>c7.ret _)
theorem al9{a:ab Unit}(aq:ae a):fP (λ(_:Unit)=>N (bN []) λt=>if t= .op [38,38]\/t= .op [124,124] then N (bV 2) λ_=>N (cQ.aG [120]) λ_=>N a λ_=>aU (.inl ()) else aU (.inr ()):Unit->ab (Unit⊕Unit)):=by
 have az:ae (N (cQ.aG [120]) λ_=>N a λ_=>aU (.inl ()):ab (Unit⊕Unit)):=(ae.lines.aG _).N λ_=>aq.N λ_=>ae.ret _;refine fP.of (λ_=>(ae.c4 _).N λt=>ae.ite ((ae.cM _).N λ_=>az) (ae.ret _)) (λ_=>fW.c4 (λt b=>fW.ite (fW.Dn (lx.cM 1) λ_=>az) (fW.inr _)) ?_) (λ_=>iR.c4 ?_)
 ·simp[or_self,cZ,iR.inr]
 simp[or_self,cZ,iR.inr]
theorem NE.oc{a:ab Unit}(b:ae a)(aq:NE a):NE (hR a):=by refine NE.od b aq λ_=>c7.rep (al9 b) (λ_=>c7.N (ae.c4 _) (c7.c4 _) λt=>c7.ite ?_ (c7.ret _)) ();refine NE.k (NE.kj (ae.cM _) λ_=>NE.kj (ae.lines.aG _) λ_=>NE.od b aq λ_=>c7.ret _)
theorem al_(fr:Bool):∀n,Jt (aW fr n)
 |0=>⟨λt=>NE.cp (lo:=none) (λl h=>by cases h) t,c7.l4 (zy (lo:=none) λl h=>by cases h)⟩
 |n+1=>⟨λt=>NE.cp (lo:=some (aW fr n)) (λl h=>by grind[rW]) t,c7.l4 (zy (lo:=some (aW fr n)) λl h=>by grind[rW])⟩
def l5(fr:Bool):Nat->ab Unit
 |0=>hR (fv (fA fr none (dj none)))
 |n+1=>hR (fv (fA fr (some (aW fr n)) (dj (some (aW fr n)))))
theorem Dr(fr:Bool)(n:Nat):(aW fr n).ls=np (l5 fr n):=by cases n<;>rfl
theorem ama(fr:Bool):∀n,ae (l5 fr n)/\NE (l5 fr n)
 |0=>by
  have M:∀l∈(none:Option dD),uj l:=λl h=>by cases h
  have U:∀l∈(none:Option dD),Jt l:=λl h=>by cases h
  have a:=ae.command (fr:=fr) M (zy M);exact⟨ae.oc (ae.pipe a),NE.oc (ae.pipe a) (NE.pipe a (NE.command M U (zy M)))⟩
 |n+1=>by
  have M:∀l∈some (aW fr n),uj l:=λl h=>by grind[rW]
  have U:∀l∈some (aW fr n),Jt l:=λl h=>by grind[al_]
  have a:=ae.command (fr:=fr) M (zy M);exact⟨ae.oc (ae.pipe a),NE.oc (ae.pipe a) (NE.pipe a (NE.command M U (zy M)))⟩
def dc{σ α:Type}(f:σ->ab (σ⊕α))(r:H)(x:dn (σ⊕α)):dn α:=match x with
 | .ok (.inl s') r' b=>if r'.length<r.length then cD f s' r' b else .bad r'
 | .ok (.inr a) r' b=> .ok a r' b
 | .more op nd ds=> .more op nd ds
 | .bad r=> .bad r
 | .deep r=> .deep r
theorem cL(f:σ->ab (σ⊕α))(s:σ)(r:H)(F:ag):cD f s r F=dc f r (f s r F):=by grind[vw,dc]
theorem dx{β:Type}{m:ab α}{k:α->ab β}{op:bs}{nd:H}(h:m r F= .more op nd ds):N m k r F= .more op nd ds:=by grind[N]
theorem hS{β:Type}{m:ab α}{k:α->ab β}{q:H}(h:m r F= .bad q):N m k r F= .bad q:=by grind[N]
theorem jC(h:bg r=none):bN x r F=b5 x r F:=by grind[bN]
theorem bL(h:bg r=some r'):bN x r F= .ok (ar r') r' F:=by grind[bN]
def iB(some:Bool):ab (Bool⊕Bool):=N (bN []) λt=>if t= .line then N kh λ_=>aU (.inl true) else aU (.inr some)
theorem uo:cQ=cD iB false:=rfl
theorem xS{b:Bool}(h:bg r=some (10::t)):iB b r F=N kh (λ_=>aU (.inl true)) (10::t) F:=by
 have:bN [] r F= .ok .line (10::t) F:=by unfold bN;rw[h];rfl
 unfold iB;rw[aJ this,ba rfl]
theorem sw{b:Bool}(h:bg r=some an)(a:ar an≠ .line):iB b r F= .ok (.inr b) an F:=by
 have:bN [] r F= .ok (ar an) an F:=by grind[bN]
 unfold iB;rw[aJ this,aM a];rfl
theorem amb(Y:bg r=some r)(he:dC c (ar r)=true)(af:ar r≠ .eof):fA fr lo D r F= .bad r:=by
 have ah:bN [120] r F= .ok (ar r) r F:=by grind[bN]
 unfold fA;rw[aJ ah]
 have a:(∃w,ar r= .word w true/\q3 w=true/\oJ w=false)\/∃o,ar r= .op o/\fm o=false/\o≠[40]:=by
  cases c<;>simp[dC,cm] at he
  ·grind
  ·exact .inr ⟨_,he,by decide,by decide⟩
  ·exact .inl ⟨_,he,by decide,by decide⟩
  ·exact .inl ⟨_,he,by decide,by decide⟩
  ·rcases he with(he|he)|he<;>exact .inl ⟨_,he,by decide,by decide⟩
  ·exact .inl ⟨_,he,by decide,by decide⟩
  ·exact .inl ⟨_,he,by decide,by decide⟩
  ·exact .inl ⟨_,he,by decide,by decide⟩
  ·rcases he with he|he
   ·exact .inr ⟨_,he,by decide,by decide⟩
   ·exact .inl ⟨_,he,by decide,by decide⟩
 rcases a with⟨w,M,U,b⟩|⟨o,M,U,b⟩
 ·simp_all[fJ,b6]
 simp_all[fJ,b6]
theorem lz:∀(n:Nat)(r r':H),r.length<=n->bg r=some r'->bg r'=some r':=by
 intro n;induction n with
 |zero=>grind[List.length_eq_zero_iff,mj]
 |succ n a=>
  intro r r' af h;cases r with
  |nil=>grind
  |cons b t=>grind[List.length_cons,m0,zv]
theorem amc{t:Tok}(he:dC c t=true):cm t [33]=false:=by
 cases t with
 |word w p=>
  cases h:cm _ _ with
  |false=>rfl
  |true=>
   have:w=[33]/\p=true:=by grind[cm]
   obtain⟨rfl,rfl⟩:=this;cases c<;>simp[dC,cm,hQ,h_,gy,ea,gd,hc,dt] at he
 |_=>rfl
theorem amd(Y:bg r=some r)(he:dC c (ar r)=true)(af:ar r≠ .eof):l5 fr m r F= .bad r:=by
 have ah:bN [120] r F= .ok (ar r) r F:=by grind[bN]
 have a:∀(lo:Option dD)(D:ab Unit),hR (fv (fA fr lo D)) r F= .bad r:=by
  intro lo D;have M:=amb (fr:=fr) (lo:=lo) (D:=D) (F:=F) Y he af;have U:fv (fA fr lo D) r F= .bad r:=by unfold fv;rw[aJ ah,amc he];simp_all[aU,N]
  simp_all[hR,N]
 cases m<;>exact a _ _
theorem Tx{none:Bool}:fw cX c none n [] F=if c= .text then .ok (.inr n) [] F else b5 (if none||n>0 then [] else [120]) [] F:=by unfold fw;rw[aJ (bL mj)];rw[show ar []= .eof from rfl,ba rfl];split<;>rfl
theorem Nr{none:Bool}(Y:bg r=some an)(af:ar an≠ .eof)(he:dC c (ar an)=false):fw cX c none n r F=N cX (λ_=>N (bN []) (jB c n)) an F:=by unfold fw;rw[aJ (bL Y),aM af,he];simp
theorem ZS{none:Bool}(Y:bg r=some an)(af:ar an≠ .eof)(he:dC c (ar an)=true)(a:(none||n>0)=true):fw cX c none n r F= .ok (.inr n) an F:=by unfold fw;rw[aJ (bL Y),aM af,he,a];rfl
theorem ame{b s:Bool}{c:ag}(hu:cx u)(af:u≠[])(h:iB b u F= .ok (.inl s) r c):c=[]:=by
 obtain⟨t,an,f,d,a⟩:=bW h;split at a
 ·obtain⟨_,g,i,j,e⟩:=bW a;cases e;cases an with
  |nil=>exact absurd rfl (c7.c4 _ hu af d)
  |cons b t=>grind[zx]
 ·cases a
theorem Bf{c:ag}{b:Bool}(h:cQ r F= .ok b r' c):bg r'=some r':=by
 refine Js _ (λr' _=>bg r'=some r') (λ_ _ _ _ _ _ _ _=>trivial) (λs r F a r' c _ h=>?_) _ _ _ _ _ _ _ (cS _) trivial (uo▸h);obtain⟨t,an,e,M,U⟩:=bW h;obtain⟨d,rfl,rfl⟩:=nr M;split at U
 ·obtain⟨_,_,_,_,h⟩:=bW U;cases h
 ·cases U;exact lz _ _ _ (cS _) d
def zz(r:H)(F:ag):Prop:=cx r/\(r=[]->F=[])
theorem zz.skip(h:zz r F)(Y:bg r=some an):zz an F:=by
 refine⟨h.1.sfx (eV Y),λe=>h.2 ?_⟩;by_cases af:r=[]
 ·exact af
 ·exact absurd e (ui [] Y h.1 af).1
theorem Ty{c:ag}{b:Bool}(aB:zz r F)(h:cQ r F= .ok b r' c):zz r' c:=by
 refine Js zz zz (λs r F s' r' c aB h=>?_) (λs r F a r' c aB h=>?_) _ _ _ _ _ _ _ (cS _) aB (uo▸h)
 ·have Y:=aB.1.sfx ((fP.lines.ex s).sfx h);by_cases af:r=[]
  ·have:=fP.lines.lt h;grind
  ·exact⟨Y,λ_=>ame aB.1 af h⟩
 ·obtain⟨t,an,e,M,U⟩:=bW h;obtain⟨d,rfl,rfl⟩:=nr M;split at U
  ·obtain⟨_,_,_,_,h⟩:=bW U;cases h
  ·cases U;exact aB.skip d
theorem Tz(k:ae cX)(l:NE cX){s:Nat}{d:ag}(hu:cx u)(h:fw cX c no n u F= .ok (.inl s) r d):s=n+1/\bg r=some r/\zz r d:=by
 obtain⟨t,an,v,M,h⟩:=bW h;split at h
 ·split at h<;>cases h
 ·split at h
  ·cases h
  ·obtain⟨_,w,x,U,h⟩:=bW h;have e:=hu.sfx ((ae.c4 _).sfx M);have f:=e.sfx (k.sfx U);obtain⟨t,m,y,o,g⟩:=bW h;obtain⟨i,rfl,rfl⟩:=nr o;have p:=(ui [] i f (l e U)).1;have b:=f.sfx (eV i);cases j:ar m<;>rw[j] at g
   ·grind[jd]
   ·obtain⟨_,_,_,a,g⟩:=bW g;cases g;exact⟨rfl,Bf a,Ty ⟨b,λh=>absurd h p⟩ a⟩
   ·unfold jB at g;simp only at g;split at g
    ·next z=>
     obtain⟨_,_,_,q,g⟩:=bW g;cases q;have:=te j (show 1=_ by grind) b;obtain⟨_,_,_,a,g⟩:=bW g;cases g;exact⟨rfl,Bf a,Ty ⟨b.sfx (iI _ _),λh=>absurd h this⟩ a⟩
    ·split at g<;>cases g
   ·cases g
theorem amf{k:Nat}(hu:cx u)(d:u≠[])(h:iA fr m u= .ok k r F):r=[]/\F=[]:=by
 unfold iA at h;rw[Dr] at h;obtain⟨_,an,f,M,U⟩:=bW h;obtain⟨g,i⟩:=ama fr m;refine Js zz (λr F=>r=[]/\F=[]) (λs r F s' r' j aB h=>(Tz g i aB.1 h).2.2) (λn r F a r' j aB e=>?_) _ _ _ _ _ _ _ (cS _) (Ty ⟨hu,λh=>absurd h d⟩ (hn.1 M)) U;obtain⟨t,an,f,M,U⟩:=bW e;obtain⟨l,rfl,rfl⟩:=nr M;split at U
 ·next h=>
  cases U;have:=jd.1 h;exact⟨this,(aB.skip l).2 this⟩
 ·split at U
  ·grind[dC,absurd]
  ·obtain⟨_,x,y,z,q⟩:=bW U;obtain⟨t,A,B,C,b⟩:=bW q;unfold jB at b;cases t with
   |eof=>cases b
   |line=>obtain⟨_,_,_,_,c⟩:=bW b;cases c
   |word w p=>cases b
   |op o=>
    simp only at b;split at b
    ·obtain⟨_,_,_,_,c⟩:=bW b;obtain⟨_,_,_,_,v⟩:=bW c;cases v
    grind[dC,b6]
def Bg{α:Type}(x y:dn α):Prop:=(∃q,x= .deep q)\/y=x\/∃op a nd ds,x= .more op nd ds/\y= .more a nd ds
def aR{α:Type}(f g:ab α):Prop:=∀r F,Bg (f r F) (g r F)
theorem aR.refl(f:ab α):aR f f:=λ_ _=> .inr (.inl rfl)
theorem aR.deep(g:ab α):aR Dk g:=λr _=> .inl ⟨r,rfl⟩
theorem aR.N{α β:Type}{m b:ab α}{k k':α->ab β}(hm:aR m b)(az:∀a,aR (k a) (k' a)):aR (Eng.N m k) (Eng.N b k'):=by
 intro r F;rcases hm r F with⟨q,h⟩|h|⟨op,d,nd,ds,M,U⟩
 ·left;simp_all[Eng.N]
 ·unfold Eng.N;rw[h];cases m r F with
  |ok a an c=>exact az a an c
  |more op nd ds=>exact .inr (.inl rfl)
  |bad q=>exact .inr (.inl rfl)
  |deep q=>exact .inl ⟨q,rfl⟩
 ·right;grind[Eng.N]
theorem aR.aG{α:Type}{m a:ab α}(hm:aR m a)(x:H):aR (m.aG x) (a.aG x):=by
 intro r F;unfold ab.aG;rcases hm r F with⟨q,h⟩|h|⟨op,b,nd,ds,M,U⟩
 ·left;grind
 ·rw[h];exact .inr (.inl rfl)
 ·rw[M,U];exact .inr (.inr ⟨_,_,_,_,rfl,rfl⟩)
theorem aR.ZT{m a:ab α}(hm:aR m a)(x:H):aR (m.named x) a:=by
 intro r F;unfold ab.named;rcases hm r F with⟨q,h⟩|h|⟨op,b,nd,ds,M,U⟩
 ·left;grind
 ·rw[h];cases m r F with
  |more op nd ds=>exact .inr (.inr ⟨_,_,_,_,rfl,rfl⟩)
  |_=>exact .inr (.inl rfl)
 ·rw[M,U];exact .inr (.inr ⟨_,_,_,_,rfl,rfl⟩)
theorem aR.amg{m a:ab α}(hm:aR m a)(x:H):aR m (a.named x):=by
 intro r F;unfold ab.named;rcases hm r F with⟨q,h⟩|h|⟨op,b,nd,ds,M,U⟩
 ·left;grind
 ·rw[h];cases m r F with
  |more op nd ds=>exact .inr (.inr ⟨_,_,_,_,rfl,rfl⟩)
  |_=>exact .inr (.inl rfl)
 ·rw[M,U];exact .inr (.inr ⟨_,_,_,_,rfl,rfl⟩)
theorem aR.named{m a:ab α}(hm:aR m a)(x y:H):aR (m.named x) (a.named y):=(hm.ZT x).amg y
theorem aR.ite{c:Prop}[Decidable c]{f g a b:ab α}(hf:aR f a)(bk:aR g b):aR (if c then f else g) (if c then a else b):=by grind
theorem aR.rep{c:σ->ab (σ⊕α)}(h:∀s,aR (f s) (c s))(s:σ):aR (cD f s) (cD c s):=by
 have b:∀(n:Nat)(s:σ)(r:H)(F:ag),r.length<=n->Bg (cD f s r F) (cD c s r F):=by
  intro n;induction n with
  |zero=>
   intro s r F af;rw[cL,cL];have Z:r=[]:=tA.1 (by omega);rcases h s r F with⟨q,e⟩|e|⟨op,i,nd,ds,d,g⟩
   ·left;exact⟨q,by rw[e];rfl⟩
   ·rw[e];cases f s r F with
    |ok x an j=>
     cases x with
     |inl s'=>right;simp_all[dc,aM]
     |inr a=>exact .inr (.inl rfl)
    |deep q=>exact .inl ⟨q,rfl⟩
    |_=>exact .inr (.inl rfl)
   ·rw[d,g];exact .inr (.inr ⟨_,_,_,_,rfl,rfl⟩)
  |succ n k=>
   intro s r F af;rw[cL,cL];rcases h s r F with⟨q,e⟩|e|⟨op,i,nd,ds,d,g⟩
   ·left;exact⟨q,by rw[e];rfl⟩
   ·rw[e];cases f s r F with
    |ok x an j=>
     cases x with
     |inl s'=>
      unfold dc;simp only;by_cases aw:an.length<r.length
      ·grind
      ·rw[aM aw,aM aw];exact .inr (.inl rfl)
     |inr a=>exact .inr (.inl rfl)
    |deep q=>exact .inl ⟨q,rfl⟩
    |_=>exact .inr (.inl rfl)
   ·rw[d,g];exact .inr (.inr ⟨_,_,_,_,rfl,rfl⟩)
 exactλr F=>b _ s r F (cS _)
section
variable{lf:ab Unit}(hD:aR D lf)
include hD
theorem aR.part{a:Option (ab Unit)}(c:match dq,a with|none,none=>True|some q,some d=>aR q d|_,_=>False):aR (cC D dq) (cC lf a):=by
 intro r F;cases r with
 |nil=>exact .inr (.inl rfl)
 |cons b t=>
  unfold cC;simp only;split
  ·exact .inr (.inl rfl)
  ·split
   ·exact .inr (.inl rfl)
   ·split
    ·exact hD _ _
    ·match dq,a,c with
     |none,none,_=>exact .inr (.inl rfl)
     |some q,some d,c=>
      simp only;split
      ·exact .inr (.inl rfl)
      ·split
       ·exact c _ _
       ·exact .inr (.inl rfl)
omit hD in
theorem aR.qq(c:UInt8){p a:ab Unit}(ah:aR p a):aR (iQ c p) (iQ c a):=by
 refine aR.rep (λ_ r F=>?_) ();cases r with
 |nil=>exact .inr (.inl rfl)
 |cons b t=>
  simp only;split
  ·exact .inr (.inl rfl)
  ·exact aR.N ah (λ_=>aR.refl _) _ _
theorem aR.double:aR (eP D) (eP lf):=((aR.qq 34 (aR.part hD trivial)).aG _).named _ _
theorem aR.pN:aR (cC D (some (eP D))) (cC lf (some (eP lf))):=aR.part hD (aR.double hD)
theorem aR.param:aR (qp D) (qp lf):=(aR.qq 125 (aR.pN hD)).aG _
theorem aR.word:aR (cR D) (cR lf):=by
 refine aR.rep (λ_ r F=>?_) ();cases r with
 |nil=>exact .inr (.inl rfl)
 |cons b t=>
  simp only;split
  ·exact .inr (.inl rfl)
  ·exact aR.N (aR.pN hD) (λ_=>aR.refl _) _ _
theorem aR.xR(x:H):aR (jP D x) (jP lf x):=by refine aR.N (aR.refl _) λt=>?_;grind[aR.word,aR.refl]
theorem aR.gP:aR (dM D) (dM lf):=by
 refine aR.N (aR.refl _) λo=>?_;cases o with
 |none=>simp[aR.refl]
 |some o=>exact aR.N (aR.ite (aR.refl _) (aR.ite (aR.refl _) (aR.xR hD _))) λ_=>aR.refl _
theorem aR.l4:aR (gH D) (gH lf):=aR.rep (λ_=>aR.N (aR.gP hD) λ_=>aR.refl _) ()
theorem aR.words:aR (oL D) (oL lf):=by refine aR.rep (λ_=>aR.N (aR.refl _) λt=>?_) ();grind[aR.word,aR.N,aR.refl]
theorem aR.uk:aR (lb D) (lb lf):=by refine aR.rep (λ_=>aR.N (aR.refl _) λt=>?_) ();grind[aR.word,aR.N,aR.aG,aR.refl]
end
structure zA(l gC:dD):Prop where
 ls:∀c n,aR (l.ls c n) (gC.ls c n)
 pm:aR l.pm gC.pm
 cp:∀t,aR (l.cp t) (gC.cp t)
 rd:aR l.rd gC.rd
 dl:aR l.dl gC.dl
 has:l.has=true->gC.has=true
section
variable{l gC:dD}(h:zA l gC)
include h
theorem aR.body(x:H):aR (h3 l x) (h3 gC x):=aR.N (aR.refl _) λ_=>aR.N ((h.ls _ _).aG _) λ_=>aR.refl _
theorem aR.cond:aR (q4 l) (q4 gC):=aR.rep (λ_=>aR.N ((h.ls _ _).aG _) λ_=>aR.N (aR.refl _) λ_=>aR.N ((h.ls _ _).aG _) λ_=>aR.N (aR.refl _) λt=>aR.ite (aR.refl _) (aR.ite (aR.N (aR.refl _) λ_=>aR.N ((h.ls _ _).aG _) λ_=>aR.refl _) (aR.refl _))) ()
theorem aR.for_{lf:ab Unit}(hD:aR D lf):aR (pM l D) (pM gC lf):=by
 refine aR.N (aR.refl _) λt=>?_;cases t with
 |word w p=>
  cases p with
  |true=>exact aR.ite (aR.N (aR.refl _) λ_=>aR.N (aR.aG (aR.N (aR.refl _) λt=>aR.ite (aR.refl _) (aR.N (aR.refl _) λ_=>aR.N (aR.refl _) λt=>aR.ite (aR.N (aR.refl _) λ_=>aR.N (aR.words hD) λ_=>aR.refl _) (aR.refl _))) _) λ_=>aR.body h _) (aR.refl _)
  |false=>simp[aR.refl]
 |_=>simp[aR.refl]
theorem aR.items{lf:ab Unit}(hD:aR D lf):aR (nn l D) (nn gC lf):=
 aR.rep (λ_=>aR.N (aR.refl _) λ_=>aR.N (aR.refl _) λt=>aR.ite (aR.refl _) (aR.ite (aR.refl _) (aR.N (aR.refl _) λ_=>aR.N (aR.uk hD) λ_=>aR.N (h.ls _ _) λ_=>aR.refl _))) ()
theorem aR.vz{lf:ab Unit}(hD:aR D lf):aR (q5 l D) (q5 gC lf):=by
 refine aR.N (aR.refl _) λt=>?_;cases t with
 |word w p=>exact aR.N (aR.aG (aR.N (aR.word hD) λ_=>aR.refl _) _) λt=>aR.ite (aR.N (aR.refl _) λ_=>(aR.items h hD).aG _) (aR.refl _)
 |_=>simp[aR.refl]
theorem aR.kind(t:Tok):aR (hd l t) (hd gC t):=by
 cases t with
 |op o=>show aR (Eng.N (bV 1) λ_=>Eng.N ((l.ls .paren false).aG [41]) λ_=>jr [41]) (Eng.N (bV 1) λ_=>Eng.N ((gC.ls .paren false).aG [41]) λ_=>jr [41]);exact aR.N (aR.refl _) λ_=>aR.N ((h.ls _ _).aG _) λ_=>aR.refl _
 |word w p=>unfold hd;exact aR.N (aR.refl _) λ_=>aR.ite (aR.N ((h.ls _ _).aG _) λ_=>aR.refl _) (aR.ite (aR.cond h) (aR.ite (aR.for_ h h.dl) (aR.ite (aR.vz h h.dl) (aR.N ((h.ls _ _).aG _) λ_=>aR.body h _))))
 |_=>exact aR.refl _
end
def F1(lo a:Option dD):Prop:=∀l,lo=some l->∃gC,a=some gC/\zA l gC
theorem aR.ta{b:Option dD}(h:F1 lo b){f a:dD->ab Unit}(hf:∀l gC,zA l gC->aR (f l) (a gC)):aR (ta lo n f) (ta b n a):=by
 cases lo with
 |none=>exact aR.deep _
 |some l=>obtain⟨gC,rfl,aw⟩:=h l rfl;show aR (Eng.N (bV n) λ_=>f l) (Eng.N (bV n) λ_=>a gC);grind[aR.N,aR.refl]
theorem aR.um{a:Option dD}(h:F1 lo a):aR (dj lo) (dj a):=by
 intro r F;unfold dj;split
 ·exact .inr (.inl rfl)
 ·split
  ·exact aR.ta h (λl gC aw=>aR.N (((aw.ls _ _).aG _).named _ _) λ_=>aR.refl _) r F
  ·split
   ·exact aR.ta h (λl gC aw=>aw.pm.named _ _) r F
   ·exact .inr (.inl rfl)
theorem aR.cp{a:Option dD}(h:F1 lo a)(t:Tok):aR (rU lo t) (rU a t):=by
 cases lo with
 |none=>exact aR.deep _
 |some l=>obtain⟨gC,rfl,aw⟩:=h l rfl;exact(aR.kind aw t).named _ _
def ZU{α:Type}(x y:dn α):Prop:=Bg x y\/∃t a F,x= .bad (40::t)/\y= .ok a (40::t) F
def fE{α:Type}(f g:ab α):Prop:=∀r F,ZU (f r F) (g r F)
theorem aR.vA{f g:ab α}(h:aR f g):fE f g:=λr F=> .inl (h r F)
theorem fE.ite{c:Prop}[Decidable c]{f g a b:ab α}(hf:fE f a)(bk:fE g b):fE (if c then f else g) (if c then a else b):=by grind
theorem fE.od{β:Type}{m b:ab α}{k k':α->ab β}(hm:aR m b)(az:∀a,fE (k a) (k' a)):fE (N m k) (N b k'):=by
 intro r F;rcases hm r F with⟨q,h⟩|h|⟨op,d,nd,ds,M,U⟩
 ·left;left;simp_all[N]
 ·unfold N;rw[h];cases m r F with
  |ok a an c=>exact az a an c
  |more op nd ds=>exact .inl (.inr (.inl rfl))
  |bad q=>exact .inl (.inr (.inl rfl))
  |deep q=>exact .inl (.inl ⟨q,rfl⟩)
 ·left;right;grind[N]
theorem fE.kj{β:Type}{m d:ab α}{k k':α->ab β}(hm:fE m d)(az:∀a,fE (k a) (k' a))(Y:∀a t F,∃b e,k' a (40::t) F= .ok b (40::t) e):fE (N m k) (N d k'):=by
 intro r F;rcases hm r F with(⟨q,h⟩|h|⟨op,f,nd,ds,M,U⟩)|⟨t,a,c,M,U⟩
 ·left;left;simp_all[N]
 ·unfold N;rw[h];cases m r F with
  |ok a an c=>exact az a an c
  |more op nd ds=>exact .inl (.inr (.inl rfl))
  |bad q=>exact .inl (.inr (.inl rfl))
  |deep q=>exact .inl (.inl ⟨q,rfl⟩)
 ·left;right;grind[N]
 ·right;obtain⟨b,e,g⟩:=Y a t c;grind[hS,aJ]
theorem fE.rep{i:σ->ab (σ⊕α)}(h:∀s,fE (f s) (i s))(Y:∀s t F,∃a j,i s (40::t) F= .ok (.inr a) (40::t) j)(s:σ):fE (cD f s) (cD i s):=by
 have g:∀(n:Nat)(s:σ)(r:H)(F:ag),r.length<=n->ZU (cD f s r F) (cD i s r F):=by
  intro n;induction n with
  |zero=>
   intro s r F af;rw[cL,cL];have Z:r=[]:=tA.1 (by omega);rcases h s r F with(⟨q,e⟩|e|⟨op,k,nd,ds,b,c⟩)|⟨t,a,d,b,c⟩
   ·left;left;exact⟨q,by rw[e];rfl⟩
   ·rw[e];cases f s r F with
    |ok x an d=>
     cases x with
     |inl s'=>left;right;simp_all[dc,aM]
     |inr a=>exact .inl (.inr (.inl rfl))
    |deep q=>exact .inl (.inl ⟨q,rfl⟩)
    |_=>exact .inl (.inr (.inl rfl))
   ·rw[b,c];exact .inl (.inr (.inr ⟨_,_,_,_,rfl,rfl⟩))
   ·rw[b,c];cases a with
    |inr a=>exact .inr ⟨t,a,d,rfl,rfl⟩
    |inl s'=>left;right;simp_all[dc,aM]
  |succ n m=>
   intro s r F af;rw[cL,cL];rcases h s r F with(⟨q,e⟩|e|⟨op,k,nd,ds,b,c⟩)|⟨t,a,d,b,c⟩
   ·left;left;exact⟨q,by rw[e];rfl⟩
   ·rw[e];cases f s r F with
    |ok x an d=>
     cases x with
     |inl s'=>
      unfold dc;simp only;by_cases aw:an.length<r.length
      ·grind
      ·rw[aM aw,aM aw];exact .inl (.inr (.inl rfl))
     |inr a=>exact .inl (.inr (.inl rfl))
    |deep q=>exact .inl (.inl ⟨q,rfl⟩)
    |_=>exact .inl (.inr (.inl rfl))
   ·rw[b,c];exact .inl (.inr (.inr ⟨_,_,_,_,rfl,rfl⟩))
   ·rw[b,c];cases a with
    |inr a=>exact .inr ⟨t,a,d,rfl,rfl⟩
    |inl s'=>
     unfold dc;simp only;by_cases aw:(40::t).length<r.length
     ·rw[ba aw];right;obtain⟨a,j,l⟩:=Y s' t d;exact⟨t,a,j,rfl,by rw[cL,l];rfl⟩
     ·rw[aM aw];exact .inl (.inr (.inl rfl))
 exactλr F=>g _ s r F (cS _)
theorem Ju(t:H):bg (40::t)=some (40::t):=by simp[m0,fV]
theorem Bh(t:H):ar (40::t)= .op [40]:=by rfl
theorem amh(t:H)(F:ag):dM D (40::t) F= .ok false (40::t) F:=by
 have:fI (40::t) F= .ok none (40::t) F:=by unfold fI;rw[Ju];rfl
 unfold dM;rw[aJ this];rfl
theorem F2(t:H)(F:ag):bN x (40::t) F= .ok (.op [40]) (40::t) F:=by simp[bL,Ju,Bh]
theorem ZV(m:ab Unit):N m (λ_=>aU ())=m:=by
 funext r F
 unfold N;cases m r F<;>rfl
theorem lg{β b:Type}(m:ab α)(k:α->ab β)(R:β->ab b):N (N m k) R=N m (λa=>N (k a) R):=by grind[N]
theorem zB{β:Type}{c:Prop}[Decidable c](f g:ab α)(R:α->ab β):N (if c then f else g) R=if c then N f R else N g R:=by grind
theorem ZW{β:Type}(x:H)(R:α->ab β):N (b5 x) R=b5 x:=rfl
theorem ZX{β:Type}(R:α->ab β):N b6 R=b6:=rfl
theorem aR.ami{β:Type}{x:ab β}{g:ab α}{R:α->ab β}(h:aR x (Eng.N g R))(nm:H):aR x (Eng.N (g.named nm) R):=by
 intro r F
 have e:Eng.N (g.named nm) R r F=Eng.N g R r F\/∃op a nd ds,Eng.N g R r F= .more op nd ds/\Eng.N (g.named nm) R r F= .more a nd ds:=by unfold Eng.N ab.named;grind
 rcases e with e|⟨op,a,nd,ds,b,c⟩
 ·rw[e];exact h r F
 ·rcases h r F with⟨q,h⟩|h|⟨d,f,i,j,M,U⟩
  ·exact .inl ⟨q,h⟩
  ·right;grind
  ·rw[b] at U;cases U;exact .inr (.inr ⟨_,_,_,_,M,c⟩)
section
variable{oN:Bool}(hf:fr=oN\/fr=true/\oN=false)
include hf
theorem fE.simple{lf:ab Unit}(hD:aR D lf):fE (gS fr D) (gS oN lf):=by
 rcases hf with rfl|⟨rfl,rfl⟩
 ·refine aR.vA (aR.rep (λ_=>aR.N (aR.gP hD) λb=>aR.ite (aR.refl _) (aR.N (aR.refl _) λt=>?_)) ());grind[aR.N,aR.word,aR.refl]
 ·refine fE.rep (λ_=>fE.od (aR.gP hD) λb=>fE.ite (aR.vA (aR.refl _)) (λr F=>?_)) (λ_ t F=>?_) ()
  ·cases Y:bg r with
   |none=>rw[dx (jC Y),dx (jC Y)];exact .inl (.inr (.inl rfl))
   |some an=>
    rw[aJ (bL Y),aJ (bL Y)];cases c:ar an with
    |word w p=>exact .inl (aR.N (aR.word hD) (λ_=>aR.refl _) an F)
    |op o=>
     simp only;by_cases a:o=[40]
     ·subst a;obtain⟨_,U,_,_⟩:=ib c;obtain⟨t,rfl⟩:=U;exact .inr ⟨t,_,_,rfl,rfl⟩
     ·simp[a];exact .inl (.inr (.inl rfl))
    |_=>exact .inl (.inr (.inl rfl))
  ·refine⟨(),F,?_⟩;rw[aJ (amh t F)];simp only[fR,cZ];rw[aJ (F2 t F)];rfl
theorem aR.fn{b:Option dD}{lf:ab Unit}(h:F1 lo b)(Z:fr=true->oN=false->∀l,lo=some l->aR l.rd (gH lf))(hD:aR D lf):
  aR (Eng.N (kU fr lo) λ_=>if fr then aU () else gH D) (Eng.N (kU oN b) λ_=>if oN then aU () else gH lf):=by
 cases lo with
 |none=>intro r F;exact .inl ⟨r,rfl⟩
 |some l=>
  obtain⟨gC,rfl,aw⟩:=h l rfl;by_cases a:l.has=true
  ·have c:=aw.has a;rcases hf with rfl|⟨rfl,rfl⟩
   ·refine aR.N ?_ λ_=>aR.ite (aR.refl _) (aR.l4 hD);unfold kU;simp only[a,c,c9];exact aR.named (aR.N (aR.refl _) λ_=>aR.N (aR.refl _) λt=>aR.ite (aR.refl _) (aR.ite (aR.N (aR.refl _) λ_=>aR.N (aR.refl _) λ_=>aR.N (aR.refl _) λt=>aR.ite (aR.refl _) (aR.ite (aR.N (aw.cp t) λ_=>aR.ite aw.rd (aR.refl _)) (aR.refl _))) (aR.refl _))) _ _
   ·have d:=Z rfl rfl l rfl;simp only[c9,fR,cZ];rw[ZV];unfold kU;simp only[a,c,c9,fR,cZ];refine aR.ZT (aR.ami ?_ _) _;rw[lg];refine aR.N (aR.refl _) λ_=>?_;rw[lg];refine aR.N (aR.refl _) λt=>?_;rw[zB,ZW,zB,ZX];refine aR.ite (aR.refl _) (aR.ite ?_ (aR.refl _));rw[lg];refine aR.N (aR.refl _) λ_=>?_;rw[lg];refine aR.N (aR.refl _) λ_=>?_;rw[lg];refine aR.N (aR.refl _) λt=>?_;rw[zB,ZW,zB,ZX];refine aR.ite (aR.refl _) (aR.ite ?_ (aR.refl _));rw[ZV];exact aR.N (aw.cp t) λ_=>d
  ·intro r F;left;refine⟨r,?_⟩;unfold kU;simp only[a,cZ,fR];rfl
theorem fE.command{a:Option dD}{lf:ab Unit}(h:F1 lo a)(hD:aR D lf)(Z:fr=true->oN=false->∀l,lo=some l->aR l.rd (gH lf)):fE (fA fr lo D) (fA oN a lf):=by
 refine fE.od (aR.refl _) λt=>fE.ite (aR.vA (aR.refl _)) (fE.ite (aR.vA (aR.N (aR.cp h t) λ_=>aR.l4 hD)) ?_);cases t with
 |op o=>exact fE.ite (fE.od (aR.gP hD) λ_=>fE.simple hf hD) (aR.vA (aR.refl _))
 |word w p=>refine fE.ite (aR.vA (aR.refl _)) (fE.od (aR.gP hD) λb=>fE.ite (fE.simple hf hD) (fE.od (aR.word hD) λ_=>fE.ite (fE.od (aR.refl _) λt=>fE.ite (aR.vA (aR.fn hf h Z hD)) (fE.simple hf hD)) (fE.simple hf hD)))
 |_=>simp[aR.vA,aR.refl]
omit hf in
theorem fE.pipe{c2 b:ab Unit}(h:fE c2 b):fE (fv c2) (fv b):=by
 have stop:∀(c2:ab Unit)(s:Unit)(t:H)(F:ag),∃a c,(Eng.N (bN []) λt=>if t= .op [124] then Eng.N (bV 1) λ_=>Eng.N (cQ.aG [120]) λ_=>Eng.N c2 λ_=>aU (.inl ()) else aU (.inr ()):ab (Unit⊕Unit)) (40::t) F= .ok (.inr a) (40::t) c:=by intro c2 s t F;refine⟨(),F,?_⟩;rw[aJ (F2 t F)];rfl
 refine fE.od (aR.refl _) λt=>fE.od (aR.refl _) λ_=>fE.kj h (λ_=>fE.rep (λ_=>fE.od (aR.refl _) λt=>fE.ite (fE.od (aR.refl _) λ_=>fE.od (aR.refl _) λ_=>fE.kj h (λ_=>aR.vA (aR.refl _)) λ_ t F=>⟨_,_,rfl⟩) (aR.vA (aR.refl _))) (stop b) ()) λ_ t F=>?_;obtain⟨a,c,e⟩:=stop b () t F;exact⟨a,c,by rw[cL,e];rfl⟩
omit hf in
theorem fE.oc{b c:ab Unit}(h:fE b c):fE (hR b) (hR c):=by
 have stop:∀(b:ab Unit)(s:Unit)(t:H)(F:ag),∃a d,(Eng.N (bN []) λt=>if t= .op [38,38]\/t= .op [124,124] then Eng.N (bV 2) λ_=>Eng.N (cQ.aG [120]) λ_=>Eng.N b λ_=>aU (.inl ()) else aU (.inr ()):ab (Unit⊕Unit)) (40::t) F= .ok (.inr a) (40::t) d:=by intro b s t F;refine⟨(),F,?_⟩;rw[aJ (F2 t F)];rfl
 refine fE.kj h (λ_=>fE.rep (λ_=>fE.od (aR.refl _) λt=>fE.ite (fE.od (aR.refl _) λ_=>fE.od (aR.refl _) λ_=>fE.kj h (λ_=>aR.vA (aR.refl _)) λ_ t F=>⟨_,_,rfl⟩) (aR.vA (aR.refl _))) (stop c) ()) λ_ t F=>?_;obtain⟨a,d,e⟩:=stop c () t F;exact⟨a,d,by rw[cL,e];rfl⟩
omit hf in
theorem aR.list{f:ab Unit}(h:fE cX f)(c:Ctx)(none:Bool):aR (np cX c none) (np f c none):=by
 rw[td,td];refine aR.N (aR.refl _) λ_=>aR.rep (λn=>aR.N (aR.refl _) λt=>aR.ite (aR.refl _) (aR.ite (aR.refl _) (λr F=>?_))) 0;rcases h r F with(⟨q,e⟩|e|⟨op,g,nd,ds,b,d⟩)|⟨t,a,i,b,d⟩
 ·left;simp_all[Eng.N]
 ·unfold Eng.N;rw[e];cases cX r F with
  |deep q=>exact .inl ⟨q,rfl⟩
  |_=>exact .inr (.inl rfl)
 ·exact .inr (.inr ⟨op,g,nd,ds,dx b,dx d⟩)
 ·right;left;rw[hS b,aJ d,aJ (F2 t i)];unfold jB;cases c<;>simp[dC,cm,b6]
end
theorem zA.of{oN:Bool}(hf:fr=oN\/fr=true/\oN=false){a:Option dD}(h:F1 lo a)(Z:fr=true->oN=false->∀l,lo=some l->aR l.rd (gH (dj a))){b d:Bool}(e:b=true->d=true):
  zA {ls:=np (hR (fv (fA fr lo (dj lo)))),pm:=qp (dj lo),cp:=rU lo,rd:=gH (dj lo),dl:=dj lo,has:=b} {ls:=np (hR (fv (fA oN a (dj a)))),pm:=qp (dj a),cp:=rU a,rd:=gH (dj a),dl:=dj a,has:=d}:=
 ⟨λc n=>aR.list (fE.oc (fE.pipe (fE.command hf h (aR.um h) Z))) c n,aR.param (aR.um h),λt=>aR.cp h t,aR.l4 (aR.um h),aR.um h,e⟩
theorem TB{fr oN:Bool}(hf:fr=oN\/fr=true/\oN=false):∀n m,n<=m->zA (aW fr n) (aW oN m)
 |0,0,_=>zA.of hf (λl h=>by cases h) (λ_ _ l h=>by cases h) (λh=>h)
 |0,m+1,_=>zA.of hf (λl h=>by cases h) (λ_ _ l h=>by cases h) (λh=>rfl)
 |n+1,m+1,h=>zA.of hf (λl e=>by cases e;exact⟨_,rfl,TB hf n m (by omega)⟩) (λ_ _ l e=>by cases e;exact(TB hf n (m+1) (by omega)).rd) (λh=>h)
theorem amm{oN:Bool}(hf:fr=oN\/fr=true/\oN=false)(h:n<=m)(r:H):Bg (iA fr n r) (iA oN m r):=(TB hf n m h).ls .text true r []
theorem amn:∀(bF:Nat)(b:Bool)(r:H)(F:ag),r.length<=bF->(∃r' c,(∃x,cD iB b r F= .ok x r' c)/\∃x,cD iB (!b) r F= .ok x r' c)\/cD iB b r F=cD iB (!b) r F:=by
 intro bF b r F af;cases Y:bg r with
 |none=>
  rw[cL,cL];have:∀b,iB b r F= .more [] _ _:=λb=>dx (jC Y)
  grind
 |some an=>
  by_cases a:ar an= .line
  ·obtain⟨t,rfl⟩:=wL a;grind[cL,xS]
  ·left;exact⟨an,F,⟨b,by rw[cL,sw Y a];rfl⟩,⟨!b,by rw[cL,sw Y a];rfl⟩⟩
def qs(b:UInt8):Bool:=b==60||b==62||b==38||b==124||b==59||b==40||b==41
theorem m3(h:qs b=false):bt (b::t)=[]:=by
 simp only[qs,Pr,Wy,ne_eq] at h;obtain⟨⟨⟨⟨⟨⟨M,U⟩,a⟩,d⟩,f⟩,g⟩,i⟩:=h
 have e:∀(c:UInt8)(o:H),b≠c->(c::o).isPrefixOf (b::t)=false:=by grind
 simp_all[bt,l2,yz,List.find?_nil]
def qt(b:UInt8):Bool:= !fV b&&b !=10&& !qs b&&b !=92&&b !=39&&b !=34&&b !=96&&b !=36
theorem Jv(h:qt b=true):fV b=false/\b≠10/\qs b=false/\b≠92/\b≠39/\b≠34/\b≠96/\b≠36:=by simp_all[qt,h4,BS,bne_iff_ne,ne_eq]
theorem Jw(h:qt b=true):cV (b::t)=false:=by grind[Jv,cV,m3]
theorem Z0(h:b≠36):fD (b::t)=false:=by
 unfold fD;split
 ·rename_i M;cases M;exact absurd rfl h
 ·rename_i M;cases M;exact absurd rfl h
 ·rfl
theorem Z1:∀(w r:H),w.all qt=true->cV r=true->di (w++r)=(w,true)
 |[],r,_,Z=>by
  cases r with
  |nil=>rfl
  |cons b t=>grind[di]
 |b::w,r,a,Z=>by simp only[BU,h4] at a;obtain⟨M,U,c,d,e,f,g,h⟩:=Jv a.1;simp only[jI];simp_all[di,Jw,aM,Z0,Z1]
theorem nV{w:H}(af:w≠[])(a:w.all qt=true)(Z:cV r=true):ar (w++r)= .word w true:=by
 have ah:=Z1 w r a Z;cases w with
 |nil=>grind
 |cons b t=>simp only[BU,h4] at a;simp_all[Jv,jI,ar,aM,m3]
theorem jD(M:fV b=false)(U:b≠35)(a:b≠92):bg (b::t)=some (b::t):=by grind[m0]
theorem j9(t:H):bg (32::t)=bg t:=by simp[m0,fV]
theorem Z2(h:qt b=true):cC D dq (b::t) F= .ok () t F:=by obtain⟨M,U,e,a,f,g,c,d⟩:=Jv h;unfold cC;simp only[a,c,Z0 d,cZ,fR];grind
theorem Dt{a:ag}(c:cV (b::t)=false)(h:cC D (some (eP D)) (b::t) F= .ok () r' a)(aw:r'.length<(b::t).length):cR D (b::t) F=cR D r' a:=by unfold cR;rw[cL];simp only[c,fR,cZ];rw[aJ h];simp_all[dc,aU,c9]
theorem amo(a:cV (b::t)=true):cR D (b::t) F= .ok () (b::t) F:=by unfold cR;rw[cL];simp only[a,c9];rfl
theorem Nv{D:ab Unit}:∀(w r:H)(F:ag),w.all qt=true->cR D (w++r) F=cR D r F
 |[],r,F,_=>rfl
 |b::w,r,F,a=>by simp only[BU,h4] at a;simp only[jI];rw[Dt (Jw a.1) (Z2 a.1) (by simp),Nv w r F a.2]
theorem Nw{c:UInt8}{part:ab Unit}{a:ag}(d:b≠c)(h:part (b::t) F= .ok () r' a)(aw:r'.length<(b::t).length):iQ c part (b::t) F=iQ c part r' a:=by unfold iQ;rw[cL];simp only[d,cZ];rw[aJ h];simp_all[dc,aU,c9]
theorem amp{c:UInt8}{part:ab Unit}:iQ c part (c::t) F= .ok () t F:=by unfold iQ;rw[cL];simp only[c9];rfl
theorem Z3{v:H}(Y:bg v=some v')(h:fm (bt (v'.dropWhile cd))=false):dM D v F= .ok false v' F/\gH D v F= .ok () v' F:=by
 have e:dM D v F= .ok false v' F:=by
  have:fI v F= .ok none v' F:=by grind[fI]
  unfold dM;rw[aJ this];rfl
 refine⟨e,?_⟩;unfold gH;rw[cL,aJ e];rfl
theorem oe(Y:bg r=some an)(a:ar an≠ .line):cQ r F= .ok false an F:=by rw[uo,cL,sw Y a];rfl
theorem Z4{c2:ab Unit}{v:H}{a:ag}(Y:bg x=some x)(c:cm (ar x) [33]=false)(aq:c2 x F= .ok () v a)(b:bg v=some v')(M:ar v'≠ .op [124])(U:ar v'≠ .op [38,38])(f:ar v'≠ .op [124,124]):
  fv c2 x F= .ok () v' a/\hR (fv c2) x F= .ok () v' a:=by
 have d:=lz _ _ _ (cS _) b;have e:fv c2 x F= .ok () v' a:=by unfold fv;rw[aJ (bL Y),c];simp only[fR,cZ];rw[aJ (show aU () x F= .ok () x F from rfl),aJ aq,cL,aJ (bL b),aM M];rfl
 refine⟨e,?_⟩;unfold hR;rw[aJ e,cL,aJ (bL d),aM (by grind)];rfl
theorem mE{w:H}(af:w≠[])(a:w.all qt=true)(c:w.head?≠some 35)(Z:cV r=true):ar (w++r)= .word w true/\bg (w++r)=some (w++r):=by
 refine⟨nV af a Z,?_⟩;cases w with
 |nil=>grind
 |cons b t=>simp_all[BU,h4,Jv,jD]
theorem mN(t:H):cV (32::t)=true:=by rfl
section
variable{k:Nat}(hu:cx u)(h:iA fr n u= .ok k r F)(az:k≠0)
include hu h az
omit hu h az in
theorem q9{w v:H}{F:ag}(af:w≠[])(a:w.all qt=true)(b:w.head?≠some 35)(c:cV v=true):cI w (w++v) F= .ok () v F:=by obtain⟨d,e⟩:=mE af a b c;unfold cI mL;rw[aJ (bL e),d,aM (by simp)];simp[bV,cm]
omit hu h az in
theorem Z5{w v:H}{F:ag}:bV w.length (w++v) F= .ok () v F:=by simp[bV,pq]
end
theorem Z6(t:H):bt (40::t)=[40]:=by rfl
theorem Jx(t:H):cV (40::t)=true:=by rfl
theorem TC(Y:bg (b::t)=some (b::t))(aB:cd b=false)(a:qs b=false):dM D (b::t) F= .ok false (b::t) F:=
 (Z3 Y (by
  have:(b::t).dropWhile cd=b::t:=by simp_all
  rw[this,m3 a];rfl)).1
theorem F3:∀(n:Nat)(r q:H),r.length<=n->gx r=some q->q<:+r:=by
 intro n;induction n with
 |zero=>simp_all[tA,Nat.le_zero,gx]
 |succ n a=>
  intro r q af h;cases r with
  |nil=>grind
  |cons b t=>unfold gx at h;grind
theorem Bi:∀(r q:H),gw r=some q->q<:+r
 |[],q,h=>by grind[gw]
 |b::t,q,h=>by
  unfold gw at h;split at h
  ·cases h;exact eL b _
  ·exact(Bi t q h).trans (eL b t)
structure lh where
 T:H
 bF:H->Nat
 c:Nat
 Q:H->ag->Prop
variable{E:lh}
structure lh.hs(E:lh)(n:Nat)(r:H)(F:ag):Prop where
 sfx:r<:+E.T
 le:E.bF r+E.c<=n
 q:E.Q r F
def ik(E:lh){α:Type}(r0:H):dn α->Prop
 | .ok _ r F=>r<:+r0/\E.Q r F
 | .deep _=>False
 |_=>True
def ad(E:lh)(n:Nat){α:Type}(f:ab α):Prop:=∀r F,E.hs n r F->ik E r (f r F)
structure lh.mT(E:lh):Prop where
 e_:1<=E.c
 mono:∀r r',r'<:+r->r<:+E.T->E.bF r'<=E.bF r
 amq:∀r r' F,r'<:+r->r<:+E.T->E.Q r F->E.Q r' F
 Z7:∀r,r<:+E.T->E.Q r []
 oM:∀r F o tabs r' aE,r<:+E.T->E.Q r F->bt r=o->(o=[60,60]/\tabs=false\/o=[60,60,45]/\tabs=true)->gm tabs (r.drop o.length) F= .ok () r' aE->E.Q r' aE
 um:∀u,36::40::u<:+E.T->u.head?≠some 40->E.bF u+1<=E.bF (36::40::u)\/∀n F,E.c<=n->E.Q (36::40::u) F->ik E (36::40::u) ((aW true n).dl (36::40::u) F)
 pK:∀u,36::123::u<:+E.T->E.bF u+1<=E.bF (36::123::u)\/∀n F,E.c<=n->E.Q (36::123::u) F->ik E (36::123::u) ((aW true n).dl (36::123::u) F)
 comp:∀r,r<:+E.T->bg r=some r->fJ (ar r)=true->E.bF (r.drop (mM (ar r)).length)+1<=E.bF r\/∀n F,E.c<=n->E.Q r F->ik E r ((aW true n).cp (ar r) r F)
 func:∀u,40::u<:+E.T->E.bF u+1<=E.bF (40::u)\/∀n F,E.c<=n+1->E.Q (40::u) F->ik E (40::u) (kU true (some (aW true n)) (40::u) F)
section
variable(ok:E.mT)
theorem ik.mono{x:dn α}(h:ik E r x)(M:r<:+r0):ik E r0 x:=by
 cases x with
 |ok a an b=>exact⟨h.1.trans M,h.2⟩
 |more _ _ _=>trivial
 |bad _=>trivial
 |deep _=>exact h
theorem ik.N{α β:Type}{m:ab α}{k:α->ab β}{r0 r:H}{F:ag}(h:ik E r0 (m r F))(az:∀a r' b,m r F= .ok a r' b->r'<:+r0->E.Q r' b->ik E r0 (k a r' b)):ik E r0 (Eng.N m k r F):=by
 unfold Eng.N;cases hm:m r F with
 |ok a an c=>rw[hm] at h;exact az a an c hm h.1 h.2
 |more _ _ _=>trivial
 |bad _=>trivial
 |deep q=>rw[hm] at h;exact h
theorem ik.aG{α:Type}{m:ab α}{r0 r:H}{F:ag}{x:H}(h:ik E r0 (m r F)):ik E r0 (m.aG x r F):=by
 unfold ab.aG;cases hm:m r F with
 |more _ _ _=>trivial
 |ok a an b=>grind
 |bad _=>trivial
 |deep q=>grind
theorem ik.named{α:Type}{m:ab α}{r0 r:H}{F:ag}{x:H}(h:ik E r0 (m r F)):ik E r0 (m.named x r F):=by
 unfold ab.named;cases hm:m r F with
 |more _ _ _=>trivial
 |ok a an b=>grind
 |bad _=>trivial
 |deep q=>grind
theorem ad.aG{α:Type}{m:ab α}(h:ad E n m)(x:H):ad E n (m.aG x):=λr F a=>(h r F a).aG
theorem ad.named{α:Type}{m:ab α}(h:ad E n m)(x:H):ad E n (m.named x):=λr F a=>(h r F a).named
theorem ad.b5(x:H):ad E n (Eng.b5 x:ab α):=λr F _=>trivial
theorem ad.b6:ad E n (Eng.b6:ab α):=λr F _=>trivial
theorem ad.ret(a:α):ad E n (aU a):=λr F h=>⟨gr,h.q⟩
theorem ad.ite{p:Prop}[Decidable p]{f g:ab α}(hf:ad E n f)(bk:ad E n g):ad E n (if p then f else g):=by grind
include ok
theorem lh.hs.down{a:ag}(h:E.hs n r F)(M:r'<:+r)(U:E.Q r' a):E.hs n r' a:=⟨M.trans h.sfx,by have:=ok.mono r r' M h.sfx;have:=h.le;omega,U⟩
theorem lh.hs.q_(h:E.hs n r F)(M:r'<:+r):E.hs n r' F:=h.down ok M (ok.amq r r' F M h.sfx h.q)
theorem ad.N{α β:Type}{m:ab α}{k:α->ab β}(hm:ad E n m)(az:∀a,ad E n (k a)):ad E n (Eng.N m k):=λr F h=>
 (hm r F h).N λa r' b _ M U=>(az a r' b (h.down ok M U)).mono M
theorem ad.iT{f:ab Unit}(hf:∀r F,match f r F with| .ok _ r' b=>r'<:+r/\b=F| .deep _=>False|_=>True):ad E n f:=λr F h=>by
 have:=hf r F;cases hm:f r F with
 |ok a an c=>rw[hm] at this;obtain⟨M,rfl⟩:=this;exact⟨M,(h.q_ ok M).q⟩
 |more _ _ _=>trivial
 |bad _=>trivial
 |deep q=>grind
theorem ad.cM(k:Nat):ad E n (bV k):=ad.iT ok λr F=>⟨iI _ _,rfl⟩
theorem ad.rep(hf:∀s,ad E n (f s))(s:σ):ad E n (cD f s):=by
 have b:∀(bF:Nat)(s:σ)(r:H)(F:ag),r.length<=bF->E.hs n r F->ik E r (cD f s r F):=by
  intro bF;induction bF with
  |zero=>
   intro s r F d h;rw[cL];have:=hf s r F h;unfold dc;cases hm:f s r F with
   |ok x an c=>
    rw[hm] at this;cases x with
    |inl s'=>simp only;rw[aM (by omega)];trivial
    |inr a=>exact this
   |more _ _ _=>trivial
   |bad _=>trivial
   |deep q=>rw[hm] at this;exact this
  |succ bF e=>
   intro s r F d h;rw[cL];have:=hf s r F h;unfold dc;cases hm:f s r F with
   |ok x an c=>
    rw[hm] at this;cases x with
    |inl s'=>
     simp only;split
     ·exact(e s' an c (by omega) (h.down ok this.1 this.2)).mono this.1
     ·trivial
    |inr a=>exact this
   |more _ _ _=>trivial
   |bad _=>trivial
   |deep q=>rw[hm] at this;exact this
 exactλr F h=>b _ s r F (cS _) h
theorem ad.c4{k:Tok->ab α}(az:∀r F,E.hs n r F->bg r=some r->ik E r (k (ar r) r F)):ad E n (Eng.N (bN x) k):=by
 intro r F h;cases Y:bg r with
 |none=>rw[dx (jC Y)];trivial
 |some r'=>rw[aJ (bL Y)];have a:=eV Y;exact(az r' F (h.q_ ok a) (lz _ _ _ (cS _) Y)).mono a
theorem ad.gf{k:Tok->ab α}(az:∀t,ad E n (k t)):ad E n (Eng.N (bN x) k):=ad.c4 ok λr F h _=>az _ r F h
theorem ad.exp(b:Tok->Bool)(k:Nat):ad E n (mL b k):=ad.gf ok λt=>ad.ite (ad.b5 _) (ad.ite (ad.cM ok _) ad.b6)
theorem ad.jr(o:H):ad E n (Eng.jr o):=ad.exp ok _ _
theorem ad.cI(o:H):ad E n (Eng.cI o):=ad.exp ok _ _
theorem ad.nl:ad E n kh:=by
 intro r F h;cases r with
 |nil=>exact⟨gr,h.q⟩
 |cons b t=>
  unfold kh;simp only;cases a:kg F t with
  |inl r'=>have M:=((wI F t [] r' a).1).trans (eL b t);exact⟨M,ok.Z7 _ (M.trans h.sfx)⟩
  |inr nd=>trivial
theorem ad.lines:ad E n cQ:=ad.rep ok (λ_=>ad.gf ok λt=>ad.ite (ad.N ok (ad.nl ok) λ_=>ad.ret _) (ad.ret _)) _
theorem ad.part(hD:ad E n D)(c:∀q,dq=some q->ad E n q):ad E n (cC D dq):=by
 intro r F h;cases r with
 |nil=>exact⟨gr,h.q⟩
 |cons b t=>
  have a:t<:+b::t:=eL b t
  have d:∀(f:H->Option H)(x:H),(∀r q,f r=some q->q<:+r)->ik E (b::t) (ki f x t F):=by
   intro f x hf;unfold ki;cases hm:f t with
   |none=>trivial
   |some q=>have:=(hf _ _ hm).trans a;exact⟨this,(h.q_ ok this).q⟩
  unfold cC;simp only;split
  ·have:=(iI 1 t).trans a;exact⟨this,(h.q_ ok this).q⟩
  ·split
   ·exact d _ _ λr q e=>F3 _ r q (cS _) e
   ·split
    ·exact hD _ _ h
    ·cases dq with
     |none=>exact⟨a,(h.q_ ok a).q⟩
     |some q=>
      simp only;split
      ·grind[Bi]
      ·split
       ·exact(c q rfl t F (h.q_ ok a)).mono a
       ·exact⟨a,(h.q_ ok a).q⟩
theorem ad.Du{p:ab Unit}(ah:ad E n p)(c:UInt8):ad E n (iQ c p):=by
 refine ad.rep ok (λ_=>?_) _;intro r F h;cases r with
 |nil=>trivial
 |cons b t=>
  simp only;split
  ·exact⟨eL b t,(h.q_ ok (eL b t)).q⟩
  ·exact ad.N ok ah (λ_=>ad.ret _) _ _ h
theorem ad.double(hD:ad E n D):ad E n (eP D):=((ad.Du ok (ad.part ok hD (λq a=>by cases a)) _).aG _).named _
theorem ad.zC(hD:ad E n D):ad E n (cC D (some (eP D))):=ad.part ok hD λq a=>by grind[ad.double]
theorem ad.param(hD:ad E n D):ad E n (qp D):=(ad.Du ok (ad.zC ok hD) _).aG _
theorem ad.cR(hD:ad E n D):ad E n (Eng.cR D):=by
 refine ad.rep ok (λ_=>?_) _;intro r F h;cases r with
 |nil=>trivial
 |cons b t=>
  simp only;split
  ·exact⟨gr,h.q⟩
  ·exact ad.N ok (ad.zC ok hD) (λ_=>ad.ret _) _ _ h
theorem ad.jP(hD:ad E n D)(x:H):ad E n (Eng.jP D x):=by refine ad.gf ok λt=>?_;grind[ad.b5,ad.cR,ad.b6]
theorem ad.gP(hD:ad E n D):ad E n (dM D):=by
 intro r F h;unfold dM;cases Y:bg r with
 |none=>
  have:fI r F=Eng.b5 [] r F:=by grind[fI]
  unfold Eng.N;rw[this];trivial
 |some r'=>
  have b:=eV Y;have f:r'.dropWhile cd<:+r:=Bb.trans b;have c:=h.q_ ok f;by_cases Z:fm (bt (r'.dropWhile cd))=true
  ·have:fI r F= .ok (some (bt (r'.dropWhile cd))) ((r'.dropWhile cd).drop (bt (r'.dropWhile cd)).length) F:=by simp_all[fI,ba]
   rw[aJ this];generalize r'.dropWhile cd=q at*;have aB:q.drop (bt q).length<:+q:=iI _ _;have e:=c.q_ ok aB;simp only;refine ik.mono (r:=q) (ik.N ?_ λ_ g i _ U j=>⟨U,j⟩) f
   have k:∀tabs,(bt q=[60,60]/\tabs=false\/bt q=[60,60,45]/\tabs=true)->ik E q (gm tabs (q.drop (bt q).length) F):=by
    intro tabs l;cases hm:gm tabs (q.drop (bt q).length) F with
    |more _ _ _=>trivial
    |bad _=>trivial
    |deep x=>grind[gm]
    |ok a g i=>
     refine⟨?_,ok.oM q F _ tabs g i c.sfx c.q rfl l hm⟩;refine List.IsSuffix.trans ?_ aB;generalize q.drop (bt q).length=v at hm;unfold gm at hm;split at hm
     ·cases hm
     ·rename_i v' m;split at hm
      ·cases hm
      ·split at hm
       ·cases hm
       ·rename_i d p s o
        repeat' (split at hm)
        all_goals cases hm
        exact(Nn _ _ _ (cS _) o).trans (eV m)
      grind
   by_cases M:bt q=[60,60]
   ·grind
   ·rw[aM M];by_cases U:bt q=[60,60,45]
    ·grind
    ·rw[aM U];exact(ad.jP ok hD _ _ _ e).mono aB
  ·have:fI r F= .ok none r' F:=by simp_all[fI,aM]
   rw[aJ this];exact⟨b,(h.q_ ok b).q⟩
theorem ad.l4(hD:ad E n D):ad E n (gH D):=ad.rep ok (λ_=>ad.N ok (ad.gP ok hD) λb=>ad.ret _) _
theorem ad.simple(hD:ad E n D)(fr:Bool):ad E n (gS fr D):=by
 refine ad.rep ok (λ_=>ad.N ok (ad.gP ok hD) λb=>ad.ite (ad.ret _) (ad.gf ok λt=>?_)) _;cases t with
 |word _ _=>grind[ad.N,ad.cR,ad.ret]
 |op o=>simp[ad.ite,ad.b6,ad.ret]
 |_=>simp[ad.ret]
theorem ad.pipe{c2:ab Unit}(h:ad E n c2):ad E n (fv c2):=ad.gf ok λt=>ad.N ok (ad.ite (ad.cM ok _) (ad.ret _)) λ_=>ad.N ok h λ_=>
 ad.rep ok (λ_=>ad.gf ok λt=>ad.ite (ad.N ok (ad.cM ok _) λ_=>ad.N ok ((ad.lines ok).aG _) λ_=>ad.N ok h λ_=>ad.ret _) (ad.ret _)) _
theorem ad.oc{a:ab Unit}(h:ad E n a):ad E n (hR a):=ad.N ok h λ_=>
 ad.rep ok (λ_=>ad.gf ok λt=>ad.ite (ad.N ok (ad.cM ok _) λ_=>ad.N ok ((ad.lines ok).aG _) λ_=>ad.N ok h λ_=>ad.ret _) (ad.ret _)) _
theorem ad.list(h:ad E n cX)(c:Ctx)(no:Bool):ad E n (np cX c no):=ad.N ok ((ad.lines ok).aG _) λ_=>ad.rep ok (λk=>ad.gf ok λt=>
 ad.ite (ad.ite (ad.ret _) (ad.b5 _)) (ad.ite (ad.ret _) (ad.N ok h λ_=>ad.gf ok λt=>by
  cases t with
  |eof=>simp[ad.ret]
  |line=>grind[ad.N,ad.lines,ad.ret]
  |word _ _=>exact ad.b6
  |op o=>exact ad.ite (ad.N ok (ad.cM ok _) λ_=>ad.N ok (ad.lines ok) λ_=>ad.ret _) (ad.ite (ad.ret _) ad.b6)))) _
end
structure xU(E:lh)(n:Nat):Prop where
 ls:∀c no,ad E n ((aW true n).ls c no)
 pm:ad E n (aW true n).pm
 cp:∀r F,E.hs n r F->bg r=some r->fJ (ar r)=true->ik E r ((aW true n).cp (ar r) r F)
 rd:ad E n (aW true n).rd
 dl:ad E n (aW true n).dl
section
variable(ok:E.mT)
include ok
theorem lh.hs.pos(h:E.hs n r F):1<=n:=by have:=ok.e_;have:=h.le;omega
theorem ad.oK:ad E n Eng.oK:=by
 refine ad.iT ok λr F=>?_;unfold Eng.oK;cases h:ij 0 r with
 |ok q=>exact⟨Bd 0 r q h,rfl⟩
 |more _=>trivial
 |bad _=>trivial
theorem ad.TD{k:Nat}(aw:(lo=none/\k=0)\/∃m,lo=some (aW true m)/\k=m+1/\xU E m):ad E k (dj lo):=by
 intro r F h;have az:=h.pos ok;rcases aw with⟨_,rfl⟩|⟨m,rfl,rfl,hm⟩
 ·omega
 have f:(aW true (m+1)).dl=dj (some (aW true m)):=rfl;have a:∀k,r.drop k<:+r:=λk=>iI _ _
 unfold dj;split
 ·exact((ad.cM ok _).N ok (λ_=>ad.oK ok)) r F h
 ·rename_i g;split
  ·rename_i U;rw[BV] at U;obtain⟨u,rfl⟩:=U;have hu:u.head?≠some 40:=by
    intro e;cases u with
    |nil=>cases e
    |cons c v=>grind
   rcases ok.um u h.sfx hu with Y|bk
   ·have b:E.hs m u F:=⟨(a 2).trans h.sfx,by have:=h.le;grind,(h.q_ ok (a 2)).q⟩;have:ta (some (aW true m)) 2 uh ([36,40]++u) F=uh (aW true m) u F:=rfl;rw[this];refine ik.mono ?_ (a 2);exact ad.N ok (((hm.ls _ _).aG _).named _) (λ_=>ad.jr ok _) _ _ b
   ·have:=bk (m+1) F (by have:=h.le;omega) h.q;simp_all[dj,H,aM,ba,List.isPrefixOf]
  ·rename_i U;split
   ·rename_i d;rw[BV] at d;obtain⟨u,rfl⟩:=d;rcases ok.pK u h.sfx with Y|bk
    ·have b:E.hs m u F:=⟨(a 2).trans h.sfx,by have:=h.le;grind,(h.q_ ok (a 2)).q⟩;have:ta (some (aW true m)) 2 (λl=>l.pm.named [36,123]) ([36,123]++u) F=((aW true m).pm.named [36,123]) u F:=rfl;rw[this];exact((hm.pm.named _) _ _ b).mono (a 2)
    ·have:=bk (m+1) F (by have:=h.le;omega) h.q;simp_all[dj,H,aM,ba,List.isPrefixOf]
   ·exact⟨a 1,(h.q_ ok (a 1)).q⟩
section
variable(hm:xU E m)
include hm
theorem ad.body(x:H):ad E m (h3 (aW true m) x):=ad.N ok ((ad.cI ok _).aG _) λ_=>ad.N ok ((hm.ls _ _).aG _) λ_=>ad.cI ok _
theorem ad.cond:ad E m (q4 (aW true m)):=ad.rep ok (λ_=>ad.N ok ((hm.ls _ _).aG _) λ_=>ad.N ok (ad.cI ok _) λ_=>ad.N ok ((hm.ls _ _).aG _) λ_=>
 ad.gf ok λt=>ad.ite (ad.N ok (ad.cI ok _) λ_=>ad.ret _) (ad.ite (ad.N ok (ad.cI ok _) λ_=>ad.N ok ((hm.ls _ _).aG _) λ_=>ad.N ok (ad.cI ok _) λ_=>ad.ret _) (ad.N ok (ad.cI ok _) λ_=>ad.ret _))) _
theorem ad.words:ad E m (oL (aW true m).dl):=ad.rep ok (λ_=>ad.gf ok λt=>by
 cases t with
 |eof=>simp[ad.b5]
 |word _ _=>exact ad.N ok (ad.cR ok hm.dl) λ_=>ad.ret _
 |line=>simp[ad.ret]
 |op o=>exact ad.ite (ad.N ok (ad.cM ok _) λ_=>ad.ret _) ad.b6) _
theorem ad.for_:ad E m (pM (aW true m) (aW true m).dl):=ad.gf ok λt=>by
 cases t with
 |eof=>simp[ad.b5]
 |word w p=>
  cases p with
  |true=>
   refine ad.ite (ad.N ok (ad.cM ok _) λ_=>ad.N ok (ad.aG (ad.gf ok λt=>?_) _) λ_=>ad.body ok hm _) ad.b6;exact ad.ite (ad.N ok (ad.cM ok _) λ_=>ad.N ok (ad.lines ok) λ_=>ad.ret _) (ad.N ok (ad.lines ok) λ_=>ad.gf ok λt=>
    ad.ite (ad.N ok (ad.cM ok _) λ_=>ad.N ok (ad.words ok hm) λ_=>ad.N ok (ad.lines ok) λ_=>ad.ret _) (ad.ret _))
  |false=>exact ad.b6
 |_=>exact ad.b6
theorem ad.uk:ad E m (lb (aW true m).dl):=ad.rep ok (λ_=>ad.gf ok λt=>by
 cases t with
 |eof=>simp[ad.b5]
 |word _ _=>
  refine ad.N ok ((ad.cR ok hm.dl).aG _) λ_=>ad.gf ok λt=>?_;cases t with
  |op o=>exact ad.ite (ad.N ok (ad.cM ok _) λ_=>ad.ret _) (ad.ite (ad.N ok (ad.cM ok _) λ_=>ad.ret _) ad.b6)
  |eof=>simp[ad.b5]
  |_=>exact ad.b6
 |_=>exact ad.b6) _
theorem ad.items:ad E m (nn (aW true m) (aW true m).dl):=ad.rep ok (λ_=>ad.N ok (ad.lines ok) λ_=>ad.gf ok λt=>ad.ite (ad.b5 _) (ad.ite (ad.N ok (ad.cM ok _) λ_=>ad.ret _)
 (ad.N ok (ad.ite (ad.cM ok _) (ad.ret _)) λ_=>ad.N ok (ad.uk ok hm) λ_=>ad.N ok (hm.ls _ _) λ_=>ad.gf ok λt=>ad.ite (ad.N ok (ad.cM ok _) λ_=>ad.ret _) (ad.ret _)))) _
theorem ad.vz:ad E m (q5 (aW true m) (aW true m).dl):=ad.gf ok λt=>by
 cases t with
 |eof=>simp[ad.b5]
 |word _ _=>exact ad.N ok (ad.aG (ad.N ok (ad.cR ok hm.dl) λ_=>ad.N ok (ad.lines ok) λ_=>ad.gf ok λt=>ad.ite (ad.b5 _) (ad.ret _)) _) λt=>ad.ite (ad.N ok (ad.cM ok _) λ_=>(ad.items ok hm).aG _) ad.b6
 |_=>exact ad.b6
theorem ik.kind(h:E.hs m (r.drop (mM (ar r)).length) F)(aq:fJ (ar r)=true):ik E r (hd (aW true m) (ar r) r F):=by
 have aB:∀k,r.drop k<:+r:=λk=>iI _ _
 cases a:ar r with
 |eof=>grind[fJ]
 |line=>grind[fJ]
 |op o=>rw[a] at h;have:hd (aW true m) (.op o) r F=Eng.N (((aW true m).ls .paren false).aG [41]) (λ_=>Eng.jr [41]) (r.drop 1) F:=rfl;rw[this];exact(ad.N ok ((hm.ls _ _).aG _) (λ_=>ad.jr ok _) _ _ h).mono (aB _)
 |word w p=>
  rw[a] at h;have:hd (aW true m) (.word w p) r F=(if w=[123] then Eng.N (((aW true m).ls .pK false).aG [10,125]) λ_=>Eng.cI [125]
   else if w=j7 then q4 (aW true m)
   else if w=mB then pM (aW true m) (aW true m).dl
   else if w=oI then q5 (aW true m) (aW true m).dl
   else Eng.N (((aW true m).ls .pa false).aG dY) λ_=>h3 (aW true m) dY:ab Unit) (r.drop w.length) F:=rfl
  rw[this];refine ik.mono ?_ (aB w.length);refine ad.ite ?_ (ad.ite (ad.cond ok hm) (ad.ite (ad.for_ ok hm) (ad.ite (ad.vz ok hm) ?_))) _ _ h
  ·exact ad.N ok ((hm.ls _ _).aG _) λ_=>ad.cI ok _
  ·exact ad.N ok ((hm.ls _ _).aG _) λ_=>ad.body ok hm _
theorem ik.cp{r:H}{F:ag}(h:E.hs (m+1) r F)(Y:bg r=some r)(aq:fJ (ar r)=true):ik E r ((aW true (m+1)).cp (ar r) r F):=by
 rcases ok.comp r h.sfx Y aq with a|bk
 ·have aB:r.drop (mM (ar r)).length<:+r:=iI _ _;have b:E.hs m (r.drop (mM (ar r)).length) F:=⟨aB.trans h.sfx,by have:=h.le;omega,(h.q_ ok aB).q⟩;have:(aW true (m+1)).cp (ar r) r F=((hd (aW true m) (ar r)).named (mM (ar r))) r F:=rfl;grind[ik.kind,ik.named]
 ·exact bk _ _ (by have:=h.le;omega) h.q
theorem ik.function(h:E.hs (m+1) (40::u) F):ik E (40::u) (kU true (some (aW true m)) (40::u) F):=by
 rcases ok.func u h.sfx with f|bk
 ·have hu:u<:+40::u:=eL 40 u;have a:E.hs m u F:=⟨hu.trans h.sfx,by have:=h.le;omega,(h.q_ ok hu).q⟩;have c:(aW true m).has=true:=by
   cases m with
   |zero=>have:=a.pos ok;omega
   |succ _=>rfl
  unfold kU;simp only;rw[ba c];refine ik.named ?_;refine ik.mono ?_ hu;refine ad.gf ok (λt=>ad.ite (ad.b5 _) (ad.ite ?_ ad.b6)) u F a;refine ad.N ok (ad.cM ok _) λ_=>ad.N ok ((ad.lines ok).aG _) λ_=>ad.c4 ok λr F Z Y=>?_;by_cases M:ar r= .eof
  ·rw[ba M];trivial
  rw[aM M];by_cases U:fJ (ar r)=true
  ·rw[ba U];exact ik.N (hm.cp r F Z Y U) λ_ an d _ b e=>(hm.rd an d (Z.down ok b e)).mono b
  ·rw[aM U];trivial
 ·exact bk m F (by have:=h.le;omega) h.q
theorem ad.command:ad E (m+1) (fA true (some (aW true m)) (aW true (m+1)).dl):=by
 have hD:ad E (m+1) (aW true (m+1)).dl:=ad.TD ok (.inr ⟨m,rfl,rfl,hm⟩);refine ad.c4 ok λr F h Y=>?_;by_cases M:ar r= .eof
 ·rw[ba M];trivial
 rw[aM M];by_cases U:fJ (ar r)=true
 ·rw[ba U];exact ik.N (ik.cp ok hm h Y U) λ_ an d _ a c=>(ad.l4 ok hD an d (h.down ok a c)).mono a
 rw[aM U];cases f:ar r with
 |eof=>grind
 |line=>trivial
 |op o=>exact ad.ite (ad.N ok (ad.gP ok hD) λ_=>ad.simple ok hD true) ad.b6 r F h
 |word w p=>
  refine ad.ite ad.b6 (ad.N ok (ad.gP ok hD) λb=>ad.ite (ad.simple ok hD true) (ad.N ok (ad.cR ok hD) λ_=>ad.ite (ad.c4 ok λr F h Y=>?_) (ad.simple ok hD true))) r F h;by_cases a:ar r= .op [40]
  ·rw[ba a];obtain⟨u,rfl⟩:=(ib a).2.1;exact ik.N (ik.function ok hm h) λ_ an d _ c e=>⟨c,e⟩
  ·rw[aM a];exact ad.simple ok hD true r F h
end
omit n in
theorem m4:∀n,xU E n
 |0=>by
  have a:∀{r F},¬E.hs 0 r F:=λh=>by have:=h.pos ok;omega
  exact⟨λc no r F h=>absurd h a,λr F h=>absurd h a,λr F h=>absurd h a,λr F h=>absurd h a,λr F h=>absurd h a⟩
 |m+1=>by have hm:=m4 m;have hD:ad E (m+1) (aW true (m+1)).dl:=ad.TD ok (.inr ⟨m,rfl,rfl,hm⟩);exact⟨λc no=>ad.list ok (ad.oc ok (ad.pipe ok (ad.command ok hm))) c no,ad.param ok hD,λr F h Y aq=>ik.cp ok hm h Y aq,ad.l4 ok hD,hD⟩
theorem Z8(h:E.bF E.T+E.c<=n):∀q,iA true n E.T≠ .deep q:=by intro q a;have:=(m4 ok n).ls .text true E.T [] ⟨gr,h,ok.Z7 _ gr⟩;unfold iA at a;rw[a] at this;exact this
end
end Go.Eng
namespace Go.Eng
open Go Go.Proofs
variable{F ds:ag}{R:bl}{S an r r' r0 t u x:H}{b:UInt8}{c:Ctx}{α σ:Type}{cX:ab Unit}{f:σ->ab (σ⊕α)}{n:Nat}{no tabs:Bool}
theorem aS{β:Type}{m:Option α}{k:α->Option β}{y:α}(h:m=some y):ay m k=k y:=by rw[h];rfl
theorem TE{β:Type}{c:Prop}[Decidable c]{x d:α}{k:α->Option β}(h:c):c1 c (some x) d k=k x:=by unfold c1;rw[ba h];rfl
theorem wN[Inhabited α]{l:List α}{k:Int}(h0:0<=k)(h:k<(l.length:Int)):l.drop k.toNat=at' l k::l.drop (k+1).toNat:=by grind[List.drop_eq_getElem_cons,at']
theorem Ny{l:List α}{k:Int}(h0:0<=k):b3 l k (l.length:Int)=l.drop k.toNat:=by simp[b3,Hn]
def sy(c:UInt8):H->bs
 |[]=>[[]]
 |b::l=>if b=c then []::sy c l else match sy c l with
  |[]=>[[b]]
  |x::xs=>(b::x)::xs
theorem Z9(c:UInt8):∀(l:H),(Lib.indexByte l c= -1/\sy c l=[l]/\l.count c=0)\/
  ∃p:Nat,Lib.indexByte l c=p/\p<l.length/\sy c l=l.take p::sy c (l.drop (p+1))/\l.count c=(l.drop (p+1)).count c+1
 |[]=> .inl ⟨rfl,rfl,rfl⟩
 |b::l=>by
  by_cases h:b=c
  ·grind[Lib.indexByte,sy]
  ·have d:(b==c)=false:=by grind
   rcases Z9 c l with⟨M,U,a⟩|⟨p,M,U,a,e⟩
   ·grind[Lib.indexByte,sy]
   ·refine .inr ⟨p+1,?_,?_,?_,?_⟩
    ·grind[Lib.indexByte]
    ·grind
    ·grind[sy]
    grind
theorem ams(a:bs)(s:H)(i:Nat)(bh:i<a.length):b3 (List.set a i s) 0 ((i:Int)+1)=a.take i++[s]:=by
 unfold b3;have b:((i:Int)+1).toNat=i+1:=by omega
 simp only[KG,yy,Nat.sub_zero,b];rw[List.take_set,List.take_succ_eq_append_getElem bh,List.set_append_right _ _ (by grind)];simp only[List.length_take,Nat.min_eq_left (show i<=a.length by omega),Nat.sub_self,List.set_cons_zero]
theorem amt(a:bs)(s:H)(i:Nat)(bh:i<a.length):(List.set a i s).take (i+1)=a.take i++[s]:=by rw[List.take_set,List.take_succ_eq_append_getElem bh,List.set_append_right _ _ (by grind)];simp only[List.length_take,Nat.min_eq_left (show i<=a.length by omega),Nat.sub_self,List.set_cons_zero]
theorem amu(I:H)(c:UInt8)(n:Nat)(v:(I.length:Int)<=99999999)(af:(n:Int)=I.count c+1)(j:H×bs×Int->Option bs)
  (d:∀(s:H)(a:bs)(i:Nat),a.length=n->i<n->j (s,a,(i:Int))=some (a.take i++[s])):
  ∀(m:Nat)(s:H)(a:bs)(i:Nat),a.length=n->n=i+s.count c+1->s.length<=I.length->(s.count c:Int)<m->0<m->
  fixF (H3 I [c] 0 (n:Int) j) m (s,a,(i:Int))=some (a.take i++sy c s):=by
 have kX:=List.count_le_length (a:=c) (l:=I);have e:min (n:Int) (W ((I.length:Int)+1))=n:=by grind[dO]
 intro m;induction m with
 |zero=>omega
 |succ m f=>
  intro s a i g bh Y hm _;simp only[fixF,H3,a4,po,e];have h:W ((n:Int)-1)=(n:Int)-1:=dO (by omega) (by omega);have k:W ((i:Int)+1)=(i:Int)+1:=dO (by omega) (by omega);rw[h];rcases Z9 c s with⟨M,U,b⟩|⟨p,M,U,b,w⟩
  ·rw[aM (by omega),d _ _ _ g (by omega),U]
  ·rw[ba (by omega)];simp only[Q_,ay,M];have o:W ((p:Int)+0)=p:=by grind[dO]
   have q:W ((p:Int)+(([c]:H).length:Int))=p+1:=by rw[dO (by omega) (by grind)];simp
   rw[o,q,if_neg (by omega),if_pos ⟨by omega,by omega,by omega⟩,if_pos ⟨by omega,by omega⟩,if_pos ⟨by omega,by omega,by omega⟩,k];have r:b3 s ((p:Int)+1) (s.length:Int)=s.drop (p+1):=by rw[Ny (by omega)];congr 1
   have t:b3 s 0 (p:Int)=s.take p:=by rfl
   have u:(((i+1:Nat)):Int)=(i:Int)+1:=by omega
   rw[r,t,<-u];rw[f (s.drop (p+1)) _ (i+1) (by grind) (by omega) (by grind) (by omega) (by omega),b];simp only[Int.toNat_natCast];rw[amt _ _ _ (by omega),List.append_assoc];rfl
theorem Z_(I:H)(c:UInt8)(b:(I.length:Int)<=99999999):H8 I [c]=some (sy c I):=by
 have kX:=List.count_le_length (a:=c) (l:=I);have bk:H4 I [c] 0 (-1)=some (sy c I):=by
  unfold H4;simp only[a6,Bool.cond_decide,Ra,ay,Lib.countByte,a4];have d:W (((I.count c:Nat):Int)+1)=((I.count c+1:Nat):Int):=by grind[dO]
  have e:min ((I.count c+1:Nat):Int) (W ((I.length:Int)+1))=((I.count c+1:Nat):Int):=by grind[dO]
  rw[aM (by decide),aM (by simp),ba (by decide),d,e,ba ⟨by omega,by omega⟩];have f:(List.replicate (((I.count c+1:Nat):Int).toNat) ([]:H)).length=I.count c+1:=by simp
  refine Eq.trans (amu I c (I.count c+1) b (by omega) _ (λs a i h bh=>?_) bB I _ 0 f (by omega) (by omega) (by grind[gM]) (by simp[gM])) (by simp);have g:W ((i:Int)+1)=(i:Int)+1:=dO (by omega) (by omega);simp only[g];rw[ba ⟨by omega,by omega⟩,ba ⟨by omega,by omega,by grind⟩];grind[ams]
 grind[H8,aS]
theorem amv(x:H)(ys:bs)(aw:(ys.length:Int)<=99999999)(j:Unit->Option Bool):∀(m:Nat)(k:Int),0<=k->k<=(ys.length:Int)->(ys.length:Int)-k<m->0<m->
  fixF (Rx x ys j) m k=if(ys.drop k.toNat).contains x then some true else j ():=by
 intro m;induction m with
 |zero=>omega
 |succ m a=>
  intro k az b hm _;simp only[fixF,Rx,a4,po];by_cases M:k<(ys.length:Int)
  ·simp only[M,az,c9,om];rw[dO (by omega) (by omega),wN az M];grind
  ·simp only[M,cZ];grind[List.drop_eq_nil_of_le]
theorem TF(x w:H)(a:(w.length:Int)<=99999999)(aw:((sy 32 w).length:Int)<=99999999):E3 x w=some ((sy 32 w).contains x):=by unfold E3;rw[Z_ w 32 a];simp only[ay,a6];rw[amv x _ aw _ bB 0 (by omega) (by omega) (by grind[gM]) (by simp[gM])];grind
theorem amw(s p:H):Lib.hasPrefix s p=decide (s.take p.length=p):=by unfold Lib.hasPrefix;rw[Bool.eq_iff_iff,BV,List.prefix_iff_eq_take];grind
theorem aaa(l:H)(a:Int)(b:0<=a)(c:a<(l.length:Int))(n:(l.length:Int)<=99999999)(ys:bs)(aw:(ys.length:Int)<=99999999)(d:∀y∈ys,(y.length:Int)<=100)(j:Unit->Option H):
  ∀(m:Nat)(k:Int),0<=k->k<=(ys.length:Int)->(ys.length:Int)-k<m->0<m->
  fixF (MC l a ys j) m k=(match(ys.drop k.toNat).find? (λy=>Lib.hasPrefix (l.drop a.toNat) y) with|some y=>some y|none=>j ())/\
  fixF (LS l a ys j) m k=(match(ys.drop k.toNat).find? (λy=>Lib.hasPrefix (l.drop a.toNat) y) with|some y=>some y|none=>j ()):=by
 intro m;induction m with
 |zero=>omega
 |succ m e=>
  intro k az o hm _;simp only[fixF,MC,LS,a4,po,Rj,ay];by_cases M:k<(ys.length:Int)
  ·have f:=d (at' ys k) (tD (mU ⟨az,M⟩));simp only[M,az,c9,om];have g:W (k+1)=k+1:=dO (by omega) (by omega);have h:W ((l.length:Int)-a)=(l.length:Int)-a:=dO (by omega) (by omega);have i:W (a+((at' ys k).length:Int))=a+((at' ys k).length:Int):=dO (by omega) (by omega);obtain⟨p,q⟩:=e (k+1) (by omega) (by omega) (by omega) (by omega);rw[g,h,i,wN az M,Ny b];simp only[yz,b,sH,om,c9,true_and,show a<=(l.length:Int) by omega];rw[amw];have Y:b3 l a (a+((at' ys k).length:Int))=(l.drop a.toNat).take (at' ys k).length:=by unfold b3;congr 1;omega
   by_cases U:(l.drop a.toNat).take (at' ys k).length=at' ys k
   ·have r:((at' ys k).length:Int)<=(l.length:Int)-a:=by grind
    grind
   grind
  ·simp only[M,cZ];grind[List.drop_eq_nil_of_le]
theorem ns(b c:UInt8)(z:Int)(h:z=(c.toNat:Int)):((b.toNat:Int)=z)=(b=c):=by subst h;apply propext;grind[UInt8.toNat_inj]
theorem TG(l:H)(c:UInt8):Lib.indexByte l c<=l.length:=by
 induction l with
 |nil=>simp[Lib.indexByte]
 |cons b l a=>grind[Lib.indexByte,List.length_cons]
theorem amx(c:UInt8):∀(l:H),0<=Lib.indexByte l c->Lib.indexByte l c<l.length:=by
 intro l;induction l with
 |nil=>simp[Lib.indexByte]
 |cons b l a=>unfold Lib.indexByte;grind
theorem amy(l:H)(aw:(l.length:Int)<=99999999)(j:Int->Option Int):∀(m:Nat)(k:Int),0<=k->k<=(l.length:Int)->(l.length:Int)-k<m->0<m->
  fixF (Mz l j) m k=j (if Lib.indexByte (l.drop k.toNat) 10<0 then(l.length:Int) else k+Lib.indexByte (l.drop k.toNat) 10):=by
 intro m;induction m with
 |zero=>omega
 |succ m a=>
  intro k az b hm _;simp only[fixF,Mz,a4,po];by_cases M:k<(l.length:Int)
  ·simp only[M,az,c9,om,imp_true_iff,ns _ 10 10 rfl,bz];rw[dO (by omega) (by omega),wN az M,Lib.indexByte];grind
  ·simp only[M,cZ,bG,aY,fR,false_imp_iff,c9];rw[xe (by omega)];have e:(if Lib.indexByte ([]:H) 10<0 then(l.length:Int) else k+Lib.indexByte ([]:H) 10)=k:=by rw[ba (by decide)];omega
   rw[e]
theorem aab{l:H}{k e:Int}(h0:0<=k)(h:k<e)(he:e<=(l.length:Int)):b3 l k e=at' l k::b3 l (k+1) e:=by
 unfold b3;rw[wN h0 (by omega)];have:e.toNat-k.toNat=(e.toNat- (k+1).toNat)+1:=by omega
 grind
theorem amz{l:H}{e:Int}:b3 l e e=[]:=by simp[b3]
theorem amA(l:H)(aw:(l.length:Int)<=99999999)(e:Int)(he:e<=(l.length:Int))(j:Int->Option Int):∀(m:Nat)(k:Int),0<=k->k<=e->e-k<m->0<m->
  ∃k',k<=k'/\k'<=e/\fixF (II l true e j) m k=j k'/\b3 l k' e=(b3 l k e).dropWhile (· ==9):=by
 intro m;induction m with
 |zero=>omega
 |succ m a=>
  intro k az d hm _;simp only[fixF,II,a4,po,aO];by_cases M:k<e
  ·have b:k<(l.length:Int):=by omega
   simp only[M,b,az,c9,om,imp_true_iff,ns _ 9 9 rfl,bz,aO];rw[dO (by omega) (by omega),aab az M he];by_cases U:at' l k=9
   ·obtain⟨k',an,c,f,g⟩:=a (k+1) (by omega) (by omega) (by omega) (by omega);refine⟨k',by omega,c,?_,?_⟩
    ·grind
    simp_all
   ·refine⟨k,by omega,by omega,?_,?_⟩
    ·grind
    simp_all[aab]
  ·have:k=e:=by omega
   subst this;refine⟨k,by omega,by omega,?_,?_⟩
   ·simp
   simp[amz]
theorem amB(l:H)(e k:Int)(j:Int->Option Int):fixF (II l false e j) bB k=j k:=by grind[bB,gM,fixF,II,a4]
theorem amC(j:H->Option H):∀(m:Nat)(x:H),(x.length:Int)<=99999999->x.length<m->fixF (Ro 9 j) m x=j (x.dropWhile (· ==9)):=by
 intro m;induction m with
 |zero=>omega
 |succ m c=>
  intro x g hm;simp only[fixF,Ro,a4,po];cases x with
  |nil=>simp
  |cons b x=>
   have h0:at' (b::x) (0:Int)=b:=rfl;have Y:b3 (b::x) 1 ((b::x).length:Int)=x:=by simp[b3]
   have a:(0:Int)<((b::x).length:Int):=by simp
   have d:(1:Int)<=((b::x).length:Int):=by omega
   have e:x.length<m:=by grind
   have f:=ns b 9 ((9:UInt8).toNat:Int) rfl;rw[h0,Y];simp only[f,a,d,bz,aO,sH,om,imp_true_iff,c9];by_cases U:b=9
   ·subst U;simp only[bz,c9,true_and,show(0:Int)<=1 from by decide];rw[c x (by grind) e];simp
   simp_all
theorem aac(x:H)(b:(x.length:Int)<=99999999):Cw x [9]=some (x.dropWhile (· ==9)):=by
 unfold Cw;by_cases h:x=[]
 ·simp_all
 ·have c:LW x (at' [9] 0)=some (x.dropWhile (· ==9)):=by unfold LW;have a:at' ([9]:H) (0:Int)=9:=rfl;grind[a6,amC,bB,gM]
  have a:((at' ([9]:H) (0:Int)).toNat:Int)<128:=by decide
  have d:(decide (x=[]))=false:=by grind
  simp_all[aY,a4,aS]
theorem amD(l d:H)(t:Bool)(aw:(l.length:Int)<=99999999):∀(m:Nat)(k:Int),0<=k->k<=(l.length:Int)->(l.length:Int)-k<m->0<m->
  ∃r,fixF (zc l d t λ_=>some (-1)) m k=some r/\fixF (sV l d t λ_=>some (-1)) m k=some r:=by
 intro m;induction m with
 |zero=>omega
 |succ m E=>
  intro k az g hm _;by_cases M:k<(l.length:Int)
  ·
   have s:=TG (l.drop k.toNat) 10;have F:=KH (l.drop k.toNat) 10;have i:=amx 10 (l.drop k.toNat);simp only[Hk] at s i;have Y:b3 l k (l.length:Int)=l.drop k.toNat:=Ny az;have c:∀(e a:Int),k<=e->e<=(l.length:Int)->k<a->a<=(l.length:Int)->
     (∀j,fixF (Mz l j) bB k=j e)->(if e<(l.length:Int) then W (e+1) else e)=a->
     (∃r,fixF (zc l d t λ_=>some (-1)) (m+1) k=some r/\
      (bif decide ((if t then(b3 l k e).dropWhile (· ==9) else b3 l k e)=d) then some a else fixF (sV l d t λ_=>some (-1)) m a)=some r):=by
    intro e a h n G I u v;simp only[fixF,zc,a6,po,M,c9];rw[u];have fin:∀k',k<=k'->k'<=e->b3 l k' e=(if t then(b3 l k e).dropWhile (· ==9) else b3 l k e)->
      ∃r,(if e<(l.length:Int) then a4 (0<=k'/\k'<=e/\e<=(l.length:Int)) (if b3 l k' e=d then some (W (e+1)) else fixF (zc l d t λ_=>some (-1)) m (W (e+1)))
       else a4 (0<=k'/\k'<=e/\e<=(l.length:Int)) (if b3 l k' e=d then some e else fixF (zc l d t λ_=>some (-1)) m e))=some r/\
      (if((if t then(b3 l k e).dropWhile (· ==9) else b3 l k e)=d) then some a else fixF (sV l d t λ_=>some (-1)) m a)=some r:=by
     intro k' w o x;have bk:0<=k'/\k'<=e/\e<=(l.length:Int):=⟨by omega,o,n⟩;simp only[a4,bk,c9,om];grind
    cases t with
    |true=>
     obtain⟨k',w,o,x,J⟩:=amA l aw e n (λb=>if e<(l.length:Int) then a4 (0<=b/\b<=e/\e<=(l.length:Int)) (if b3 l b e=d then some (W (e+1)) else fixF (zc l d true λ_=>some (-1)) m (W (e+1)))
      else a4 (0<=b/\b<=e/\e<=(l.length:Int)) (if b3 l b e=d then some e else fixF (zc l d true λ_=>some (-1)) m e)) bB k az h (by grind[gM]) (by simp[gM])
     grind
    |false=>rw[amB];grind
   have bh:∀(line:H)(a:Int),(line.length:Int)<=99999999->
     (bif t then ay (Cw line [9]) λ(y:H)=>(if y=d then some a else fixF (sV l d t λ_=>some (-1)) m a) else(if line=d then some a else fixF (sV l d t λ_=>some (-1)) m a))=
     (bif decide ((if t then line.dropWhile (· ==9) else line)=d) then some a else fixF (sV l d t λ_=>some (-1)) m a):=by
    intro line a K;cases t with
    |true=>simp_all[aO,aS,aac]
    |false=>simp
   have z:=λj=>amy l aw j bB k az g (by grind[gM]) (by simp[gM]);generalize ah:Lib.indexByte (l.drop k.toNat) 10=p at*;by_cases U:p<0
   ·obtain⟨r,an,q⟩:=c (l.length:Int) (l.length:Int) g (sH _) M (sH _) (λj=>by grind) (by simp);refine⟨r,an,?_⟩;simp only[fixF,sV,a6,po,M,c9,a4,EZ,ay,Y,ah,az,g,sH,om];rw[aM (by omega)];rw[Y] at q;have:=bh (l.drop k.toNat) (l.length:Int) (by grind);grind[ay]
   ·have L:=i (by omega);have A:W (k+p+1)=k+p+1:=dO (by omega) (by omega);have B:W (k+p)=k+p:=dO (by omega) (by omega);obtain⟨r,an,q⟩:=c (k+p) (k+p+1) (by omega) (by omega) (by omega) (by omega) (λj=>by grind) (by omega);refine⟨r,an,?_⟩;simp only[fixF,sV,a6,po,M,c9,a4,EZ,ay,Y,ah,az,g,sH,om];have e_:0<=p:=by omega
    have C:(0:Int)<=0/\0<=p/\p<=((l.drop k.toNat).length:Int):=⟨by omega,by omega,by grind⟩;rw[B,A];simp only[e_,c9,true_and,show p<=((l.drop k.toNat).length:Int) from C.2.2];have D:b3 (l.drop k.toNat) 0 p=b3 l k (k+p):=by unfold b3;simp only[KG,yy,Nat.sub_zero];congr 1;omega
    rw[D];have f:((b3 l k (k+p)).length:Int)<=99999999:=by grind[b3]
    have:=bh (b3 l k (k+p)) (k+p+1) f;grind[ay]
  ·simp only[fixF,zc,sV,po,M,cZ];simp
def dl:H->UInt8->Option H
 |[],q=>if q=0 then some [] else none
 |b::r,q=>
  if q=39 then(if b=39 then dl r 0 else(dl r 39).map (b::·))
  else if b=92 then
   match r with
   |[]=>none
   |n::r'=>if n=10 then dl r' q else if q=0\/n=36\/n=34\/n=92\/n=96 then(dl r' q).map (n::·) else(dl (n::r') q).map (b::·)
  else if b=36\/b=96 then none
  else if b=34 then(if q=0 then dl r 34 else dl r 0)
  else if b=39/\q=0 then dl r 39
  else(dl r q).map (b::·)
termination_by l _=>l.length
decreasing_by all_goals grind
def oO(j:H->Option (H×Bool))(o:H)(m:Option H):Option (H×Bool):=match m with
 |some s=>j (o++s)
 |none=>some ([],false)
theorem pO(j:H->Option (H×Bool))(o:H)(b:UInt8)(m:Option H):oO j o (m.map (b::·))=oO j (o++[b]) m:=by
 cases m with
 |none=>rfl
 |some s=>simp[oO]
theorem uq(j:H->Option (H×Bool))(o:H):oO j o none=some ([],false):=rfl
theorem amG(l:H)(aw:(l.length:Int)<=200000000)(j:H×UInt8->Option (H×Bool))(A:∀o q,q≠0->j (o,q)=some ([],false)):
  ∀(m:Nat)(o:H)(q:UInt8)(k:Int),0<=k->k<=(l.length:Int)->(o.length:Int)<=k->(l.length:Int)-k<m->0<m->(q=0\/q=34\/q=39)->
  fixF (FH l j) m (o,q,k)=oO (λo=>j (o,0)) o (dl (l.drop k.toNat) q):=by
 intro m;induction m with
 |zero=>omega
 |succ m u=>
  intro o q k az G I hm _ e;by_cases M:k<(l.length:Int)
  ·have i:∀f a,(f.length:Int)<=k+1->(a=0\/a=34\/a=39)->fixF (FH l j) m (f,a,k+1)=oO (λo=>j (o,0)) f (dl (l.drop (k+1).toNat) a):=λf a U s=>u f a (k+1) (by omega) (by omega) U (by omega) (by omega) s
   have B:k+1<(l.length:Int)->∀f a,(f.length:Int)<=k+1->(a=0\/a=34\/a=39)->fixF (FH l j) m (f,a,k+2)=oO (λo=>j (o,0)) f (dl (l.drop (k+2).toNat) a):=λh0 f a U s=>u f a (k+2) (by omega) (by omega) (by omega) (by omega) (by omega) s
   have C:W (k+1)=k+1:=dO (by omega) (by omega);have D:W (k+1+1)=k+2:=by grind[dO]
   have bk:∀b:UInt8,o.length+([b]:H).length<=536870912:=by grind
   have g:∀b:UInt8,((o++[b]).length:Int)<=k+1:=by grind
   simp only[fixF,FH,a4,a6,po,C,D,M,az,c9,om,bk,ns _ 39 39 rfl,ns _ 92 92 rfl,ns _ 10 10 rfl,ns _ 36 36 rfl,ns _ 34 34 rfl,ns _ 96 96 rfl,ns _ 0 0 rfl];rw[wN az M];generalize at' l k=b at*;by_cases U:k+1=(l.length:Int)
   ·have eJ:l.drop (k+1).toNat=[]:=xe (by omega);rw[eJ] at i⊢;simp only[U,bz,hU,aY];rw[dl];have c:=λ(b:UInt8)(a:UInt8)(h:a=0\/a=34\/a=39)=>i (o++[b]) a (g b) h;have d:=λ(a:UInt8)(h:a=0\/a=34\/a=39)=>i o a (by omega) h;rw[U] at c d;by_cases rY:b=39
    ·subst rY;rcases e with rfl|rfl|rfl<;>simp[c,d,pO]
    by_cases nu:b=92
    ·subst nu;rcases e with rfl|rfl|rfl<;>simp[c,d,pO,uq]
    by_cases ra:b=36
    ·subst ra;rcases e with rfl|rfl|rfl<;>simp[c,d,pO,uq]
    by_cases oP:b=96
    ·subst oP;rcases e with rfl|rfl|rfl<;>simp[c,d,pO,uq]
    by_cases oQ:b=34
    ·subst oQ;rcases e with rfl|rfl|rfl<;>simp[c,d,pO,uq]
    rcases e with rfl|rfl|rfl<;>simp[c,d,pO,rY,nu,ra,oP,oQ]
   ·have s:k+1<(l.length:Int):=by omega
    have eJ:l.drop (k+1).toNat=at' l (k+1)::l.drop (k+2).toNat:=by grind[wN]
    have t:=B s;rw[eJ] at i⊢;generalize at' l (k+1)=n at*;have E:¬(k+1=(l.length:Int)):=U;have F:0<=k+1/\k+1<(l.length:Int):=by omega
    simp only[E,F,bG,fp,aO,c9,om];rw[dl];have c:=λ(b:UInt8)(a:UInt8)(h:a=0\/a=34\/a=39)=>i (o++[b]) a (g b) h;have d:=λ(a:UInt8)(h:a=0\/a=34\/a=39)=>i o a (by omega) h;have p:=λ(b:UInt8)(a:UInt8)(h:a=0\/a=34\/a=39)=>t (o++[b]) a (g b) h;have r:=λ(a:UInt8)(h:a=0\/a=34\/a=39)=>t o a (by omega) h;by_cases rY:b=39
    ·subst rY;rcases e with rfl|rfl|rfl<;>simp[c,d,pO]
    by_cases nu:b=92
    ·subst nu;by_cases v:n=10
     ·subst v;rcases e with rfl|rfl|rfl<;>simp[c,d,p,r,pO]
     by_cases w:n=36
     ·subst w;rcases e with rfl|rfl|rfl<;>simp[c,d,p,r,pO]
     by_cases x:n=34
     ·subst x;rcases e with rfl|rfl|rfl<;>simp[c,d,p,r,pO]
     by_cases y:n=92
     ·subst y;rcases e with rfl|rfl|rfl<;>simp[c,d,p,r,pO]
     by_cases z:n=96
     ·subst z;rcases e with rfl|rfl|rfl<;>simp[c,d,p,r,pO]
     rcases e with rfl|rfl|rfl<;>simp[c,d,p,r,pO,v,w,x,y,z]
    by_cases ra:b=36
    ·subst ra;rcases e with rfl|rfl|rfl<;>simp[c,d,pO,uq]
    by_cases oP:b=96
    ·subst oP;rcases e with rfl|rfl|rfl<;>simp[c,d,pO,uq]
    by_cases oQ:b=34
    ·subst oQ;rcases e with rfl|rfl|rfl<;>simp[c,d,pO,uq]
    rcases e with rfl|rfl|rfl<;>simp[c,d,pO,rY,nu,ra,oP,oQ]
  ·simp only[fixF,FH,a4,a6,po,M,cZ];rw[xe (by omega)];simp only[dl];by_cases U:q=0
   ·grind[oO]
   ·rw[A _ _ U,aM U];rfl
theorem amH(l:H):dl l 39=if Lib.indexByte l 39<0 then none else(dl (l.drop (Lib.indexByte l 39+1).toNat) 0).map ((l.take (Lib.indexByte l 39).toNat)++·):=by
 induction l with
 |nil=>simp[dl,Lib.indexByte]
 |cons b l a=>
  rw[dl.eq_def,Lib.indexByte];by_cases h:b=39
  ·simp_all
  ·have c:(b==39)=false:=by grind
   have g:=KH l 39;simp only[c9,h,cZ,c,fR];rw[a];generalize Lib.indexByte l 39=p at*;by_cases i:p= -1
   ·grind
   ·have d:(p== -1)=false:=by grind
    simp only[d,fR,cZ];rw[aM (by omega),aM (by omega)];have e:(p+1+1).toNat=(p+1).toNat+1:=by omega
    have f:(p+1).toNat=p.toNat+1:=by omega
    rw[e,f,KJ,PA,Option.map_map];rfl
theorem amI(l:H)(aw:(l.length:Int)<=99999999)(j:Unit->Option (H×Int))(D:j ()=some ([], -1)):
  ∀(m:Nat)(o:H)(k:Int),0<=k->k<=(l.length:Int)->(o.length:Int)<=k->(l.length:Int)-k<m->0<m->
  (fixF (tZ l j) m (o,k)=some ([], -1)/\dl (l.drop k.toNat) 34=none)\/
  ∃(s:H)(k':Int),fixF (tZ l j) m (o,k)=some (o++s,k')/\k<k'/\k'<=(l.length:Int)/\((o++s).length:Int)<=k'/\dl (l.drop k.toNat) 34=(dl (l.drop k'.toNat) 0).map (s++·):=by
 intro m;induction m with
 |zero=>omega
 |succ m w=>
  intro o k az E F hm _;by_cases M:k<(l.length:Int)
  ·have x:W (k+1)=k+1:=dO (by omega) (by omega);have y:W (k+1+1)=k+2:=by grind[dO]
   have bk:∀b:UInt8,o.length+([b]:H).length<=536870912:=by grind
   have e:∀b c:UInt8,o.length+([b,c]:H).length<=536870912:=by grind
   simp only[fixF,tZ,a4,a6,po,x,y,M,az,c9,om,bk,e,ns _ 39 39 rfl,ns _ 92 92 rfl,ns _ 10 10 rfl,ns _ 36 36 rfl,ns _ 34 34 rfl,ns _ 96 96 rfl];rw[wN az M];have f:∀(t:H),(t.length:Int)<=1->dl (at' l k::l.drop (k+1).toNat) 34=(dl (l.drop (k+1).toNat) 34).map (t++·)->
     (fixF (tZ l j) m (o++t,k+1)=some ([], -1)/\dl (at' l k::l.drop (k+1).toNat) 34=none)\/
     ∃(s:H)(k':Int),fixF (tZ l j) m (o++t,k+1)=some (o++s,k')/\k<k'/\k'<=(l.length:Int)/\((o++s).length:Int)<=k'/\dl (at' l k::l.drop (k+1).toNat) 34=(dl (l.drop k'.toNat) 0).map (s++·):=by
    intro t z he;rcases w (o++t) (k+1) (by omega) (by omega) (by grind) (by omega) (by omega) with⟨an,g⟩|⟨s,k',an,g,h,A,i⟩
    ·grind
    ·refine .inr ⟨t++s,k',by grind,by omega,h,by grind,?_⟩;rw[he,i,Option.map_map];congr 1;grind
   have a:∀(t:H),k+1<(l.length:Int)->(t.length:Int)<=2->dl (at' l k::l.drop (k+1).toNat) 34=(dl (l.drop (k+2).toNat) 34).map (t++·)->
     (fixF (tZ l j) m (o++t,k+2)=some ([], -1)/\dl (at' l k::l.drop (k+1).toNat) 34=none)\/
     ∃(s:H)(k':Int),fixF (tZ l j) m (o++t,k+2)=some (o++s,k')/\k<k'/\k'<=(l.length:Int)/\((o++s).length:Int)<=k'/\dl (at' l k::l.drop (k+1).toNat) 34=(dl (l.drop k'.toNat) 0).map (s++·):=by
    intro t h0 z he;rcases w (o++t) (k+2) (by omega) (by omega) (by grind) (by omega) (by omega) with⟨an,g⟩|⟨s,k',an,g,h,A,i⟩
    ·grind
    ·refine .inr ⟨t++s,k',by grind,by omega,h,by grind,?_⟩;rw[he,i,Option.map_map];congr 1;grind
   by_cases U:k+1=(l.length:Int)
   ·have eJ:l.drop (k+1).toNat=[]:=xe (by omega);rw[eJ] at f⊢;generalize at' l k=b at*;by_cases oQ:b=34
    ·subst oQ;grind[dl]
    by_cases nu:b=92
    ·grind[dl]
    by_cases ra:b=36
    ·grind[dl]
    by_cases oP:b=96
    ·grind[dl]
    grind[dl]
   ·have d:k+1<(l.length:Int):=by omega
    have eJ:l.drop (k+1).toNat=at' l (k+1)::l.drop (k+2).toNat:=by grind[wN]
    rw[eJ] at f a⊢;generalize at' l (k+1)=n at*;generalize at' l k=b at*;have B:¬(k+1=(l.length:Int)):=U;have C:0<=k+1/\k+1<(l.length:Int):=by omega
    simp only[B,C,cZ,c9,om];by_cases oQ:b=34
    ·subst oQ;refine .inr ⟨[],k+1,by simp,by omega,by omega,by grind,?_⟩;simp_all[dl]
    by_cases nu:b=92
    ·subst nu;by_cases p:n=10
     ·subst p;grind[dl]
     by_cases q:n=36
     ·subst q;simpa using a [36] d (by simp) (by simp[dl])
     by_cases r:n=34
     ·subst r;simpa using a [34] d (by simp) (by simp[dl])
     by_cases u:n=92
     ·subst u;simpa using a [92] d (by simp) (by simp[dl])
     by_cases v:n=96
     ·subst v;simpa using a [96] d (by simp) (by simp[dl])
     have:=a [92,n] d (by simp) (by rw[dl];simp[p,q,r,u,v];rw[dl.eq_def];simp[p,q,r,u,v];rfl);grind
    by_cases ra:b=36
    ·grind[dl]
    by_cases oP:b=96
    ·grind[dl]
    have:=f [b] (by simp) (by simp_all[dl]);grind
  ·simp only[fixF,tZ,a4,a6,po,M,cZ];grind[List.drop_eq_nil_of_le,dl]
theorem amK(l:H)(aw:(l.length:Int)<=99999999)(a:Int)(h0:0<=a)(M:a<=(l.length:Int)):
  xD l a=some (if Lib.indexByte (l.drop a.toNat) 39<0 then-1 else a+Lib.indexByte (l.drop a.toNat) 39+1):=by
 have b:=TG (l.drop a.toNat) 39;have c:=KH (l.drop a.toNat) 39;simp only[Hk] at b;unfold xD y0 EZ;have e:max (0:Int) (min a (l.length:Int))=a:=by omega
 simp only[ay,a4,e];rw[ba ⟨h0,M,sH _⟩,Ny h0];generalize Lib.indexByte (l.drop a.toNat) 39=p at*;simp only[po];grind[dO]
theorem aae(j:H->Option (H×Bool))(o s:H)(m:Option H):oO j o (m.map (s++·))=oO j (o++s) m:=by
 cases m with
 |none=>rfl
 |some t=>simp[oO]
theorem amL(l:H)(aw:(l.length:Int)<=99999999)(j:H->Option (H×Bool)):
  ∀(m:Nat)(o:H)(k:Int),0<=k->k<=(l.length:Int)->(o.length:Int)<=k->(l.length:Int)-k<m->0<m->
  fixF (Fl l j) m (o,k)=oO j o (dl (l.drop k.toNat) 0):=by
 intro m;induction m with
 |zero=>omega
 |succ m d=>
  intro o k az z A hm _;by_cases M:k<(l.length:Int)
  ·have f:W (k+1)=k+1:=dO (by omega) (by omega);have g:W (k+2)=k+2:=dO (by omega) (by omega)
   have bk:∀b:UInt8,o.length+([b]:H).length<=536870912:=by grind
   have h:=amK l aw (k+1) (by omega) (by omega);simp only[fixF,Fl,a4,a6,po,f,g,M,az,c9,om,bk,ns _ 39 39 rfl,ns _ 92 92 rfl,ns _ 10 10 rfl,ns _ 36 36 rfl,ns _ 34 34 rfl,ns _ 96 96 rfl];rw[aS h,wN az M]
   have e:∀a,(a.length:Int)<=k+1->fixF (Fl l j) m (a,k+1)=oO j a (dl (l.drop (k+1).toNat) 0):=λa U=>d a (k+1) (by omega) (by omega) U (by omega) (by omega)
   have c:∀b:UInt8,((o++[b]).length:Int)<=k+1:=by grind
   by_cases rY:at' l k=39
   ·rw[rY];simp only[show¬((39:UInt8)=92) by decide,cZ,c9];have aB:dl (39::l.drop (k+1).toNat) 0=dl (l.drop (k+1).toNat) 39:=by grind[dl.eq_def]
    rw[aB,amH];have i:=TG (l.drop (k+1).toNat) 39;have B:=KH (l.drop (k+1).toNat) 39;simp only[Hk] at i;generalize ah:Lib.indexByte (l.drop (k+1).toNat) 39=p at*;have q:0<=p->k+1+p<(l.length:Int):=by
     intro h0
     have:∀(l:H),0<=Lib.indexByte l 39->Lib.indexByte l 39<l.length:=by
      intro l;induction l with
      |nil=>decide
      |cons b l d=>unfold Lib.indexByte;grind
     grind
    by_cases af:p<0
    ·simp_all[c9,uq]
    ·simp only[af,cZ];have:=q (by omega);rw[aM (by omega),dO (x:=k+1+p+1-1) (by omega) (by omega)];have r:k+1+p+1-1=k+1+p:=by omega
     rw[r,ba ⟨by omega,by omega,by omega⟩];have t:b3 l (k+1) (k+1+p)=(l.drop (k+1).toNat).take p.toNat:=by grind[b3]
     have C:((b3 l (k+1) (k+1+p)).length:Int)<=p:=by grind
     rw[ba (by omega),t,aae,List.drop_drop];grind
   ·by_cases oQ:at' l k=34
    ·rw[oQ];simp only[show¬((34:UInt8)=92) by decide,show¬((34:UInt8)=39) by decide,cZ,c9];have aB:dl (34::l.drop (k+1).toNat) 0=dl (l.drop (k+1).toNat) 34:=by grind[dl.eq_def]
     rw[aB];have u:Fj l (k+1) o=fixF (tZ l λ_=>some ([], -1)) bB (o,k+1):=rfl;rcases amI l aw (λ_=>some ([], -1)) rfl bB o (k+1) (by omega) (by omega) (by omega) (by grind[gM]) (by simp[gM]) with⟨an,v⟩|⟨s,k',an,v,D,E,w⟩
     ·grind[aS,uq]
     ·rw[aS (u.trans an),w,aae];grind
    ·simp only[rY,oQ,cZ];by_cases U:k+1=(l.length:Int)
     ·have eJ:l.drop (k+1).toNat=[]:=xe (by omega);rw[eJ] at e⊢;generalize at' l k=b at*;by_cases nu:b=92
      ·grind[dl,uq]
      by_cases ra:b=36
      ·grind[dl,uq]
      by_cases oP:b=96
      ·grind[dl,uq]
      simp only[nu,ra,oP,cZ,bG,aY,fR];rw[e _ (c b),show [b]=b::([]:H) from rfl];grind[dl.eq_def,pO]
     ·have F:k+1<(l.length:Int):=by omega
      have eJ:l.drop (k+1).toNat=at' l (k+1)::l.drop (k+2).toNat:=by grind[wN]
      have G:∀a,(a.length:Int)<=k+2->fixF (Fl l j) m (a,k+2)=oO j a (dl (l.drop (k+2).toNat) 0):=λa U=>d a (k+2) (by omega) (by omega) U (by omega) (by omega)
      have y:0<=k+1/\k+1<(l.length:Int):=by omega
      rw[eJ] at e⊢;generalize at' l (k+1)=n at*;generalize at' l k=b at*;simp only[U,y,cZ,c9,om];grind[dl,dl.eq_def,pO,uq]
  ·simp only[fixF,Fl,a4,a6,po,M,cZ];grind[List.drop_eq_nil_of_le,dl,oO]
theorem aaf:∀(n:Nat)(l:H),l.length<=n->∀(q:UInt8)(s:H),dl l q=some s->s.length<=l.length:=by
 intro n;induction n with
 |zero=>simp[tA,dl,fq]
 |succ n g=>
  intro l af q s h
  match l with
  |[]=>grind
  |b::r=>
   simp only[nB] at af⊢
   have a:∀(d:UInt8),dl r d=some s->s.length<=r.length+1:=λd f=>by grind
   have e:∀(d c:UInt8),(dl r d).map (c::·)=some s->s.length<=r.length+1:=by
    intro d c f;cases aB:dl r d with
    |none=>grind
    |some t=>grind
   rw[dl.eq_def] at h;simp only at h;split at h
   ·grind
   ·split at h
    ·match r,a,e,h with
     |[],_,_,h=>cases h
     |x::r',a,e,h=>
      simp only at h;simp only[nB] at af a e⊢;split at h
      ·grind
      ·split at h
       ·cases aB:dl r' q with
        |none=>grind
        |some t=>grind
       grind
    grind
theorem amM(l:H)(aw:(l.length:Int)<=200000000):∀(m:Nat)(k:Int),0<=k->k<=(l.length:Int)->(l.length:Int)-k<m->0<m->
  fixF (SE l λ_=>some (l,true)) m k=if 0<=Lib.indexByte (l.drop k.toNat) 10 then some ([],false) else some (l,true):=by
 intro m;induction m with
 |zero=>omega
 |succ m a=>
  intro k az b hm _;simp only[fixF,SE,a4,po];by_cases M:k<(l.length:Int)
  ·simp only[M,az,c9,om,ns _ 10 10 rfl];rw[dO (by omega) (by omega),wN az M,Lib.indexByte];grind
  ·simp only[M,cZ];simp_all[xe,Lib.indexByte]
theorem amN(l:H)(aw:(l.length:Int)<=200000000):IQ l=oO (λs=>if 0<=Lib.indexByte s 10 then some ([],false) else some (s,true)) [] (dl l 0):=by
 unfold IQ;simp only[a6];rw[amG l aw _ (by intro o q a;simp only[ns _ 0 0 rfl,a,bG,fp,aO]) bB [] 0 0 (by omega) (by omega) (by simp) (by grind[gM]) (by simp[gM]) (.inl rfl)];simp only[KG,yy];cases aB:dl l 0 with
 |none=>rfl
 |some s=>
  have Y:=aaf _ l (cS _) 0 s aB;simp only[oO,ps];have:(!decide (((0:UInt8).toNat:Int)=0))=false:=by decide
  simp only[this,aY];grind[amM,bB,gM]
theorem amO(l:H)(aw:(l.length:Int)<=99999999):y7 l=oO (λs=>if 0<=Lib.indexByte s 10 then some ([],false) else some (s,true)) [] (dl l 0):=by
 unfold y7;simp only[a6];rw[amL l aw _ bB [] 0 (by omega) (by omega) (by simp) (by grind[gM]) (by simp[gM])];simp only[KG,yy];cases aB:dl l 0 with
 |none=>rfl
 |some s=>simp[oO,ps,RY,ay,po]
def ax(S r:H):Int:=(S.length:Int)-r.length
theorem e1(h:r<:+S):r.length<=S.length:=h.length_le
theorem dV(h:b::t<:+S):t<:+S:=(eL b t).trans h
theorem jE(h:b::t<:+S):at' S (ax S (b::t))=b:=by obtain⟨u,rfl⟩:=h;simp[ax,at']
theorem iV(h:n<=1000000):n<=99999999:=by omega
theorem iW(dy:S.length<=99999999)(h:b::t<:+S):W (ax S (b::t)+1)=ax S t:=by grind[e1,List.length_cons,dO,ax]
theorem kY{w:H}(dy:S.length<=99999999)(h:w++t<:+S):W (ax S (w++t)+w.length)=ax S t:=by grind[e1,List.length_append,dO,ax]
theorem ho(h:b::t<:+S):0<=ax S (b::t)/\ax S (b::t)<S.length:=by grind[e1,List.length_cons,ax]
theorem nW(h:b::t<:+S):ax S (b::t)<S.length:=(ho h).2
theorem iC(S:H):ax S []=S.length:=by rfl
theorem Jz(S:H):ax S S=0:=by simp[ax]
theorem pQ{r S:H}:ax S r<=S.length:=by grind[ax]
theorem zE:ax S r=S.length↔r=[]:=by
 unfold ax;constructor
 ·grind[List.length_eq_zero_iff]
 grind
theorem rZ{c:UInt8}:((b.toNat:Int)=(c.toNat:Int))↔b=c:=by
 constructor
 ·grind[UInt8.toNat_inj]
 grind
theorem JA(b:UInt8):((b.toNat:Int)=9)↔b=9:=rZ (c:=9)
theorem qu(b:UInt8):((b.toNat:Int)=10)↔b=10:=rZ (c:=10)
theorem TM(b:UInt8):((b.toNat:Int)=32)↔b=32:=rZ (c:=32)
theorem oQ(b:UInt8):((b.toNat:Int)=34)↔b=34:=rZ (c:=34)
theorem aag(b:UInt8):((b.toNat:Int)=35)↔b=35:=rZ (c:=35)
theorem ra(b:UInt8):((b.toNat:Int)=36)↔b=36:=rZ (c:=36)
theorem rY(b:UInt8):((b.toNat:Int)=39)↔b=39:=rZ (c:=39)
theorem Bj(b:UInt8):((b.toNat:Int)=40)↔b=40:=rZ (c:=40)
theorem F_(b:UInt8):((b.toNat:Int)=41)↔b=41:=rZ (c:=41)
theorem nu(b:UInt8):((b.toNat:Int)=92)↔b=92:=rZ (c:=92)
theorem oP(b:UInt8):((b.toNat:Int)=96)↔b=96:=rZ (c:=96)
theorem Bk(b:UInt8):((b.toNat:Int)=123)↔b=123:=rZ (c:=123)
theorem b2{c:Prop}[Decidable c]{k:Option α}(h:c):a4 c k=k:=ba h
structure cN where
 S:H
 ne:Int
 op:bs
 kD:Int
def cN.st(e:cN)(r:H)(F:ag):ak:=(e.S,ax e.S r,F,e.ne,e.op,e.kD)
structure ed(e:cN)(r:H)(F:ag):Prop where
 b4:e.S.length<=99999999
 sfx:r<:+e.S
 kk:F.length+r.length<=e.S.length
 ops:e.op.length+r.length<=e.S.length+1
theorem ed.mono{e:cN}(h:ed e r F)(M:r'<:+r):ed e r' F:=
 ⟨h.b4,M.trans h.sfx,by have:=h.kk;grind,by have:=h.ops;grind⟩
def aZ{α β:Type}(e:cN)(r0:H)(m:dn α)(cv:α->H->ag->β)(y:Option (bp ak β)):Prop:=match m with
 | .ok a r F=>r<:+r0/\ed e r F/\y=some (.inr (cv a r F))
 | .more op _ _=>∃st:ak,y=some (.inl (1,e.S.length,st))/\st.2.2.2.2.1=e.op++op
 | .bad r=>r<:+e.S/\∃st:ak,y=some (.inl (2,ax e.S r,st))
 | .deep _=>∃(p:Int)(st:ak),y=some (.inl (2,p,st))/\p<e.S.length
theorem aZ.mono{β:Type}{e:cN}{m:dn α}{cv:α->H->ag->β}{y:Option (bp ak β)}(h:aZ e r0 m cv y)(M:r0<:+an):aZ e an m cv y:=by
 cases m with
 |ok a r F=>exact⟨h.1.trans M,h.2⟩
 |_=>exact h
structure dg{α β:Type}(C:dn α->dn β):Prop where
 more:∀op nd ds,C (.more op nd ds)= .more op nd ds
 bad:∀r,C (.bad r)= .bad r
 deep:∀r,C (.deep r)= .deep r
theorem dg.id:dg (λx:dn α=>x):=⟨λ_ _ _=>rfl,λ_=>rfl,λ_=>rfl⟩
theorem dg.k:dg (dc f r):=⟨λ_ _ _=>rfl,λ_=>rfl,λ_=>rfl⟩
theorem aZ.je{d g β i:Type}{C:dn d->dn g}(c:dg C){e:cN}{m:ab α}{k:α->ab d}{cv:α->H->ag->β}{cv':g->H->ag->i}{y:Option (bp ak β)}{k':β->Option (bp ak i)}{f:ak->ak}
  (h:aZ e r0 (m r F) cv y) (hf:∀st,(f st).2.2.2.2.1=st.2.2.2.2.1) (az:∀a an b,m r F= .ok a an b->an<:+r0->ed e an b->aZ e r0 (C (k a an b)) cv' (k' (cv a an b))):
  aZ e r0 (C (Eng.N m k r F)) cv' (a_ y f k'):=by
 unfold Eng.N;cases hm:m r F with
 |ok a an b=>rw[hm] at h;obtain⟨M,U,rfl⟩:=h;exact az a an b hm M U
 |more op nd ds=>rw[hm] at h;obtain⟨st,rfl,U⟩:=h;rw[c.more];exact⟨f st,rfl,by grind⟩
 |bad q=>rw[hm] at h;obtain⟨M,st,rfl⟩:=h;rw[c.bad];exact⟨M,f st,rfl⟩
 |deep q=>rw[hm] at h;obtain⟨p,st,rfl,j⟩:=h;rw[c.deep];exact⟨p,f st,rfl,j⟩
theorem aZ.aah{a β:Type}{C:dn α->dn a}(b:dg C){e:cN}{cv:a->H->ag->β}{st:ak}{f:ak->ak}{k:Empty->Option (bp ak β)}(M:st.1=e.S)(U:(f st).2.2.2.2.1=e.op):aZ e r0 (C ((b5 x:ab α) r F)) cv (a_ (sU st) f k):=by unfold b5;rw[b.more];exact⟨f st,by grind[sU,a_],by grind⟩
theorem aZ.inl{β:Type}{e:cN}{a:ag}{s':σ}{cv:α->H->ag->β}{y:Option (bp ak β)}(aw:r'.length<r.length)(h:aZ e r0 (cD f s' r' a) cv y):aZ e r0 (dc f r (aU (.inl s') r' a)) cv y:=by simp_all[aU,dc,ba]
theorem aZ.inr{β:Type}{e:cN}{b:ag}{a:α}{cv:α->H->ag->β}{y:Option (bp ak β)}(M:r'<:+r0)(U:ed e r' b)(h:y=some (.inr (cv a r' b))):aZ e r0 (dc f r (aU (.inr a) r' b)) cv y:=⟨M,U,h⟩
theorem aZ.rep{τ β:Type}{e:cN}{cv:α->H->ag->β}{en:σ->H->ag->τ}{body:(τ->Option (bp ak β))->τ->Option (bp ak β)}
  (b:∀(k:τ->Option (bp ak β))(s:σ)(r:H)(F:ag),ed e r F->(∀s' r' a,r'<:+r->ed e r' a->r'.length<r.length->aZ e r (cD f s' r' a) cv (k (en s' r' a)))->aZ e r (dc f r (f s r F)) cv (body k (en s r F))):
  ∀(n:Nat)(s:σ)(r:H)(F:ag),r.length<n->ed e r F->aZ e r (cD f s r F) cv (fixF body n (en s r F)):=by
 intro n;induction n with
 |zero=>omega
 |succ n c=>grind[cL,aZ,fixF,aZ.mono]
theorem ml(h:n<=99999999):n<bB:=by grind[gM]
theorem fx{f:(σ->Option α)->σ->Option α}{s:σ}:fixF f (n+1) s=f (fixF f n) s:=rfl
theorem amP{e:cN}(I:ak)(a:I.1=e.S){j:Int->Option (bp ak ak)}(dy:e.S.length<=99999999):∀(n:Nat)(r:H),r.length<n->r<:+e.S->fixF (LJ I j) n (ax e.S r)=j (ax e.S (mi r)):=by
 intro n;induction n with
 |zero=>omega
 |succ n c=>
  intro r af Z;rw[fx];generalize fixF (LJ I j) n=k at c;unfold LJ;rw[a];cases r with
  |nil=>simp[iC,a4,mi]
  |cons b t=>
   rw[b2 (λ_=>ho Z),jE Z,iW dy Z];simp only[nW Z,bz,aO,qu];unfold mi;by_cases d:b=10
   ·grind
   ·simp only[d,bG,fp,aO,cZ];grind[List.length_cons,dV]
def JB(e:cN)(r:H)(F:ag)(y:Option (bp ak ak)):Prop:=match bg r with
 |some r'=>y=some (.inr (e.st r' F))
 |none=>∃st:ak,y=some (.inl (1,e.S.length,st))/\st.2.2.2.2.1=e.op
theorem TN{c:UInt8}(aq:c≠10):bg (92::c::u)=some (92::c::u):=by rw[m0,aM (by decide),aM (by decide),ba rfl];grind
theorem TO:bg (92::10::u)=if u=[] then none else bg u:=by rw[m0,aM (by decide),aM (by decide),ba rfl];rfl
theorem aai:bg [92]=some [92]:=by rw[m0,aM (by decide),aM (by decide),ba rfl]
theorem TP:bg (35::t)=bg (mi t):=by rw[m0,aM (by decide),ba rfl]
theorem TQ(a:¬fV b=true)(c:b≠35)(d:b≠92):bg (b::t)=some (b::t):=by simp_all[m0,aM]
theorem Ga(a:fV b=true):bg (b::t)=bg t:=by rw[m0,ba a]
theorem amQ{e:cN}(dy:e.S.length<=99999999)(I:ak)(M:I.1=e.S)(g:I.2.2.1=F)(i:I.2.2.2.1=e.ne)(j:I.2.2.2.2.1=e.op)(l:I.2.2.2.2.2=e.kD):∀(n:Nat)(r:H),r.length<n->r<:+e.S->
  JB e r F (fixF (LK I λm=>some (.inr (I.1,m,I.2.2.1,I.2.2.2.1,I.2.2.2.2.1,I.2.2.2.2.2))) n (ax e.S r)):=by
 intro n;induction n with
 |zero=>omega
 |succ n a=>
  intro r af Z;rw[fx];generalize fixF (LK I _) n=k at a;unfold LK a6;simp only[M,g,i,j,l];cases r with
  |nil=>simp only[iC,Int.lt_irrefl,bG,aY];simp[JB,mj,cN.st,iC]
  |cons b t=>
   have f:t.length<n:=by grind
   rw[b2 (ho Z),jE Z,iW dy Z];simp only[nW Z,bz,aO,TM,JA,nu,aag];unfold JB;by_cases d:fV b=true
   ·rw[Ga d];have:(bif decide (b=32) then true else decide (b=9))=true:=by simp[fV] at d;rcases d with rfl|rfl<;>rfl
    rw[this];exact a t f (dV Z)
   ·have o:(bif decide (b=32) then true else decide (b=9))=false:=by grind[fV]
    rw[o];simp only[aY];by_cases p:b=92
    ·subst p;cases t with
     |nil=>simp[iC,a4,cN.st,aai]
     |cons c u=>
      rw[b2 (λ_=>ho (dV Z)),jE (dV Z)];simp only[bz,aO,nW (dV Z),qu];by_cases aq:c=10
      ·subst aq;have q:W (ax e.S (92::10::u)+2)=ax e.S u:=kY (w:=[92,10]) dy Z;rw[q];simp only[bz,aO,TO];by_cases hu:u=[]
       ·subst hu;rw[ba rfl];simp only[iC,bz,aO];exact⟨_,rfl,rfl⟩
       ·rw[aM hu];have:decide (ax e.S u=(e.S.length:Int))=false:=by grind[zE]
        rw[this];simp only[aY];exact a u (by grind) (dV (dV Z))
      simp_all[bG,aY,TN,cN.st]
    ·have s:decide (b=92)=false:=by grind
     rw[s];simp only[aY];rw[b2 (λh=>by grind)];by_cases v:b=35
     ·subst v;rw[TP];simp only[decide_true,cond_true];rw[amP (e:=e) I M dy _ _ (ml (Nat.le_trans (e1 Z) dy)) Z];have:mi (35::t)=mi t:=by rfl
      rw[this];exact a _ (Nat.lt_of_le_of_lt (zv t) f) ((Dm t).trans (dV Z))
     grind[TQ,cN.st]
theorem amR{e:cN}(h:ed e r F):JB e r F (QW (e.st r F)):=
 amQ h.b4 (e.st r F) rfl rfl rfl rfl rfl _ r (ml (k1 (e1 h.sfx) h.b4)) h.sfx
theorem TS(h:r<:+S):S.drop (ax S r).toNat=r:=by obtain⟨u,rfl⟩:=h;simp[ax,pq]
theorem JC(h:r<:+S)(U:t<:+r):b3 S (ax S r) (ax S t)=r.take (r.length-t.length):=by grind[b3,TS,e1,ax]
theorem TT(dy:S.length<=99999999)(Z:r<:+S):Cv S (ax S r)=some (bt r):=by
 have M:¬ax S r<0:=by grind[e1,ax]
 unfold Cv;by_cases U:(S.length:Int)<=ax S r
 ·have b:r=[]:=zE.1 (show ax S r=S.length by have:= @pQ r S;omega);simp_all[bt,l2,yz,List.isPrefixOf]
 ·simp only[M,U,bG,aY];have e0:sy 32 [60,60,45,32,38,38,32,124,124,32,59,59,32,60,60,32,60,38,32,60,62,32,62,62,32,62,38,32,62,124,32,38,32,124,32,59,32,60,32,62,32,40,32,41]=l2:=by decide
  have a:=Z_ [60,60,45,32,38,38,32,124,124,32,59,59,32,60,60,32,60,38,32,60,62,32,62,62,32,62,38,32,62,124,32,38,32,124,32,59,32,60,32,62,32,40,32,41] 32 (by decide);rw[e0] at a;rw[aS a];unfold a6;show fixF (LS S (ax S r) l2 λ_=>some []) bB 0=_;rw[(aaa S (ax S r) (by omega) (by omega) (by omega) l2 (by decide) (by decide) (λ_=>some []) bB 0 (by omega) (by decide) (by rw[gM];decide) (by simp[gM])).2];rw[TS Z];grind[bt,Lib.hasPrefix,List.isPrefixOf,List.find?,l2]
theorem gI{β:Type}{g:Prop}[Decidable g]{v d:α}{k:α->Option β}:c1 g (some v) d k=k (if g then v else d):=by grind[c1,ay]
theorem TU(dy:S.length<=99999999)(Z:r<:+S):yY S (ax S r)=some (cV r):=by
 unfold yY;rw[TT dy Z,gI];cases r with
 |nil=>simp[iC,a4,cV]
 |cons b t=>
  have aw:¬(S.length:Int)<=ax S (b::t):=by simp_all[nW]
  rw[b2 (λ_=>ho Z),b2 (λ_=>ho Z),b2 (λ_=>ho Z),jE Z];simp only[aw,bG,aY,TM,JA,qu];grind[cV,fV,bt]
theorem aaj(dy:S.length<=99999999)(Z:b::t<:+S):EY S (ax S (b::t))=some (fD (b::t)):=by
 unfold EY;rw[b2 (ho Z),jE Z,iW dy Z];simp only[ra,Bj,Bk];cases t with
 |nil=>simp[iC,a4,fD]
 |cons c u=>
  rw[b2 (λ_=>ho (dV Z)),b2 (λ_ _=>ho (dV Z)),jE (dV Z)];simp only[nW (dV Z),bz];by_cases M:b=36
  ·subst M;by_cases U:c=40
   ·grind[fD]
   by_cases a:c=123
   ·grind[fD]
   simp_all[fD]
  simp_all[fD]
theorem amS:∀(r w:H),di r=(w,false)->w=[]
 |[],w,h=>by grind[di]
 |b::t,w,h=>by grind[di]
def Gb(S:H)(j:Int->Option (H×Bool))(r:H):H×Bool->Option (H×Bool)
 |(w,true)=>j (ax S (r.drop w.length))
 |(_,false)=>some ([],false)
theorem amT(dy:S.length<=99999999)(j:Int->Option (H×Bool)):∀(n:Nat)(r:H),r.length<n->r<:+S->fixF (H9 S j) n (ax S r)=Gb S j r (di r):=by
 intro n;induction n with
 |zero=>omega
 |succ n a=>
  intro r af Z;rw[fx];generalize fixF (H9 S j) n=k at a;unfold H9;rw[TU dy Z,aS rfl];cases r with
  |nil=>rfl
  |cons b t=>
   unfold di;by_cases d:cV (b::t)=true
   ·rw[d,ba rfl];rfl
   ·have e:cV (b::t)=false:=by grind
    rw[e,aM (by simp)];simp only[fp,aO];rw[b2 (ho Z),aaj dy Z,gI,jE Z,iW dy Z];simp only[nu,rY,oQ,oP];by_cases f:b=92
    ·grind[Gb]
    by_cases g:b=39
    ·grind[Gb]
    by_cases h:b=34
    ·grind[Gb]
    by_cases i:b=96
    ·grind[Gb]
    by_cases l:fD (b::t)=true
    ·grind[Gb]
    ·simp only[f,g,h,i,bG,aY,c9,l,cZ,or_self];rw[a t (by grind) (dV Z)];cases ah:di t with
     |mk w c=>cases c<;>rfl
theorem amU(dy:S.length<=99999999)(Z:r<:+S):LU S (ax S r)=some (di r):=by
 unfold LU a6;show fixF (H9 S _) bB (ax S r)=_;rw[amT dy _ _ r (ml (Nat.le_trans (e1 Z) dy)) Z];cases ah:di r with
 |mk w c=>
  cases c with
  |false=>rw[amS _ _ ah];rfl
  |true=>have a:=(F0 _ _ ah).1;obtain⟨q,rfl⟩:=a;have b:q<:+S:=(List.suffix_append w q).trans Z;show a4 _ _=_;rw[List.drop_left,b2 (by grind[e1,List.length_append,ax]),JC Z (gq w q)];simp
def jQ:Tok->Int×H×Bool
 | .eof=>(0,[],false)
 | .line=>(1,[],false)
 | .op o=>(2,o,false)
 | .word w p=>(3,w,p)
theorem aak{e:cN}(h:ed e r F):aZ e r (bN x r F) (λt r F=>(jQ t,e.st r F)) (mI (e.st r F)):=by
 have Y:=amR h;unfold JB at Y;unfold mI;cases az:bg r with
 |none=>rw[az] at Y;obtain⟨st,M,U⟩:=Y;rw[jC az,M];exact⟨st,rfl,by grind⟩
 |some r'=>
  rw[az] at Y;rw[bL az,Y];have c:=eV az;have a:=h.mono c;refine⟨c,a,?_⟩;unfold a_;simp only[cN.st];cases r' with
  |nil=>simp[iC,ar,jQ]
  |cons b t=>
   have bj:¬ax e.S (b::t)=(e.S.length:Int):=by simp[zE]
   simp only[bj,bG,aY];refine(b2 (ho a.sfx)).trans ?_;simp only[jE a.sfx,qu];unfold ar;by_cases d:b=10
   ·grind[jQ]
   ·simp only[d,bG,aY,cZ];rw[TT a.b4 a.sfx,aS rfl];by_cases f:bt (b::t)=[]
    ·simp only[f,bz,hU,aY,ne_eq,not_true,cZ];rw[amU a.b4 a.sfx,aS rfl];rfl
    grind[jQ]
theorem fo{τ β:Type}{m:Option (bp σ α)}{f:σ->τ}{k:α->Option (bp τ β)}{y:α}(h:m=some (.inr y)):a_ m f k=k y:=by rw[h];rfl
theorem gp{τ β:Type}{m:Option (bp σ α)}{f:σ->τ}{k:α->Option (bp τ β)}{c p:Int}{s:σ}(h:m=some (.inl (c,p,s))):a_ m f k=some (.inl (c,p,f s)):=by rw[h];rfl
theorem zF{τ β:Type}{g:Prop}[Decidable g]{m:Option (bp σ α)}{f:σ->τ}{d:α}{k:α->Option (bp τ β)}(h:g):n0 g m f d k=a_ m f k:=ba h
theorem aal{τ β:Type}{g:Prop}[Decidable g]{m:Option (bp σ α)}{f:σ->τ}{d:α}{k:α->Option (bp τ β)}(h:¬g):n0 g m f d k=k d:=aM h
def xW{β:Type}(e:cN)(y:Option (bp ak β)):Prop:=∃st:ak,y=some (.inl (1,e.S.length,st))/\st.2.2.2.2.1=e.op
theorem xW.bind{β a:Type}{e:cN}{y:Option (bp ak β)}{f:ak->ak}{k:β->Option (bp ak a)}(h:xW e y)(hf:∀st,(f st).2.2.2.2.1=st.2.2.2.2.1\/(f st).2.2.2.2.1=e.op):xW e (a_ y f k):=by obtain⟨st,M,U⟩:=h;refine⟨f st,gp M,?_⟩;grind
theorem xW.more{β:Type}{e:cN}{st:ak}{f:ak->ak}{k:Empty->Option (bp ak β)}(M:st.1=e.S)(U:(f st).2.2.2.2.1=e.op):xW e (a_ (sU st) f k):=
 ⟨f st,by grind[sU,a_],U⟩
theorem xW.sA{β:Type}{e:cN}{cv:α->H->ag->β}{nd:H}{y:Option (bp ak β)}(h:xW e y):aZ e r0 (.more [] nd ds) cv y:=by obtain⟨st,M,U⟩:=h;exact⟨st,M,by grind⟩
structure pe{β:Type}(e:cN)(f:Tok->β)(cB:ak->Option (bp ak (β×ak))):Prop where
 some:∀{r r' F},ed e r F->bg r=some r'->cB (e.st r F)= .some (.inr (f (ar r'),e.st r' F))
 none:∀{r F},ed e r F->bg r=none->xW e (cB (e.st r F))
theorem lB(e:cN):pe e jQ mI:=by
 constructor
 ·intro r r' F h Y;have:=aak (x:=[]) h;rw[bL Y] at this;exact this.2.2
 ·intro r F h Y;have:=aak (x:=[]) h;rw[jC Y] at this;obtain⟨st,M,U⟩:=this;exact⟨st,M,by grind⟩
theorem r1(e:cN)(w:H):pe e (λt=>cm t w) (λx=>qR x w):=by
 constructor
 ·intro r r' F h Y;refine(fo ((lB e).some h Y)).trans ?_;cases ar r' with
  |word t p=>cases p<;>by_cases a:t=w<;>simp[jQ,cm,a]<;>rfl
  |_=>rfl
 ·intro r F h Y;exact((lB e).none h Y).bind λ_=> .inl rfl
theorem sB(e:cN)(w:H):pe e (λt=>t== .op w) (λx=>oD x w):=by
 constructor
 ·intro r r' F h Y;refine(fo ((lB e).some h Y)).trans ?_;cases ar r' with
  |op t=>by_cases a:t=w<;>simp[jQ,a]<;>rfl
  |_=>rfl
 ·intro r F h Y;exact((lB e).none h Y).bind λ_=> .inl rfl
def Dw:Ctx->Int
 | .text=>0| .paren=>1| .pK=>2| .rT=>3| .pL=>4| .ko=>5| .pa=>6| .done=>7| .item=>8
theorem pe.or{e:cN}{f g:Tok->Bool}{cB G:ak->Option (bp ak (Bool×ak))}(hf:pe e f cB)(bk:pe e g G):
  pe e (λt=>f t||g t) (λI=>a_ (cB I) (λx=>x) λy=>n0 (y.1=false) (G (y.2.1,y.2.2.1,I.2.2.1,y.2.2.2.2.1,I.2.2.2.2.1,y.2.2.2.2.2.2)) (λx=>x) (false,(y.2.1,y.2.2.1,I.2.2.1,y.2.2.2.2.1,I.2.2.2.2.1,y.2.2.2.2.2.2)) λz=>
   Option.some (.inr ((bif y.1 then true else z.1),(z.2.1,z.2.2.1,I.2.2.1,z.2.2.2.2.1,I.2.2.2.2.1,z.2.2.2.2.2.2)))):=by
 constructor
 ·intro r r' F h Y;refine(fo (hf.some h Y)).trans ?_;cases a:f (ar r') with
  |true=>rfl
  |false=>refine(zF rfl).trans ((fo (bk.some (h.mono (eV Y)) (lz _ _ _ (cS _) Y))).trans ?_);rfl
 ·intro r F h Y;exact(hf.none h Y).bind λ_=> .inl rfl
theorem pe.ret{β:Type}{e:cN}{f:Tok->β}{cB:ak->Option (bp ak (β×ak))}(hf:pe e f cB):pe e f (λI=>a_ (cB I) (λx=>x) λy=>Option.some (.inr (y.1,(y.2.1,y.2.2.1,I.2.2.1,y.2.2.2.2.1,I.2.2.2.2.1,y.2.2.2.2.2.2)))):=by
 constructor
 ·intro r r' F h Y;exact(fo (hf.some h Y)).trans rfl
 ·intro r F h Y;exact(hf.none h Y).bind λ_=> .inl rfl
theorem amV(e:cN):pe e (λt=>t== .eof) (λI=>a_ (mI I) (λx=>x) λy=>some (.inr (decide (y.1.1=0),(y.2.1,y.2.2.1,I.2.2.1,y.2.2.2.2.1,I.2.2.2.2.1,y.2.2.2.2.2.2)))):=by
 constructor
 ·intro r r' F h Y;refine(fo ((lB e).some h Y)).trans ?_;cases ar r'<;>simp[jQ]<;>rfl
 ·intro r F h Y;exact((lB e).none h Y).bind λ_=> .inl rfl
theorem pe.amW{e:cN}{f g i:Tok->Bool}{cB G c_:ak->Option (bp ak (Bool×ak))}(hf:pe e f cB)(bk:pe e g G)(bh:pe e i c_):
  pe e (λt=>f t||g t||i t) (λI=>a_ (cB I) (λx=>x) λy=>n0 (y.1=false) (G (y.2.1,y.2.2.1,I.2.2.1,y.2.2.2.2.1,I.2.2.2.2.1,y.2.2.2.2.2.2)) (λx=>x) (false,(y.2.1,y.2.2.1,I.2.2.1,y.2.2.2.2.1,I.2.2.2.2.1,y.2.2.2.2.2.2)) λz=>
   n0 ((bif y.1 then true else z.1)=false) (c_ (z.2.1,z.2.2.1,I.2.2.1,z.2.2.2.2.1,I.2.2.2.2.1,z.2.2.2.2.2.2)) (λx=>x) (false,(z.2.1,z.2.2.1,I.2.2.1,z.2.2.2.2.1,I.2.2.2.2.1,z.2.2.2.2.2.2)) λw=>
   Option.some (.inr ((bif(bif y.1 then true else z.1) then true else w.1),(w.2.1,w.2.2.1,I.2.2.1,w.2.2.2.2.1,I.2.2.2.2.1,w.2.2.2.2.2.2)))):=by
 constructor
 ·intro r r' F h Y;have a:=lz _ _ _ (cS _) Y;have b:=h.mono (eV Y);refine(fo (hf.some h Y)).trans ?_;cases c:f (ar r') with
  |true=>rfl
  |false=>
   refine(zF rfl).trans ((fo (bk.some b a)).trans ?_);cases d:g (ar r') with
   |true=>rfl
   |false=>refine(zF rfl).trans ((fo (bh.some b a)).trans ?_);rfl
 ·intro r F h Y;exact(hf.none h Y).bind λ_=> .inl rfl
theorem TV(e:cN)(c:Ctx):pe e (dC c) (λx=>E2 x (Dw c)):=by
 cases c with
 |text=>exact amV e
 |paren=>exact(sB e _).ret
 |pK=>exact(r1 e _).ret
 |rT=>exact(r1 e _).ret
 |ko=>exact(r1 e _).ret
 |pa=>exact(r1 e _).ret
 |done=>exact(r1 e _).ret
 |item=>exact(sB e _).or (r1 e _)
 |pL=>exact(r1 e _).amW (r1 e _) (r1 e _)
theorem ur{e:cN}(h:ed e r F)(Y:bg r=some r'):
  (ar r'= .eof->xW e (lJ (e.st r F)))/\(ar r'≠ .eof->lJ (e.st r F)=some (.inl (2,ax e.S r',e.st r' F))):=by
 constructor
 ·intro a;have:lJ (e.st r F)=a_ (sU (e.st r' F)) (λx=>x) λy=>Empty.elim y:=by unfold lJ a6;refine(fo ((lB e).some h Y)).trans ?_;rw[a];rfl
  rw[this];exact xW.more rfl rfl
 ·intro a;unfold lJ a6;refine(fo ((lB e).some h Y)).trans ?_;cases az:ar r' with
  |eof=>grind
  |_=>rfl
theorem aam{e:cN}{w:H}{t:Tok->Bool}{cB:ak->Option (bp ak (Bool×ak))}(b:pe e t cB)(d:∀{r:H},t (ar r)=true->ar r≠ .eof/\w<+:r)(h:ed e r F):
  aZ e r (mL t w.length r F) (λ_=>e.st) (a_ (cB (e.st r F)) (λx=>x) λy=>bif !y.1 then a_ (lJ (y.2.1,y.2.2.1,F,y.2.2.2.2.1,e.op,y.2.2.2.2.2.2)) (λx=>x) (λy=>Empty.elim y) else some (.inr (y.2.1,W (y.2.2.1+(w.length:Int)),F,y.2.2.2.2.1,e.op,y.2.2.2.2.2.2))):=by
 unfold mL;cases Y:bg r with
 |none=>rw[dx (jC Y)];exact((b.none h Y).bind λ_=> .inl rfl).sA
 |some r'=>
  rw[aJ (bL Y),fo (b.some h Y)];have f:=eV Y;have a:=h.mono f;have c:=lz _ _ _ (cS _) Y;cases az:t (ar r') with
  |true=>obtain⟨M,q,rfl⟩:=d az;rw[aM M,ba rfl];refine⟨by grind[List.drop_left,List.suffix_append,trans],by rw[pq];exact a.mono (gq w q),?_⟩;rw[pq];show some (Sum.inr (e.S,W (ax e.S (w++q)+(w.length:Int)),F,e.ne,e.op,e.kD))=_;rw[kY h.b4 a.sfx];rfl
  |false=>
   simp only[fp,aO];by_cases he:ar r'= .eof
   ·rw[ba he];exact(((ur a c).1 he).bind λ_=> .inl rfl).sA
   ·rw[aM he,aM (by simp)];exact⟨a.sfx,_,gp ((ur a c).2 he)⟩
theorem JE{e:cN}(w:H)(h:ed e r F):aZ e r (cI w r F) (λ_=>e.st) (oF (e.st r F) w):=by refine aam (r1 e w) (λ{r} az=>?_) h;grind[ar,cm,q8]
theorem Nz{e:cN}(o:H)(h:ed e r F):aZ e r (jr o r F) (λ_=>e.st) (tW (e.st r F) o):=by
 refine aam (sB e o) (λ{r} az=>?_) h;have:ar r= .op o:=by grind
 simp_all[ib]
theorem TW:∀r:H,(Lib.indexByte r 10= -1/\(hK r).1=r/\(hK r).2=[])\/(Lib.indexByte r 10=((hK r).1.length:Int)/\r=(hK r).1++10::(hK r).2)
 |[]=> .inl ⟨rfl,rfl,rfl⟩
 |b::t=>by have:=TW t;unfold hK Lib.indexByte;grind
theorem NA(h:r<:+S):b3 S (ax S r) S.length=r:=by rw[<-iC S,JC h pt];simp
theorem amX{d:H}{j:Unit->Option Int}(dy:S.length<=99999999):∀(n:Nat)(r:H),r.length<n->r<:+S->
  fixF (sV S d tabs j) n (ax S r)=match kf d tabs r with|some q=>some (ax S q)|none=>j ():=by
 intro n;induction n with
 |zero=>omega
 |succ n c=>
  intro r af Z;rw[fx];generalize fixF (sV S d tabs j) n=k at c;unfold sV a6;cases r with
  |nil=>simp[iC,kf]
  |cons b t=>
   have s:=e1 Z;simp only[nW Z,bz,aO];rw[b2 (by have:=ho Z;omega),NA Z];have g:∀(l q:H),q<:+S->q.length<(b::t).length->(hK (b::t)).1=l->(hK (b::t)).2=q->
     (bif tabs then ay (Cw l [9]) λh=>bif decide (h=d) then some (ax S q) else k (ax S q) else bif decide (l=d) then some (ax S q) else k (ax S q))=
     match kf d tabs (b::t) with|some q=>some (ax S q)|none=>j ():=by
    intro l q e aw M U;rw[xP,M,U];have bh:=c q (by omega) e;have u:l.length<=(b::t).length:=by
     rcases TW (b::t) with⟨_,f,_⟩|⟨_,f⟩
     ·grind
     grind
    cases tabs with
    |true=>rw[aac l (by omega)];simp only[aO,c9];rw[aS rfl];grind
    |false=>grind
   show ay (some (Lib.indexByte (b::t) 10)) _=_;rw[aS rfl];rcases TW (b::t) with⟨M,U,f⟩|⟨M,U⟩
   ·grind[iC]
   ·have a:=k2 List.length U;simp only[Hj,nB] at a;have i:decide ((0:Int)<=Lib.indexByte (b::t) 10)=true:=by grind
    have e:(hK (b::t)).2<:+S:=((eL 10 _).trans (by grind)).trans Z
    have m:b3 (b::t) 0 (Lib.indexByte (b::t) 10)=(hK (b::t)).1:=by grind[hK,b3]
    have o:(b::t).length=t.length+1:=rfl;have p:W (W (ax S (b::t)+Lib.indexByte (b::t) 10)+1)=ax S (hK (b::t)).2:=by grind[ax,dO]
    rw[i];simp only[aO];rw[b2 (by omega),m,p];grind
theorem aao{d:H}(dy:S.length<=99999999)(Z:r<:+S):E0 S (ax S r) d tabs=some (match kf d tabs r with|some q=>ax S q|none=> -1):=by
 unfold E0 y0;have M:max (0:Int) (min (ax S r) S.length)=ax S r:=by grind[pQ,e1,ax]
 rw[aS rfl,M];unfold a6;show fixF (sV S d tabs _) bB (ax S r)=_;grind[amX,ml,Nat.le_trans,e1,kf]
def ND{β:Type}(e:cN)(op:bs)(y:Option (bp ak β)):Prop:=∃st:ak,y=some (.inl (1,e.S.length,st))/\st.2.2.2.2.1=e.op++op
theorem NF{β:Type}{e:cN}{st:ak}{f:ak->ak}{k:Empty->Option (bp ak β)}(M:st.1=e.S)(U:st.2.2.2.2.1=e.op)(a:e.op.length<=299999999)(hf:∀s,(f s).2.2.2.2.1=s.2.2.2.2.1):ND e [x] (a_ (y1 st x) f k):=by
 unfold y1;rw[b2 (by grind)];refine⟨f (st.1,st.2.1,st.2.2.1,st.2.2.2.1,st.2.2.2.2.1++[x],st.2.2.2.2.2),?_,?_⟩
 ·grind[sU,a_]
 grind
theorem amY{e:cN}{I y23:ak}{j:Int->Option (bp ak (Bool×ak))}(dy:e.S.length<=99999999)(f:e.op.length<=299999999)(o:F.length<=99999999)(g:I.2.2.2.2.1=e.op)(h:y23.1=e.S):∀(n i:Nat)(q:H),F.length-i<n->i<=F.length->q<:+e.S->
  match kg (F.drop i) q with
  | .inl r'=>fixF (Cx I F y23 j) n ((i:Int),ax e.S q)=j (ax e.S r')
  | .inr _=>ND e [[60,60]] (fixF (Cx I F y23 j) n ((i:Int),ax e.S q)):=by
 intro n;induction n with
 |zero=>omega
 |succ n l=>
  intro i q af bh d;rw[fx];generalize fixF (Cx I F y23 j) n=k at l;unfold Cx a6;simp only[h,g];by_cases p:i<F.length
  ·have a:(i:Int)<(F.length:Int):=by omega
   have b:F.drop i=at' F (i:Int)::F.drop (i+1):=by grind[List.drop_eq_getElem_cons,at',List.getElem?_eq_getElem]
   rw[b];simp only[a,bz,aO];rw[b2 (show 0<=(i:Int)/\True from⟨by omega,trivial⟩),aao dy d,aS rfl,dO (x:=(i:Int)+1) (by omega) (by omega)];unfold kg;cases m:kf (at' F (i:Int)).1 (at' F (i:Int)).2 q with
   |none=>simp only[show((-1:Int)<0) from by decide,bz,aO];exact NF rfl rfl f λ_=>rfl
   |some c=>
    have r:c<:+e.S:=((Nl _ _ _ q [] c (cS _) m).1).trans d;have h0:¬ax e.S c<0:=by grind[e1,ax]
    grind
  ·have a:¬(i:Int)<(F.length:Int):=by omega
   have b:F.drop i=[]:=xe (by omega);rw[b];simp only[a,bG,aY];rfl
theorem ed.xY{e:cN}(h:ed e r F):e.op.length<=299999999:=by have:=h.ops;have:=h.b4;omega
theorem ed.TX{e:cN}(h:ed e r F):F.length<=99999999:=by have:=h.kk;have:=h.b4;omega
theorem aap{e:cN}(h:ed e r F):aZ e r (cQ r F) (λb r F=>(b,e.st r F)) (mb (e.st r F)):=by
 unfold mb a6;rw[uo];refine aZ.rep (en:=λb r F=>(b,e.S,ax e.S r,F,e.ne,e.kD)) (λk b an a M az=>?_) bB false r F (ml (k1 (e1 h.sfx) h.b4)) h;unfold Rq a6;cases Y:bg an with
 |none=>have:iB b an a= .more [] (b8 [] a []).1 (b8 [] a []).2:=dx (jC Y);rw[this];exact(((lB e).none M Y).bind λ_=> .inr rfl).sA
 |some n=>
  have i:=eV Y;have c:=M.mono i;refine cast (k2 _ (fo ((lB e).some M Y)).symm) ?_;by_cases l:ar n= .line
  ·obtain⟨t,rfl⟩:=wL l;rw[xS Y,l];have o:t<:+e.S:=dV c.sfx;have f:=amY (e:=e) (F:=a) (I:=e.st r F) (y23:=e.st (10::t) a) (j:=λm=>k (true,e.S,m,[],e.ne,e.kD)) h.b4 c.xY c.TX rfl rfl bB 0 t (ml (by have:=c.TX;omega)) (by omega) o;have s:W (ax e.S (10::t)+1)=ax e.S t:=iW c.b4 c.sfx;simp only[yy] at f
   have u:∀y,y=fixF (Cx (e.st r F) a (e.st (10::t) a) λm=>k (true,e.S,m,[],e.ne,e.kD)) bB ((0:Nat),ax e.S t)->aZ e an (dc iB an (N kh (λ_=>aU (.inl true)) (10::t) a)) (λb r F=>(b,e.st r F)) y:=by
    rintro y rfl;cases g:kg a t with
    |inr nd=>
     rw[g] at f;have:N kh (λ_=>aU (.inl true)) (10::t) a=(.more [[60,60]] nd []:dn (Bool⊕Bool)):=by grind[N,zx]
     rw[this];exact f
    |inl d=>
     rw[g] at f;have v:N kh (λ_=>aU (.inl true)) (10::t) a=(.ok (.inl true) d []:dn (Bool⊕Bool)):=by unfold N;rw[zx,g];rfl
     rw[v];have w:fixF _ _ _=_:=f;rw[w];have p:d<:+t:=(wI _ _ [] _ g).1;have x:d<:+an:=p.trans ((eL 10 t).trans i);have q:d.length<an.length:=by grind
     have z:ed e d []:=⟨c.b4,p.trans o,by grind,by have:=M.ops;omega⟩;exact aZ.inl q (az true d [] x z q)
   refine u _ ?_;rw[<-s];rfl
  ·rw[sw Y l];refine⟨i,c,?_⟩;cases A:ar n with
   |line=>grind
   |_=>rfl
theorem amZ(w:H):LZ w=some (oJ w):=by
 unfold LZ;have e0:sy 32 [105,102,32,119,104,105,108,101,32,117,110,116,105,108,32,102,111,114,32,99,97,115,101,32,123]=([j7,ug,FT,mB,oI,[123]]:bs):=by decide
 rw[aS (TF w _ (by decide) (by simp_all)),e0];rfl
theorem am0(w:H):Mk w=some (q3 w):=by unfold Mk;rw[aS (TF w _ (by decide) (by decide))];rfl
theorem am1(w:H):Iz w=some (fm w):=by unfold Iz;rw[aS (TF w _ (by decide) (by decide))];rfl
theorem aaq(e:cN):pe e fJ Ij:=by
 constructor
 ·intro r r' F h Y;refine(fo ((lB e).some h Y)).trans ?_;simp only[amZ,gI];cases ar r' with
  |word t p=>cases p<;>simp[jQ,fJ,cN.st]
  |op o=>grind[jQ,fJ,cN.st]
  |_=>rfl
 ·intro r F h Y;exact((lB e).none h Y).bind λ_=> .inl rfl
def cN.fQ(e:cN)(x:H):cN:=⟨e.S,e.ne+1,e.op++[x],e.kD⟩
theorem NG{e:cN}{p:Int}(h:ed e r F)(M:0<=e.ne)(U:e.ne<30):xA (e.st r F) p x=some (.inr ((e.fQ x).st r F)):=by
 unfold xA a6;have:¬(e.st r F).2.2.2.1=30:=by show¬e.ne=30;omega
 simp only[this,bG,aY];have b:=h.xY;refine(b2 (show(e.st r F).2.2.2.2.1.length+_<=536870912 by show e.op.length+1<=_;omega)).trans ?_;have a:W (e.ne+1)=e.ne+1:=dO (by omega) (by omega);show some (Sum.inr (e.S,ax e.S r,F,W (e.ne+1),e.op++[x],e.kD))=_;rw[a];rfl
theorem TY{e:cN}{p:Int}(h:e.ne=30):∃st,xA (e.st r F) p x=some (.inl (2,p,st)):=by unfold xA a6;have:(e.st r F).2.2.2.1=30:=h;simp only[this,bz,aO];exact⟨_,rfl⟩
theorem NH{e:cN}(c:e.op.length<=299999999)(M:0<=e.ne)(U:e.ne<30):wk ((e.fQ x).st r F)=some (e.st r F):=by
 unfold wk;have aw:((e.fQ x).st r F).2.2.2.2.1=e.op++[x]:=rfl;have af:((e.fQ x).st r F).2.2.2.1=e.ne+1:=rfl;have a:W (((e.op++[x]).length:Int)-1)=e.op.length:=by grind[dO,List.length_append,List.length_singleton]
 have b:W (e.ne+1-1)=e.ne:=by grind[dO]
 simp only[aw,af,a,b];rw[b2 (by grind)];have:b3 (e.op++[x]) 0 (e.op.length:Int)=e.op:=by simp[b3]
 rw[this];rfl
theorem aZ.named{α β:Type}{e:cN}{r0 r:H}{F:ag}{m:ab α}{x:H}{cv:α->H->ag->β}{y:Option (bp ak β)}(h:aZ (e.fQ x) r0 (m r F) cv y):match(m.named x) r F with
  | .ok a r F=>r<:+r0/\ed (e.fQ x) r F/\y=some (.inr (cv a r F))
  | .more op _ _=>ND e op y
  | .bad r=>r<:+e.S/\∃st,y=some (.inl (2,ax e.S r,st))
  | .deep _=>∃(p:Int)(st:ak),y=some (.inl (2,p,st))/\p<e.S.length:=by
 unfold ab.named;cases hm:m r F with
 |ok a an b=>rw[hm] at h;exact h
 |more op nd ds=>rw[hm] at h;obtain⟨st,M,U⟩:=h;exact⟨st,M,by grind[cN.fQ]⟩
 |bad q=>rw[hm] at h;exact h
 |deep q=>rw[hm] at h;exact h
theorem JH(Z:r<:+S):y0 (ax S r) S.length=some (ax S r):=by unfold y0;grind[max,min,ax,pQ,e1]
def lR(S:H):Option H->Int
 |some q=>ax S q
 |none=> -1
theorem am2(dy:S.length<=99999999):∀(n:Nat)(r:H),r.length<n->r<:+S->fixF (y3 S λ_=>some (-1)) n (ax S r)=some (lR S (gx r)):=by
 intro n;induction n with
 |zero=>omega
 |succ n d=>
  intro r af Z;rw[fx];cases r with
  |nil=>simp[y3,iC,gx,lR]
  |cons b t=>
   have h:=e1 Z;have f:t.length<n:=by grind
   have e:=d t f (dV Z);cases t with
   |nil=>
    obtain⟨m,rfl⟩:∃m,n=m+1:=⟨n-1,by omega⟩
    have g:fixF (y3 S λ_=>some (-1)) (m+1) (W (ax S []+1))=some (-1):=by
     rw[fx];unfold y3;have:¬W (ax S []+1)<(S.length:Int):=by grind[iC,dO]
     grind
    generalize fixF (y3 S _) (m+1)=k at e g;unfold y3 a6;simp only[nW Z,bz,aO];rw[b2 ⟨(ho Z).1,trivial⟩,jE Z,iW dy Z];grind[nu,oP,gx,lR]
   |cons c u=>have a:=d u (by grind) (dV (dV Z));generalize fixF (y3 S _) n=k at e a;unfold y3 a6;simp only[nW Z,bz,aO];rw[b2 ⟨(ho Z).1,trivial⟩,jE Z,iW dy Z,iW dy (dV Z)];grind[nu,oP,gx,lR]
theorem am4(dy:S.length<=99999999)(Z:r<:+S):E_ S (ax S r)=some (lR S (gx r)):=by unfold E_;rw[JH Z,aS rfl];grind[a6,am2,ml,Nat.le_trans,e1]
theorem aar:∀r:H,(Lib.indexByte r 39= -1/\gw r=none)\/∃q,gw r=some q/\q<:+r/\Lib.indexByte r 39=(r.length:Int)-q.length-1
 |[]=> .inl ⟨rfl,rfl⟩
 |b::t=>by
  unfold gw Lib.indexByte;by_cases a:b=39
  ·subst a;exact .inr ⟨t,by simp,eL 39 t,by simp;omega⟩
  ·rcases aar t with⟨M,U⟩|⟨q,M,U,c⟩
   ·left;simp[a,M,U]
   ·right;refine⟨q,by simp[a,M],U.trans (eL b t),?_⟩;have d:=A_ t q M;have:¬Lib.indexByte t 39= -1:=by rw[c];omega
    simp[a,this,c];omega
theorem aas(dy:S.length<=99999999)(Z:r<:+S):xD S (ax S r)=some (lR S (gw r)):=by
 unfold xD;have aw:=e1 Z;have ah:ax S r=(S.length:Int)-r.length:=rfl;rw[JH Z,aS rfl,b2 (by omega),NA Z];show ay (some (Lib.indexByte r 39)) _=_;rw[aS rfl];rcases aar r with⟨M,U⟩|⟨q,M,U,a⟩
 ·rw[M,U];rfl
 ·have b:=A_ r q M;rw[M,a];have h0:¬((r.length:Int)-q.length-1<0):=by omega
  simp only[h0,bG,aY];rw[dO (x:=ax S r+_) (by omega) (by omega),dO (by omega) (by omega)];unfold lR;simp only;congr 1;have:ax S q=(S.length:Int)-q.length:=rfl;omega
def rb(S:H):ZE->Int×Int
 | .ok r=>(ax S r,0)
 | .more n=>(-1,n)
 | .bad r=>(-2,ax S r)
theorem tf(b:UInt8)(t:H):fD (b::t)=(decide (b=36)&&match t with|[]=>false|c::_=>decide (c=40)||decide (c=123)):=by
 cases t with
 |nil=>simp[fD]
 |cons c u=>
  by_cases M:b=36
  ·subst M;by_cases U:c=40
   ·subst U;rfl
   ·by_cases a:c=123
    ·subst a;rfl
    simp_all[fD]
  simp_all[fD]
theorem am5(dy:S.length<=99999999):∀(n:Nat)(d:Nat)(r:H),r.length<n->r<:+S->d+r.length<=99999999->fixF (E6 S λj=>some ((-1),(W (j+2)))) n ((d:Int),ax S r)=some (rb S (ij d r)):=by
 intro n;induction n with
 |zero=>omega
 |succ n e=>
  intro d r af Z aB;rw[fx];generalize fixF (E6 S _) n=k at e;unfold E6 a6;cases r with
  |nil=>simp only[iC,Int.lt_irrefl,bG,aY];grind[dO,ij,rb]
  |cons b t=>
   have x:=e1 Z;have l:t.length<n:=by grind
   have y:(b::t).length=t.length+1:=rfl;simp only[nW Z,bz,aO];rw[b2 ⟨(ho Z).1,trivial⟩];have m:=iW dy Z;simp only[jE Z,m,Bj,F_,rY,oQ,nu,oP,ra];have z:=λd h=>e d t l (dV Z) h;unfold ij;rw[tf];by_cases a:b=40
   ·subst a;have f:W ((d:Int)+1)=((d+1:Nat):Int):=by grind[dO]
    grind
   by_cases g:b=41
   ·subst g;simp only[a,bG,bz,aO,aY];cases d with
    |succ i=>
     have f:W (((i+1:Nat):Int)-1)=(i:Int):=by grind[dO]
     grind
    |zero=>
     simp only[show¬((0:Int)<((0:Nat):Int)) by decide,bG,aY];cases t with
     |nil=>simp[iC,rb]
     |cons c u=>
      have bj:¬ax S (c::u)=(S.length:Int):=by simp[zE]
      simp only[bj,bG,aY];rw[b2 (ho (dV Z))];simp only[jE (dV Z),F_];have f:W (ax S (41::c::u)+2)=ax S u:=kY (w:=[41,c]) dy Z;grind[rb]
   simp only[a,g,bG,aY,cZ];by_cases o:b=39
   ·grind[rb]
   by_cases p:b=34
   ·grind[rb]
   by_cases q:b=92
   ·grind[rb]
   by_cases s:b=96
   ·grind[rb]
   simp only[o,p,q,s,bG,aY,false_or];by_cases v:b=36
   ·subst v;simp only[bz,aO,Ps];cases t with
    |nil=>simp only[iC,Int.lt_irrefl,bG,aY];grind[b2,iC]
    |cons c u=>rw[b2 (λ_=>ho (dV Z)),b2 (λ_ _=>ho (dV Z))];simp only[nW (dV Z),bz,aO,jE (dV Z),Bj,Bk];grind[rb]
   grind
theorem aat(dy:S.length<=99999999)(Z:r<:+S):E7 S (ax S r)=some (rb S (ij 0 r)):=by unfold E7;rw[JH Z,aS rfl];unfold a6;exact am5 dy _ 0 r (ml (k1 (e1 Z) dy)) Z (by grind)
def rf{α β:Type}(e:cN)(m:ab α)(cv:α->H->ag->β)(cB:ak->Option (bp ak β)):Prop:=∀r F,ed e r F->aZ e r (m r F) cv (cB (e.st r F))
def a9(fr:Bool):Nat->ab Unit
 |0=>dj none
 |n+1=>dj (some (aW fr n))
theorem xZ(fr:Bool)(n:Nat):(aW fr n).dl=a9 fr n:=by cases n<;>rfl
structure Dx(R:bl)(n:Nat):Prop where
 im:∀e:cN,e.ne=30- (n:Int)->rf e (iQ 34 (cC (a9 false n) none)) (λ_=>e.st) (λx=>R.yT x 34 false)
structure NI(R:bl)(n:Nat):Prop where
 im:∀e:cN,e.ne=30- (n:Int)->rf e (iQ 125 (cC (a9 false n) (some (eP (a9 false n))))) (λ_=>e.st) (λx=>R.yT x 125 true)
structure o1(R:bl)(n:Nat):Prop where
 im:∀(e:cN)(c:Ctx)(no:Bool),c≠ .text->e.ne=30- (n:Int)->rf e ((aW false n).ls c no) (λa r F=>((a:Int),e.st r F)) (λx=>R.k5 x (Dw c) no)
theorem aZ.aG{α β:Type}{e:cN}{r0 r:H}{F:ag}{m:ab α}{x:H}{cv:α->H->ag->β}{y:Option (bp ak β)}(h:aZ e r0 (m r F) cv y):aZ e r0 (m.aG x r F) cv y:=by
 unfold ab.aG;cases hm:m r F with
 |more op nd ds=>rw[hm] at h;exact h
 |ok a an b=>grind
 |bad q=>grind
 |deep q=>rw[hm] at h;exact h
def cN.nm(e:cN)(x:H):cN:=⟨e.S,e.ne,e.op++[x],e.kD⟩
theorem am6(hp:Dx R n){e:cN}(bj:e.ne=30- (n:Int))(h:ed e (34::t) F):aZ e t (eP (a9 false n) t F) (λ_=>e.st) (L5 R (e.st (34::t) F)):=by
 unfold L5;have k:=h.xY;refine cast (k2 _ (b2 (show(e.st (34::t) F).2.2.2.2.1.length+_<=536870912 by show e.op.length+1<=_;omega)).symm) ?_
 have b:ed (e.nm [34]) t F:=⟨h.b4,dV h.sfx,by have:=h.kk;simp only[nB] at this;show _<=e.S.length;omega,by have:=h.ops;simp only[nB] at this;show(e.op++[[34]]).length+_<=_;simp only[Hj,Py];show _<=e.S.length+1;omega⟩
 have hu:=hp.im (e.nm [34]) bj t F b;have c:W (ax e.S (34::t)+1)=ax e.S t:=iW h.b4 h.sfx;have d:((e.st (34::t) F).1,(W ((e.st (34::t) F).2.1+1)),(e.st (34::t) F).2.2.1,(e.st (34::t) F).2.2.2.1,((e.st (34::t) F).2.2.2.2.1++([([34]:H)]:bs)),(e.st (34::t) F).2.2.2.2.2)=(e.nm [34]).st t F:=by show(e.S,W (ax e.S (34::t)+1),F,e.ne,e.op++[[34]],e.kD)=_;rw[c];rfl
 rw[d];unfold eP ab.named ab.aG;cases hm:iQ 34 (cC (a9 false n) none) t F with
 |ok a an f=>
  rw[hm] at hu;obtain⟨M,U,g⟩:=hu
  refine⟨M,⟨h.b4,U.sfx,U.kk,by have:=U.ops;have i:(e.nm [34]).op.length=e.op.length+1:=by simp[cN.nm]
                               rw[i] at this;have l:(e.nm [34]).S=e.S:=rfl;grind⟩,?_⟩
  rw[fo g];have j:W (((e.op++[[34]]).length:Int)-1)=e.op.length:=by grind[dO,List.length_append,List.length_singleton]
  have aw:((e.nm [34]).st an f).2.2.2.2.1=e.op++[[34]]:=rfl;simp only[aw,j];refine(b2 (by grind)).trans ?_;have:b3 (e.op++[[34]]) 0 (e.op.length:Int)=e.op:=by simp[b3]
  rw[this];rfl
 |more op nd ds=>rw[hm] at hu;obtain⟨st,M,U⟩:=hu;exact⟨st,gp M,by grind[cN.nm]⟩
 |bad q=>rw[hm] at hu;obtain⟨M,st,U⟩:=hu;exact⟨M,st,gp U⟩
 |deep q=>rw[hm] at hu;obtain⟨p,st,M,U⟩:=hu;exact⟨p,st,gp M,U⟩
def NJ(e:cN)(b:UInt8)(t:H)(F:ag)(m:dn Unit)(y:Option (bp ak (Bool×ak))):Prop:=match m with
 | .ok _ r' a=>r'<:+t/\ed e r' a/\(y=some (.inr (true,e.st r' a))\/(y=some (.inr (false,e.st (b::t) F))/\r'=t/\a=F))
 | .more op _ _=>ND e op y
 | .bad r=>r<:+e.S/\∃st,y=some (.inl (2,ax e.S r,st))
 | .deep _=>∃(p:Int)(st:ak),y=some (.inl (2,p,st))/\p<e.S.length
theorem ed.fQ{e:cN}(h:ed e r F)(a:t<:+r)(aw:t.length<r.length):ed (e.fQ x) t F:=
 ⟨h.b4,a.trans h.sfx,by have:=h.kk;show _<=e.S.length;omega,by have:=h.ops;show(e.op++[x]).length+_<=e.S.length+1;grind⟩
theorem ed.out{e:cN}(h:ed (e.fQ x) r F):ed e r F:=
 ⟨h.b4,h.sfx,h.kk,by
  have:=h.ops;have a:(e.fQ x).op.length=e.op.length+1:=by simp[cN.fQ]
  have b:(e.fQ x).S=e.S:=rfl;grind⟩
theorem am7{β:Type}{R:bl}{e:cN}{p:Int}{m:ab α}{cv:α->H->ag->β}{cB:ak->Option (bp ak β)}{k:β->Option (bp ak ak)}{G:ak->ak}
  (M:0<=e.ne) (U:e.ne<30) (h:ed e r F) (g:t<:+r) (aw:t.length<r.length) (f:G ((e.fQ x).st r F)=(e.fQ x).st t F)
  (hm:aZ (e.fQ x) t (m t F) cv (cB ((e.fQ x).st t F)))
  (az:∀a an d,m t F= .ok a an d->ed (e.fQ x) an d->k (cv a an d)=some (.inr (e.st an d))):
  aZ e t (N (m.named x) (λ_=>aU ()) t F) (λ_=>e.st) (a_ (xA (e.st r F) p x) (λx=>x) λy=>a_ (cB (G y)) (λx=>x) k):=by
 rw[fo (NG h M U),f];have:=hm.named;unfold N;cases af:(m.named x) t F with
 |ok a an d=>rw[af] at this;obtain⟨b,c,i⟩:=this;have j:=FW.1 af;exact⟨b,c.out,by grind[fo]⟩
 |more op nd ds=>rw[af] at this;obtain⟨st,b,c⟩:=this;exact⟨st,gp b,c⟩
 |bad q=>rw[af] at this;obtain⟨b,st,c⟩:=this;exact⟨b,st,gp c⟩
 |deep q=>rw[af] at this;obtain⟨p,st,b,c⟩:=this;exact⟨p,st,gp b,c⟩
theorem aZ.et{β:Type}{e:cN}{m:dn α}{cv:α->H->ag->β}{y a:Option (bp ak β)}(h:aZ e r0 m cv y)(b:a=y):aZ e r0 m cv a:=b▸h
theorem Ge(m:ab Unit)(r:H)(F:ag):N m (λ_=>aU ()) r F=m r F:=by unfold N;cases m r F<;>rfl
theorem aau(fr:Bool)(n:Nat):(aW fr n).pm=qp (a9 fr n):=by cases n<;>rfl
theorem am8(hp:∀m,n=m+1->NI R m){e:cN}(bj:e.ne=30- (n:Int))(af:n<=30)(h:ed e (36::123::u) F):
  aZ e u (a9 false n (36::123::u) F) (λ_=>e.st) (wo R (e.st (36::123::u) F)):=by
 cases n with
 |zero=>
  show aZ e u (dj none _ _) _ _;unfold dj;rw[aM (by simp),aM (by simp),ba (by simp)];obtain⟨st,aw⟩:=TY (e:=e) (r:=36::123::u) (F:=F) (p:=ax e.S (36::123::u)) (x:=[36,123]) (by omega);refine⟨ax e.S (36::123::u),st,?_,(ho h.sfx).2⟩;have c:W (ax e.S (36::123::u)+1)=ax e.S (123::u):=iW h.b4 h.sfx;unfold wo a6;refine(b2 (show 0<=W (ax e.S (36::123::u)+1)/\W (ax e.S (36::123::u)+1)<(e.S.length:Int) by rw[c];exact ho (dV h.sfx))).trans ?_;have:((at' (e.st (36::123::u) F).1 (W ((e.st (36::123::u) F).2.1+1))).toNat:Int)=123:=by show((at' e.S (W (ax e.S (36::123::u)+1))).toNat:Int)=123;rw[c,jE (dV h.sfx)];rfl
  simp only[this,bz,aO];exact gp aw
 |succ m=>
  have hu:=(hp m rfl).im (e.fQ [36,123]) (by show e.ne+1=_;omega);have d:W (ax e.S (36::123::u)+2)=ax e.S u:=kY (w:=[36,123]) h.b4 h.sfx;have c:W (ax e.S (36::123::u)+1)=ax e.S (123::u):=iW h.b4 h.sfx;have Y:u<:+36::123::u:=(eL 123 u).trans (eL 36 _);have hm:=aZ.aG (x:=[125]) (hu u F (h.fQ Y (by grind)));have:=am7 (R:=R) (p:=ax e.S (36::123::u)) (cB:=λx=>R.yT x 125 true) (G:=λy=>(y.1,(W (y.2.1+2)),y.2.2.1,y.2.2.2.1,y.2.2.2.2.1,y.2.2.2.2.2)) (k:=λf=>ay (wk f) λb=>some (.inr (b.1,b.2.1,b.2.2.1,b.2.2.2.1,b.2.2.2.2.1,b.2.2.2.2.2)))
   (by omega) (by omega) h Y (by grind) (by show(e.S,W (ax e.S (36::123::u)+2),F,e.ne+1,e.op++[[36,123]],e.kD)=_;rw[d];rfl) hm
   (λa an g _ _=>by rw[NH h.xY (by omega) (by omega)];rfl)
  rw[Ge] at this;have ah:a9 false (m+1) (36::123::u) F=((aW false m).pm.named [36,123]) u F:=by rfl
  rw[ah,aau];refine aZ.et this ?_
  ·unfold wo a6;refine(b2 (show 0<=W (ax e.S (36::123::u)+1)/\W (ax e.S (36::123::u)+1)<(e.S.length:Int) by rw[c];exact ho (dV h.sfx))).trans ?_;have:((at' (e.st (36::123::u) F).1 (W ((e.st (36::123::u) F).2.1+1))).toNat:Int)=123:=by show((at' e.S (W (ax e.S (36::123::u)+1))).toNat:Int)=123;rw[c,jE (dV h.sfx)];rfl
   simp only[this,bz,aO];rfl
theorem aav:∀(r:H)(d:Nat)(q:H),ij d r= .bad q->q<:+r
 |[],d,q,h=>by grind[ij]
 |b::t,d,q,h=>by
  have a:=λd=>aav t d;unfold ij at h;split at h
  ·cases h;exact gr
  ·split at h
   ·exact((a _) q h).trans (eL b t)
   ·split at h
    ·split at h
     ·exact((a _) q h).trans (eL b t)
     ·split at h
      ·cases h
      ·split at h
       ·cases h
       ·cases h;exact gr
    ·exact((a _) q h).trans (eL b t)
theorem am9{e:cN}(h:ed e (36::40::40::u) F):
  aZ e u (a9 false n (36::40::40::u) F) (λ_=>e.st) (wo R (e.st (36::40::40::u) F)):=by
 have ah:a9 false n (36::40::40::u) F=oK u F:=by
  cases n with
  |zero=>rfl
  |succ m=>rfl
 rw[ah];have b:W (ax e.S (36::40::40::u)+1)=ax e.S (40::40::u):=iW h.b4 h.sfx;have c:W (ax e.S (36::40::40::u)+2)=ax e.S (40::u):=kY (w:=[36,40]) h.b4 h.sfx;have d:W (ax e.S (36::40::40::u)+3)=ax e.S u:=kY (w:=[36,40,40]) h.b4 h.sfx;have hu:u<:+e.S:=dV (dV (dV h.sfx));have f:u<:+36::40::40::u:=(gq [36,40,40] u);unfold wo a6;simp only[cN.st,b,c,d,jE (dV h.sfx),jE (dV (dV h.sfx)),Bk,Bj];refine aZ.et ?_ (b2 (ho (dV h.sfx)));simp only[show¬((40:UInt8)=123) by decide,bG,aY];refine aZ.et ?_ (b2 (λ_=>ho (dV (dV h.sfx))));simp only[nW (dV (dV h.sfx)),bz,aO,aat h.b4 hu];refine aZ.et ?_ (aS rfl);unfold oK;cases Y:ij 0 u with
 |ok q=>
  have a:=Bd 0 u q Y;have h0:¬ax e.S q= -1:=by grind[e1,ax]
  have M:¬ax e.S q= -2:=by grind[e1,ax]
  refine⟨a,h.mono (a.trans f),?_⟩;simp[rb,h0,M];rfl
 |more k=>simp only[rb,bz,aO];exact NF rfl rfl h.xY λ_=>rfl
 |bad q=>have a:=aav u 0 q Y;refine⟨a.trans hu,?_⟩;simp only[rb,show¬((-2:Int)= -1) by decide,bG,aY,bz,aO];exact⟨_,rfl⟩
theorem aaw{Q:H->Prop}(hf:∀s r F a r' b,f s r F= .ok (.inr a) r' b->Q r'):∀(bF:Nat)(s:σ)(r:H)(F:ag)(a:α)(r':H)(b:ag),r.length<=bF->cD f s r F= .ok a r' b->Q r':=λbF s r F a r' b c h=>Js (λ_ _=>True) (λr _=>Q r) (λ_ _ _ _ _ _ _ _=>trivial) (λs r F a r' b _ h=>hf s r F a r' b h) bF s r F a r' b c trivial h
theorem JI{t:Tok}{a:ag}(h:bN x r F= .ok t r' a):bg r=some r'/\t=ar r'/\a=F:=by
 unfold bN at h;split at h
 ·grind[b5]
 grind
theorem x1(aq:c≠ .text){a:Nat}{d:ag}(h:np cX c no r F= .ok a r' d):bg r'=some r'/\dC c (ar r')=true:=by
 rw[td] at h;obtain⟨_,an,u,_,h⟩:=bW h;refine aaw (Q:=λr'=>bg r'=some r'/\dC c (ar r')=true) (λs r F a r' d h=>?_) _ _ _ _ _ _ _ (cS _) h;unfold fw at h;generalize (if(no||decide (s>0))=true then([]:H) else [120])=k at h;obtain⟨t,e,v,M,g⟩:=bW h;clear h;obtain⟨U,rfl,rfl⟩:=JI M;have x:=lz _ _ _ (cS _) U;by_cases he:ar e= .eof
 ·simp_all[ba,aM,b5]
 rw[aM he] at g;by_cases f:((no||decide (s>0))&&dC c (ar e))=true
 ·rw[ba f] at g;cases g;grind
 rw[aM f] at g;obtain⟨_,y,z,_,g⟩:=bW g;obtain⟨t,l,A,m,b⟩:=bW g;clear g;obtain⟨n,rfl,rfl⟩:=JI m;have q:=lz _ _ _ (cS _) n;cases az:ar l with
 |eof=>rw[az] at b;cases b
 |line=>rw[az] at b;obtain⟨_,_,_,_,b⟩:=bW b;cases b
 |word w p=>rw[az] at b;cases b
 |op o=>
  rw[az] at b;unfold jB at b;simp only at b;by_cases i:o=[59]\/o=[38]
  ·rw[ba i] at b;obtain⟨_,_,_,_,b⟩:=bW b;obtain⟨_,_,_,_,b⟩:=bW b;cases b
  ·rw[aM i] at b;by_cases j:dC c (.op o)=true
   ·rw[ba j] at b;cases b;grind
   ·rw[aM j] at b;cases b
theorem Bm{o v:H}(Y:bg v=some v)(a:ar v= .op o):jr o v F= .ok () (v.drop o.length) F:=by unfold jr mL;rw[aJ (bL Y),a,aM (by simp)];simp[bV]
theorem aax{e:cN}{v:H}{o:H}(h:ed e v F)(Y:bg v=some v)(a:ar v= .op o):v.drop o.length<:+v/\tW (e.st v F) o=some (.inr (e.st (v.drop o.length) F)):=by have:=Nz o h;rw[Bm Y a] at this;exact⟨this.1,this.2.2⟩
theorem aay(bm:∀m,n=m+1->o1 R m){e:cN}(bj:e.ne=30- (n:Int))(af:n<=30)(hu:u.head?≠some 40)(h:ed e (36::40::u) F):
  aZ e u (a9 false n (36::40::u) F) (λ_=>e.st) (wo R (e.st (36::40::u) F)):=by
 have k:¬([36,40,40]:H).isPrefixOf (36::40::u)=true:=by
  cases u with
  |nil=>simp
  |cons c v=>grind
 cases n with
 |zero=>
  show aZ e u (dj none _ _) _ _;unfold dj;rw[aM k,ba (by simp)];obtain⟨st,aw⟩:=TY (e:=e) (r:=36::40::u) (F:=F) (p:=ax e.S (36::40::u)) (x:=[36,40]) (by omega);refine⟨ax e.S (36::40::u),st,?_,(ho h.sfx).2⟩;have j:W (ax e.S (36::40::u)+2)=ax e.S u:=kY (w:=[36,40]) h.b4 h.sfx;have g:W (ax e.S (36::40::u)+1)=ax e.S (40::u):=iW h.b4 h.sfx;unfold wo a6;refine(b2 (show 0<=W (ax e.S (36::40::u)+1)/\W (ax e.S (36::40::u)+1)<(e.S.length:Int) by rw[g];exact ho (dV h.sfx))).trans ?_;simp only[cN.st,g,j,jE (dV h.sfx),Bk,Bj];simp only[show¬((40:UInt8)=123) by decide,bG,aY];have bk:decide (ax e.S u<(e.S.length:Int))=true->0<=ax e.S u/\ax e.S u<(e.S.length:Int):=by
   intro i;cases u with
   |nil=>simp[iC] at i
   |cons c v=>exact ho (dV (dV h.sfx))
  refine(b2 bk).trans ?_;have hf:(bif decide (ax e.S u<(e.S.length:Int)) then decide (at' e.S (ax e.S u)=40) else false)=false:=by
   cases u with
   |nil=>simp[iC]
   |cons c v=>have:¬c=40:=λi=>hu (by simp[i]);simp[jE (dV (dV h.sfx)),this]
  simp only[hf,aY];exact gp aw
 |succ m=>
  have aw:=(bm m rfl).im (e.fQ [36,40]) .paren true (by simp) (by show e.ne+1=_;omega);have j:W (ax e.S (36::40::u)+2)=ax e.S u:=kY (w:=[36,40]) h.b4 h.sfx;have g:W (ax e.S (36::40::u)+1)=ax e.S (40::u):=iW h.b4 h.sfx;have Y:u<:+36::40::u:=(eL 40 u).trans (eL 36 _);have y:=h.fQ (x:=[36,40]) Y (by grind);have hm:=aZ.aG (x:=[41]) (aw u F y);have ah:a9 false (m+1) (36::40::u) F=uh (aW false m) u F:=by show dj (some (aW false m)) _ _=_;unfold dj;rw[aM k,ba (by simp)];rfl
  rw[ah];unfold wo a6;refine aZ.et ?_ (b2 (show 0<=W (ax e.S (36::40::u)+1)/\W (ax e.S (36::40::u)+1)<(e.S.length:Int) by rw[g];exact ho (dV h.sfx)));simp only[cN.st,g,j,jE (dV h.sfx),Bk,Bj];simp only[show¬((40:UInt8)=123) by decide,bG,aY];have bk:decide (ax e.S u<(e.S.length:Int))=true->0<=ax e.S u/\ax e.S u<(e.S.length:Int):=by
   intro i;cases u with
   |nil=>grind[iC]
   |cons c v=>exact ho (dV (dV h.sfx))
  refine aZ.et ?_ (b2 bk);have hf:(bif decide (ax e.S u<(e.S.length:Int)) then decide (at' e.S (ax e.S u)=40) else false)=false:=by
   cases u with
   |nil=>simp[iC]
   |cons c v=>have:¬c=40:=λi=>hu (by grind);simp[jE (dV (dV h.sfx)),this]
  simp only[hf,aY];have z:=NG (p:=ax e.S (36::40::u)) (x:=[36,40]) h (by omega) (by omega);refine aZ.et ?_ (fo z);have A:(((e.fQ [36,40]).st (36::40::u) F).1,(W (((e.fQ [36,40]).st (36::40::u) F).2.1+2)),((e.fQ [36,40]).st (36::40::u) F).2.2.1,((e.fQ [36,40]).st (36::40::u) F).2.2.2.1,((e.fQ [36,40]).st (36::40::u) F).2.2.2.2.1,((e.fQ [36,40]).st (36::40::u) F).2.2.2.2.2)=(e.fQ [36,40]).st u F:=by show(e.S,W (ax e.S (36::40::u)+2),F,e.ne+1,e.op++[[36,40]],e.kD)=_;rw[j];rfl
  rw[A];unfold uh;have b:=hm.named;unfold N;cases az:(((aW false m).ls .paren true).aG [41]).named [36,40] u F with
  |ok a an B=>
   rw[az] at b;obtain⟨f,d,C⟩:=b;have l:=hn.1 (FW.1 az);rw[Dr] at l;obtain⟨o,I⟩:=x1 (by simp) l;have s:ar an= .op [41]:=by grind[dC]
   obtain⟨t,D⟩:=aax d o s;simp only;rw[Bm o s];have E:=(d.mono t);refine⟨t.trans f,E.out,?_⟩;refine(fo C).trans ((fo D).trans ?_);have G:=NH (r:=an.drop 1) (F:=B) (x:=[36,40]) h.xY (show 0<=e.ne by omega) (by omega);exact(aS G).trans rfl
  |more op nd ds=>rw[az] at b;obtain⟨st,f,d⟩:=b;exact⟨st,gp f,d⟩
  |bad q=>rw[az] at b;obtain⟨f,st,d⟩:=b;exact⟨f,st,gp d⟩
  |deep q=>rw[az] at b;obtain⟨p,st,f,d⟩:=b;exact⟨p,st,gp f,d⟩
structure Below(R:bl)(n:Nat):Prop where
 le:n<=30
 u1:∀m,n=m+1->NI R m
 ls:∀m,n=m+1->o1 R m
theorem aaz(a:Below R n){e:cN}(bj:e.ne=30- (n:Int))(f:fD (b::t)=true)(h:ed e (b::t) F):
  aZ e t (a9 false n (b::t) F) (λ_=>e.st) (wo R (e.st (b::t) F)):=by
 rw[tf] at f;cases t with
 |nil=>grind
 |cons c u=>
  simp only[h4,yx,PC] at f;obtain⟨rfl,rfl|rfl⟩:=f
  ·cases u with
   |nil=>exact(aay a.ls bj a.le (by simp) h).mono (eL _ _)
   |cons d v=>
    by_cases aB:d=40
    ·subst aB;exact(am9 (n:=n) h).mono ((eL _ _).trans (eL _ _))
    ·exact(aay a.ls bj a.le (by grind) h).mono (List.suffix_cons _ _)
  ·exact(am8 a.u1 bj a.le h).mono (eL _ _)
theorem aaA(O:Below R n)(i:Bool)(hp:i=true->Dx R n){e:cN}(bj:e.ne=30- (n:Int))(h:ed e (b::t) F):
  NJ e b t F (cC (a9 false n) (if i then some (eP (a9 false n)) else none) (b::t) F) (CD R (e.st (b::t) F) i):=by
 have j:t<:+b::t:=eL b t;have D:=iW h.b4 h.sfx;have v:W (ax e.S (b::t)+1)=ax e.S t:=D;unfold CD a6;have bk:0<=(e.st (b::t) F).2.1/\(e.st (b::t) F).2.1<((e.st (b::t) F).1.length:Int):=ho h.sfx;rw[b2 bk];have E:at' (e.st (b::t) F).1 (e.st (b::t) F).2.1=b:=jE h.sfx;simp only[E,nu,rY,oP,oQ];unfold cC;simp only;by_cases k:b=92
 ·subst k;simp only[bz,aO,c9];have G:min (W (ax e.S (92::t)+2)) (e.S.length:Int)=ax e.S (t.drop 1):=by
   have aw:=e1 h.sfx;have P:=h.b4;cases t with
   |nil=>
    have:W (ax e.S [92]+2)=(e.S.length:Int)+1:=by grind[ax,dO,List.length_singleton]
    grind[iC]
   |cons c u=>have Q:W (ax e.S (92::c::u)+2)=ax e.S u:=kY (w:=[92,c]) h.b4 h.sfx;grind[pQ]
  refine⟨iI 1 t,h.mono ((iI 1 t).trans j),.inl ?_⟩;show some (Sum.inr (true,e.S,min (W (ax e.S (92::t)+2)) (e.S.length:Int),F,e.ne,e.op,e.kD))=_;rw[G];rfl
 rw[aM k];simp only[k,bG,aY];have z:∀(o:Option H)(x:H),(∀q,o=some q->q<:+t)->NJ e b t F (match o with|some r'=>dn.ok () r' F|none=> .more [x] x F)
   (bif decide (lR e.S o<0) then a_ (y1 ((e.st (b::t) F).1,lR e.S o,(e.st (b::t) F).2.2.1,(e.st (b::t) F).2.2.2.1,(e.st (b::t) F).2.2.2.2.1,(e.st (b::t) F).2.2.2.2.2) x) (λx=>x) (λy=>Empty.elim y)
    else some (.inr (true,(e.st (b::t) F).1,lR e.S o,(e.st (b::t) F).2.2.1,(e.st (b::t) F).2.2.2.1,(e.st (b::t) F).2.2.2.2.1,(e.st (b::t) F).2.2.2.2.2))):=by
  intro o x l;cases o with
  |none=>simp only[lR,show((-1:Int)<0) from by decide,bz,aO];exact NF rfl rfl h.xY λ_=>rfl
  |some q=>
   have d:=l q rfl;have h0:¬ax e.S q<0:=by have:=e1 (d.trans (j.trans h.sfx));grind[ax]
   simp only[lR,h0,bG,aY];exact⟨d,h.mono (d.trans j),.inl rfl⟩
 have I:E_ (e.st (b::t) F).1 (W ((e.st (b::t) F).2.1+1))=some (lR e.S (gx t)):=by show E_ e.S (W (ax e.S (b::t)+1))=_;rw[v];exact am4 h.b4 (dV h.sfx)
 have J:xD (e.st (b::t) F).1 (W ((e.st (b::t) F).2.1+1))=some (lR e.S (gw t)):=by show xD e.S (W (ax e.S (b::t)+1))=_;rw[v];exact aas h.b4 (dV h.sfx)
 have A:EY (e.st (b::t) F).1 (e.st (b::t) F).2.1=some (fD (b::t)):=aaj h.b4 h.sfx
 have K:∀(m:dn Unit)(y:Option (bp ak ak)),aZ e t m (λ_=>e.st) y->NJ e b t F m (a_ y (λx=>x) λy=>some (.inr (true,y.1,y.2.1,y.2.2.1,y.2.2.2.1,y.2.2.2.2.1,y.2.2.2.2.2))):=by
  intro m y hm;cases m with
  |ok a an S=>obtain⟨f,g,L⟩:=hm;exact⟨f,g,.inl (by rw[fo L])⟩
  |more op nd ds=>obtain⟨st,f,g⟩:=hm;exact⟨st,gp f,g⟩
  |bad q=>obtain⟨f,st,g⟩:=hm;exact⟨f,st,gp g⟩
  |deep q=>obtain⟨p,st,f,g⟩:=hm;exact⟨p,st,gp f,g⟩
 have M:NJ e b t F (dn.ok () t F) (some (.inr (false,e.st (b::t) F))):=⟨gr,h.mono j,.inr ⟨rfl,rfl,rfl⟩⟩;by_cases r:b=96
 ·subst r;simp only[bz,aO,c9,show¬((96:UInt8)=39) by decide,bG,aY];rw[I,aS rfl];unfold ki;exact z (gx t) [96] λq d=>F3 _ _ q (cS _) d
 rw[aM r];simp only[r,bG,aY];cases i with
 |true=>
  by_cases B:b=39
  ·subst B;simp only[bz,aO,c9];have s:fD (39::t)=false:=by rfl
   rw[s,J,aS rfl];unfold ki;exact z (gw t) [39] λq d=>Bi _ q d
  simp only[B,bG,aY];by_cases C:b=34
  ·subst C;have s:fD (34::t)=false:=by rfl
   rw[s];simp only[bz,aO,c9,fR,cZ,show¬((34:UInt8)=39) by decide];exact K _ _ (am6 (hp rfl) bj h)
  simp only[C,bG,aY];rw[A,aS rfl];cases l:fD (b::t) with
  |true=>simp_all[aO,c9,aaz]
  |false=>grind
 |false=>
  have N:∀p:Prop,∀[Decidable p],(bif decide p then false else false)=false:=by simp
  simp only[N,aY];rw[A,aS rfl];cases l:fD (b::t) with
  |true=>simp_all[aO,c9,aaz]
  |false=>grind
theorem aaB(A:Below R n)(j:Bool)(hp:j=true->Dx R n){e:cN}(bj:e.ne=30- (n:Int))(c:UInt8):
  rf e (iQ c (cC (a9 false n) (if j then some (eP (a9 false n)) else none))) (λ_=>e.st) (λx=>Mr R x c j):=by
 intro r F h;unfold iQ Mr;refine aZ.rep (en:=λ_ r F=>e.st r F) (λk s an d M az=>?_) bB () r F (ml (k1 (e1 h.sfx) h.b4)) h;unfold Si a6;cases an with
 |nil=>
  have aw:decide (((e.st [] d).1.length:Int)<=(e.st [] d).2.1)=true:=by simp[cN.st,iC]
  show aZ e [] (dc _ [] (b5 [] [] d)) _ (bif decide (((e.st [] d).1.length:Int)<=(e.st [] d).2.1) then _ else _);rw[aw];exact aZ.aah (k:=λy=>Empty.elim y) (f:=λx=>(x.1,x.2.1,d,x.2.2.2.1,e.op,x.2.2.2.2.2)) dg.k rfl rfl
 |cons b t=>
  have aw:decide (((e.st (b::t) d).1.length:Int)<=(e.st (b::t) d).2.1)=false:=by grind[nW,ax,cN.st]
  show aZ e (b::t) (dc _ (b::t) (if b=c then _ else _)) _ (bif decide (((e.st (b::t) d).1.length:Int)<=(e.st (b::t) d).2.1) then _ else _);rw[aw];simp only[aY];refine aZ.et ?_ (b2 (ho M.sfx));have B:at' (e.st (b::t) d).1 (e.st (b::t) d).2.1=b:=jE M.sfx;have m:t<:+b::t:=eL b t;by_cases aq:b=c
  ·subst aq;rw[ba rfl];refine aZ.et ?_ (show(bif decide (((at' (e.st (b::t) d).1 (e.st (b::t) d).2.1).toNat:Int)=(b.toNat:Int)) then _ else _)=some (.inr (e.S,W (ax e.S (b::t)+1),d,e.ne,e.op,e.kD)) by grind);rw[iW M.b4 M.sfx];exact aZ.inr m (M.mono m) rfl
  ·rw[aM aq];have aB:decide (((at' (e.st (b::t) d).1 (e.st (b::t) d).2.1).toNat:Int)=(c.toNat:Int))=false:=by grind[rZ]
   refine aZ.et (y:=a_ (CD R (e.st (b::t) d) j) (λx=>x) λz=>bif !z.1 then k (z.2.1,W (z.2.2.1+1),z.2.2.2.1,z.2.2.2.2.1,z.2.2.2.2.2.1,z.2.2.2.2.2.2) else k z.2) ?_ (by show(bif decide (((at' (e.st (b::t) d).1 (e.st (b::t) d).2.1).toNat:Int)=(c.toNat:Int)) then _ else _)=_;rw[aB];rfl)
   have ah:=aaA A j hp bj M;unfold N;cases hm:cC (a9 false n) (if j=true then some (eP (a9 false n)) else none) (b::t) d with
   |ok a o u=>
    rw[hm] at ah;obtain⟨g,i,l⟩:=ah;have v:o.length<(b::t).length:=by grind
    refine aZ.inl v ?_;have w:=az () o u (g.trans m) i v;rcases l with l|⟨l,rfl,rfl⟩
    ·rw[fo l];exact w
    ·rw[fo l];show aZ e _ _ _ (k (e.S,W (ax e.S (b::o)+1),u,e.ne,e.op,e.kD));rw[iW M.b4 M.sfx];exact w
   |more op nd ds=>rw[hm] at ah;obtain⟨st,g,i⟩:=ah;exact⟨st,gp g,i⟩
   |bad q=>rw[hm] at ah;obtain⟨g,st,i⟩:=ah;exact⟨g,st,gp i⟩
   |deep q=>rw[hm] at ah;obtain⟨p,st,g,i⟩:=ah;exact⟨p,st,gp g,i⟩
theorem am_{k:Nat}(a:Below (lv k) n):Dx (lv (k+1)) n:=⟨λe bj=>aaB a false (λh=>by cases h) bj 34⟩
theorem ana{k:Nat}(a:Below (lv k) n)(hp:Dx (lv k) n):NI (lv (k+1)) n:=⟨λe bj=>aaB a true (λ_=>hp) bj 125⟩
structure uw(R:bl)(n:Nat):Prop extends Below R n where
 u0:Dx R n
theorem NK{t:Tok}:(jQ t).1=3↔ ∃w p,t= .word w p:=by cases t<;>simp[jQ]
def anb:ak->Option (bp ak ak):=λx=>bif decide (x.2.1=(x.1.length:Int)) then a_ (sU x) (λy=>(y.1,y.2.1,x.2.2.1,y.2.2.2.1,x.2.2.2.2.1,y.2.2.2.2.2)) λy=>Empty.elim y else some (.inr x)
theorem NL(hA:uw R n){e:cN}(bj:e.ne=30- (n:Int))(h:ed e r F)(Y:bg r=some r){w:H}{p:Bool}(j:ar r= .word w p):
  aZ e r (cR (a9 false n) r F) (λ_=>e.st) (mf R (e.st r F)):=by
 have e0:mf R (e.st r F)=fixF (RI R anb) bB (e.st r F):=by
  unfold mf a6;refine(fo ((lB e).some h Y)).trans ?_;have:(jQ (ar r)).1=3:=by rw[j];rfl
  simp only[this,bz,hU,aY];rfl
 rw[e0];unfold cR;refine aZ.rep (en:=λ_ r F=>e.st r F) (λk s an c M az=>?_) bB () r F (ml (k1 (e1 h.sfx) h.b4)) h;unfold RI a6;have A:yY (e.st an c).1 (e.st an c).2.1=some (cV an):=TU M.b4 M.sfx;refine aZ.et ?_ (aS A);cases an with
 |nil=>
  have aw:decide ((e.st [] c).2.1=((e.st [] c).1.length:Int))=true:=by simp[cN.st,iC]
  show aZ e [] (dc _ [] (b5 [] [] c)) _ (bif decide ((e.st [] c).2.1=((e.st [] c).1.length:Int)) then _ else _);rw[aw];exact aZ.aah (k:=λy=>Empty.elim y) (f:=λx=>(x.1,x.2.1,c,x.2.2.2.1,e.op,x.2.2.2.2.2)) dg.k rfl rfl
 |cons b t=>
  have j:t<:+b::t:=eL b t;simp only;by_cases l:cV (b::t)=true
  ·rw[ba l,l];have aw:decide ((e.st (b::t) c).2.1=((e.st (b::t) c).1.length:Int))=false:=by simp[cN.st,zE]
   show aZ e (b::t) (dc _ (b::t) (aU (.inr ()) (b::t) c)) _ (bif decide ((e.st (b::t) c).2.1=((e.st (b::t) c).1.length:Int)) then _ else _);rw[aw];exact aZ.inr gr M rfl
  ·have B:cV (b::t)=false:=by grind
   rw[aM l,B];refine aZ.et (y:=a_ (CD R (e.st (b::t) c) true) (λx=>x) λz=>bif !z.1 then k (z.2.1,W (z.2.2.1+1),z.2.2.2.1,z.2.2.2.2.1,z.2.2.2.2.2.1,z.2.2.2.2.2.2) else k z.2) ?_ rfl;have ah:=aaA hA.toBelow true (λ_=>hA.u0) bj M;unfold N;simp only[c9] at ah;cases hm:cC (a9 false n) (some (eP (a9 false n))) (b::t) c with
   |ok a m o=>
    rw[hm] at ah;obtain⟨d,g,i⟩:=ah;have u:m.length<(b::t).length:=by grind
    refine aZ.inl u ?_;have v:=az () m o (d.trans j) g u;rcases i with i|⟨i,rfl,rfl⟩
    ·rw[fo i];exact v
    ·rw[fo i];show aZ e _ _ _ (k (e.S,W (ax e.S (b::m)+1),o,e.ne,e.op,e.kD));rw[iW M.b4 M.sfx];exact v
   |more op nd ds=>rw[hm] at ah;obtain⟨st,d,g⟩:=ah;exact⟨st,gp d,g⟩
   |bad q=>rw[hm] at ah;obtain⟨d,st,g⟩:=ah;exact⟨d,st,gp g⟩
   |deep q=>rw[hm] at ah;obtain⟨p,st,d,g⟩:=ah;exact⟨p,st,gp d,g⟩
theorem anc{β:Type}{e:cN}{cv:α->H->ag->β}{f:ak->ak}{k:Empty->Option (bp ak β)}(h:ed e r F)(Y:bg r=some r)(hf:∀st,(f st).2.2.2.2.1=st.2.2.2.2.1\/(f st).2.2.2.2.1=e.op):
  aZ e r0 ((if ar r= .eof then b5 x else b6:ab α) r F) cv (a_ (lJ (e.st r F)) f k):=by
 by_cases a:ar r= .eof
 ·rw[ba a];exact(((ur h Y).1 a).bind hf).sA
 ·rw[aM a];exact⟨h.sfx,_,gp ((ur h Y).2 a)⟩
theorem NM{β:Type}{m:ab α}{e:cN}{cv:α->H->ag->β}{f:ak->ak}{k:Empty->Option (bp ak β)}(h:ed e r F)(Y:bg r=some r)(M:ar r= .eof->m=b5 x)(U:ar r≠ .eof->m=b6)(hf:∀st,(f st).2.2.2.2.1=st.2.2.2.2.1\/(f st).2.2.2.2.1=e.op):
  aZ e r0 (m r F) cv (a_ (lJ (e.st r F)) f k):=by
 have:=anc (α:=α) (r0:=r0) (x:=x) (cv:=cv) (f:=f) (k:=k) h Y hf;by_cases a:ar r= .eof
 ·simp_all
 simp_all
theorem T1(hA:uw R n){e:cN}(bj:e.ne=30- (n:Int))(x:H):rf e (jP (a9 false n) x) (λ_=>e.st) (mf R):=by
 intro r F h;unfold jP;cases Y:bg r with
 |none=>rw[dx (jC Y)];unfold mf a6;exact(((lB e).none h Y).bind λ_=> .inr rfl).sA
 |some r'=>
  rw[aJ (bL Y)];have f:=eV Y;have b:=h.mono f;have c:=lz _ _ _ (cS _) Y;by_cases a:∃w p,ar r'= .word w p
  ·obtain⟨w,p,a⟩:=a;rw[a];have d:mf R (e.st r F)=mf R (e.st r' F):=by unfold mf a6;refine(fo ((lB e).some h Y)).trans (Eq.symm ((fo ((lB e).some b c)).trans ?_));rfl
   rw[d];exact(NL hA bj b c a).mono f
  ·have g:decide ((jQ (ar r')).1=3)=false:=by grind[decide_eq_false_iff_not,NK]
   have d:mf R (e.st r F)=a_ (lJ (e.st r' F)) (λx=>(x.1,x.2.1,F,x.2.2.2.1,e.op,x.2.2.2.2.2)) λy=>Empty.elim y:=by unfold mf a6;refine(fo ((lB e).some h Y)).trans ?_;simp only[g,fp,aO];rfl
   rw[d];refine NM (x:=x) b c (λaz=>by rw[az]) (λaz=>?_) λ_=> .inr rfl;grind
theorem Gf:dl [] 0=some []:=by simp[dl]
theorem T2(q:UInt8)(a:q=0\/q=34)(c:UInt8)(u:H):dl (92::c::u) q=if c=10 then dl u q else if q=0\/c=36\/c=34\/c=92\/c=96 then(dl u q).map (c::·) else(dl (c::u) q).map (92::·):=by rw[dl];grind
theorem ane(q:UInt8)(a:q=0\/q=34):dl [92] q=none:=by rw[dl];rcases a with rfl|rfl<;>simp
theorem NN(q:UInt8)(a:q=0\/q=34)(b:UInt8)(c:b=36\/b=96)(u:H):dl (b::u) q=none:=by rw[dl.eq_def];grind
theorem aaC(u:H):dl (34::u) 34=dl u 0:=by grind[dl.eq_def]
theorem Dz(u:H):dl (34::u) 0=dl u 34:=by grind[dl.eq_def]
theorem T3(u:H):dl (39::u) 0=dl u 39:=by grind[dl.eq_def]
theorem JJ(q:UInt8)(a:q=0\/q=34)(b:UInt8)(M:b≠92)(U:b≠36)(c:b≠96)(d:b≠34)(e:q=0->b≠39)(u:H):dl (b::u) q=(dl u q).map (b::·):=by rw[dl.eq_def];grind
theorem T4(c:UInt8)(u:H):dl (92::c::u) 34=(dl u 34).map (Dl c++·):=by
 rw[T2 34 (.inr rfl)];unfold Dl;by_cases h:c=36\/c=34\/c=92\/c=96
 ·grind
 ·rw[aM h];by_cases U:c=10
  ·simp_all
  ·rw[aM U,aM U,aM (by grind)];simp only[not_or] at h;rw[JJ 34 (.inr rfl) c h.2.2.1 h.1 h.2.2.2 h.2.1 (λa=>absurd a (by decide))];cases dl u 34<;>rfl
theorem NO(t:H):g1 (34::t)= .closed [] t:=by simp[g1.eq_def]
theorem T5(b:UInt8)(a:b=36\/b=96)(t:H):g1 (b::t)= .part:=by rw[g1.eq_def];grind
theorem T6:g1 [92]= .part:=by rfl
theorem NP(c:UInt8)(u:H):g1 (92::c::u)=(g1 u).add (Dl c):=by rfl
theorem NQ(b:UInt8)(M:b≠34)(U:¬(b=36\/b=96))(a:b≠92)(t:H):g1 (b::t)=(g1 t).add [b]:=by grind[g1.eq_def]
theorem aaD:∀(n:Nat)(t:H),t.length<=n->match g1 t with
  | .closed o r=>∃a,t=a++r/\∀v,dl (a++v) 34=(dl v 0).map (o++·)
  | .open_ o=>dl (t++[34]) 34=some o
  | .part=>dl (t++[34]) 34=none:=by
 intro n;induction n with
 |zero=>intro t h;have:t=[]:=tA.1 (by omega);subst this;show dl [34] 34=some [];rw[aaC,Gf]
 |succ n i=>
  intro t af;cases t with
  |nil=>grind
  |cons b t=>
   have j:t.length<=n:=by grind
   have d:∀(x u p:H),u.length<=n->b::t=p++u->g1 (b::t)=(g1 u).add x->(∀v,dl (p++v) 34=(dl v 34).map (x++·))->match g1 (b::t) with
     | .closed o r=>∃a,b::t=a++r/\∀v,dl (a++v) 34=(dl v 0).map (o++·)
     | .open_ o=>dl (b::t++[34]) 34=some o
     | .part=>dl (b::t++[34]) 34=none:=by
    intro x u p hu he k aB;have:=i u hu;rw[k];cases az:g1 u with
    |closed o r=>rw[az] at this;obtain⟨a,rfl,U⟩:=this;refine⟨p++a,by grind,λv=>?_⟩;rw[uS,aB,U];cases dl v 0<;>simp
    |part=>grind[nk.add,List.append_assoc]
    |open_ o=>grind[nk.add,List.append_assoc]
   by_cases e:b=34
   ·subst e;rw[NO];exact⟨[34],rfl,λv=>by simp[aaC]⟩
   by_cases ah:b=36\/b=96
   ·rw[T5 b ah];exact NN 34 (.inr rfl) b ah _
   by_cases f:b=92
   ·subst f;cases t with
    |nil=>simp[T6,dl,T4]
    |cons c u=>exact d (Dl c) u [92,c] (by grind) rfl (NP c u) λv=>T4 c v
   ·have g:b≠36/\b≠96:=by grind
    refine d [b] t [b] j rfl (NQ b e ah f t) λv=>?_;show dl (b::v) 34=_;rw[JJ 34 (.inr rfl) b f g.1 g.2 e (λl=>absurd l (by decide))];rfl
theorem JK:∀(t:H),match gw t with
  |some r=>∃a,t=a++39::r/\a=t.take (t.length-r.length-1)/\∀v,dl (a++39::v) 39=(dl v 0).map (a++·)
  |none=>dl t 39=none
 |[]=>by show dl [] 39=none;simp[dl]
 |b::t=>by
  have c:=JK t;unfold gw;by_cases d:b=39
  ·subst d;rw[ba rfl];refine⟨[],rfl,by simp,λv=>?_⟩;show dl (39::v) 39=_;rw[dl.eq_def];simp
  ·rw[aM d]
   have aB:∀v,dl (b::v) 39=(dl v 39).map (b::·):=by grind[dl.eq_def]
   cases Y:gw t with
   |none=>grind
   |some r=>
    rw[Y] at c;obtain⟨a,M,U,e⟩:=c;have aw:t.length=a.length+1+r.length:=by grind
    refine⟨b::a,by grind,?_,λv=>?_⟩
    ·have f:(b::t).length-r.length-1=(t.length-r.length-1)+1:=by grind
     grind
    ·show dl (b::(a++39::v)) 39=_;rw[aB,e];cases dl v 0<;>rfl
def gQ:H->Option (H×H)
 |[]=>some ([],[])
 |b::t=>if cV (b::t) then some (b::t,[]) else
  if b=92 then match t with
   |[]=>some ([],[])
   |c::u=>gQ u
  else if b=39 then match h:gw t with
   |none=>none
   |some r=>gQ r
  else if b=36\/b=96 then none else
  if b=34 then match h:g1 t with
   | .part=>some ([],[34])
   | .open_ o=>some ([],[34])
   | .closed o r=>gQ r
  else gQ t
termination_by r=>r.length
decreasing_by
 all_goals simp_wf
 ·omega
 ·have:=A_ t r h;omega
 ·have:=FU t o r h;omega
theorem aaE:∀(n:Nat)(r:H),r.length<=n->match gQ r with
  |none=>dP r=none
  |some (q,a)=>∃w,r=w++q/\dP r=(dl (w++a) 0).map λd=>(d,q,a):=by
 intro n;induction n with
 |zero=>intro r h;have:r=[]:=tA.1 (by omega);subst this;rw[gQ,dP];exact⟨[],rfl,by simp[Gf]⟩
 |succ n A=>
  intro r af;cases r with
  |nil=>grind
  |cons b t=>
   have B:t.length<=n:=by grind
   have go:∀(u p x:H),u.length<=n->b::t=p++u->gQ (b::t)=gQ u->dP (b::t)=(dP u).map (λq=>(x++q.1,q.2))->(∀v,dl (p++v) 0=(dl v 0).map (x++·))->match gQ (b::t) with
     |none=>dP (b::t)=none
     |some (q,a)=>∃w,b::t=w++q/\dP (b::t)=(dl (w++a) 0).map λd=>(d,q,a):=by
    intro u p x hu he M U j;have:=A u hu;rw[M,U];cases Y:gQ u with
    |none=>grind
    |some y=>obtain⟨q,a⟩:=y;rw[Y] at this;obtain⟨w,rfl,C⟩:=this;refine⟨p++w,by grind,?_⟩;rw[C,uS,j];cases dl (w++a) 0<;>rfl
   by_cases D:cV (b::t)=true
   ·have e:gQ (b::t)=some (b::t,[]):=by rw[gQ.eq_def];grind
    have f:dP (b::t)=some ([],b::t,[]):=by rw[dP.eq_def];grind
    rw[e,f];exact⟨[],rfl,by simp[Gf]⟩
   by_cases k:b=92
   ·subst k;cases t with
    |nil=>
     have e:gQ [92]=some ([],[]):=by rw[gQ.eq_def];grind
     have f:dP [92]=none:=by rw[dP.eq_def];grind
     rw[e,f];exact⟨[92],rfl,by rw[pZ,ane 0 (.inl rfl)];rfl⟩
    |cons c u=>
     refine go u [92,c] (if c=10 then [] else [c]) (by grind) rfl (by rw[gQ.eq_def];grind) (by rw[dP.eq_def];grind) λv=>?_;show dl (92::c::v) 0=_;rw[T2 0 (.inl rfl)];by_cases aq:c=10
     ·simp[aq]
     grind
   by_cases l:b=39
   ·subst l;have m:=JK t;cases Y:gw t with
    |none=>
     have e:gQ (39::t)=none:=by rw[gQ.eq_def];grind
     have f:dP (39::t)=none:=by rw[dP.eq_def];grind
     grind
    |some r=>
     rw[Y] at m;obtain⟨g,M,U,j⟩:=m
     refine go r (39::g++[39]) g (by grind) (by grind) (by
      rw[gQ.eq_def];grind) (by
      rw[dP.eq_def];grind) λv=>?_
     grind[T3]
   by_cases ah:b=36\/b=96
   ·have e:gQ (b::t)=none:=by rw[gQ.eq_def];grind
    have f:dP (b::t)=none:=by rw[dP.eq_def];grind
    grind
   by_cases s:b=34
   ·subst s;have i:=aaD _ t (cS _);cases Y:g1 t with
    |closed o r=>
     rw[Y] at i;obtain⟨g,M,U⟩:=i
     refine go r (34::g) o (by grind) (by grind) (by
      rw[gQ.eq_def];grind) (by
      rw[dP.eq_def];grind) λv=>?_
     grind[dl,Dz]
    |part=>
     rw[Y] at i;have e:gQ (34::t)=some ([],[34]):=by rw[gQ.eq_def];grind
     have f:dP (34::t)=none:=by rw[dP.eq_def];grind
     grind[dl,Dz]
    |open_ o=>
     rw[Y] at i;have e:gQ (34::t)=some ([],[34]):=by rw[gQ.eq_def];grind
     have f:dP (34::t)=some (o,[],[34]):=by rw[dP.eq_def];grind
     grind[dl,Dz]
   ·have z:b≠36/\b≠96:=by grind
    refine go t [b] [b] B rfl (by rw[gQ.eq_def];grind) (by rw[dP.eq_def];grind) λv=>?_;show dl (b::v) 0=_;rw[JJ 0 (.inl rfl) b k z.1 z.2 s (λ_=>l)];rfl
def ux(S a:H):nk->H×Int
 | .closed o r=>(a++o,ax S r)
 |_=>([], -1)
theorem aaF(S a x:H)(q:nk):ux S a (q.add x)=ux S (a++x) q:=by cases q<;>simp[nk.add,ux]
theorem anf(dy:S.length<=99999999):∀(n:Nat)(r a:H),r.length<n->r<:+S->a.length+r.length<=299999999->fixF (tZ S λ_=>some ([],(-1))) n (a,ax S r)=some (ux S a (g1 r)):=by
 intro n;induction n with
 |zero=>omega
 |succ n e=>
  intro r a af Z o;rw[fx];generalize fixF (tZ S _) n=k at e;unfold tZ a6;cases r with
  |nil=>simp[iC,g1,ux]
  |cons b t=>
   have p:t.length<n:=by grind
   have q:(b::t).length=t.length+1:=rfl;have h:=iW dy Z;simp only[nW Z,bz,aO];rw[b2 ⟨(ho Z).1,trivial⟩];simp only[jE Z,h,oQ,ra,oP,nu];by_cases f:b=34
   ·grind[NO,ux]
   simp only[f,bG,aY];by_cases ah:b=36\/b=96
   ·rw[T5 b ah];rcases ah with rfl|rfl<;>simp[ux]
   have g:b≠36/\b≠96:=by grind
   simp only[g.1,g.2,bG,aY];by_cases d:b=92
   ·subst d;simp only[bz,aO];cases t with
    |nil=>simp[iC,T6,ux]
    |cons c u=>
     have bj:¬ax S (c::u)=(S.length:Int):=by simp[zE]
     have i:=iW dy (dV Z);have j:(c::u).length=u.length+1:=rfl;have l:u.length<n:=by omega
     simp only[bj,bG,aY];rw[b2 (ho (dV Z))];simp only[jE (dV Z),i,qu];rw[NP,aaF];have s:=λx (v:x.length<=2)=>e u (a++x) l (dV (dV Z)) (by grind);unfold Dl;by_cases aq:c=36\/c=34\/c=92\/c=96
     ·rw[ba aq];have:(bif bif bif decide (c=36) then true else decide (c=34) then true else decide (c=92) then true else decide (c=96))=true:=by grind
      rw[this];simp only[aO];grind[b2,List.length_singleton]
     ·rw[aM aq];have:(bif bif bif decide (c=36) then true else decide (c=34) then true else decide (c=92) then true else decide (c=96))=false:=by grind
      rw[this];by_cases m:c=10
      ·grind
      ·simp only[m,bG,fp,aO,aY,cZ];grind[b2,List.length_cons,List.length_nil]
   ·simp only[d,bG,aY];rw[b2 ⟨(ho Z).1,trivial⟩,b2 (by grind),NQ b f ah d,aaF];grind[dV,List.length_append,List.length_singleton]
theorem ang(dy:S.length<=99999999)(Z:r<:+S):Fj S (ax S r) []=some (ux S [] (g1 r)):=by unfold Fj a6;grind[e1,anf,ml,Nat.le_trans,List.length_nil]
def aaG(S:H)(st:Int)(F:ag)(op:bs)(j:H×Int->Option (bp ak ak))(y:Option (bp ak ak)):Option (H×H)->Prop
 |none=>∃s:ak,y=some (.inl (2,st,s))
 |some (q,b)=>q<:+S/\∃a,(a=ax S q\/q=[]/\a=(S.length:Int)+1)/\y=j (b,a)
theorem anh{I:ak}{st av a3:Int}{j:H×Int->Option (bp ak ak)}(dy:S.length<=99999999):∀(n:Nat)(r:H),r.length+1<n->r<:+S->
  aaG S st I.2.2.1 I.2.2.2.2.1 j (fixF (y8 I S st av a3 j) n ([],ax S r)) (gQ r):=by
 intro n;induction n with
 |zero=>omega
 |succ n f=>
  intro r af Z
  have g:∀(h:H)(p:Int),n≠0->((S.length:Int)<=p/\p<=(S.length:Int)+1)->fixF (y8 I S st av a3 j) n (h,p)=j (h,p):=by
   intro h p B ah
   obtain⟨m,rfl⟩:∃m,n=m+1:=⟨n-1,by omega⟩
   rw[fx];unfold y8;dsimp only;have:yY S p=some true:=by simp_all[yY,bz,aO,c1,a4]
   rw[this,aS rfl];rfl
  rw[fx];generalize fixF (y8 I S st av a3 j) n=k at f g;unfold y8 a6;dsimp only;rw[TU dy Z,aS rfl];have C:=e1 Z;cases r with
  |nil=>rw[gQ];exact⟨Z,_,.inl rfl,by rfl⟩
  |cons b t=>
   have D:(b::t).length=t.length+1:=rfl;have E:t.length+1<n:=by omega
   have y:=iW dy Z;by_cases z:cV (b::t)=true
   ·rw[z];have a:gQ (b::t)=some (b::t,[]):=by rw[gQ.eq_def];grind
    rw[a];exact⟨Z,_,.inl rfl,by simp⟩
   have A:cV (b::t)=false:=by grind
   rw[A];simp only[fp,aO,bz];rw[b2 (ho Z)];simp only[jE Z,nu,rY,ra,oP,oQ,y];by_cases i:b=92
   ·subst i;simp only[bz,aO];cases t with
    |nil=>
     have a:gQ [92]=some ([],[]):=by rw[gQ.eq_def];grind
     rw[a];have:W (ax S [92]+2)=(S.length:Int)+1:=by grind[ax,dO,List.length_singleton]
     rw[this];exact⟨pt,_,.inr ⟨rfl,rfl⟩,g _ _ (by omega) (by omega)⟩
    |cons c u=>
     have a:gQ (92::c::u)=gQ u:=by rw[gQ.eq_def];grind
     have l:W (ax S (92::c::u)+2)=ax S u:=kY (w:=[92,c]) dy Z;grind[List.length_cons,dV]
   simp only[i,bG,aY];by_cases s:b=39
   ·subst s;simp only[bz,aO];rw[aas dy (dV Z),aS rfl];cases Y:gw t with
    |none=>
     have a:gQ (39::t)=none:=by rw[gQ.eq_def];grind
     rw[a];simp only[lR,show((-1:Int)<0) from by decide,bz,aO];exact⟨_,rfl⟩
    |some d=>
     have a:gQ (39::t)=gQ d:=by rw[gQ.eq_def];grind
     rw[a];have e:=(Bi _ _ Y).trans (dV Z);have h0:¬ax S d<0:=by grind[e1,ax]
     simp only[lR,h0,bG,aY];exact f d (by have:=A_ t d Y;omega) e
   simp only[s,bG,aY];by_cases ah:b=36\/b=96
   ·have a:gQ (b::t)=none:=by rw[gQ.eq_def];grind
    rw[a];rcases ah with rfl|rfl
    ·simp only[bz,aO];exact⟨_,rfl⟩
    ·simp only[show¬((96:UInt8)=36) by decide,bz,bG,aO,aY];exact⟨_,rfl⟩
   have v:b≠36/\b≠96:=by grind
   simp only[v.1,v.2,bG,aY];by_cases x:b=34
   ·subst x;simp only[bz,aO];rw[ang dy (dV Z),aS rfl]
    have F:∀q,g1 t=q->(∀o r,q≠ .closed o r)->aaG S st I.2.2.1 I.2.2.2.2.1 j (bif decide ((ux S [] q).2<0) then k ([34],(S.length:Int)) else k ([],(ux S [] q).2)) (gQ (34::t)):=by
     intro q e aq;have a:gQ (34::t)=some ([],[34]):=by rw[gQ.eq_def];grind
     rw[a];have l:(ux S [] q).2= -1:=by cases q with
      |closed o r=>grind
      |_=>rfl
     rw[l];simp only[show((-1:Int)<0) from by decide,bz,aO];exact⟨pt,_,.inl (iC S).symm,g _ _ (by omega) (by omega)⟩
    cases Y:g1 t with
    |closed o d=>
     have a:gQ (34::t)=gQ d:=by rw[gQ.eq_def];grind
     rw[a];have e:=(Tn _ _ _ _ (cS _) Y).trans (dV Z);have h0:¬ax S d<0:=by grind[e1,ax]
     simp only[ux,h0,bG,aY];exact f d (by have:=FU t o d Y;omega) e
    |part=>grind
    |open_ o=>grind
   ·have a:gQ (b::t)=gQ t:=by rw[gQ.eq_def];grind
    rw[a];simp only[x,bG,aY];grind[dV]
theorem NR(s:H)(b:UInt8):(0<=Lib.indexByte s b)↔s.contains b=true:=by
 induction s with
 |nil=>simp[Lib.indexByte]
 |cons c t a=>unfold Lib.indexByte;grind
def Bo(m:Option H):H×Bool:=match m with
 |some d=>if d.contains 10 then([],false) else(d,true)
 |none=>([],false)
theorem T7(l:H)(aw:(l.length:Int)<=99999999):y7 l=some (Bo (dl l 0)):=by
 rw[amO l aw];unfold oO Bo;cases dl l 0 with
 |none=>rfl
 |some s=>
  simp only[ps];by_cases h:s.contains 10=true
  ·simp_all[ba,NR]
  simp_all[aM,NR]
theorem ani(l:H)(aw:(l.length:Int)<=200000000):IQ l=some (Bo (dl l 0)):=by
 rw[amN l aw];unfold oO Bo;cases dl l 0 with
 |none=>rfl
 |some s=>
  simp only[ps];by_cases h:s.contains 10=true
  ·simp_all[ba,NR]
  simp_all[aM,NR]
theorem aaH(r q a:H)(h:gQ r=some (q,a)):a.length<=1:=by
 fun_induction gQ r<;>simp_all
 all_goals grind
end Go.Eng
