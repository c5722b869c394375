/- Part 2 of what FnPrefix needs. No condition. -/
import Derived.Test.YthnjiffnjaaejaaGreatDoorFnPrefixA
set_option linter.all false
namespace Go.Eng
open Go Go.Proofs
noncomputable section
structure hZ(R:bh):Prop where
 kg:∀{x0:an}{al:Int}{bf:Bool}{bO:bL}{Q:bt}{r:bo an (Int×an)}(h:R.kg x0 al bf=some r),
  iZ Tryz.prog 30 [.pointer bO,.int .i64 al,.bool bf] [] (ee bO x0 Q) (λr (q:bt)=>ju 39 r λr=> .int .i64 r.1) (λr q=>ee bO (l7 r) q) r
 xS:∀{x0:an}{al:UInt8}{bf:Bool}{bO:bL}{Q:bt}{r:bo an an}(h:R.xS x0 al bf=some r),
  iZ Tryz.prog 163 [.pointer bO,.int .u8 (al.toNat:Int),.bool bf] [] (ee bO x0 Q) (λr (q:bt)=>ju 39 r λr=> .tuple #[]) (λr q=>ee bO (jS r) q) r
 nE:∀{x0:ah}{al:aa}{bf:bs}{cj:Bool}{eX:bL}{Q:bt}{u9:bL}{xT:Nat}{r:Int×ah}(h:R.nE x0 al bf cj=some r),
  gI Tryz.prog 32 [.pointer eX,.string (a7 al),.slice u9 bf.length xT,.bool cj] [hY u9 bf xT] (eR eX x0 Q) (λ_:bt=>True) (λq=> .int .i64 r.1) (λq=>eR eX r.2 q)
 u7:∀{x0:ah}{a2:bL}{Q:bt}{r:ah}(h:R.u7 x0=some r),
  gI Tryz.prog 158 [.pointer a2] [] (eR a2 x0 Q) (λ_:bt=>True) (λq=> .tuple #[]) (λq=>eR a2 r q)
 hc:∀{x0:aa×Int×Int}{al:Int}{bf:aa}{bO:bL}{eX:bL}{nG:Nat}{r:aa×aa×Int×Int}(h:R.hc x0 al bf=some r),
  gI Tryz.prog 26 [.pointer bO,.int .i64 al,.string (a7 bf)] [lM eX x0.1 nG] [lx bO x0 eX nG] (λ_:Unit=>True) (λ_=> .string (a7 r.1)) (λ_=>[lx bO (x0.1,r.2.2) eX nG])
 nF:∀{x0:aa×Int×Int}{al:Int}{a3:bL}{bO:bL}{hJ:Nat}{r:aa×aa×Int×Int}(h:R.nF x0 al=some r),
  gI Tryz.prog 54 [.pointer a3,.int .i64 al] [lM bO x0.1 hJ] [lx a3 x0 bO hJ] (λ_:Unit=>True) (λ_=> .string (a7 r.1)) (λ_=>[lx a3 (x0.1,r.2.2) bO hJ])
def q6(x0:an):Option (bo an Empty):=
 some (.inl (1,(x0.1.length:Int),x0))
theorem DB{x0:an}{a2:bL}{Q:bt}{r:bo an Empty}(h:q6 x0=some r):
  iZ Tryz.prog 63 [.pointer a2] [] [i_ a2 x0 Q] (λr (_:Unit)=>ju 39 r λr=> .tuple #[]) (λr _=>[i_ a2 ((sT r).1,(sT r).2.1,x0.2.2.1,(sT r).2.2.2.1,x0.2.2.2.2.1,(sT r).2.2.2.2.2) Q]) r:=
 by refine V.jU (T:=ck) Tryz.call63 Tryz.func63 U λ_ _=>?_;unfold q6 at h;refine V.go ab 7 0 ⟨U,U,U,U⟩ ?_;refine V.cl (aJ.Vc ab U U U U U U U U (V.cz ?_));cases h;exact V.cl (aJ.panic U U U (λa h w=>Vd U a h w) () trivial U [0] U)
def GM(x0:an)(b:Int->Option (bo an an))(c:Int->Option (bo an an)):Int->Option (bo an an):=λa=>
 (a8 (((decide (a<(x0.1.length:Int)))=true)->0<=a/\a<(x0.1.length:Int))<|(bif(bif(decide (a<(x0.1.length:Int))) then(!(decide (((at' x0.1 a).toNat:Int)=(10:Int)))) else false) then c (W (a+1)) else b a))
def GN(x0:an)(d:Int->Option (bo an an))(b:Int->Option (bo an an)):Int->Option (bo an an):=λa=>
 (bif(decide (a<(x0.1.length:Int))) then(a9 (λ(e:Int)=>b e) λf=>(a8 (0<=a/\a<(x0.1.length:Int))<|(a9 (λ(g:Int)=>f g) λc=>(bif(bif(decide (((at' x0.1 a).toNat:Int)=(32:Int))) then true else(decide (((at' x0.1 a).toNat:Int)=(9:Int)))) then c (W (a+1)) else(a8 (((bif(decide (((at' x0.1 a).toNat:Int)=(92:Int))) then(decide ((W (a+1))<(x0.1.length:Int))) else false)=true)->0<=(W (a+1))/\(W (a+1))<(x0.1.length:Int))<|(bif(bif(bif(decide (((at' x0.1 a).toNat:Int)=(92:Int))) then(decide ((W (a+1))<(x0.1.length:Int))) else false) then(decide (((at' x0.1 (W (a+1))).toNat:Int)=(10:Int))) else false) then(bif(decide ((W (a+2))=(x0.1.length:Int))) then ba (q6 (x0.1,(W (a+2)),x0.2.2.1,x0.2.2.2.1,x0.2.2.2.2.1,x0.2.2.2.2.2)) (λx=>x) λy=>Empty.elim y else c (W (a+2))) else(bif(decide (((at' x0.1 a).toNat:Int)=(35:Int))) then(a9 (λ(h:Int)=>c h) λi=>(fixF (GM x0 i) bC a)) else some (.inr (x0.1,a,x0.2.2.1,x0.2.2.2.1,x0.2.2.2.2.1,x0.2.2.2.2.2))))))))) else d a)
def Kg(x0:an):Option (bo an an):=
 (a9 (λ(a:Int)=>some (.inr (x0.1,a,x0.2.2.1,x0.2.2.2.1,x0.2.2.2.2.1,x0.2.2.2.2.2))) λb=>(fixF (GN x0 b) bC x0.2.1))
theorem aei{x0:an}{a2:bL}{Q:bt}{r:bo an an}(h:Kg x0=some r):
  iZ Tryz.prog 60 [.pointer a2] [] [i_ a2 x0 Q] (λr (_:Unit)=>ju 39 r λr=> .tuple #[]) (λr _=>[i_ a2 ((jS r).1,(jS r).2.1,x0.2.2.1,(jS r).2.2.2.1,x0.2.2.2.2.1,(jS r).2.2.2.2.2) Q]) r:=
 by
  refine V.jU (T:=ck) Tryz.call60 Tryz.func60 U λ_ _=>?_;unfold Kg at h;refine V.c8 ab 0 0 h (ρ:=Unit) (λs q=>[]) .nil (λs q=>[i_ a2 (x0.1,s,x0.2.2) Q]) U ?_ ?_
  ·intro f _ h;refine V.e7 ab 0 0 h (ρ:=Unit) (λs q=>[(0,.bj ⟨a2,1,1⟩ 0)]) .nil (λs q=>[i_ a2 (x0.1,s,x0.2.2) Q]) () [0] U ?_;rintro a g _ h;rw[GN] at h;refine V.jl ab 2 0 U (by kernel_rfl) ?_;refine V.co ab 11 0 h ⟨U,U,U,U,U,U,U⟩ (λh=>?_) (λh=>?_)
   ·refine V.c8 ab 1 0 h (ρ:=Unit) (λs q=>[(0,.bj ⟨a2,1,1⟩ 0)]) .nil (λs q=>[i_ a2 (x0.1,s,x0.2.2) Q]) U ?_ ?_
    ·intro i _ h;obtain⟨b,h⟩:=bG h;refine V.jl ab 1 0 U (by kernel_rfl) ?_;refine V.c8 ab 11 0 h (ρ:=Unit) (λs q=>[(0,.bj ⟨a2,1,1⟩ 0)]) .nil (λs q=>[i_ a2 (x0.1,s,x0.2.2) Q]) ⟨U,U,U,U,U,U,b,U⟩ ?_ ?_
     ·intro j _ h;refine V.co ab 10 0 h U (λh=>?_) (λh=>?_)
      ·exact V.a5 ab 11 0 h () [0] ⟨U,U,U,U,U,U,U⟩
      obtain⟨c,h⟩:=bG h;refine V.jl ab 1 0 U (by kernel_rfl) ?_;refine V.co ab 30 0 h ⟨U,U,U,U,U,U,U,U,U,U,U,U,c,U⟩ (λh=>?_) (λh=>?_)
      ·refine V.jl ab 12 0 ⟨U,U,U,U,U,U,U⟩ (by kernel_rfl) ?_;refine V.co ab 11 0 h ⟨U,U,U,U,U,U,U⟩ (λh=>?_) (λh=>?_)
       ·refine V.cp ab 2 0 h DB [0] [] (λ_=>()) [0] U a6 a6 λy _ _=>y.elim
       exact V.a5 ab 2 0 h () [0] U
      refine V.co ab 6 0 h U (λh=>?_) (λh=>?_)
      ·refine V.c8 ab 0 0 h (ρ:=Unit) (λs q=>[(0,.bj ⟨a2,1,1⟩ 0)]) .nil (λs q=>[i_ a2 (x0.1,s,x0.2.2) Q]) U ?_ ?_
       ·intro k _ h;refine V.e7 ab 0 0 h (ρ:=Unit) (λs q=>[(0,.bj ⟨a2,1,1⟩ 0)]) .nil (λs q=>[i_ a2 (x0.1,s,x0.2.2) Q]) () [0] U ?_;rintro d l _ h;rw[GM] at h;obtain⟨e,h⟩:=bG h;refine V.jl ab 2 0 U (by kernel_rfl) ?_;refine V.co ab 23 0 h ⟨U,U,U,U,U,U,U,U,U,U,U,U,e,U⟩ (λh=>?_) (λh=>?_)
        ·exact V.el ab 13 0 h () [0] ⟨U,U,U,U,U,U,U⟩
        exact V.a5 ab 1 0 h () [0] U
       rintro m _ h
       try dsimp only at h
       exact V.a5 ab 1 0 h () [0] U
      cases h;exact V.jR ab 0 0 () [0] U
     rintro n _ h
     try dsimp only at h
     exact V.a5 ab 1 0 h () [0] U
    rintro o _ h
    try dsimp only at h
    exact V.el ab 0 0 h () [0] U
   exact V.a5 ab 1 0 h () [0] U
  rintro p _ h;cases h;exact V.oC ab 0 0 () [0] U
def OT(x0:aa):Option Int:=
 none
theorem aek{x0:aa}{r:Int}(h:OT x0=some r):
  FC Tryz.prog 144 [.string (a7 x0)] [] (λ_:Unit=>True) (λ_=> .int .i64 r) (λ_=>[]):=
 by refine V.fE (T:=ck) Tryz.call144 Tryz.func144 U λ_=>?_;unfold OT at h;cases h
def OU(x0:aa):Option (Int×Int):=
 (bif(decide ((x0.length:Int)<1)) then some (65533,0) else(a8 (0<=(0:Int)/\0<(x0.length:Int))<|none))
theorem ael{x0:aa}{r:Int×Int}(h:OU x0=some r):
  FC Tryz.prog 134 [.string (a7 x0)] [] (λ_:Unit=>True) (λ_=> .tuple #[.int .i32 r.1,.int .i64 r.2]) (λ_=>[]):=
 by
  refine V.fE (T:=ck) Tryz.call134 Tryz.func134 U λ_=>?_;unfold OU at h;refine V.co ab 17 0 h U (λh=>?_) (λh=>?_)
  ·cases h;exact V.rt ab 5 0 () [] U
  obtain⟨a,h⟩:=bG h;cases h
def OV(x0:aa):Option (Int×Int):=
 (a8 (((!(decide (x0=[])))=true)->0<=(0:Int)/\0<(x0.length:Int))<|(bif(bif(!(decide (x0=[]))) then(decide (((at' x0 0).toNat:Int)<(128:Int))) else false) then(a8 (0<=(0:Int)/\0<(x0.length:Int))<|some ((IntKind.i32.wrap (((at' x0 0).toNat:Int))),1)) else(av (OU x0) λ(a,b)=>some (a,b))))
theorem aem{x0:aa}{r:Int×Int}(h:OV x0=some r):
  FC Tryz.prog 104 [.string (a7 x0)] [] (λ_:Unit=>True) (λ_=> .tuple #[.int .i32 r.1,.int .i64 r.2]) (λ_=>[]):=
 by
  refine V.fE (T:=ck) Tryz.call104 Tryz.func104 U λ_=>?_;unfold OV at h;obtain⟨a,h⟩:=bG h;refine V.co ab 16 0 h ⟨a,U⟩ (λh=>?_) (λh=>?_)
  ·obtain⟨b,h⟩:=bG h;cases h;exact V.rt ab 8 0 () [] ⟨b,U⟩
  refine V.cI ab 2 0 h ael [] U ?_;rintro⟨c,d⟩ _ h;cases h;exact V.rt ab 6 0 () [] U
def OW(e:Int)(f:(aa×bs)->Option bs)(g:(aa×bs×Int)->Option bs):(aa×bs×Int)->Option bs:=λ(a,d,c)=>
 (bif(decide (c<(W (e-1)))) then(av (OV a) λ(h,b)=>(a8 (0<=(0:Int)/\(0:Int)<=b/\b<=(a.length:Int))<|(a8 (0<=c/\c<(d.length:Int))<|(a8 (0<=b/\b<=(a.length:Int)/\(a.length:Int)<=(a.length:Int))<|g ((b9 a b (a.length:Int)),(List.set d (Int.toNat c) (b9 a 0 b)),(W (c+1))))))) else f (a,d))
def OY(x0:aa)(b:Int):Option bs:=
 (av (OT x0) λ(d:Int)=>(a9 (λ(a:Int)=>(a8 (0<=a/\a<=536870912)<|(a9 (λ((g,c):aa×bs)=>(a9 (λ(h:bs)=>some h) λe=>(bif(decide (0<a)) then(a8 (0<=(W (a-1))/\(W (a-1))<(c.length:Int))<|e (List.set c (Int.toNat (W (a-1))) g)) else e c))) λi=>(fixF (OW a i) bC (x0,(List.replicate (Int.toNat a) []),0))))) λf=>(bif(bif(decide (b<0)) then true else(decide (d<b))) then f d else f b)))
theorem aen{x0:aa}{e:Int}{r:bs}(h:OY x0 e=some r):
  FC Tryz.prog 123 [.string (a7 x0),.int .i64 e] [] (λ_:bL×Nat=>True) (λq=> .slice q.1 r.length q.2) (λq=>[hY q.1 r q.2]):=
 by
  refine FC.of (T:=ck) Tryz.call123 Tryz.func123 U U λw0=>?_;unfold OY at h;refine aR.sS ab 1 [] ⟨trivial,U⟩ U U (aR.seq (aR.region (aJ.eE ab 1 [] [] [(10,.v (.string (a7 x0)))] _ U ⟨⟨U,trivial⟩,U⟩ ?_)));obtain⟨f,G,h⟩:=jP h;refine aJ.call U U U U (aek G) U [] U U λ_ _=>aJ.eE ab 1 [] [] [(5,.v (.int .i64 f))] _ U ⟨⟨U,trivial⟩,U⟩ (aJ.done U ?_);obtain⟨H,j,h⟩:=GB h;refine aR.JR (ι:=Int) ⟨λz=>H z=some r,λz=>[(0,.v (.string (a7 x0))),(1,.v (.int .i64 z))],λz=> .nil,λz=>[],λz=>[],λz=>0⟩ ?_ ?_
  ·refine aR.sS ab 7 [(18,.v (.bool (bif(decide (e<0)) then true else(decide (f<e)))))] ⟨⟨U,trivial⟩,U⟩ U U ?_;refine aR.cond U (λk=>?_) (λk=>?_)
   ·have h:=xN h k;refine aR.adQ ab 2 [(1,.v (.int .i64 f))] ⟨⟨U,trivial⟩,U⟩ U U (aR.wj f h (fD U) trivial [] U [] U)
   have h:=xO h k;refine aR.skip (aR.wj e h (fD U) trivial [] U [] U)
  rintro a h;subst j;refine aR.seq (aR.region (aJ.eE ab 1 [] [] [(20,.v (.int .i64 a))] _ U ⟨⟨U,trivial⟩,U⟩ ?_));obtain⟨I,h⟩:=bG h;refine aJ.makeSlice ab U U U U U U U U (Int.toNat a) (Int.toNat_of_nonneg I.1).symm (by omega) .str U U U U U λy=>aJ.eE ab 1 [] [] [(6,.v (.slice y (Int.toNat a) (Int.toNat a)))] _ U ⟨⟨U,trivial⟩,U⟩ (aJ.done U (aR.seq (aR.sS ab 1 [(7,.v (.int .i64 0))] ⟨⟨U,trivial⟩,U⟩ U U ?_)));obtain⟨A,l,h⟩:=GB h;refine aR.Ok (ι:=aa×bs×bL×Nat) ⟨λz=>A (z.1,z.2.1)=some r,λz=>[(0,.v (.string (a7 z.1))),(1,.v (.int .i64 a)),(6,.v (.slice z.2.2.1 z.2.1.length z.2.2.2))],λz=> .nil,λz=>[],λz=>[hY z.2.2.1 z.2.1 z.2.2.2],λz=>0⟩ ?_ ?_
  ·refine aR.loop (ι:=Nat×aa×bs×Int×bL×Nat) ⟨λz=>fixF (OW a A) z.1 (z.2.1,z.2.2.1,z.2.2.2.1)=some r,λz=>[(0,.v (.string (a7 z.2.1))),(1,.v (.int .i64 a)),(6,.v (.slice z.2.2.2.2.1 z.2.2.1.length z.2.2.2.2.2)),(7,.v (.int .i64 z.2.2.2.1))],λz=> .nil,λz=>[],λz=>[hY z.2.2.2.2.1 z.2.2.1 z.2.2.2.2.2],λz=>z.1⟩ (bC,x0,(List.replicate (Int.toNat a) []),0,y,(Int.toNat a)) h ⟨U,U,(by simp only[uP,sE,eM,fp,hY];rfl),U,trivial⟩ trivial [] U [0] (by simp only[uP,sE,eM,fp,hY];rfl) ?_;rintro⟨B,b,g,c,m,n⟩ h;obtain⟨B,rfl,h⟩:=Ox h;rw[OW] at h;refine aR.seq (aR.rg ab 4 [(W (a-1))] [] [(25,.v (.bool (decide (c<(W (a-1))))))] _ ⟨⟨trivial,U⟩,⟨U,trivial⟩,U⟩ U U ?_);refine aR.cond U (λo=>?_) (λo=>?_)
   ·have h:=xN h o;refine aR.skip (aR.seq (aR.block (aR.seq (aR.region (aJ.eE ab 1 [] [] [(29,.v (.string (a7 b)))] _ U ⟨⟨U,trivial⟩,U⟩ ?_)))));obtain⟨⟨O,d⟩,J,h⟩:=jP h;refine aJ.call U U U U (aem J) U [] U U λ_ _=>aJ.eE ab 5 [] [] [(9,.v (.int .i64 d))] _ U ⟨⟨U,trivial⟩,U⟩ (aJ.done U (aR.seq (aR.region ?_)));obtain⟨K,h⟩:=bG h;refine aJ.iY 0 U λp=>?_;obtain⟨C,h⟩:=bG h;refine aJ.eE ab 6 [] [] [(37,.v (.string (a7 (b9 b 0 d)))),(38,.bj ⟨m,g.length,n⟩ (Int.toNat c*1))] _ U ⟨K,p.ix C,(fD U),U⟩ (aJ.qv ab U U U U U U U U U [0] (fs:=[]) U (Int.toNat c) 0 (at' g c) (b9 b 0 d) ⟨mN C,U⟩ ⟨U,U,U⟩ (aJ.done U (aR.region ?_)));obtain⟨L,h⟩:=bG h;refine aJ.eE ab 4 [] [] [(0,.v (.string (a7 (b9 b d (b.length:Int)))))] _ U ⟨L,⟨U,trivial⟩,U⟩ (aJ.done U (aR.dv (aR.jR ab 3 [(W (c+1))] [] [(7,.v (.int .i64 (W (c+1))))] _ ⟨⟨trivial,U⟩,⟨U,trivial⟩,U⟩ U U (aR.N8 (B,(b9 b d (b.length:Int)),(List.set g (Int.toNat c) (b9 b 0 d)),(W (c+1)),m,n) h (xz _) ⟨U,U,(by simp only[uP,sE,eM,fp,hY];rfl),U,trivial⟩ trivial [] U [0] (by simp only[uP,sE,eM,fp,hY];rfl)))))
   have h:=xO h o;refine aR.exit U (aR.wj (b,g,m,n) h (fD U) trivial [] U [0] U)
  rintro⟨s,i,t,u⟩ h;subst l;obtain⟨M,v,h⟩:=GB h;refine aR.JR (ι:=bs×bL×Nat) ⟨λz=>M z.1=some r,λz=>[(6,.v (.slice z.2.1 z.1.length z.2.2))],λz=> .nil,λz=>[],λz=>[hY z.2.1 z.1 z.2.2],λz=>0⟩ ?_ ?_
  ·refine aR.sS ab 2 [(43,.v (.bool (decide (0<a))))] ⟨⟨U,trivial⟩,U⟩ U U ?_;refine aR.cond U (λw=>?_) (λw=>?_)
   ·have h:=xN h w;refine aR.region (aJ.iY 0 U λx=>?_);obtain⟨D,h⟩:=bG h;refine aJ.eE ab 5 [(W (a-1))] [] [(47,.v (.string (a7 s))),(48,.bj ⟨t,i.length,u⟩ (Int.toNat (W (a-1)) *1))] _ U ⟨⟨trivial,U⟩,x.ix D,(fD U),U⟩ (aJ.qv ab U U U U U U U U U [0] (fs:=[]) U (Int.toNat (W (a-1))) 0 (at' i (W (a-1))) s ⟨mN D,U⟩ ⟨U,U,U⟩ (aJ.done U (aR.wj ((List.set i (Int.toNat (W (a-1))) s),t,u) h ⟨(by simp only[uP,sE,eM,fp,hY];rfl),trivial⟩ trivial [] U [0] (by simp only[uP,sE,eM,fp,hY];rfl))))
   have h:=xO h w;refine aR.skip (aR.wj (i,t,u) h ⟨U,trivial⟩ trivial [] U [0] U)
  rintro⟨N,E,F⟩ h;subst v;refine aR.sS ab 2 [(4,.v (.slice E N.length F))] ⟨⟨U,trivial⟩,U⟩ U U ?_;cases h;exact aR.ret ab (E,F) trivial U U [0] U
def O6(x0:aa)(a:aa):Option Int:=match a with
 |[c]=>some (Lib.indexByte x0 c)
 |_=>none
theorem aet{x0:aa}{a:aa}{r:Int}(h:O6 x0 a=some r):pQ Tryz.prog 125 [.string (a7 x0),.string (a7 a)] [] (.int .i64 r):=by
 match a,h with
 |[c],h=>cases h;refine pQ.GC Tryz.call125 λw=>?_;exact Tryz.strings_Index_one (a7 x0) c w
 |[],h=>cases h
 |_::_::_,h=>cases h
def O7(x0:aa)(a:aa):Option Int:=match a with
 |[c]=>some (Lib.countByte x0 c:Int)
 |_=>none
theorem aeu{x0:aa}{a:aa}{r:Int}(h:O7 x0 a=some r):pQ Tryz.prog 124 [.string (a7 x0),.string (a7 a)] [] (.int .i64 r):=by
 match a,h with
 |[c],h=>cases h;refine pQ.GC Tryz.call124 λw=>?_;exact Tryz.strings_Count_one (a7 x0) c w
 |[],h=>cases h
 |_::_::_,h=>cases h
def GQ(x0:aa)(d:aa)(f:Int)(h:Int)(g:(aa×bs×Int)->Option bs)(i:(aa×bs×Int)->Option bs):(aa×bs×Int)->Option bs:=λ(a,e,b)=>
 (bif(decide (b<(W ((min h (W ((x0.length:Int)+1)))-1)))) then(av (O6 a d) λ(c:Int)=>(bif(decide (c<0)) then g (a,e,b) else(a8 (0<=(0:Int)/\(0:Int)<=(W (c+f))/\(W (c+f))<=(a.length:Int))<|(a8 (0<=b/\b<(e.length:Int))<|(a8 (0<=(W (c+(d.length:Int)))/\(W (c+(d.length:Int)))<=(a.length:Int)/\(a.length:Int)<=(a.length:Int))<|i ((b9 a (W (c+(d.length:Int))) (a.length:Int)),(List.set e (Int.toNat b) (b9 a 0 (W (c+f)))),(W (b+1)))))))) else g (a,e,b))
def GR(x0:aa)(d:aa)(h:Int)(b:Int):Option bs:=
 (bif(decide (b=0)) then some ([]) else(bif(decide (d=[])) then(av (OY x0 b) λ(i:bs)=>some i) else(a9 (λ(c:Int)=>(a8 (0<=(min c (W ((x0.length:Int)+1)))/\(min c (W ((x0.length:Int)+1)))<=536870912)<|(a9 (λ((f,e,a):aa×bs×Int)=>(a8 (0<=a/\a<(e.length:Int))<|(a8 (0<=(0:Int)/\(0:Int)<=(W (a+1))/\(W (a+1))<=((List.set e (Int.toNat a) f).length:Int))<|some (b9 (List.set e (Int.toNat a) f) 0 (W (a+1)))))) λj=>(fixF (GQ x0 d h c j) bC (x0,(List.replicate (Int.toNat (min c (W ((x0.length:Int)+1)))) []),0))))) λg=>(bif(decide (b<0)) then(av (O7 x0 d) λ(k:Int)=>g (W (k+1))) else g b))))
theorem aev{x0:aa}{b:aa}{e:Int}{i:Int}{r:bs}(h:GR x0 b e i=some r):
  FC Tryz.prog 95 [.string (a7 x0),.string (a7 b),.int .i64 e,.int .i64 i] [] (λ_:bL×Nat=>True) (λq=> .slice q.1 r.length q.2) (λq=>[hY q.1 r q.2]):=
 by
  refine FC.of (T:=ck) Tryz.call95 Tryz.func95 U U λw0=>?_;unfold GR at h;refine aR.sS ab 1 [] ⟨trivial,U⟩ U U (aR.seq (aR.sS ab 2 [(13,.v (.bool (decide (i=0))))] ⟨⟨U,trivial⟩,U⟩ U U ?_));refine aR.cond U (λn=>?_) (λn=>?_)
  ·have h:=xN h n;refine aR.sS ab 1 [(8,.v (.slice none 0 0))] ⟨⟨U,trivial⟩,U⟩ U U ?_;cases h;refine aR.pV .str bA.nil U U (aR.ret ab (none,0) trivial U U [0] U)
  have h:=xO h n;refine aR.skip (aR.seq (aR.sS ab 2 [(15,.v (.bool (decide (b=[]))))] ⟨⟨U,trivial⟩,U⟩ U U ?_));refine aR.cond U (λo=>?_) (λo=>?_)
  ·have h:=xN h o;refine aR.seq (aR.region (aJ.eE ab 2 [] [] [(16,.v (.string (a7 x0))),(17,.v (.int .i64 i))] _ U ⟨(fD U),U⟩ ?_));obtain⟨P,p,h⟩:=jP h;refine aJ.call U U U U (aen p) U [] U U ?_;rintro⟨E,F⟩-;refine aJ.eE ab 1 [] [] [(8,.v (.slice E P.length F))] _ U ⟨⟨U,trivial⟩,U⟩ (aJ.done U ?_);cases h;exact aR.ret ab (E,F) trivial U U [0] U
  have h:=xO h o;refine aR.skip ?_;obtain⟨Q,s,h⟩:=GB h;refine aR.JR (ι:=Int) ⟨λz=>Q z=some r,λz=>[(0,.v (.string (a7 x0))),(1,.v (.string (a7 b))),(2,.v (.int .i64 e)),(3,.v (.int .i64 z))],λz=> .nil,λz=>[],λz=>[],λz=>0⟩ ?_ ?_
  ·refine aR.sS ab 2 [(20,.v (.bool (decide (i<0))))] ⟨⟨U,trivial⟩,U⟩ U U ?_;refine aR.cond U (λt=>?_) (λt=>?_)
   ·have h:=xN h t;refine aR.region (aJ.eE ab 2 [] [] [(21,.v (.string (a7 x0))),(22,.v (.string (a7 b)))] _ U ⟨(fD U),U⟩ ?_);obtain⟨u,v,h⟩:=jP h;refine aJ.call U U U U (aeu v) U [] U U λ_ _=>aJ.eE ab 2 [(W (u+1))] [] [(3,.v (.int .i64 (W (u+1))))] _ U ⟨⟨trivial,U⟩,⟨U,trivial⟩,U⟩ (aJ.done U (aR.wj (W (u+1)) h (fD U) trivial [] U [] U))
   have h:=xO h t;refine aR.skip (aR.wj i h (fD U) trivial [] U [] U)
  rintro a h;subst s;refine aR.rg ab 6 [(W ((x0.length:Int)+1))] [] [(3,.v (.int .i64 (min a (W ((x0.length:Int)+1)))))] _ ⟨⟨trivial,U⟩,⟨U,trivial⟩,U⟩ U U (aR.seq (aR.region (aJ.eE ab 1 [] [] [(30,.v (.int .i64 (min a (W ((x0.length:Int)+1)))))] _ U ⟨⟨U,trivial⟩,U⟩ ?_)));obtain⟨R,h⟩:=bG h;refine aJ.makeSlice ab U U U U U U U U (Int.toNat (min a (W ((x0.length:Int)+1)))) (Int.toNat_of_nonneg R.1).symm (by omega) .str U U U U U λG=>aJ.eE ab 1 [] [] [(9,.v (.slice G (Int.toNat (min a (W ((x0.length:Int)+1)))) (Int.toNat (min a (W ((x0.length:Int)+1))))))] _ U ⟨⟨U,trivial⟩,U⟩ (aJ.done U (aR.rg ab 3 [(W ((min a (W ((x0.length:Int)+1)))-1))] [] [(3,.v (.int .i64 (W ((min a (W ((x0.length:Int)+1)))-1))))] _ ⟨⟨trivial,U⟩,⟨U,trivial⟩,U⟩ U U (aR.sS ab 1 [(10,.v (.int .i64 0))] ⟨⟨U,trivial⟩,U⟩ U U (aR.seq ?_))));obtain⟨H,w,h⟩:=GB h;refine aR.Ok (ι:=aa×bs×Int×bL×Nat) ⟨λz=>H (z.1,z.2.1,z.2.2.1)=some r,λz=>[(0,.v (.string (a7 z.1))),(9,.v (.slice z.2.2.2.1 z.2.1.length z.2.2.2.2)),(10,.v (.int .i64 z.2.2.1))],λz=> .nil,λz=>[],λz=>[hY z.2.2.2.1 z.2.1 z.2.2.2.2],λz=>0⟩ ?_ ?_
  ·refine aR.loop (ι:=Nat×aa×bs×Int×bL×Nat) ⟨λz=>fixF (GQ x0 b e a H) z.1 (z.2.1,z.2.2.1,z.2.2.2.1)=some r,λz=>[(0,.v (.string (a7 z.2.1))),(1,.v (.string (a7 b))),(2,.v (.int .i64 e)),(3,.v (.int .i64 (W ((min a (W ((x0.length:Int)+1)))-1)))),(9,.v (.slice z.2.2.2.2.1 z.2.2.1.length z.2.2.2.2.2)),(10,.v (.int .i64 z.2.2.2.1))],λz=> .nil,λz=>[],λz=>[hY z.2.2.2.2.1 z.2.2.1 z.2.2.2.2.2],λz=>z.1⟩ (bC,x0,(List.replicate (Int.toNat (min a (W ((x0.length:Int)+1)))) []),0,G,(Int.toNat (min a (W ((x0.length:Int)+1))))) h ⟨U,U,U,U,(by simp only[uP,sE,eM,fp,hY];rfl),U,trivial⟩ trivial [] U [0] (by simp only[uP,sE,eM,fp,hY];rfl) ?_;rintro⟨I,c,j,d,k,l⟩ h;obtain⟨I,rfl,h⟩:=Ox h;rw[GQ] at h;refine aR.seq (aR.sS ab 3 [(36,.v (.bool (decide (d<(W ((min a (W ((x0.length:Int)+1)))-1))))))] ⟨⟨U,trivial⟩,U⟩ U U ?_);refine aR.cond U (λx=>?_) (λx=>?_)
   ·have h:=xN h x;refine aR.skip (aR.block (aR.seq (aR.region (aJ.eE ab 2 [] [] [(37,.v (.string (a7 c))),(38,.v (.string (a7 b)))] _ U ⟨(fD U),U⟩ ?_))));obtain⟨f,y,h⟩:=jP h;refine aJ.call U U U U (aet y) U [] U U λ_ _=>aJ.eE ab 1 [] [] [(11,.v (.int .i64 f))] _ U ⟨⟨U,trivial⟩,U⟩ (aJ.done U (aR.seq (aR.sS ab 2 [(41,.v (.bool (decide (f<0))))] ⟨⟨U,trivial⟩,U⟩ U U ?_)));refine aR.cond U (λA=>?_) (λA=>?_)
    ·have h:=xN h A;refine aR.exit U (aR.wj (c,j,d,k,l) h (fD U) trivial [] U [0] U)
    have h:=xO h A;refine aR.skip (aR.seq (aR.region ?_));obtain⟨S,h⟩:=bG h;refine aJ.iY 0 U λB=>?_;obtain⟨J,h⟩:=bG h;refine aJ.eE ab 8 [(W (f+e))] [] [(48,.v (.string (a7 (b9 c 0 (W (f+e)))))),(49,.bj ⟨k,j.length,l⟩ (Int.toNat d*1))] _ U ⟨⟨trivial,U⟩,S,B.ix J,(fD U),U⟩ (aJ.qv ab U U U U U U U U U [0] (fs:=[]) U (Int.toNat d) 0 (at' j d) (b9 c 0 (W (f+e))) ⟨mN J,U⟩ ⟨U,U,U⟩ (aJ.done U (aR.seq (aR.region ?_))));obtain⟨V,h⟩:=bG h;refine aJ.eE ab 7 [(W (f+(b.length:Int)))] [] [(0,.v (.string (a7 (b9 c (W (f+(b.length:Int))) (c.length:Int)))))] _ U ⟨⟨trivial,U⟩,V,⟨U,trivial⟩,U⟩ (aJ.done U (aR.jR ab 3 [(W (d+1))] [] [(10,.v (.int .i64 (W (d+1))))] _ ⟨⟨trivial,U⟩,⟨U,trivial⟩,U⟩ U U (aR.dv (aR.N8 (I,(b9 c (W (f+(b.length:Int))) (c.length:Int)),(List.set j (Int.toNat d) (b9 c 0 (W (f+e)))),(W (d+1)),k,l) h (xz _) ⟨U,U,U,U,(by simp only[uP,sE,eM,fp,hY];rfl),U,trivial⟩ trivial [] U [0] (by simp only[uP,sE,eM,fp,hY];rfl)))))
   have h:=xO h x;refine aR.exit U (aR.wj (c,j,d,k,l) h (fD U) trivial [] U [0] U)
  rintro⟨C,m,g,K,L⟩ h;subst w;refine aR.seq (aR.region (aJ.iY 0 U λD=>?_));obtain⟨M,h⟩:=bG h;refine aJ.eE ab 4 [] [] [(60,.v (.string (a7 C))),(61,.bj ⟨K,m.length,L⟩ (Int.toNat g*1))] _ U ⟨D.ix M,(fD U),U⟩ (aJ.qv ab U U U U U U U U U [0] (fs:=[]) U (Int.toNat g) 0 (at' m g) C ⟨mN M,U⟩ ⟨U,U,U⟩ (aJ.done U (aR.seq (aR.region (aJ.eE ab 3 [(W (g+1))] [] [(62,.v (.slice K m.length L)),(64,.v (.int .i64 (W (g+1))))] _ U ⟨⟨trivial,U⟩,(fD U),U⟩ ?_)))));obtain⟨X,h⟩:=bG h;refine aJ.GD ab U U U U U U U U [0] U (0:Int) (W (g+1)) U U X U λN O=>aJ.eE ab 1 [] [] [(8,.v (.slice N (b9 (List.set m (Int.toNat g) C) 0 (W (g+1))).length O))] _ U ⟨⟨U,trivial⟩,U⟩ (aJ.done U ?_);cases h;exact aR.ret ab (N,O) trivial U U [0] U
def DG(x0:aa)(a:aa):Option bs:=
 (av (GR x0 a 0 (-1)) λ(b:bs)=>some b)
theorem Vw{x0:aa}{a:aa}{r:bs}(h:DG x0 a=some r):
  FC Tryz.prog 74 [.string (a7 x0),.string (a7 a)] [] (λ_:bL×Nat=>True) (λq=> .slice q.1 r.length q.2) (λq=>[hY q.1 r q.2]):=
 by refine V.fE (T:=ck) Tryz.call74 Tryz.func74 U λ_=>?_;unfold DG at h;refine V.cI ab 8 0 h aev [] U ?_;rintro d ⟨b,c⟩ h;cases h;exact V.rt ab 2 0 (b,c) [0] U
def Pf(x0:aa)(a:aa):Option Bool:=some (Lib.hasPrefix x0 a)
theorem aeD{x0:aa}{a:aa}{r:Bool}(h:Pf x0 a=some r):pQ Tryz.prog 75 [.string (a7 x0),.string (a7 a)] [] (.bool r):=by cases h;refine pQ.GC Tryz.call75 λw=>?_;exact Tryz.strings_HasPrefix (a7 x0) (a7 a) w
def GV(x0:aa)(c:Int)(b:bs)(e:Unit->Option aa)(d:Int->Option aa):Int->Option aa:=λa=>
 (bif(decide (a<(b.length:Int))) then(a8 (0<=a/\a<(b.length:Int))<|(a8 (0<=c/\c<=(x0.length:Int)/\(x0.length:Int)<=(x0.length:Int))<|(av (Pf (b9 x0 c (x0.length:Int)) (at' b a)) λ(f:Bool)=>(bif f then some (at' b a) else d (W (a+1)))))) else e ())
def zv(x0:aa)(a:Int):Option aa:=
 (bif(bif(decide (a<0)) then true else(decide ((x0.length:Int)<=a))) then some ([]) else(av (DG ([60,60,45,32,38,38,32,124,124,32,59,59,32,60,60,32,60,38,32,60,62,32,62,62,32,62,38,32,62,124,32,38,32,124,32,59,32,60,32,62,32,40,32,41]:aa) ([32]:aa)) λ(b:bs)=>(a9 (λ(_:Unit)=>some ([])) λc=>(fixF (GV x0 a b c) bC 0))))
theorem Pg{x0:aa}{b:Int}{r:aa}(h:zv x0 b=some r):
  FC Tryz.prog 61 [.string (a7 x0),.int .i64 b] [] (λ_:Unit=>True) (λ_=> .string (a7 r)) (λ_=>[]):=
 by
  refine V.fE (T:=ck) Tryz.call61 Tryz.func61 U λ_=>?_;unfold zv at h;refine V.co ab 16 0 h U (λh=>?_) (λh=>?_)
  ·cases h;exact V.rt ab 4 0 () [] U
  refine V.cI ab 4 0 h Vw [] U ?_;rintro a ⟨c,d⟩ h;refine V.c8 ab 3 0 h (ρ:=Unit) (λs q=>[]) .nil (λs q=>[]) U ?_ ?_
  ·intro k _ h;refine V.e7 ab 0 0 h (ρ:=Unit) (λs q=>[(0,.v (.string (a7 x0))),(1,.v (.int .i64 b)),(15,.v (.slice c a.length d)),(16,.v (.int .i64 (a.length:Int))),(17,.v (.int .i64 s))]) .nil (λs q=>[hY c a d]) () [0] U ?_;rintro g e _ h;rw[GV] at h;refine V.co ab 5 0 h U (λh=>?_) (λh=>?_)
   ·refine V.go ab 5 0 U ?_;refine V.cl (aJ.iY 0 U λi=>V.cz ?_);obtain⟨f,h⟩:=bG h;refine V.go ab 1 0 ⟨i.ix f,U⟩ ?_;refine V.cl (aJ.load ab U U U U U U U 0 U U (Int.toNat e) 0 (at' a e) ⟨mN f,U⟩ U U (V.cz ?_));obtain⟨j,h⟩:=bG h;refine V.cI ab 8 0 h aeD [] ⟨j,U⟩ λl _ h=>?_;refine V.co ab 1 0 h U (λh=>?_) (λh=>?_)
    ·cases h;exact V.rt ab 5 0 () [] U
    exact V.el ab 6 0 h () [0] U
   exact V.a5 ab 1 0 h () [] U
  rintro _ _ h;cases h;exact V.rt ab 4 0 () [] U
def wx(x0:aa)(a:Int):Option Bool:=
 (a8 (((decide ((x0.length:Int)<=a))=false)->0<=a/\a<(x0.length:Int))<|(a8 (((bif(decide ((x0.length:Int)<=a)) then true else(decide (((at' x0 a).toNat:Int)=(32:Int))))=false)->0<=a/\a<(x0.length:Int))<|(a8 (((bif(bif(decide ((x0.length:Int)<=a)) then true else(decide (((at' x0 a).toNat:Int)=(32:Int)))) then true else(decide (((at' x0 a).toNat:Int)=(9:Int))))=false)->0<=a/\a<(x0.length:Int))<|(cR ((bif(bif(bif(decide ((x0.length:Int)<=a)) then true else(decide (((at' x0 a).toNat:Int)=(32:Int)))) then true else(decide (((at' x0 a).toNat:Int)=(9:Int)))) then true else(decide (((at' x0 a).toNat:Int)=(10:Int))))=false) (zv x0 a) [] λ(b:aa)=>some (bif(bif(bif(bif(decide ((x0.length:Int)<=a)) then true else(decide (((at' x0 a).toNat:Int)=(32:Int)))) then true else(decide (((at' x0 a).toNat:Int)=(9:Int)))) then true else(decide (((at' x0 a).toNat:Int)=(10:Int)))) then true else(!(decide (b=[]))))))))
theorem Ph{x0:aa}{a:Int}{r:Bool}(h:wx x0 a=some r):
  FC Tryz.prog 76 [.string (a7 x0),.int .i64 a] [] (λ_:Unit=>True) (λ_=> .bool r) (λ_=>[]):=
 by refine V.fE (T:=ck) Tryz.call76 Tryz.func76 U λ_=>?_;unfold wx at h;obtain⟨b,h⟩:=bG h;obtain⟨c,h⟩:=bG h;obtain⟨d,h⟩:=bG h;refine V.hX ab 31 0 h Pg [] ⟨b,c,d,U⟩ (λ_=>id) λe h=>?_;cases h;exact V.rt ab 4 0 () [] U
def Bn(x0:aa)(a:Int):Option Bool:=
 (a8 (0<=a/\a<(x0.length:Int))<|(a8 (((bif(decide (((at' x0 a).toNat:Int)=(36:Int))) then(decide ((W (a+1))<(x0.length:Int))) else false)=true)->0<=(W (a+1))/\(W (a+1))<(x0.length:Int))<|(a8 (((decide (((at' x0 (W (a+1))).toNat:Int)=(40:Int)))=false)->((bif(decide (((at' x0 a).toNat:Int)=(36:Int))) then(decide ((W (a+1))<(x0.length:Int))) else false)=true)->0<=(W (a+1))/\(W (a+1))<(x0.length:Int))<|some (bif(bif(decide (((at' x0 a).toNat:Int)=(36:Int))) then(decide ((W (a+1))<(x0.length:Int))) else false) then(bif(decide (((at' x0 (W (a+1))).toNat:Int)=(40:Int))) then true else(decide (((at' x0 (W (a+1))).toNat:Int)=(123:Int)))) else false))))
theorem Vx{x0:aa}{a:Int}{r:Bool}(h:Bn x0 a=some r):
  FC Tryz.prog 77 [.string (a7 x0),.int .i64 a] [] (λ_:Unit=>True) (λ_=> .bool r) (λ_=>[]):=
 by refine V.fE (T:=ck) Tryz.call77 Tryz.func77 U λ_=>?_;unfold Bn at h;obtain⟨b,h⟩:=bG h;obtain⟨c,h⟩:=bG h;obtain⟨d,h⟩:=bG h;cases h;exact V.rt ab 33 0 () [] ⟨b,c,d,U⟩
def DI(x0:aa)(b:Int->Option (aa×Bool))(c:Int->Option (aa×Bool)):Int->Option (aa×Bool):=λa=>
 (av (wx x0 a) λ(d:Bool)=>(bif(!d) then(a8 (0<=a/\a<(x0.length:Int))<|(cR ((bif(bif(bif(decide (((at' x0 a).toNat:Int)=(92:Int))) then true else(decide (((at' x0 a).toNat:Int)=(39:Int)))) then true else(decide (((at' x0 a).toNat:Int)=(34:Int)))) then true else(decide (((at' x0 a).toNat:Int)=(96:Int))))=false) (Bn x0 a) false λ(e:Bool)=>(bif(bif(bif(bif(bif(decide (((at' x0 a).toNat:Int)=(92:Int))) then true else(decide (((at' x0 a).toNat:Int)=(39:Int)))) then true else(decide (((at' x0 a).toNat:Int)=(34:Int)))) then true else(decide (((at' x0 a).toNat:Int)=(96:Int)))) then true else e) then some ([],false) else c (W (a+1))))) else b a))
def GY(x0:aa)(a:Int):Option (aa×Bool):=
 (a9 (λ(b:Int)=>(a8 (0<=a/\a<=b/\b<=(x0.length:Int))<|some ((b9 x0 a b),true))) λc=>(fixF (DI x0 c) bC a))
theorem aeF{x0:aa}{a:Int}{r:aa×Bool}(h:GY x0 a=some r):
  FC Tryz.prog 62 [.string (a7 x0),.int .i64 a] [] (λ_:Unit=>True) (λ_=> .tuple #[.string (a7 r.1),.bool r.2]) (λ_=>[]):=
 by
  refine V.fE (T:=ck) Tryz.call62 Tryz.func62 U λ_=>?_;unfold GY at h;refine V.c8 ab 11 0 h (ρ:=Unit) (λs q=>[(0,.v (.string (a7 x0))),(1,.v (.int .i64 a)),(6,.v (.int .i64 s))]) .nil (λs q=>[]) U ?_ ?_
  ·intro d _ h;refine V.e7 ab 0 0 h (ρ:=Unit) (λs q=>[(0,.v (.string (a7 x0))),(1,.v (.int .i64 a)),(6,.v (.int .i64 s))]) .nil (λs q=>[]) () [] U ?_;rintro e f _ h;rw[DI] at h;refine V.cI ab 5 0 h Ph [] U λg _ h=>?_;refine V.co ab 2 0 h U (λh=>?_) (λh=>?_)
   ·obtain⟨b,h⟩:=bG h;refine V.hX ab 29 0 h Vx [] ⟨b,U⟩ (λ_=>id) λi h=>?_;refine V.co ab 2 0 h U (λh=>?_) (λh=>?_)
    ·cases h;exact V.rt ab 5 0 () [] U
    exact V.el ab 7 0 h () [] U
   exact V.a5 ab 1 0 h () [] U
  rintro j _ h;obtain⟨c,h⟩:=bG h;cases h;exact V.rt ab 9 0 () [] ⟨c,U⟩
def lU(x0:an):Option (bo an ((Int×aa×Bool)×an)):=
 (ba (Kg x0) (λx=>x) λ(a:an)=>(bif(decide (a.2.1=(a.1.length:Int))) then some (.inr ((0,[],false),(a.1,a.2.1,x0.2.2.1,a.2.2.2.1,x0.2.2.2.2.1,a.2.2.2.2.2))) else(a8 (0<=a.2.1/\a.2.1<(a.1.length:Int))<|(bif(decide (((at' a.1 a.2.1).toNat:Int)=(10:Int))) then some (.inr ((1,[],false),(a.1,a.2.1,x0.2.2.1,a.2.2.2.1,x0.2.2.2.2.1,a.2.2.2.2.2))) else(av (zv a.1 a.2.1) λ(b:aa)=>(bif(!(decide (b=[]))) then some (.inr ((2,b,false),(a.1,a.2.1,x0.2.2.1,a.2.2.2.1,x0.2.2.2.2.1,a.2.2.2.2.2))) else(av (GY a.1 a.2.1) λ(c,d)=>some (.inr ((3,c,d),(a.1,a.2.1,x0.2.2.1,a.2.2.2.1,x0.2.2.2.2.1,a.2.2.2.2.2))))))))))
theorem qz{x0:an}{a2:bL}{Q:bt}{r:bo an ((Int×aa×Bool)×an)}(h:lU x0=some r):
  iZ Tryz.prog 42 [.pointer a2] [] [i_ a2 x0 Q] (λr (_:Unit)=>ju 39 r λr=> .agg #[.int .i64 r.1.1,.string (a7 r.1.2.1),.bool r.1.2.2]) (λr _=>[i_ a2 ((l7 r).1,(l7 r).2.1,x0.2.2.1,(l7 r).2.2.2.1,x0.2.2.2.2.1,(l7 r).2.2.2.2.2) Q]) r:=
 by
  refine V.jU (T:=ck) Tryz.call42 Tryz.func42 U λ_ _=>?_;unfold lU at h;refine V.jT (aR.Dv ab 1 [] [4] [(2,.eU 4 0)] (.new 4 65 [.int .i64 0,.string (a7 []),.bool false] .nil) ⟨⟨U,trivial⟩,(jk U U)⟩ U U (V.iA ?_));refine V.cp ab 3 0 h aei [0] [] (λ_=>()) [0] U a6 a6 λg _ h=>?_;refine V.jl ab 3 0 U (by kernel_rfl) ?_;refine V.co ab 11 0 h ⟨U,U,U,U,U,U,U⟩ (λh=>?_) (λh=>?_)
  ·refine V.jT (aR.Dv ab 2 [] [] [] (.new 4 65 [.int .i64 0,.string (a7 []),.bool false] .nil) ⟨trivial,(jk U U)⟩ U U (V.iA ?_));cases h;exact V.jR ab 0 0 () [0] U
  obtain⟨b,h⟩:=bG h;refine V.jl ab 3 0 U (by kernel_rfl) ?_;refine V.co ab 11 0 h ⟨U,U,U,U,U,U,b,U⟩ (λh=>?_) (λh=>?_)
  ·refine V.jT (aR.Dv ab 2 [] [] [] (.new 4 65 [.int .i64 1,.string (a7 []),.bool false] .nil) ⟨trivial,(jk U U)⟩ U U (V.iA ?_));cases h;exact V.jR ab 0 0 () [0] U
  refine V.jl ab 3 0 U (by kernel_rfl) ?_;refine V.go ab 8 0 ⟨U,U,U,U,U,U,U⟩ ?_;obtain⟨c,d,h⟩:=jP h;refine V.toQ (kX.call U U U U (Pg d) U [] U U (V.sU ?_));refine V.co ab 7 0 h U (λh=>?_) (λh=>?_)
  ·refine V.jT (aR.Dv ab 3 [] [] [] (.new 4 65 [.int .i64 2,.string (a7 c),.bool false] .nil) ⟨trivial,(jk U U)⟩ U U (V.iA ?_));cases h;exact V.jR ab 0 0 () [0] U
  refine V.jl ab 2 0 U (by kernel_rfl) ?_;refine V.go ab 8 0 ⟨U,U,U,U,U,U,U⟩ ?_;obtain⟨⟨e,f⟩,a,h⟩:=jP h;refine V.toQ (kX.call U U U U (aeF a) U [] U U (V.sU ?_));refine V.go ab 6 0 U ?_;refine V.jT (aR.Dv ab 4 [] [] [] (.new 4 65 [.int .i64 3,.string (a7 e),.bool f] .nil) ⟨trivial,(jk U U)⟩ U U (V.iA ?_));cases h;exact V.jR ab 0 0 () [0] U
def wy(x0:Int)(a:Int):Option Int:=
 some (max (0:Int) (min x0 a))
theorem Km{x0:Int}{a:Int}{r:Int}(h:wy x0 a=some r):
  FC Tryz.prog 70 [.int .i64 x0,.int .i64 a] [] (λ_:Unit=>True) (λ_=> .int .i64 r) (λ_=>[]):=
 by refine V.fE (T:=ck) Tryz.call70 Tryz.func70 U λ_=>?_;unfold wy at h;cases h;exact V.rt ab 12 0 () [] U
def DJ(x0:aa)(a:UInt8):Option Int:=some (Lib.indexByte x0 a)
theorem Vz{x0:aa}{a:UInt8}{r:Int}(h:DJ x0 a=some r):pQ Tryz.prog 71 [.string (a7 x0),.int .u8 (a.toNat:Int)] [] (.int .i64 r):=by cases h;refine pQ.GC Tryz.call71 λw=>?_;have:=Tryz.strings_IndexByte (a7 x0) (a.toNat:Int) w;rw[adl] at this;exact this
def Kn(b:UInt8)(c:aa->Option aa)(d:aa->Option aa):aa->Option aa:=λa=>
 (a8 (((decide (0<(a.length:Int)))=true)->0<=(0:Int)/\0<(a.length:Int))<|(bif(bif(decide (0<(a.length:Int))) then(decide (((at' a 0).toNat:Int)=(b.toNat:Int))) else false) then(a8 (0<=(1:Int)/\(1:Int)<=(a.length:Int)/\(a.length:Int)<=(a.length:Int))<|d (b9 a 1 (a.length:Int))) else c a))
def G0(x0:aa)(a:UInt8):Option aa:=
 (a9 (λ(b:aa)=>some b) λc=>(fixF (Kn a c) bC x0))
theorem aeH{x0:aa}{a:UInt8}{r:aa}(h:G0 x0 a=some r):
  FC Tryz.prog 82 [.string (a7 x0),.int .u8 (a.toNat:Int)] [] (λ_:Unit=>True) (λ_=> .string (a7 r)) (λ_=>[]):=
 by
  refine V.fE (T:=ck) Tryz.call82 Tryz.func82 U λ_=>?_;unfold G0 at h;refine V.c8 ab 5 0 h (ρ:=Unit) (λs q=>[(0,.v (.string (a7 s)))]) .nil (λs q=>[]) U ?_ ?_
  ·intro e _ h;refine V.e7 ab 0 0 h (ρ:=Unit) (λs q=>[(0,.v (.string (a7 s))),(1,.v (.int .u8 (a.toNat:Int)))]) .nil (λs q=>[]) () [] U ?_;rintro b f _ h;rw[Kn] at h;obtain⟨c,h⟩:=bG h;refine V.co ab 13 0 h ⟨c,U⟩ (λh=>?_) (λh=>?_)
   ·obtain⟨d,h⟩:=bG h;exact V.el ab 8 0 h () [] ⟨d,U⟩
   exact V.a5 ab 1 0 h () [] U
  rintro g _ h;cases h;exact V.rt ab 5 0 () [] U
def Bo(x0:aa)(a:aa):Option aa:=
 (bif(bif(decide (x0=[])) then true else(decide (a=[]))) then some x0 else(a8 (((decide ((a.length:Int)=1))=true)->0<=(0:Int)/\0<(a.length:Int))<|(bif(bif(decide ((a.length:Int)=1)) then(decide (((at' a 0).toNat:Int)<(128:Int))) else false) then(a8 (0<=(0:Int)/\0<(a.length:Int))<|(av (G0 x0 (at' a 0)) λ(b:aa)=>some b)) else none)))
theorem aeJ{x0:aa}{a:aa}{r:aa}(h:Bo x0 a=some r):
  FC Tryz.prog 72 [.string (a7 x0),.string (a7 a)] [] (λ_:Unit=>True) (λ_=> .string (a7 r)) (λ_=>[]):=
 by
  refine V.fE (T:=ck) Tryz.call72 Tryz.func72 U λ_=>?_;unfold Bo at h;refine V.co ab 14 0 h U (λh=>?_) (λh=>?_)
  ·cases h;exact V.rt ab 5 0 () [] U
  obtain⟨b,h⟩:=bG h;refine V.co ab 13 0 h ⟨b,U⟩ (λh=>?_) (λh=>?_)
  ·obtain⟨c,h⟩:=bG h;refine V.cI ab 5 0 h aeH [] ⟨c,U⟩ λd _ h=>?_;cases h;exact V.rt ab 2 0 () [] U
  cases h
def q9(x0:aa)(h:aa)(i:Bool)(j:Unit->Option Int)(c:Int->Option Int):Int->Option Int:=λa=>
 (bif(decide (a<(x0.length:Int))) then(a8 (0<=a/\a<=(x0.length:Int)/\(x0.length:Int)<=(x0.length:Int))<|(a9 (λ((d,e):aa×Int)=>(a9 (λ(k:aa)=>(bif(decide (k=h)) then some e else c e)) λf=>(bif i then(av (Bo d ([9]:aa)) λ(l:aa)=>f l) else f d))) λg=>(av (DJ (b9 x0 a (x0.length:Int)) (10:UInt8)) λ(b:Int)=>(bif(decide (0<=b)) then(a8 (0<=(0:Int)/\(0:Int)<=b/\b<=((b9 x0 a (x0.length:Int)).length:Int))<|g ((b9 (b9 x0 a (x0.length:Int)) 0 b),(W ((W (a+b))+1)))) else g ((b9 x0 a (x0.length:Int)),(x0.length:Int)))))) else j ())
def Bp(x0:aa)(a:Int)(b:aa)(c:Bool):Option Int:=
 (av (wy a (x0.length:Int)) λ(d:Int)=>(a9 (λ(_:Unit)=>some (-1)) λe=>(fixF (q9 x0 b c e) bC d)))
theorem aeL{x0:aa}{c:Int}{a:aa}{b:Bool}{r:Int}(h:Bp x0 c a b=some r):
  FC Tryz.prog 56 [.string (a7 x0),.int .i64 c,.string (a7 a),.bool b] [] (λ_:Unit=>True) (λ_=> .int .i64 r) (λ_=>[]):=
 by
  refine V.fE (T:=ck) Tryz.call56 Tryz.func56 U λ_=>?_;unfold Bp at h;refine V.cI ab 9 0 h Km [] U λi _ h=>?_;refine V.c8 ab 3 0 h (ρ:=Unit) (λs q=>[]) .nil (λs q=>[]) U ?_ ?_
  ·intro j _ h;refine V.e7 ab 0 0 h (ρ:=Unit) (λs q=>[(0,.v (.string (a7 x0))),(1,.v (.int .i64 s)),(2,.v (.string (a7 a))),(3,.v (.bool b))]) .nil (λs q=>[]) () [] U ?_;rintro d k _ h;rw[q9] at h;refine V.co ab 8 0 h U (λh=>?_) (λh=>?_)
   ·obtain⟨e,h⟩:=bG h;refine V.e6 ab 12 0 h (ρ:=Unit) (λs q=>[(0,.v (.string (a7 x0))),(2,.v (.string (a7 a))),(3,.v (.bool b)),(9,.v (.string (a7 s.1))),(10,.v (.int .i64 s.2))]) .nil (λs q=>[]) ⟨e,U⟩ ?_ ?_
    ·intro l _ h;refine V.cI ab 3 0 h Vz [] U λm _ h=>?_;refine V.co ab 7 0 h U (λh=>?_) (λh=>?_)
     ·obtain⟨f,h⟩:=bG h;exact V.a5 ab 11 0 h () [] ⟨f,U⟩
     exact V.a5 ab 1 0 h () [] U
    rintro⟨n,g⟩ _ h;refine V.e6 ab 0 0 h (ρ:=Unit) (λs q=>[(0,.v (.string (a7 x0))),(2,.v (.string (a7 a))),(3,.v (.bool b)),(9,.v (.string (a7 s))),(10,.v (.int .i64 g))]) .nil (λs q=>[]) U ?_ ?_
    ·intro o _ h;refine V.co ab 4 0 h U (λh=>?_) (λh=>?_)
     ·refine V.cI ab 2 0 h aeJ [] U λp _ h=>?_;exact V.a5 ab 2 0 h () [] U
     exact V.a5 ab 1 0 h () [] U
    rintro t _ h;refine V.co ab 7 0 h U (λh=>?_) (λh=>?_)
    ·cases h;exact V.rt ab 5 0 () [] U
    exact V.el ab 6 0 h () [] U
   exact V.a5 ab 1 0 h () [] U
  rintro _ _ h;cases h;exact V.rt ab 4 0 () [] U
def wB(x0:an)(a:aa):Option (bo an Empty):=
 (a8 (x0.2.2.2.2.1.length+([a]:bs).length<=536870912)<|ba (q6 (x0.1,x0.2.1,x0.2.2.1,x0.2.2.2.1,(x0.2.2.2.2.1++([a]:bs)),x0.2.2.2.2.2)) (λx=>(x.1,x.2.1,x0.2.2.1,x.2.2.2.1,(x0.2.2.2.2.1++([a]:bs)),x.2.2.2.2.2)) λy=>Empty.elim y)
theorem G1{x0:an}{a:aa}{a3:bL}{Q:bt}{r:bo an Empty}(h:wB x0 a=some r):
  iZ Tryz.prog 57 [.pointer a3,.string (a7 a)] [] (ee a3 x0 Q) (λr (q:bt)=>ju 39 r λr=> .tuple #[]) (λr q=>ee a3 (sT r) q) r:=
 by refine V.jU (T:=ck) Tryz.call57 Tryz.func57 U λ_ _=>?_;unfold wB at h;refine V.go ab 8 0 ⟨U,U,U,U⟩ ?_;refine V.cl (aJ.kt U (cK.buildSlice ab U U U U U U U U U U U [] U .str [a] ⟨U,U⟩ U U λe=>aJ.ku (V.cz ?_)));obtain⟨d,h⟩:=bG h;refine V.cl (aJ.qw ab U U U U ⟨U,U,U,U,trivial,U,U,U,U⟩ U U U [3] U 0 U d U λb c=>V.cz ?_);refine V.cp ab 6 2 h (DB (Q:=(Q.1,Q.2.1,b,c))) [0] [] (λ_=>(Q.1,Q.2.1,b,c)) [0,2,0] ⟨U,U,U,U⟩ a6 a6 λy _ _=>y.elim
def Bq(x0:an)(b:aq)(y23:an)(e:Int->Option (bo an (Bool×an)))(f:(Int×Int)->Option (bo an (Bool×an))):(Int×Int)->Option (bo an (Bool×an)):=λ(a,c)=>
 (bif(decide (a<(b.length:Int))) then(a8 (0<=a/\a<(b.length:Int))<|(av (Bp y23.1 c ((at' b a).1) ((at' b a).2)) λ(d:Int)=>(a9 (λ(_:Unit)=>f ((W (a+1)),d)) λg=>(bif(decide (d<0)) then ba (wB (y23.1,c,b,y23.2.2.2.1,x0.2.2.2.2.1,y23.2.2.2.2.2) ([60,60]:aa)) (λx=>x) λy=>Empty.elim y else g ())))) else e c)
def Pl(x0:an)(c:(Bool×aa×Int×aq×Int×Int)->Option (bo an (Bool×an)))(b:(Bool×aa×Int×aq×Int×Int)->Option (bo an (Bool×an))):(Bool×aa×Int×aq×Int×Int)->Option (bo an (Bool×an)):=λ(d,e,f,a,g,h)=>
 (ba (lU (e,f,a,g,x0.2.2.2.2.1,h)) (λx=>(x.1,x.2.1,a,x.2.2.2.1,x0.2.2.2.2.1,x.2.2.2.2.2)) λ(i,y23)=>(bif(decide (i.1=1)) then(a9 (λ(j:Int)=>b (true,y23.1,j,([]:aq),y23.2.2.2.1,y23.2.2.2.2.2)) λk=>(a9 (λ(l:Int)=>k l) λm=>(fixF (Bq x0 a y23 m) bC (0,(W (y23.2.1+1)))))) else c (d,y23.1,y23.2.1,a,y23.2.2.2.1,y23.2.2.2.2.2)))
def k3(x0:an):Option (bo an (Bool×an)):=
 (a9 (λ((a,b,c,d,e,f):Bool×aa×Int×aq×Int×Int)=>some (.inr (a,(b,c,d,e,x0.2.2.2.2.1,f)))) λg=>(fixF (Pl x0 g) bC (false,x0.1,x0.2.1,x0.2.2.1,x0.2.2.2.1,x0.2.2.2.2.2)))
theorem tT{x0:an}{a2:bL}{Q:bt}{r:bo an (Bool×an)}(h:k3 x0=some r):
  iZ Tryz.prog 38 [.pointer a2] [] (ee a2 x0 Q) (λr (q:bt)=>ju 39 r λr=> .bool r.1) (λr q=>ee a2 (l7 r) q) r:=
 by
  refine V.jU (T:=ck) Tryz.call38 Tryz.func38 U λ_ _=>?_;unfold k3 at h;refine V.c8 ab 9 0 h (ρ:=bL×Nat) (λs q=>[(3,.v (.bool s.1))]) .nil (λs q=>[rS q.1 s.2.2.2.1 q.2,i_ a2 (s.2.1,s.2.2.1,s.2.2.2.1,s.2.2.2.2.1,x0.2.2.2.2.1,s.2.2.2.2.2) (q.1,q.2,Q.2.2),hY Q.2.2.1 x0.2.2.2.2.1 Q.2.2.2]) U ?_ ?_
  ·intro o _ h;refine V.e7 ab 0 0 h (ρ:=bL×Nat) (λs q=>[(0,.bj ⟨a2,1,1⟩ 0),(3,.v (.bool s.1))]) .nil (λs q=>[rS q.1 s.2.2.2.1 q.2,i_ a2 (s.2.1,s.2.2.1,s.2.2.2.1,s.2.2.2.2.1,x0.2.2.2.2.1,s.2.2.2.2.2) (q.1,q.2,Q.2.2),hY Q.2.2.1 x0.2.2.2.2.1 Q.2.2.2]) (Q.1,Q.2.1) [1,0,2] U ?_;rintro k ⟨p,t,u,a,v,w⟩ ⟨b,c⟩ h;rw[Pl] at h;refine V.cp ab 4 0 h (qz (Q:=(b,c,Q.2.2))) [1] [] (λ_=>(b,c,Q.2.2)) [0,0,0] U a6 a6 ?_;rintro⟨x,y23⟩ _ h;refine V.co ab 3 0 h U (λh=>?_) (λh=>?_)
   ·refine V.c8 ab 1 0 h (ρ:=Unit) (λs q=>[(0,.bj ⟨a2,1,1⟩ 0),(3,.v (.bool true))]) .nil (λs q=>[⟨(.pair .str (.pair (.int .i64) (.pair .val (.pair (.int .i64) (.pair .val (.int .i64)))))),⟨a2,1,1⟩,[(y23.1,s,(bA.v ⟨none,0,0⟩),y23.2.2.2.1,(bA.v ⟨Q.2.2.1,x0.2.2.2.2.1.length,Q.2.2.2⟩),y23.2.2.2.2.2)]⟩,hY Q.2.2.1 x0.2.2.2.2.1 Q.2.2.2]) U ?_ ?_
    ·intro z _ h;refine V.c8 ab 25 0 h (ρ:=Unit) (λs q=>[(0,.bj ⟨a2,1,1⟩ 0),(3,.v (.bool true))]) .nil (λs q=>ee a2 (y23.1,s,a,y23.2.2.2.1,x0.2.2.2.2.1,y23.2.2.2.2.2) (b,c,Q.2.2)) ⟨U,U,U,U,U,U,U,U,U,U⟩ ?_ ?_
     ·intro A _ h;refine V.e7 ab 0 0 h (ρ:=Unit) (λs q=>[(0,.bj ⟨a2,1,1⟩ 0),(3,.v (.bool true)),(21,.v (.slice b a.length c)),(22,.v (.int .i64 (a.length:Int))),(23,.v (.int .i64 s.1))]) .nil (λs q=>ee a2 (y23.1,s.2,a,y23.2.2.2.1,x0.2.2.2.2.1,y23.2.2.2.2.2) (b,c,Q.2.2)) () [0,1,2] U ?_;rintro l ⟨d,m⟩ _ h;rw[Bq] at h;refine V.co ab 5 0 h U (λh=>?_) (λh=>?_)
      ·refine V.go ab 5 0 U ?_;refine V.cl (aJ.iY 1 U λe=>V.cz ?_);obtain⟨j,h⟩:=bG h;refine V.go ab 1 0 ⟨e.ix j,U⟩ ?_;refine V.cl (aJ.kG ab U U U U U U 1 U U (Int.toNat d) 0 (at' a d) ⟨mN j,U⟩ U U U (V.cz ?_));refine V.cl (aJ.oz ab 2 [] [35] [(5,.eU 35 0)] (.new 35 78 [.string (a7 (at' a d).1),.bool (at' a d).2] .nil) U ⟨⟨U,trivial⟩,(jk U U)⟩ (V.cz ?_));refine V.jl ab 2 0 U (by kernel_rfl) ?_;refine V.go ab 12 0 ⟨U,U,U,U,U,U,U⟩ ?_;obtain⟨n,f,h⟩:=jP h;refine V.toQ (kX.call U U U U (aeL f) U [] U U (V.sU ?_));refine V.e6 ab 2 0 h (ρ:=Unit) (λs q=>[(0,.bj ⟨a2,1,1⟩ 0),(3,.v (.bool true)),(6,.v (.int .i64 n)),(21,.v (.slice b a.length c)),(22,.v (.int .i64 (a.length:Int))),(23,.v (.int .i64 d))]) .nil (λs q=>ee a2 (y23.1,m,a,y23.2.2.2.1,x0.2.2.2.2.1,y23.2.2.2.2.2) (b,c,Q.2.2)) U ?_ ?_
       ·intro B _ h;refine V.co ab 5 0 h U (λh=>?_) (λh=>?_)
        ·refine V.cp ab 2 0 h (G1 (Q:=(b,c,Q.2.2))) [0,0,0] [] id [0,0,0] U a6 a6 λy _ _=>y.elim
        exact V.a5 ab 1 0 h () [0,1,2] U
       rintro _ _ h
       try dsimp only at h
       exact V.el ab 12 0 h () [0,1,2] ⟨U,U,U,U⟩
      exact V.a5 ab 1 0 h () [0,1,2] U
     rintro C _ h
     try dsimp only at h
     exact V.a5 ab 7 0 h () [0,2] ⟨U,U,U,U⟩
    rintro D _ h;refine V.jT (aR.pV (.pair .str .bool) bA.nil U U (V.iA ?_))
    try dsimp only at h
    exact V.el ab 0 0 h (none,0) [0,1,2] U
   exact V.a5 ab 1 0 h (b,c) [1,0,2] U
  rintro⟨E,F,G,H,I,J⟩ ⟨g,i⟩ h;cases h;exact V.jR ab 5 0 (g,i,Q.2.2) [1,0,0] U
def pa(x0:an)(c:aa):Option (bo an (Bool×an)):=
 (ba (lU x0) (λx=>x) λ(b,a)=>some (.inr ((bif(bif(decide (b.1=3)) then b.2.2 else false) then(decide (b.2.1=c)) else false),(a.1,a.2.1,x0.2.2.1,a.2.2.2.1,x0.2.2.2.2.1,a.2.2.2.2.2))))
theorem pc{x0:an}{b:aa}{a3:bL}{Q:bt}{r:bo an (Bool×an)}(h:pa x0 b=some r):
  iZ Tryz.prog 58 [.pointer a3,.string (a7 b)] [] [i_ a3 x0 Q] (λr (_:Unit)=>ju 39 r λr=> .bool r.1) (λr _=>[i_ a3 ((l7 r).1,(l7 r).2.1,x0.2.2.1,(l7 r).2.2.2.1,x0.2.2.2.2.1,(l7 r).2.2.2.2.2) Q]) r:=
 by refine V.jU (T:=ck) Tryz.call58 Tryz.func58 U λ_ _=>?_;unfold pa at h;refine V.cp ab 7 0 h qz [0] [] (λ_=>()) [0] U a6 a6 ?_;rintro⟨a,c⟩ _ h;refine V.cl (aJ.oz ab 2 [] [8] [(5,.eU 8 0)] (.new 8 65 [.int .i64 a.1,.string (a7 a.2.1),.bool a.2.2] .nil) U ⟨⟨U,trivial⟩,(jk U U)⟩ (V.cz ?_));cases h;exact V.jR ab 18 0 () [0] U
def na(x0:an)(c:aa):Option (bo an (Bool×an)):=
 (ba (lU x0) (λx=>x) λ(b,a)=>some (.inr ((bif(decide (b.1=2)) then(decide (b.2.1=c)) else false),(a.1,a.2.1,x0.2.2.1,a.2.2.2.1,x0.2.2.2.2.1,a.2.2.2.2.2))))
theorem p1{x0:an}{b:aa}{a3:bL}{Q:bt}{r:bo an (Bool×an)}(h:na x0 b=some r):
  iZ Tryz.prog 41 [.pointer a3,.string (a7 b)] [] [i_ a3 x0 Q] (λr (_:Unit)=>ju 39 r λr=> .bool r.1) (λr _=>[i_ a3 ((l7 r).1,(l7 r).2.1,x0.2.2.1,(l7 r).2.2.2.1,x0.2.2.2.2.1,(l7 r).2.2.2.2.2) Q]) r:=
 by refine V.jU (T:=ck) Tryz.call41 Tryz.func41 U λ_ _=>?_;unfold na at h;refine V.cp ab 7 0 h qz [0] [] (λ_=>()) [0] U a6 a6 ?_;rintro⟨a,c⟩ _ h;refine V.cl (aJ.oz ab 2 [] [8] [(5,.eU 8 0)] (.new 8 65 [.int .i64 a.1,.string (a7 a.2.1),.bool a.2.2] .nil) U ⟨⟨U,trivial⟩,(jk U U)⟩ (V.cz ?_));cases h;exact V.jR ab 14 0 () [0] U
def DL(x0:an)(a:Int):Option (bo an (Bool×an)):=
 (bif(decide (a=0)) then(ba (lU x0) (λx=>x) λ(q,e)=>some (.inr ((decide (q.1=0)),(e.1,e.2.1,x0.2.2.1,e.2.2.2.1,x0.2.2.2.2.1,e.2.2.2.2.2)))) else(bif(decide (a=1)) then(ba (na x0 ([41]:aa)) (λx=>x) λ(r,f)=>some (.inr (r,(f.1,f.2.1,x0.2.2.1,f.2.2.2.1,x0.2.2.2.2.1,f.2.2.2.2.2)))) else(bif(decide (a=2)) then(ba (pa x0 ([125]:aa)) (λx=>x) λ(s,g)=>some (.inr (s,(g.1,g.2.1,x0.2.2.1,g.2.2.2.1,x0.2.2.2.2.1,g.2.2.2.2.2)))) else(bif(decide (a=3)) then(ba (pa x0 ([116,104,101,110]:aa)) (λx=>x) λ(t,h)=>some (.inr (t,(h.1,h.2.1,x0.2.2.1,h.2.2.2.1,x0.2.2.2.2.1,h.2.2.2.2.2)))) else(bif(decide (a=4)) then(ba (pa x0 ([101,108,105,102]:aa)) (λx=>x) λ(n,b)=>(m8 (n=false) (pa (b.1,b.2.1,x0.2.2.1,b.2.2.2.1,x0.2.2.2.2.1,b.2.2.2.2.2) ([101,108,115,101]:aa)) (λx=>x) (false,(b.1,b.2.1,x0.2.2.1,b.2.2.2.1,x0.2.2.2.2.1,b.2.2.2.2.2)) λ(o,c)=>(m8 ((bif n then true else o)=false) (pa (c.1,c.2.1,x0.2.2.1,c.2.2.2.1,x0.2.2.2.2.1,c.2.2.2.2.2) ([102,105]:aa)) (λx=>x) (false,(c.1,c.2.1,x0.2.2.1,c.2.2.2.1,x0.2.2.2.2.1,c.2.2.2.2.2)) λ(u,i)=>some (.inr ((bif(bif n then true else o) then true else u),(i.1,i.2.1,x0.2.2.1,i.2.2.2.1,x0.2.2.2.2.1,i.2.2.2.2.2)))))) else(bif(decide (a=5)) then(ba (pa x0 ([102,105]:aa)) (λx=>x) λ(v,j)=>some (.inr (v,(j.1,j.2.1,x0.2.2.1,j.2.2.2.1,x0.2.2.2.2.1,j.2.2.2.2.2)))) else(bif(decide (a=6)) then(ba (pa x0 ([100,111]:aa)) (λx=>x) λ(w,k)=>some (.inr (w,(k.1,k.2.1,x0.2.2.1,k.2.2.2.1,x0.2.2.2.2.1,k.2.2.2.2.2)))) else(bif(decide (a=7)) then(ba (pa x0 ([100,111,110,101]:aa)) (λx=>x) λ(y,l)=>some (.inr (y,(l.1,l.2.1,x0.2.2.1,l.2.2.2.1,x0.2.2.2.2.1,l.2.2.2.2.2)))) else(ba (na x0 ([59,59]:aa)) (λx=>x) λ(p,d)=>(m8 (p=false) (pa (d.1,d.2.1,x0.2.2.1,d.2.2.2.1,x0.2.2.2.2.1,d.2.2.2.2.2) ([101,115,97,99]:aa)) (λx=>x) (false,(d.1,d.2.1,x0.2.2.1,d.2.2.2.1,x0.2.2.2.2.1,d.2.2.2.2.2)) λ(z,m)=>some (.inr ((bif p then true else z),(m.1,m.2.1,x0.2.2.1,m.2.2.2.1,x0.2.2.2.2.1,m.2.2.2.2.2)))))))))))))
theorem Kp{x0:an}{l:Int}{a3:bL}{Q:bt}{r:bo an (Bool×an)}(h:DL x0 l=some r):
  iZ Tryz.prog 39 [.pointer a3,.int .i64 l] [] [i_ a3 x0 Q] (λr (_:Unit)=>ju 39 r λr=> .bool r.1) (λr _=>[i_ a3 ((l7 r).1,(l7 r).2.1,x0.2.2.1,(l7 r).2.2.2.1,x0.2.2.2.2.1,(l7 r).2.2.2.2.2) Q]) r:=
 by
  refine V.jU (T:=ck) Tryz.call39 Tryz.func39 U λ_ _=>?_;unfold DL at h;refine V.co ab 15 0 h U (λh=>?_) (λh=>?_)
  ·refine V.cp ab 3 0 h qz [0] [] (λ_=>()) [0] U a6 a6 ?_;rintro⟨y,z⟩ _ h;cases h;exact V.jR ab 4 0 () [0] U
  refine V.co ab 5 0 h U (λh=>?_) (λh=>?_)
  ·refine V.cp ab 3 0 h p1 [0] [] (λ_=>()) [0] U a6 a6 ?_;rintro⟨A,B⟩ _ h;cases h;exact V.jR ab 2 0 () [0] U
  refine V.co ab 5 0 h U (λh=>?_) (λh=>?_)
  ·refine V.cp ab 3 0 h pc [0] [] (λ_=>()) [0] U a6 a6 ?_;rintro⟨C,D⟩ _ h;cases h;exact V.jR ab 2 0 () [0] U
  refine V.co ab 5 0 h U (λh=>?_) (λh=>?_)
  ·refine V.cp ab 3 0 h pc [0] [] (λ_=>()) [0] U a6 a6 ?_;rintro⟨E,F⟩ _ h;cases h;exact V.jR ab 2 0 () [0] U
  refine V.co ab 5 0 h U (λh=>?_) (λh=>?_)
  ·refine V.cp ab 3 0 h pc [0] [] (λ_=>()) [0] U a6 a6 ?_;rintro⟨G,H⟩ _ h;refine V.go ab 2 0 U ?_;rcases zp h with⟨a,I,b,rfl⟩|⟨⟨J,K⟩,b,m,h⟩
   ·exact V.cl (aJ.zq U U U ⟨a,trivial⟩ (pc b) U [0] U [] U (λ_=>U) (λs _=>⟨(),trivial,U,[0],_,U⟩))
   refine V.cl (aJ.zo U U U U (λc=>o_.ret (pc (b c)) (λ_=>U)) U [0] U [] U U () (λn=>by cases m (λo=>n ⟨o,trivial⟩);rfl) λ_ _=>V.cz ?_);refine V.go ab 3 0 U ?_;rcases zp h with⟨d,p,e,rfl⟩|⟨⟨L,M⟩,e,f,h⟩
   ·exact V.cl (aJ.zq U U U ⟨d,trivial⟩ (pc e) U [0] U [] U (λ_=>U) (λs _=>⟨(),trivial,U,[0],_,U⟩))
   refine V.cl (aJ.zo U U U U (λq=>o_.ret (pc (e q)) (λ_=>U)) U [0] U [] U U () (λt=>by cases f (λu=>t ⟨u,trivial⟩);rfl) λ_ _=>V.cz ?_);cases h;exact V.jR ab 3 0 () [0] U
  refine V.co ab 5 0 h U (λh=>?_) (λh=>?_)
  ·refine V.cp ab 3 0 h pc [0] [] (λ_=>()) [0] U a6 a6 ?_;rintro⟨N,O⟩ _ h;cases h;exact V.jR ab 2 0 () [0] U
  refine V.co ab 5 0 h U (λh=>?_) (λh=>?_)
  ·refine V.cp ab 3 0 h pc [0] [] (λ_=>()) [0] U a6 a6 ?_;rintro⟨P,R⟩ _ h;cases h;exact V.jR ab 2 0 () [0] U
  refine V.co ab 5 0 h U (λh=>?_) (λh=>?_)
  ·refine V.cp ab 3 0 h pc [0] [] (λ_=>()) [0] U a6 a6 ?_;rintro⟨S,W⟩ _ h;cases h;exact V.jR ab 2 0 () [0] U
  refine V.cp ab 5 0 h p1 [0] [] (λ_=>()) [0] U a6 a6 ?_;rintro⟨X,Y⟩ _ h;refine V.go ab 2 0 U ?_;rcases zp h with⟨g,v,i,rfl⟩|⟨⟨Z,G3⟩,i,j,h⟩
  ·exact V.cl (aJ.zq U U U ⟨g,trivial⟩ (pc i) U [0] U [] U (λ_=>U) (λs _=>⟨(),trivial,U,[0],_,U⟩))
  refine V.cl (aJ.zo U U U U (λw=>o_.ret (pc (i w)) (λ_=>U)) U [0] U [] U U () (λk=>by cases j (λx=>k ⟨x,trivial⟩);rfl) λ_ _=>V.cz ?_);cases h;exact V.jR ab 3 0 () [0] U
def Kq(x0:aa)(b:bs)(c:Unit->Option Bool)(d:Int->Option Bool):Int->Option Bool:=λa=>
 (bif(decide (a<(b.length:Int))) then(a8 (0<=a/\a<(b.length:Int))<|(bif(decide ((at' b a)=x0)) then some true else d (W (a+1)))) else c ())
def Bt(x0:aa)(a:aa):Option Bool:=
 (av (DG a ([32]:aa)) λ(b:bs)=>(a9 (λ(_:Unit)=>some false) λc=>(fixF (Kq x0 b c) bC 0)))
theorem Pt{x0:aa}{c:aa}{r:Bool}(h:Bt x0 c=some r):
  FC Tryz.prog 115 [.string (a7 x0),.string (a7 c)] [] (λ_:Unit=>True) (λ_=> .bool r) (λ_=>[]):=
 by
  refine V.fE (T:=ck) Tryz.call115 Tryz.func115 U λ_=>?_;unfold Bt at h;refine V.cI ab 8 0 h Vw [] U ?_;rintro a ⟨d,e⟩ h;refine V.c8 ab 3 0 h (ρ:=Unit) (λs q=>[]) .nil (λs q=>[]) U ?_ ?_
  ·intro j _ h;refine V.e7 ab 0 0 h (ρ:=Unit) (λs q=>[(0,.v (.string (a7 x0))),(8,.v (.slice d a.length e)),(9,.v (.int .i64 (a.length:Int))),(10,.v (.int .i64 s))]) .nil (λs q=>[hY d a e]) () [0] U ?_;rintro i f _ h;rw[Kq] at h;refine V.co ab 5 0 h U (λh=>?_) (λh=>?_)
   ·refine V.go ab 5 0 U ?_;refine V.cl (aJ.iY 0 U λb=>V.cz ?_);obtain⟨g,h⟩:=bG h;refine V.go ab 1 0 ⟨b.ix g,U⟩ ?_;refine V.cl (aJ.load ab U U U U U U U 0 U U (Int.toNat f) 0 (at' a f) ⟨mN g,U⟩ U U (V.cz ?_));refine V.co ab 8 0 h U (λh=>?_) (λh=>?_)
    ·cases h;exact V.rt ab 4 0 () [] U
    exact V.el ab 6 0 h () [0] U
   exact V.a5 ab 1 0 h () [] U
  rintro _ _ h;cases h;exact V.rt ab 4 0 () [] U
def G8(x0:aa):Option Bool:=
 (av (Bt x0 ([105,102,32,119,104,105,108,101,32,117,110,116,105,108,32,102,111,114,32,99,97,115,101,32,123]:aa)) λ(a:Bool)=>some a)
theorem ae1{x0:aa}{r:Bool}(h:G8 x0=some r):
  FC Tryz.prog 106 [.string (a7 x0)] [] (λ_:Unit=>True) (λ_=> .bool r) (λ_=>[]):=
 by refine V.fE (T:=ck) Tryz.call106 Tryz.func106 U λ_=>?_;unfold G8 at h;refine V.cI ab 7 0 h Pt [] U λa _ h=>?_;cases h;exact V.rt ab 2 0 () [] U
def DM(x0:an):Option (bo an (Bool×an)):=
 (ba (lU x0) (λx=>x) λ(a,b)=>(cR ((bif(decide (a.1=3)) then a.2.2 else false)=true/\(bif(decide (a.1=2)) then(decide (a.2.1=([40]:aa))) else false)=false) (G8 a.2.1) false λ(c:Bool)=>some (.inr ((bif(bif(decide (a.1=2)) then(decide (a.2.1=([40]:aa))) else false) then true else(bif(bif(decide (a.1=3)) then a.2.2 else false) then c else false)),(b.1,b.2.1,x0.2.2.1,b.2.2.2.1,x0.2.2.2.2.1,b.2.2.2.2.2)))))
theorem VD{x0:an}{a2:bL}{Q:bt}{r:bo an (Bool×an)}(h:DM x0=some r):
  iZ Tryz.prog 86 [.pointer a2] [] [i_ a2 x0 Q] (λr (_:Unit)=>ju 39 r λr=> .bool r.1) (λr _=>[i_ a2 ((l7 r).1,(l7 r).2.1,x0.2.2.1,(l7 r).2.2.2.1,x0.2.2.2.2.1,(l7 r).2.2.2.2.2) Q]) r:=
 by refine V.jU (T:=ck) Tryz.call86 Tryz.func86 U λ_ _=>?_;unfold DM at h;refine V.cp ab 7 0 h qz [0] [] (λ_=>()) [0] U a6 a6 ?_;rintro⟨a,d⟩ _ h;refine V.cl (aJ.oz ab 2 [] [8] [(3,.eU 8 0)] (.new 8 65 [.int .i64 a.1,.string (a7 a.2.1),.bool a.2.2] .nil) U ⟨⟨U,trivial⟩,(jk U U)⟩ (V.cz ?_));refine V.hX ab 22 0 h ae1 [] U (λ_ F b c=>F ⟨b,c⟩) λe h=>?_;cases h;exact V.jR ab 4 0 () [0] U
def xZ(x0:an)(a:Int):Option (bo an Empty):=
 some (.inl (2,a,x0))
theorem Bu{x0:an}{b:Int}{a3:bL}{Q:bt}{r:bo an Empty}(h:xZ x0 b=some r):
  iZ Tryz.prog 64 [.pointer a3,.int .i64 b] [] [i_ a3 x0 Q] (λr (_:Unit)=>ju 39 r λr=> .tuple #[]) (λr _=>[i_ a3 ((sT r).1,(sT r).2.1,x0.2.2.1,(sT r).2.2.2.1,x0.2.2.2.2.1,(sT r).2.2.2.2.2) Q]) r:=
 by refine V.jU (T:=ck) Tryz.call64 Tryz.func64 U λ_ _=>?_;unfold xZ at h;refine V.go ab 3 0 U ?_;refine V.cl (aJ.Vc ab U U U U U U U U (V.cz ?_));cases h;exact V.cl (aJ.panic U U U (λa h w=>Vd U a h w) () trivial U [0] U)
def x1(x0:an)(b:Int)(a:aa):Option (bo an an):=
 (a9 (λ(_:Unit)=>(a8 (x0.2.2.2.2.1.length+([a]:bs).length<=536870912)<|some (.inr (x0.1,x0.2.1,x0.2.2.1,(W (x0.2.2.2.1+1)),(x0.2.2.2.2.1++([a]:bs)),x0.2.2.2.2.2)))) λc=>(bif(decide (x0.2.2.2.1=30)) then ba (xZ x0 b) (λx=>(x.1,x.2.1,x0.2.2.1,x.2.2.2.1,x0.2.2.2.2.1,x.2.2.2.2.2)) λy=>Empty.elim y else c ()))
theorem Kr{x0:an}{c:Int}{b:aa}{a:bL}{Q:bt}{r:bo an an}(h:x1 x0 c b=some r):
  iZ Tryz.prog 107 [.pointer a,.int .i64 c,.string (a7 b)] [] (ee a x0 Q) (λr (q:bt)=>ju 39 r λr=> .tuple #[]) (λr q=>ee a (jS r) q) r:=
 by
  refine V.jU (T:=ck) Tryz.call107 Tryz.func107 U λ_ _=>?_;unfold x1 at h;refine V.e6 ab 0 0 h (ρ:=Unit) (λs q=>[(0,.bj ⟨a,1,1⟩ 0),(2,.v (.string (a7 b)))]) .nil (λs q=>ee a x0 Q) U ?_ ?_
  ·intro g _ h;refine V.co ab 8 0 h ⟨U,U,U,U⟩ (λh=>?_) (λh=>?_)
   ·refine V.cp ab 3 0 h Bu [0] [] (λ_=>Q) [0,0,0] U a6 a6 λy _ _=>y.elim
   exact V.a5 ab 1 0 h () [0,1,2] U
  rintro _ _ h;refine V.go ab 18 0 ⟨U,U,U,U,U,U,U,U,U,U⟩ ?_;refine V.cl (aJ.kt U (cK.buildSlice ab U U U U U U U U U U U [] U .str [b] ⟨U,U⟩ U U λi=>aJ.ku (V.cz ?_)));obtain⟨d,h⟩:=bG h;refine V.cl (aJ.qw ab U U U U ⟨U,U,U,U,trivial,U,U,U,U⟩ U U U [3] U 0 U d U λe f=>V.cz ?_);cases h;exact V.oC ab 4 2 (Q.1,Q.2.1,e,f) [0,2,0] ⟨U,U,U,U⟩
def ky(x0:an):Option (bo an Empty):=
 (a9 (λ((c,b,d,e):aa×Int×Int×Int)=>ba (xZ (c,b,x0.2.2.1,d,x0.2.2.2.2.1,e) b) (λx=>x) λy=>Empty.elim y) λf=>(ba (lU x0) (λx=>x) λ(g,a)=>(bif(decide (g.1=0)) then ba (q6 (a.1,a.2.1,x0.2.2.1,a.2.2.2.1,x0.2.2.2.2.1,a.2.2.2.2.2)) (λx=>x) λy=>Empty.elim y else f (a.1,a.2.1,a.2.2.2.1,a.2.2.2.2.2))))
theorem wE{x0:an}{a2:bL}{Q:bt}{r:bo an Empty}(h:ky x0=some r):
  iZ Tryz.prog 43 [.pointer a2] [] [i_ a2 x0 Q] (λr (_:Unit)=>ju 39 r λr=> .tuple #[]) (λr _=>[i_ a2 ((sT r).1,(sT r).2.1,x0.2.2.1,(sT r).2.2.2.1,x0.2.2.2.2.1,(sT r).2.2.2.2.2) Q]) r:=
 by
  refine V.jU (T:=ck) Tryz.call43 Tryz.func43 U λ_ _=>?_;unfold ky at h;refine V.e6 ab 0 0 h (ρ:=Unit) (λs q=>[(0,.bj ⟨a2,1,1⟩ 0)]) .nil (λs q=>[i_ a2 (s.1,s.2.1,x0.2.2.1,s.2.2.1,x0.2.2.2.2.1,s.2.2.2) Q]) U ?_ ?_
  ·intro a _ h;refine V.cp ab 3 0 h qz [0] [] (λ_=>()) [0] U a6 a6 ?_;rintro⟨b,c⟩ _ h;refine V.co ab 3 0 h U (λh=>?_) (λh=>?_)
   ·refine V.cp ab 2 0 h DB [0] [] (λ_=>()) [0] U a6 a6 λy _ _=>y.elim
   exact V.a5 ab 1 0 h () [0] U
  rintro⟨d,e,f,g⟩ _ h;refine V.cp ab 6 0 h Bu [0] [] (λ_=>()) [0] ⟨U,U,U,U⟩ a6 a6 λy _ _=>y.elim
def nb(x0:an)(b:aa):Option (bo an an):=
 (a9 (λ((c,d,e,f):aa×Int×Int×Int)=>some (.inr (c,(W (d+(b.length:Int))),x0.2.2.1,e,x0.2.2.2.2.1,f))) λg=>(ba (pa x0 b) (λx=>x) λ(h,a)=>(bif(!h) then ba (ky (a.1,a.2.1,x0.2.2.1,a.2.2.2.1,x0.2.2.2.2.1,a.2.2.2.2.2)) (λx=>x) λy=>Empty.elim y else g (a.1,a.2.1,a.2.2.2.1,a.2.2.2.2.2))))
theorem wF{x0:an}{a:aa}{a3:bL}{Q:bt}{r:bo an an}(h:nb x0 a=some r):
  iZ Tryz.prog 109 [.pointer a3,.string (a7 a)] [] [i_ a3 x0 Q] (λr (_:Unit)=>ju 39 r λr=> .tuple #[]) (λr _=>[i_ a3 ((jS r).1,(jS r).2.1,x0.2.2.1,(jS r).2.2.2.1,x0.2.2.2.2.1,(jS r).2.2.2.2.2) Q]) r:=
 by
  refine V.jU (T:=ck) Tryz.call109 Tryz.func109 U λ_ _=>?_;unfold nb at h;refine V.e6 ab 0 0 h (ρ:=Unit) (λs q=>[(0,.bj ⟨a3,1,1⟩ 0),(1,.v (.string (a7 a)))]) .nil (λs q=>[i_ a3 (s.1,s.2.1,x0.2.2.1,s.2.2.1,x0.2.2.2.2.1,s.2.2.2) Q]) U ?_ ?_
  ·intro b _ h;refine V.cp ab 4 0 h pc [0] [] (λ_=>()) [0] U a6 a6 ?_;rintro⟨c,d⟩ _ h;refine V.co ab 2 0 h U (λh=>?_) (λh=>?_)
   ·refine V.cp ab 2 0 h wE [0] [] (λ_=>()) [0] U a6 a6 λy _ _=>y.elim
   exact V.a5 ab 1 0 h () [0] U
  rintro⟨e,f,g,i⟩ _ h;cases h;exact V.oC ab 12 0 () [0] ⟨U,U,U,U,U,U,U⟩
def sY(R:bh)(x0:an):Option (bo an an):=
 (ba (nb x0 ([100,111]:aa)) (λx=>(x.1,x.2.1,x0.2.2.1,x.2.2.2.1,x0.2.2.2.2.1,x.2.2.2.2.2)) λ(b:an)=>(ba (R.kg (b.1,b.2.1,x0.2.2.1,b.2.2.2.1,x0.2.2.2.2.1,b.2.2.2.2.2) 7 false) (λx=>x) λ(d,a)=>(ba (nb a ([100,111,110,101]:aa)) (λx=>(x.1,x.2.1,a.2.2.1,x.2.2.2.1,a.2.2.2.2.1,x.2.2.2.2.2)) λ(c:an)=>some (.inr (c.1,c.2.1,a.2.2.1,c.2.2.2.1,a.2.2.2.2.1,c.2.2.2.2.2)))))
theorem Pu{R:bh}(b:hZ R){x0:an}{a2:bL}{Q:bt}{r:bo an an}(h:sY R x0=some r):
  iZ Tryz.prog 113 [.pointer a2] [] (ee a2 x0 Q) (λr (q:bt)=>ju 39 r λr=> .tuple #[]) (λr q=>ee a2 (jS r) q) r:=
 by refine V.jU (T:=ck) Tryz.call113 Tryz.func113 U λ_ _=>?_;unfold sY at h;refine V.cp ab 3 0 h wF [0] [] (λ_=>Q) [0,0,0] U a6 a6 λc _ h=>?_;refine V.cp ab 4 0 h b.kg [0,0,0] [] id [0,0,0] U a6 a6 ?_;rintro⟨d,e⟩ a h;refine V.cp ab 3 0 h wF [0] [] (λ_=>a) [0,0,0] U a6 a6 λf _ h=>?_;cases h;exact V.oC ab 1 0 a [0,0,0] U
def rV(x0:an)(b:aa):Option (bo an an):=
 (a9 (λ((c,d,e,f):aa×Int×Int×Int)=>some (.inr (c,(W (d+(b.length:Int))),x0.2.2.1,e,x0.2.2.2.2.1,f))) λg=>(ba (na x0 b) (λx=>x) λ(h,a)=>(bif(!h) then ba (ky (a.1,a.2.1,x0.2.2.1,a.2.2.2.1,x0.2.2.2.2.1,a.2.2.2.2.2)) (λx=>x) λy=>Empty.elim y else g (a.1,a.2.1,a.2.2.2.1,a.2.2.2.2.2))))
theorem Kt{x0:an}{a:aa}{a3:bL}{Q:bt}{r:bo an an}(h:rV x0 a=some r):
  iZ Tryz.prog 108 [.pointer a3,.string (a7 a)] [] [i_ a3 x0 Q] (λr (_:Unit)=>ju 39 r λr=> .tuple #[]) (λr _=>[i_ a3 ((jS r).1,(jS r).2.1,x0.2.2.1,(jS r).2.2.2.1,x0.2.2.2.2.1,(jS r).2.2.2.2.2) Q]) r:=
 by
  refine V.jU (T:=ck) Tryz.call108 Tryz.func108 U λ_ _=>?_;unfold rV at h;refine V.e6 ab 0 0 h (ρ:=Unit) (λs q=>[(0,.bj ⟨a3,1,1⟩ 0),(1,.v (.string (a7 a)))]) .nil (λs q=>[i_ a3 (s.1,s.2.1,x0.2.2.1,s.2.2.1,x0.2.2.2.2.1,s.2.2.2) Q]) U ?_ ?_
  ·intro b _ h;refine V.cp ab 4 0 h p1 [0] [] (λ_=>()) [0] U a6 a6 ?_;rintro⟨c,d⟩ _ h;refine V.co ab 2 0 h U (λh=>?_) (λh=>?_)
   ·refine V.cp ab 2 0 h wE [0] [] (λ_=>()) [0] U a6 a6 λy _ _=>y.elim
   exact V.a5 ab 1 0 h () [0] U
  rintro⟨e,f,g,i⟩ _ h;cases h;exact V.oC ab 12 0 () [0] ⟨U,U,U,U,U,U,U⟩
def tV(x0:an):Option an:=
 (a8 (0<=(0:Int)/\(0:Int)<=(W ((x0.2.2.2.2.1.length:Int)-1))/\(W ((x0.2.2.2.2.1.length:Int)-1))<=(x0.2.2.2.2.1.length:Int))<|some (x0.1,x0.2.1,x0.2.2.1,(W (x0.2.2.2.1-1)),(b9 x0.2.2.2.2.1 0 (W ((x0.2.2.2.2.1.length:Int)-1))),x0.2.2.2.2.2))
theorem Ku{x0:an}{a2:bL}{Q:bt}{r:an}(h:tV x0=some r):
  gI Tryz.prog 114 [.pointer a2] [] (ee a2 x0 Q) (λ_:bt=>True) (λq=> .tuple #[]) (λq=>ee a2 r q):=
 by refine V.jm (T:=ck) Tryz.call114 Tryz.func114 U λ_ _=>?_;unfold tV at h;refine V.go ab 2 0 U ?_;refine V.cl (aJ.iY 0 U λa=>V.cz ?_);obtain⟨d,h⟩:=bG h;refine V.go ab 9 0 ⟨U,U,U,U,U,U,U⟩ ?_;refine V.jT (aR.rQ U .nil [0] [11,12,13,14] trivial U (λe=>?_));refine bE.o9 ab gh 13 [0,5] U (by kernel_rfl) [] [(9,.bj ⟨a2,1,1⟩ 0),(14,.bj ⟨a2,1,1⟩ 0)] U (fD U) (bE.eE ab gh true 8 [1,2,3,6,7] U (by kernel_rfl) [] [(12,.bj ⟨a2,1,1⟩ 4),(16,.bj ⟨a2,1,1⟩ 4)] trivial [0] U U ⟨(a.fQ fR).1,a.fQ fR,(a.fQ fR).1,a.fQ fR,(fD U)⟩ (bE.kG ab gh 4 U (by kernel_rfl) U U U U U 0 U U 0 4 (x0.1,x0.2.1,(bA.v ⟨Q.1,x0.2.2.1.length,Q.2.1⟩),(W (x0.2.2.2.1-1)),(bA.v ⟨Q.2.2.1,x0.2.2.2.2.1.length,Q.2.2.2⟩),x0.2.2.2.2.2) ⟨U,U⟩ U U U trivial [0] U (bE.kG ab gh 8 U (by kernel_rfl) U U U U U 0 U U 0 4 (x0.1,x0.2.1,(bA.v ⟨Q.1,x0.2.2.1.length,Q.2.1⟩),(W (x0.2.2.2.1-1)),(bA.v ⟨Q.2.2.1,x0.2.2.2.2.1.length,Q.2.2.2⟩),x0.2.2.2.2.2) ⟨U,U⟩ U U U trivial [0] U (bE.eE ab gh true 4 [9,10] U (by kernel_rfl) [(W ((x0.2.2.2.2.1.length:Int)-1))] [(19,.v (.int .i64 (W ((x0.2.2.2.2.1.length:Int)-1))))] trivial [0] U U ⟨⟨trivial,U⟩,⟨U,trivial⟩⟩ (bE.one 11 (by kernel_rfl) (cK.GD ab U U U U U U U U [2] U (0:Int) (W ((x0.2.2.2.2.1.length:Int)-1)) U U d U λb c=>bE.nC U (bE.o9 ab gh 1 [12,13] U (by kernel_rfl) [] [(22,.bj ⟨a2,1,1⟩ 4)] U ⟨(a.fQ fR).1,a.fQ fR,⟨U,trivial⟩⟩ (bE.one 14 (by kernel_rfl) (cK.qv ab U U U U U U U U U [1] (fs:=[]) U 0 4 (x0.1,x0.2.1,(bA.v ⟨Q.1,x0.2.2.1.length,Q.2.1⟩),(W (x0.2.2.2.1-1)),(bA.v ⟨Q.2.2.1,x0.2.2.2.2.1.length,Q.2.2.2⟩),x0.2.2.2.2.2) (x0.1,x0.2.1,(bA.v ⟨Q.1,x0.2.2.1.length,Q.2.1⟩),(W (x0.2.2.2.1-1)),(bA.v ⟨b,(b9 x0.2.2.2.2.1 0 (W ((x0.2.2.2.2.1.length:Int)-1))).length,c⟩),x0.2.2.2.2.2) ⟨U,U⟩ ⟨⟨⟨⟨⟨⟨U,U,U,U⟩,U⟩,U⟩,U⟩,U⟩,U⟩ (bE.nC U (bE.done (by kernel_rfl) (aR.boxes (B':= .nil) trivial (V.iA ?_)))))))))))));cases h;exact V.jD ab 0 0 (Q.1,Q.2.1,b,c) [0,1,0] U
def Bv(x0:aa)(e:Int->Option (Int×Int))(f:(Int×Int)->Option (Int×Int)):(Int×Int)->Option (Int×Int):=λ(b,a)=>
 (bif(decide (a<(x0.length:Int))) then(a8 (0<=a/\a<(x0.length:Int))<|(a9 (λ(g:Int)=>f (g,(W (a+1)))) λc=>(bif(decide (((at' x0 a).toNat:Int)=(40:Int))) then c (W (b+1)) else(bif(decide (((at' x0 a).toNat:Int)=(41:Int))) then(bif(decide (0<b)) then c (W (b-1)) else(bif(decide ((W (a+1))=(x0.length:Int))) then some ((-1),1) else(a8 (0<=(W (a+1))/\(W (a+1))<(x0.length:Int))<|(bif(decide (((at' x0 (W (a+1))).toNat:Int)=(41:Int))) then some ((W (a+2)),0) else some ((-2),a))))) else(a9 (λ(h:Bool)=>(bif h then some ((-2),a) else(bif(decide (((at' x0 a).toNat:Int)=(36:Int))) then(a8 (((decide ((W (a+1))<(x0.length:Int)))=true)->0<=(W (a+1))/\(W (a+1))<(x0.length:Int))<|(a8 (((decide (((at' x0 (W (a+1))).toNat:Int)=(40:Int)))=false)->((decide ((W (a+1))<(x0.length:Int)))=true)->0<=(W (a+1))/\(W (a+1))<(x0.length:Int))<|(bif(bif(decide ((W (a+1))<(x0.length:Int))) then(bif(decide (((at' x0 (W (a+1))).toNat:Int)=(40:Int))) then true else(decide (((at' x0 (W (a+1))).toNat:Int)=(123:Int)))) else false) then some ((-2),a) else c b))) else c b))) λd=>(bif(decide (((at' x0 a).toNat:Int)=(39:Int))) then d (decide (((at' x0 a).toNat:Int)=(39:Int))) else(bif(decide (((at' x0 a).toNat:Int)=(34:Int))) then d (decide (((at' x0 a).toNat:Int)=(34:Int))) else(bif(decide (((at' x0 a).toNat:Int)=(92:Int))) then d (decide (((at' x0 a).toNat:Int)=(92:Int))) else d (decide (((at' x0 a).toNat:Int)=(96:Int))))))))))) else e b)
def Bw(x0:aa)(a:Int):Option (Int×Int):=
 (av (wy a (x0.length:Int)) λ(b:Int)=>(a9 (λ(c:Int)=>some ((-1),(W (c+2)))) λd=>(fixF (Bv x0 d) bC (0,b))))
theorem ae3{x0:aa}{b:Int}{r:Int×Int}(h:Bw x0 b=some r):
  FC Tryz.prog 164 [.string (a7 x0),.int .i64 b] [] (λ_:Unit=>True) (λ_=> .tuple #[.int .i64 r.1,.int .i64 r.2]) (λ_=>[]):=
 by
  refine V.fE (T:=ck) Tryz.call164 Tryz.func164 U λ_=>?_;unfold Bw at h;refine V.cI ab 15 0 h Km [] U λi _ h=>?_;refine V.c8 ab 2 0 h (ρ:=Unit) (λs q=>[(6,.v (.int .i64 s))]) .nil (λs q=>[]) U ?_ ?_
  ·intro j _ h;refine V.e7 ab 0 0 h (ρ:=Unit) (λs q=>[(0,.v (.string (a7 x0))),(6,.v (.int .i64 s.1)),(7,.v (.int .i64 s.2))]) .nil (λs q=>[]) () [] U ?_;rintro k ⟨c,a⟩ _ h;rw[Bv] at h;refine V.co ab 8 0 h U (λh=>?_) (λh=>?_)
   ·obtain⟨d,h⟩:=bG h;refine V.c8 ab 9 0 h (ρ:=Unit) (λs q=>[(0,.v (.string (a7 x0))),(6,.v (.int .i64 s)),(7,.v (.int .i64 a))]) .nil (λs q=>[]) ⟨d,U⟩ ?_ ?_
    ·intro l _ h;refine V.co ab 5 0 h U (λh=>?_) (λh=>?_)
     ·exact V.a5 ab 6 0 h () [] U
     refine V.co ab 5 0 h U (λh=>?_) (λh=>?_)
     ·refine V.co ab 7 0 h U (λh=>?_) (λh=>?_)
      ·exact V.a5 ab 7 0 h () [] U
      refine V.co ab 9 0 h U (λh=>?_) (λh=>?_)
      ·cases h;exact V.rt ab 5 0 () [] U
      obtain⟨e,h⟩:=bG h;refine V.co ab 9 0 h ⟨e,U⟩ (λh=>?_) (λh=>?_)
      ·cases h;exact V.rt ab 7 0 () [] U
      cases h;exact V.rt ab 6 0 () [] U
     refine V.e6 ab 0 0 h (ρ:=Unit) (λs q=>[(0,.v (.string (a7 x0))),(6,.v (.int .i64 c)),(7,.v (.int .i64 a)),(20,.v (.int .u8 ((at' x0 a).toNat:Int))),(47,.v (.bool s))]) .nil (λs q=>[]) U ?_ ?_
     ·intro m _ h;refine V.co ab 5 0 h U (λh=>?_) (λh=>?_)
      ·exact V.a5 ab 1 0 h () [] U
      refine V.co ab 5 0 h U (λh=>?_) (λh=>?_)
      ·exact V.a5 ab 1 0 h () [] U
      refine V.co ab 5 0 h U (λh=>?_) (λh=>?_)
      ·exact V.a5 ab 1 0 h () [] U
      exact V.a5 ab 4 0 h () [] U
     rintro n _ h;refine V.co ab 0 0 h U (λh=>?_) (λh=>?_)
     ·cases h;exact V.rt ab 6 0 () [] U
     refine V.co ab 5 0 h U (λh=>?_) (λh=>?_)
     ·obtain⟨f,h⟩:=bG h;obtain⟨g,h⟩:=bG h;refine V.co ab 22 0 h ⟨f,g,U⟩ (λh=>?_) (λh=>?_)
      ·cases h;exact V.rt ab 6 0 () [] U
      exact V.a5 ab 2 0 h () [] U
     exact V.a5 ab 2 0 h () [] U
    rintro o _ h
    try dsimp only at h
    exact V.el ab 6 0 h () [] U
   exact V.a5 ab 1 0 h () [] U
  rintro p _ h;cases h;exact V.rt ab 7 0 () [] U
def wG(R:bh)(x0:an):Option (bo an an):=
 (a9 (λ((g,h,i,j,k,l):an)=>some (.inr (g,h,i,j,k,l))) λc=>(a8 (0<=(W (x0.2.1+1))/\(W (x0.2.1+1))<(x0.1.length:Int))<|(bif(decide (((at' x0.1 (W (x0.2.1+1))).toNat:Int)=(123:Int))) then(ba (x1 x0 x0.2.1 ([36,123]:aa)) (λx=>x) λ(d:an)=>(ba (R.xS (d.1,(W (d.2.1+2)),d.2.2) (125:UInt8) true) (λx=>x) λ(m:an)=>(av (tV m) λ(n:an)=>c n))) else(a8 (((decide ((W (x0.2.1+2))<(x0.1.length:Int)))=true)->0<=(W (x0.2.1+2))/\(W (x0.2.1+2))<(x0.1.length:Int))<|(bif(bif(decide ((W (x0.2.1+2))<(x0.1.length:Int))) then(decide (((at' x0.1 (W (x0.2.1+2))).toNat:Int)=(40:Int))) else false) then(av (Bw x0.1 (W (x0.2.1+3))) λ(e,o)=>(a9 (λ(_:Unit)=>c (x0.1,e,x0.2.2)) λp=>(bif(decide (e=(-1))) then ba (wB x0 ([36,40,40]:aa)) (λx=>x) λy=>Empty.elim y else(bif(decide (e=(-2))) then ba (xZ x0 o) (λx=>(x.1,x.2.1,x0.2.2.1,x.2.2.2.1,x0.2.2.2.2.1,x.2.2.2.2.2)) λy=>Empty.elim y else p ())))) else(ba (x1 x0 x0.2.1 ([36,40]:aa)) (λx=>x) λ(f:an)=>(ba (R.kg (f.1,(W (f.2.1+2)),f.2.2) 1 true) (λx=>x) λ(r,a)=>(ba (rV a ([41]:aa)) (λx=>(x.1,x.2.1,a.2.2.1,x.2.2.2.1,a.2.2.2.2.1,x.2.2.2.2.2)) λ(b:an)=>(av (tV (b.1,b.2.1,a.2.2.1,b.2.2.2.1,a.2.2.2.2.1,b.2.2.2.2.2)) λ(q:an)=>c q)))))))))
theorem ae4{R:bh}(b:hZ R){x0:an}{a2:bL}{Q:bt}{r:bo an an}(h:wG R x0=some r):
  iZ Tryz.prog 142 [.pointer a2] [] (ee a2 x0 Q) (λr (q:bt)=>ju 39 r λr=> .tuple #[]) (λr q=>ee a2 (jS r) q) r:=
 by
  refine V.jU (T:=ck) Tryz.call142 Tryz.func142 U λ_ _=>?_;unfold wG at h;refine V.c8 ab 8 0 h (ρ:=bt) (λs q=>[]) .nil (λs q=>kH a2 s q) ⟨U,U,U,U⟩ ?_ ?_
  ·intro j _ h;obtain⟨c,h⟩:=bG h;refine V.co ab 12 0 h ⟨U,U,U,c,U⟩ (λh=>?_) (λh=>?_)
   ·refine V.cp ab 4 0 h Kr [0,0,0] [] id [0,0,0] U a6 a6 λk l h=>?_;refine V.cp ab 15 0 h b.xS [0,0,0] [] id [0,0,0] ⟨U,U,U,U,U,U,U⟩ a6 a6 λm n h=>?_;refine V.bI ab 3 0 h Ku [0,0,0] [] U λo d h=>?_;exact V.a5 ab 2 0 h d [1,2,0] U
   obtain⟨a,h⟩:=bG h;refine V.co ab 22 0 h ⟨U,U,U,U,U,U,a,U⟩ (λh=>?_) (λh=>?_)
   ·refine V.cI ab 8 0 h ae3 [] ⟨U,U,U,U⟩ ?_;rintro⟨e,p⟩ _ h;refine V.c8 ab 11 0 h (ρ:=Unit) (λs q=>[(0,.bj ⟨a2,1,1⟩ 0),(3,.v (.int .i64 e))]) .nil (λs q=>ee a2 x0 Q) U ?_ ?_
    ·intro t _ h;refine V.co ab 5 0 h U (λh=>?_) (λh=>?_)
     ·refine V.cp ab 2 0 h G1 [0,0,0] [] id [0,0,0] U a6 a6 λy _ _=>y.elim
     refine V.co ab 5 0 h U (λh=>?_) (λh=>?_)
     ·refine V.cp ab 3 0 h Bu [0] [] (λ_=>Q) [0,0,0] U a6 a6 λy _ _=>y.elim
     exact V.a5 ab 2 0 h () [0,1,2] U
    rintro _ _ h
    try dsimp only at h
    exact V.a5 ab 8 0 h Q [1,2,0] ⟨U,U,U,U⟩
   refine V.cp ab 4 0 h Kr [0,0,0] [] id [0,0,0] U a6 a6 λu v h=>?_;refine V.cp ab 15 0 h b.kg [0,0,0] [] id [0,0,0] ⟨U,U,U,U,U,U,U⟩ a6 a6 ?_;rintro⟨w,x⟩ f h;refine V.cp ab 4 0 h Kt [0] [] (λ_=>f) [0,0,0] U a6 a6 λz _ h=>?_;refine V.bI ab 3 0 h Ku [0,0,0] [] U λA g h=>?_;exact V.a5 ab 2 0 h g [1,2,0] U
  rintro⟨B,C,D,E,F,G⟩ i h;cases h;exact V.oC ab 0 0 i [2,0,0] U
def Hc(R:bh)(x0:an):Option (bo an an):=
 (a8 (x0.2.2.2.2.1.length+([([34]:aa)]:bs).length<=536870912)<|(ba (R.xS (x0.1,(W (x0.2.1+1)),x0.2.2.1,x0.2.2.2.1,(x0.2.2.2.2.1++([([34]:aa)]:bs)),x0.2.2.2.2.2) (34:UInt8) false) (λx=>x) λ(a:an)=>(a8 (0<=(0:Int)/\(0:Int)<=(W ((a.2.2.2.2.1.length:Int)-1))/\(W ((a.2.2.2.2.1.length:Int)-1))<=(a.2.2.2.2.1.length:Int))<|some (.inr (a.1,a.2.1,a.2.2.1,a.2.2.2.1,(b9 a.2.2.2.2.1 0 (W ((a.2.2.2.2.1.length:Int)-1))),a.2.2.2.2.2)))))
theorem ae6{R:bh}(f:hZ R){x0:an}{a2:bL}{Q:bt}{r:bo an an}(h:Hc R x0=some r):
  iZ Tryz.prog 141 [.pointer a2] [] (ee a2 x0 Q) (λr (q:bt)=>ju 39 r λr=> .tuple #[]) (λr q=>ee a2 (jS r) q) r:=
 by refine V.jU (T:=ck) Tryz.call141 Tryz.func141 U λ_ _=>?_;unfold Hc at h;refine V.go ab 2 0 U ?_;refine V.cl (aJ.iY 0 U λc=>V.cz ?_);refine V.go ab 5 0 ⟨U,U,U,U⟩ ?_;refine V.cl (aJ.kt U (cK.buildSlice ab U U U U U U U U U U U [] U .str [([34]:aa)] ⟨U,U⟩ U U λg=>aJ.ku (V.cz ?_)));obtain⟨i,h⟩:=bG h;refine V.cl (aJ.qw ab U U U U ⟨U,U,U,U,trivial,U,U,U,U⟩ U U U [3] U 0 U i U λj k=>V.cz ?_);refine V.go ab 3 2 ⟨U,U,U,U⟩ ?_;refine V.cp ab 15 0 h (f.xS (Q:=(Q.1,Q.2.1,j,k))) [0,2,0] [] id [0,0,0] ⟨U,U,U,U,U,U,U⟩ a6 a6 λa b h=>?_;obtain⟨l,h⟩:=bG h;refine V.go ab 1 0 U ?_;refine V.jT (aR.rQ U .nil [0] [11,12,13,14] trivial U (λm=>?_));refine bE.o9 ab q5 13 [0,5] U (by kernel_rfl) [] [(20,.bj ⟨a2,1,1⟩ 0),(25,.bj ⟨a2,1,1⟩ 0)] U (fD U) (bE.eE ab q5 true 8 [1,2,3,6,7] U (by kernel_rfl) [] [(23,.bj ⟨a2,1,1⟩ 4),(27,.bj ⟨a2,1,1⟩ 4)] trivial [0] U U ⟨(c.fQ fR).1,c.fQ fR,(c.fQ fR).1,c.fQ fR,(fD U)⟩ (bE.kG ab q5 4 U (by kernel_rfl) U U U U U 0 U U 0 4 (a.1,a.2.1,(bA.v ⟨b.1,a.2.2.1.length,b.2.1⟩),a.2.2.2.1,(bA.v ⟨b.2.2.1,a.2.2.2.2.1.length,b.2.2.2⟩),a.2.2.2.2.2) ⟨U,U⟩ U U U trivial [0] U (bE.kG ab q5 8 U (by kernel_rfl) U U U U U 0 U U 0 4 (a.1,a.2.1,(bA.v ⟨b.1,a.2.2.1.length,b.2.1⟩),a.2.2.2.1,(bA.v ⟨b.2.2.1,a.2.2.2.2.1.length,b.2.2.2⟩),a.2.2.2.2.2) ⟨U,U⟩ U U U trivial [0] U (bE.eE ab q5 true 4 [9,10] U (by kernel_rfl) [(W ((a.2.2.2.2.1.length:Int)-1))] [(30,.v (.int .i64 (W ((a.2.2.2.2.1.length:Int)-1))))] trivial [0] U U ⟨⟨trivial,U⟩,⟨U,trivial⟩⟩ (bE.one 11 (by kernel_rfl) (cK.GD ab U U U U U U U U [2] U (0:Int) (W ((a.2.2.2.2.1.length:Int)-1)) U U l U λd e=>bE.nC U (bE.o9 ab q5 1 [12,13] U (by kernel_rfl) [] [(33,.bj ⟨a2,1,1⟩ 4)] U ⟨(c.fQ fR).1,c.fQ fR,⟨U,trivial⟩⟩ (bE.one 14 (by kernel_rfl) (cK.qv ab U U U U U U U U U [1] (fs:=[]) U 0 4 (a.1,a.2.1,(bA.v ⟨b.1,a.2.2.1.length,b.2.1⟩),a.2.2.2.1,(bA.v ⟨b.2.2.1,a.2.2.2.2.1.length,b.2.2.2⟩),a.2.2.2.2.2) (a.1,a.2.1,(bA.v ⟨b.1,a.2.2.1.length,b.2.1⟩),a.2.2.2.1,(bA.v ⟨d,(b9 a.2.2.2.2.1 0 (W ((a.2.2.2.2.1.length:Int)-1))).length,e⟩),a.2.2.2.2.2) ⟨U,U⟩ ⟨⟨⟨⟨⟨⟨U,U,U,U⟩,U⟩,U⟩,U⟩,U⟩,U⟩ (bE.nC U (bE.done (by kernel_rfl) (aR.boxes (B':= .nil) trivial (V.iA ?_)))))))))))));cases h;exact V.oC ab 0 0 (b.1,b.2.1,d,e) [0,1,0] U
def wH(x0:aa)(c:Unit->Option Int)(d:Int->Option Int):Int->Option Int:=λa=>
 (bif(decide (a<(x0.length:Int))) then(a8 (0<=a/\a<(x0.length:Int))<|(a9 (λ(e:Int)=>d (W (e+1))) λb=>(bif(decide (((at' x0 a).toNat:Int)=(92:Int))) then b (W (a+1)) else(bif(decide (((at' x0 a).toNat:Int)=(96:Int))) then some (W (a+1)) else b a)))) else c ())
def Bz(x0:aa)(a:Int):Option Int:=
 (av (wy a (x0.length:Int)) λ(b:Int)=>(a9 (λ(_:Unit)=>some (-1)) λc=>(fixF (wH x0 c) bC b)))
theorem ae8{x0:aa}{a:Int}{r:Int}(h:Bz x0 a=some r):
  FC Tryz.prog 140 [.string (a7 x0),.int .i64 a] [] (λ_:Unit=>True) (λ_=> .int .i64 r) (λ_=>[]):=
 by
  refine V.fE (T:=ck) Tryz.call140 Tryz.func140 U λ_=>?_;unfold Bz at h;refine V.cI ab 10 0 h Km [] U λd _ h=>?_;refine V.c8 ab 2 0 h (ρ:=Unit) (λs q=>[]) .nil (λs q=>[]) U ?_ ?_
  ·intro e _ h;refine V.e7 ab 0 0 h (ρ:=Unit) (λs q=>[(0,.v (.string (a7 x0))),(5,.v (.int .i64 s))]) .nil (λs q=>[]) () [] U ?_;rintro b f _ h;rw[wH] at h;refine V.co ab 8 0 h U (λh=>?_) (λh=>?_)
   ·obtain⟨c,h⟩:=bG h;refine V.c8 ab 9 0 h (ρ:=Unit) (λs q=>[(0,.v (.string (a7 x0))),(5,.v (.int .i64 s))]) .nil (λs q=>[]) ⟨c,U⟩ ?_ ?_
    ·intro g _ h;refine V.co ab 5 0 h U (λh=>?_) (λh=>?_)
     ·exact V.a5 ab 6 0 h () [] U
     refine V.co ab 5 0 h U (λh=>?_) (λh=>?_)
     ·cases h;exact V.rt ab 6 0 () [] U
     exact V.a5 ab 2 0 h () [] U
    rintro i _ h
    try dsimp only at h
    exact V.el ab 6 0 h () [] U
   exact V.a5 ab 1 0 h () [] U
  rintro _ _ h;cases h;exact V.rt ab 4 0 () [] U
def vh(x0:aa)(c:Int):Option Int:=
 (av (wy c (x0.length:Int)) λ(a:Int)=>(a8 (0<=a/\a<=(x0.length:Int)/\(x0.length:Int)<=(x0.length:Int))<|(av (DJ (b9 x0 a (x0.length:Int)) (39:UInt8)) λ(b:Int)=>(bif(decide (b<0)) then some (-1) else some (W ((W (a+b))+1))))))
theorem PA{x0:aa}{a:Int}{r:Int}(h:vh x0 a=some r):
  FC Tryz.prog 137 [.string (a7 x0),.int .i64 a] [] (λ_:Unit=>True) (λ_=> .int .i64 r) (λ_=>[]):=
 by
  refine V.fE (T:=ck) Tryz.call137 Tryz.func137 U λ_=>?_;unfold vh at h;refine V.cI ab 9 0 h Km [] U λc _ h=>?_;obtain⟨b,h⟩:=bG h;refine V.cI ab 7 0 h Vz [] ⟨b,U⟩ λd _ h=>?_;refine V.co ab 8 0 h U (λh=>?_) (λh=>?_)
  ·cases h;exact V.rt ab 4 0 () [] U
  cases h;exact V.rt ab 9 0 () [] U
def zA(R:bh)(x0:an)(d:Bool):Option (bo an (Bool×an)):=
 (a8 (0<=x0.2.1/\x0.2.1<(x0.1.length:Int))<|(a9 (λ((e,f,g,h,i,j):an)=>some (.inr (true,(e,f,g,h,i,j)))) λa=>(bif(decide (((at' x0.1 x0.2.1).toNat:Int)=(92:Int))) then a (x0.1,(min (W (x0.2.1+2)) (x0.1.length:Int)),x0.2.2) else(bif(bif(decide (((at' x0.1 x0.2.1).toNat:Int)=(39:Int))) then d else false) then(av (vh x0.1 (W (x0.2.1+1))) λ(b:Int)=>(bif(decide (b<0)) then ba (wB (x0.1,b,x0.2.2) ([39]:aa)) (λx=>x) λy=>Empty.elim y else a (x0.1,b,x0.2.2))) else(bif(decide (((at' x0.1 x0.2.1).toNat:Int)=(96:Int))) then(av (Bz x0.1 (W (x0.2.1+1))) λ(c:Int)=>(bif(decide (c<0)) then ba (wB (x0.1,c,x0.2.2) ([96]:aa)) (λx=>x) λy=>Empty.elim y else a (x0.1,c,x0.2.2))) else(bif(bif(decide (((at' x0.1 x0.2.1).toNat:Int)=(34:Int))) then d else false) then(ba (Hc R x0) (λx=>x) λ(k:an)=>a k) else(av (Bn x0.1 x0.2.1) λ(l:Bool)=>(bif l then(ba (wG R x0) (λx=>x) λ(m:an)=>a m) else some (.inr (false,x0))))))))))
theorem VE{R:bh}(a:hZ R){x0:an}{b:Bool}{a3:bL}{Q:bt}{r:bo an (Bool×an)}(h:zA R x0 b=some r):
  iZ Tryz.prog 119 [.pointer a3,.bool b] [] (ee a3 x0 Q) (λr (q:bt)=>ju 39 r λr=> .bool r.1) (λr q=>ee a3 (l7 r) q) r:=
 by
  refine V.jU (T:=ck) Tryz.call119 Tryz.func119 U λ_ _=>?_;unfold zA at h;refine V.jl ab 5 0 U (by kernel_rfl) ?_;obtain⟨c,h⟩:=bG h;refine V.c8 ab 19 0 h (ρ:=bt) (λs q=>[]) .nil (λs q=>kH a3 s q) ⟨U,U,U,U,U,U,c,U⟩ ?_ ?_
  ·intro g _ h;refine V.co ab 6 0 h U (λh=>?_) (λh=>?_)
   ·exact V.a5 ab 12 0 h Q [1,2,0] ⟨U,U,U,U⟩
   refine V.co ab 9 0 h U (λh=>?_) (λh=>?_)
   ·refine V.cI ab 6 0 h PA [] U λi _ h=>?_;refine V.co ab 12 0 h ⟨U,U,U,U,U,U,U⟩ (λh=>?_) (λh=>?_)
    ·refine V.cp ab 2 0 h G1 [0,0,0] [] id [0,0,0] U a6 a6 λy _ _=>y.elim
    exact V.a5 ab 2 0 h Q [1,2,0] U
   refine V.co ab 6 0 h U (λh=>?_) (λh=>?_)
   ·refine V.cI ab 6 0 h ae8 [] U λj _ h=>?_;refine V.co ab 12 0 h ⟨U,U,U,U,U,U,U⟩ (λh=>?_) (λh=>?_)
    ·refine V.cp ab 2 0 h G1 [0,0,0] [] id [0,0,0] U a6 a6 λy _ _=>y.elim
    exact V.a5 ab 2 0 h Q [1,2,0] U
   refine V.co ab 9 0 h U (λh=>?_) (λh=>?_)
   ·refine V.cp ab 2 0 h (ae6 a) [0,0,0] [] id [0,0,0] U a6 a6 λk d h=>?_;exact V.a5 ab 2 0 h d [1,2,0] U
   refine V.cI ab 4 0 h Vx [] U λl _ h=>?_;refine V.co ab 2 0 h U (λh=>?_) (λh=>?_)
   ·refine V.cp ab 2 0 h (ae4 a) [0,0,0] [] id [0,0,0] U a6 a6 λm e h=>?_;exact V.a5 ab 2 0 h e [1,2,0] U
   cases h;exact V.jR ab 4 0 Q [0,0,0] U
  rintro⟨n,o,p,t,u,v⟩ f h;cases h;exact V.jR ab 4 0 f [2,0,0] U
def Kw(R:bh)(i:an->Option (bo an an))(j:an->Option (bo an an)):an->Option (bo an an):=λ(b,c,d,e,f,g)=>
 (av (wx b c) λ(k:Bool)=>(bif(!k) then(a9 (λ((l,m,n,o,p,q):an)=>j (l,m,n,o,p,q)) λh=>(ba (zA R (b,c,d,e,f,g) true) (λx=>x) λ(r,a)=>(bif(!r) then h (a.1,(W (a.2.1+1)),a.2.2) else h a))) else i (b,c,d,e,f,g)))
def k5(R:bh)(x0:an):Option (bo an an):=
 (a9 (λ((h,i,j,k):aa×Int×Int×Int)=>(a9 (λ((b,c,d,f,e,g):an)=>(bif(decide (c=(b.length:Int))) then ba (q6 (b,c,d,f,e,g)) (λx=>(x.1,x.2.1,d,x.2.2.2.1,e,x.2.2.2.2.2)) λy=>Empty.elim y else some (.inr (b,c,d,f,e,g)))) λl=>(fixF (Kw R l) bC (h,i,x0.2.2.1,j,x0.2.2.2.2.1,k)))) λm=>(ba (lU x0) (λx=>(x.1,x.2.1,x0.2.2.1,x.2.2.2.1,x0.2.2.2.2.1,x.2.2.2.2.2)) λ(n,a)=>(bif(!(decide (n.1=3))) then ba (ky (a.1,a.2.1,x0.2.2.1,a.2.2.2.1,x0.2.2.2.2.1,a.2.2.2.2.2)) (λx=>(x.1,x.2.1,x0.2.2.1,x.2.2.2.1,x0.2.2.2.2.1,x.2.2.2.2.2)) λy=>Empty.elim y else m (a.1,a.2.1,a.2.2.2.1,a.2.2.2.2.2))))
theorem BA{R:bh}(e:hZ R){x0:an}{a2:bL}{Q:bt}{r:bo an an}(h:k5 R x0=some r):
  iZ Tryz.prog 92 [.pointer a2] [] (ee a2 x0 Q) (λr (q:bt)=>ju 39 r λr=> .tuple #[]) (λr q=>ee a2 (jS r) q) r:=
 by
  refine V.jU (T:=ck) Tryz.call92 Tryz.func92 U λ_ _=>?_;unfold k5 at h;refine V.e6 ab 0 0 h (ρ:=Unit) (λs q=>[(0,.bj ⟨a2,1,1⟩ 0)]) .nil (λs q=>ee a2 (s.1,s.2.1,x0.2.2.1,s.2.2.1,x0.2.2.2.2.1,s.2.2.2) Q) U ?_ ?_
  ·intro i _ h;refine V.cp ab 3 0 h qz [0] [] (λ_=>Q) [0,0,0] U a6 a6 ?_;rintro⟨j,k⟩ _ h;refine V.co ab 3 0 h U (λh=>?_) (λh=>?_)
   ·refine V.cp ab 2 0 h wE [0] [] (λ_=>Q) [0,0,0] U a6 a6 λy _ _=>y.elim
   exact V.a5 ab 1 0 h () [0,1,2] U
  rintro⟨l,m,n,o⟩ _ h;refine V.c8 ab 1 0 h (ρ:=bt) (λs q=>[(0,.bj ⟨a2,1,1⟩ 0)]) .nil (λs q=>kH a2 s q) U ?_ ?_
  ·intro p _ h;refine V.e7 ab 0 0 h (ρ:=bt) (λs q=>[(0,.bj ⟨a2,1,1⟩ 0)]) .nil (λs q=>kH a2 s q) Q [1,2,0] U ?_;rintro f ⟨t,u,v,w,x,z⟩ g h;rw[Kw] at h;refine V.jl ab 2 0 U (by kernel_rfl) ?_;refine V.go ab 8 2 ⟨U,U,U,U,U,U,U⟩ ?_;obtain⟨A,a,h⟩:=jP h;refine V.toQ (kX.call U U U U (Ph a) U [] U U (V.sU ?_));refine V.co ab 2 0 h U (λh=>?_) (λh=>?_)
   ·refine V.c8 ab 1 0 h (ρ:=bt) (λs q=>[(0,.bj ⟨a2,1,1⟩ 0)]) .nil (λs q=>kH a2 s q) U ?_ ?_
    ·intro B _ h;refine V.cp ab 3 0 h (VE e) [2,0,0] [] id [0,0,0] U a6 a6 ?_;rintro⟨C,D⟩ c h;refine V.co ab 2 0 h U (λh=>?_) (λh=>?_)
     ·exact V.a5 ab 11 0 h c [1,2,0] ⟨U,U,U,U,U,U,U⟩
     exact V.a5 ab 2 0 h c [1,2,0] U
    rintro⟨E,F,G,H,I,J⟩ b h
    try dsimp only at h
    exact V.el ab 0 0 h b [0,1,2] U
   exact V.a5 ab 1 0 h g [0,1,2] U
  rintro⟨K,L,M,N,O,P⟩ d h;refine V.jl ab 1 0 U (by kernel_rfl) ?_;refine V.co ab 11 2 h ⟨U,U,U,U,U,U,U⟩ (λh=>?_) (λh=>?_)
  ·refine V.cp ab 2 0 h DB [2] [] (λ_=>d) [0,0,0] U a6 a6 λy _ _=>y.elim
  cases h;exact V.oC ab 1 0 d [2,0,0] U
def vj(R:bh)(e:an->Option (bo an an))(d:an->Option (bo an an)):an->Option (bo an an):=λ(f,g,b,h,c,i)=>
 (ba (na (f,g,b,h,c,i) ([124]:aa)) (λx=>(x.1,x.2.1,b,x.2.2.2.1,c,x.2.2.2.2.2)) λ(j,a)=>(bif j then(ba (k5 R (a.1,(W (a.2.1+1)),b,a.2.2.2.1,c,a.2.2.2.2.2)) (λx=>x) λ(k:an)=>d k) else e (a.1,a.2.1,b,a.2.2.2.1,c,a.2.2.2.2.2)))
def He(R:bh)(m:an->Option (bo an an))(j:an->Option (bo an an)):an->Option (bo an an):=λ(o,p,e,q,f,r)=>
 (ba (pa (o,p,e,q,f,r) ([101,115,97,99]:aa)) (λx=>(x.1,x.2.1,e,x.2.2.2.1,f,x.2.2.2.2.2)) λ(s,a)=>(bif(!s) then(a9 (λ((t,u,v,w,y,z):an)=>j (t,u,v,w,y,z)) λA=>(a9 (λ((B,C,D,E):aa×Int×Int×Int)=>(ba (k5 R (B,C,e,D,f,E)) (λx=>x) λ(g:an)=>(a9 (λ((F,G,k,H,l,I):an)=>(ba (rV (F,G,k,H,l,I) ([41]:aa)) (λx=>(x.1,x.2.1,k,x.2.2.2.1,l,x.2.2.2.2.2)) λ(i:an)=>(ba (R.kg (i.1,i.2.1,k,i.2.2.2.1,l,i.2.2.2.2.2) 8 true) (λx=>x) λ(M,d)=>(ba (na d ([59,59]:aa)) (λx=>(x.1,x.2.1,d.2.2.1,x.2.2.2.1,d.2.2.2.2.1,x.2.2.2.2.2)) λ(J,b)=>(bif(!J) then m (b.1,b.2.1,d.2.2.1,b.2.2.2.1,d.2.2.2.2.1,b.2.2.2.2.2) else(ba (k3 (b.1,(W (b.2.1+2)),d.2.2.1,b.2.2.2.1,d.2.2.2.2.1,b.2.2.2.2.2)) (λx=>x) λ(N,h)=>A (h.1,h.2.1,h.2.2.1,h.2.2.2.1,h.2.2.2.2.1,h.2.2.2.2.2))))))) λK=>(fixF (vj R K) bC (g.1,g.2.1,g.2.2.1,g.2.2.2.1,g.2.2.2.2.1,g.2.2.2.2.2))))) λn=>(ba (na (a.1,a.2.1,e,a.2.2.2.1,f,a.2.2.2.2.2) ([40]:aa)) (λx=>(x.1,x.2.1,e,x.2.2.2.1,f,x.2.2.2.2.2)) λ(L,c)=>(bif L then n (c.1,(W (c.2.1+1)),c.2.2.2.1,c.2.2.2.2.2) else n (c.1,c.2.1,c.2.2.2.1,c.2.2.2.2.2))))) else m (a.1,a.2.1,e,a.2.2.2.1,f,a.2.2.2.2.2)))
def DT(R:bh)(x0:an):Option (bo an an):=
 (ba (k5 R x0) (λx=>x) λ(g:an)=>(ba (k3 g) (λx=>x) λ(m,b)=>(ba (nb b ([105,110]:aa)) (λx=>(x.1,x.2.1,b.2.2.1,x.2.2.2.1,b.2.2.2.2.1,x.2.2.2.2.2)) λ(c:an)=>(ba (k3 (c.1,c.2.1,b.2.2.1,c.2.2.2.1,b.2.2.2.2.1,c.2.2.2.2.2)) (λx=>x) λ(n,a)=>(a9 (λ((h,i,e,j,f,k):an)=>(ba (nb (h,i,e,j,f,k) ([101,115,97,99]:aa)) (λx=>(x.1,x.2.1,e,x.2.2.2.1,f,x.2.2.2.2.2)) λ(d:an)=>some (.inr (d.1,d.2.1,e,d.2.2.2.1,f,d.2.2.2.2.2)))) λl=>(fixF (He R l) bC (a.1,a.2.1,a.2.2.1,a.2.2.2.1,a.2.2.2.2.1,a.2.2.2.2.2)))))))
theorem afe{R:bh}(a:hZ R){x0:an}{a2:bL}{Q:bt}{r:bo an an}(h:DT R x0=some r):
  iZ Tryz.prog 112 [.pointer a2] [] (ee a2 x0 Q) (λr (q:bt)=>ju 39 r λr=> .tuple #[]) (λr q=>ee a2 (jS r) q) r:=
 by
  refine V.jU (T:=ck) Tryz.call112 Tryz.func112 U λ_ _=>?_;unfold DT at h;refine V.cp ab 3 0 h (BA a) [0,0,0] [] id [0,0,0] U a6 a6 λu v h=>?_;refine V.cp ab 4 0 h tT [0,0,0] [] id [0,0,0] U a6 a6 ?_;rintro⟨w,x⟩ i h;refine V.cp ab 4 0 h wF [0] [] (λ_=>i) [0,0,0] U a6 a6 λy _ h=>?_;refine V.cp ab 4 0 h tT [0,0,0] [] id [0,0,0] U a6 a6 ?_;rintro⟨z,A⟩ j h;refine V.c8 ab 2 0 h (ρ:=bt) (λs q=>[(0,.bj ⟨a2,1,1⟩ 0)]) .nil (λs q=>kH a2 s q) U ?_ ?_
  ·intro B _ h;refine V.e7 ab 0 0 h (ρ:=bt) (λs q=>[(0,.bj ⟨a2,1,1⟩ 0)]) .nil (λs q=>kH a2 s q) j [1,2,0] U ?_;rintro k ⟨C,D,l,E,m,F⟩ b h;rw[He] at h;refine V.cp ab 4 0 h pc [2] [] (λ_=>b) [0,0,0] U a6 a6 ?_;rintro⟨G,H⟩ _ h;refine V.co ab 2 0 h U (λh=>?_) (λh=>?_)
   ·refine V.c8 ab 1 0 h (ρ:=bt) (λs q=>[(0,.bj ⟨a2,1,1⟩ 0)]) .nil (λs q=>kH a2 s q) U ?_ ?_
    ·intro I _ h;refine V.e6 ab 0 0 h (ρ:=Unit) (λs q=>[(0,.bj ⟨a2,1,1⟩ 0)]) .nil (λs q=>ee a2 (s.1,s.2.1,l,s.2.2.1,m,s.2.2.2) b) U ?_ ?_
     ·intro J _ h;refine V.cp ab 3 0 h p1 [0] [] (λ_=>b) [0,0,0] U a6 a6 ?_;rintro⟨K,L⟩ _ h;refine V.co ab 1 0 h U (λh=>?_) (λh=>?_)
      ·exact V.a5 ab 10 0 h () [0,1,2] ⟨U,U,U,U,U,U,U⟩
      exact V.a5 ab 1 0 h () [0,1,2] U
     rintro⟨M,N,O,P⟩ _ h;refine V.cp ab 3 0 h (BA a) [0,0,0] [] id [0,0,0] U a6 a6 λS n h=>?_;refine V.c8 ab 2 0 h (ρ:=bt) (λs q=>[(0,.bj ⟨a2,1,1⟩ 0)]) .nil (λs q=>kH a2 s q) U ?_ ?_
     ·intro W _ h;refine V.e7 ab 0 0 h (ρ:=bt) (λs q=>[(0,.bj ⟨a2,1,1⟩ 0)]) .nil (λs q=>kH a2 s q) n [1,2,0] U ?_;rintro o ⟨X,Y,Z,jW,mT,mr⟩ e h;rw[vj] at h;refine V.cp ab 4 0 h p1 [2] [] (λ_=>e) [0,0,0] U a6 a6 ?_;rintro⟨kk,db⟩ _ h;refine V.co ab 1 0 h U (λh=>?_) (λh=>?_)
      ·refine V.cp ab 15 0 h (BA a) [0,0,0] [] id [0,0,0] ⟨U,U,U,U,U,U,U⟩ a6 a6 λtY p h=>?_;exact V.el ab 2 0 h p [1,2,0] U
      exact V.a5 ab 1 0 h e [1,2,0] U
     rintro⟨p5,pj,mU,p6,BB,pk⟩ c h;refine V.cp ab 3 0 h Kt [2] [] (λ_=>c) [0,0,0] U a6 a6 λBC _ h=>?_;refine V.cp ab 4 0 h a.kg [0,0,0] [] id [0,0,0] U a6 a6 ?_;rintro⟨VJ,qC⟩ f h;refine V.cp ab 5 0 h p1 [0] [] (λ_=>f) [0,0,0] U a6 a6 ?_;rintro⟨BD,g8⟩ _ h;refine V.co ab 2 0 h U (λh=>?_) (λh=>?_)
     ·exact V.a5 ab 1 0 h f [1,2,0] U
     refine V.cp ab 14 0 h tT [0,0,0] [] id [0,0,0] ⟨U,U,U,U,U,U,U⟩ a6 a6 ?_;rintro⟨VK,kJ⟩ t h
     try dsimp only at h
     exact V.a5 ab 2 0 h t [1,2,0] U
    rintro⟨VG,VH,oH,p4,DS,tZ⟩ d h
    try dsimp only at h
    exact V.el ab 0 0 h d [0,1,2] U
   exact V.a5 ab 1 0 h b [1,2,0] U
  rintro⟨VL,VM,Kx,Hg,BE,Hh⟩ g h;refine V.cp ab 2 0 h wF [2] [] (λ_=>g) [0,0,0] U a6 a6 λHi _ h=>?_;cases h;exact V.oC ab 1 0 g [0,0,0] U
def zF(x0:Int)(a:Int)(b:Int):Option Bool:=
 some (bif(decide (a<=x0)) then(decide (x0<=b)) else false)
theorem PG{x0:Int}{a:Int}{b:Int}{r:Bool}(h:zF x0 a b=some r):
  FC Tryz.prog 143 [.int .i64 x0,.int .i64 a,.int .i64 b] [] (λ_:Unit=>True) (λ_=> .bool r) (λ_=>[]):=
 by refine V.fE (T:=ck) Tryz.call143 Tryz.func143 U λ_=>?_;unfold zF at h;cases h;exact V.rt ab 16 0 () [] U
def Hj(x0:Int):Option Bool:=
 (av (zF x0 97 122) λ(a:Bool)=>some a)
theorem afh{x0:Int}{r:Bool}(h:Hj x0=some r):
  FC Tryz.prog 120 [.int .i64 x0] [] (λ_:Unit=>True) (λ_=> .bool r) (λ_=>[]):=
 by refine V.fE (T:=ck) Tryz.call120 Tryz.func120 U λ_=>?_;unfold Hj at h;refine V.cI ab 7 0 h PG [] U λa _ h=>?_;cases h;exact V.rt ab 2 0 () [] U
def Hk(x0:Int):Option Bool:=
 (av (zF x0 65 90) λ(a:Bool)=>some a)
theorem afi{x0:Int}{r:Bool}(h:Hk x0=some r):
  FC Tryz.prog 121 [.int .i64 x0] [] (λ_:Unit=>True) (λ_=> .bool r) (λ_=>[]):=
 by refine V.fE (T:=ck) Tryz.call121 Tryz.func121 U λ_=>?_;unfold Hk at h;refine V.cI ab 7 0 h PG [] U λa _ h=>?_;cases h;exact V.rt ab 2 0 () [] U
def DV(x0:Int):Option Bool:=
 (av (zF x0 48 57) λ(a:Bool)=>some a)
theorem VO{x0:Int}{r:Bool}(h:DV x0=some r):
  FC Tryz.prog 122 [.int .i64 x0] [] (λ_:Unit=>True) (λ_=> .bool r) (λ_=>[]):=
 by refine V.fE (T:=ck) Tryz.call122 Tryz.func122 U λ_=>?_;unfold DV at h;refine V.cI ab 7 0 h PG [] U λa _ h=>?_;cases h;exact V.rt ab 2 0 () [] U
def zG(x0:aa)(d:Unit->Option Bool)(e:Int->Option Bool):Int->Option Bool:=λa=>
 (bif(decide (a<(x0.length:Int))) then(a8 (0<=a/\a<(x0.length:Int))<|(av (Hj ((at' x0 a).toNat:Int)) λ(b:Bool)=>(cR ((!b)=true) (Hk ((at' x0 a).toNat:Int)) false λ(c:Bool)=>(cR ((decide (a=0))=false/\(bif(bif(!b) then(!c) else false) then(!(decide (((at' x0 a).toNat:Int)=95))) else false)=true) (DV ((at' x0 a).toNat:Int)) false λ(f:Bool)=>(bif(bif(bif(bif(!b) then(!c) else false) then(!(decide (((at' x0 a).toNat:Int)=95))) else false) then(bif(decide (a=0)) then true else(!f)) else false) then some false else e (W (a+1))))))) else d ())
def zH(x0:aa):Option Bool:=
 (a9 (λ(_:Unit)=>some (!(decide (x0=[])))) λa=>(fixF (zG x0 a) bC 0))
theorem VP{x0:aa}{r:Bool}(h:zH x0=some r):
  FC Tryz.prog 93 [.string (a7 x0)] [] (λ_:Unit=>True) (λ_=> .bool r) (λ_=>[]):=
 by
  refine V.fE (T:=ck) Tryz.call93 Tryz.func93 U λ_=>?_;unfold zH at h;refine V.c8 ab 9 0 h (ρ:=Unit) (λs q=>[(0,.v (.string (a7 x0)))]) .nil (λs q=>[]) U ?_ ?_
  ·intro f _ h;refine V.e7 ab 0 0 h (ρ:=Unit) (λs q=>[(0,.v (.string (a7 x0))),(3,.v (.int .i64 s))]) .nil (λs q=>[]) () [] U ?_;rintro b a _ h;rw[zG] at h;refine V.co ab 8 0 h U (λh=>?_) (λh=>?_)
   ·obtain⟨c,h⟩:=bG h;refine V.go ab 5 0 U ?_;refine V.cl (aJ.eE ab 5 [((at' x0 a).toNat:Int)] [] [(4,.v (.int .i64 ((at' x0 a).toNat:Int)))] _ U ⟨c,⟨trivial,JU _⟩,⟨U,trivial⟩,U⟩ (V.cz ?_));refine V.cI ab 4 0 h afh [] U λg _ h=>?_;refine V.hX ab 3 0 h afi [] U (λ_=>id) λi h=>?_;refine V.hX ab 11 0 h VO [] U (λ_ F d e=>F ⟨d,e⟩) λj h=>?_;refine V.co ab 4 0 h U (λh=>?_) (λh=>?_)
    ·cases h;exact V.rt ab 4 0 () [] U
    exact V.el ab 7 0 h () [] U
   exact V.a5 ab 1 0 h () [] U
  rintro _ _ h;cases h;exact V.rt ab 6 0 () [] U
def r2(x0:an):Option (bo an an):=
 (ba (lU x0) (λx=>x) λ(b,a)=>(a9 (λ(_:Unit)=>some (.inr (a.1,(W (a.2.1+(b.2.1.length:Int))),x0.2.2.1,a.2.2.2.1,x0.2.2.2.2.1,a.2.2.2.2.2))) λc=>(cR ((bif(!(decide (b.1=3))) then true else(!b.2.2))=false) (zH b.2.1) false λ(d:Bool)=>(bif(bif(bif(!(decide (b.1=3))) then true else(!b.2.2)) then true else(!d)) then ba (ky (a.1,a.2.1,x0.2.2.1,a.2.2.2.1,x0.2.2.2.2.1,a.2.2.2.2.2)) (λx=>x) λy=>Empty.elim y else c ()))))
theorem afj{x0:an}{a2:bL}{Q:bt}{r:bo an an}(h:r2 x0=some r):
  iZ Tryz.prog 136 [.pointer a2] [] [i_ a2 x0 Q] (λr (_:Unit)=>ju 39 r λr=> .tuple #[]) (λr _=>[i_ a2 ((jS r).1,(jS r).2.1,x0.2.2.1,(jS r).2.2.2.1,x0.2.2.2.2.1,(jS r).2.2.2.2.2) Q]) r:=
 by
  refine V.jU (T:=ck) Tryz.call136 Tryz.func136 U λ_ _=>?_;unfold r2 at h;refine V.cp ab 3 0 h qz [0] [] (λ_=>()) [0] U a6 a6 ?_;rintro⟨b,a⟩ _ h;refine V.cl (aJ.oz ab 2 [] [8] [(2,.eU 8 0)] (.new 8 65 [.int .i64 b.1,.string (a7 b.2.1),.bool b.2.2] .nil) U ⟨⟨U,trivial⟩,(jk U U)⟩ (V.cz ?_));refine V.e6 ab 1 0 h (ρ:=Unit) (λs q=>[(0,.bj ⟨a2,1,1⟩ 0),(2,.eU 8 0)]) (.new 8 65 [.int .i64 b.1,.string (a7 b.2.1),.bool b.2.2] .nil) (λs q=>[i_ a2 (a.1,a.2.1,x0.2.2.1,a.2.2.2.1,x0.2.2.2.2.1,a.2.2.2.2.2) Q]) U ?_ ?_
  ·intro e _ h;refine V.hX ab 13 0 h VP [] U (λ_=>id) λf h=>?_;refine V.co ab 3 0 h U (λh=>?_) (λh=>?_)
   ·refine V.cp ab 2 0 h wE [0] [] (λ_=>()) [0] U a6 a6 λy _ _=>y.elim
   exact V.a5 ab 1 0 h () [0] U
  rintro _ _ h;refine V.jT (aR.iY 0 U λc=>V.iA ?_);refine V.jT (aR.rQ U (.new 8 65 [.int .i64 b.1,.string (a7 b.2.1),.bool b.2.2] .nil) [0] [7,8,9,10] ⟨U,U,U,U,trivial⟩ U (λd=>?_));refine bE.eE ab q5 true 5 [0,1,2,4,5,6] U (by kernel_rfl) [] [(21,.bj ⟨a2,1,1⟩ 0),(23,.bj ⟨a2,1,1⟩ 1),(27,.v (.int .i64 (b.2.1.length:Int)))] ⟨U,U,U,U,trivial⟩ [0] U U ⟨(c.fQ fR).1,c.fQ fR,(fD U)⟩ (bE.kG ab q5 3 U (by kernel_rfl) U U U U U 0 U U 0 1 (a.1,a.2.1,(bA.v ⟨Q.1,x0.2.2.1.length,Q.2.1⟩),a.2.2.2.1,(bA.v ⟨Q.2.2.1,x0.2.2.2.2.1.length,Q.2.2.2⟩),a.2.2.2.2.2) ⟨U,U⟩ U U U ⟨U,U,U,U,trivial⟩ [0] U (bE.o9 ab q5 1 [7,8,9] U (by kernel_rfl) [(W (a.2.1+(b.2.1.length:Int)))] [(28,.v (.int .i64 (W (a.2.1+(b.2.1.length:Int))))),(30,.bj ⟨a2,1,1⟩ 1)] U ⟨⟨trivial,U⟩,(c.fQ fR).1,c.fQ fR,(fD U)⟩ (bE.one 10 (by kernel_rfl) (cK.qv ab U U U U U U U U U [0] (fs:=[]) U 0 1 (a.1,a.2.1,(bA.v ⟨Q.1,x0.2.2.1.length,Q.2.1⟩),a.2.2.2.1,(bA.v ⟨Q.2.2.1,x0.2.2.2.2.1.length,Q.2.2.2⟩),a.2.2.2.2.2) (a.1,(W (a.2.1+(b.2.1.length:Int))),(bA.v ⟨Q.1,x0.2.2.1.length,Q.2.1⟩),a.2.2.2.1,(bA.v ⟨Q.2.2.1,x0.2.2.2.2.1.length,Q.2.2.2⟩),a.2.2.2.2.2) ⟨U,U⟩ ⟨⟨⟨U,U,U⟩,U⟩,U⟩ (bE.nC U (bE.done (by kernel_rfl) (aR.boxes (B':= .nil) trivial (V.iA ?_))))))));cases h;exact V.oC ab 0 0 () [0] U
def vk(R:bh)(e:an->Option (bo an an))(d:an->Option (bo an an)):an->Option (bo an an):=λ(f,g,b,h,c,i)=>
 (ba (lU (f,g,b,h,c,i)) (λx=>(x.1,x.2.1,b,x.2.2.2.1,c,x.2.2.2.2.2)) λ(j,a)=>(bif(decide (j.1=3)) then(ba (k5 R (a.1,a.2.1,b,a.2.2.2.1,c,a.2.2.2.2.2)) (λx=>x) λ(k:an)=>d k) else e (a.1,a.2.1,b,a.2.2.2.1,c,a.2.2.2.2.2)))
def DW(R:bh)(x0:an):Option (bo an an):=
 (ba (r2 x0) (λx=>(x.1,x.2.1,x0.2.2.1,x.2.2.2.1,x0.2.2.2.2.1,x.2.2.2.2.2)) λ(i:an)=>(ba (na (i.1,i.2.1,x0.2.2.1,i.2.2.2.1,x0.2.2.2.2.1,i.2.2.2.2.2) ([59]:aa)) (λx=>(x.1,x.2.1,x0.2.2.1,x.2.2.2.1,x0.2.2.2.2.1,x.2.2.2.2.2)) λ(m,b)=>(bif m then(ba (k3 (b.1,(W (b.2.1+1)),x0.2.2.1,b.2.2.2.1,x0.2.2.2.2.1,b.2.2.2.2.2)) (λx=>x) λ(L,n)=>(ba (sY R n) (λx=>x) λ(o:an)=>some (.inr o))) else(ba (k3 (b.1,b.2.1,x0.2.2.1,b.2.2.2.1,x0.2.2.2.2.1,b.2.2.2.2.2)) (λx=>x) λ(M,a)=>(a9 (λ((p,q,r,s,t,u):an)=>(ba (sY R (p,q,r,s,t,u)) (λx=>x) λ(v:an)=>some (.inr v))) λk=>(ba (pa a ([105,110]:aa)) (λx=>(x.1,x.2.1,a.2.2.1,x.2.2.2.1,a.2.2.2.2.1,x.2.2.2.2.2)) λ(w,c)=>(bif w then(ba (nb (c.1,c.2.1,a.2.2.1,c.2.2.2.1,a.2.2.2.2.1,c.2.2.2.2.2) ([105,110]:aa)) (λx=>(x.1,x.2.1,a.2.2.1,x.2.2.2.1,a.2.2.2.2.1,x.2.2.2.2.2)) λ(j:an)=>(a9 (λ((z,A,f,B,g,C):an)=>(a9 (λ((D,E,F,G):aa×Int×Int×Int)=>(ba (k3 (D,E,f,F,g,G)) (λx=>x) λ(H,h)=>k (h.1,h.2.1,h.2.2.1,h.2.2.2.1,h.2.2.2.2.1,h.2.2.2.2.2))) λl=>(ba (na (z,A,f,B,g,C) ([59]:aa)) (λx=>(x.1,x.2.1,f,x.2.2.2.1,g,x.2.2.2.2.2)) λ(I,d)=>(bif I then l (d.1,(W (d.2.1+1)),d.2.2.2.1,d.2.2.2.2.2) else(ba (lU (d.1,d.2.1,f,d.2.2.2.1,g,d.2.2.2.2.2)) (λx=>(x.1,x.2.1,f,x.2.2.2.1,g,x.2.2.2.2.2)) λ(J,e)=>(bif(!(decide (J.1=1))) then ba (ky (e.1,e.2.1,f,e.2.2.2.1,g,e.2.2.2.2.2)) (λx=>(x.1,x.2.1,f,x.2.2.2.1,g,x.2.2.2.2.2)) λy=>Empty.elim y else l (e.1,e.2.1,e.2.2.2.1,e.2.2.2.2.2))))))) λK=>(fixF (vk R K) bC (j.1,j.2.1,a.2.2.1,j.2.2.2.1,a.2.2.2.2.1,j.2.2.2.2.2)))) else k (c.1,c.2.1,a.2.2.1,c.2.2.2.1,a.2.2.2.2.1,c.2.2.2.2.2))))))))
theorem afm{R:bh}(c:hZ R){x0:an}{a2:bL}{Q:bt}{r:bo an an}(h:DW R x0=some r):
  iZ Tryz.prog 111 [.pointer a2] [] (ee a2 x0 Q) (λr (q:bt)=>ju 39 r λr=> .tuple #[]) (λr q=>ee a2 (jS r) q) r:=
 by
  refine V.jU (T:=ck) Tryz.call111 Tryz.func111 U λ_ _=>?_;unfold DW at h;refine V.cp ab 3 0 h afj [0] [] (λ_=>Q) [0,0,0] U a6 a6 λn _ h=>?_;refine V.cp ab 5 0 h p1 [0] [] (λ_=>Q) [0,0,0] U a6 a6 ?_;rintro⟨o,p⟩ _ h;refine V.co ab 1 0 h U (λh=>?_) (λh=>?_)
  ·refine V.cp ab 14 0 h tT [0,0,0] [] id [0,0,0] ⟨U,U,U,U,U,U,U⟩ a6 a6 ?_;rintro⟨t,u⟩ v h;refine V.cp ab 4 0 h (Pu c) [0,0,0] [] id [0,0,0] U a6 a6 λw g h=>?_;cases h;exact V.jR ab 1 0 g [0,0,0] U
  refine V.cp ab 4 0 h tT [0,0,0] [] id [0,0,0] U a6 a6 ?_;rintro⟨x,z⟩ a h;refine V.e6 ab 1 0 h (ρ:=bt) (λs q=>[(0,.bj ⟨a2,1,1⟩ 0)]) .nil (λs q=>kH a2 s q) U ?_ ?_
  ·intro A _ h;refine V.cp ab 3 0 h pc [0] [] (λ_=>a) [0,0,0] U a6 a6 ?_;rintro⟨B,C⟩ _ h;refine V.co ab 1 0 h U (λh=>?_) (λh=>?_)
   ·refine V.cp ab 3 0 h wF [0] [] (λ_=>a) [0,0,0] U a6 a6 λD _ h=>?_;refine V.c8 ab 2 0 h (ρ:=bt) (λs q=>[(0,.bj ⟨a2,1,1⟩ 0)]) .nil (λs q=>kH a2 s q) U ?_ ?_
    ·intro E _ h;refine V.e7 ab 0 0 h (ρ:=bt) (λs q=>[(0,.bj ⟨a2,1,1⟩ 0)]) .nil (λs q=>kH a2 s q) a [1,2,0] U ?_;rintro i ⟨F,G,H,I,J,K⟩ f h;rw[vk] at h;refine V.cp ab 4 0 h qz [2] [] (λ_=>f) [0,0,0] U a6 a6 ?_;rintro⟨L,M⟩ _ h;refine V.co ab 3 0 h U (λh=>?_) (λh=>?_)
     ·refine V.cp ab 4 0 h (BA c) [0,0,0] [] id [0,0,0] U a6 a6 λN j h=>?_;exact V.el ab 2 0 h j [1,2,0] U
     exact V.a5 ab 1 0 h f [1,2,0] U
    rintro⟨O,P,k,S,l,W⟩ b h;refine V.e6 ab 0 0 h (ρ:=Unit) (λs q=>[(0,.bj ⟨a2,1,1⟩ 0)]) .nil (λs q=>ee a2 (s.1,s.2.1,k,s.2.2.1,l,s.2.2.2) b) U ?_ ?_
    ·intro X _ h;refine V.cp ab 3 0 h p1 [2] [] (λ_=>b) [0,0,0] U a6 a6 ?_;rintro⟨Y,Z⟩ _ h;refine V.co ab 1 0 h U (λh=>?_) (λh=>?_)
     ·exact V.a5 ab 10 0 h () [0,1,2] ⟨U,U,U,U,U,U,U⟩
     refine V.cp ab 3 0 h qz [0] [] (λ_=>b) [0,0,0] U a6 a6 ?_;rintro⟨ir,ub⟩ _ h;refine V.co ab 3 0 h U (λh=>?_) (λh=>?_)
     ·refine V.cp ab 2 0 h wE [0] [] (λ_=>b) [0,0,0] U a6 a6 λy _ _=>y.elim
     exact V.a5 ab 1 0 h () [0,1,2] U
    rintro⟨mU,pn,po,p6⟩ _ h;refine V.cp ab 2 0 h tT [0,0,0] [] id [0,0,0] U a6 a6 ?_;rintro⟨m,BF⟩ d h
    try dsimp only at h
    exact V.a5 ab 1 0 h d [1,2,0] U
   exact V.a5 ab 1 0 h a [1,2,0] U
  rintro⟨qD,q_,Hl,VQ,VR,zI⟩ VU h;refine V.cp ab 2 0 h (Pu c) [2,0,0] [] id [0,0,0] U a6 a6 λVS e h=>?_;cases h;exact V.oC ab 1 0 e [0,0,0] U
def PJ(R:bh)(g:an->Option (bo an an))(f:an->Option (bo an an)):an->Option (bo an an):=λ(h,i,j,k,l,m)=>
 (ba (R.kg (h,i,j,k,l,m) 3 false) (λx=>x) λ(o,c)=>(ba (nb c ([116,104,101,110]:aa)) (λx=>(x.1,x.2.1,c.2.2.1,x.2.2.2.1,c.2.2.2.2.1,x.2.2.2.2.2)) λ(d:an)=>(ba (R.kg (d.1,d.2.1,c.2.2.1,d.2.2.2.1,c.2.2.2.2.1,d.2.2.2.2.2) 4 false) (λx=>x) λ(p,a)=>(ba (pa a ([101,108,105,102]:aa)) (λx=>(x.1,x.2.1,a.2.2.1,x.2.2.2.1,a.2.2.2.2.1,x.2.2.2.2.2)) λ(n,b)=>(bif(!n) then g (b.1,b.2.1,a.2.2.1,b.2.2.2.1,a.2.2.2.2.1,b.2.2.2.2.2) else(ba (nb (b.1,b.2.1,a.2.2.1,b.2.2.2.1,a.2.2.2.2.1,b.2.2.2.2.2) ([101,108,105,102]:aa)) (λx=>(x.1,x.2.1,a.2.2.1,x.2.2.2.1,a.2.2.2.2.1,x.2.2.2.2.2)) λ(e:an)=>f (e.1,e.2.1,a.2.2.1,e.2.2.2.1,a.2.2.2.2.1,e.2.2.2.2.2)))))))
def DY(R:bh)(x0:an):Option (bo an an):=
 (a9 (λ((j,k,b,l,c,m):an)=>(a9 (λ((n,o,g,p,h,q):an)=>(ba (nb (n,o,g,p,h,q) ([102,105]:aa)) (λx=>(x.1,x.2.1,g,x.2.2.2.1,h,x.2.2.2.2.2)) λ(e:an)=>some (.inr (e.1,e.2.1,g,e.2.2.2.1,h,e.2.2.2.2.2)))) λi=>(ba (pa (j,k,b,l,c,m) ([101,108,115,101]:aa)) (λx=>(x.1,x.2.1,b,x.2.2.2.1,c,x.2.2.2.2.2)) λ(r,a)=>(bif r then(ba (nb (a.1,a.2.1,b,a.2.2.2.1,c,a.2.2.2.2.2) ([101,108,115,101]:aa)) (λx=>(x.1,x.2.1,b,x.2.2.2.1,c,x.2.2.2.2.2)) λ(f:an)=>(ba (R.kg (f.1,f.2.1,b,f.2.2.2.1,c,f.2.2.2.2.2) 5 false) (λx=>x) λ(t,d)=>i (d.1,d.2.1,d.2.2.1,d.2.2.2.1,d.2.2.2.2.1,d.2.2.2.2.2))) else i (a.1,a.2.1,b,a.2.2.2.1,c,a.2.2.2.2.2))))) λs=>(fixF (PJ R s) bC (x0.1,x0.2.1,x0.2.2.1,x0.2.2.2.1,x0.2.2.2.2.1,x0.2.2.2.2.2)))
theorem afq{R:bh}(b:hZ R){x0:an}{a2:bL}{Q:bt}{r:bo an an}(h:DY R x0=some r):
  iZ Tryz.prog 110 [.pointer a2] [] (ee a2 x0 Q) (λr (q:bt)=>ju 39 r λr=> .tuple #[]) (λr q=>ee a2 (jS r) q) r:=
 by
  refine V.jU (T:=ck) Tryz.call110 Tryz.func110 U λ_ _=>?_;unfold DY at h;refine V.c8 ab 1 0 h (ρ:=bt) (λs q=>[(0,.bj ⟨a2,1,1⟩ 0)]) .nil (λs q=>kH a2 s q) U ?_ ?_
  ·intro i _ h;refine V.e7 ab 0 0 h (ρ:=bt) (λs q=>[(0,.bj ⟨a2,1,1⟩ 0)]) .nil (λs q=>kH a2 s q) Q [1,2,0] U ?_;rintro e ⟨j,k,l,m,n,o⟩ p h;rw[PJ] at h;refine V.cp ab 4 0 h b.kg [2,0,0] [] id [0,0,0] U a6 a6 ?_;rintro⟨t,u⟩ f h;refine V.cp ab 4 0 h wF [0] [] (λ_=>f) [0,0,0] U a6 a6 λv _ h=>?_;refine V.cp ab 4 0 h b.kg [0,0,0] [] id [0,0,0] U a6 a6 ?_;rintro⟨w,x⟩ a h;refine V.cp ab 5 0 h pc [0] [] (λ_=>a) [0,0,0] U a6 a6 ?_;rintro⟨y,z⟩ _ h;refine V.co ab 2 0 h U (λh=>?_) (λh=>?_)
   ·exact V.a5 ab 1 0 h a [1,2,0] U
   refine V.cp ab 3 0 h wF [0] [] (λ_=>a) [0,0,0] U a6 a6 λA _ h=>?_;exact V.el ab 2 0 h a [1,2,0] U
  rintro⟨B,C,D,E,F,G⟩ c h;refine V.e6 ab 0 0 h (ρ:=bt) (λs q=>[(0,.bj ⟨a2,1,1⟩ 0)]) .nil (λs q=>kH a2 s q) U ?_ ?_
  ·intro H _ h;refine V.cp ab 3 0 h pc [2] [] (λ_=>c) [0,0,0] U a6 a6 ?_;rintro⟨I,J⟩ _ h;refine V.co ab 1 0 h U (λh=>?_) (λh=>?_)
   ·refine V.cp ab 3 0 h wF [0] [] (λ_=>c) [0,0,0] U a6 a6 λK _ h=>?_;refine V.cp ab 3 0 h b.kg [0,0,0] [] id [0,0,0] U a6 a6 ?_;rintro⟨L,M⟩ g h
    try dsimp only at h
    exact V.a5 ab 1 0 h g [1,2,0] U
   exact V.a5 ab 1 0 h c [1,2,0] U
  rintro⟨N,O,P,S,W,X⟩ d h;refine V.cp ab 2 0 h wF [2] [] (λ_=>d) [0,0,0] U a6 a6 λY _ h=>?_;cases h;exact V.oC ab 1 0 d [0,0,0] U
def BG(R:bh)(x0:an):Option (bo an an):=
 (ba (lU x0) (λx=>(x.1,x.2.1,x0.2.2.1,x.2.2.2.1,x0.2.2.2.2.1,x.2.2.2.2.2)) λ(b,d)=>(ba (x1 (d.1,d.2.1,x0.2.2.1,d.2.2.2.1,x0.2.2.2.2.1,d.2.2.2.2.2) d.2.1 b.2.1) (λx=>x) λ(a:an)=>(a9 (λ((i,j,k,l,m,n):an)=>(av (tV (i,j,k,l,m,n)) λ(o:an)=>some (.inr o))) λc=>(bif(decide (b.2.1=([40]:aa))) then(ba (R.kg (a.1,(W (a.2.1+(b.2.1.length:Int))),a.2.2) 1 false) (λx=>x) λ(y23,e)=>(ba (rV e ([41]:aa)) (λx=>(x.1,x.2.1,e.2.2.1,x.2.2.2.1,e.2.2.2.2.1,x.2.2.2.2.2)) λ(g:an)=>c (g.1,g.2.1,e.2.2.1,g.2.2.2.1,e.2.2.2.2.1,g.2.2.2.2.2))) else(bif(decide (b.2.1=([123]:aa))) then(ba (R.kg (a.1,(W (a.2.1+(b.2.1.length:Int))),a.2.2) 2 false) (λx=>x) λ(u,f)=>(ba (nb f ([125]:aa)) (λx=>(x.1,x.2.1,f.2.2.1,x.2.2.2.1,f.2.2.2.2.1,x.2.2.2.2.2)) λ(h:an)=>c (h.1,h.2.1,f.2.2.1,h.2.2.2.1,f.2.2.2.2.1,h.2.2.2.2.2))) else(bif(decide (b.2.1=([105,102]:aa))) then(ba (DY R (a.1,(W (a.2.1+(b.2.1.length:Int))),a.2.2)) (λx=>x) λ(p:an)=>c p) else(bif(decide (b.2.1=([102,111,114]:aa))) then(ba (DW R (a.1,(W (a.2.1+(b.2.1.length:Int))),a.2.2)) (λx=>x) λ(q:an)=>c q) else(bif(decide (b.2.1=([99,97,115,101]:aa))) then(ba (DT R (a.1,(W (a.2.1+(b.2.1.length:Int))),a.2.2)) (λx=>x) λ(r:an)=>c r) else(ba (R.kg (a.1,(W (a.2.1+(b.2.1.length:Int))),a.2.2) 6 false) (λx=>x) λ(v,s)=>(ba (sY R s) (λx=>x) λ(t:an)=>c t))))))))))
theorem VY{R:bh}(a:hZ R){x0:an}{a2:bL}{Q:bt}{r:bo an an}(h:BG R x0=some r):
  iZ Tryz.prog 87 [.pointer a2] [] (ee a2 x0 Q) (λr (q:bt)=>ju 39 r λr=> .tuple #[]) (λr q=>ee a2 (jS r) q) r:=
 by
  refine V.jU (T:=ck) Tryz.call87 Tryz.func87 U λ_ _=>?_;unfold BG at h;refine V.cp ab 3 0 h qz [0] [] (λ_=>Q) [0,0,0] U a6 a6 ?_;rintro⟨j,k⟩ _ h;refine V.cp ab 11 0 h Kr [0,0,0] [] id [0,0,0] ⟨U,U,U,U⟩ a6 a6 λl m h=>?_;refine V.c8 ab 19 0 h (ρ:=bt) (λs q=>[(0,.bj ⟨a2,1,1⟩ 0)]) .nil (λs q=>kH a2 s q) ⟨U,U,U,U,U,U,U⟩ ?_ ?_
  ·intro n _ h;refine V.co ab 5 0 h U (λh=>?_) (λh=>?_)
   ·refine V.cp ab 3 0 h a.kg [0,0,0] [] id [0,0,0] U a6 a6 ?_;rintro⟨y23,o⟩ b h;refine V.cp ab 3 0 h Kt [0] [] (λ_=>b) [0,0,0] U a6 a6 λp _ h=>?_
    try dsimp only at h
    exact V.a5 ab 2 0 h b [1,2,0] U
   refine V.co ab 5 0 h U (λh=>?_) (λh=>?_)
   ·refine V.cp ab 3 0 h a.kg [0,0,0] [] id [0,0,0] U a6 a6 ?_;rintro⟨t,u⟩ c h;refine V.cp ab 3 0 h wF [0] [] (λ_=>c) [0,0,0] U a6 a6 λv _ h=>?_
    try dsimp only at h
    exact V.a5 ab 2 0 h c [1,2,0] U
   refine V.co ab 5 0 h U (λh=>?_) (λh=>?_)
   ·refine V.cp ab 2 0 h (afq a) [0,0,0] [] id [0,0,0] U a6 a6 λw d h=>?_;exact V.a5 ab 2 0 h d [1,2,0] U
   refine V.co ab 5 0 h U (λh=>?_) (λh=>?_)
   ·refine V.cp ab 2 0 h (afm a) [0,0,0] [] id [0,0,0] U a6 a6 λx e h=>?_;exact V.a5 ab 2 0 h e [1,2,0] U
   refine V.co ab 5 0 h U (λh=>?_) (λh=>?_)
   ·refine V.cp ab 2 0 h (afe a) [0,0,0] [] id [0,0,0] U a6 a6 λy f h=>?_;exact V.a5 ab 2 0 h f [1,2,0] U
   refine V.cp ab 3 0 h a.kg [0,0,0] [] id [0,0,0] U a6 a6 ?_;rintro⟨z,A⟩ B h;refine V.cp ab 3 0 h (Pu a) [0,0,0] [] id [0,0,0] U a6 a6 λC g h=>?_;exact V.a5 ab 2 0 h g [1,2,0] U
  rintro⟨D,E,F,G,H,I⟩ J h;refine V.bI ab 2 0 h Ku [2,0,0] [] U λK i h=>?_;cases h;exact V.oC ab 1 0 i [0,0,0] U
def Hn(x0:aa)(b:Unit->Option Bool)(c:Int->Option Bool):Int->Option Bool:=λa=>
 (bif(decide (a<(x0.length:Int))) then(a8 (0<=a/\a<(x0.length:Int))<|(av (DV ((at' x0 a).toNat:Int)) λ(d:Bool)=>(bif(!d) then some false else c (W (a+1))))) else b ())
def D0(x0:aa):Option Bool:=
 (a9 (λ(_:Unit)=>some (!(decide (x0=[])))) λa=>(fixF (Hn x0 a) bC 0))
theorem afr{x0:aa}{r:Bool}(h:D0 x0=some r):
  FC Tryz.prog 116 [.string (a7 x0)] [] (λ_:Unit=>True) (λ_=> .bool r) (λ_=>[]):=
 by
  refine V.fE (T:=ck) Tryz.call116 Tryz.func116 U λ_=>?_;unfold D0 at h;refine V.c8 ab 9 0 h (ρ:=Unit) (λs q=>[(0,.v (.string (a7 x0)))]) .nil (λs q=>[]) U ?_ ?_
  ·intro d _ h;refine V.e7 ab 0 0 h (ρ:=Unit) (λs q=>[(0,.v (.string (a7 x0))),(3,.v (.int .i64 s))]) .nil (λs q=>[]) () [] U ?_;rintro b a _ h;rw[Hn] at h;refine V.co ab 8 0 h U (λh=>?_) (λh=>?_)
   ·obtain⟨c,h⟩:=bG h;refine V.go ab 5 0 U ?_;refine V.cl (aJ.eE ab 4 [((at' x0 a).toNat:Int)] [] [(13,.v (.int .i64 ((at' x0 a).toNat:Int)))] _ U ⟨c,⟨trivial,JU _⟩,⟨U,trivial⟩,U⟩ (V.cz ?_));refine V.cI ab 0 0 h VO [] U λe _ h=>?_;refine V.co ab 2 0 h U (λh=>?_) (λh=>?_)
    ·cases h;exact V.rt ab 4 0 () [] U
    exact V.el ab 7 0 h () [] U
   exact V.a5 ab 1 0 h () [] U
  rintro _ _ h;cases h;exact V.rt ab 6 0 () [] U
def D1(x0:aa):Option Bool:=
 (av (Bt x0 ([60,60,45,32,60,60,32,60,38,32,60,62,32,62,62,32,62,38,32,62,124,32,60,32,62]:aa)) λ(a:Bool)=>some a)
theorem afs{x0:aa}{r:Bool}(h:D1 x0=some r):
  FC Tryz.prog 117 [.string (a7 x0)] [] (λ_:Unit=>True) (λ_=> .bool r) (λ_=>[]):=
 by refine V.fE (T:=ck) Tryz.call117 Tryz.func117 U λ_=>?_;unfold D1 at h;refine V.cI ab 7 0 h Pt [] U λa _ h=>?_;cases h;exact V.rt ab 2 0 () [] U
def r3(x0:aa)(f:Unit->Option (aa×Int))(d:(aa×Int)->Option (aa×Int)):(aa×Int)->Option (aa×Int):=λ(b,a)=>
 (bif(decide (a<(x0.length:Int))) then(a8 (0<=a/\a<(x0.length:Int))<|(a9 (λ((g,h):aa×Int)=>d (g,(W (h+1)))) λc=>(bif(decide (((at' x0 a).toNat:Int)=(34:Int))) then some (b,(W (a+1))) else(a9 (λ(i:Bool)=>(bif i then some ([],(-1)) else(bif(decide (((at' x0 a).toNat:Int)=(92:Int))) then(bif(decide ((W (a+1))=(x0.length:Int))) then some ([],(-1)) else(a8 (0<=(W (a+1))/\(W (a+1))<(x0.length:Int))<|(bif(bif(bif(bif(decide (((at' x0 (W (a+1))).toNat:Int)=(36:Int))) then true else(decide (((at' x0 (W (a+1))).toNat:Int)=(34:Int)))) then true else(decide (((at' x0 (W (a+1))).toNat:Int)=(92:Int)))) then true else(decide (((at' x0 (W (a+1))).toNat:Int)=(96:Int)))) then(a8 (b.length+([(at' x0 (W (a+1)))]:aa).length<=536870912)<|c ((b++([(at' x0 (W (a+1)))]:aa)),(W (a+1)))) else(bif(!(decide (((at' x0 (W (a+1))).toNat:Int)=(10:Int)))) then(a8 (b.length+([(92:UInt8),(at' x0 (W (a+1)))]:aa).length<=536870912)<|c ((b++([(92:UInt8),(at' x0 (W (a+1)))]:aa)),(W (a+1)))) else c (b,(W (a+1))))))) else(a8 (0<=a/\a<(x0.length:Int))<|(a8 (b.length+([(at' x0 a)]:aa).length<=536870912)<|c ((b++([(at' x0 a)]:aa)),a)))))) λe=>(bif(decide (((at' x0 a).toNat:Int)=(36:Int))) then e (decide (((at' x0 a).toNat:Int)=(36:Int))) else e (decide (((at' x0 a).toNat:Int)=(96:Int)))))))) else f ())
def BJ(x0:aa)(a:Int)(b:aa):Option (aa×Int):=
 (a9 (λ(_:Unit)=>some ([],(-1))) λc=>(fixF (r3 x0 c) bC (b,a)))
theorem V0{x0:aa}{j:Int}{d:aa}{e:bL}{f:Nat}{r:aa×Int}(h:BJ x0 j d=some r):
  gI Tryz.prog 138 [.string (a7 x0),.int .i64 j,.slice e d.length f] [] [lM e d f] (λ_:bL×Nat=>True) (λq=> .tuple #[.slice q.1 r.1.length q.2,.int .i64 r.2]) (λq=>[lM q.1 r.1 q.2]):=
 by
  refine V.jm (T:=ck) Tryz.call138 Tryz.func138 U λ_ _=>?_;unfold BJ at h;refine V.c8 ab 11 0 h (ρ:=Unit) (λs q=>[]) .nil (λs q=>[]) U ?_ ?_
  ·intro C _ h;refine V.e7 ab 0 0 h (ρ:=bL×Nat) (λs q=>[(0,.v (.string (a7 x0))),(2,.v (.slice q.1 s.1.length q.2)),(8,.v (.int .i64 s.2))]) .nil (λs q=>[lM q.1 s.1 q.2]) (e,f) [0] U ?_;rintro l ⟨k,a⟩ ⟨b,c⟩ h;rw[r3] at h;refine V.co ab 8 0 h U (λh=>?_) (λh=>?_)
   ·obtain⟨m,h⟩:=bG h;refine V.c8 ab 9 0 h (ρ:=bL×Nat) (λs q=>[(0,.v (.string (a7 x0))),(2,.v (.slice q.1 s.1.length q.2)),(8,.v (.int .i64 s.2))]) .nil (λs q=>[lM q.1 s.1 q.2]) ⟨m,U⟩ ?_ ?_
    ·intro D _ h;refine V.co ab 5 0 h U (λh=>?_) (λh=>?_)
     ·cases h;exact V.rx ab 8 0 (b,c) [0] U
     refine V.e6 ab 0 0 h (ρ:=Unit) (λs q=>[(0,.v (.string (a7 x0))),(2,.v (.slice b k.length c)),(8,.v (.int .i64 a)),(19,.v (.int .u8 ((at' x0 a).toNat:Int))),(31,.v (.bool s))]) .nil (λs q=>[lM b k c]) U ?_ ?_
     ·intro E _ h;refine V.co ab 5 0 h U (λh=>?_) (λh=>?_)
      ·exact V.a5 ab 1 0 h () [0] U
      exact V.a5 ab 4 0 h () [0] U
     rintro F _ h;refine V.co ab 0 0 h U (λh=>?_) (λh=>?_)
     ·cases h;refine V.go ab 5 0 U ?_;refine V.jT (aR.pV .byte bA.nil U U (V.iA ?_));exact V.rx ab 0 0 (none,0) [0] U
     refine V.co ab 5 0 h U (λh=>?_) (λh=>?_)
     ·refine V.co ab 14 0 h U (λh=>?_) (λh=>?_)
      ·cases h;refine V.go ab 5 0 U ?_;refine V.jT (aR.pV .byte bA.nil U U (V.iA ?_));exact V.rx ab 0 0 (none,0) [0] U
      obtain⟨n,h⟩:=bG h;refine V.co ab 25 0 h ⟨n,U⟩ (λh=>?_) (λh=>?_)
      ·refine V.go ab 3 0 U ?_;refine V.cl (aJ.kt U (cK.buildSlice ab U U U U U U U U U U U [] U .byte [(at' x0 (W (a+1)))] ⟨U,U⟩ U U λG=>aJ.ku (V.cz ?_)));obtain⟨o,h⟩:=bG h;refine V.cl (aJ.qw ab U U U U ⟨U,U,U,U,trivial,U,U,U,U⟩ U U U [1] U 0 U o U λp t=>V.cz ?_);exact V.a5 ab 3 0 h (p,t) [0] U
      refine V.co ab 5 0 h U (λh=>?_) (λh=>?_)
      ·refine V.go ab 3 0 U ?_;refine V.cl (aJ.kt U (cK.buildSlice ab U U U U U U U U U U U [] U .byte [(92:UInt8),(at' x0 (W (a+1)))] ⟨U,U⟩ U U λH=>aJ.ku (V.cz ?_)));obtain⟨u,h⟩:=bG h;refine V.cl (aJ.qw ab U U U U ⟨U,U,U,U,trivial,U,U,U,U⟩ U U U [1] U 0 U u U λv w=>V.cz ?_);exact V.a5 ab 3 0 h (v,w) [0] U
      exact V.a5 ab 2 0 h (b,c) [0] U
     obtain⟨x,h⟩:=bG h;refine V.go ab 5 0 ⟨x,U⟩ ?_;refine V.cl (aJ.kt U (cK.buildSlice ab U U U U U U U U U U U [] U .byte [(at' x0 a)] ⟨U,U⟩ U U λy=>aJ.ku (V.cz ?_)));obtain⟨z,h⟩:=bG h;refine V.cl (aJ.qw ab U U U U ⟨U,U,U,U,trivial,U,U,U,U⟩ U U U [1] U 0 U z U λA B=>V.cz ?_);exact V.a5 ab 3 0 h (A,B) [0] U
    rintro⟨I,J⟩ ⟨g,i⟩ h
    try dsimp only at h
    exact V.el ab 6 0 h (g,i) [0] U
   exact V.a5 ab 1 0 h () [] U
  rintro _ _ h;cases h;refine V.go ab 5 0 U ?_;refine V.jT (aR.pV .byte bA.nil U U (V.iA ?_));exact V.rx ab 0 0 (none,0) [0] U
def PR(x0:aa)(a:aa):Option Bool:=match a with
 |[c]=>some (decide (0<=Lib.indexByte x0 c))
 |_=>none
theorem afw{x0:aa}{a:aa}{r:Bool}(h:PR x0 a=some r):pQ Tryz.prog 162 [.string (a7 x0),.string (a7 a)] [] (.bool r):=by
 match a,h with
 |[c],h=>cases h;refine pQ.GC Tryz.call162 λw=>?_;exact Tryz.strings_Contains_one (a7 x0) c w
 |[],h=>cases h
 |_::_::_,h=>cases h
def BK(x0:aa)(h:aa->Option (aa×Bool))(i:(aa×Int)->Option (aa×Bool)):(aa×Int)->Option (aa×Bool):=λ(b,a)=>
 (bif(decide (a<(x0.length:Int))) then(a8 (0<=a/\a<(x0.length:Int))<|(a9 (λ((j,k):aa×Int)=>i (j,k)) λd=>(bif(decide (((at' x0 a).toNat:Int)=(92:Int))) then(bif(decide ((W (a+1))=(x0.length:Int))) then some ([],false) else(a9 (λ(l:aa)=>d (l,(W (a+2)))) λe=>(a8 (0<=(W (a+1))/\(W (a+1))<(x0.length:Int))<|(bif(!(decide (((at' x0 (W (a+1))).toNat:Int)=(10:Int)))) then(a8 (0<=(W (a+1))/\(W (a+1))<(x0.length:Int))<|(a8 (b.length+([(at' x0 (W (a+1)))]:aa).length<=536870912)<|e (b++([(at' x0 (W (a+1)))]:aa)))) else e b)))) else(bif(decide (((at' x0 a).toNat:Int)=(39:Int))) then(av (vh x0 (W (a+1))) λ(c:Int)=>(bif(decide (c<0)) then some ([],false) else(a8 (0<=(W (a+1))/\(W (a+1))<=(W (c-1))/\(W (c-1))<=(x0.length:Int))<|(a8 (b.length+(b9 x0 (W (a+1)) (W (c-1))).length<=536870912)<|d ((b++(b9 x0 (W (a+1)) (W (c-1)))),c))))) else(bif(decide (((at' x0 a).toNat:Int)=(34:Int))) then(av (BJ x0 (W (a+1)) b) λ(m,f)=>(bif(decide (f<0)) then some ([],false) else d (m,f))) else(a9 (λ(n:Bool)=>(bif n then some ([],false) else(a8 (0<=a/\a<(x0.length:Int))<|(a8 (b.length+([(at' x0 a)]:aa).length<=536870912)<|d ((b++([(at' x0 a)]:aa)),(W (a+1))))))) λg=>(bif(decide (((at' x0 a).toNat:Int)=(36:Int))) then g (decide (((at' x0 a).toNat:Int)=(36:Int))) else g (decide (((at' x0 a).toNat:Int)=(96:Int)))))))))) else h b)
def wI(x0:aa):Option (aa×Bool):=
 (a9 (λ(a:aa)=>(av (PR a ([10]:aa)) λ(b:Bool)=>(bif b then some ([],false) else some (a,true)))) λc=>(fixF (BK x0 c) bC (([]:aa),0)))
theorem afx{x0:aa}{r:aa×Bool}(h:wI x0=some r):
  FC Tryz.prog 139 [.string (a7 x0)] [] (λ_:Unit=>True) (λ_=> .tuple #[.string (a7 r.1),.bool r.2]) (λ_=>[]):=
 by
  refine V.fE (T:=ck) Tryz.call139 Tryz.func139 U λ_=>?_;unfold wI at h;refine V.c8 ab 14 0 h (ρ:=bL×Nat) (λs q=>[(4,.v (.slice q.1 s.length q.2))]) .nil (λs q=>[lM q.1 s q.2]) U ?_ ?_
  ·intro E _ h;refine V.jT (aR.pV .byte bA.nil U U (V.iA ?_));refine V.e7 ab 0 0 h (ρ:=bL×Nat) (λs q=>[(0,.v (.string (a7 x0))),(4,.v (.slice q.1 s.1.length q.2)),(5,.v (.int .i64 s.2))]) .nil (λs q=>[lM q.1 s.1 q.2]) (none,0) [0] U ?_;rintro F ⟨k,a⟩ ⟨a3,b⟩ h;rw[BK] at h;refine V.co ab 8 0 h U (λh=>?_) (λh=>?_)
   ·obtain⟨l,h⟩:=bG h;refine V.c8 ab 8 0 h (ρ:=bL×Nat) (λs q=>[(0,.v (.string (a7 x0))),(4,.v (.slice q.1 s.1.length q.2)),(5,.v (.int .i64 s.2))]) .nil (λs q=>[lM q.1 s.1 q.2]) ⟨l,U⟩ ?_ ?_
    ·intro G _ h;refine V.co ab 5 0 h U (λh=>?_) (λh=>?_)
     ·refine V.co ab 9 0 h U (λh=>?_) (λh=>?_)
      ·cases h;exact V.rt ab 5 0 () [] U
      refine V.e6 ab 1 0 h (ρ:=bL×Nat) (λs q=>[(0,.v (.string (a7 x0))),(4,.v (.slice q.1 s.length q.2)),(5,.v (.int .i64 a))]) .nil (λs q=>[lM q.1 s q.2]) U ?_ ?_
      ·intro H _ h;obtain⟨m,h⟩:=bG h;refine V.co ab 8 0 h ⟨m,U⟩ (λh=>?_) (λh=>?_)
       ·obtain⟨n,h⟩:=bG h;refine V.go ab 6 0 ⟨n,U⟩ ?_;refine V.cl (aJ.kt U (cK.buildSlice ab U U U U U U U U U U U [] U .byte [(at' x0 (W (a+1)))] ⟨U,U⟩ U U λo=>aJ.ku (V.cz ?_)));obtain⟨p,h⟩:=bG h;refine V.cl (aJ.qw ab U U U U ⟨U,U,U,U,trivial,U,U,U,U⟩ U U U [1] U 0 U p U λc d=>V.cz ?_);exact V.a5 ab 2 0 h (c,d) [0] U
       exact V.a5 ab 1 0 h (a3,b) [0] U
      rintro I ⟨t,u⟩ h
      try dsimp only at h
      exact V.a5 ab 6 0 h (t,u) [0] U
     refine V.co ab 5 0 h U (λh=>?_) (λh=>?_)
     ·refine V.cI ab 5 0 h PA [] U λJ _ h=>?_;refine V.co ab 8 0 h U (λh=>?_) (λh=>?_)
      ·cases h;exact V.rt ab 5 0 () [] U
      obtain⟨v,h⟩:=bG h;obtain⟨w,h⟩:=bG h;refine V.go ab 10 0 ⟨v,U⟩ ?_;refine V.cl (aJ.adm ab U U U U ⟨U,U,U,U,trivial,U,U,U,U⟩ U U [0] U w U λx y=>V.cz ?_);exact V.a5 ab 7 0 h (x,y) [0] U
     refine V.co ab 5 0 h U (λh=>?_) (λh=>?_)
     ·refine V.bI ab 6 0 h V0 [0] [] U ?_;rintro⟨K,L⟩ ⟨z,A⟩ h;refine V.co ab 12 0 h U (λh=>?_) (λh=>?_)
      ·cases h;exact V.rt ab 5 0 () [] U
      exact V.a5 ab 11 0 h (z,A) [0] U
     refine V.e6 ab 0 0 h (ρ:=Unit) (λs q=>[(0,.v (.string (a7 x0))),(4,.v (.slice a3 k.length b)),(5,.v (.int .i64 a)),(77,.v (.bool s))]) .nil (λs q=>[lM a3 k b]) U ?_ ?_
     ·intro M _ h;refine V.co ab 5 0 h U (λh=>?_) (λh=>?_)
      ·exact V.a5 ab 1 0 h () [0] U
      exact V.a5 ab 4 0 h () [0] U
     rintro N _ h;refine V.co ab 0 0 h U (λh=>?_) (λh=>?_)
     ·cases h;exact V.rt ab 5 0 () [] U
     obtain⟨B,h⟩:=bG h;refine V.go ab 6 0 ⟨B,U⟩ ?_;refine V.cl (aJ.kt U (cK.buildSlice ab U U U U U U U U U U U [] U .byte [(at' x0 a)] ⟨U,U⟩ U U λO=>aJ.ku (V.cz ?_)));obtain⟨e,h⟩:=bG h;refine V.cl (aJ.qw ab U U U U ⟨U,U,U,U,trivial,U,U,U,U⟩ U U U [1] U 0 U e U λf g=>V.cz ?_);exact V.a5 ab 8 0 h (f,g) [0] U
    rintro⟨P,Q⟩ ⟨i,j⟩ h
    try dsimp only at h
    exact V.el ab 1 0 h (i,j) [0] U
   exact V.a5 ab 1 0 h (a3,b) [0] U
  rintro R ⟨C,D⟩ h;refine V.go ab 3 0 U ?_;refine V.cl (aJ.strOf ab U U U U U U U U 0 U U (V.cz ?_));refine V.cI ab 6 0 h afw [] U λS _ h=>?_;refine V.co ab 1 0 h U (λh=>?_) (λh=>?_)
  ·cases h;exact V.rt ab 5 0 () [] U
  cases h;exact V.rt ab 7 0 () [] U
def x6(x0:an)(b:aa)(f:Int)(g:Int)(h:Int)(m:(aa×Int)->Option (bo an an))(e:(aa×Int)->Option (bo an an)):(aa×Int)->Option (bo an an):=λ(c,a)=>
 (av (wx b a) λ(n:Bool)=>(bif(bif(!n) then(decide (c=[])) else false) then(a8 (0<=a/\a<(b.length:Int))<|(a9 (λ((o,p):aa×Int)=>e (o,p)) λd=>(bif(decide (((at' b a).toNat:Int)=(92:Int))) then d (c,(W (a+2))) else(bif(decide (((at' b a).toNat:Int)=(39:Int))) then(av (vh b (W (a+1))) λ(i:Int)=>(a9 (λ(_:Unit)=>d (c,i)) λq=>(bif(decide (i<0)) then ba (xZ (b,a,x0.2.2.1,g,x0.2.2.2.2.1,h) f) (λx=>(x.1,x.2.1,x0.2.2.1,x.2.2.2.1,x0.2.2.2.2.1,x.2.2.2.2.2)) λy=>Empty.elim y else q ()))) else(a9 (λ(r:Bool)=>(bif r then ba (xZ (b,a,x0.2.2.1,g,x0.2.2.2.2.1,h) f) (λx=>(x.1,x.2.1,x0.2.2.1,x.2.2.2.1,x0.2.2.2.2.1,x.2.2.2.2.2)) λy=>Empty.elim y else(bif(decide (((at' b a).toNat:Int)=(34:Int))) then(av (BJ b (W (a+1)) ([]:aa)) λ(u,j)=>(a9 (λ((s,t):aa×Int)=>d (s,t)) λk=>(bif(decide (j<0)) then k (([34]:aa),(b.length:Int)) else k (c,j)))) else d (c,(W (a+1)))))) λl=>(bif(decide (((at' b a).toNat:Int)=(36:Int))) then l (decide (((at' b a).toNat:Int)=(36:Int))) else l (decide (((at' b a).toNat:Int)=(96:Int))))))))) else m (c,a)))
def x7(x0:an)(h:Bool):Option (bo an an):=
 (a9 (λ((a,d,f,g):aa×Int×Int×Int)=>(a9 (λ((i,b):aa×Int)=>(a8 (0<=d/\d<=(min b (a.length:Int))/\(min b (a.length:Int))<=(a.length:Int))<|(a8 ((((b9 a d (min b (a.length:Int))).length+i.length:Nat):Int)<=9223372036854775807)<|(av (wI ((b9 a d (min b (a.length:Int)))++i)) λ(e,j)=>(a9 (λ(_:Unit)=>(a9 (λ(_:Unit)=>(a9 (λ(_:Unit)=>(a8 (x0.2.2.1.length+([(e,h)]:aq).length<=536870912)<|some (.inr (a,b,(x0.2.2.1++([(e,h)]:aq)),f,x0.2.2.2.2.1,g)))) λk=>(bif(decide ((a.length:Int)<=b)) then ba (q6 (a,b,x0.2.2.1,f,x0.2.2.2.2.1,g)) (λx=>(x.1,x.2.1,x0.2.2.1,x.2.2.2.1,x0.2.2.2.2.1,x.2.2.2.2.2)) λy=>Empty.elim y else k ()))) λl=>(bif(!(decide (i=[]))) then ba (wB (a,b,x0.2.2.1,f,x0.2.2.2.2.1,g) i) (λx=>x) λy=>Empty.elim y else l ()))) λm=>(a8 (((bif h then(!(decide (e=[]))) else false)=true)->((!j)=false)->0<=(0:Int)/\0<(e.length:Int))<|(bif(bif(!j) then true else(bif(bif h then(!(decide (e=[]))) else false) then(decide (((at' e 0).toNat:Int)=(9:Int))) else false)) then ba (xZ (a,b,x0.2.2.1,f,x0.2.2.2.2.1,g) d) (λx=>(x.1,x.2.1,x0.2.2.1,x.2.2.2.1,x0.2.2.2.2.1,x.2.2.2.2.2)) λy=>Empty.elim y else m ()))))))) λn=>(fixF (x6 x0 a d f g n) bC ([],d)))) λo=>(ba (lU x0) (λx=>(x.1,x.2.1,x0.2.2.1,x.2.2.2.1,x0.2.2.2.2.1,x.2.2.2.2.2)) λ(p,c)=>(bif(!(decide (p.1=3))) then ba (ky (c.1,c.2.1,x0.2.2.1,c.2.2.2.1,x0.2.2.2.2.1,c.2.2.2.2.2)) (λx=>(x.1,x.2.1,x0.2.2.1,x.2.2.2.1,x0.2.2.2.2.1,x.2.2.2.2.2)) λy=>Empty.elim y else o (c.1,c.2.1,c.2.2.2.1,c.2.2.2.2.2))))
theorem afG{x0:an}{a:Bool}{a3:bL}{Q:bt}{r:bo an an}(h:x7 x0 a=some r):
  iZ Tryz.prog 118 [.pointer a3,.bool a] [] (ee a3 x0 Q) (λr (q:bt)=>ju 39 r λr=> .tuple #[]) (λr q=>ee a3 (jS r) q) r:=
 by
  refine V.jU (T:=ck) Tryz.call118 Tryz.func118 U λ_ _=>?_;unfold x7 at h;refine V.e6 ab 0 0 h (ρ:=Unit) (λs q=>[(0,.bj ⟨a3,1,1⟩ 0),(1,.v (.bool a))]) .nil (λs q=>ee a3 (s.1,s.2.1,x0.2.2.1,s.2.2.1,x0.2.2.2.2.1,s.2.2.2) Q) U ?_ ?_
  ·intro I _ h;refine V.cp ab 3 0 h qz [0] [] (λ_=>Q) [0,0,0] U a6 a6 ?_;rintro⟨J,K⟩ _ h;refine V.co ab 3 0 h U (λh=>?_) (λh=>?_)
   ·refine V.cp ab 2 0 h wE [0] [] (λ_=>Q) [0,0,0] U a6 a6 λy _ _=>y.elim
   exact V.a5 ab 1 0 h () [0,1,2] U
  rintro⟨b,f,c,d⟩ _ h;refine V.c8 ab 13 0 h (ρ:=Unit) (λs q=>[(0,.bj ⟨a3,1,1⟩ 0),(1,.v (.bool a)),(4,.v (.int .i64 f)),(5,.v (.string (a7 s.1)))]) .nil (λs q=>ee a3 (b,s.2,x0.2.2.1,c,x0.2.2.2.2.1,d) Q) ⟨U,U,U,U⟩ ?_ ?_
  ·intro L _ h;refine V.e7 ab 0 0 h (ρ:=Unit) (λs q=>[(0,.bj ⟨a3,1,1⟩ 0),(1,.v (.bool a)),(4,.v (.int .i64 f)),(5,.v (.string (a7 s.1)))]) .nil (λs q=>ee a3 (b,s.2,x0.2.2.1,c,x0.2.2.2.2.1,d) Q) () [0,1,2] U ?_;rintro x ⟨w,e⟩ _ h;rw[x6] at h;refine V.jl ab 2 0 U (by kernel_rfl) ?_;refine V.go ab 8 0 ⟨U,U,U,U,U,U,U⟩ ?_;obtain⟨M,j,h⟩:=jP h;refine V.toQ (kX.call U U U U (Ph j) U [] U U (V.sU ?_));refine V.co ab 6 0 h U (λh=>?_) (λh=>?_)
   ·obtain⟨z,h⟩:=bG h;refine V.jl ab 3 0 U (by kernel_rfl) ?_;refine V.c8 ab 10 0 h (ρ:=Unit) (λs q=>[(0,.bj ⟨a3,1,1⟩ 0),(1,.v (.bool a)),(4,.v (.int .i64 f)),(5,.v (.string (a7 s.1)))]) .nil (λs q=>ee a3 (b,s.2,x0.2.2.1,c,x0.2.2.2.2.1,d) Q) ⟨U,U,U,U,U,U,z,U⟩ ?_ ?_
    ·intro N _ h;refine V.co ab 5 0 h U (λh=>?_) (λh=>?_)
     ·exact V.a5 ab 11 0 h () [0,1,2] ⟨U,U,U,U,U,U,U⟩
     refine V.co ab 5 0 h U (λh=>?_) (λh=>?_)
     ·refine V.jl ab 1 0 U (by kernel_rfl) ?_;refine V.go ab 9 0 ⟨U,U,U,U,U,U,U⟩ ?_;obtain⟨A,B,h⟩:=jP h;refine V.toQ (kX.call U U U U (PA B) U [] U U (V.sU ?_));refine V.e6 ab 2 0 h (ρ:=Unit) (λs q=>[(0,.bj ⟨a3,1,1⟩ 0),(1,.v (.bool a)),(4,.v (.int .i64 f)),(5,.v (.string (a7 w))),(6,.v (.int .i64 A))]) .nil (λs q=>ee a3 (b,e,x0.2.2.1,c,x0.2.2.2.2.1,d) Q) U ?_ ?_
      ·intro O _ h;refine V.co ab 5 0 h U (λh=>?_) (λh=>?_)
       ·refine V.cp ab 3 0 h Bu [0] [] (λ_=>Q) [0,0,0] U a6 a6 λy _ _=>y.elim
       exact V.a5 ab 1 0 h () [0,1,2] U
      rintro _ _ h
      try dsimp only at h
      exact V.a5 ab 8 0 h () [0,1,2] ⟨U,U,U,U⟩
     refine V.e6 ab 0 0 h (ρ:=Unit) (λs q=>[(0,.bj ⟨a3,1,1⟩ 0),(1,.v (.bool a)),(4,.v (.int .i64 f)),(5,.v (.string (a7 w))),(43,.v (.int .u8 ((at' b e).toNat:Int))),(81,.v (.bool s))]) .nil (λs q=>ee a3 (b,e,x0.2.2.1,c,x0.2.2.2.2.1,d) Q) U ?_ ?_
     ·intro P _ h;refine V.co ab 5 0 h U (λh=>?_) (λh=>?_)
      ·exact V.a5 ab 1 0 h () [0,1,2] U
      exact V.a5 ab 4 0 h () [0,1,2] U
     rintro R _ h;refine V.co ab 0 0 h U (λh=>?_) (λh=>?_)
     ·refine V.cp ab 3 0 h Bu [0] [] (λ_=>Q) [0,0,0] U a6 a6 λy _ _=>y.elim
     refine V.co ab 5 0 h U (λh=>?_) (λh=>?_)
     ·refine V.go ab 1 0 U ?_;refine V.jT (aR.iY 0 U λg=>V.iA ?_);obtain⟨⟨S,C⟩,k,h⟩:=jP h;refine V.jT (aR.rQ U .nil [0] [9,10,11,12,13,14] trivial U (λD=>?_));refine bE.o9 ab q5 12 [0,4,5] U (by kernel_rfl) [] [(90,.bj ⟨a3,1,1⟩ 0),(95,.bj ⟨a3,1,1⟩ 0)] U ⟨(g.fQ fR).1,(fD U)⟩ (bE.eE ab q5 true 9 [1,2,6] U (by kernel_rfl) [] [(92,.bj ⟨a3,1,1⟩ 0),(96,.bj ⟨a3,1,1⟩ 1)] trivial [0] U U ⟨(g.fQ fR).1,g.fQ fR,g.fQ fR,(fD U)⟩ (bE.kG ab q5 3 U (by kernel_rfl) U U U U U 0 U U 0 0 (b,e,(bA.v ⟨Q.1,x0.2.2.1.length,Q.2.1⟩),c,(bA.v ⟨Q.2.2.1,x0.2.2.2.2.1.length,Q.2.2.2⟩),d) ⟨U,U⟩ U U U trivial [0] U (bE.kG ab q5 7 U (by kernel_rfl) U U U U U 0 U U 0 1 (b,e,(bA.v ⟨Q.1,x0.2.2.1.length,Q.2.1⟩),c,(bA.v ⟨Q.2.2.1,x0.2.2.2.2.1.length,Q.2.2.2⟩),d) ⟨U,U⟩ U U U trivial [0] U (bE.eE ab q5 true 6 [8] U (by kernel_rfl) [(W (e+1))] [(98,.v (.int .i64 (W (e+1))))] trivial [0] U U ⟨⟨trivial,U⟩,⟨U,trivial⟩⟩ (bE.one 9 (by kernel_rfl) (cK.pV .byte bA.nil U U (cK.pW U U U U (V0 k) U [0] U [] U U ?_)))))));rintro⟨E,F⟩-;refine bE.nC U (bE.o9 ab q5 0 [10,11,12,13,14] U (by kernel_rfl) [] [(8,.v (.int .i64 C))] U ⟨U,trivial⟩ (bE.done (by kernel_rfl) (aR.boxes (B':= .nil) trivial (V.iA ?_))));refine V.e6 ab 0 0 h (ρ:=Unit) (λs q=>[(0,.bj ⟨a3,1,1⟩ 0),(1,.v (.bool a)),(4,.v (.int .i64 f)),(5,.v (.string (a7 s.1))),(8,.v (.int .i64 s.2))]) .nil (λs q=>ee a3 (b,e,x0.2.2.1,c,x0.2.2.2.2.1,d) Q) U ?_ ?_
      ·intro X _ h;refine V.co ab 5 0 h U (λh=>?_) (λh=>?_)
       ·exact V.a5 ab 12 1 h () [1,2,3] ⟨U,U,U,U⟩
       exact V.a5 ab 1 0 h () [1,2,3] U
      rintro⟨Y,Z⟩ _ h
      try dsimp only at h
      exact V.a5 ab 8 0 h () [0,1,2] ⟨U,U,U,U⟩
     exact V.a5 ab 11 0 h () [0,1,2] ⟨U,U,U,U,U,U,U⟩
    rintro⟨lO,rf⟩ _ h
    try dsimp only at h
    exact V.el ab 1 0 h () [0,1,2] U
   exact V.a5 ab 1 0 h () [0,1,2] U
  rintro⟨G,l⟩ _ h;obtain⟨m,h⟩:=bG h;obtain⟨n,h⟩:=bG h;refine V.jl ab 1 0 U (by kernel_rfl) ?_;refine V.go ab 18 0 ⟨U,U,U,U,U,U,U,U,U,m,n,U⟩ ?_;obtain⟨⟨i,PX⟩,o,h⟩:=jP h;refine V.toQ (kX.call U U U U (afx o) U [] U U (V.sU ?_));refine V.e6 ab 6 0 h (ρ:=Unit) (λs q=>[(0,.bj ⟨a3,1,1⟩ 0),(1,.v (.bool a)),(5,.v (.string (a7 G))),(9,.v (.string (a7 i)))]) .nil (λs q=>ee a3 (b,l,x0.2.2.1,c,x0.2.2.2.2.1,d) Q) U ?_ ?_
  ·intro V5 _ h;obtain⟨p,h⟩:=bG h;refine V.co ab 17 0 h ⟨p,U⟩ (λh=>?_) (λh=>?_)
   ·refine V.cp ab 3 0 h Bu [0] [] (λ_=>Q) [0,0,0] U a6 a6 λy _ _=>y.elim
   exact V.a5 ab 1 0 h () [0,1,2] U
  rintro _ _ h;refine V.e6 ab 0 0 h (ρ:=Unit) (λs q=>[(0,.bj ⟨a3,1,1⟩ 0),(1,.v (.bool a)),(9,.v (.string (a7 i)))]) .nil (λs q=>ee a3 (b,l,x0.2.2.1,c,x0.2.2.2.2.1,d) Q) U ?_ ?_
  ·intro V4 _ h;refine V.co ab 5 0 h U (λh=>?_) (λh=>?_)
   ·refine V.cp ab 3 0 h G1 [0,0,0] [] id [0,0,0] U a6 a6 λy _ _=>y.elim
   exact V.a5 ab 1 0 h () [0,1,2] U
  rintro _ _ h;refine V.e6 ab 0 0 h (ρ:=Unit) (λs q=>[(0,.bj ⟨a3,1,1⟩ 0),(1,.v (.bool a)),(9,.v (.string (a7 i)))]) .nil (λs q=>ee a3 (b,l,x0.2.2.1,c,x0.2.2.2.2.1,d) Q) U ?_ ?_
  ·intro V3 _ h;refine V.jl ab 1 0 U (by kernel_rfl) ?_;refine V.co ab 11 0 h ⟨U,U,U,U,U,U,U⟩ (λh=>?_) (λh=>?_)
   ·refine V.cp ab 2 0 h DB [0] [] (λ_=>Q) [0,0,0] U a6 a6 λy _ _=>y.elim
   exact V.a5 ab 1 0 h () [0,1,2] U
  rintro _ _ h;refine V.go ab 9 0 ⟨U,U,U,U⟩ ?_;refine V.cl (aJ.kt U (cK.buildSlice ab U U U U U U U U U U U [] U (.pair .str .bool) [(i,a)] ⟨U,U⟩ U U λH=>aJ.ku (V.cz ?_)));obtain⟨t,h⟩:=bG h;refine V.cl (aJ.qw ab U U U U ⟨U,U,U,U,trivial,U,U,U,U⟩ U U U [2] U 0 U t U λu v=>V.cz ?_);cases h;exact V.oC ab 4 2 (u,v,Q.2.2) [0,0,1] ⟨U,U,U,U⟩
def x8(R:bh)(x0:an):Option (bo an (Bool×an)):=
 (ba (lU x0) (λx=>(x.1,x.2.1,x0.2.2.1,x.2.2.2.1,x0.2.2.2.2.1,x.2.2.2.2.2)) λ(b,a)=>(a9 (λ(d:Int)=>(av (zv a.1 d) λ(c:aa)=>(av (D1 c) λ(g:Bool)=>(bif(!g) then some (.inr (false,(a.1,a.2.1,x0.2.2.1,a.2.2.2.1,x0.2.2.2.2.1,a.2.2.2.2.2))) else(a9 (λ((h,i,j,k,l,m):an)=>some (.inr (true,(h,i,j,k,l,m)))) λe=>(bif(bif(decide (c=([60,60]:aa))) then true else(decide (c=([60,60,45]:aa)))) then(ba (x7 (a.1,(W (d+(c.length:Int))),x0.2.2.1,a.2.2.2.1,x0.2.2.2.2.1,a.2.2.2.2.2) (decide (c=([60,60,45]:aa)))) (λx=>x) λ(n:an)=>e n) else(ba (k5 R (a.1,(W (d+(c.length:Int))),x0.2.2.1,a.2.2.2.1,x0.2.2.2.2.1,a.2.2.2.2.2)) (λx=>x) λ(o:an)=>e o))))))) λf=>(cR ((bif(decide (b.1=3)) then b.2.2 else false)=true) (D0 b.2.1) false λ(p:Bool)=>(bif(bif(bif(decide (b.1=3)) then b.2.2 else false) then p else false) then f (W (a.2.1+(b.2.1.length:Int))) else f a.2.1))))
theorem PZ{R:bh}(d:hZ R){x0:an}{a2:bL}{Q:bt}{r:bo an (Bool×an)}(h:x8 R x0=some r):
  iZ Tryz.prog 90 [.pointer a2] [] (ee a2 x0 Q) (λr (q:bt)=>ju 39 r λr=> .bool r.1) (λr q=>ee a2 (l7 r) q) r:=
 by
  refine V.jU (T:=ck) Tryz.call90 Tryz.func90 U λ_ _=>?_;unfold x8 at h;refine V.cp ab 7 0 h qz [0] [] (λ_=>Q) [0,0,0] U a6 a6 ?_;rintro⟨b,a⟩ _ h;refine V.cl (aJ.oz ab 2 [] [8] [(3,.eU 8 0)] (.new 8 65 [.int .i64 b.1,.string (a7 b.2.1),.bool b.2.2] .nil) U ⟨⟨U,trivial⟩,(jk U U)⟩ (V.cz ?_));refine V.e6 ab 9 0 h (ρ:=Unit) (λs q=>[(0,.bj ⟨a2,1,1⟩ 0),(4,.v (.int .i64 s))]) .nil (λs q=>ee a2 (a.1,a.2.1,x0.2.2.1,a.2.2.2.1,x0.2.2.2.2.1,a.2.2.2.2.2) Q) ⟨U,U,U,U⟩ ?_ ?_
  ·intro g _ h;refine V.hX ab 12 0 h afr [] U (λ_=>id) λi h=>?_;refine V.co ab 2 0 h U (λh=>?_) (λh=>?_)
   ·exact V.a5 ab 8 0 h () [0,1,2] U
   exact V.a5 ab 1 0 h () [0,1,2] U
  rintro j _ h;refine V.cI ab 7 0 h Pg [] ⟨U,U,U,U⟩ λk _ h=>?_;refine V.cI ab 6 0 h afs [] U λl _ h=>?_;refine V.co ab 2 0 h U (λh=>?_) (λh=>?_)
  ·cases h;exact V.jR ab 4 0 Q [0,0,0] U
  refine V.e6 ab 12 0 h (ρ:=bt) (λs q=>[]) .nil (λs q=>kH a2 s q) ⟨U,U,U,U⟩ ?_ ?_
  ·intro m _ h;refine V.co ab 9 0 h U (λh=>?_) (λh=>?_)
   ·refine V.cp ab 4 0 h afG [0,0,0] [] id [0,0,0] U a6 a6 λn e h=>?_;exact V.a5 ab 1 0 h e [1,2,0] U
   refine V.cp ab 2 0 h (BA d) [0,0,0] [] id [0,0,0] U a6 a6 λo c h=>?_;exact V.a5 ab 1 0 h c [1,2,0] U
  rintro⟨p,t,u,v,w,x⟩ f h;cases h;exact V.jR ab 4 0 f [2,0,0] U
def P0(R:bh)(b:an->Option (bo an an))(c:an->Option (bo an an)):an->Option (bo an an):=λ(d,e,f,g,h,i)=>
 (ba (x8 R (d,e,f,g,h,i)) (λx=>x) λ(j,a)=>(bif j then c a else b a))
def D2(R:bh)(x0:an):Option (bo an an):=
 (a9 (λ((a,b,c,d,e,f):an)=>some (.inr (a,b,c,d,e,f))) λg=>(fixF (P0 R g) bC (x0.1,x0.2.1,x0.2.2.1,x0.2.2.2.1,x0.2.2.2.2.1,x0.2.2.2.2.2)))
theorem V6{R:bh}(b:hZ R){x0:an}{a2:bL}{Q:bt}{r:bo an an}(h:D2 R x0=some r):
  iZ Tryz.prog 88 [.pointer a2] [] (ee a2 x0 Q) (λr (q:bt)=>ju 39 r λr=> .tuple #[]) (λr q=>ee a2 (jS r) q) r:=
 by
  refine V.jU (T:=ck) Tryz.call88 Tryz.func88 U λ_ _=>?_;unfold D2 at h;refine V.c8 ab 0 0 h (ρ:=bt) (λs q=>[]) .nil (λs q=>kH a2 s q) U ?_ ?_
  ·intro d _ h;refine V.e7 ab 0 0 h (ρ:=bt) (λs q=>[(0,.bj ⟨a2,1,1⟩ 0)]) .nil (λs q=>kH a2 s q) Q [1,2,0] U ?_;rintro e ⟨f,g,i,j,k,l⟩ m h;rw[P0] at h;refine V.cp ab 4 0 h (PZ b) [2,0,0] [] id [0,0,0] U a6 a6 ?_;rintro⟨n,o⟩ a h;refine V.co ab 1 0 h U (λh=>?_) (λh=>?_)
   ·exact V.el ab 4 0 h a [1,2,0] U
   exact V.a5 ab 1 0 h a [1,2,0] U
  rintro⟨p,t,u,v,w,x⟩ c h;cases h;exact V.oC ab 0 0 c [2,0,0] U
def Hr(x0:aa):Option Bool:=
 (av (Bt x0 ([105,102,32,116,104,101,110,32,101,108,105,102,32,101,108,115,101,32,102,105,32,100,111,32,100,111,110,101,32,119,104,105,108,101,32,117,110,116,105,108,32,102,111,114,32,99,97,115,101,32,101,115,97,99,32,123,32,125,32,33]:aa)) λ(a:Bool)=>some a)
theorem afS{x0:aa}{r:Bool}(h:Hr x0=some r):
  FC Tryz.prog 89 [.string (a7 x0)] [] (λ_:Unit=>True) (λ_=> .bool r) (λ_=>[]):=
 by refine V.fE (T:=ck) Tryz.call89 Tryz.func89 U λ_=>?_;unfold Hr at h;refine V.cI ab 7 0 h Pt [] U λa _ h=>?_;cases h;exact V.rt ab 2 0 () [] U
def P2(R:bh)(d:an->Option (bo an an)):an->Option (bo an an):=λ(e,f,g,h,i,j)=>
 (a9 (λ((k,l,m,n,o,p):an)=>d (k,l,m,n,o,p)) λc=>(ba (x8 R (e,f,g,h,i,j)) (λx=>x) λ(q,a)=>(bif q then c a else(ba (lU a) (λx=>(x.1,x.2.1,a.2.2.1,x.2.2.2.1,a.2.2.2.2.1,x.2.2.2.2.2)) λ(r,b)=>(bif(!(decide (r.1=3))) then some (.inr (b.1,b.2.1,a.2.2.1,b.2.2.2.1,a.2.2.2.2.1,b.2.2.2.2.2)) else(ba (k5 R (b.1,b.2.1,a.2.2.1,b.2.2.2.1,a.2.2.2.2.1,b.2.2.2.2.2)) (λx=>x) λ(s:an)=>c s))))))
def zO(R:bh)(x0:an):Option (bo an an):=
 (fixF (P2 R) bC (x0.1,x0.2.1,x0.2.2.1,x0.2.2.2.1,x0.2.2.2.2.1,x0.2.2.2.2.2))
theorem V7{R:bh}(b:hZ R){x0:an}{a2:bL}{Q:bt}{r:bo an an}(h:zO R x0=some r):
  iZ Tryz.prog 91 [.pointer a2] [] (ee a2 x0 Q) (λr (q:bt)=>ju 39 r λr=> .tuple #[]) (λr q=>ee a2 (jS r) q) r:=
 by
  refine V.jU (T:=ck) Tryz.call91 Tryz.func91 U λ_ _=>?_;unfold zO at h;refine V.e7 ab 1 0 h (ρ:=bt) (λs q=>[(0,.bj ⟨a2,1,1⟩ 0)]) .nil (λs q=>kH a2 s q) Q [1,2,0] U ?_;rintro e ⟨f,g,i,j,k,l⟩ m h;rw[P2] at h;refine V.c8 ab 0 0 h (ρ:=bt) (λs q=>[(0,.bj ⟨a2,1,1⟩ 0)]) .nil (λs q=>kH a2 s q) U ?_ ?_
  ·intro n _ h;refine V.cp ab 4 0 h (PZ b) [2,0,0] [] id [0,0,0] U a6 a6 ?_;rintro⟨o,p⟩ a h;refine V.co ab 1 0 h U (λh=>?_) (λh=>?_)
   ·exact V.a5 ab 1 0 h a [1,2,0] U
   refine V.cp ab 5 0 h qz [0] [] (λ_=>a) [0,0,0] U a6 a6 ?_;rintro⟨t,u⟩ _ h;refine V.co ab 3 0 h U (λh=>?_) (λh=>?_)
   ·cases h;exact V.jR ab 0 0 a [0,0,0] U
   refine V.cp ab 3 0 h (BA b) [0,0,0] [] id [0,0,0] U a6 a6 λv c h=>?_;exact V.a5 ab 2 0 h c [1,2,0] U
  rintro⟨w,x,y,z,A,B⟩ d h
  try dsimp only at h
  exact V.el ab 0 0 h d [0,1,2] U
def Hs(R:bh)(x0:an):Option (bo an an):=
 (a9 (λ(_:Unit)=>(ba (x1 x0 x0.2.1 ([102,40,41]:aa)) (λx=>x) λ(c:an)=>(ba (rV (c.1,(W (c.2.1+1)),c.2.2) ([41]:aa)) (λx=>(x.1,x.2.1,c.2.2.1,x.2.2.2.1,c.2.2.2.2.1,x.2.2.2.2.2)) λ(d:an)=>(ba (k3 (d.1,d.2.1,c.2.2.1,d.2.2.2.1,c.2.2.2.2.1,d.2.2.2.2.2)) (λx=>x) λ(n,a)=>(a9 (λ((e,f,g,h):aa×Int×Int×Int)=>(ba (BG R (e,f,a.2.2.1,g,a.2.2.2.2.1,h)) (λx=>x) λ(i:an)=>(av (tV i) λ(j:an)=>some (.inr j)))) λk=>(ba (DM a) (λx=>(x.1,x.2.1,a.2.2.1,x.2.2.2.1,a.2.2.2.2.1,x.2.2.2.2.2)) λ(l,b)=>(bif(!l) then ba (ky (b.1,b.2.1,a.2.2.1,b.2.2.2.1,a.2.2.2.2.1,b.2.2.2.2.2)) (λx=>(x.1,x.2.1,a.2.2.1,x.2.2.2.1,a.2.2.2.2.1,x.2.2.2.2.2)) λy=>Empty.elim y else k (b.1,b.2.1,b.2.2.2.1,b.2.2.2.2.2)))))))) λm=>(bif(decide (30<(W (x0.2.2.2.1+2)))) then ba (xZ x0 x0.2.1) (λx=>(x.1,x.2.1,x0.2.2.1,x.2.2.2.1,x0.2.2.2.2.1,x.2.2.2.2.2)) λy=>Empty.elim y else m ()))
theorem afT{R:bh}(c:hZ R){x0:an}{a2:bL}{Q:bt}{r:bo an an}(h:Hs R x0=some r):
  iZ Tryz.prog 94 [.pointer a2] [] (ee a2 x0 Q) (λr (q:bt)=>ju 39 r λr=> .tuple #[]) (λr q=>ee a2 (jS r) q) r:=
 by
  refine V.jU (T:=ck) Tryz.call94 Tryz.func94 U λ_ _=>?_;unfold Hs at h;refine V.e6 ab 0 0 h (ρ:=Unit) (λs q=>[(0,.bj ⟨a2,1,1⟩ 0)]) .nil (λs q=>ee a2 x0 Q) U ?_ ?_
  ·intro f _ h;refine V.co ab 9 0 h ⟨U,U,U,U⟩ (λh=>?_) (λh=>?_)
   ·refine V.cp ab 6 0 h Bu [0] [] (λ_=>Q) [0,0,0] ⟨U,U,U,U⟩ a6 a6 λy _ _=>y.elim
   exact V.a5 ab 1 0 h () [0,1,2] U
  rintro _ _ h;refine V.cp ab 7 0 h Kr [0,0,0] [] id [0,0,0] ⟨U,U,U,U⟩ a6 a6 λg d h=>?_;refine V.cp ab 15 0 h Kt [0] [] (λ_=>d) [0,0,0] ⟨U,U,U,U,U,U,U⟩ a6 a6 λi _ h=>?_;refine V.cp ab 4 0 h tT [0,0,0] [] id [0,0,0] U a6 a6 ?_;rintro⟨j,b⟩ a h;refine V.e6 ab 1 0 h (ρ:=Unit) (λs q=>[(0,.bj ⟨a2,1,1⟩ 0)]) .nil (λs q=>ee a2 (s.1,s.2.1,b.2.2.1,s.2.2.1,b.2.2.2.2.1,s.2.2.2) a) U ?_ ?_
  ·intro k _ h;refine V.cp ab 3 0 h VD [0] [] (λ_=>a) [0,0,0] U a6 a6 ?_;rintro⟨l,m⟩ _ h;refine V.co ab 2 0 h U (λh=>?_) (λh=>?_)
   ·refine V.cp ab 2 0 h wE [0] [] (λ_=>a) [0,0,0] U a6 a6 λy _ _=>y.elim
   exact V.a5 ab 1 0 h () [0,1,2] U
  rintro⟨n,o,p,t⟩ _ h;refine V.cp ab 3 0 h (VY c) [0,0,0] [] id [0,0,0] U a6 a6 λu v h=>?_;refine V.bI ab 3 0 h Ku [0,0,0] [] U λw e h=>?_;cases h;exact V.oC ab 1 0 e [0,0,0] U
def zP(R:bh)(x0:an):Option (bo an an):=
 (ba (DM x0) (λx=>(x.1,x.2.1,x0.2.2.1,x.2.2.2.1,x0.2.2.2.2.1,x.2.2.2.2.2)) λ(h,b)=>(bif h then(ba (BG R (b.1,b.2.1,x0.2.2.1,b.2.2.2.1,x0.2.2.2.2.1,b.2.2.2.2.2)) (λx=>x) λ(i:an)=>(ba (D2 R i) (λx=>x) λ(j:an)=>some (.inr j))) else(ba (lU (b.1,b.2.1,x0.2.2.1,b.2.2.2.1,x0.2.2.2.2.1,b.2.2.2.2.2)) (λx=>(x.1,x.2.1,x0.2.2.1,x.2.2.2.1,x0.2.2.2.2.1,x.2.2.2.2.2)) λ(a,c)=>(a9 (λ(_:Unit)=>(ba (x8 R (c.1,c.2.1,x0.2.2.1,c.2.2.2.1,x0.2.2.2.2.1,c.2.2.2.2.2)) (λx=>x) λ(k,f)=>(bif k then(ba (zO R f) (λx=>x) λ(l:an)=>some (.inr l)) else(a9 (λ(_:Unit)=>(ba (k5 R f) (λx=>x) λ(d:an)=>(cR (a.2.2=true) (zH a.2.1) false λ(g:Bool)=>(m8 ((bif a.2.2 then g else false)=true) (na d ([40]:aa)) (λx=>(x.1,x.2.1,d.2.2.1,x.2.2.2.1,d.2.2.2.2.1,x.2.2.2.2.2)) (false,d) λ(m,e)=>(bif(bif(bif a.2.2 then g else false) then m else false) then(ba (Hs R (e.1,e.2.1,d.2.2.1,e.2.2.2.1,d.2.2.2.2.1,e.2.2.2.2.2)) (λx=>x) λ(n:an)=>(ba (D2 R n) (λx=>x) λ(o:an)=>some (.inr o))) else(ba (zO R (e.1,e.2.1,d.2.2.1,e.2.2.2.1,d.2.2.2.2.1,e.2.2.2.2.2)) (λx=>x) λ(p:an)=>some (.inr p))))))) λq=>(bif(!(decide (a.1=3))) then ba (ky f) (λx=>(x.1,x.2.1,f.2.2.1,x.2.2.2.1,f.2.2.2.2.1,x.2.2.2.2.2)) λy=>Empty.elim y else q ()))))) λr=>(cR ((bif(decide (a.1=3)) then a.2.2 else false)=true) (Hr a.2.1) false λ(s:Bool)=>(bif(bif(bif(decide (a.1=3)) then a.2.2 else false) then s else false) then ba (ky (c.1,c.2.1,x0.2.2.1,c.2.2.2.1,x0.2.2.2.2.1,c.2.2.2.2.2)) (λx=>(x.1,x.2.1,x0.2.2.1,x.2.2.2.1,x0.2.2.2.2.1,x.2.2.2.2.2)) λy=>Empty.elim y else r ()))))))
theorem V9{R:bh}(b:hZ R){x0:an}{a2:bL}{Q:bt}{r:bo an an}(h:zP R x0=some r):
  iZ Tryz.prog 73 [.pointer a2] [] (ee a2 x0 Q) (λr (q:bt)=>ju 39 r λr=> .tuple #[]) (λr q=>ee a2 (jS r) q) r:=
 by
  refine V.jU (T:=ck) Tryz.call73 Tryz.func73 U λ_ _=>?_;unfold zP at h;refine V.cp ab 4 0 h VD [0] [] (λ_=>Q) [0,0,0] U a6 a6 ?_;rintro⟨v,w⟩ _ h;refine V.co ab 1 0 h U (λh=>?_) (λh=>?_)
  ·refine V.cp ab 3 0 h (VY b) [0,0,0] [] id [0,0,0] U a6 a6 λx z h=>?_;refine V.cp ab 4 0 h (V6 b) [0,0,0] [] id [0,0,0] U a6 a6 λA l h=>?_;cases h;exact V.jR ab 1 0 l [0,0,0] U
  refine V.cp ab 4 0 h qz [0] [] (λ_=>Q) [0,0,0] U a6 a6 ?_;rintro⟨a,c⟩ _ h;refine V.cl (aJ.oz ab 2 [] [30] [(2,.eU 30 0)] (.new 30 65 [.int .i64 a.1,.string (a7 a.2.1),.bool a.2.2] .nil) U ⟨⟨U,trivial⟩,(jk U U)⟩ (V.cz ?_));refine V.e6 ab 1 0 h (ρ:=Unit) (λs q=>[(0,.bj ⟨a2,1,1⟩ 0),(2,.eU 30 0)]) (.new 30 65 [.int .i64 a.1,.string (a7 a.2.1),.bool a.2.2] .nil) (λs q=>ee a2 (c.1,c.2.1,x0.2.2.1,c.2.2.2.1,x0.2.2.2.2.1,c.2.2.2.2.2) Q) U ?_ ?_
  ·intro B _ h;refine V.hX ab 12 0 h afS [] U (λ_=>id) λC h=>?_;refine V.co ab 2 0 h U (λh=>?_) (λh=>?_)
   ·refine V.cp ab 2 0 h wE [0] [] (λ_=>Q) [0,0,0] U a6 a6 λy _ _=>y.elim
   exact V.a5 ab 1 0 h () [0,1,2] U
  rintro _ _ h;refine V.cp ab 4 0 h (PZ b) [0,0,0] [] id [0,0,0] U a6 a6 ?_;rintro⟨D,m⟩ k h;refine V.co ab 1 0 h U (λh=>?_) (λh=>?_)
  ·refine V.cp ab 3 0 h (V7 b) [0,0,0] [] id [0,0,0] U a6 a6 λE n h=>?_;cases h;exact V.jR ab 1 0 n [0,0,0] U
  refine V.e6 ab 1 0 h (ρ:=Unit) (λs q=>[(0,.bj ⟨a2,1,1⟩ 0),(2,.eU 30 0)]) (.new 30 65 [.int .i64 a.1,.string (a7 a.2.1),.bool a.2.2] .nil) (λs q=>ee a2 m k) U ?_ ?_
  ·intro F _ h;refine V.co ab 6 0 h U (λh=>?_) (λh=>?_)
   ·refine V.cp ab 2 0 h wE [0] [] (λ_=>k) [0,0,0] U a6 a6 λy _ _=>y.elim
   exact V.a5 ab 1 0 h () [0,1,2] U
  rintro _ _ h;refine V.cp ab 3 0 h (BA b) [0,0,0] [] id [0,0,0] U a6 a6 λG o h=>?_;refine V.hX ab 9 0 h VP [] U (λ_=>id) λH h=>?_;refine V.go ab 3 0 U ?_;rcases zp h with⟨d,p,e,rfl⟩|⟨⟨I,J⟩,e,f,h⟩
  ·exact V.cl (aJ.zq U U U ⟨d,trivial⟩ (p1 e) U [0] U [] U (λ_=>U) (λs _=>⟨o,trivial,U,[0,0,0],_,U⟩))
  refine V.cl (aJ.zo U U U U (λg=>o_.ret (p1 (e g)) (λ_=>U)) U [0] U [] U U () (λi=>by cases f (λt=>i ⟨t,trivial⟩);rfl) λ_ _=>V.cz ?_);refine V.co ab 2 0 h U (λh=>?_) (λh=>?_)
  ·refine V.cp ab 3 0 h (afT b) [0,0,0] [] id [0,0,0] U a6 a6 λK L h=>?_;refine V.cp ab 4 0 h (V6 b) [0,0,0] [] id [0,0,0] U a6 a6 λM j h=>?_;cases h;exact V.jR ab 1 0 j [0,0,0] U
  refine V.cp ab 3 0 h (V7 b) [0,0,0] [] id [0,0,0] U a6 a6 λN u h=>?_;cases h;exact V.oC ab 1 0 u [0,0,0] U
def KL(R:bh)(d:an->Option (bo an an))(e:an->Option (bo an an)):an->Option (bo an an):=λ(f,g,b,h,c,i)=>
 (ba (na (f,g,b,h,c,i) ([124]:aa)) (λx=>(x.1,x.2.1,b,x.2.2.2.1,c,x.2.2.2.2.2)) λ(j,a)=>(bif j then(ba (k3 (a.1,(W (a.2.1+1)),b,a.2.2.2.1,c,a.2.2.2.2.2)) (λx=>x) λ(m,k)=>(ba (zP R k) (λx=>x) λ(l:an)=>e l)) else d (a.1,a.2.1,b,a.2.2.2.1,c,a.2.2.2.2.2)))
def BM(R:bh)(x0:an):Option (bo an an):=
 (a9 (λ((d,e,f,g):aa×Int×Int×Int)=>(ba (zP R (d,e,x0.2.2.1,f,x0.2.2.2.2.1,g)) (λx=>x) λ(b:an)=>(a9 (λ((h,i,j,k,l,m):an)=>some (.inr (h,i,j,k,l,m))) λn=>(fixF (KL R n) bC (b.1,b.2.1,b.2.2.1,b.2.2.2.1,b.2.2.2.2.1,b.2.2.2.2.2))))) λc=>(ba (pa x0 ([33]:aa)) (λx=>(x.1,x.2.1,x0.2.2.1,x.2.2.2.1,x0.2.2.2.2.1,x.2.2.2.2.2)) λ(o,a)=>(bif o then c (a.1,(W (a.2.1+1)),a.2.2.2.1,a.2.2.2.2.2) else c (a.1,a.2.1,a.2.2.2.1,a.2.2.2.2.2))))
theorem V_{R:bh}(a:hZ R){x0:an}{a2:bL}{Q:bt}{r:bo an an}(h:BM R x0=some r):
  iZ Tryz.prog 59 [.pointer a2] [] (ee a2 x0 Q) (λr (q:bt)=>ju 39 r λr=> .tuple #[]) (λr q=>ee a2 (jS r) q) r:=
 by
  refine V.jU (T:=ck) Tryz.call59 Tryz.func59 U λ_ _=>?_;unfold BM at h;refine V.e6 ab 0 0 h (ρ:=Unit) (λs q=>[(0,.bj ⟨a2,1,1⟩ 0)]) .nil (λs q=>ee a2 (s.1,s.2.1,x0.2.2.1,s.2.2.1,x0.2.2.2.2.1,s.2.2.2) Q) U ?_ ?_
  ·intro g _ h;refine V.cp ab 3 0 h pc [0] [] (λ_=>Q) [0,0,0] U a6 a6 ?_;rintro⟨i,j⟩ _ h;refine V.co ab 1 0 h U (λh=>?_) (λh=>?_)
   ·exact V.a5 ab 10 0 h () [0,1,2] ⟨U,U,U,U,U,U,U⟩
   exact V.a5 ab 1 0 h () [0,1,2] U
  rintro⟨k,l,m,n⟩ _ h;refine V.cp ab 3 0 h (V9 a) [0,0,0] [] id [0,0,0] U a6 a6 λo c h=>?_;refine V.c8 ab 1 0 h (ρ:=bt) (λs q=>[]) .nil (λs q=>kH a2 s q) U ?_ ?_
  ·intro p _ h;refine V.e7 ab 0 0 h (ρ:=bt) (λs q=>[(0,.bj ⟨a2,1,1⟩ 0)]) .nil (λs q=>kH a2 s q) c [1,2,0] U ?_;rintro d ⟨t,u,v,w,x,y⟩ b h;rw[KL] at h;refine V.cp ab 4 0 h p1 [2] [] (λ_=>b) [0,0,0] U a6 a6 ?_;rintro⟨z,A⟩ _ h;refine V.co ab 1 0 h U (λh=>?_) (λh=>?_)
   ·refine V.cp ab 16 0 h tT [0,0,0] [] id [0,0,0] ⟨U,U,U,U,U,U,U⟩ a6 a6 ?_;rintro⟨B,C⟩ D h;refine V.cp ab 3 0 h (V9 a) [0,0,0] [] id [0,0,0] U a6 a6 λE e h=>?_;exact V.el ab 2 0 h e [1,2,0] U
   exact V.a5 ab 1 0 h b [1,2,0] U
  rintro⟨F,G,H,I,J,K⟩ f h;cases h;exact V.oC ab 0 0 f [2,0,0] U
def P5(R:bh)(g:an->Option (bo an an))(e:an->Option (bo an an)):an->Option (bo an an):=λ(h,i,c,j,d,k)=>
 (ba (na (h,i,c,j,d,k) ([38,38]:aa)) (λx=>(x.1,x.2.1,c,x.2.2.2.1,d,x.2.2.2.2.2)) λ(f,a)=>(m8 (f=false) (na (a.1,a.2.1,c,a.2.2.2.1,d,a.2.2.2.2.2) ([124,124]:aa)) (λx=>(x.1,x.2.1,c,x.2.2.2.1,d,x.2.2.2.2.2)) (false,(a.1,a.2.1,c,a.2.2.2.1,d,a.2.2.2.2.2)) λ(l,b)=>(bif(bif f then true else l) then(ba (k3 (b.1,(W (b.2.1+2)),c,b.2.2.2.1,d,b.2.2.2.2.2)) (λx=>x) λ(o,m)=>(ba (BM R m) (λx=>x) λ(n:an)=>e n)) else g (b.1,b.2.1,c,b.2.2.2.1,d,b.2.2.2.2.2))))
def zQ(R:bh)(x0:an):Option (bo an an):=
 (ba (BM R x0) (λx=>x) λ(a:an)=>(a9 (λ((b,c,d,e,f,g):an)=>some (.inr (b,c,d,e,f,g))) λh=>(fixF (P5 R h) bC (a.1,a.2.1,a.2.2.1,a.2.2.2.1,a.2.2.2.2.1,a.2.2.2.2.2))))
theorem af0{R:bh}(e:hZ R){x0:an}{a2:bL}{Q:bt}{r:bo an an}(h:zQ R x0=some r):
  iZ Tryz.prog 40 [.pointer a2] [] (ee a2 x0 Q) (λr (q:bt)=>ju 39 r λr=> .tuple #[]) (λr q=>ee a2 (jS r) q) r:=
 by
  refine V.jU (T:=ck) Tryz.call40 Tryz.func40 U λ_ _=>?_;unfold zQ at h;refine V.cp ab 3 0 h (V_ e) [0,0,0] [] id [0,0,0] U a6 a6 λn f h=>?_;refine V.c8 ab 1 0 h (ρ:=bt) (λs q=>[]) .nil (λs q=>kH a2 s q) U ?_ ?_
  ·intro o _ h;refine V.e7 ab 0 0 h (ρ:=bt) (λs q=>[(0,.bj ⟨a2,1,1⟩ 0)]) .nil (λs q=>kH a2 s q) f [1,2,0] U ?_;rintro g ⟨p,t,u,v,w,x⟩ a h;rw[P5] at h;refine V.cp ab 4 0 h p1 [2] [] (λ_=>a) [0,0,0] U a6 a6 ?_;rintro⟨y,z⟩ _ h;refine V.go ab 2 0 U ?_;rcases zp h with⟨b,A,c,rfl⟩|⟨⟨B,C⟩,c,i,h⟩
   ·exact V.cl (aJ.zq U U U ⟨b,trivial⟩ (p1 c) U [0] U [] U (λ_=>U) (λs _=>⟨a,trivial,U,[0,0,0],_,U⟩))
   refine V.cl (aJ.zo U U U U (λj=>o_.ret (p1 (c j)) (λ_=>U)) U [0] U [] U U () (λk=>by cases i (λl=>k ⟨l,trivial⟩);rfl) λ_ _=>V.cz ?_);refine V.co ab 2 0 h U (λh=>?_) (λh=>?_)
   ·refine V.cp ab 16 0 h tT [0,0,0] [] id [0,0,0] ⟨U,U,U,U,U,U,U⟩ a6 a6 ?_;rintro⟨D,E⟩ F h;refine V.cp ab 3 0 h (V_ e) [0,0,0] [] id [0,0,0] U a6 a6 λG m h=>?_;exact V.el ab 2 0 h m [1,2,0] U
   exact V.a5 ab 1 0 h a [1,2,0] U
  rintro⟨H,I,J,K,L,M⟩ d h;cases h;exact V.oC ab 0 0 d [2,0,0] U
def Hu(R:bh)(l:Int)(m:Bool)(k:(Int×an)->Option (bo an (Int×an))):(Int×an)->Option (bo an (Int×an)):=λ(h,n,o,i,p,j,q)=>
 (a9 (λ((u,v,w,z,A,B):an)=>k ((W (h+1)),u,v,w,z,A,B)) λr=>(m8 ((bif m then true else(decide (0<h)))=true) (DL (n,o,i,p,j,q) l) (λx=>(x.1,x.2.1,i,x.2.2.2.1,j,x.2.2.2.2.2)) (false,(n,o,i,p,j,q)) λ(C,c)=>(bif(bif(bif m then true else(decide (0<h))) then C else false) then some (.inr (h,(c.1,c.2.1,i,c.2.2.2.1,j,c.2.2.2.2.2))) else(ba (zQ R (c.1,c.2.1,i,c.2.2.2.1,j,c.2.2.2.2.2)) (λx=>x) λ(b:an)=>(ba (na b ([59]:aa)) (λx=>(x.1,x.2.1,b.2.2.1,x.2.2.2.1,b.2.2.2.2.1,x.2.2.2.2.2)) λ(s,d)=>(m8 (s=false) (na (d.1,d.2.1,b.2.2.1,d.2.2.2.1,b.2.2.2.2.1,d.2.2.2.2.2) ([38]:aa)) (λx=>(x.1,x.2.1,b.2.2.1,x.2.2.2.1,b.2.2.2.2.1,x.2.2.2.2.2)) (false,(d.1,d.2.1,b.2.2.1,d.2.2.2.1,b.2.2.2.2.1,d.2.2.2.2.2)) λ(D,e)=>(bif(bif s then true else D) then(ba (k3 (e.1,(W (e.2.1+1)),b.2.2.1,e.2.2.2.1,b.2.2.2.2.1,e.2.2.2.2.2)) (λx=>x) λ(M,E)=>r E) else(ba (k3 (e.1,e.2.1,b.2.2.1,e.2.2.2.1,b.2.2.2.2.1,e.2.2.2.2.2)) (λx=>x) λ(F,a)=>(bif F then r a else(ba (lU a) (λx=>(x.1,x.2.1,a.2.2.1,x.2.2.2.1,a.2.2.2.2.1,x.2.2.2.2.2)) λ(t,f)=>(a9 (λ((G,H,I,J):aa×Int×Int×Int)=>some (.inr ((W (h+1)),(G,H,a.2.2.1,I,a.2.2.2.2.1,J)))) λK=>(m8 ((decide (t.1=3))=false) (DL (f.1,f.2.1,a.2.2.1,f.2.2.2.1,a.2.2.2.2.1,f.2.2.2.2.2) l) (λx=>(x.1,x.2.1,a.2.2.1,x.2.2.2.1,a.2.2.2.2.1,x.2.2.2.2.2)) (false,(f.1,f.2.1,a.2.2.1,f.2.2.2.1,a.2.2.2.2.1,f.2.2.2.2.2)) λ(L,g)=>(bif(bif(decide (t.1=3)) then true else(!L)) then ba (ky (g.1,g.2.1,a.2.2.1,g.2.2.2.1,a.2.2.2.2.1,g.2.2.2.2.2)) (λx=>(x.1,x.2.1,a.2.2.1,x.2.2.2.1,a.2.2.2.2.1,x.2.2.2.2.2)) λy=>Empty.elim y else K (g.1,g.2.1,g.2.2.2.1,g.2.2.2.2.2))))))))))))))
def D5(R:bh)(x0:an)(b:Int)(c:Bool):Option (bo an (Int×an)):=
 (ba (k3 x0) (λx=>x) λ(d,a)=>(fixF (Hu R b c) bC (0,a.1,a.2.1,a.2.2.1,a.2.2.2.1,a.2.2.2.2.1,a.2.2.2.2.2)))
theorem af4{R:bh}(F:hZ R){x0:an}{c:Int}{d:Bool}{a:bL}{Q:bt}{r:bo an (Int×an)}(h:D5 R x0 c d=some r):
  iZ Tryz.prog 30 [.pointer a,.int .i64 c,.bool d] [] (ee a x0 Q) (λr (q:bt)=>ju 39 r λr=> .int .i64 r.1) (λr q=>ee a (l7 r) q) r:=
 by
  refine V.jU (T:=ck) Tryz.call30 Tryz.func30 U λ_ _=>?_;unfold D5 at h;refine V.cp ab 7 0 h tT [0,0,0] [] id [0,0,0] U a6 a6 ?_;rintro⟨N,O⟩ G h;refine V.e7 ab 6 0 h (ρ:=bt) (λs q=>[(0,.bj ⟨a,1,1⟩ 0),(1,.v (.int .i64 c)),(2,.v (.bool d)),(7,.v (.int .i64 s.1))]) .nil (λs q=>kH a s.2 q) G [1,2,0] U ?_;rintro H ⟨B,P,S,X,Y,Z,pf⟩ C h;rw[Hu] at h;refine V.c8 ab 0 0 h (ρ:=bt) (λs q=>[(0,.bj ⟨a,1,1⟩ 0),(1,.v (.int .i64 c)),(2,.v (.bool d)),(7,.v (.int .i64 (W (B+1))))]) .nil (λs q=>kH a s q) U ?_ ?_
  ·intro P6 _ h;refine V.go ab 11 0 U ?_;rcases zp h with⟨e,VC,f,rfl⟩|⟨⟨kx,cq⟩,f,I,h⟩
   ·exact V.cl (aJ.zq U U U ⟨e,trivial⟩ (Kp f) U [2] U [] U (λ_=>U) (λs _=>⟨C,trivial,U,[0,0,0],_,U⟩))
   refine V.cl (aJ.zo U U U U (λg=>o_.ret (Kp (f g)) (λ_=>U)) U [2] U [] U U () (λi=>by cases I (λj=>i ⟨j,trivial⟩);rfl) λ_ _=>V.cz ?_);refine V.co ab 2 0 h U (λh=>?_) (λh=>?_)
   ·cases h;exact V.jR ab 5 0 C [0,0,0] U
   refine V.cp ab 4 0 h (af0 F) [0,0,0] [] id [0,0,0] U a6 a6 λeg D h=>?_;refine V.cp ab 11 0 h p1 [0] [] (λ_=>D) [0,0,0] U a6 a6 ?_;rintro⟨r6,jX⟩ _ h;refine V.go ab 2 0 U ?_;rcases zp h with⟨k,J,l,rfl⟩|⟨⟨j9,mX⟩,l,m,h⟩
   ·exact V.cl (aJ.zq U U U ⟨k,trivial⟩ (p1 l) U [0] U [] U (λ_=>U) (λs _=>⟨D,trivial,U,[0,0,0],_,U⟩))
   refine V.cl (aJ.zo U U U U (λK=>o_.ret (p1 (l K)) (λ_=>U)) U [0] U [] U U () (λn=>by cases m (λo=>n ⟨o,trivial⟩);rfl) λ_ _=>V.cz ?_);refine V.co ab 2 0 h U (λh=>?_) (λh=>?_)
   ·refine V.cp ab 14 0 h tT [0,0,0] [] id [0,0,0] ⟨U,U,U,U,U,U,U⟩ a6 a6 ?_;rintro⟨iC,jV⟩ L h
    try dsimp only at h
    exact V.a5 ab 2 0 h L [1,2,0] U
   refine V.cp ab 5 0 h tT [0,0,0] [] id [0,0,0] U a6 a6 ?_;rintro⟨oJ,E⟩ b h;refine V.co ab 1 0 h U (λh=>?_) (λh=>?_)
   ·exact V.a5 ab 1 0 h b [1,2,0] U
   refine V.cp ab 4 0 h qz [0] [] (λ_=>b) [0,0,0] U a6 a6 ?_;rintro⟨p,kk⟩ _ h;refine V.cl (aJ.oz ab 2 [] [74] [(8,.eU 74 0)] (.new 74 65 [.int .i64 p.1,.string (a7 p.2.1),.bool p.2.2] .nil) U ⟨⟨U,trivial⟩,(jk U U)⟩ (V.cz ?_));refine V.e6 ab 1 0 h (ρ:=Unit) (λs q=>[(7,.v (.int .i64 (W (B+1))))]) .nil (λs q=>ee a (s.1,s.2.1,E.2.2.1,s.2.2.1,E.2.2.2.2.1,s.2.2.2) b) U ?_ ?_
   ·intro Wa _ h;refine V.go ab 8 0 U ?_;rcases zp h with⟨t,M,u,rfl⟩|⟨⟨gW,ps⟩,u,v,h⟩
    ·exact V.cl (aJ.zq U U U ⟨t,trivial⟩ (Kp u) U [0] U [] U (λ_=>U) (λs _=>⟨b,trivial,U,[0,0,0],_,U⟩))
    refine V.cl (aJ.zo U U U U (λw=>o_.ret (Kp (u w)) (λ_=>U)) U [0] U [] U U () (λx=>by cases v (λz=>x ⟨z,trivial⟩);rfl) λ_ _=>V.cz ?_);refine V.co ab 3 0 h U (λh=>?_) (λh=>?_)
    ·refine V.cp ab 2 0 h wE [0] [] (λ_=>b) [0,0,0] U a6 a6 λy _ _=>y.elim
    exact V.a5 ab 1 0 h () [0,1,2] U
   rintro⟨p5,pj,mU,pn⟩ _ h;cases h;exact V.jR ab 5 0 b [0,0,0] U
  rintro⟨vp,qE,D4,zR,qD,Hv⟩ A h
  try dsimp only at h
  exact V.el ab 0 0 h A [0,1,2] U
def Qa(R:bh)(j:UInt8)(k:Bool)(f:an->Option (bo an an)):an->Option (bo an an):=λ(b,a,c,g,d,h)=>
 (a9 (λ((l,m,n,o,p,q):an)=>f (l,m,n,o,p,q)) λi=>(a9 (λ(_:Unit)=>(a8 (0<=a/\a<(b.length:Int))<|(bif(decide (((at' b a).toNat:Int)=(j.toNat:Int))) then some (.inr (b,(W (a+1)),c,g,d,h)) else(ba (zA R (b,a,c,g,d,h) k) (λx=>x) λ(r,e)=>(bif(!r) then i (e.1,(W (e.2.1+1)),e.2.2) else i e))))) λs=>(bif(decide ((b.length:Int)<=a)) then ba (q6 (b,a,c,g,d,h)) (λx=>(x.1,x.2.1,c,x.2.2.2.1,d,x.2.2.2.2.2)) λy=>Empty.elim y else s ())))
def Hw(R:bh)(x0:an)(a:UInt8)(b:Bool):Option (bo an an):=
 (fixF (Qa R a b) bC (x0.1,x0.2.1,x0.2.2.1,x0.2.2.2.1,x0.2.2.2.2.1,x0.2.2.2.2.2))
theorem agk{R:bh}(f:hZ R){x0:an}{b:UInt8}{c:Bool}{a:bL}{Q:bt}{r:bo an an}(h:Hw R x0 b c=some r):
  iZ Tryz.prog 163 [.pointer a,.int .u8 (b.toNat:Int),.bool c] [] (ee a x0 Q) (λr (q:bt)=>ju 39 r λr=> .tuple #[]) (λr q=>ee a (jS r) q) r:=
 by
  refine V.jU (T:=ck) Tryz.call163 Tryz.func163 U λ_ _=>?_;unfold Hw at h;refine V.e7 ab 1 0 h (ρ:=bt) (λs q=>[(0,.bj ⟨a,1,1⟩ 0),(1,.v (.int .u8 (b.toNat:Int))),(2,.v (.bool c))]) .nil (λs q=>kH a s q) Q [1,2,0] U ?_;rintro g ⟨i,j,k,l,m,n⟩ d h;rw[Qa] at h;refine V.c8 ab 0 0 h (ρ:=bt) (λs q=>[(0,.bj ⟨a,1,1⟩ 0),(1,.v (.int .u8 (b.toNat:Int))),(2,.v (.bool c))]) .nil (λs q=>kH a s q) U ?_ ?_
  ·intro t _ h;refine V.e6 ab 0 0 h (ρ:=Unit) (λs q=>[(0,.bj ⟨a,1,1⟩ 0),(1,.v (.int .u8 (b.toNat:Int))),(2,.v (.bool c))]) .nil (λs q=>ee a (i,j,k,l,m,n) d) U ?_ ?_
   ·intro u _ h;refine V.jl ab 1 0 U (by kernel_rfl) ?_;refine V.co ab 11 2 h ⟨U,U,U,U,U,U,U⟩ (λh=>?_) (λh=>?_)
    ·refine V.cp ab 2 0 h DB [2] [] (λ_=>d) [0,0,0] U a6 a6 λy _ _=>y.elim
    exact V.a5 ab 1 0 h () [2,0,1] U
   rintro _ _ h;obtain⟨o,h⟩:=bG h;refine V.jl ab 2 0 U (by kernel_rfl) ?_;refine V.co ab 12 0 h ⟨U,U,U,U,U,U,o,U⟩ (λh=>?_) (λh=>?_)
   ·cases h;exact V.jR ab 11 0 d [0,0,0] ⟨U,U,U,U,U,U,U⟩
   refine V.cp ab 5 0 h (VE f) [0,0,0] [] id [0,0,0] U a6 a6 ?_;rintro⟨v,w⟩ e h;refine V.co ab 2 0 h U (λh=>?_) (λh=>?_)
   ·exact V.a5 ab 11 0 h e [1,2,0] ⟨U,U,U,U,U,U,U⟩
   exact V.a5 ab 2 0 h e [1,2,0] U
  rintro⟨x,z,A,B,C,D⟩ p h
  try dsimp only at h
  exact V.el ab 0 0 h p [0,1,2] U
def gq(x0:ah):Option Bool:=
 some (decide ((x0.1.length:Int)<=x0.2.1))
theorem mZ{x0:ah}{a2:bL}{Q:bt}{r:Bool}(h:gq x0=some r):
  FC Tryz.prog 45 [.pointer a2] [lL a2 x0 Q] (λ_:Unit=>True) (λ_=> .bool r) (λ_=>[]):=
 by refine V.fE (T:=ck) Tryz.call45 Tryz.func45 U λ_=>?_;unfold gq at h;refine V.jl ab 5 0 U (by kernel_rfl) ?_;cases h;exact V.rt ab 12 0 () [] ⟨U,U,U,U,U,U,U⟩
def zS(x0:UInt8):Option Bool:=
 some (bif(decide ((x0.toNat:Int)=(32:Int))) then true else(decide ((x0.toNat:Int)=(9:Int))))
theorem Qc{x0:UInt8}{r:Bool}(h:zS x0=some r):
  FC Tryz.prog 65 [.int .u8 (x0.toNat:Int)] [] (λ_:Unit=>True) (λ_=> .bool r) (λ_=>[]):=
 by refine V.fE (T:=ck) Tryz.call65 Tryz.func65 U λ_=>?_;unfold zS at h;cases h;exact V.rt ab 14 0 () [] U
def D8(x0:ah)(d:Bool)(e:Int->Option ah)(b:Int->Option ah):Int->Option ah:=λa=>
 (av (gq (x0.1,a,x0.2.2.1,x0.2.2.2.1,x0.2.2.2.2.1,x0.2.2.2.2.2.1,x0.2.2.2.2.2.2.1,x0.2.2.2.2.2.2.2.1,d)) λ(c:Bool)=>(a8 (((!c)=true)->0<=a/\a<(x0.1.length:Int))<|(bif(bif(!c) then(!(decide (((at' x0.1 a).toNat:Int)=(10:Int)))) else false) then b (W (a+1)) else e a)))
def BQ(x0:ah)(e:(Int×Bool)->Option ah)(c:(Int×Bool)->Option ah):(Int×Bool)->Option ah:=λ(a,b)=>
 (av (gq (x0.1,a,x0.2.2.1,x0.2.2.2.1,x0.2.2.2.2.1,x0.2.2.2.2.2.1,x0.2.2.2.2.2.2.1,x0.2.2.2.2.2.2.2.1,b)) λ(f:Bool)=>(bif(!f) then(a9 (λ((g,h):Int×Bool)=>c (g,h)) λd=>(a8 (0<=a/\a<(x0.1.length:Int))<|(av (zS (at' x0.1 a)) λ(y23:Bool)=>(bif y23 then d ((W (a+1)),b) else(a8 (((bif(decide (((at' x0.1 a).toNat:Int)=(92:Int))) then(decide ((W (a+1))<(x0.1.length:Int))) else false)=true)->0<=(W (a+1))/\(W (a+1))<(x0.1.length:Int))<|(bif(bif(bif(decide (((at' x0.1 a).toNat:Int)=(92:Int))) then(decide ((W (a+1))<(x0.1.length:Int))) else false) then(decide (((at' x0.1 (W (a+1))).toNat:Int)=(10:Int))) else false) then d ((W (a+2)),true) else(bif(decide (((at' x0.1 a).toNat:Int)=(35:Int))) then(a9 (λ(i:Int)=>d (i,b)) λj=>(fixF (D8 x0 b j) bC a)) else some (x0.1,a,x0.2.2.1,x0.2.2.2.1,x0.2.2.2.2.1,x0.2.2.2.2.2.1,x0.2.2.2.2.2.2.1,x0.2.2.2.2.2.2.2.1,b)))))))) else e (a,b)))
def g2(x0:ah):Option ah:=
 (a9 (λ((a,b):Int×Bool)=>some (x0.1,a,x0.2.2.1,x0.2.2.2.1,x0.2.2.2.2.1,x0.2.2.2.2.2.1,x0.2.2.2.2.2.2.1,x0.2.2.2.2.2.2.2.1,b)) λc=>(fixF (BQ x0 c) bC (x0.2.1,x0.2.2.2.2.2.2.2.2)))
theorem n9{x0:ah}{a2:bL}{Q:bt}{r:ah}(h:g2 x0=some r):
  gI Tryz.prog 44 [.pointer a2] [] [lL a2 x0 Q] (λ_:Unit=>True) (λ_=> .tuple #[]) (λ_=>[lL a2 (r.1,r.2.1,r.2.2.1,x0.2.2.2.1,r.2.2.2.2.1,r.2.2.2.2.2.1,r.2.2.2.2.2.2.1,x0.2.2.2.2.2.2.2.1,r.2.2.2.2.2.2.2.2) Q]):=
 by
  refine V.jm (T:=ck) Tryz.call44 Tryz.func44 U λ_ _=>?_;unfold g2 at h;refine V.c8 ab 0 0 h (ρ:=Unit) (λs q=>[]) .nil (λs q=>[lL a2 (x0.1,s.1,x0.2.2.1,x0.2.2.2.1,x0.2.2.2.2.1,x0.2.2.2.2.2.1,x0.2.2.2.2.2.2.1,x0.2.2.2.2.2.2.2.1,s.2) Q]) U ?_ ?_
  ·intro i _ h;refine V.e7 ab 0 0 h (ρ:=Unit) (λs q=>[(0,.bj ⟨a2,1,1⟩ 0)]) .nil (λs q=>[lL a2 (x0.1,s.1,x0.2.2.1,x0.2.2.2.1,x0.2.2.2.2.1,x0.2.2.2.2.2.1,x0.2.2.2.2.2.2.1,x0.2.2.2.2.2.2.2.1,s.2) Q]) () [0] U ?_;rintro c ⟨j,b⟩ _ h;rw[BQ] at h;refine V.cI ab 4 0 h mZ [0] U λk _ h=>?_;refine V.co ab 2 0 h U (λh=>?_) (λh=>?_)
   ·refine V.c8 ab 1 0 h (ρ:=Unit) (λs q=>[(0,.bj ⟨a2,1,1⟩ 0)]) .nil (λs q=>[lL a2 (x0.1,s.1,x0.2.2.1,x0.2.2.2.1,x0.2.2.2.2.1,x0.2.2.2.2.2.1,x0.2.2.2.2.2.2.1,x0.2.2.2.2.2.2.2.1,s.2) Q]) U ?_ ?_
    ·intro l _ h;obtain⟨d,h⟩:=bG h;refine V.jl ab 1 0 U (by kernel_rfl) ?_;refine V.cI ab 14 0 h Qc [] ⟨U,U,U,U,U,U,d,U⟩ λy23 _ h=>?_;refine V.co ab 1 0 h U (λh=>?_) (λh=>?_)
     ·exact V.a5 ab 11 0 h () [0] ⟨U,U,U,U,U,U,U⟩
     obtain⟨e,h⟩:=bG h;refine V.jl ab 1 0 U (by kernel_rfl) ?_;refine V.co ab 29 0 h ⟨U,U,U,U,U,U,U,U,U,U,U,U,e,U⟩ (λh=>?_) (λh=>?_)
     ·exact V.a5 ab 19 0 h () [0] ⟨U,U,U,U,U,U,U,U,U,U⟩
     refine V.co ab 5 0 h U (λh=>?_) (λh=>?_)
     ·refine V.c8 ab 0 0 h (ρ:=Unit) (λs q=>[(0,.bj ⟨a2,1,1⟩ 0)]) .nil (λs q=>[lL a2 (x0.1,s,x0.2.2.1,x0.2.2.2.1,x0.2.2.2.2.1,x0.2.2.2.2.2.1,x0.2.2.2.2.2.2.1,x0.2.2.2.2.2.2.2.1,b) Q]) U ?_ ?_
      ·intro m _ h;refine V.e7 ab 0 0 h (ρ:=Unit) (λs q=>[(0,.bj ⟨a2,1,1⟩ 0)]) .nil (λs q=>[lL a2 (x0.1,s,x0.2.2.1,x0.2.2.2.1,x0.2.2.2.2.1,x0.2.2.2.2.2.1,x0.2.2.2.2.2.2.1,x0.2.2.2.2.2.2.2.1,b) Q]) () [0] U ?_;rintro f n _ h;rw[D8] at h;refine V.jl ab 2 0 U (by kernel_rfl) ?_;refine V.go ab 1 0 U ?_;obtain⟨o,g,h⟩:=jP h;obtain⟨a,h⟩:=bG h;refine V.toQ (kX.call U U U U (mZ g) U [0] U U (V.sU ?_));refine V.co ab 14 0 h ⟨U,U,U,U,U,U,a,U⟩ (λh=>?_) (λh=>?_)
       ·exact V.el ab 13 0 h () [0] ⟨U,U,U,U,U,U,U⟩
       exact V.a5 ab 1 0 h () [0] U
      rintro p _ h
      try dsimp only at h
      exact V.a5 ab 1 0 h () [0] U
     cases h;exact V.rx ab 0 0 () [0] U
    rintro⟨t,u⟩ _ h
    try dsimp only at h
    exact V.el ab 0 0 h () [0] U
   exact V.a5 ab 1 0 h () [0] U
  rintro⟨v,w⟩ _ h;cases h;exact V.jD ab 0 0 () [0] U
def Hy(b:aq)(e:aa->Option ah)(d:(Int×aa)->Option ah):(Int×aa)->Option ah:=λ(a,c)=>
 (bif(decide (a<(b.length:Int))) then(a8 (0<=a/\a<(b.length:Int))<|(a8 (((c.length+((at' b a).1).length:Nat):Int)<=9223372036854775807)<|(a8 ((((c++(at' b a).1).length+([10]:aa).length:Nat):Int)<=9223372036854775807)<|d ((W (a+1)),((c++(at' b a).1)++([10]:aa)))))) else e c)
def Hz(b:aa)(g:(aq×aa)->Option ah)(d:(Int×aq×aa)->Option ah):(Int×aq×aa)->Option ah:=λ(a,e,c)=>
 (bif(decide (a<(b.length:Int))) then(a9 (λ((h,i):aq×aa)=>d ((W (a+1)),h,i)) λf=>(a8 (0<=a/\a<=(W (a+1))/\(W (a+1))<=(b.length:Int))<|(a8 (((c.length+(b9 b a (W (a+1))).length:Nat):Int)<=9223372036854775807)<|(a8 (0<=a/\a<(b.length:Int))<|(bif(decide (((at' b a).toNat:Int)=(10:Int))) then(a9 (λ(j:aa)=>f (([]:aq),j)) λk=>(fixF (Hy e k) bC (0,(c++(b9 b a (W (a+1))))))) else f (e,(c++(b9 b a (W (a+1)))))))))) else g (e,c))
def vq(x0:ah)(a:aa):Option ah:=
 (a9 (λ((b,c):aq×aa)=>some (x0.1,x0.2.1,x0.2.2.1,b,x0.2.2.2.2.1,x0.2.2.2.2.2.1,c,x0.2.2.2.2.2.2.2.1,x0.2.2.2.2.2.2.2.2)) λd=>(fixF (Hz a d) bC (0,x0.2.2.2.1,x0.2.2.2.2.2.2.1)))
theorem Qe{x0:ah}{e:aa}{a3:bL}{Q:bt}{r:ah}(h:vq x0 e=some r):
  gI Tryz.prog 34 [.pointer a3,.string (a7 e)] [] (eR a3 x0 Q) (λ_:bt=>True) (λq=> .tuple #[]) (λq=>eR a3 r q):=
 by
  refine V.jm (T:=ck) Tryz.call34 Tryz.func34 U λ_ _=>?_;unfold vq at h;refine V.c8 ab 4 0 h (ρ:=bL×Nat) (λs q=>[]) .nil (λs q=>[rS q.1 s.1 q.2,lL a3 (x0.1,x0.2.1,x0.2.2.1,s.1,x0.2.2.2.2.1,x0.2.2.2.2.2.1,s.2,x0.2.2.2.2.2.2.2) (q.1,q.2,Q.2.2),hY Q.2.2.1 x0.2.2.2.2.2.2.2.1 Q.2.2.2]) U ?_ ?_
  ·intro D _ h;refine V.e7 ab 0 0 h (ρ:=bL×Nat) (λs q=>[(0,.bj ⟨a3,1,1⟩ 0),(1,.v (.string (a7 e))),(4,.v (.int .i64 s.1))]) .nil (λs q=>[rS q.1 s.2.1 q.2,lL a3 (x0.1,x0.2.1,x0.2.2.1,s.2.1,x0.2.2.2.2.1,x0.2.2.2.2.2.1,s.2.2,x0.2.2.2.2.2.2.2) (q.1,q.2,Q.2.2),hY Q.2.2.1 x0.2.2.2.2.2.2.2.1 Q.2.2.2]) (Q.1,Q.2.1) [1,0,2] U ?_;rintro w ⟨d,a,g⟩ ⟨b,c⟩ h;rw[Hz] at h;refine V.co ab 8 0 h U (λh=>?_) (λh=>?_)
   ·refine V.c8 ab 2 0 h (ρ:=bL×Nat) (λs q=>[(0,.bj ⟨a3,1,1⟩ 0),(1,.v (.string (a7 e))),(4,.v (.int .i64 d))]) .nil (λs q=>[rS q.1 s.1 q.2,lL a3 (x0.1,x0.2.1,x0.2.2.1,s.1,x0.2.2.2.2.1,x0.2.2.2.2.2.1,s.2,x0.2.2.2.2.2.2.2) (q.1,q.2,Q.2.2),hY Q.2.2.1 x0.2.2.2.2.2.2.2.1 Q.2.2.2]) U ?_ ?_
    ·intro E _ h;obtain⟨x,h⟩:=bG h;obtain⟨y,h⟩:=bG h;refine V.go ab 1 0 U ?_;refine V.jT (aR.iY 1 U λi=>V.iA ?_);refine V.jT (aR.rQ U .nil [1] [10,11,12,13] trivial U (λz=>?_));refine bE.o9 ab gh 13 [0] U (by kernel_rfl) [] [(13,.bj ⟨a3,1,1⟩ 0)] U ⟨U,trivial⟩ (bE.eE ab gh true 5 [1,2,3,5,6,7,8,9] U (by kernel_rfl) [(W (d+1))] [(16,.bj ⟨a3,1,1⟩ 6),(22,.v (.string (a7 (b9 e d (W (d+1))))))] trivial [1] U U ⟨(i.fQ fR).1,i.fQ fR,⟨trivial,U⟩,x,(fD U)⟩ (bE.kG ab gh 4 U (by kernel_rfl) U U U U U 0 U U 0 6 (x0.1,x0.2.1,x0.2.2.1,(bA.v ⟨b,a.length,c⟩),x0.2.2.2.2.1,x0.2.2.2.2.2.1,g,(bA.v ⟨Q.2.2.1,x0.2.2.2.2.2.2.2.1.length,Q.2.2.2⟩),x0.2.2.2.2.2.2.2.2) ⟨U,U⟩ U U U trivial [1] U (bE.o9 ab gh 1 [10,11,12] U (by kernel_rfl) [] [(23,.v (.string (a7 (g++(b9 e d (W (d+1))))))),(25,.bj ⟨a3,1,1⟩ 6)] U ⟨y,(i.fQ fR).1,i.fQ fR,(fD U)⟩ (bE.one 13 (by kernel_rfl) (cK.qv ab U U U U U U U U U [1] (fs:=[]) U 0 6 (x0.1,x0.2.1,x0.2.2.1,(bA.v ⟨b,a.length,c⟩),x0.2.2.2.2.1,x0.2.2.2.2.2.1,g,(bA.v ⟨Q.2.2.1,x0.2.2.2.2.2.2.2.1.length,Q.2.2.2⟩),x0.2.2.2.2.2.2.2.2) (x0.1,x0.2.1,x0.2.2.1,(bA.v ⟨b,a.length,c⟩),x0.2.2.2.2.1,x0.2.2.2.2.2.1,(g++(b9 e d (W (d+1)))),(bA.v ⟨Q.2.2.1,x0.2.2.2.2.2.2.2.1.length,Q.2.2.2⟩),x0.2.2.2.2.2.2.2.2) ⟨U,U⟩ ⟨⟨⟨⟨⟨⟨⟨⟨U,U,U⟩,U⟩,U⟩,U⟩,U⟩,U⟩,U⟩,U⟩ (bE.nC U (bE.done (by kernel_rfl) (aR.boxes (B':= .nil) trivial (V.iA ?_)))))))));obtain⟨l,h⟩:=bG h;refine V.co ab 7 0 h ⟨l,U⟩ (λh=>?_) (λh=>?_)
     ·refine V.c8 ab 10 0 h (ρ:=Unit) (λs q=>[(0,.bj ⟨a3,1,1⟩ 0),(1,.v (.string (a7 e))),(4,.v (.int .i64 d))]) .nil (λs q=>eR a3 (x0.1,x0.2.1,x0.2.2.1,a,x0.2.2.2.2.1,x0.2.2.2.2.2.1,s,x0.2.2.2.2.2.2.2) (b,c,Q.2.2)) ⟨U,U,U,U⟩ ?_ ?_
      ·intro F _ h;refine V.e7 ab 0 0 h (ρ:=Unit) (λs q=>[(0,.bj ⟨a3,1,1⟩ 0),(1,.v (.string (a7 e))),(4,.v (.int .i64 d)),(33,.v (.slice b a.length c)),(34,.v (.int .i64 (a.length:Int))),(35,.v (.int .i64 s.1))]) .nil (λs q=>eR a3 (x0.1,x0.2.1,x0.2.2.1,a,x0.2.2.2.2.1,x0.2.2.2.2.2.1,s.2,x0.2.2.2.2.2.2.2) (b,c,Q.2.2)) () [0,1,2] U ?_;rintro A ⟨f,j⟩ _ h;rw[Hy] at h;refine V.co ab 5 0 h U (λh=>?_) (λh=>?_)
       ·refine V.go ab 5 0 U ?_;refine V.cl (aJ.iY 1 U λm=>V.cz ?_);obtain⟨v,h⟩:=bG h;refine V.go ab 1 0 ⟨m.ix v,U⟩ ?_;refine V.cl (aJ.kG ab U U U U U U 1 U U (Int.toNat f) 0 (at' a f) ⟨mN v,U⟩ U U U (V.cz ?_));refine V.cl (aJ.oz ab 2 [] [41] [(6,.eU 41 0)] (.new 41 75 [.string (a7 (at' a f).1),.bool (at' a f).2] .nil) U ⟨⟨U,trivial⟩,(jk U U)⟩ (V.cz ?_));obtain⟨B,h⟩:=bG h;obtain⟨n,h⟩:=bG h;refine V.go ab 1 0 U ?_;refine V.jT (aR.iY 0 U λk=>V.iA ?_);refine V.jT (aR.rQ U (.new 41 75 [.string (a7 (at' a f).1),.bool (at' a f).2] .nil) [0] [7,8,9,10,11] ⟨U,U,U,U,trivial⟩ U (λC=>?_));refine bE.o9 ab gh 11 [0] U (by kernel_rfl) [] [(39,.bj ⟨a3,1,1⟩ 0)] U ⟨U,trivial⟩ (bE.eE ab gh true 6 [1,2,3,5,6] U (by kernel_rfl) [] [(42,.bj ⟨a3,1,1⟩ 6),(45,.v (.string (a7 (at' a f).1)))] ⟨U,U,U,U,trivial⟩ [0] U U ⟨(k.fQ fR).1,k.fQ fR,(fD U)⟩ (bE.kG ab gh 4 U (by kernel_rfl) U U U U U 0 U U 0 6 (x0.1,x0.2.1,x0.2.2.1,(bA.v ⟨b,a.length,c⟩),x0.2.2.2.2.1,x0.2.2.2.2.2.1,j,(bA.v ⟨Q.2.2.1,x0.2.2.2.2.2.2.2.1.length,Q.2.2.2⟩),x0.2.2.2.2.2.2.2.2) ⟨U,U⟩ U U U ⟨U,U,U,U,trivial⟩ [0] U (bE.o9 ab gh 1 [7,8,9,10] U (by kernel_rfl) [] [(47,.v (.string (a7 ((j++(at' a f).1)++([10]:aa))))),(49,.bj ⟨a3,1,1⟩ 6)] U ⟨B,n,(k.fQ fR).1,k.fQ fR,(fD U)⟩ (bE.one 11 (by kernel_rfl) (cK.qv ab U U U U U U U U U [0] (fs:=[]) U 0 6 (x0.1,x0.2.1,x0.2.2.1,(bA.v ⟨b,a.length,c⟩),x0.2.2.2.2.1,x0.2.2.2.2.2.1,j,(bA.v ⟨Q.2.2.1,x0.2.2.2.2.2.2.2.1.length,Q.2.2.2⟩),x0.2.2.2.2.2.2.2.2) (x0.1,x0.2.1,x0.2.2.1,(bA.v ⟨b,a.length,c⟩),x0.2.2.2.2.1,x0.2.2.2.2.2.1,((j++(at' a f).1)++([10]:aa)),(bA.v ⟨Q.2.2.1,x0.2.2.2.2.2.2.2.1.length,Q.2.2.2⟩),x0.2.2.2.2.2.2.2.2) ⟨U,U⟩ ⟨⟨⟨⟨⟨⟨⟨⟨U,U,U⟩,U⟩,U⟩,U⟩,U⟩,U⟩,U⟩,U⟩ (bE.nC U (bE.done (by kernel_rfl) (aR.boxes (B':= .nil) trivial (V.iA ?_)))))))));exact V.el ab 5 0 h () [0,1,2] U
       exact V.a5 ab 1 0 h () [0,1,2] U
      rintro G _ h;refine V.go ab 7 0 ⟨U,U,U,U⟩ ?_;refine V.jT (aR.pV (.pair .str .bool) bA.nil U U (V.iA ?_))
      try dsimp only at h
      exact V.a5 ab 0 0 h (none,0) [0,1,3] U
     exact V.a5 ab 2 0 h (b,c) [1,0,2] U
    rintro⟨H,I⟩ ⟨o,p⟩ h
    try dsimp only at h
    exact V.el ab 5 0 h (o,p) [0,1,2] U
   exact V.a5 ab 1 0 h (b,c) [0,1,2] U
  rintro⟨J,K⟩ ⟨t,u⟩ h;cases h;exact V.jD ab 0 0 (t,u,Q.2.2) [1,0,0] U
def g3(x0:ah)(b:aa):Option ah:=
 (a9 (λ(c:Int)=>(av (vq (x0.1,x0.2.1,x0.2.2.1,x0.2.2.2.1,c,x0.2.2.2.2.2) b) λ(d:ah)=>some d)) λa=>(bif(decide (x0.2.2.2.2.1=0)) then a 1 else a x0.2.2.2.2.1))
theorem pt{x0:ah}{a:aa}{a3:bL}{Q:bt}{r:ah}(h:g3 x0 a=some r):
  gI Tryz.prog 33 [.pointer a3,.string (a7 a)] [] (eR a3 x0 Q) (λ_:bt=>True) (λq=> .tuple #[]) (λq=>eR a3 r q):=
 by
  refine V.jm (T:=ck) Tryz.call33 Tryz.func33 U λ_ _=>?_;unfold g3 at h;refine V.e6 ab 0 0 h (ρ:=Unit) (λs q=>[(0,.bj ⟨a3,1,1⟩ 0),(1,.v (.string (a7 a)))]) .nil (λs q=>eR a3 (x0.1,x0.2.1,x0.2.2.1,x0.2.2.2.1,s,x0.2.2.2.2.2) Q) U ?_ ?_
  ·intro c _ h;refine V.co ab 8 0 h ⟨U,U,U,U⟩ (λh=>?_) (λh=>?_)
   ·exact V.a5 ab 6 0 h () [0,1,2] ⟨U,U,U,U⟩
   exact V.a5 ab 1 0 h () [0,1,2] U
  rintro d _ h;refine V.bI ab 3 0 h Qe [0,0,0] [] U λe b h=>?_;cases h;exact V.jD ab 1 0 b [0,0,0] U
def ia(x0:ah):Option UInt8:=
 (av (gq x0) λ(a:Bool)=>(bif a then some (0:UInt8) else(a8 (0<=x0.2.1/\x0.2.1<(x0.1.length:Int))<|some (at' x0.1 x0.2.1))))
theorem n_{x0:ah}{a2:bL}{Q:bt}{r:UInt8}(h:ia x0=some r):
  FC Tryz.prog 46 [.pointer a2] [lL a2 x0 Q] (λ_:Unit=>True) (λ_=> .int .u8 (r.toNat:Int)) (λ_=>[]):=
 by
  refine V.fE (T:=ck) Tryz.call46 Tryz.func46 U λ_=>?_;unfold ia at h;refine V.cI ab 8 0 h mZ [0] U λb _ h=>?_;refine V.co ab 1 0 h U (λh=>?_) (λh=>?_)
  ·cases h;exact V.rt ab 4 0 () [] U
  obtain⟨a,h⟩:=bG h;refine V.jl ab 2 0 U (by kernel_rfl) ?_;cases h;exact V.rt ab 11 0 () [] ⟨U,U,U,U,U,U,a,U⟩
def zT(x0:Int)(a:Int):Option Int:=
 (bif(decide (x0<0)) then some 0 else(bif(decide (a<x0)) then some a else some x0))
theorem KU{x0:Int}{a:Int}{r:Int}(h:zT x0 a=some r):
  FC Tryz.prog 78 [.int .i64 x0,.int .i64 a] [] (λ_:Unit=>True) (λ_=> .int .i64 r) (λ_=>[]):=
 by
  refine V.fE (T:=ck) Tryz.call78 Tryz.func78 U λ_=>?_;unfold zT at h;refine V.co ab 10 0 h U (λh=>?_) (λh=>?_)
  ·cases h;exact V.rt ab 4 0 () [] U
  refine V.co ab 8 0 h U (λh=>?_) (λh=>?_)
  ·cases h;exact V.rt ab 5 0 () [] U
  cases h;exact V.rt ab 6 0 () [] U
def HA(x0:aa)(b:Int->Option Int)(c:Int->Option Int):Int->Option Int:=λa=>
 (a8 (((decide (a<(x0.length:Int)))=true)->0<=a/\a<(x0.length:Int))<|(bif(bif(decide (a<(x0.length:Int))) then(!(decide (((at' x0 a).toNat:Int)=(10:Int)))) else false) then c (W (a+1)) else b a))
def D_(x0:aa)(b:Bool)(c:Int)(d:Int->Option Int)(e:Int->Option Int):Int->Option Int:=λa=>
 (a8 (((bif b then(decide (a<c)) else false)=true)->0<=a/\a<(x0.length:Int))<|(bif(bif(bif b then(decide (a<c)) else false) then(decide (((at' x0 a).toNat:Int)=(9:Int))) else false) then e (W (a+1)) else d a))
def wJ(x0:aa)(g:aa)(h:Bool)(i:Unit->Option Int)(b:Int->Option Int):Int->Option Int:=λc=>
 (bif(decide (c<(x0.length:Int))) then(a9 (λ(j:Int)=>b j) λk=>(a9 (λ(a:Int)=>(a9 (λ(d:Int)=>(a9 (λ(e:Int)=>(a8 (0<=d/\d<=a/\a<=(x0.length:Int))<|(bif(decide ((b9 x0 d a)=g)) then some e else k e))) λf=>(bif(decide (a<(x0.length:Int))) then f (W (a+1)) else f a))) λl=>(fixF (D_ x0 h a l) bC c))) λm=>(fixF (HA x0 m) bC c))) else i ())
def Eb(x0:aa)(a:Int)(b:aa)(c:Bool):Option Int:=
 (av (zT a (x0.length:Int)) λ(d:Int)=>(a9 (λ(_:Unit)=>some (-1)) λe=>(fixF (wJ x0 b c e) bC d)))
theorem agz{x0:aa}{d:Int}{a:aa}{b:Bool}{r:Int}(h:Eb x0 d a b=some r):
  FC Tryz.prog 66 [.string (a7 x0),.int .i64 d,.string (a7 a),.bool b] [] (λ_:Unit=>True) (λ_=> .int .i64 r) (λ_=>[]):=
 by
  refine V.fE (T:=ck) Tryz.call66 Tryz.func66 U λ_=>?_;unfold Eb at h;refine V.cI ab 9 0 h KU [] U λl _ h=>?_;refine V.c8 ab 3 0 h (ρ:=Unit) (λs q=>[]) .nil (λs q=>[]) U ?_ ?_
  ·intro m _ h;refine V.e7 ab 0 0 h (ρ:=Unit) (λs q=>[(0,.v (.string (a7 x0))),(2,.v (.string (a7 a))),(3,.v (.bool b)),(9,.v (.int .i64 s))]) .nil (λs q=>[]) () [] U ?_;rintro f e _ h;rw[wJ] at h;refine V.co ab 8 0 h U (λh=>?_) (λh=>?_)
   ·refine V.c8 ab 1 0 h (ρ:=Unit) (λs q=>[(0,.v (.string (a7 x0))),(2,.v (.string (a7 a))),(3,.v (.bool b)),(9,.v (.int .i64 s))]) .nil (λs q=>[]) U ?_ ?_
    ·intro n _ h;refine V.c8 ab 6 0 h (ρ:=Unit) (λs q=>[(0,.v (.string (a7 x0))),(2,.v (.string (a7 a))),(3,.v (.bool b)),(9,.v (.int .i64 e)),(10,.v (.int .i64 s))]) .nil (λs q=>[]) U ?_ ?_
     ·intro o _ h;refine V.e7 ab 0 0 h (ρ:=Unit) (λs q=>[(0,.v (.string (a7 x0))),(2,.v (.string (a7 a))),(3,.v (.bool b)),(9,.v (.int .i64 e)),(10,.v (.int .i64 s))]) .nil (λs q=>[]) () [] U ?_;rintro p t _ h;rw[HA] at h;obtain⟨g,h⟩:=bG h;refine V.co ab 14 0 h ⟨g,U⟩ (λh=>?_) (λh=>?_)
      ·exact V.el ab 8 0 h () [] U
      exact V.a5 ab 1 0 h () [] U
     rintro c _ h;refine V.c8 ab 6 0 h (ρ:=Unit) (λs q=>[(0,.v (.string (a7 x0))),(2,.v (.string (a7 a))),(3,.v (.bool b)),(10,.v (.int .i64 c)),(11,.v (.int .i64 s))]) .nil (λs q=>[]) U ?_ ?_
     ·intro u _ h;refine V.e7 ab 0 0 h (ρ:=Unit) (λs q=>[(0,.v (.string (a7 x0))),(2,.v (.string (a7 a))),(3,.v (.bool b)),(10,.v (.int .i64 c)),(11,.v (.int .i64 s))]) .nil (λs q=>[]) () [] U ?_;rintro v w _ h;rw[D_] at h;obtain⟨i,h⟩:=bG h;refine V.co ab 16 0 h ⟨i,U⟩ (λh=>?_) (λh=>?_)
      ·exact V.el ab 8 0 h () [] U
      exact V.a5 ab 1 0 h () [] U
     rintro j _ h;refine V.e6 ab 5 0 h (ρ:=Unit) (λs q=>[(0,.v (.string (a7 x0))),(2,.v (.string (a7 a))),(3,.v (.bool b)),(10,.v (.int .i64 c)),(11,.v (.int .i64 j)),(12,.v (.int .i64 s))]) .nil (λs q=>[]) U ?_ ?_
     ·intro x _ h;refine V.co ab 7 0 h U (λh=>?_) (λh=>?_)
      ·exact V.a5 ab 5 0 h () [] U
      exact V.a5 ab 1 0 h () [] U
     rintro y _ h;obtain⟨k,h⟩:=bG h;refine V.co ab 10 0 h ⟨k,U⟩ (λh=>?_) (λh=>?_)
     ·cases h;exact V.rt ab 5 0 () [] U
     exact V.a5 ab 6 0 h () [] U
    rintro z _ h
    try dsimp only at h
    exact V.el ab 0 0 h () [] U
   exact V.a5 ab 1 0 h () [] U
  rintro _ _ h;cases h;exact V.rt ab 4 0 () [] U
def HB(x0:ah)(b:Int)(e:aa->Option ah)(d:(Int×aa)->Option ah):(Int×aa)->Option ah:=λ(a,c)=>
 (bif(decide (a<((b9 x0.2.2.2.1 b (x0.2.2.2.1.length:Int)).length:Int))) then(a8 (0<=a/\a<((b9 x0.2.2.2.1 b (x0.2.2.2.1.length:Int)).length:Int))<|(a8 (((c.length+((at' (b9 x0.2.2.2.1 b (x0.2.2.2.1.length:Int)) a).1).length:Nat):Int)<=9223372036854775807)<|(a8 ((((c++(at' (b9 x0.2.2.2.1 b (x0.2.2.2.1.length:Int)) a).1).length+([10]:aa).length:Nat):Int)<=9223372036854775807)<|d ((W (a+1)),((c++(at' (b9 x0.2.2.2.1 b (x0.2.2.2.1.length:Int)) a).1)++([10]:aa)))))) else e c)
def BR(x0:ah)(d:Int->Option ah)(e:(Int×Int)->Option ah):(Int×Int)->Option ah:=λ(a,b)=>
 (bif(decide (a<(x0.2.2.2.1.length:Int))) then(a9 (λ(f:Int)=>e ((W (a+1)),f)) λg=>(a8 (0<=a/\a<(x0.2.2.2.1.length:Int))<|(av (Eb x0.1 b ((at' x0.2.2.2.1 a).1) ((at' x0.2.2.2.1 a).2)) λ(c:Int)=>(bif(decide (c<0)) then(a8 (0<=a/\a<=(x0.2.2.2.1.length:Int)/\(x0.2.2.2.1.length:Int)<=(x0.2.2.2.1.length:Int))<|(a9 (λ(h:aa)=>some (x0.1,(x0.1.length:Int),x0.2.2.1,[],1,x0.2.2.2.2.2.1,h,([([60,60]:aa)]:bs),false)) λi=>(fixF (HB x0 a i) bC (0,x0.2.2.2.2.2.2.1)))) else g c)))) else d b)
def zU(x0:ah):Option ah:=
 (a9 (λ(a:Int)=>some (x0.1,a,x0.2.2.1,[],x0.2.2.2.2.1,x0.2.2.2.2.2.1,x0.2.2.2.2.2.2.1,x0.2.2.2.2.2.2.2.1,false)) λb=>(fixF (BR x0 b) bC (0,(W (x0.2.1+1)))))
theorem Wf{x0:ah}{a2:bL}{Q:bt}{r:ah}(h:zU x0=some r):
  gI Tryz.prog 47 [.pointer a2] [] (eR a2 x0 Q) (λ_:bt=>True) (λq=> .tuple #[]) (λq=>eR a2 r q):=
 by
  refine V.jm (T:=ck) Tryz.call47 Tryz.func47 U λ_ _=>?_;unfold zU at h;refine V.c8 ab 39 0 h (ρ:=Unit) (λs q=>[]) .nil (λs q=>[⟨(.pair .str (.pair (.int .i64) (.pair (.int .i64) (.pair .val (.pair (.int .i64) (.pair (.int .i64) (.pair .str (.pair .val .bool)))))))),⟨a2,1,1⟩,[(x0.1,s,x0.2.2.1,(bA.v ⟨none,0,0⟩),x0.2.2.2.2.1,x0.2.2.2.2.2.1,x0.2.2.2.2.2.2.1,(bA.v ⟨Q.2.2.1,x0.2.2.2.2.2.2.2.1.length,Q.2.2.2⟩),false)]⟩,hY Q.2.2.1 x0.2.2.2.2.2.2.2.1 Q.2.2.2]) ⟨U,U,U,U,U,U,U,U,U,U,U,U,U,U,U,U⟩ ?_ ?_
  ·intro w _ h;refine V.e7 ab 0 0 h (ρ:=Unit) (λs q=>[(0,.bj ⟨a2,1,1⟩ 0),(2,.v (.slice Q.1 x0.2.2.2.1.length Q.2.1)),(25,.v (.slice Q.1 x0.2.2.2.1.length Q.2.1)),(26,.v (.int .i64 (x0.2.2.2.1.length:Int))),(27,.v (.int .i64 s.1))]) .nil (λs q=>[⟨(.pair .str (.pair (.int .i64) (.pair (.int .i64) (.pair .val (.pair (.int .i64) (.pair (.int .i64) (.pair .str (.pair .val .bool)))))))),⟨a2,1,1⟩,[(x0.1,s.2,x0.2.2.1,(bA.v ⟨none,0,0⟩),x0.2.2.2.2.1,x0.2.2.2.2.2.1,x0.2.2.2.2.2.2.1,(bA.v ⟨Q.2.2.1,x0.2.2.2.2.2.2.2.1.length,Q.2.2.2⟩),false)]⟩,rS Q.1 x0.2.2.2.1 Q.2.1,hY Q.2.2.1 x0.2.2.2.2.2.2.2.1 Q.2.2.2]) () [0,1,2] U ?_;rintro n ⟨a,x⟩ _ h;rw[BR] at h;refine V.co ab 5 0 h U (λh=>?_) (λh=>?_)
   ·refine V.c8 ab 2 0 h (ρ:=Unit) (λs q=>[(0,.bj ⟨a2,1,1⟩ 0),(2,.v (.slice Q.1 x0.2.2.2.1.length Q.2.1)),(25,.v (.slice Q.1 x0.2.2.2.1.length Q.2.1)),(26,.v (.int .i64 (x0.2.2.2.1.length:Int))),(27,.v (.int .i64 a))]) .nil (λs q=>[⟨(.pair .str (.pair (.int .i64) (.pair (.int .i64) (.pair .val (.pair (.int .i64) (.pair (.int .i64) (.pair .str (.pair .val .bool)))))))),⟨a2,1,1⟩,[(x0.1,s,x0.2.2.1,(bA.v ⟨none,0,0⟩),x0.2.2.2.2.1,x0.2.2.2.2.2.1,x0.2.2.2.2.2.2.1,(bA.v ⟨Q.2.2.1,x0.2.2.2.2.2.2.2.1.length,Q.2.2.2⟩),false)]⟩,rS Q.1 x0.2.2.2.1 Q.2.1,hY Q.2.2.1 x0.2.2.2.2.2.2.2.1 Q.2.2.2]) U ?_ ?_
    ·intro y _ h;refine V.go ab 2 0 U ?_;refine V.cl (aJ.iY 1 U λo=>V.cz ?_);obtain⟨j,h⟩:=bG h;refine V.go ab 2 0 ⟨o.ix j,U⟩ ?_;refine V.cl (aJ.kG ab U U U U U U 1 U U (Int.toNat a) 0 (at' x0.2.2.2.1 a) ⟨mN j,U⟩ U U U (V.cz ?_));refine V.cl (aJ.oz ab 3 [] [25] [(3,.v (.int .i64 a)),(4,.eU 25 0)] (.new 25 75 [.string (a7 (at' x0.2.2.2.1 a).1),.bool (at' x0.2.2.2.1 a).2] .nil) U ⟨(fD U),(jk U U)⟩ (V.cz ?_));refine V.jl ab 2 0 U (by kernel_rfl) ?_;refine V.go ab 12 0 ⟨U,U,U,U,U,U,U⟩ ?_;obtain⟨z,f,h⟩:=jP h;refine V.toQ (kX.call U U U U (agz f) U [] U U (V.sU ?_));refine V.co ab 8 0 h U (λh=>?_) (λh=>?_)
     ·refine V.go ab 22 0 ⟨U,U,U,U,U,U,U,U,U,U⟩ ?_;refine V.cl (aJ.kt U (cK.buildSlice ab U U U U U U U U U U U [] U .str [([60,60]:aa)] ⟨U,U⟩ U U λc=>aJ.ku (V.cz ?_)));obtain⟨p,h⟩:=bG h;refine V.go ab 9 1 ⟨U,U,U,U⟩ ?_;refine V.cl (aJ.GD ab U U U U U U U U [2] U a (x0.2.2.2.1.length:Int) U U p U λk l=>V.cz ?_);refine V.c8 ab 3 0 h (ρ:=Unit) (λs q=>[]) .nil (λs q=>[⟨(.pair .str (.pair (.int .i64) (.pair (.int .i64) (.pair .val (.pair (.int .i64) (.pair (.int .i64) (.pair .str (.pair .val .bool)))))))),⟨a2,1,1⟩,[(x0.1,(x0.1.length:Int),x0.2.2.1,(bA.v ⟨none,0,0⟩),1,x0.2.2.2.2.2.1,s,(bA.v ⟨c,([([60,60]:aa)]:bs).length,([([60,60]:aa)]:bs).length⟩),false)]⟩,hY c ([([60,60]:aa)]:bs) ([([60,60]:aa)]:bs).length]) U ?_ ?_
      ·intro A _ h;refine V.e7 ab 0 0 h (ρ:=Unit) (λs q=>[(0,.bj ⟨a2,1,1⟩ 0),(64,.v (.slice k (b9 x0.2.2.2.1 a (x0.2.2.2.1.length:Int)).length l)),(65,.v (.int .i64 ((b9 x0.2.2.2.1 a (x0.2.2.2.1.length:Int)).length:Int))),(66,.v (.int .i64 s.1))]) .nil (λs q=>[⟨(.pair .str (.pair (.int .i64) (.pair (.int .i64) (.pair .val (.pair (.int .i64) (.pair (.int .i64) (.pair .str (.pair .val .bool)))))))),⟨a2,1,1⟩,[(x0.1,(x0.1.length:Int),x0.2.2.1,(bA.v ⟨none,0,0⟩),1,x0.2.2.2.2.2.1,s.2,(bA.v ⟨c,([([60,60]:aa)]:bs).length,([([60,60]:aa)]:bs).length⟩),false)]⟩,rS k (b9 x0.2.2.2.1 a (x0.2.2.2.1.length:Int)) l,hY c ([([60,60]:aa)]:bs) ([([60,60]:aa)]:bs).length]) () [1,0,2] U ?_;rintro t ⟨b,d⟩ _ h;rw[HB] at h;refine V.co ab 5 0 h U (λh=>?_) (λh=>?_)
       ·refine V.go ab 5 0 U ?_;refine V.cl (aJ.iY 1 U λg=>V.cz ?_);obtain⟨m,h⟩:=bG h;refine V.go ab 1 0 ⟨g.ix m,U⟩ ?_;refine V.cl (aJ.kG ab U U U U U U 1 U U (Int.toNat b) 0 (at' (b9 x0.2.2.2.1 a (x0.2.2.2.1.length:Int)) b) ⟨mN m,U⟩ U U U (V.cz ?_));refine V.cl (aJ.oz ab 2 [] [55] [(7,.eU 55 0)] (.new 55 75 [.string (a7 (at' (b9 x0.2.2.2.1 a (x0.2.2.2.1.length:Int)) b).1),.bool (at' (b9 x0.2.2.2.1 a (x0.2.2.2.1.length:Int)) b).2] .nil) U ⟨⟨U,trivial⟩,(jk U U)⟩ (V.cz ?_));obtain⟨u,h⟩:=bG h;obtain⟨i,h⟩:=bG h;refine V.go ab 1 0 U ?_;refine V.jT (aR.iY 0 U λe=>V.iA ?_);refine V.jT (aR.rQ U (.new 55 75 [.string (a7 (at' (b9 x0.2.2.2.1 a (x0.2.2.2.1.length:Int)) b).1),.bool (at' (b9 x0.2.2.2.1 a (x0.2.2.2.1.length:Int)) b).2] .nil) [0] [7,8,9,10,11] ⟨U,U,U,U,trivial⟩ U (λv=>?_));refine bE.o9 ab gh 11 [0] U (by kernel_rfl) [] [(70,.bj ⟨a2,1,1⟩ 0)] U ⟨U,trivial⟩ (bE.eE ab gh true 6 [1,2,3,5,6] U (by kernel_rfl) [] [(73,.bj ⟨a2,1,1⟩ 6),(76,.v (.string (a7 (at' (b9 x0.2.2.2.1 a (x0.2.2.2.1.length:Int)) b).1)))] ⟨U,U,U,U,trivial⟩ [0] U U ⟨(e.fQ fR).1,e.fQ fR,(fD U)⟩ (bE.kG ab gh 4 U (by kernel_rfl) U U U U U 0 U U 0 6 (x0.1,(x0.1.length:Int),x0.2.2.1,(bA.v ⟨none,0,0⟩),1,x0.2.2.2.2.2.1,d,(bA.v ⟨c,([([60,60]:aa)]:bs).length,([([60,60]:aa)]:bs).length⟩),false) ⟨U,U⟩ U U U ⟨U,U,U,U,trivial⟩ [0] U (bE.o9 ab gh 1 [7,8,9,10] U (by kernel_rfl) [] [(78,.v (.string (a7 ((d++(at' (b9 x0.2.2.2.1 a (x0.2.2.2.1.length:Int)) b).1)++([10]:aa))))),(80,.bj ⟨a2,1,1⟩ 6)] U ⟨u,i,(e.fQ fR).1,e.fQ fR,(fD U)⟩ (bE.one 11 (by kernel_rfl) (cK.qv ab U U U U U U U U U [0] (fs:=[]) U 0 6 (x0.1,(x0.1.length:Int),x0.2.2.1,(bA.v ⟨none,0,0⟩),1,x0.2.2.2.2.2.1,d,(bA.v ⟨c,([([60,60]:aa)]:bs).length,([([60,60]:aa)]:bs).length⟩),false) (x0.1,(x0.1.length:Int),x0.2.2.1,(bA.v ⟨none,0,0⟩),1,x0.2.2.2.2.2.1,((d++(at' (b9 x0.2.2.2.1 a (x0.2.2.2.1.length:Int)) b).1)++([10]:aa)),(bA.v ⟨c,([([60,60]:aa)]:bs).length,([([60,60]:aa)]:bs).length⟩),false) ⟨U,U⟩ ⟨⟨⟨⟨⟨⟨⟨⟨U,U,U⟩,U⟩,U⟩,U⟩,U⟩,U⟩,U⟩,U⟩ (bE.nC U (bE.done (by kernel_rfl) (aR.boxes (B':= .nil) trivial (V.iA ?_)))))))));exact V.el ab 5 0 h () [0,1,2] U
       exact V.a5 ab 1 0 h () [0,2] U
      rintro B _ h;cases h;refine V.jT (aR.pV (.pair .str .bool) bA.nil U U (V.iA ?_));exact V.rx ab 0 0 (none,0,c,([([60,60]:aa)]:bs).length) [1,0,0] U
     try dsimp only at h
     exact V.a5 ab 9 0 h () [0,1,2] ⟨U,U,U,U⟩
    rintro C _ h
    try dsimp only at h
    exact V.el ab 4 0 h () [0,1,2] U
   exact V.a5 ab 1 0 h () [0,2] U
  rintro D _ h;cases h;refine V.jT (aR.pV (.pair .str .bool) bA.nil U U (V.iA ?_));exact V.jD ab 0 0 (none,0,Q.2.2) [1,0,0] U
def KW:Option bs:=
 some ([([60,60,45]:aa),([38,38]:aa),([124,124]:aa),([59,59]:aa),([60,60]:aa),([60,38]:aa),([60,62]:aa),([62,62]:aa),([62,38]:aa),([62,124]:aa),([38]:aa),([124]:aa),([59]:aa),([60]:aa),([62]:aa),([40]:aa),([41]:aa)]:bs)
theorem agF{r:bs}(h:KW=some r):
  FC Tryz.prog 79 [] [] (λ_:bL×Nat=>True) (λq=> .slice q.1 r.length q.2) (λq=>[hY q.1 r q.2]):=
 by refine V.fE (T:=ck) Tryz.call79 Tryz.func79 U λ_=>?_;unfold KW at h;refine V.go ab 6 0 U ?_;refine V.cl (aJ.kt U (cK.buildSlice ab U U U U U U U U U U U [] U .str [([60,60,45]:aa),([38,38]:aa),([124,124]:aa),([59,59]:aa),([60,60]:aa),([60,38]:aa),([60,62]:aa),([62,62]:aa),([62,38]:aa),([62,124]:aa),([38]:aa),([124]:aa),([59]:aa),([60]:aa),([62]:aa),([40]:aa),([41]:aa)] ⟨U,U⟩ U U λa=>aJ.ku (V.cz ?_)));cases h;exact V.rt ab 2 0 (a,([([60,60,45]:aa),([38,38]:aa),([124,124]:aa),([59,59]:aa),([60,60]:aa),([60,38]:aa),([60,62]:aa),([62,62]:aa),([62,38]:aa),([62,124]:aa),([38]:aa),([124]:aa),([59]:aa),([60]:aa),([62]:aa),([40]:aa),([41]:aa)]:bs).length) [0] U
def HC(x0:aa)(c:Int)(b:bs)(e:Unit->Option aa)(d:Int->Option aa):Int->Option aa:=λa=>
 (bif(decide (a<(b.length:Int))) then(a8 (0<=a/\a<(b.length:Int))<|(a8 (((decide (((at' b a).length:Int)<=(W ((x0.length:Int)-c))))=true)->0<=c/\c<=(W (c+((at' b a).length:Int)))/\(W (c+((at' b a).length:Int)))<=(x0.length:Int))<|(bif(bif(decide (((at' b a).length:Int)<=(W ((x0.length:Int)-c)))) then(decide ((b9 x0 c (W (c+((at' b a).length:Int))))=(at' b a))) else false) then some (at' b a) else d (W (a+1))))) else e ())
def yd(x0:aa)(a:Int):Option aa:=
 (bif(bif(decide (a<0)) then true else(decide ((x0.length:Int)<=a))) then some ([]) else(av (KW) λ(b:bs)=>(a9 (λ(_:Unit)=>some ([])) λc=>(fixF (HC x0 a b c) bC 0))))
theorem Qj{x0:aa}{b:Int}{r:aa}(h:yd x0 b=some r):
  FC Tryz.prog 67 [.string (a7 x0),.int .i64 b] [] (λ_:Unit=>True) (λ_=> .string (a7 r)) (λ_=>[]):=
 by
  refine V.fE (T:=ck) Tryz.call67 Tryz.func67 U λ_=>?_;unfold yd at h;refine V.co ab 16 0 h U (λh=>?_) (λh=>?_)
  ·cases h;exact V.rt ab 4 0 () [] U
  refine V.cI ab 4 0 h agF [] U ?_;rintro a ⟨d,e⟩ h;refine V.c8 ab 3 0 h (ρ:=Unit) (λs q=>[]) .nil (λs q=>[]) U ?_ ?_
  ·intro k _ h;refine V.e7 ab 0 0 h (ρ:=Unit) (λs q=>[(0,.v (.string (a7 x0))),(1,.v (.int .i64 b)),(15,.v (.slice d a.length e)),(16,.v (.int .i64 (a.length:Int))),(17,.v (.int .i64 s))]) .nil (λs q=>[hY d a e]) () [0] U ?_;rintro i f _ h;rw[HC] at h;refine V.co ab 5 0 h U (λh=>?_) (λh=>?_)
   ·refine V.go ab 5 0 U ?_;refine V.cl (aJ.iY 0 U λc=>V.cz ?_);obtain⟨g,h⟩:=bG h;refine V.go ab 1 0 ⟨c.ix g,U⟩ ?_;refine V.cl (aJ.load ab U U U U U U U 0 U U (Int.toNat f) 0 (at' a f) ⟨mN g,U⟩ U U (V.cz ?_));obtain⟨j,h⟩:=bG h;refine V.co ab 23 0 h ⟨j,U⟩ (λh=>?_) (λh=>?_)
    ·cases h;exact V.rt ab 5 0 () [] U
    exact V.el ab 6 0 h () [0] U
   exact V.a5 ab 1 0 h () [] U
  rintro _ _ h;cases h;exact V.rt ab 4 0 () [] U
def hr(x0:ah):Option aa:=
 (av (yd x0.1 x0.2.1) λ(a:aa)=>some a)
theorem oK{x0:ah}{a2:bL}{Q:bt}{r:aa}(h:hr x0=some r):
  FC Tryz.prog 48 [.pointer a2] [lL a2 x0 Q] (λ_:Unit=>True) (λ_=> .string (a7 r)) (λ_=>[]):=
 by refine V.fE (T:=ck) Tryz.call48 Tryz.func48 U λ_=>?_;unfold hr at h;refine V.jl ab 5 0 U (by kernel_rfl) ?_;refine V.go ab 8 0 ⟨U,U,U,U,U,U,U⟩ ?_;obtain⟨b,a,h⟩:=jP h;refine V.toQ (kX.call U U U U (Qj a) U [] U U (V.sU ?_));cases h;exact V.rt ab 2 0 () [] U
def HD(x0:ah)(b:Int->Option aa)(c:Int->Option aa):Int->Option aa:=λa=>
 (a8 (((decide (a<(x0.1.length:Int)))=true)->0<=a/\a<(x0.1.length:Int))<|(a8 (((decide ((97:Int)<=((at' x0.1 a).toNat:Int)))=true)->((decide (a<(x0.1.length:Int)))=true)->0<=a/\a<(x0.1.length:Int))<|(a8 (((bif(decide ((97:Int)<=((at' x0.1 a).toNat:Int))) then(decide (((at' x0.1 a).toNat:Int)<=(122:Int))) else false)=false)->((decide (a<(x0.1.length:Int)))=true)->0<=a/\a<(x0.1.length:Int))<|(a8 (((bif(bif(decide ((97:Int)<=((at' x0.1 a).toNat:Int))) then(decide (((at' x0.1 a).toNat:Int)<=(122:Int))) else false) then true else(decide (((at' x0.1 a).toNat:Int)=(123:Int))))=false)->((decide (a<(x0.1.length:Int)))=true)->0<=a/\a<(x0.1.length:Int))<|(a8 (((bif(bif(bif(decide ((97:Int)<=((at' x0.1 a).toNat:Int))) then(decide (((at' x0.1 a).toNat:Int)<=(122:Int))) else false) then true else(decide (((at' x0.1 a).toNat:Int)=(123:Int)))) then true else(decide (((at' x0.1 a).toNat:Int)=(125:Int))))=false)->((decide (a<(x0.1.length:Int)))=true)->0<=a/\a<(x0.1.length:Int))<|(bif(bif(decide (a<(x0.1.length:Int))) then(bif(bif(bif(bif(decide ((97:Int)<=((at' x0.1 a).toNat:Int))) then(decide (((at' x0.1 a).toNat:Int)<=(122:Int))) else false) then true else(decide (((at' x0.1 a).toNat:Int)=(123:Int)))) then true else(decide (((at' x0.1 a).toNat:Int)=(125:Int)))) then true else(decide (((at' x0.1 a).toNat:Int)=(33:Int)))) else false) then c (W (a+1)) else b a))))))
def lA(x0:ah):Option aa:=
 (a9 (λ(a:Int)=>(a8 (((decide (a<(x0.1.length:Int)))=true)->0<=a/\a<(x0.1.length:Int))<|(cR ((decide (a<(x0.1.length:Int)))=true) (zS (at' x0.1 a)) false λ(b:Bool)=>(a8 ((b=false)->((decide (a<(x0.1.length:Int)))=true)->0<=a/\a<(x0.1.length:Int))<|(cR ((bif b then true else(decide (((at' x0.1 a).toNat:Int)=(10:Int))))=false/\(decide (a<(x0.1.length:Int)))=true) (yd x0.1 a) [] λ(c:aa)=>(bif(bif(decide (a<(x0.1.length:Int))) then(bif(bif b then true else(decide (((at' x0.1 a).toNat:Int)=(10:Int)))) then true else(!(decide (c=[])))) else false) then(a8 (0<=x0.2.1/\x0.2.1<=a/\a<=(x0.1.length:Int))<|some (b9 x0.1 x0.2.1 a)) else some ([]))))))) λd=>(fixF (HD x0 d) bC x0.2.1))
theorem wL{x0:ah}{a2:bL}{Q:bt}{r:aa}(h:lA x0=some r):
  FC Tryz.prog 49 [.pointer a2] [lL a2 x0 Q] (λ_:Unit=>True) (λ_=> .string (a7 r)) (λ_=>[]):=
 by
  refine V.fE (T:=ck) Tryz.call49 Tryz.func49 U λ_=>?_;unfold lA at h;refine V.c8 ab 13 0 h (ρ:=Unit) (λs q=>[(0,.bj ⟨a2,1,1⟩ 0),(3,.v (.int .i64 s))]) .nil (λs q=>[]) ⟨U,U,U,U⟩ ?_ ?_
  ·intro l _ h;refine V.e7 ab 0 0 h (ρ:=Unit) (λs q=>[(0,.bj ⟨a2,1,1⟩ 0),(3,.v (.int .i64 s))]) .nil (λs q=>[]) () [] U ?_;rintro m n _ h;rw[HD] at h;obtain⟨g,h⟩:=bG h;obtain⟨i,h⟩:=bG h;obtain⟨j,h⟩:=bG h;obtain⟨k,h⟩:=bG h;obtain⟨a,h⟩:=bG h;refine V.co ab 56 0 h ⟨U,U,U,U,U,U,g,U,U,U,i,U,U,U,j,U,U,U,k,U,U,U,a,U⟩ (λh=>?_) (λh=>?_)
   ·exact V.el ab 8 0 h () [] U
   exact V.a5 ab 1 0 h () [] U
  rintro o _ h;obtain⟨b,h⟩:=bG h;refine V.hX ab 17 0 h Qc [] ⟨U,U,U,U,U,U,b,U⟩ (λ_=>id) λp h=>?_;obtain⟨c,h⟩:=bG h;refine V.hX ab 15 0 h Qj [] ⟨U,U,U,c,U,U,U,U⟩ (λ_ F d e=>F ⟨d,e⟩) λt h=>?_;refine V.co ab 4 0 h U (λh=>?_) (λh=>?_)
  ·obtain⟨f,h⟩:=bG h;refine V.jl ab 1 0 U (by kernel_rfl) ?_;cases h;exact V.rt ab 12 0 () [] ⟨U,U,U,U,U,U,f,U⟩
  cases h;exact V.rt ab 5 0 () [] U
def HE(x0:aa)(b:bs)(c:Unit->Option Bool)(d:Int->Option Bool):Int->Option Bool:=λa=>
 (bif(decide (a<(b.length:Int))) then(a8 (0<=a/\a<(b.length:Int))<|(bif(decide ((at' b a)=x0)) then some true else d (W (a+1)))) else c ())
def ye(x0:aa)(a:bs):Option Bool:=
 (a9 (λ(_:Unit)=>some false) λb=>(fixF (HE x0 a b) bC 0))
theorem K0{x0:aa}{a:bs}{a3:bL}{b:Nat}{r:Bool}(h:ye x0 a=some r):
  FC Tryz.prog 50 [.string (a7 x0),.slice a3 a.length b] [hY a3 a b] (λ_:Unit=>True) (λ_=> .bool r) (λ_=>[]):=
 by
  refine V.fE (T:=ck) Tryz.call50 Tryz.func50 U λ_=>?_;unfold ye at h;refine V.c8 ab 11 0 h (ρ:=Unit) (λs q=>[]) .nil (λs q=>[]) U ?_ ?_
  ·intro f _ h;refine V.e7 ab 0 0 h (ρ:=Unit) (λs q=>[(0,.v (.string (a7 x0))),(7,.v (.slice a3 a.length b)),(8,.v (.int .i64 (a.length:Int))),(9,.v (.int .i64 s))]) .nil (λs q=>[]) () [] U ?_;rintro g d _ h;rw[HE] at h;refine V.co ab 5 0 h U (λh=>?_) (λh=>?_)
   ·refine V.go ab 5 0 U ?_;refine V.cl (aJ.iY 0 U λc=>V.cz ?_);obtain⟨e,h⟩:=bG h;refine V.go ab 1 0 ⟨c.ix e,U⟩ ?_;refine V.cl (aJ.load ab U U U U U U U 0 U U (Int.toNat d) 0 (at' a d) ⟨mN e,U⟩ U U (V.cz ?_));refine V.co ab 8 0 h U (λh=>?_) (λh=>?_)
    ·cases h;exact V.rt ab 4 0 () [] U
    exact V.el ab 6 0 h () [] U
   exact V.a5 ab 1 0 h () [] U
  rintro _ _ h;cases h;exact V.rt ab 4 0 () [] U
def yf(x0:aa):Option Bool:=
 (av (ye x0 ([([105,102]:aa),([119,104,105,108,101]:aa),([117,110,116,105,108]:aa),([102,111,114]:aa),([99,97,115,101]:aa),([123]:aa)]:bs)) λ(a:Bool)=>some a)
theorem Wh{x0:aa}{r:Bool}(h:yf x0=some r):
  FC Tryz.prog 97 [.string (a7 x0)] [] (λ_:Unit=>True) (λ_=> .bool r) (λ_=>[]):=
 by refine V.fE (T:=ck) Tryz.call97 Tryz.func97 U λ_=>?_;unfold yf at h;refine V.go ab 7 0 U ?_;refine V.cl (aJ.kt U (cK.buildSlice ab U U U U U U U U U U U [] U .str [([105,102]:aa),([119,104,105,108,101]:aa),([117,110,116,105,108]:aa),([102,111,114]:aa),([99,97,115,101]:aa),([123]:aa)] ⟨U,U⟩ U U λa2=>aJ.ku (V.cz ?_)));refine V.cI ab 0 0 h K0 [0] U λa _ h=>?_;cases h;exact V.rt ab 2 0 () [] U
def vs(x0:aa):Option Bool:=
 (av (ye x0 ([([60,60,45]:aa),([60,60]:aa),([60,38]:aa),([60,62]:aa),([62,62]:aa),([62,38]:aa),([62,124]:aa),([60]:aa),([62]:aa)]:bs)) λ(a:Bool)=>some a)
theorem K1{x0:aa}{r:Bool}(h:vs x0=some r):
  FC Tryz.prog 99 [.string (a7 x0)] [] (λ_:Unit=>True) (λ_=> .bool r) (λ_=>[]):=
 by refine V.fE (T:=ck) Tryz.call99 Tryz.func99 U λ_=>?_;unfold vs at h;refine V.go ab 7 0 U ?_;refine V.cl (aJ.kt U (cK.buildSlice ab U U U U U U U U U U U [] U .str [([60,60,45]:aa),([60,60]:aa),([60,38]:aa),([60,62]:aa),([62,62]:aa),([62,38]:aa),([62,124]:aa),([60]:aa),([62]:aa)] ⟨U,U⟩ U U λa2=>aJ.ku (V.cz ?_)));refine V.cI ab 0 0 h K0 [0] U λa _ h=>?_;cases h;exact V.rt ab 2 0 () [] U
def Ec(x0:aa):Option Bool:=
 (av (ye x0 ([([105,102]:aa),([116,104,101,110]:aa),([101,108,105,102]:aa),([101,108,115,101]:aa),([102,105]:aa),([100,111]:aa),([100,111,110,101]:aa),([119,104,105,108,101]:aa),([117,110,116,105,108]:aa),([102,111,114]:aa),([99,97,115,101]:aa),([101,115,97,99]:aa),([123]:aa),([125]:aa),([33]:aa)]:bs)) λ(a:Bool)=>some a)
theorem agQ{x0:aa}{r:Bool}(h:Ec x0=some r):
  FC Tryz.prog 100 [.string (a7 x0)] [] (λ_:Unit=>True) (λ_=> .bool r) (λ_=>[]):=
 by refine V.fE (T:=ck) Tryz.call100 Tryz.func100 U λ_=>?_;unfold Ec at h;refine V.go ab 7 0 U ?_;refine V.cl (aJ.kt U (cK.buildSlice ab U U U U U U U U U U U [] U .str [([105,102]:aa),([116,104,101,110]:aa),([101,108,105,102]:aa),([101,108,115,101]:aa),([102,105]:aa),([100,111]:aa),([100,111,110,101]:aa),([119,104,105,108,101]:aa),([117,110,116,105,108]:aa),([102,111,114]:aa),([99,97,115,101]:aa),([101,115,97,99]:aa),([123]:aa),([125]:aa),([33]:aa)] ⟨U,U⟩ U U λa2=>aJ.ku (V.cz ?_)));refine V.cI ab 0 0 h K0 [0] U λa _ h=>?_;cases h;exact V.rt ab 2 0 () [] U
def HF(x0:ah)(c:Int->Option Bool)(b:Int->Option Bool):Int->Option Bool:=λa=>
 (a8 (((decide (a<(x0.1.length:Int)))=true)->0<=a/\a<(x0.1.length:Int))<|(a8 (((bif(decide (a<(x0.1.length:Int))) then(decide ((48:Int)<=((at' x0.1 a).toNat:Int))) else false)=true)->0<=a/\a<(x0.1.length:Int))<|(bif(bif(bif(decide (a<(x0.1.length:Int))) then(decide ((48:Int)<=((at' x0.1 a).toNat:Int))) else false) then(decide (((at' x0.1 a).toNat:Int)<=(57:Int))) else false) then b (W (a+1)) else c a)))
def zW(x0:ah):Option Bool:=
 (a9 (λ(a:Int)=>(cR ((decide (x0.2.1<a))=true) (yd x0.1 a) [] λ(b:aa)=>(cR ((decide (x0.2.1<a))=true) (vs b) false λ(c:Bool)=>some (bif(decide (x0.2.1<a)) then c else false)))) λd=>(fixF (HF x0 d) bC x0.2.1))
theorem Wi{x0:ah}{a2:bL}{Q:bt}{r:Bool}(h:zW x0=some r):
  FC Tryz.prog 130 [.pointer a2] [lL a2 x0 Q] (λ_:Unit=>True) (λ_=> .bool r) (λ_=>[]):=
 by
  refine V.fE (T:=ck) Tryz.call130 Tryz.func130 U λ_=>?_;unfold zW at h;refine V.c8 ab 13 0 h (ρ:=Unit) (λs q=>[(0,.bj ⟨a2,1,1⟩ 0),(3,.v (.int .i64 s))]) .nil (λs q=>[]) ⟨U,U,U,U⟩ ?_ ?_
  ·intro d _ h;refine V.e7 ab 0 0 h (ρ:=Unit) (λs q=>[(0,.bj ⟨a2,1,1⟩ 0),(3,.v (.int .i64 s))]) .nil (λs q=>[]) () [] U ?_;rintro a e _ h;rw[HF] at h;obtain⟨b,h⟩:=bG h;obtain⟨c,h⟩:=bG h;refine V.co ab 29 0 h ⟨U,U,U,U,U,U,b,U,U,U,c,U⟩ (λh=>?_) (λh=>?_)
   ·exact V.el ab 8 0 h () [] U
   exact V.a5 ab 1 0 h () [] U
  rintro f _ h;refine V.hX ab 14 0 h Qj [] ⟨U,U,U,U,U,U,U⟩ (λ_=>id) λg h=>?_;refine V.hX ab 0 0 h K1 [] U (λ_=>id) λi h=>?_;cases h;exact V.rt ab 3 0 () [] U
def s4(x0:ah)(a:Int):Option UInt8:=
 (bif(decide ((W (x0.2.1+a))<(x0.1.length:Int))) then(a8 (0<=(W (x0.2.1+a))/\(W (x0.2.1+a))<(x0.1.length:Int))<|some (at' x0.1 (W (x0.2.1+a)))) else some (0:UInt8))
theorem Ed{x0:ah}{a:Int}{a3:bL}{Q:bt}{r:UInt8}(h:s4 x0 a=some r):
  FC Tryz.prog 157 [.pointer a3,.int .i64 a] [lL a3 x0 Q] (λ_:Unit=>True) (λ_=> .int .u8 (r.toNat:Int)) (λ_=>[]):=
 by
  refine V.fE (T:=ck) Tryz.call157 Tryz.func157 U λ_=>?_;unfold s4 at h;refine V.jl ab 6 0 U (by kernel_rfl) ?_;refine V.co ab 13 0 h ⟨U,U,U,U,U,U,U⟩ (λh=>?_) (λh=>?_)
  ·obtain⟨b,h⟩:=bG h;refine V.jl ab 1 0 U (by kernel_rfl) ?_;cases h;exact V.rt ab 13 0 () [] ⟨U,U,U,U,U,U,b,U⟩
  cases h;exact V.rt ab 5 0 () [] U
def BS(x0:aa)(d:Unit->Option Int)(b:Int->Option Int):Int->Option Int:=λa=>
 (bif(decide (a<(x0.length:Int))) then(a9 (λ(e:Int)=>b (W (e+1))) λc=>(a8 (0<=a/\a<(x0.length:Int))<|(bif(decide (((at' x0 a).toNat:Int)=(96:Int))) then some (W (a+1)) else(a8 (0<=a/\a<(x0.length:Int))<|(bif(decide (((at' x0 a).toNat:Int)=(92:Int))) then c (W (a+1)) else c a))))) else d ())
def zX(x0:aa)(a:Int):Option Int:=
 (av (zT a (x0.length:Int)) λ(b:Int)=>(a9 (λ(_:Unit)=>some (-1)) λc=>(fixF (BS x0 c) bC b)))
theorem Ql{x0:aa}{a:Int}{r:Int}(h:zX x0 a=some r):
  FC Tryz.prog 156 [.string (a7 x0),.int .i64 a] [] (λ_:Unit=>True) (λ_=> .int .i64 r) (λ_=>[]):=
 by
  refine V.fE (T:=ck) Tryz.call156 Tryz.func156 U λ_=>?_;unfold zX at h;refine V.cI ab 10 0 h KU [] U λe _ h=>?_;refine V.c8 ab 2 0 h (ρ:=Unit) (λs q=>[]) .nil (λs q=>[]) U ?_ ?_
  ·intro f _ h;refine V.e7 ab 0 0 h (ρ:=Unit) (λs q=>[(0,.v (.string (a7 x0))),(5,.v (.int .i64 s))]) .nil (λs q=>[]) () [] U ?_;rintro b g _ h;rw[BS] at h;refine V.co ab 8 0 h U (λh=>?_) (λh=>?_)
   ·refine V.c8 ab 2 0 h (ρ:=Unit) (λs q=>[(0,.v (.string (a7 x0))),(5,.v (.int .i64 s))]) .nil (λs q=>[]) U ?_ ?_
    ·intro i _ h;obtain⟨c,h⟩:=bG h;refine V.co ab 8 0 h ⟨c,U⟩ (λh=>?_) (λh=>?_)
     ·cases h;exact V.rt ab 6 0 () [] U
     obtain⟨d,h⟩:=bG h;refine V.co ab 8 0 h ⟨d,U⟩ (λh=>?_) (λh=>?_)
     ·exact V.a5 ab 6 0 h () [] U
     exact V.a5 ab 2 0 h () [] U
    rintro j _ h
    try dsimp only at h
    exact V.el ab 5 0 h () [] U
   exact V.a5 ab 1 0 h () [] U
  rintro _ _ h;cases h;exact V.rt ab 4 0 () [] U
def r7(x0:ah)(b:Int)(c:aa)(d:aa):Option ah:=
 (bif(decide (b<0)) then(av (g3 (x0.1,(x0.1.length:Int),x0.2.2) d) λ(a:ah)=>(a8 (([c]:bs).length+a.2.2.2.2.2.2.2.1.length<=536870912)<|some (a.1,a.2.1,a.2.2.1,a.2.2.2.1,a.2.2.2.2.1,a.2.2.2.2.2.1,a.2.2.2.2.2.2.1,(([c]:bs)++a.2.2.2.2.2.2.2.1),a.2.2.2.2.2.2.2.2))) else some (x0.1,b,x0.2.2))
theorem Ee{x0:ah}{c:Int}{a:aa}{d:aa}{b:bL}{Q:bt}{r:ah}(h:r7 x0 c a d=some r):
  gI Tryz.prog 153 [.pointer b,.int .i64 c,.string (a7 a),.string (a7 d)] [] (eR b x0 Q) (λ_:bt=>True) (λq=> .tuple #[]) (λq=>eR b r q):=
 by
  refine V.jm (T:=ck) Tryz.call153 Tryz.func153 U λ_ _=>?_;unfold r7 at h;refine V.co ab 13 0 h ⟨U,U,U,U⟩ (λh=>?_) (λh=>?_)
  ·refine V.bI ab 16 0 h pt [0,0,0] [] ⟨U,U,U,U,U,U,U⟩ λj e h=>?_;refine V.go ab 4 0 U ?_;refine V.cl (aJ.kt U (cK.buildSlice ab U U U U U U U U U U U [] U .str [a] ⟨U,U⟩ U U λk=>aJ.ku (V.cz ?_)));obtain⟨f,h⟩:=bG h;refine V.go ab 4 1 ⟨U,U,U,U⟩ ?_;refine V.cl (aJ.qw ab U U U U ⟨U,U,U,U,trivial,U,U,U,U⟩ U U U [0] U 3 U f U λg i=>V.cz ?_);cases h;exact V.jD ab 4 1 (e.1,e.2.1,g,i) [0,1,0] ⟨U,U,U,U⟩
  cases h;exact V.jD ab 1 0 Q [0,0,0] U
def wM(x0:ah):Option ah:=
 (bif(decide ((x0.1.length:Int)<(W (x0.2.1+2)))) then some (x0.1,(x0.1.length:Int),x0.2.2) else some (x0.1,(W (x0.2.1+2)),x0.2.2))
theorem Qm{x0:ah}{a2:bL}{Q:bt}{r:ah}(h:wM x0=some r):
  gI Tryz.prog 152 [.pointer a2] [] [lL a2 x0 Q] (λ_:Unit=>True) (λ_=> .tuple #[]) (λ_=>[lL a2 (r.1,r.2.1,r.2.2.1,x0.2.2.2.1,r.2.2.2.2.1,r.2.2.2.2.2.1,r.2.2.2.2.2.2.1,x0.2.2.2.2.2.2.2.1,r.2.2.2.2.2.2.2.2) Q]):=
 by
  refine V.jm (T:=ck) Tryz.call152 Tryz.func152 U λ_ _=>?_;unfold wM at h;refine V.jl ab 13 0 ⟨U,U,U,U,U,U,U⟩ (by kernel_rfl) ?_;refine V.co ab 11 0 h ⟨U,U,U,U,U,U,U⟩ (λh=>?_) (λh=>?_)
  ·cases h;exact V.jD ab 11 0 () [0] ⟨U,U,U,U,U,U,U⟩
  cases h;exact V.jD ab 1 0 () [0] U
def gr(x0:ah)(a:aa)(c:aa):Option ah:=
 (bif(decide (x0.2.2.2.2.1=1)) then(a9 (λ(d:bs)=>(av (vq (x0.1,x0.2.1,x0.2.2.1,x0.2.2.2.1,x0.2.2.2.2.1,x0.2.2.2.2.2.1,x0.2.2.2.2.2.2.1,d,x0.2.2.2.2.2.2.2.2) c) λ(e:ah)=>some e)) λb=>(bif(!(decide (a=[]))) then(a8 (([a]:bs).length+x0.2.2.2.2.2.2.2.1.length<=536870912)<|b (([a]:bs)++x0.2.2.2.2.2.2.2.1)) else b x0.2.2.2.2.2.2.2.1)) else some x0)
theorem qF{x0:ah}{b:aa}{c:aa}{a:bL}{Q:bt}{r:ah}(h:gr x0 b c=some r):
  gI Tryz.prog 53 [.pointer a,.string (a7 b),.string (a7 c)] [] (eR a x0 Q) (λ_:bt=>True) (λq=> .tuple #[]) (λq=>eR a r q):=
 by
  refine V.jm (T:=ck) Tryz.call53 Tryz.func53 U λ_ _=>?_;unfold gr at h;refine V.co ab 8 0 h ⟨U,U,U,U⟩ (λh=>?_) (λh=>?_)
  ·refine V.e6 ab 0 0 h (ρ:=bL×Nat) (λs q=>[(0,.bj ⟨a,1,1⟩ 0),(2,.v (.string (a7 c)))]) .nil (λs q=>[hY q.1 s q.2,lL a (x0.1,x0.2.1,x0.2.2.1,x0.2.2.2.1,x0.2.2.2.2.1,x0.2.2.2.2.2.1,x0.2.2.2.2.2.2.1,s,x0.2.2.2.2.2.2.2.2) (Q.1,Q.2.1,q),rS Q.1 x0.2.2.2.1 Q.2.1]) U ?_ ?_
   ·intro k _ h;refine V.co ab 5 0 h U (λh=>?_) (λh=>?_)
    ·refine V.go ab 3 0 U ?_;refine V.cl (aJ.kt U (cK.buildSlice ab U U U U U U U U U U U [] U .str [b] ⟨U,U⟩ U U λl=>aJ.ku (V.cz ?_)));obtain⟨f,h⟩:=bG h;refine V.go ab 4 1 ⟨U,U,U,U⟩ ?_;refine V.cl (aJ.qw ab U U U U ⟨U,U,U,U,trivial,U,U,U,U⟩ U U U [0] U 3 U f U λg i=>V.cz ?_);exact V.a5 ab 4 1 h (g,i) [1,0,2] ⟨U,U,U,U⟩
    exact V.a5 ab 1 0 h Q.2.2 [2,0,1] U
   rintro m ⟨d,e⟩ h;refine V.bI ab 3 0 h (Qe (Q:=(Q.1,Q.2.1,d,e))) [1,1,0] [] U λn j h=>?_;cases h;exact V.jD ab 1 0 j [0,0,0] U
  cases h;exact V.jD ab 1 0 Q [0,0,0] U
def wN(R:bh)(m:ah->Option ah)(l:ah->Option ah):ah->Option ah:=λ(a,b,f,c,d,g,h,e,i)=>
 (bif(decide (d=0)) then(a9 (λ((n,o,p,q,r,s,t,u,v):ah)=>l (n,o,p,q,r,s,t,u,v)) λk=>(av (gq (a,b,f,c,d,g,h,e,i)) λ(w:Bool)=>(bif w then(av (g3 (a,b,f,c,d,g,h,e,i) ([])) λ(x:ah)=>k x) else(av (ia (a,b,f,c,d,g,h,e,i)) λ(y:UInt8)=>(bif(decide ((y.toNat:Int)=(34:Int))) then some (a,(W (b+1)),f,c,d,g,h,e,i) else(av (ia (a,b,f,c,d,g,h,e,i)) λ(z:UInt8)=>(bif(decide ((z.toNat:Int)=(92:Int))) then(av (wM (a,b,f,c,d,g,h,e,i)) λ(j:ah)=>k (j.1,j.2.1,j.2.2.1,c,j.2.2.2.2.1,j.2.2.2.2.2.1,j.2.2.2.2.2.2.1,e,j.2.2.2.2.2.2.2.2)) else(av (ia (a,b,f,c,d,g,h,e,i)) λ(A:UInt8)=>(bif(decide ((A.toNat:Int)=(96:Int))) then(av (zX a (W (b+1))) λ(B:Int)=>(av (r7 (a,b,f,c,d,g,h,e,i) B ([96]:aa) ([96]:aa)) λ(C:ah)=>k C)) else(av (ia (a,b,f,c,d,g,h,e,i)) λ(D:UInt8)=>(bif(decide ((D.toNat:Int)=(36:Int))) then(av (R.u7 (a,b,f,c,d,g,h,e,i)) λ(E:ah)=>k E) else k (a,(W (b+1)),f,c,d,g,h,e,i)))))))))))) else m (a,b,f,c,d,g,h,e,i))
def Ef(R:bh)(x0:ah):Option ah:=
 (a9 (λ((a,b,c,d,e,f,g,h,i):ah)=>(av (gr (a,b,c,d,e,f,g,h,i) ([34]:aa) ([34]:aa)) λ(j:ah)=>some j)) λk=>(fixF (wN R k) bC (x0.1,(W (x0.2.1+1)),x0.2.2.1,x0.2.2.2.1,x0.2.2.2.2.1,x0.2.2.2.2.2.1,x0.2.2.2.2.2.2.1,x0.2.2.2.2.2.2.2.1,x0.2.2.2.2.2.2.2.2)))
theorem Wk{R:bh}(n:hZ R){x0:ah}{a2:bL}{Q:bt}{r:ah}(h:Ef R x0=some r):
  gI Tryz.prog 155 [.pointer a2] [] (eR a2 x0 Q) (λ_:bt=>True) (λq=> .tuple #[]) (λq=>eR a2 r q):=
 by
  refine V.jm (T:=ck) Tryz.call155 Tryz.func155 U λ_ _=>?_;unfold Ef at h;refine V.c8 ab 12 0 h (ρ:=bt) (λs q=>[(0,.bj ⟨a2,1,1⟩ 0)]) .nil (λs q=>gJ a2 s q) ⟨U,U,U,U,U,U,U⟩ ?_ ?_
  ·intro A _ h;refine V.e7 ab 0 0 h (ρ:=bt) (λs q=>[(0,.bj ⟨a2,1,1⟩ 0)]) .nil (λs q=>gJ a2 s q) Q [1,2,0] U ?_;rintro o ⟨e,b,f,g,i,j,k,l,m⟩ a h;rw[wN] at h;refine V.go ab 3 0 U ?_;refine V.cl (aJ.iY 2 U λc=>V.cz ?_);refine V.co ab 6 2 h ⟨U,U,U,U⟩ (λh=>?_) (λh=>?_)
   ·refine V.c8 ab 2 0 h (ρ:=bt) (λs q=>[(0,.bj ⟨a2,1,1⟩ 0)]) .nil (λs q=>gJ a2 s q) U ?_ ?_
    ·intro B _ h;refine V.cI ab 3 0 h mZ [2] U λC _ h=>?_;refine V.co ab 2 0 h U (λh=>?_) (λh=>?_)
     ·refine V.bI ab 2 0 h pt [2,0,0] [] U λD p h=>?_;exact V.a5 ab 2 0 h p [1,2,0] U
     refine V.cI ab 3 0 h n_ [2] U λE _ h=>?_;refine V.co ab 3 0 h U (λh=>?_) (λh=>?_)
     ·cases h;exact V.rx ab 11 2 a [0,0,0] ⟨U,U,U,U,U,U,U⟩
     refine V.cI ab 3 0 h n_ [2] U λF _ h=>?_;refine V.co ab 3 0 h U (λh=>?_) (λh=>?_)
     ·refine V.bI ab 2 0 h Qm [2] [] U λG _ h=>?_;exact V.a5 ab 2 0 h a [1,2,0] U
     refine V.cI ab 3 0 h n_ [2] U λH _ h=>?_;refine V.co ab 3 0 h U (λh=>?_) (λh=>?_)
     ·obtain⟨I,t,h⟩:=jP h;obtain⟨J,u,h⟩:=jP h;refine V.jT (aR.rQ U .nil [2] [10,11] trivial U (λv=>?_));refine bE.o9 ab gh 10 [0,5] U (by kernel_rfl) [] [(47,.bj ⟨a2,1,1⟩ 0),(52,.bj ⟨a2,1,1⟩ 0)] U (fD U) (bE.eE ab gh true 5 [1,2,3,6,7] U (by kernel_rfl) [] [(50,.bj ⟨a2,1,1⟩ 0),(54,.bj ⟨a2,1,1⟩ 1)] trivial [2] U U ⟨(c.fQ fR).1,c.fQ fR,(c.fQ fR).1,c.fQ fR,(fD U)⟩ (bE.kG ab gh 4 U (by kernel_rfl) U U U U U 0 U U 0 0 (e,b,f,(bA.v ⟨a.1,g.length,a.2.1⟩),i,j,k,(bA.v ⟨a.2.2.1,l.length,a.2.2.2⟩),m) ⟨U,U⟩ U U U trivial [2] U (bE.kG ab gh 8 U (by kernel_rfl) U U U U U 0 U U 0 1 (e,b,f,(bA.v ⟨a.1,g.length,a.2.1⟩),i,j,k,(bA.v ⟨a.2.2.1,l.length,a.2.2.2⟩),m) ⟨U,U⟩ U U U trivial [2] U (bE.eE ab gh true 2 [9] U (by kernel_rfl) [(W (b+1))] [(56,.v (.int .i64 (W (b+1))))] trivial [2] U U ⟨⟨trivial,U⟩,⟨U,trivial⟩⟩ (bE.one 10 (by kernel_rfl) (cK.call U U U U (Ql t) U [] U U λ_ _=>bE.nC U (bE.one 11 (by kernel_rfl) (cK.pW U U U U (Ee u) U [2,0,0] U [] U U ?_))))))));rintro w-;refine bE.nC U (bE.done (by kernel_rfl) (aR.boxes (B':= .nil) trivial (V.iA ?_)));exact V.a5 ab 1 0 h w [1,2,0] U
     refine V.cI ab 3 0 h n_ [2] U λK _ h=>?_;refine V.co ab 3 0 h U (λh=>?_) (λh=>?_)
     ·refine V.bI ab 2 0 h n.u7 [2,0,0] [] U λL x h=>?_;exact V.a5 ab 2 0 h x [1,2,0] U
     exact V.a5 ab 11 2 h a [1,2,0] ⟨U,U,U,U,U,U,U⟩
    rintro⟨M,N,O,P,S,X,Y,Z,jW⟩ y h
    try dsimp only at h
    exact V.el ab 1 0 h y [0,1,2] U
   exact V.a5 ab 1 0 h a [0,1,2] U
  rintro⟨Hm,iF,vt,p5,pn,po,p6,BB,pk⟩ z h;refine V.bI ab 2 0 h qF [2,0,0] [] U λWj d h=>?_;cases h;exact V.jD ab 1 0 d [0,0,0] U
def HI(x0:aa)(c:Unit->Option Int)(b:Int->Option Int):Int->Option Int:=λa=>
 (bif(decide (a<(x0.length:Int))) then(a8 (0<=a/\a<(x0.length:Int))<|(bif(decide (((at' x0 a).toNat:Int)=(39:Int))) then some (W (a+1)) else b (W (a+1)))) else c ())
def BU(x0:aa)(a:Int):Option Int:=
 (av (zT a (x0.length:Int)) λ(b:Int)=>(a9 (λ(_:Unit)=>some (-1)) λc=>(fixF (HI x0 c) bC b)))
theorem Wl{x0:aa}{a:Int}{r:Int}(h:BU x0 a=some r):
  FC Tryz.prog 154 [.string (a7 x0),.int .i64 a] [] (λ_:Unit=>True) (λ_=> .int .i64 r) (λ_=>[]):=
 by
  refine V.fE (T:=ck) Tryz.call154 Tryz.func154 U λ_=>?_;unfold BU at h;refine V.cI ab 10 0 h KU [] U λc _ h=>?_;refine V.c8 ab 2 0 h (ρ:=Unit) (λs q=>[]) .nil (λs q=>[]) U ?_ ?_
  ·intro d _ h;refine V.e7 ab 0 0 h (ρ:=Unit) (λs q=>[(0,.v (.string (a7 x0))),(5,.v (.int .i64 s))]) .nil (λs q=>[]) () [] U ?_;rintro e f _ h;rw[HI] at h;refine V.co ab 8 0 h U (λh=>?_) (λh=>?_)
   ·obtain⟨b,h⟩:=bG h;refine V.co ab 10 0 h ⟨b,U⟩ (λh=>?_) (λh=>?_)
    ·cases h;exact V.rt ab 6 0 () [] U
    exact V.el ab 7 0 h () [] U
   exact V.a5 ab 1 0 h () [] U
  rintro _ _ h;cases h;exact V.rt ab 4 0 () [] U
def wO(R:bh)(n:(Bool×ah)->Option (aa×Bool×ah))(o:(Bool×ah)->Option (aa×Bool×ah)):(Bool×ah)->Option (aa×Bool×ah):=λ(m,a,b,f,c,d,g,h,e,i)=>
 (bif(decide (d=0)) then(av (gq (a,b,f,c,d,g,h,e,i)) λ(s:Bool)=>(bif s then(av (g3 (a,b,f,c,d,g,h,e,i) ([])) λ(t:ah)=>n (m,t)) else(av (ia (a,b,f,c,d,g,h,e,i)) λ(j:UInt8)=>(av (zS j) λ(p:Bool)=>(cR ((bif p then true else(decide ((j.toNat:Int)=(10:Int))))=false) (hr (a,b,f,c,d,g,h,e,i)) [] λ(u:aa)=>(bif(bif(bif p then true else(decide ((j.toNat:Int)=(10:Int)))) then true else(!(decide (u=[])))) then n (m,a,b,f,c,d,g,h,e,i) else(a9 (λ((v,w,x,y,z,A,B,C,D,E):Bool×ah)=>o (v,w,x,y,z,A,B,C,D,E)) λl=>(bif(decide ((j.toNat:Int)=(92:Int))) then(av (wM (a,b,f,c,d,g,h,e,i)) λ(k:ah)=>l (false,k.1,k.2.1,k.2.2.1,c,k.2.2.2.2.1,k.2.2.2.2.2.1,k.2.2.2.2.2.2.1,e,k.2.2.2.2.2.2.2.2)) else(bif(decide ((j.toNat:Int)=(39:Int))) then(av (BU a (W (b+1))) λ(F:Int)=>(av (r7 (a,b,f,c,d,g,h,e,i) F ([39]:aa) ([39]:aa)) λ(G:ah)=>l (false,G))) else(bif(decide ((j.toNat:Int)=(34:Int))) then(av (Ef R (a,b,f,c,d,g,h,e,i)) λ(H:ah)=>l (false,H)) else(bif(decide ((j.toNat:Int)=(96:Int))) then(av (zX a (W (b+1))) λ(I:Int)=>(av (r7 (a,b,f,c,d,g,h,e,i) I ([96]:aa) ([96]:aa)) λ(J:ah)=>l (false,J))) else(bif(decide ((j.toNat:Int)=(36:Int))) then(a9 (λ(K:Bool)=>(av (R.u7 (a,b,f,c,d,g,h,e,i)) λ(L:ah)=>l (K,L))) λq=>(av (s4 (a,b,f,c,d,g,h,e,i) 1) λ(r:UInt8)=>(cR ((decide ((r.toNat:Int)=(40:Int)))=false) (s4 (a,b,f,c,d,g,h,e,i) 1) (0:UInt8) λ(M:UInt8)=>(bif(bif(decide ((r.toNat:Int)=(40:Int))) then true else(decide ((M.toNat:Int)=(123:Int)))) then q false else q m)))) else l (m,a,(W (b+1)),f,c,d,g,h,e,i))))))))))))) else n (m,a,b,f,c,d,g,h,e,i))
def p7(R:bh)(x0:ah):Option (aa×Bool×ah):=
 (a9 (λ((e,a,b,f,g,h,i,j,k,l):Bool×ah)=>(a9 (λ(c:Int)=>(a8 (0<=x0.2.1/\x0.2.1<=c/\c<=(a.length:Int))<|some ((b9 a x0.2.1 c),e,(a,b,f,g,h,i,j,k,l)))) λd=>(bif(decide ((a.length:Int)<b)) then d (a.length:Int) else d b))) λm=>(fixF (wO R m) bC (true,x0.1,x0.2.1,x0.2.2.1,x0.2.2.2.1,x0.2.2.2.2.1,x0.2.2.2.2.2.1,x0.2.2.2.2.2.2.1,x0.2.2.2.2.2.2.2.1,x0.2.2.2.2.2.2.2.2)))
theorem Ej{R:bh}(t:hZ R){x0:ah}{a2:bL}{Q:bt}{r:aa×Bool×ah}(h:p7 R x0=some r):
  gI Tryz.prog 132 [.pointer a2] [] (eR a2 x0 Q) (λ_:bt=>True) (λq=> .tuple #[.string (a7 r.1),.bool r.2.1]) (λq=>eR a2 r.2.2 q):=
 by
  refine V.jm (T:=ck) Tryz.call132 Tryz.func132 U λ_ _=>?_;unfold p7 at h;refine V.c8 ab 18 0 h (ρ:=bt) (λs q=>[(0,.bj ⟨a2,1,1⟩ 0),(4,.v (.int .i64 x0.2.1)),(5,.v (.bool s.1))]) .nil (λs q=>gJ a2 s.2 q) ⟨U,U,U,U⟩ ?_ ?_
  ·intro P _ h;refine V.e7 ab 0 0 h (ρ:=bt) (λs q=>[(0,.bj ⟨a2,1,1⟩ 0),(4,.v (.int .i64 x0.2.1)),(5,.v (.bool s.1))]) .nil (λs q=>gJ a2 s.2 q) Q [1,2,0] U ?_;rintro v ⟨S,d,b,e,f,g,i,j,k,l⟩ a h;rw[wO] at h;refine V.go ab 3 0 U ?_;refine V.cl (aJ.iY 2 U λc=>V.cz ?_);refine V.co ab 6 2 h ⟨U,U,U,U⟩ (λh=>?_) (λh=>?_)
   ·refine V.cI ab 6 0 h mZ [2] U λX _ h=>?_;refine V.co ab 1 0 h U (λh=>?_) (λh=>?_)
    ·refine V.bI ab 3 0 h pt [2,0,0] [] U λY w h=>?_;exact V.a5 ab 2 0 h w [1,2,0] U
    refine V.cI ab 4 0 h n_ [2] U λZ _ h=>?_;refine V.cI ab 6 0 h Qc [] U λiP _ h=>?_;refine V.hX ab 6 0 h oK [2] U (λ_=>id) λfb h=>?_;refine V.co ab 3 0 h U (λh=>?_) (λh=>?_)
    ·exact V.a5 ab 1 0 h a [0,1,2] U
    refine V.c8 ab 1 0 h (ρ:=bt) (λs q=>[(0,.bj ⟨a2,1,1⟩ 0),(4,.v (.int .i64 x0.2.1)),(5,.v (.bool s.1))]) .nil (λs q=>gJ a2 s.2 q) U ?_ ?_
    ·intro vm _ h;refine V.co ab 6 0 h U (λh=>?_) (λh=>?_)
     ·refine V.bI ab 6 0 h Qm [2] [] U λeg _ h=>?_;exact V.a5 ab 2 0 h a [1,2,0] U
     refine V.co ab 6 0 h U (λh=>?_) (λh=>?_)
     ·refine V.go ab 4 0 U ?_;obtain⟨dB,x,h⟩:=jP h;obtain⟨kM,m,h⟩:=jP h;refine V.jT (aR.rQ U .nil [2] [10,11] trivial U (λy=>?_));refine bE.o9 ab gh 10 [0,5] U (by kernel_rfl) [] [(49,.bj ⟨a2,1,1⟩ 0),(54,.bj ⟨a2,1,1⟩ 0)] U (fD U) (bE.eE ab gh true 5 [1,2,3,6,7] U (by kernel_rfl) [] [(52,.bj ⟨a2,1,1⟩ 0),(56,.bj ⟨a2,1,1⟩ 1)] trivial [2] U U ⟨(c.fQ fR).1,c.fQ fR,(c.fQ fR).1,c.fQ fR,(fD U)⟩ (bE.kG ab gh 4 U (by kernel_rfl) U U U U U 0 U U 0 0 (d,b,e,(bA.v ⟨a.1,f.length,a.2.1⟩),g,i,j,(bA.v ⟨a.2.2.1,k.length,a.2.2.2⟩),l) ⟨U,U⟩ U U U trivial [2] U (bE.kG ab gh 8 U (by kernel_rfl) U U U U U 0 U U 0 1 (d,b,e,(bA.v ⟨a.1,f.length,a.2.1⟩),g,i,j,(bA.v ⟨a.2.2.1,k.length,a.2.2.2⟩),l) ⟨U,U⟩ U U U trivial [2] U (bE.eE ab gh true 2 [9] U (by kernel_rfl) [(W (b+1))] [(58,.v (.int .i64 (W (b+1))))] trivial [2] U U ⟨⟨trivial,U⟩,⟨U,trivial⟩⟩ (bE.one 10 (by kernel_rfl) (cK.call U U U U (Wl x) U [] U U λ_ _=>bE.nC U (bE.one 11 (by kernel_rfl) (cK.pW U U U U (Ee m) U [2,0,0] U [] U U ?_))))))));rintro z-;refine bE.nC U (bE.done (by kernel_rfl) (aR.boxes (B':= .nil) trivial (V.iA ?_)));exact V.a5 ab 1 0 h z [1,2,0] U
     refine V.co ab 6 0 h U (λh=>?_) (λh=>?_)
     ·refine V.bI ab 6 0 h (Wk t) [2,0,0] [] U λj9 A h=>?_;exact V.a5 ab 2 0 h A [1,2,0] U
     refine V.co ab 6 0 h U (λh=>?_) (λh=>?_)
     ·refine V.go ab 4 0 U ?_;obtain⟨hK,n,h⟩:=jP h;obtain⟨nH,B,h⟩:=jP h;refine V.jT (aR.rQ U .nil [2] [10,11] trivial U (λC=>?_));refine bE.o9 ab gh 10 [0,5] U (by kernel_rfl) [] [(69,.bj ⟨a2,1,1⟩ 0),(74,.bj ⟨a2,1,1⟩ 0)] U (fD U) (bE.eE ab gh true 5 [1,2,3,6,7] U (by kernel_rfl) [] [(72,.bj ⟨a2,1,1⟩ 0),(76,.bj ⟨a2,1,1⟩ 1)] trivial [2] U U ⟨(c.fQ fR).1,c.fQ fR,(c.fQ fR).1,c.fQ fR,(fD U)⟩ (bE.kG ab gh 4 U (by kernel_rfl) U U U U U 0 U U 0 0 (d,b,e,(bA.v ⟨a.1,f.length,a.2.1⟩),g,i,j,(bA.v ⟨a.2.2.1,k.length,a.2.2.2⟩),l) ⟨U,U⟩ U U U trivial [2] U (bE.kG ab gh 8 U (by kernel_rfl) U U U U U 0 U U 0 1 (d,b,e,(bA.v ⟨a.1,f.length,a.2.1⟩),g,i,j,(bA.v ⟨a.2.2.1,k.length,a.2.2.2⟩),l) ⟨U,U⟩ U U U trivial [2] U (bE.eE ab gh true 2 [9] U (by kernel_rfl) [(W (b+1))] [(78,.v (.int .i64 (W (b+1))))] trivial [2] U U ⟨⟨trivial,U⟩,⟨U,trivial⟩⟩ (bE.one 10 (by kernel_rfl) (cK.call U U U U (Ql n) U [] U U λ_ _=>bE.nC U (bE.one 11 (by kernel_rfl) (cK.pW U U U U (Ee B) U [2,0,0] U [] U U ?_))))))));rintro o-;refine bE.nC U (bE.done (by kernel_rfl) (aR.boxes (B':= .nil) trivial (V.iA ?_)));exact V.a5 ab 1 0 h o [1,2,0] U
     refine V.co ab 6 0 h U (λh=>?_) (λh=>?_)
     ·refine V.e6 ab 0 0 h (ρ:=Unit) (λs q=>[(0,.bj ⟨a2,1,1⟩ 0),(4,.v (.int .i64 x0.2.1)),(5,.v (.bool s))]) .nil (λs q=>eR a2 (d,b,e,f,g,i,j,k,l) a) U ?_ ?_
      ·intro m_ _ h;refine V.cI ab 3 0 h Ed [2] U λez _ h=>?_;refine V.hX ab 3 0 h Ed [2] U (λ_=>id) λjG h=>?_;refine V.co ab 3 0 h U (λh=>?_) (λh=>?_)
       ·exact V.a5 ab 3 0 h () [2,0,1] U
       exact V.a5 ab 1 0 h () [2,0,1] U
      rintro jn _ h;refine V.bI ab 2 0 h t.u7 [0,0,0] [] U λuh D h=>?_;exact V.a5 ab 2 0 h D [1,2,0] U
     exact V.a5 ab 11 2 h a [1,2,0] ⟨U,U,U,U,U,U,U⟩
    rintro⟨tW,rX,vn,ug,zy,vt,p5,pj,mU,p6⟩ E h
    try dsimp only at h
    exact V.el ab 1 0 h E [0,1,2] U
   exact V.a5 ab 1 0 h a [0,1,2] U
  rintro⟨F,G,H,I,J,K,L,M,N,O⟩ u h;refine V.e6 ab 8 2 h (ρ:=Unit) (λs q=>[(0,.bj ⟨a2,1,1⟩ 0),(4,.v (.int .i64 x0.2.1)),(5,.v (.bool F)),(7,.v (.int .i64 s))]) .nil (λs q=>eR a2 (G,H,I,J,K,L,M,N,O) u) ⟨U,U,U,U⟩ ?_ ?_
  ·intro Qr _ h;refine V.co ab 10 2 h ⟨U,U,U,U⟩ (λh=>?_) (λh=>?_)
   ·exact V.a5 ab 8 2 h () [2,0,1] ⟨U,U,U,U⟩
   exact V.a5 ab 1 0 h () [2,0,1] U
  rintro Bs _ h;obtain⟨p,h⟩:=bG h;cases h;exact V.rx ab 13 0 u [0,0,0] ⟨U,U,U,p,U⟩
def z2(x0:aa)(b:Unit->Option Bool)(c:Int->Option Bool):Int->Option Bool:=λa=>
 (bif(decide (a<(x0.length:Int))) then(a8 (0<=a/\a<(x0.length:Int))<|(a8 (((decide ((97:Int)<=((at' x0 a).toNat:Int)))=true)->0<=a/\a<(x0.length:Int))<|(a8 (((bif(decide ((97:Int)<=((at' x0 a).toNat:Int))) then(decide (((at' x0 a).toNat:Int)<=(122:Int))) else false)=false)->0<=a/\a<(x0.length:Int))<|(a8 (((decide ((65:Int)<=((at' x0 a).toNat:Int)))=true)->((bif(decide ((97:Int)<=((at' x0 a).toNat:Int))) then(decide (((at' x0 a).toNat:Int)<=(122:Int))) else false)=false)->0<=a/\a<(x0.length:Int))<|(a8 (((bif(bif(decide ((97:Int)<=((at' x0 a).toNat:Int))) then(decide (((at' x0 a).toNat:Int)<=(122:Int))) else false) then true else(bif(decide ((65:Int)<=((at' x0 a).toNat:Int))) then(decide (((at' x0 a).toNat:Int)<=(90:Int))) else false))=false)->0<=a/\a<(x0.length:Int))<|(a8 (0<=a/\a<(x0.length:Int))<|(a8 (((decide ((48:Int)<=((at' x0 a).toNat:Int)))=true)->0<=a/\a<(x0.length:Int))<|(bif(bif(!(bif(bif(bif(decide ((97:Int)<=((at' x0 a).toNat:Int))) then(decide (((at' x0 a).toNat:Int)<=(122:Int))) else false) then true else(bif(decide ((65:Int)<=((at' x0 a).toNat:Int))) then(decide (((at' x0 a).toNat:Int)<=(90:Int))) else false)) then true else(decide (((at' x0 a).toNat:Int)=(95:Int))))) then(bif(!(bif(decide ((48:Int)<=((at' x0 a).toNat:Int))) then(decide (((at' x0 a).toNat:Int)<=(57:Int))) else false)) then true else(decide (a=0))) else false) then some false else c (W (a+1)))))))))) else b ())
def z3(x0:aa):Option Bool:=
 (a9 (λ(_:Unit)=>some (decide (0<(x0.length:Int)))) λa=>(fixF (z2 x0 a) bC 0))
theorem Wn{x0:aa}{r:Bool}(h:z3 x0=some r):
  FC Tryz.prog 133 [.string (a7 x0)] [] (λ_:Unit=>True) (λ_=> .bool r) (λ_=>[]):=
 by
  refine V.fE (T:=ck) Tryz.call133 Tryz.func133 U λ_=>?_;unfold z3 at h;refine V.c8 ab 9 0 h (ρ:=Unit) (λs q=>[(0,.v (.string (a7 x0)))]) .nil (λs q=>[]) U ?_ ?_
  ·intro j _ h;refine V.e7 ab 0 0 h (ρ:=Unit) (λs q=>[(0,.v (.string (a7 x0))),(3,.v (.int .i64 s))]) .nil (λs q=>[]) () [] U ?_;rintro a k _ h;rw[z2] at h;refine V.co ab 8 0 h U (λh=>?_) (λh=>?_)
   ·obtain⟨b,h⟩:=bG h;obtain⟨c,h⟩:=bG h;obtain⟨d,h⟩:=bG h;obtain⟨e,h⟩:=bG h;obtain⟨f,h⟩:=bG h;obtain⟨g,h⟩:=bG h;obtain⟨i,h⟩:=bG h;refine V.co ab 62 0 h ⟨b,c,d,e,f,g,i,U⟩ (λh=>?_) (λh=>?_)
    ·cases h;exact V.rt ab 4 0 () [] U
    exact V.el ab 7 0 h () [] U
   exact V.a5 ab 1 0 h () [] U
  rintro _ _ h;cases h;exact V.rt ab 7 0 () [] U
def vu(x0:ah):Option Bool:=
 (av (ia x0) λ(a:UInt8)=>(cR ((decide ((a.toNat:Int)=(10:Int)))=false) (hr x0) [] λ(b:aa)=>some (bif(decide ((a.toNat:Int)=(10:Int))) then true else(!(decide (b=[]))))))
theorem K4{x0:ah}{a2:bL}{Q:bt}{r:Bool}(h:vu x0=some r):
  FC Tryz.prog 150 [.pointer a2] [lL a2 x0 Q] (λ_:Unit=>True) (λ_=> .bool r) (λ_=>[]):=
 by refine V.fE (T:=ck) Tryz.call150 Tryz.func150 U λ_=>?_;unfold vu at h;refine V.cI ab 7 0 h n_ [0] U λa _ h=>?_;refine V.hX ab 3 0 h oK [0] U (λ_=>id) λb h=>?_;cases h;exact V.rt ab 4 0 () [] U
def hg(x0:ah)(a:Int):Option ah:=
 some (x0.1,x0.2.1,x0.2.2.1,x0.2.2.2.1,2,a,x0.2.2.2.2.2.2)
theorem pv{x0:ah}{a:Int}{a3:bL}{Q:bt}{r:ah}(h:hg x0 a=some r):
  gI Tryz.prog 52 [.pointer a3,.int .i64 a] [] [lL a3 x0 Q] (λ_:Unit=>True) (λ_=> .tuple #[]) (λ_=>[lL a3 (r.1,r.2.1,r.2.2.1,x0.2.2.2.1,r.2.2.2.2.1,r.2.2.2.2.2.1,r.2.2.2.2.2.2.1,x0.2.2.2.2.2.2.2.1,r.2.2.2.2.2.2.2.2) Q]):=
 by refine V.jm (T:=ck) Tryz.call52 Tryz.func52 U λ_ _=>?_;unfold hg at h;cases h;exact V.jD ab 14 0 () [0] ⟨U,U,U,U,U,U,U⟩
def BV(x0:aa)(h:(aa×UInt8)->Option (aa×Bool))(f:(aa×UInt8×Int)->Option (aa×Bool)):(aa×UInt8×Int)->Option (aa×Bool):=λ(b,c,a)=>
 (bif(decide (a<(x0.length:Int))) then(a8 (0<=a/\a<(x0.length:Int))<|(a9 (λ(d:UInt8)=>(a9 (λ((i,j,k):aa×UInt8×Int)=>f (i,j,(W (k+1)))) λe=>(bif(decide ((c.toNat:Int)=(39:Int))) then(bif(decide (((at' x0 a).toNat:Int)=(39:Int))) then e (b,(0:UInt8),a) else(a8 (b.length+([(at' x0 a)]:aa).length<=536870912)<|e ((b++([(at' x0 a)]:aa)),c,a))) else(bif(bif(decide (((at' x0 a).toNat:Int)=(92:Int))) then(decide ((W (a+1))=(x0.length:Int))) else false) then some ([],false) else(bif(bif(decide (((at' x0 a).toNat:Int)=(92:Int))) then(decide ((d.toNat:Int)=(10:Int))) else false) then e (b,c,(W (a+1))) else(bif(bif(decide (((at' x0 a).toNat:Int)=(92:Int))) then(bif(bif(bif(bif(decide ((c.toNat:Int)=(0:Int))) then true else(decide ((d.toNat:Int)=(36:Int)))) then true else(decide ((d.toNat:Int)=(34:Int)))) then true else(decide ((d.toNat:Int)=(92:Int)))) then true else(decide ((d.toNat:Int)=(96:Int)))) else false) then(a8 (b.length+([d]:aa).length<=536870912)<|e ((b++([d]:aa)),c,(W (a+1)))) else(bif(bif(decide (((at' x0 a).toNat:Int)=(36:Int))) then true else(decide (((at' x0 a).toNat:Int)=(96:Int)))) then some ([],false) else(bif(bif(bif(decide (((at' x0 a).toNat:Int)=(34:Int))) then(decide ((c.toNat:Int)=(0:Int))) else false) then true else(bif(decide (((at' x0 a).toNat:Int)=(39:Int))) then(decide ((c.toNat:Int)=(0:Int))) else false)) then e (b,(at' x0 a),a) else(bif(decide (((at' x0 a).toNat:Int)=(34:Int))) then e (b,(0:UInt8),a) else(a8 (b.length+([(at' x0 a)]:aa).length<=536870912)<|e ((b++([(at' x0 a)]:aa)),c,a))))))))))) λg=>(bif(!(decide ((W (a+1))=(x0.length:Int)))) then(a8 (0<=(W (a+1))/\(W (a+1))<(x0.length:Int))<|g (at' x0 (W (a+1)))) else g (0:UInt8)))) else h (b,c))
def K6(b:aa)(d:Unit->Option (aa×Bool))(c:Int->Option (aa×Bool)):Int->Option (aa×Bool):=λa=>
 (bif(decide (a<(b.length:Int))) then(a8 (0<=a/\a<(b.length:Int))<|(bif(decide (((at' b a).toNat:Int)=(10:Int))) then some ([],false) else c (W (a+1)))) else d ())
def Ek(x0:aa):Option (aa×Bool):=
 (a9 (λ((a,b):aa×UInt8)=>(bif(!(decide ((b.toNat:Int)=(0:Int)))) then some ([],false) else(a9 (λ(_:Unit)=>some (a,true)) λc=>(fixF (K6 a c) bC 0)))) λd=>(fixF (BV x0 d) bC (([]:aa),(0:UInt8),0)))
theorem ag6{x0:aa}{r:aa×Bool}(h:Ek x0=some r):
  FC Tryz.prog 151 [.string (a7 x0)] [] (λ_:Unit=>True) (λ_=> .tuple #[.string (a7 r.1),.bool r.2]) (λ_=>[]):=
 by
  refine V.fE (T:=ck) Tryz.call151 Tryz.func151 U λ_=>?_;unfold Ek at h;refine V.go ab 7 0 U ?_;refine V.cl (aJ.kt U (cK.buildSlice ab U U U U U U U U U U U [] U .byte [] ⟨U,U⟩ U U λa2=>aJ.ku (V.cz ?_)));refine V.c8 ab 11 0 h (ρ:=bL×Nat) (λs q=>[(4,.v (.slice q.1 s.1.length q.2)),(5,.v (.int .u8 (s.2.toNat:Int)))]) .nil (λs q=>[lM q.1 s.1 q.2]) U ?_ ?_
  ·intro F _ h;refine V.e7 ab 0 0 h (ρ:=bL×Nat) (λs q=>[(0,.v (.string (a7 x0))),(4,.v (.slice q.1 s.1.length q.2)),(5,.v (.int .u8 (s.2.1.toNat:Int))),(6,.v (.int .i64 s.2.2))]) .nil (λs q=>[lM q.1 s.1 q.2]) (a2,([]:aa).length) [0] U ?_;rintro n ⟨k,o,d⟩ ⟨a,b⟩ h;rw[BV] at h;refine V.co ab 8 0 h U (λh=>?_) (λh=>?_)
   ·obtain⟨p,h⟩:=bG h;refine V.e6 ab 23 0 h (ρ:=Unit) (λs q=>[(0,.v (.string (a7 x0))),(4,.v (.slice a k.length b)),(5,.v (.int .u8 (o.toNat:Int))),(6,.v (.int .i64 d)),(7,.v (.int .u8 ((at' x0 d).toNat:Int))),(8,.v (.int .u8 (s.toNat:Int))),(9,.v (.bool (decide ((W (d+1))=(x0.length:Int)))))]) .nil (λs q=>[lM a k b]) ⟨p,U⟩ ?_ ?_
    ·intro G _ h;refine V.co ab 5 0 h U (λh=>?_) (λh=>?_)
     ·obtain⟨t,h⟩:=bG h;exact V.a5 ab 7 0 h () [0] ⟨t,U⟩
     exact V.a5 ab 1 0 h () [0] U
    rintro u _ h;refine V.c8 ab 0 0 h (ρ:=bL×Nat) (λs q=>[(0,.v (.string (a7 x0))),(4,.v (.slice q.1 s.1.length q.2)),(5,.v (.int .u8 (s.2.1.toNat:Int))),(6,.v (.int .i64 s.2.2))]) .nil (λs q=>[lM q.1 s.1 q.2]) U ?_ ?_
    ·intro H _ h;refine V.co ab 6 0 h U (λh=>?_) (λh=>?_)
     ·refine V.co ab 5 0 h U (λh=>?_) (λh=>?_)
      ·exact V.a5 ab 4 0 h (a,b) [0] U
      refine V.go ab 3 0 U ?_;refine V.cl (aJ.kt U (cK.buildSlice ab U U U U U U U U U U U [] U .byte [(at' x0 d)] ⟨U,U⟩ U U λI=>aJ.ku (V.cz ?_)));obtain⟨v,h⟩:=bG h;refine V.cl (aJ.qw ab U U U U ⟨U,U,U,U,trivial,U,U,U,U⟩ U U U [1] U 0 U v U λw x=>V.cz ?_);exact V.a5 ab 3 0 h (w,x) [0] U
     refine V.co ab 9 0 h U (λh=>?_) (λh=>?_)
     ·cases h;exact V.rt ab 5 0 () [] U
     refine V.co ab 10 0 h U (λh=>?_) (λh=>?_)
     ·exact V.a5 ab 6 0 h (a,b) [0] U
     refine V.co ab 26 0 h U (λh=>?_) (λh=>?_)
     ·refine V.go ab 4 0 U ?_;refine V.cl (aJ.kt U (cK.buildSlice ab U U U U U U U U U U U [] U .byte [u] ⟨U,U⟩ U U λJ=>aJ.ku (V.cz ?_)));obtain⟨y,h⟩:=bG h;refine V.cl (aJ.qw ab U U U U ⟨U,U,U,U,trivial,U,U,U,U⟩ U U U [1] U 0 U y U λz g=>V.cz ?_);exact V.a5 ab 8 0 h (z,g) [0] U
     refine V.co ab 10 0 h U (λh=>?_) (λh=>?_)
     ·cases h;exact V.rt ab 5 0 () [] U
     refine V.co ab 18 0 h U (λh=>?_) (λh=>?_)
     ·exact V.a5 ab 5 0 h (a,b) [0] U
     refine V.co ab 6 0 h U (λh=>?_) (λh=>?_)
     ·exact V.a5 ab 4 0 h (a,b) [0] U
     refine V.go ab 3 0 U ?_;refine V.cl (aJ.kt U (cK.buildSlice ab U U U U U U U U U U U [] U .byte [(at' x0 d)] ⟨U,U⟩ U U λK=>aJ.ku (V.cz ?_)));obtain⟨A,h⟩:=bG h;refine V.cl (aJ.qw ab U U U U ⟨U,U,U,U,trivial,U,U,U,U⟩ U U U [1] U 0 U A U λB C=>V.cz ?_);exact V.a5 ab 3 0 h (B,C) [0] U
    rintro⟨L,M,N⟩ ⟨D,i⟩ h
    try dsimp only at h
    exact V.el ab 6 0 h (D,i) [0] U
   exact V.a5 ab 1 0 h (a,b) [0] U
  rintro⟨c,O⟩ ⟨e,f⟩ h;refine V.co ab 6 0 h U (λh=>?_) (λh=>?_)
  ·cases h;exact V.rt ab 5 0 () [] U
  refine V.c8 ab 8 0 h (ρ:=Unit) (λs q=>[(4,.v (.slice e c.length f))]) .nil (λs q=>[lM e c f]) U ?_ ?_
  ·intro P _ h;refine V.e7 ab 0 0 h (ρ:=Unit) (λs q=>[(4,.v (.slice e c.length f)),(118,.v (.slice e c.length f)),(119,.v (.int .i64 (c.length:Int))),(120,.v (.int .i64 s))]) .nil (λs q=>[lM e c f]) () [0] U ?_;rintro E l _ h;rw[K6] at h;refine V.co ab 5 0 h U (λh=>?_) (λh=>?_)
   ·refine V.go ab 5 0 U ?_;refine V.cl (aJ.iY 0 U λj=>V.cz ?_);obtain⟨m,h⟩:=bG h;refine V.go ab 1 0 ⟨j.ix m,U⟩ ?_;refine V.cl (aJ.load ab U U U U U U U 0 U U (Int.toNat l) 0 (at' c l) ⟨mN m,U⟩ U U (V.cz ?_));refine V.co ab 7 0 h U (λh=>?_) (λh=>?_)
    ·cases h;exact V.rt ab 5 0 () [] U
    exact V.el ab 6 0 h () [0] U
   exact V.a5 ab 1 0 h () [0] U
  rintro _ _ h;refine V.go ab 3 0 U ?_;refine V.cl (aJ.strOf ab U U U U U U U U 0 U U (V.cz ?_));cases h;exact V.rt ab 3 0 () [] U
def HM(x0:ah)(d:Int->Option ah)(b:Int->Option ah):Int->Option ah:=λa=>
 (av (ia (x0.1,a,x0.2.2)) λ(c:UInt8)=>(cR ((decide ((48:Int)<=(c.toNat:Int)))=true) (ia (x0.1,a,x0.2.2)) (0:UInt8) λ(e:UInt8)=>(bif(bif(decide ((48:Int)<=(c.toNat:Int))) then(decide ((e.toNat:Int)<=(57:Int))) else false) then b (W (a+1)) else d a)))
def BW(R:bh)(x0:ah):Option ah:=
 (a9 (λ(h:Int)=>(av (hr (x0.1,h,x0.2.2.1,x0.2.2.2.1,x0.2.2.2.2.1,x0.2.2.2.2.2.1,x0.2.2.2.2.2.2.1,x0.2.2.2.2.2.2.2.1,x0.2.2.2.2.2.2.2.2)) λ(c:aa)=>(av (g2 (x0.1,(W (h+(c.length:Int))),x0.2.2.1,x0.2.2.2.1,x0.2.2.2.2.1,x0.2.2.2.2.2.1,x0.2.2.2.2.2.2.1,x0.2.2.2.2.2.2.2.1,x0.2.2.2.2.2.2.2.2)) λ(a:ah)=>(av (gq (a.1,a.2.1,a.2.2.1,x0.2.2.2.1,a.2.2.2.2.1,a.2.2.2.2.2.1,a.2.2.2.2.2.2.1,x0.2.2.2.2.2.2.2.1,a.2.2.2.2.2.2.2.2)) λ(l:Bool)=>(bif l then(av (g3 (a.1,a.2.1,a.2.2.1,x0.2.2.2.1,a.2.2.2.2.1,a.2.2.2.2.2.1,a.2.2.2.2.2.2.1,x0.2.2.2.2.2.2.2.1,a.2.2.2.2.2.2.2.2) ([120]:aa)) λ(d:ah)=>(a9 (λ(m:aq)=>some (d.1,d.2.1,d.2.2.1,m,d.2.2.2.2.1,d.2.2.2.2.2.1,d.2.2.2.2.2.2.1,d.2.2.2.2.2.2.2.1,d.2.2.2.2.2.2.2.2)) λi=>(bif(bif(decide (c=([60,60]:aa))) then true else(decide (c=([60,60,45]:aa)))) then(a8 (d.2.2.2.1.length+([(([120]:aa),(decide (c=([60,60,45]:aa))))]:aq).length<=536870912)<|i (d.2.2.2.1++([(([120]:aa),(decide (c=([60,60,45]:aa))))]:aq))) else i d.2.2.2.1))) else(av (vu (a.1,a.2.1,a.2.2.1,x0.2.2.2.1,a.2.2.2.2.1,a.2.2.2.2.2.1,a.2.2.2.2.2.2.1,x0.2.2.2.2.2.2.2.1,a.2.2.2.2.2.2.2.2)) λ(n:Bool)=>(bif n then(av (hg (a.1,a.2.1,a.2.2.1,x0.2.2.2.1,a.2.2.2.2.1,a.2.2.2.2.2.1,a.2.2.2.2.2.2.1,x0.2.2.2.2.2.2.2.1,a.2.2.2.2.2.2.2.2) a.2.1) λ(e:ah)=>some (e.1,e.2.1,e.2.2.1,x0.2.2.2.1,e.2.2.2.2.1,e.2.2.2.2.2.1,e.2.2.2.2.2.2.1,x0.2.2.2.2.2.2.2.1,e.2.2.2.2.2.2.2.2)) else(av (p7 R (a.1,a.2.1,a.2.2.1,x0.2.2.2.1,a.2.2.2.2.1,a.2.2.2.2.2.1,a.2.2.2.2.2.2.1,x0.2.2.2.2.2.2.2.1,a.2.2.2.2.2.2.2.2)) λ(j,p,b)=>(bif(!(bif(decide (c=([60,60]:aa))) then true else(decide (c=([60,60,45]:aa))))) then some b else(a8 (0<=(a.2.2.2.2.2.2.1.length:Int)/\(a.2.2.2.2.2.2.1.length:Int)<=(b.2.2.2.2.2.2.1.length:Int)/\(b.2.2.2.2.2.2.1.length:Int)<=(b.2.2.2.2.2.2.1.length:Int))<|(a8 (((j.length+(b9 b.2.2.2.2.2.2.1 (a.2.2.2.2.2.2.1.length:Int) (b.2.2.2.2.2.2.1.length:Int)).length:Nat):Int)<=9223372036854775807)<|(av (Ek (j++(b9 b.2.2.2.2.2.2.1 (a.2.2.2.2.2.2.1.length:Int) (b.2.2.2.2.2.2.1.length:Int)))) λ(g,k)=>(a8 (((bif(decide (c=([60,60,45]:aa))) then(decide (0<(g.length:Int))) else false)=true)->((bif(decide (b.2.2.2.2.1=2)) then true else(!k))=false)->0<=(0:Int)/\0<(g.length:Int))<|(bif(bif(bif(decide (b.2.2.2.2.1=2)) then true else(!k)) then true else(bif(bif(decide (c=([60,60,45]:aa))) then(decide (0<(g.length:Int))) else false) then(decide (((at' g 0).toNat:Int)=(9:Int))) else false)) then(av (hg b a.2.1) λ(f:ah)=>some (f.1,f.2.1,f.2.2.1,b.2.2.2.1,f.2.2.2.2.1,f.2.2.2.2.2.1,f.2.2.2.2.2.2.1,b.2.2.2.2.2.2.2.1,f.2.2.2.2.2.2.2.2)) else(a8 (b.2.2.2.1.length+([(g,(decide (c=([60,60,45]:aa))))]:aq).length<=536870912)<|some (b.1,b.2.1,b.2.2.1,(b.2.2.2.1++([(g,(decide (c=([60,60,45]:aa))))]:aq)),b.2.2.2.2.1,b.2.2.2.2.2.1,b.2.2.2.2.2.2.1,b.2.2.2.2.2.2.2.1,b.2.2.2.2.2.2.2.2)))))))))))))))) λo=>(fixF (HM x0 o) bC x0.2.1))
theorem Wp{R:bh}(p:hZ R){x0:ah}{a2:bL}{Q:bt}{r:ah}(h:BW R x0=some r):
  gI Tryz.prog 131 [.pointer a2] [] (eR a2 x0 Q) (λ_:bt=>True) (λq=> .tuple #[]) (λq=>eR a2 r q):=
 by
  refine V.jm (T:=ck) Tryz.call131 Tryz.func131 U λ_ _=>?_;unfold BW at h;refine V.c8 ab 1 0 h (ρ:=Unit) (λs q=>[(0,.bj ⟨a2,1,1⟩ 0)]) .nil (λs q=>eR a2 (x0.1,s,x0.2.2) Q) U ?_ ?_
  ·intro y _ h;refine V.e7 ab 0 0 h (ρ:=Unit) (λs q=>[(0,.bj ⟨a2,1,1⟩ 0)]) .nil (λs q=>eR a2 (x0.1,s,x0.2.2) Q) () [0,1,2] U ?_;rintro t z _ h;rw[HM] at h;refine V.cI ab 4 0 h n_ [0] U λA _ h=>?_;refine V.hX ab 3 0 h n_ [0] U (λ_=>id) λB h=>?_;refine V.co ab 3 0 h U (λh=>?_) (λh=>?_)
   ·exact V.el ab 13 0 h () [0,1,2] ⟨U,U,U,U,U,U,U⟩
   exact V.a5 ab 1 0 h () [0,1,2] U
  rintro C _ h;refine V.cI ab 3 0 h oK [0] U λo _ h=>?_;refine V.bI ab 29 0 h n9 [0] [] ⟨U,U,U,U,U,U,U⟩ λD _ h=>?_;refine V.cI ab 5 0 h mZ [0] U λE _ h=>?_;refine V.co ab 1 0 h U (λh=>?_) (λh=>?_)
  ·refine V.bI ab 3 0 h pt [0,0,0] [] U λb a h=>?_;refine V.e6 ab 1 0 h (ρ:=bL×Nat) (λs q=>[]) .nil (λs q=>[rS q.1 s q.2,lL a2 (b.1,b.2.1,b.2.2.1,s,b.2.2.2.2) (q.1,q.2,a.2.2),hY a.2.2.1 b.2.2.2.2.2.2.2.1 a.2.2.2]) U ?_ ?_
   ·intro F _ h;refine V.co ab 4 0 h U (λh=>?_) (λh=>?_)
    ·refine V.go ab 9 0 ⟨U,U,U,U⟩ ?_;refine V.cl (aJ.kt U (cK.buildSlice ab U U U U U U U U U U U [] U (.pair .str .bool) [(([120]:aa),(decide (o=([60,60,45]:aa))))] ⟨U,U⟩ U U λu=>aJ.ku (V.cz ?_)));obtain⟨v,h⟩:=bG h;refine V.cl (aJ.qw ab U U U U ⟨U,U,U,U,trivial,U,U,U,U⟩ U U U [2] U 0 U v U λc d=>V.cz ?_);exact V.a5 ab 4 2 h (c,d) [1,0,3] ⟨U,U,U,U⟩
    exact V.a5 ab 1 0 h (a.1,a.2.1) [1,0,2] U
   rintro G ⟨e,f⟩ h;cases h;exact V.rx ab 0 0 (e,f,a.2.2) [1,0,0] U
  refine V.cI ab 5 0 h K4 [0] U λH _ h=>?_;refine V.co ab 1 0 h U (λh=>?_) (λh=>?_)
  ·refine V.bI ab 7 0 h pv [0] [] ⟨U,U,U,U⟩ λI _ h=>?_;cases h;exact V.rx ab 1 0 Q [0,0,0] U
  refine V.bI ab 21 0 h (Ej p) [0,0,0] [] ⟨U,U,U,U,U,U,U⟩ ?_;rintro⟨J,K,L⟩ g h;refine V.co ab 12 0 h U (λh=>?_) (λh=>?_)
  ·cases h;exact V.rx ab 0 0 g [0,0,0] U
  obtain⟨i,h⟩:=bG h;obtain⟨j,h⟩:=bG h;refine V.cI ab 11 0 h ag6 [] ⟨U,U,U,i,j,U⟩ ?_;rintro⟨w,M⟩ _ h;obtain⟨k,h⟩:=bG h;refine V.co ab 33 0 h ⟨U,U,U,k,U⟩ (λh=>?_) (λh=>?_)
  ·refine V.bI ab 4 0 h pv [0] [] U λN _ h=>?_;cases h;exact V.rx ab 1 0 g [0,0,0] U
  refine V.go ab 11 0 ⟨U,U,U,U⟩ ?_;refine V.cl (aJ.kt U (cK.buildSlice ab U U U U U U U U U U U [] U (.pair .str .bool) [(w,(decide (o=([60,60,45]:aa))))] ⟨U,U⟩ U U λx=>aJ.ku (V.cz ?_)));obtain⟨l,h⟩:=bG h;refine V.cl (aJ.qw ab U U U U ⟨U,U,U,U,trivial,U,U,U,U⟩ U U U [2] U 0 U l U λm n=>V.cz ?_);cases h;exact V.jD ab 4 2 (m,n,g.2.2) [0,0,1] ⟨U,U,U,U⟩
def yh(m:ah->Option ah)(n:ah->Option ah):ah->Option ah:=λ(d,e,f,g,b,h,i,j,k)=>
 (cR ((decide (b=0))=true) (ia (d,e,f,g,b,h,i,j,k)) (0:UInt8) λ(o:UInt8)=>(bif(bif(decide (b=0)) then(decide ((o.toNat:Int)=(10:Int))) else false) then(a9 (λ((p,q,r,s,t,u,v,w,x):ah)=>n (p,q,r,s,t,u,v,w,x)) λl=>(av (zU (d,e,f,g,b,h,i,j,k)) λ(c:ah)=>(bif(decide (c.2.2.2.2.1=0)) then(av (g2 c) λ(a:ah)=>l (a.1,a.2.1,a.2.2.1,c.2.2.2.1,a.2.2.2.2.1,a.2.2.2.2.2.1,a.2.2.2.2.2.2.1,c.2.2.2.2.2.2.2.1,a.2.2.2.2.2.2.2.2)) else l c))) else m (d,e,f,g,b,h,i,j,k)))
def oa(x0:ah):Option ah:=
 (av (g2 x0) λ(a:ah)=>(a9 (λ((b,c,d,e,f,g,h,i,j):ah)=>some (b,c,d,e,f,g,h,i,j)) λk=>(fixF (yh k) bC (a.1,a.2.1,a.2.2.1,x0.2.2.2.1,a.2.2.2.2.1,a.2.2.2.2.2.1,a.2.2.2.2.2.2.1,x0.2.2.2.2.2.2.2.1,a.2.2.2.2.2.2.2.2))))
theorem BX{x0:ah}{a2:bL}{Q:bt}{r:ah}(h:oa x0=some r):
  gI Tryz.prog 69 [.pointer a2] [] (eR a2 x0 Q) (λ_:bt=>True) (λq=> .tuple #[]) (λq=>eR a2 r q):=
 by
  refine V.jm (T:=ck) Tryz.call69 Tryz.func69 U λ_ _=>?_;unfold oa at h;refine V.bI ab 3 0 h n9 [0] [] U λe _ h=>?_;refine V.c8 ab 1 0 h (ρ:=bt) (λs q=>[]) .nil (λs q=>gJ a2 s q) U ?_ ?_
  ·intro f _ h;refine V.e7 ab 0 0 h (ρ:=bt) (λs q=>[(0,.bj ⟨a2,1,1⟩ 0)]) .nil (λs q=>gJ a2 s q) Q [1,2,0] U ?_;rintro g ⟨i,j,k,l,m,n,o,p,t⟩ b h;rw[yh] at h;refine V.hX ab 10 2 h n_ [2] ⟨U,U,U,U⟩ (λ_=>id) λu h=>?_;refine V.co ab 3 0 h U (λh=>?_) (λh=>?_)
   ·refine V.c8 ab 1 0 h (ρ:=bt) (λs q=>[(0,.bj ⟨a2,1,1⟩ 0)]) .nil (λs q=>gJ a2 s q) U ?_ ?_
    ·intro v _ h;refine V.bI ab 3 0 h Wf [2,0,0] [] U λw a h=>?_;refine V.co ab 9 0 h ⟨U,U,U,U⟩ (λh=>?_) (λh=>?_)
     ·refine V.bI ab 2 0 h n9 [0] [] U λx _ h=>?_;exact V.a5 ab 2 0 h a [1,2,0] U
     exact V.a5 ab 2 0 h a [1,2,0] U
    rintro⟨y,z,A,B,C,D,E,F,G⟩ c h
    try dsimp only at h
    exact V.el ab 0 0 h c [0,1,2] U
   exact V.a5 ab 1 0 h b [0,1,2] U
  rintro⟨H,I,J,K,L,M,N,O,P⟩ d h;cases h;exact V.jD ab 0 0 d [2,0,0] U
def yi(x0:ah)(b:Int):Option (Bool×ah):=
 (bif(decide (30<=x0.2.2.1)) then(av (hg x0 b) λ(a:ah)=>some (false,(a.1,a.2.1,a.2.2.1,x0.2.2.2.1,a.2.2.2.2.1,a.2.2.2.2.2.1,a.2.2.2.2.2.2.1,x0.2.2.2.2.2.2.2.1,a.2.2.2.2.2.2.2.2))) else some (true,(x0.1,x0.2.1,(W (x0.2.2.1+1)),x0.2.2.2)))
theorem Qx{x0:ah}{a:Int}{a3:bL}{Q:bt}{r:Bool×ah}(h:yi x0 a=some r):
  gI Tryz.prog 126 [.pointer a3,.int .i64 a] [] [lL a3 x0 Q] (λ_:Unit=>True) (λ_=> .bool r.1) (λ_=>[lL a3 (r.2.1,r.2.2.1,r.2.2.2.1,x0.2.2.2.1,r.2.2.2.2.2.1,r.2.2.2.2.2.2.1,r.2.2.2.2.2.2.2.1,x0.2.2.2.2.2.2.2.1,r.2.2.2.2.2.2.2.2.2) Q]):=
 by
  refine V.jm (T:=ck) Tryz.call126 Tryz.func126 U λ_ _=>?_;unfold yi at h;refine V.co ab 13 0 h ⟨U,U,U,U⟩ (λh=>?_) (λh=>?_)
  ·refine V.bI ab 4 0 h pv [0] [] U λb _ h=>?_;cases h;exact V.rx ab 5 0 () [0] U
  cases h;exact V.rx ab 16 0 () [0] ⟨U,U,U,U,U,U,U⟩
def z5(R:bh)(q:ah->Option ah)(o:ah->Option ah):ah->Option ah:=λ(i,f,j,g,k,l,m,h,n)=>
 (av (gq (i,f,j,g,k,l,m,h,n)) λ(r:Bool)=>(bif r then(av (g3 (i,f,j,g,k,l,m,h,n) ([120,41]:aa)) λ(s:ah)=>some s) else(av (vu (i,f,j,g,k,l,m,h,n)) λ(t:Bool)=>(bif t then(av (hg (i,f,j,g,k,l,m,h,n) f) λ(c:ah)=>some (c.1,c.2.1,c.2.2.1,g,c.2.2.2.2.1,c.2.2.2.2.2.1,c.2.2.2.2.2.2.1,h,c.2.2.2.2.2.2.2.2)) else(av (p7 R (i,f,j,g,k,l,m,h,n)) λ(x,y,b)=>(bif(!(decide (b.2.2.2.2.1=0))) then(av (gr b ([]) ([41]:aa)) λ(u:ah)=>some u) else(av (g2 b) λ(a:ah)=>(av (gq (a.1,a.2.1,a.2.2.1,b.2.2.2.1,a.2.2.2.2.1,a.2.2.2.2.2.1,a.2.2.2.2.2.2.1,b.2.2.2.2.2.2.2.1,a.2.2.2.2.2.2.2.2)) λ(v:Bool)=>(bif v then(av (g3 (a.1,a.2.1,a.2.2.1,b.2.2.2.1,a.2.2.2.2.1,a.2.2.2.2.2.1,a.2.2.2.2.2.2.1,b.2.2.2.2.2.2.2.1,a.2.2.2.2.2.2.2.2) ([41]:aa)) λ(w:ah)=>some w) else(av (hr (a.1,a.2.1,a.2.2.1,b.2.2.2.1,a.2.2.2.2.1,a.2.2.2.2.2.1,a.2.2.2.2.2.2.1,b.2.2.2.2.2.2.2.1,a.2.2.2.2.2.2.2.2)) λ(p:aa)=>(bif(bif(!(decide (p=([124]:aa)))) then(!(decide (p=([41]:aa)))) else false) then(av (hg (a.1,a.2.1,a.2.2.1,b.2.2.2.1,a.2.2.2.2.1,a.2.2.2.2.2.1,a.2.2.2.2.2.2.1,b.2.2.2.2.2.2.2.1,a.2.2.2.2.2.2.2.2) a.2.1) λ(d:ah)=>some (d.1,d.2.1,d.2.2.1,b.2.2.2.1,d.2.2.2.2.1,d.2.2.2.2.2.1,d.2.2.2.2.2.2.1,b.2.2.2.2.2.2.2.1,d.2.2.2.2.2.2.2.2)) else(bif(decide (p=([41]:aa))) then q (a.1,(W (a.2.1+1)),a.2.2.1,b.2.2.2.1,a.2.2.2.2.1,a.2.2.2.2.2.1,a.2.2.2.2.2.2.1,b.2.2.2.2.2.2.2.1,a.2.2.2.2.2.2.2.2) else(av (g2 (a.1,(W (a.2.1+1)),a.2.2.1,b.2.2.2.1,a.2.2.2.2.1,a.2.2.2.2.2.1,a.2.2.2.2.2.2.1,b.2.2.2.2.2.2.2.1,a.2.2.2.2.2.2.2.2)) λ(e:ah)=>o (e.1,e.2.1,e.2.2.1,b.2.2.2.1,e.2.2.2.2.1,e.2.2.2.2.2.1,e.2.2.2.2.2.2.1,b.2.2.2.2.2.2.2.1,e.2.2.2.2.2.2.2.2))))))))))))))
def El(R:bh)(x0:ah):Option ah:=
 (a9 (λ((d,e,f,g,h,i,j):aa×Int×Int×Int×Int×aa×Bool)=>(a9 (λ((k,l,m,n,o,p,q,r,s):ah)=>(av (R.nE (k,l,m,n,o,p,q,r,s) ([59,59]:aa) ([]:bs) false) λ(w,a)=>(cR ((decide (a.2.2.2.2.1=0))=true) (hr a) [] λ(t:aa)=>(bif(bif(decide (a.2.2.2.2.1=0)) then(decide (t=([59,59]:aa))) else false) then some (a.1,(W (a.2.1+2)),a.2.2.1,a.2.2.2.1,a.2.2.2.2.1,a.2.2.2.2.2.1,a.2.2.2.2.2.2.1,a.2.2.2.2.2.2.2.1,a.2.2.2.2.2.2.2.2) else some a)))) λu=>(fixF (z5 R u) bC (d,e,f,x0.2.2.2.1,g,h,i,x0.2.2.2.2.2.2.2.1,j)))) λc=>(av (hr x0) λ(v:aa)=>(bif(decide (v=([40]:aa))) then(av (g2 (x0.1,(W (x0.2.1+1)),x0.2.2.1,x0.2.2.2.1,x0.2.2.2.2.1,x0.2.2.2.2.2.1,x0.2.2.2.2.2.2.1,x0.2.2.2.2.2.2.2.1,x0.2.2.2.2.2.2.2.2)) λ(b:ah)=>c (b.1,b.2.1,b.2.2.1,b.2.2.2.2.1,b.2.2.2.2.2.1,b.2.2.2.2.2.2.1,b.2.2.2.2.2.2.2.2)) else c (x0.1,x0.2.1,x0.2.2.1,x0.2.2.2.2.1,x0.2.2.2.2.2.1,x0.2.2.2.2.2.2.1,x0.2.2.2.2.2.2.2.2))))
theorem ahm{R:bh}(b:hZ R){x0:ah}{a2:bL}{Q:bt}{r:ah}(h:El R x0=some r):
  gI Tryz.prog 167 [.pointer a2] [] (eR a2 x0 Q) (λ_:bt=>True) (λq=> .tuple #[]) (λq=>eR a2 r q):=
 by
  refine V.jm (T:=ck) Tryz.call167 Tryz.func167 U λ_ _=>?_;unfold El at h;refine V.e6 ab 0 0 h (ρ:=Unit) (λs q=>[(0,.bj ⟨a2,1,1⟩ 0)]) .nil (λs q=>eR a2 (s.1,s.2.1,s.2.2.1,x0.2.2.2.1,s.2.2.2.1,s.2.2.2.2.1,s.2.2.2.2.2.1,x0.2.2.2.2.2.2.2.1,s.2.2.2.2.2.2) Q) U ?_ ?_
  ·intro j _ h;refine V.cI ab 3 0 h oK [0] U λk _ h=>?_;refine V.co ab 2 0 h U (λh=>?_) (λh=>?_)
   ·refine V.bI ab 13 0 h n9 [0] [] ⟨U,U,U,U,U,U,U⟩ λl _ h=>?_;exact V.a5 ab 1 0 h () [0,1,2] U
   exact V.a5 ab 1 0 h () [0,1,2] U
  rintro⟨m,n,o,p,t,u,v⟩ _ h;refine V.c8 ab 1 0 h (ρ:=bt) (λs q=>[(0,.bj ⟨a2,1,1⟩ 0)]) .nil (λs q=>gJ a2 s q) U ?_ ?_
  ·intro w _ h;refine V.e7 ab 0 0 h (ρ:=bt) (λs q=>[(0,.bj ⟨a2,1,1⟩ 0)]) .nil (λs q=>gJ a2 s q) Q [1,2,0] U ?_;rintro d ⟨x,y,z,A,B,C,D,E,F⟩ e h;rw[z5] at h;refine V.cI ab 5 0 h mZ [2] U λG _ h=>?_;refine V.co ab 1 0 h U (λh=>?_) (λh=>?_)
   ·refine V.bI ab 3 0 h pt [2,0,0] [] U λH f h=>?_;cases h;exact V.rx ab 1 0 f [0,0,0] U
   refine V.cI ab 5 0 h K4 [2] U λI _ h=>?_;refine V.co ab 1 0 h U (λh=>?_) (λh=>?_)
   ·refine V.bI ab 7 2 h pv [2] [] ⟨U,U,U,U⟩ λJ _ h=>?_;cases h;exact V.rx ab 1 0 e [0,0,0] U
   refine V.bI ab 4 0 h (Ej b) [2,0,0] [] U ?_;rintro⟨K,L,M⟩ a h;refine V.co ab 10 0 h ⟨U,U,U,U⟩ (λh=>?_) (λh=>?_)
   ·refine V.bI ab 3 0 h qF [0,0,0] [] U λN g h=>?_;cases h;exact V.rx ab 1 0 g [0,0,0] U
   refine V.bI ab 4 0 h n9 [0] [] U λO _ h=>?_;refine V.cI ab 5 0 h mZ [0] U λP _ h=>?_;refine V.co ab 1 0 h U (λh=>?_) (λh=>?_)
   ·refine V.bI ab 3 0 h pt [0,0,0] [] U λS i h=>?_;cases h;exact V.rx ab 1 0 i [0,0,0] U
   refine V.cI ab 4 0 h oK [0] U λW _ h=>?_;refine V.co ab 12 0 h U (λh=>?_) (λh=>?_)
   ·refine V.bI ab 7 0 h pv [0] [] ⟨U,U,U,U⟩ λX _ h=>?_;cases h;exact V.rx ab 1 0 a [0,0,0] U
   refine V.co ab 18 0 h ⟨U,U,U,U,U,U,U⟩ (λh=>?_) (λh=>?_)
   ·exact V.a5 ab 1 0 h a [1,2,0] U
   refine V.bI ab 3 0 h n9 [0] [] U λY _ h=>?_;exact V.el ab 2 0 h a [1,2,0] U
  rintro⟨Z,pn,po,p6,ui,pk,qH,yk,r8⟩ KD h;refine V.go ab 3 0 U ?_;refine V.cl (aJ.JP .str bA.nil U U (V.cz ?_));refine V.bI ab 0 0 h b.nE [2,0,0] [0] U ?_;rintro⟨BD,g8⟩ c h;refine V.hX ab 10 1 h oK [1] ⟨U,U,U,U⟩ (λ_=>id) λK7 h=>?_;refine V.co ab 3 0 h U (λh=>?_) (λh=>?_)
  ·cases h;exact V.jD ab 11 1 c [0,0,0] ⟨U,U,U,U,U,U,U⟩
  cases h;exact V.jD ab 1 0 c [0,0,0] U
def Em(R:bh)(v:ah->Option ah)(w:ah->Option ah):ah->Option ah:=λ(l,m,n,o,k,p,q,r,s)=>
 (bif(decide (k=0)) then(a9 (λ((x,y,z,A,B,C,D,E,F):ah)=>w (x,y,z,A,B,C,D,E,F)) λt=>(av (oa (l,m,n,o,k,p,q,r,s)) λ(b:ah)=>(a9 (λ((c,d,e,f,a,g,h,i,j):ah)=>(cR ((decide (a=0))=true) (lA (c,d,e,f,a,g,h,i,j)) [] λ(G:aa)=>(bif(bif(decide (a=0)) then(decide (G=([101,115,97,99]:aa))) else false) then some (c,(W (d+4)),e,f,a,g,h,i,j) else(bif(decide (a=0)) then(av (El R (c,d,e,f,a,g,h,i,j)) λ(H:ah)=>t H) else t (c,d,e,f,a,g,h,i,j))))) λu=>(cR ((decide (b.2.2.2.2.1=0))=true) (gq b) false λ(I:Bool)=>(bif(bif(decide (b.2.2.2.2.1=0)) then I else false) then(av (g3 b ([])) λ(J:ah)=>u J) else u b))))) else v (l,m,n,o,k,p,q,r,s))
def En(R:bh)(x0:ah):Option ah:=
 (av (g2 x0) λ(a:ah)=>(av (gq (a.1,a.2.1,a.2.2.1,x0.2.2.2.1,a.2.2.2.2.1,a.2.2.2.2.2.1,a.2.2.2.2.2.2.1,x0.2.2.2.2.2.2.2.1,a.2.2.2.2.2.2.2.2)) λ(q:Bool)=>(bif q then(av (g3 (a.1,a.2.1,a.2.2.1,x0.2.2.2.1,a.2.2.2.2.1,a.2.2.2.2.2.1,a.2.2.2.2.2.2.1,x0.2.2.2.2.2.2.2.1,a.2.2.2.2.2.2.2.2) ([120,32,105,110,10,101,115,97,99]:aa)) λ(r:ah)=>some r) else(av (vu (a.1,a.2.1,a.2.2.1,x0.2.2.2.1,a.2.2.2.2.1,a.2.2.2.2.2.1,a.2.2.2.2.2.2.1,x0.2.2.2.2.2.2.2.1,a.2.2.2.2.2.2.2.2)) λ(s:Bool)=>(bif s then(av (hg (a.1,a.2.1,a.2.2.1,x0.2.2.2.1,a.2.2.2.2.1,a.2.2.2.2.2.1,a.2.2.2.2.2.2.1,x0.2.2.2.2.2.2.2.1,a.2.2.2.2.2.2.2.2) a.2.1) λ(e:ah)=>some (e.1,e.2.1,e.2.2.1,x0.2.2.2.1,e.2.2.2.2.1,e.2.2.2.2.2.1,e.2.2.2.2.2.2.1,x0.2.2.2.2.2.2.2.1,e.2.2.2.2.2.2.2.2)) else(av (p7 R (a.1,a.2.1,a.2.2.1,x0.2.2.2.1,a.2.2.2.2.1,a.2.2.2.2.2.1,a.2.2.2.2.2.2.1,x0.2.2.2.2.2.2.2.1,a.2.2.2.2.2.2.2.2)) λ(H,I,c)=>(a9 (λ((k,g,l,h,i,m,n,j,o):ah)=>(bif(!(decide (i=0))) then(av (gr (k,g,l,h,i,m,n,j,o) ([]) ([32,105,110,10,101,115,97,99]:aa)) λ(t:ah)=>some t) else(av (lA (k,g,l,h,i,m,n,j,o)) λ(u:aa)=>(bif(!(decide (u=([105,110]:aa)))) then(av (hg (k,g,l,h,i,m,n,j,o) g) λ(f:ah)=>some (f.1,f.2.1,f.2.2.1,h,f.2.2.2.2.1,f.2.2.2.2.2.1,f.2.2.2.2.2.2.1,j,f.2.2.2.2.2.2.2.2)) else(a9 (λ((v,w,x,y,z,A,B,C,D):ah)=>(av (gr (v,w,x,y,z,A,B,C,D) ([]) ([10,101,115,97,99]:aa)) λ(E:ah)=>some E)) λF=>(fixF (Em R F) bC (k,(W (g+2)),l,h,i,m,n,j,o))))))) λp=>(bif(decide (c.2.2.2.2.1=0)) then(av (oa c) λ(b:ah)=>(cR ((decide (b.2.2.2.2.1=0))=true) (gq b) false λ(G:Bool)=>(bif(bif(decide (b.2.2.2.2.1=0)) then G else false) then(av (g3 b ([])) λ(d:ah)=>p (d.1,d.2.1,d.2.2.1,d.2.2.2.1,d.2.2.2.2.1,d.2.2.2.2.2.1,d.2.2.2.2.2.2.1,d.2.2.2.2.2.2.2.1,d.2.2.2.2.2.2.2.2)) else p (b.1,b.2.1,b.2.2.1,b.2.2.2.1,b.2.2.2.2.1,b.2.2.2.2.2.1,b.2.2.2.2.2.2.1,b.2.2.2.2.2.2.2.1,b.2.2.2.2.2.2.2.2)))) else p (c.1,c.2.1,c.2.2.1,c.2.2.2.1,c.2.2.2.2.1,c.2.2.2.2.2.1,c.2.2.2.2.2.2.1,c.2.2.2.2.2.2.2.1,c.2.2.2.2.2.2.2.2)))))))))
theorem ahn{R:bh}(d:hZ R){x0:ah}{a2:bL}{Q:bt}{r:ah}(h:En R x0=some r):
  gI Tryz.prog 149 [.pointer a2] [] (eR a2 x0 Q) (λ_:bt=>True) (λq=> .tuple #[]) (λq=>eR a2 r q):=
 by
  refine V.jm (T:=ck) Tryz.call149 Tryz.func149 U λ_ _=>?_;unfold En at h;refine V.bI ab 3 0 h n9 [0] [] U λu _ h=>?_;refine V.cI ab 5 0 h mZ [0] U λv _ h=>?_;refine V.co ab 1 0 h U (λh=>?_) (λh=>?_)
  ·refine V.bI ab 3 0 h pt [0,0,0] [] U λw g h=>?_;cases h;exact V.rx ab 1 0 g [0,0,0] U
  refine V.cI ab 5 0 h K4 [0] U λx _ h=>?_;refine V.co ab 1 0 h U (λh=>?_) (λh=>?_)
  ·refine V.bI ab 7 0 h pv [0] [] ⟨U,U,U,U⟩ λy _ h=>?_;cases h;exact V.rx ab 1 0 Q [0,0,0] U
  refine V.bI ab 4 0 h (Ej d) [0,0,0] [] U ?_;rintro⟨z,A,B⟩ i h;refine V.e6 ab 1 0 h (ρ:=bt) (λs q=>[(0,.bj ⟨a2,1,1⟩ 0)]) .nil (λs q=>gJ a2 s q) U ?_ ?_
  ·intro C _ h;refine V.co ab 8 0 h ⟨U,U,U,U⟩ (λh=>?_) (λh=>?_)
   ·refine V.bI ab 3 0 h BX [0,0,0] [] U λD j h=>?_;refine V.hX ab 10 0 h mZ [0] ⟨U,U,U,U⟩ (λ_=>id) λE h=>?_;refine V.co ab 2 0 h U (λh=>?_) (λh=>?_)
    ·refine V.bI ab 2 0 h pt [0,0,0] [] U λF k h=>?_;exact V.a5 ab 1 0 h k [1,2,0] U
    exact V.a5 ab 1 0 h j [1,2,0] U
   exact V.a5 ab 1 0 h i [1,2,0] U
  rintro⟨G,H,I,J,K,L,M,N,O⟩ e h;refine V.co ab 9 2 h ⟨U,U,U,U⟩ (λh=>?_) (λh=>?_)
  ·refine V.bI ab 3 0 h qF [2,0,0] [] U λP l h=>?_;cases h;exact V.rx ab 1 0 l [0,0,0] U
  refine V.cI ab 5 0 h wL [2] U λS _ h=>?_;refine V.co ab 2 0 h U (λh=>?_) (λh=>?_)
  ·refine V.bI ab 7 2 h pv [2] [] ⟨U,U,U,U⟩ λW _ h=>?_;cases h;exact V.rx ab 1 0 e [0,0,0] U
  refine V.c8 ab 14 2 h (ρ:=bt) (λs q=>[(0,.bj ⟨a2,1,1⟩ 0)]) .nil (λs q=>gJ a2 s q) ⟨U,U,U,U,U,U,U⟩ ?_ ?_
  ·intro X _ h;refine V.e7 ab 0 0 h (ρ:=bt) (λs q=>[(0,.bj ⟨a2,1,1⟩ 0)]) .nil (λs q=>gJ a2 s q) e [1,2,0] U ?_;rintro m ⟨Y,Z,ra,pq,nc,rb,yl,tW,ug⟩ a h;rw[Em] at h;refine V.co ab 9 2 h ⟨U,U,U,U⟩ (λh=>?_) (λh=>?_)
   ·refine V.c8 ab 1 0 h (ρ:=bt) (λs q=>[(0,.bj ⟨a2,1,1⟩ 0)]) .nil (λs q=>gJ a2 s q) U ?_ ?_
    ·intro Qy _ h;refine V.bI ab 3 0 h BX [2,0,0] [] U λp8 n h=>?_;refine V.e6 ab 1 0 h (ρ:=bt) (λs q=>[(0,.bj ⟨a2,1,1⟩ 0)]) .nil (λs q=>gJ a2 s q) U ?_ ?_
     ·intro Qz _ h;refine V.hX ab 9 0 h mZ [0] ⟨U,U,U,U⟩ (λ_=>id) λyn h=>?_;refine V.co ab 2 0 h U (λh=>?_) (λh=>?_)
      ·refine V.bI ab 2 0 h pt [0,0,0] [] U λK_ o h=>?_;exact V.a5 ab 1 0 h o [1,2,0] U
      exact V.a5 ab 1 0 h n [1,2,0] U
     rintro⟨oD,r8,vp,qE,rj,zR,qD,q_,z6⟩ f h;refine V.hX ab 10 2 h wL [2] ⟨U,U,U,U⟩ (λ_=>id) λkJ h=>?_;refine V.co ab 3 0 h U (λh=>?_) (λh=>?_)
     ·cases h;exact V.rx ab 12 2 f [0,0,0] ⟨U,U,U,U,U,U,U⟩
     refine V.co ab 9 2 h ⟨U,U,U,U⟩ (λh=>?_) (λh=>?_)
     ·refine V.bI ab 2 0 h (ahm d) [2,0,0] [] U λK9 b h=>?_;exact V.a5 ab 2 0 h b [1,2,0] U
     exact V.a5 ab 2 0 h f [0,1,2] U
    rintro⟨oH,Ei,x_,p4,s5,tZ,HN,HO,ym⟩ c h
    try dsimp only at h
    exact V.el ab 0 0 h c [0,1,2] U
   exact V.a5 ab 1 0 h a [0,1,2] U
  rintro⟨Wr,Hg,BE,Ws,HP,HQ,Wt,Wu,HR⟩ p h;refine V.bI ab 2 0 h qF [2,0,0] [] U λLa t h=>?_;cases h;exact V.jD ab 1 0 t [0,0,0] U
def Lb(R:bh)(l:ah->Option ah)(m:ah->Option ah):ah->Option ah:=λ(f,g,h,b,e,i,j,c,k)=>
 (bif(decide (e=0)) then(av (g2 (f,g,h,b,e,i,j,c,k)) λ(a:ah)=>(av (gq (a.1,a.2.1,a.2.2.1,b,a.2.2.2.2.1,a.2.2.2.2.2.1,a.2.2.2.2.2.2.1,c,a.2.2.2.2.2.2.2.2)) λ(n:Bool)=>(bif n then(av (g3 (a.1,a.2.1,a.2.2.1,b,a.2.2.2.2.1,a.2.2.2.2.2.1,a.2.2.2.2.2.2.1,c,a.2.2.2.2.2.2.2.2) ([])) λ(o:ah)=>some o) else(av (ia (a.1,a.2.1,a.2.2.1,b,a.2.2.2.2.1,a.2.2.2.2.2.1,a.2.2.2.2.2.2.1,c,a.2.2.2.2.2.2.2.2)) λ(p:UInt8)=>(bif(decide ((p.toNat:Int)=(10:Int))) then some (a.1,a.2.1,a.2.2.1,b,a.2.2.2.2.1,a.2.2.2.2.2.1,a.2.2.2.2.2.2.1,c,a.2.2.2.2.2.2.2.2) else(av (hr (a.1,a.2.1,a.2.2.1,b,a.2.2.2.2.1,a.2.2.2.2.2.1,a.2.2.2.2.2.2.1,c,a.2.2.2.2.2.2.2.2)) λ(q:aa)=>(bif(decide (q=([59]:aa))) then some (a.1,(W (a.2.1+1)),a.2.2.1,b,a.2.2.2.2.1,a.2.2.2.2.2.1,a.2.2.2.2.2.2.1,c,a.2.2.2.2.2.2.2.2) else(av (hr (a.1,a.2.1,a.2.2.1,b,a.2.2.2.2.1,a.2.2.2.2.2.1,a.2.2.2.2.2.2.1,c,a.2.2.2.2.2.2.2.2)) λ(r:aa)=>(bif(!(decide (r=[]))) then(av (hg (a.1,a.2.1,a.2.2.1,b,a.2.2.2.2.1,a.2.2.2.2.2.1,a.2.2.2.2.2.2.1,c,a.2.2.2.2.2.2.2.2) a.2.1) λ(d:ah)=>some (d.1,d.2.1,d.2.2.1,b,d.2.2.2.2.1,d.2.2.2.2.2.1,d.2.2.2.2.2.2.1,c,d.2.2.2.2.2.2.2.2)) else(av (p7 R (a.1,a.2.1,a.2.2.1,b,a.2.2.2.2.1,a.2.2.2.2.2.1,a.2.2.2.2.2.2.1,c,a.2.2.2.2.2.2.2.2)) λ(t,u,s)=>m s)))))))))) else l (f,g,h,b,e,i,j,c,k))
def Eo(R:bh)(x0:ah):Option ah:=
 (a9 (λ((a,b,c,d,e,f,g,h,i):ah)=>some (a,b,c,d,e,f,g,h,i)) λj=>(fixF (Lb R j) bC (x0.1,x0.2.1,x0.2.2.1,x0.2.2.2.1,x0.2.2.2.2.1,x0.2.2.2.2.2.1,x0.2.2.2.2.2.2.1,x0.2.2.2.2.2.2.2.1,x0.2.2.2.2.2.2.2.2)))
theorem ahr{R:bh}(b:hZ R){x0:ah}{a2:bL}{Q:bt}{r:ah}(h:Eo R x0=some r):
  gI Tryz.prog 166 [.pointer a2] [] (eR a2 x0 Q) (λ_:bt=>True) (λq=> .tuple #[]) (λq=>eR a2 r q):=
 by
  refine V.jm (T:=ck) Tryz.call166 Tryz.func166 U λ_ _=>?_;unfold Eo at h;refine V.c8 ab 0 0 h (ρ:=bt) (λs q=>[]) .nil (λs q=>gJ a2 s q) U ?_ ?_
  ·intro f _ h;refine V.e7 ab 0 0 h (ρ:=bt) (λs q=>[(0,.bj ⟨a2,1,1⟩ 0)]) .nil (λs q=>gJ a2 s q) Q [1,2,0] U ?_;rintro g ⟨i,j,k,l,m,n,o,p,t⟩ a h;rw[Lb] at h;refine V.co ab 9 2 h ⟨U,U,U,U⟩ (λh=>?_) (λh=>?_)
   ·refine V.bI ab 5 0 h n9 [2] [] U λu _ h=>?_;refine V.cI ab 5 0 h mZ [0] U λv _ h=>?_;refine V.co ab 1 0 h U (λh=>?_) (λh=>?_)
    ·refine V.bI ab 3 0 h pt [0,0,0] [] U λw c h=>?_;cases h;exact V.rx ab 1 0 c [0,0,0] U
    refine V.cI ab 5 0 h n_ [0] U λx _ h=>?_;refine V.co ab 2 0 h U (λh=>?_) (λh=>?_)
    ·cases h;exact V.rx ab 0 0 a [0,0,0] U
    refine V.cI ab 5 0 h oK [0] U λy _ h=>?_;refine V.co ab 2 0 h U (λh=>?_) (λh=>?_)
    ·cases h;exact V.rx ab 11 0 a [0,0,0] ⟨U,U,U,U,U,U,U⟩
    refine V.cI ab 5 0 h oK [0] U λz _ h=>?_;refine V.co ab 2 0 h U (λh=>?_) (λh=>?_)
    ·refine V.bI ab 7 0 h pv [0] [] ⟨U,U,U,U⟩ λA _ h=>?_;cases h;exact V.rx ab 1 0 a [0,0,0] U
    refine V.bI ab 3 0 h (Ej b) [0,0,0] [] U ?_;rintro⟨B,C,D⟩ d h
    try dsimp only at h
    exact V.el ab 2 0 h d [1,2,0] U
   exact V.a5 ab 1 0 h a [0,1,2] U
  rintro⟨E,F,G,H,I,J,K,L,M⟩ e h;cases h;exact V.jD ab 0 0 e [2,0,0] U
def pw(R:bh)(x0:ah)(c:bs)(d:aa):Option (aa×ah):=
 (av (R.nE x0 ([119]:aa) c true) λ(f,a)=>(bif(!(decide (a.2.2.2.2.1=0))) then(av (gr a ([]) d) λ(e:ah)=>some ([],e)) else(av (lA a) λ(b:aa)=>some (b,(a.1,(W (a.2.1+(b.length:Int))),a.2.2)))))
theorem B1{R:bh}(g:hZ R){x0:ah}{a:bs}{d:aa}{b:bL}{Q:bt}{e:bL}{f:Nat}{r:aa×ah}(h:pw R x0 a d=some r):
  gI Tryz.prog 147 [.pointer b,.slice e a.length f,.string (a7 d)] [hY e a f] (eR b x0 Q) (λ_:bt=>True) (λq=> .string (a7 r.1)) (λq=>eR b r.2 q):=
 by
  refine V.jm (T:=ck) Tryz.call147 Tryz.func147 U λ_ _=>?_;unfold pw at h;refine V.bI ab 8 0 h g.nE [0,0,0] [0] U ?_;rintro⟨j,k⟩ i h;refine V.co ab 10 1 h ⟨U,U,U,U⟩ (λh=>?_) (λh=>?_)
  ·refine V.bI ab 4 0 h qF [0,0,0] [] U λl c h=>?_;cases h;exact V.rx ab 5 0 c [0,0,0] U
  refine V.cI ab 4 0 h wL [1] U λm _ h=>?_;cases h;exact V.rx ab 21 1 i [0,0,0] ⟨U,U,U,U,U,U,U⟩
def Ep(R:bh)(x0:ah):Option ah:=
 (av (g2 x0) λ(a:ah)=>(av (gq (a.1,a.2.1,a.2.2.1,x0.2.2.2.1,a.2.2.2.2.1,a.2.2.2.2.2.1,a.2.2.2.2.2.2.1,x0.2.2.2.2.2.2.2.1,a.2.2.2.2.2.2.2.2)) λ(E:Bool)=>(bif E then(av (g3 (a.1,a.2.1,a.2.2.1,x0.2.2.2.1,a.2.2.2.2.1,a.2.2.2.2.2.1,a.2.2.2.2.2.2.1,x0.2.2.2.2.2.2.2.1,a.2.2.2.2.2.2.2.2) ([120,10,100,111,32,120,10,100,111,110,101]:aa)) λ(F:ah)=>some F) else(av (vu (a.1,a.2.1,a.2.2.1,x0.2.2.2.1,a.2.2.2.2.1,a.2.2.2.2.2.1,a.2.2.2.2.2.2.1,x0.2.2.2.2.2.2.2.1,a.2.2.2.2.2.2.2.2)) λ(G:Bool)=>(bif G then(av (hg (a.1,a.2.1,a.2.2.1,x0.2.2.2.1,a.2.2.2.2.1,a.2.2.2.2.2.1,a.2.2.2.2.2.2.1,x0.2.2.2.2.2.2.2.1,a.2.2.2.2.2.2.2.2) a.2.1) λ(e:ah)=>some (e.1,e.2.1,e.2.2.1,x0.2.2.2.1,e.2.2.2.2.1,e.2.2.2.2.2.1,e.2.2.2.2.2.2.1,x0.2.2.2.2.2.2.2.1,e.2.2.2.2.2.2.2.2)) else(av (p7 R (a.1,a.2.1,a.2.2.1,x0.2.2.2.1,a.2.2.2.2.1,a.2.2.2.2.2.1,a.2.2.2.2.2.2.1,x0.2.2.2.2.2.2.2.1,a.2.2.2.2.2.2.2.2)) λ(H,l,d)=>(cR ((bif(!(decide (d.2.2.2.2.1=0))) then true else(!l))=false) (z3 H) false λ(I:Bool)=>(bif(bif(bif(!(decide (d.2.2.2.2.1=0))) then true else(!l)) then true else(!I)) then(av (hg d a.2.1) λ(f:ah)=>some (f.1,f.2.1,f.2.2.1,d.2.2.2.1,f.2.2.2.2.1,f.2.2.2.2.2.1,f.2.2.2.2.2.2.1,d.2.2.2.2.2.2.2.1,f.2.2.2.2.2.2.2.2)) else(av (g2 d) λ(b:ah)=>(a9 (λ((m,n,o,p,i,q,r,s,t):ah)=>(bif(!(decide (i=0))) then(av (gr (m,n,o,p,i,q,r,s,t) ([]) ([10,100,111,32,120,10,100,111,110,101]:aa)) λ(J:ah)=>some J) else(av (oa (m,n,o,p,i,q,r,s,t)) λ(c:ah)=>(cR ((decide (c.2.2.2.2.1=0))=true) (gq c) false λ(u:Bool)=>(cR ((bif(decide (c.2.2.2.2.1=0)) then(!u) else false)=true) (lA c) [] λ(K:aa)=>(bif(bif(bif(decide (c.2.2.2.2.1=0)) then(!u) else false) then(!(decide (K=([100,111]:aa)))) else false) then(av (hg c c.2.1) λ(g:ah)=>some (g.1,g.2.1,g.2.2.1,c.2.2.2.1,g.2.2.2.2.1,g.2.2.2.2.2.1,g.2.2.2.2.2.2.1,c.2.2.2.2.2.2.2.1,g.2.2.2.2.2.2.2.2)) else(a9 (λ((v,w,x,y,j,z,A,B,C):ah)=>(bif(!(decide (j=0))) then(av (gr (v,w,x,y,j,z,A,B,C) ([]) ([10,100,111,32,120,10,100,111,110,101]:aa)) λ(L:ah)=>some L) else(av (pw R (v,(W (w+2)),x,y,j,z,A,B,C) ([([100,111,110,101]:aa)]:bs) ([10,100,111,110,101]:aa)) λ(T,M)=>some M))) λD=>(cR ((decide (c.2.2.2.2.1=0))=true) (gq c) false λ(N:Bool)=>(bif(bif(decide (c.2.2.2.2.1=0)) then N else false) then(av (g3 c ([])) λ(O:ah)=>D O) else D c))))))))) λk=>(av (hr (b.1,b.2.1,b.2.2.1,d.2.2.2.1,b.2.2.2.2.1,b.2.2.2.2.2.1,b.2.2.2.2.2.2.1,d.2.2.2.2.2.2.2.1,b.2.2.2.2.2.2.2.2)) λ(P:aa)=>(bif(decide (P=([59]:aa))) then k (b.1,(W (b.2.1+1)),b.2.2.1,d.2.2.2.1,b.2.2.2.2.1,b.2.2.2.2.2.1,b.2.2.2.2.2.2.1,d.2.2.2.2.2.2.2.1,b.2.2.2.2.2.2.2.2) else(av (oa (b.1,b.2.1,b.2.2.1,d.2.2.2.1,b.2.2.2.2.1,b.2.2.2.2.2.1,b.2.2.2.2.2.2.1,d.2.2.2.2.2.2.2.1,b.2.2.2.2.2.2.2.2)) λ(h:ah)=>(cR ((decide (h.2.2.2.2.1=0))=true) (lA h) [] λ(Q:aa)=>(bif(bif(decide (h.2.2.2.2.1=0)) then(decide (Q=([105,110]:aa))) else false) then(av (Eo R (h.1,(W (h.2.1+2)),h.2.2)) λ(S:ah)=>k S) else k h)))))))))))))))
theorem aht{R:bh}(a:hZ R){x0:ah}{a2:bL}{Q:bt}{r:ah}(h:Ep R x0=some r):
  gI Tryz.prog 148 [.pointer a2] [] (eR a2 x0 Q) (λ_:bt=>True) (λq=> .tuple #[]) (λq=>eR a2 r q):=
 by
  refine V.jm (T:=ck) Tryz.call148 Tryz.func148 U λ_ _=>?_;unfold Ep at h;refine V.bI ab 3 0 h n9 [0] [] U λn _ h=>?_;refine V.cI ab 5 0 h mZ [0] U λo _ h=>?_;refine V.co ab 1 0 h U (λh=>?_) (λh=>?_)
  ·refine V.bI ab 3 0 h pt [0,0,0] [] U λp f h=>?_;cases h;exact V.rx ab 1 0 f [0,0,0] U
  refine V.cI ab 13 0 h K4 [0] ⟨U,U,U,U⟩ λt _ h=>?_;refine V.co ab 1 0 h U (λh=>?_) (λh=>?_)
  ·refine V.bI ab 4 0 h pv [0] [] U λu _ h=>?_;cases h;exact V.rx ab 1 0 Q [0,0,0] U
  refine V.bI ab 4 0 h (Ej a) [0,0,0] [] U ?_;rintro⟨v,w,x⟩ d h;refine V.hX ab 20 0 h Wn [] ⟨U,U,U,U⟩ (λ_=>id) λy h=>?_;refine V.co ab 3 0 h U (λh=>?_) (λh=>?_)
  ·refine V.bI ab 4 0 h pv [0] [] U λz _ h=>?_;cases h;exact V.rx ab 1 0 d [0,0,0] U
  refine V.bI ab 4 0 h n9 [0] [] U λA _ h=>?_;refine V.e6 ab 1 0 h (ρ:=bt) (λs q=>[(0,.bj ⟨a2,1,1⟩ 0)]) .nil (λs q=>gJ a2 s q) U ?_ ?_
  ·intro B _ h;refine V.cI ab 3 0 h oK [0] U λC _ h=>?_;refine V.co ab 2 0 h U (λh=>?_) (λh=>?_)
   ·exact V.a5 ab 10 0 h d [1,2,0] ⟨U,U,U,U,U,U,U⟩
   refine V.bI ab 3 0 h BX [0,0,0] [] U λD g h=>?_;refine V.hX ab 10 0 h wL [0] ⟨U,U,U,U⟩ (λ_=>id) λE h=>?_;refine V.co ab 3 0 h U (λh=>?_) (λh=>?_)
   ·refine V.bI ab 14 0 h (ahr a) [0,0,0] [] ⟨U,U,U,U,U,U,U⟩ λF i h=>?_;exact V.a5 ab 1 0 h i [1,2,0] U
   exact V.a5 ab 1 0 h g [1,2,0] U
  rintro⟨G,H,I,J,K,L,M,N,O⟩ P h;refine V.co ab 9 2 h ⟨U,U,U,U⟩ (λh=>?_) (λh=>?_)
  ·refine V.bI ab 3 0 h qF [2,0,0] [] U λS j h=>?_;cases h;exact V.rx ab 1 0 j [0,0,0] U
  refine V.bI ab 4 0 h BX [2,0,0] [] U λW e h=>?_;refine V.hX ab 11 0 h mZ [0] ⟨U,U,U,U⟩ (λ_=>id) λX h=>?_;refine V.hX ab 4 0 h wL [0] U (λ_=>id) λY h=>?_;refine V.co ab 3 0 h U (λh=>?_) (λh=>?_)
  ·refine V.bI ab 7 0 h pv [0] [] ⟨U,U,U,U⟩ λZ _ h=>?_;cases h;exact V.rx ab 1 0 e [0,0,0] U
  refine V.e6 ab 1 0 h (ρ:=bt) (λs q=>[(0,.bj ⟨a2,1,1⟩ 0)]) .nil (λs q=>gJ a2 s q) U ?_ ?_
  ·intro QD _ h;refine V.hX ab 9 0 h mZ [0] ⟨U,U,U,U⟩ (λ_=>id) λmV h=>?_;refine V.co ab 2 0 h U (λh=>?_) (λh=>?_)
   ·refine V.bI ab 2 0 h pt [0,0,0] [] U λyn k h=>?_;exact V.a5 ab 1 0 h k [1,2,0] U
   exact V.a5 ab 1 0 h e [1,2,0] U
  rintro⟨qH,yk,QB,oD,qE,D4,QC,rj,q_⟩ l h;refine V.co ab 9 2 h ⟨U,U,U,U⟩ (λh=>?_) (λh=>?_)
  ·refine V.bI ab 3 0 h qF [2,0,0] [] U λLd b h=>?_;cases h;exact V.rx ab 1 0 b [0,0,0] U
  refine V.go ab 15 2 ⟨U,U,U,U,U,U,U⟩ ?_;refine V.cl (aJ.kt U (cK.buildSlice ab U U U U U U U U U U U [] U .str [([100,111,110,101]:aa)] ⟨U,U⟩ U U λm=>aJ.ku (V.cz ?_)));refine V.cl (aJ.freeze [0] U (V.cz ?_));refine V.bI ab 0 0 h (B1 a) [0,0,0] [0] U ?_;rintro⟨Wv,Le⟩ c h;cases h;exact V.jD ab 1 0 c [0,0,0] U
def HS(R:bh)(m:(aa×ah)->Option ah)(n:(aa×ah)->Option ah):(aa×ah)->Option ah:=λ(a,d,e,f,g,b,h,i,j,k)=>
 (bif(bif(decide (b=0)) then(decide (a=([101,108,105,102]:aa))) else false) then(a9 (λ((o,p,q,r,s,t,u,v,w,x):aa×ah)=>n (o,p,q,r,s,t,u,v,w,x)) λl=>(av (pw R (d,e,f,g,b,h,i,j,k) ([([116,104,101,110]:aa)]:bs) ([10,116,104,101,110,32,120,10,102,105]:aa)) λ(A,c)=>(bif(decide (c.2.2.2.2.1=0)) then(av (pw R c ([([101,108,105,102]:aa),([101,108,115,101]:aa),([102,105]:aa)]:bs) ([10,102,105]:aa)) λ(y,z)=>l (y,z)) else l (a,c)))) else m (a,d,e,f,g,b,h,i,j,k))
def B3(R:bh)(x0:ah)(h:aa):Option ah:=
 (a9 (λ((s,t,u,v,w,x,y,z,A):ah)=>some (s,t,u,v,w,x,y,z,A)) λg=>(bif(decide (h=([123]:aa))) then(av (pw R x0 ([([125]:aa)]:bs) ([10,125]:aa)) λ(E,b)=>g (b.1,b.2.1,b.2.2.1,b.2.2.2.1,b.2.2.2.2.1,b.2.2.2.2.2.1,b.2.2.2.2.2.2.1,b.2.2.2.2.2.2.2.1,b.2.2.2.2.2.2.2.2)) else(a9 (λ(B:Bool)=>(bif B then(av (pw R x0 ([([100,111]:aa)]:bs) ([10,100,111,32,120,10,100,111,110,101]:aa)) λ(F,a)=>(bif(decide (a.2.2.2.2.1=0)) then(av (pw R a ([([100,111,110,101]:aa)]:bs) ([10,100,111,110,101]:aa)) λ(G,c)=>g (c.1,c.2.1,c.2.2.1,c.2.2.2.1,c.2.2.2.2.1,c.2.2.2.2.2.1,c.2.2.2.2.2.2.1,c.2.2.2.2.2.2.2.1,c.2.2.2.2.2.2.2.2)) else g (a.1,a.2.1,a.2.2.1,a.2.2.2.1,a.2.2.2.2.1,a.2.2.2.2.2.1,a.2.2.2.2.2.2.1,a.2.2.2.2.2.2.2.1,a.2.2.2.2.2.2.2.2))) else(bif(decide (h=([105,102]:aa))) then(a9 (λ((C,j,k,l,m,i,n,o,p,q):aa×ah)=>(bif(bif(decide (i=0)) then(decide (C=([101,108,115,101]:aa))) else false) then(av (pw R (j,k,l,m,i,n,o,p,q) ([([102,105]:aa)]:bs) ([10,102,105]:aa)) λ(H,d)=>g (d.1,d.2.1,d.2.2.1,d.2.2.2.1,d.2.2.2.2.1,d.2.2.2.2.2.1,d.2.2.2.2.2.2.1,d.2.2.2.2.2.2.2.1,d.2.2.2.2.2.2.2.2)) else g (j,k,l,m,i,n,o,p,q))) λD=>(fixF (HS R D) bC (([101,108,105,102]:aa),x0.1,x0.2.1,x0.2.2.1,x0.2.2.2.1,x0.2.2.2.2.1,x0.2.2.2.2.2.1,x0.2.2.2.2.2.2.1,x0.2.2.2.2.2.2.2.1,x0.2.2.2.2.2.2.2.2))) else(bif(decide (h=([102,111,114]:aa))) then(av (Ep R x0) λ(e:ah)=>g (e.1,e.2.1,e.2.2.1,e.2.2.2.1,e.2.2.2.2.1,e.2.2.2.2.2.1,e.2.2.2.2.2.2.1,e.2.2.2.2.2.2.2.1,e.2.2.2.2.2.2.2.2)) else(bif(decide (h=([99,97,115,101]:aa))) then(av (En R x0) λ(f:ah)=>g (f.1,f.2.1,f.2.2.1,f.2.2.2.1,f.2.2.2.2.1,f.2.2.2.2.2.1,f.2.2.2.2.2.2.1,f.2.2.2.2.2.2.2.1,f.2.2.2.2.2.2.2.2)) else g (x0.1,x0.2.1,x0.2.2.1,x0.2.2.2.1,x0.2.2.2.2.1,x0.2.2.2.2.2.1,x0.2.2.2.2.2.2.1,x0.2.2.2.2.2.2.2.1,x0.2.2.2.2.2.2.2.2)))))) λr=>(bif(decide (h=([119,104,105,108,101]:aa))) then r (decide (h=([119,104,105,108,101]:aa))) else r (decide (h=([117,110,116,105,108]:aa)))))))
theorem ahw{R:bh}(a:hZ R){x0:ah}{b:aa}{a3:bL}{Q:bt}{r:ah}(h:B3 R x0 b=some r):
  gI Tryz.prog 127 [.pointer a3,.string (a7 b)] [] (eR a3 x0 Q) (λ_:bt=>True) (λq=> .tuple #[]) (λq=>eR a3 r q):=
 by
  refine V.jm (T:=ck) Tryz.call127 Tryz.func127 U λ_ _=>?_;unfold B3 at h;refine V.c8 ab 4 0 h (ρ:=bt) (λs q=>[]) .nil (λs q=>gJ a3 s q) U ?_ ?_
  ·intro y _ h;refine V.co ab 5 0 h U (λh=>?_) (λh=>?_)
   ·refine V.go ab 2 0 U ?_;refine V.cl (aJ.kt U (cK.buildSlice ab U U U U U U U U U U U [] U .str [([125]:aa)] ⟨U,U⟩ U U λe=>aJ.ku (V.cz ?_)));refine V.cl (aJ.freeze [0] U (V.cz ?_));refine V.bI ab 0 0 h (B1 a) [0,0,0] [0] U ?_;rintro⟨z,A⟩ f h
    try dsimp only at h
    exact V.zr ab 2 0 h f [1,2,0] [] U
   refine V.e6 ab 0 0 h (ρ:=Unit) (λs q=>[(0,.bj ⟨a3,1,1⟩ 0),(5,.v (.string (a7 b))),(11,.v (.bool s))]) .nil (λs q=>eR a3 x0 Q) U ?_ ?_
   ·intro B _ h;refine V.co ab 5 0 h U (λh=>?_) (λh=>?_)
    ·exact V.a5 ab 1 0 h () [0,1,2] U
    exact V.a5 ab 4 0 h () [0,1,2] U
   rintro C _ h;refine V.co ab 0 0 h U (λh=>?_) (λh=>?_)
   ·refine V.go ab 3 0 U ?_;refine V.cl (aJ.kt U (cK.buildSlice ab U U U U U U U U U U U [] U .str [([100,111]:aa)] ⟨U,U⟩ U U λD=>aJ.ku (V.cz ?_)));refine V.cl (aJ.freeze [0] U (V.cz ?_));refine V.bI ab 0 0 h (B1 a) [0,0,0] [0] U ?_;rintro⟨E,F⟩ g h;refine V.co ab 9 1 h ⟨U,U,U,U⟩ (λh=>?_) (λh=>?_)
    ·refine V.go ab 2 0 U ?_;refine V.cl (aJ.kt U (cK.buildSlice ab U U U U U U U U U U U [] U .str [([100,111,110,101]:aa)] ⟨U,U⟩ U U λi=>aJ.ku (V.cz ?_)));refine V.cl (aJ.freeze [0] U (V.cz ?_));refine V.bI ab 0 0 h (B1 a) [0,0,0] [0] U ?_;rintro⟨G,H⟩ j h
     try dsimp only at h
     exact V.zr ab 2 0 h j [1,2,0] [] U
    exact V.zr ab 2 0 h g [1,2,0] [] U
   refine V.co ab 5 0 h U (λh=>?_) (λh=>?_)
   ·refine V.c8 ab 5 0 h (ρ:=bt) (λs q=>[(0,.bj ⟨a3,1,1⟩ 0),(4,.v (.string (a7 s.1)))]) .nil (λs q=>gJ a3 s.2 q) U ?_ ?_
    ·intro I _ h;refine V.e7 ab 0 0 h (ρ:=bt) (λs q=>[(0,.bj ⟨a3,1,1⟩ 0),(4,.v (.string (a7 s.1)))]) .nil (λs q=>gJ a3 s.2 q) Q [1,2,0] U ?_;rintro k ⟨J,K,L,M,N,O,P,S,W,X⟩ l h;rw[HS] at h;refine V.co ab 13 2 h ⟨U,U,U,U⟩ (λh=>?_) (λh=>?_)
     ·refine V.c8 ab 1 0 h (ρ:=bt) (λs q=>[(0,.bj ⟨a3,1,1⟩ 0),(4,.v (.string (a7 s.1)))]) .nil (λs q=>gJ a3 s.2 q) U ?_ ?_
      ·intro Y _ h;refine V.go ab 3 0 U ?_;refine V.cl (aJ.kt U (cK.buildSlice ab U U U U U U U U U U U [] U .str [([116,104,101,110]:aa)] ⟨U,U⟩ U U λm=>aJ.ku (V.cz ?_)));refine V.cl (aJ.freeze [0] U (V.cz ?_));refine V.bI ab 0 0 h (B1 a) [2,0,0] [0] U ?_;rintro⟨Z,hK⟩ n h;refine V.co ab 9 1 h ⟨U,U,U,U⟩ (λh=>?_) (λh=>?_)
       ·refine V.go ab 2 0 U ?_;refine V.cl (aJ.kt U (cK.buildSlice ab U U U U U U U U U U U [] U .str [([101,108,105,102]:aa),([101,108,115,101]:aa),([102,105]:aa)] ⟨U,U⟩ U U λo=>aJ.ku (V.cz ?_)));refine V.cl (aJ.freeze [0] U (V.cz ?_));refine V.bI ab 0 0 h (B1 a) [0,0,0] [0] U ?_;rintro⟨tX,mS⟩ p h
        try dsimp only at h
        exact V.zr ab 3 0 h p [1,2,0] [] U
       exact V.zr ab 2 0 h n [1,2,0] [] U
      rintro⟨jn,l_,jW,mT,lW,lO,rf,ra,pq,nc⟩ t h
      try dsimp only at h
      exact V.el ab 0 0 h t [0,1,2] U
     exact V.a5 ab 1 0 h l [0,1,2] U
    rintro⟨p5,pj,mU,pn,po,B4,ui,pk,qH,oD⟩ u h;refine V.co ab 12 2 h ⟨U,U,U,U⟩ (λh=>?_) (λh=>?_)
    ·refine V.go ab 2 0 U ?_;refine V.cl (aJ.kt U (cK.buildSlice ab U U U U U U U U U U U [] U .str [([102,105]:aa)] ⟨U,U⟩ U U λv=>aJ.ku (V.cz ?_)));refine V.cl (aJ.freeze [0] U (V.cz ?_));refine V.bI ab 0 0 h (B1 a) [2,0,0] [0] U ?_;rintro⟨Wy,uj⟩ w h
     try dsimp only at h
     exact V.zr ab 2 0 h w [1,2,0] [] U
    exact V.a5 ab 2 0 h u [0,1,2] U
   refine V.co ab 5 0 h U (λh=>?_) (λh=>?_)
   ·refine V.bI ab 2 0 h (aht a) [0,0,0] [] U λkJ x h=>?_;exact V.a5 ab 2 0 h x [1,2,0] U
   refine V.co ab 5 0 h U (λh=>?_) (λh=>?_)
   ·refine V.bI ab 2 0 h (ahn a) [0,0,0] [] U λwQ c h=>?_;exact V.a5 ab 2 0 h c [1,2,0] U
   exact V.a5 ab 2 0 h Q [1,2,0] U
  rintro⟨s5,tZ,HN,HO,ym,Er,Ww,Wx,G2⟩ d h;cases h;exact V.jD ab 0 0 d [2,0,0] U
def z7(R:bh)(o:ah->Option ah)(p:ah->Option ah):ah->Option ah:=λ(c,d,e,f,a,g,h,i,j)=>
 (cR ((decide (a=0))=true) (gq (c,d,e,f,a,g,h,i,j)) false λ(l:Bool)=>(cR ((bif(decide (a=0)) then(!l) else false)=true) (hr (c,d,e,f,a,g,h,i,j)) [] λ(q:aa)=>(cR ((bif(decide (a=0)) then(!l) else false)=true) (vs q) false λ(m:Bool)=>(cR (m=false/\(bif(decide (a=0)) then(!l) else false)=true) (zW (c,d,e,f,a,g,h,i,j)) false λ(r:Bool)=>(bif(bif(bif(decide (a=0)) then(!l) else false) then(bif m then true else r) else false) then(a9 (λ((s,t,u,v,w,x,y,z,A):ah)=>p (s,t,u,v,w,x,y,z,A)) λn=>(av (BW R (c,d,e,f,a,g,h,i,j)) λ(k:ah)=>(bif(decide (k.2.2.2.2.1=0)) then(av (g2 k) λ(b:ah)=>n (b.1,b.2.1,b.2.2.1,k.2.2.2.1,b.2.2.2.2.1,b.2.2.2.2.2.1,b.2.2.2.2.2.2.1,k.2.2.2.2.2.2.2.1,b.2.2.2.2.2.2.2.2)) else n k))) else o (c,d,e,f,a,g,h,i,j))))))
def B5(R:bh)(x0:ah):Option ah:=
 (av (g2 x0) λ(a:ah)=>(a9 (λ((b,c,d,e,f,g,h,i,j):ah)=>some (b,c,d,e,f,g,h,i,j)) λk=>(fixF (z7 R k) bC (a.1,a.2.1,a.2.2.1,x0.2.2.2.1,a.2.2.2.2.1,a.2.2.2.2.2.1,a.2.2.2.2.2.2.1,x0.2.2.2.2.2.2.2.1,a.2.2.2.2.2.2.2.2))))
theorem ahz{R:bh}(d:hZ R){x0:ah}{a2:bL}{Q:bt}{r:ah}(h:B5 R x0=some r):
  gI Tryz.prog 128 [.pointer a2] [] (eR a2 x0 Q) (λ_:bt=>True) (λq=> .tuple #[]) (λq=>eR a2 r q):=
 by
  refine V.jm (T:=ck) Tryz.call128 Tryz.func128 U λ_ _=>?_;unfold B5 at h;refine V.bI ab 3 0 h n9 [0] [] U λi _ h=>?_;refine V.c8 ab 1 0 h (ρ:=bt) (λs q=>[]) .nil (λs q=>gJ a2 s q) U ?_ ?_
  ·intro j _ h;refine V.e7 ab 0 0 h (ρ:=bt) (λs q=>[(0,.bj ⟨a2,1,1⟩ 0)]) .nil (λs q=>gJ a2 s q) Q [1,2,0] U ?_;rintro k ⟨l,m,n,o,p,t,u,v,w⟩ e h;rw[z7] at h;refine V.hX ab 10 2 h mZ [2] ⟨U,U,U,U⟩ (λ_=>id) λx h=>?_;refine V.hX ab 4 0 h oK [2] U (λ_=>id) λy h=>?_;refine V.hX ab 0 0 h K1 [] U (λ_=>id) λz h=>?_;refine V.hX ab 2 0 h Wi [2] U (λ_ F a f=>F ⟨a,f⟩) λA h=>?_;refine V.co ab 3 0 h U (λh=>?_) (λh=>?_)
   ·refine V.c8 ab 1 0 h (ρ:=bt) (λs q=>[(0,.bj ⟨a2,1,1⟩ 0)]) .nil (λs q=>gJ a2 s q) U ?_ ?_
    ·intro B _ h;refine V.bI ab 3 0 h (Wp d) [2,0,0] [] U λC c h=>?_;refine V.co ab 9 0 h ⟨U,U,U,U⟩ (λh=>?_) (λh=>?_)
     ·refine V.bI ab 2 0 h n9 [0] [] U λD _ h=>?_;exact V.a5 ab 2 0 h c [1,2,0] U
     exact V.a5 ab 2 0 h c [1,2,0] U
    rintro⟨E,G,H,I,J,K,L,M,N⟩ g h
    try dsimp only at h
    exact V.el ab 0 0 h g [0,1,2] U
   exact V.a5 ab 1 0 h e [0,1,2] U
  rintro⟨O,P,S,W,X,Y,Z,vf,yl⟩ b h;cases h;exact V.jD ab 0 0 b [2,0,0] U
def yp(R:bh)(x0:ah):Option ah:=
 (av (yi x0 x0.2.1) λ(f,a)=>(bif(!f) then some (a.1,a.2.1,a.2.2.1,x0.2.2.2.1,a.2.2.2.2.1,a.2.2.2.2.2.1,a.2.2.2.2.2.2.1,x0.2.2.2.2.2.2.2.1,a.2.2.2.2.2.2.2.2) else(a9 (λ((g,h,i,j,k,l,m,n,o,p):aa×ah)=>(av (gr (h,i,j,k,l,m,n,o,p) g ([])) λ(b:ah)=>(bif(decide (b.2.2.2.2.1=0)) then(av (B5 R (b.1,b.2.1,(W (b.2.2.1-1)),b.2.2.2)) λ(q:ah)=>some q) else some (b.1,b.2.1,(W (b.2.2.1-1)),b.2.2.2)))) λe=>(av (hr (a.1,a.2.1,a.2.2.1,x0.2.2.2.1,a.2.2.2.2.1,a.2.2.2.2.2.1,a.2.2.2.2.2.2.1,x0.2.2.2.2.2.2.2.1,a.2.2.2.2.2.2.2.2)) λ(r:aa)=>(bif(decide (r=([40]:aa))) then(av (R.nE (a.1,(W (a.2.1+1)),a.2.2.1,x0.2.2.2.1,a.2.2.2.2.1,a.2.2.2.2.2.1,a.2.2.2.2.2.2.1,x0.2.2.2.2.2.2.2.1,a.2.2.2.2.2.2.2.2) ([41]:aa) ([]:bs) true) λ(u,s)=>(av (gr s ([]) ([41]:aa)) λ(c:ah)=>e (([40]:aa),c.1,(W (c.2.1+1)),c.2.2))) else(av (lA (a.1,a.2.1,a.2.2.1,x0.2.2.2.1,a.2.2.2.2.1,a.2.2.2.2.2.1,a.2.2.2.2.2.2.1,x0.2.2.2.2.2.2.2.1,a.2.2.2.2.2.2.2.2)) λ(d:aa)=>(av (B3 R (a.1,(W (a.2.1+(d.length:Int))),a.2.2.1,x0.2.2.2.1,a.2.2.2.2.1,a.2.2.2.2.2.1,a.2.2.2.2.2.2.1,x0.2.2.2.2.2.2.2.1,a.2.2.2.2.2.2.2.2) d) λ(t:ah)=>e (d,t))))))))
theorem Wz{R:bh}(a:hZ R){x0:ah}{a2:bL}{Q:bt}{r:ah}(h:yp R x0=some r):
  gI Tryz.prog 98 [.pointer a2] [] (eR a2 x0 Q) (λ_:bt=>True) (λq=> .tuple #[]) (λq=>eR a2 r q):=
 by
  refine V.jm (T:=ck) Tryz.call98 Tryz.func98 U λ_ _=>?_;unfold yp at h;refine V.bI ab 8 0 h Qx [0] [] ⟨U,U,U,U⟩ ?_;rintro⟨f,g⟩ _ h;refine V.co ab 2 0 h U (λh=>?_) (λh=>?_)
  ·cases h;exact V.rx ab 0 0 Q [0,0,0] U
  refine V.e6 ab 5 0 h (ρ:=bt) (λs q=>[(0,.bj ⟨a2,1,1⟩ 0),(2,.v (.string (a7 s.1)))]) .nil (λs q=>gJ a2 s.2 q) U ?_ ?_
  ·intro i _ h;refine V.cI ab 3 0 h oK [0] U λj _ h=>?_;refine V.co ab 2 0 h U (λh=>?_) (λh=>?_)
   ·refine V.go ab 14 0 ⟨U,U,U,U,U,U,U⟩ ?_;refine V.cl (aJ.JP .str bA.nil U U (V.cz ?_));refine V.bI ab 0 0 h a.nE [0,0,0] [0] U ?_;rintro⟨k,l⟩ m h;refine V.bI ab 4 0 h qF [0,0,0] [] U λn b h=>?_;exact V.zr ab 11 1 h b [1,2,0] [] ⟨U,U,U,U,U,U,U⟩
   refine V.cI ab 3 0 h wL [0] U λo _ h=>?_;refine V.bI ab 19 0 h (ahw a) [0,0,0] [] ⟨U,U,U,U,U,U,U⟩ λp c h=>?_;exact V.a5 ab 1 0 h c [1,2,0] U
  rintro⟨t,u,v,w,x,y,z,A,B,C⟩ D h;refine V.bI ab 4 0 h qF [2,0,0] [] U λE d h=>?_;refine V.co ab 20 0 h ⟨U,U,U,U,U,U,U,U,U,U⟩ (λh=>?_) (λh=>?_)
  ·refine V.bI ab 2 0 h (ahz a) [0,0,0] [] U λF e h=>?_;cases h;exact V.jD ab 1 0 e [0,0,0] U
  cases h;exact V.jD ab 1 0 d [0,0,0] U
def Es(R:bh)(x0:ah):Option ah:=
 (bif(decide (28<x0.2.2.1)) then(av (hg x0 x0.2.1) λ(c:ah)=>some (c.1,c.2.1,c.2.2.1,x0.2.2.2.1,c.2.2.2.2.1,c.2.2.2.2.2.1,c.2.2.2.2.2.2.1,x0.2.2.2.2.2.2.2.1,c.2.2.2.2.2.2.2.2)) else(av (g2 (x0.1,(W (x0.2.1+1)),(W (x0.2.2.1+1)),x0.2.2.2)) λ(a:ah)=>(a9 (λ((i,j,k,l,m,n,o,p,q):ah)=>(av (gr (i,j,k,l,m,n,o,p,q) ([102,40,41]:aa) ([])) λ(g:ah)=>some (g.1,g.2.1,(W (g.2.2.1-1)),g.2.2.2))) λf=>(av (gq (a.1,a.2.1,a.2.2.1,x0.2.2.2.1,a.2.2.2.2.1,a.2.2.2.2.2.1,a.2.2.2.2.2.2.1,x0.2.2.2.2.2.2.2.1,a.2.2.2.2.2.2.2.2)) λ(r:Bool)=>(bif r then(av (g3 (a.1,a.2.1,a.2.2.1,x0.2.2.2.1,a.2.2.2.2.1,a.2.2.2.2.2.1,a.2.2.2.2.2.2.1,x0.2.2.2.2.2.2.2.1,a.2.2.2.2.2.2.2.2) ([41,32,123,32,120,10,125]:aa)) λ(s:ah)=>f s) else(av (hr (a.1,a.2.1,a.2.2.1,x0.2.2.2.1,a.2.2.2.2.1,a.2.2.2.2.2.1,a.2.2.2.2.2.2.1,x0.2.2.2.2.2.2.2.1,a.2.2.2.2.2.2.2.2)) λ(t:aa)=>(bif(!(decide (t=([41]:aa)))) then(av (hg (a.1,a.2.1,a.2.2.1,x0.2.2.2.1,a.2.2.2.2.1,a.2.2.2.2.2.1,a.2.2.2.2.2.2.1,x0.2.2.2.2.2.2.2.1,a.2.2.2.2.2.2.2.2) a.2.1) λ(d:ah)=>f (d.1,d.2.1,d.2.2.1,x0.2.2.2.1,d.2.2.2.2.1,d.2.2.2.2.2.1,d.2.2.2.2.2.2.1,x0.2.2.2.2.2.2.2.1,d.2.2.2.2.2.2.2.2)) else(av (oa (a.1,(W (a.2.1+1)),a.2.2.1,x0.2.2.2.1,a.2.2.2.2.1,a.2.2.2.2.2.1,a.2.2.2.2.2.2.1,x0.2.2.2.2.2.2.2.1,a.2.2.2.2.2.2.2.2)) λ(b:ah)=>(bif(!(decide (b.2.2.2.2.1=0))) then(av (gr b ([]) ([123,32,120,10,125]:aa)) λ(u:ah)=>f u) else(av (gq b) λ(v:Bool)=>(bif v then(av (g3 b ([123,32,120,10,125]:aa)) λ(w:ah)=>f w) else(av (hr b) λ(h:aa)=>(cR ((decide (h=([40]:aa)))=false) (lA b) [] λ(x:aa)=>(cR ((decide (h=([40]:aa)))=false) (yf x) false λ(y:Bool)=>(bif(bif(decide (h=([40]:aa))) then true else y) then(av (yp R b) λ(z:ah)=>f z) else(av (hg b b.2.1) λ(e:ah)=>f (e.1,e.2.1,e.2.2.1,b.2.2.2.1,e.2.2.2.2.1,e.2.2.2.2.2.1,e.2.2.2.2.2.2.1,b.2.2.2.2.2.2.2.1,e.2.2.2.2.2.2.2.2)))))))))))))))))
theorem ahC{R:bh}(a:hZ R){x0:ah}{a2:bL}{Q:bt}{r:ah}(h:Es R x0=some r):
  gI Tryz.prog 129 [.pointer a2] [] (eR a2 x0 Q) (λ_:bt=>True) (λq=> .tuple #[]) (λq=>eR a2 r q):=
 by
  refine V.jm (T:=ck) Tryz.call129 Tryz.func129 U λ_ _=>?_;unfold Es at h;refine V.co ab 9 0 h ⟨U,U,U,U⟩ (λh=>?_) (λh=>?_)
  ·refine V.bI ab 7 0 h pv [0] [] ⟨U,U,U,U⟩ λi _ h=>?_;cases h;exact V.rx ab 1 0 Q [0,0,0] U
  refine V.bI ab 26 0 h n9 [0] [] ⟨U,U,U,U,U,U,U,U,U,U,U,U,U⟩ λj _ h=>?_;refine V.e6 ab 1 0 h (ρ:=bt) (λs q=>[(0,.bj ⟨a2,1,1⟩ 0)]) .nil (λs q=>gJ a2 s q) U ?_ ?_
  ·intro k _ h;refine V.cI ab 3 0 h mZ [0] U λl _ h=>?_;refine V.co ab 1 0 h U (λh=>?_) (λh=>?_)
   ·refine V.bI ab 2 0 h pt [0,0,0] [] U λm b h=>?_;exact V.a5 ab 1 0 h b [1,2,0] U
   refine V.cI ab 3 0 h oK [0] U λn _ h=>?_;refine V.co ab 2 0 h U (λh=>?_) (λh=>?_)
   ·refine V.bI ab 6 0 h pv [0] [] ⟨U,U,U,U⟩ λo _ h=>?_;exact V.a5 ab 1 0 h Q [1,2,0] U
   refine V.bI ab 14 0 h BX [0,0,0] [] ⟨U,U,U,U,U,U,U⟩ λp c h=>?_;refine V.co ab 9 0 h ⟨U,U,U,U⟩ (λh=>?_) (λh=>?_)
   ·refine V.bI ab 2 0 h qF [0,0,0] [] U λt d h=>?_;exact V.a5 ab 1 0 h d [1,2,0] U
   refine V.cI ab 3 0 h mZ [0] U λu _ h=>?_;refine V.co ab 1 0 h U (λh=>?_) (λh=>?_)
   ·refine V.bI ab 2 0 h pt [0,0,0] [] U λv e h=>?_;exact V.a5 ab 1 0 h e [1,2,0] U
   refine V.cI ab 3 0 h oK [0] U λw _ h=>?_;refine V.hX ab 3 0 h wL [0] U (λ_=>id) λx h=>?_;refine V.hX ab 0 0 h Wh [] U (λ_=>id) λy h=>?_;refine V.co ab 2 0 h U (λh=>?_) (λh=>?_)
   ·refine V.bI ab 2 0 h (Wz a) [0,0,0] [] U λz f h=>?_;exact V.a5 ab 1 0 h f [1,2,0] U
   refine V.bI ab 6 0 h pv [0] [] ⟨U,U,U,U⟩ λA _ h=>?_;exact V.a5 ab 1 0 h c [1,2,0] U
  rintro⟨B,C,D,E,F,G,H,I,J⟩ K h;refine V.bI ab 3 0 h qF [2,0,0] [] U λL g h=>?_;cases h;exact V.jD ab 11 0 g [0,0,0] ⟨U,U,U,U,U,U,U⟩
def HT(R:bh)(v:ah->Option ah)(e:(Int×Int×Bool×ah)->Option ah):(Int×Int×Bool×ah)->Option ah:=λ(f,g,j,k,l,m,b,h,n,o,c,p)=>
 (bif(decide (h=0)) then(av (g2 (k,l,m,b,h,n,o,c,p)) λ(a:ah)=>(av (gq (a.1,a.2.1,a.2.2.1,b,a.2.2.2.2.1,a.2.2.2.2.2.1,a.2.2.2.2.2.2.1,c,a.2.2.2.2.2.2.2.2)) λ(q:Bool)=>(cR (q=false) (ia (a.1,a.2.1,a.2.2.1,b,a.2.2.2.2.1,a.2.2.2.2.2.1,a.2.2.2.2.2.2.1,c,a.2.2.2.2.2.2.2.2)) (0:UInt8) λ(w:UInt8)=>(bif(bif q then true else(decide ((w.toNat:Int)=(10:Int)))) then some (a.1,a.2.1,a.2.2.1,b,a.2.2.2.2.1,a.2.2.2.2.2.1,a.2.2.2.2.2.2.1,c,a.2.2.2.2.2.2.2.2) else(av (hr (a.1,a.2.1,a.2.2.1,b,a.2.2.2.2.1,a.2.2.2.2.2.1,a.2.2.2.2.2.2.1,c,a.2.2.2.2.2.2.2.2)) λ(i:aa)=>(a9 (λ((x,y,z,A,B,C,D,E,F,G,H,I):Int×Int×Bool×ah)=>e (x,y,z,A,B,C,D,E,F,G,H,I)) λr=>(bif(decide (i=([40]:aa))) then(a9 (λ((J,K,L,M,N,O,P,Q,S):ah)=>some (J,K,L,M,N,O,P,Q,S)) λs=>(bif(bif(bif(decide (f=1)) then(decide (g=0)) else false) then j else false) then(av (Es R (a.1,a.2.1,a.2.2.1,b,a.2.2.2.2.1,a.2.2.2.2.2.1,a.2.2.2.2.2.2.1,c,a.2.2.2.2.2.2.2.2)) λ(T:ah)=>s T) else(av (hg (a.1,a.2.1,a.2.2.1,b,a.2.2.2.2.1,a.2.2.2.2.2.1,a.2.2.2.2.2.2.1,c,a.2.2.2.2.2.2.2.2) a.2.1) λ(d:ah)=>s (d.1,d.2.1,d.2.2.1,b,d.2.2.2.2.1,d.2.2.2.2.2.1,d.2.2.2.2.2.2.1,c,d.2.2.2.2.2.2.2.2)))) else(av (vs i) λ(t:Bool)=>(cR (t=false) (zW (a.1,a.2.1,a.2.2.1,b,a.2.2.2.2.1,a.2.2.2.2.2.1,a.2.2.2.2.2.2.1,c,a.2.2.2.2.2.2.2.2)) false λ(U:Bool)=>(bif(bif t then true else U) then(av (BW R (a.1,a.2.1,a.2.2.1,b,a.2.2.2.2.1,a.2.2.2.2.2.1,a.2.2.2.2.2.2.1,c,a.2.2.2.2.2.2.2.2)) λ(V:ah)=>r (f,(W (g+1)),j,V)) else(bif(!(decide (i=[]))) then some (a.1,a.2.1,a.2.2.1,b,a.2.2.2.2.1,a.2.2.2.2.2.1,a.2.2.2.2.2.2.1,c,a.2.2.2.2.2.2.2.2) else(av (p7 R (a.1,a.2.1,a.2.2.1,b,a.2.2.2.2.1,a.2.2.2.2.2.1,a.2.2.2.2.2.2.1,c,a.2.2.2.2.2.2.2.2)) λ(X,u,Y)=>(cR (u=true) (z3 X) false λ(Z:Bool)=>r ((W (f+1)),g,(bif u then Z else false),Y)))))))))))))) else v (k,l,m,b,h,n,o,c,p))
def QJ(R:bh)(x0:ah):Option ah:=
 (a9 (λ((a,b,c,d,e,f,g,h,i):ah)=>some (a,b,c,d,e,f,g,h,i)) λj=>(fixF (HT R j) bC (0,0,false,x0.1,x0.2.1,x0.2.2.1,x0.2.2.2.1,x0.2.2.2.2.1,x0.2.2.2.2.2.1,x0.2.2.2.2.2.2.1,x0.2.2.2.2.2.2.2.1,x0.2.2.2.2.2.2.2.2)))
theorem ahE{R:bh}(b:hZ R){x0:ah}{a2:bL}{Q:bt}{r:ah}(h:QJ R x0=some r):
  gI Tryz.prog 101 [.pointer a2] [] (eR a2 x0 Q) (λ_:bt=>True) (λq=> .tuple #[]) (λq=>eR a2 r q):=
 by
  refine V.jm (T:=ck) Tryz.call101 Tryz.func101 U λ_ _=>?_;unfold QJ at h;refine V.c8 ab 12 0 h (ρ:=bt) (λs q=>[]) .nil (λs q=>gJ a2 s q) U ?_ ?_
  ·intro k _ h;refine V.e7 ab 0 0 h (ρ:=bt) (λs q=>[(0,.bj ⟨a2,1,1⟩ 0),(2,.v (.int .i64 s.1)),(3,.v (.int .i64 s.2.1)),(4,.v (.bool s.2.2.1))]) .nil (λs q=>gJ a2 s.2.2.2 q) Q [1,2,0] U ?_;rintro e ⟨l,m,n,o,p,t,u,v,w,x,y,z⟩ a h;rw[HT] at h;refine V.co ab 9 2 h ⟨U,U,U,U⟩ (λh=>?_) (λh=>?_)
   ·refine V.bI ab 5 0 h n9 [2] [] U λA _ h=>?_;refine V.cI ab 5 0 h mZ [0] U λB _ h=>?_;refine V.hX ab 2 0 h n_ [0] U (λ_=>id) λC h=>?_;refine V.co ab 3 0 h U (λh=>?_) (λh=>?_)
    ·cases h;exact V.rx ab 0 0 a [0,0,0] U
    refine V.cI ab 4 0 h oK [0] U λD _ h=>?_;refine V.c8 ab 2 0 h (ρ:=bt) (λs q=>[(0,.bj ⟨a2,1,1⟩ 0),(2,.v (.int .i64 s.1)),(3,.v (.int .i64 s.2.1)),(4,.v (.bool s.2.2.1))]) .nil (λs q=>gJ a2 s.2.2.2 q) U ?_ ?_
    ·intro E _ h;refine V.co ab 6 0 h U (λh=>?_) (λh=>?_)
     ·refine V.e6 ab 0 0 h (ρ:=bt) (λs q=>[]) .nil (λs q=>gJ a2 s q) U ?_ ?_
      ·intro F _ h;refine V.co ab 12 0 h U (λh=>?_) (λh=>?_)
       ·refine V.bI ab 2 0 h (ahC b) [0,0,0] [] U λG f h=>?_;exact V.a5 ab 1 0 h f [1,2,0] U
       refine V.bI ab 6 0 h pv [0] [] ⟨U,U,U,U⟩ λH _ h=>?_;exact V.a5 ab 1 0 h a [1,2,0] U
      rintro⟨I,J,K,L,M,N,O,P,S⟩ g h;cases h;exact V.rx ab 0 0 g [2,0,0] U
     refine V.cI ab 3 0 h K1 [] U λW _ h=>?_;refine V.hX ab 2 0 h Wi [0] U (λ_=>id) λX h=>?_;refine V.co ab 3 0 h U (λh=>?_) (λh=>?_)
     ·refine V.bI ab 3 0 h (Wp b) [0,0,0] [] U λY i h=>?_;exact V.a5 ab 7 0 h i [1,2,0] U
     refine V.co ab 6 0 h U (λh=>?_) (λh=>?_)
     ·cases h;exact V.rx ab 0 0 a [0,0,0] U
     refine V.bI ab 3 0 h (Ej b) [0,0,0] [] U ?_;rintro⟨Z,iD,nJ⟩ j h;refine V.hX ab 11 0 h Wn [] U (λ_=>id) λkk h=>?_
     try dsimp only at h
     exact V.a5 ab 9 0 h j [1,2,0] U
    rintro⟨nc,rb,yl,tW,rX,vn,ug,iF,vt,p5,pj,po⟩ c h
    try dsimp only at h
    exact V.el ab 1 0 h c [0,1,2] U
   exact V.a5 ab 1 0 h a [0,1,2] U
  rintro⟨zI,HU,WA,WB,qx,zZ,Eh,ya,oH⟩ d h;cases h;exact V.jD ab 0 0 d [2,0,0] U
def r_(R:bh)(x0:ah):Option ah:=
 (av (g2 x0) λ(a:ah)=>(av (gq (a.1,a.2.1,a.2.2.1,x0.2.2.2.1,a.2.2.2.2.1,a.2.2.2.2.2.1,a.2.2.2.2.2.2.1,x0.2.2.2.2.2.2.2.1,a.2.2.2.2.2.2.2.2)) λ(g:Bool)=>(bif g then(av (g3 (a.1,a.2.1,a.2.2.1,x0.2.2.2.1,a.2.2.2.2.1,a.2.2.2.2.2.1,a.2.2.2.2.2.2.1,x0.2.2.2.2.2.2.2.1,a.2.2.2.2.2.2.2.2) ([120]:aa)) λ(h:ah)=>some h) else(av (hr (a.1,a.2.1,a.2.2.1,x0.2.2.2.1,a.2.2.2.2.1,a.2.2.2.2.2.1,a.2.2.2.2.2.2.1,x0.2.2.2.2.2.2.2.1,a.2.2.2.2.2.2.2.2)) λ(c:aa)=>(av (lA (a.1,a.2.1,a.2.2.1,x0.2.2.2.1,a.2.2.2.2.1,a.2.2.2.2.2.1,a.2.2.2.2.2.2.1,x0.2.2.2.2.2.2.2.1,a.2.2.2.2.2.2.2.2)) λ(y23:aa)=>(a9 (λ((i,j,k,l,m,n,o,p,q):ah)=>some (i,j,k,l,m,n,o,p,q)) λd=>(cR ((decide (c=([40]:aa)))=false) (yf y23) false λ(r:Bool)=>(bif(bif(decide (c=([40]:aa))) then true else r) then(av (yp R (a.1,a.2.1,a.2.2.1,x0.2.2.2.1,a.2.2.2.2.1,a.2.2.2.2.2.1,a.2.2.2.2.2.2.1,x0.2.2.2.2.2.2.2.1,a.2.2.2.2.2.2.2.2)) λ(s:ah)=>d s) else(av (ia (a.1,a.2.1,a.2.2.1,x0.2.2.2.1,a.2.2.2.2.1,a.2.2.2.2.2.1,a.2.2.2.2.2.2.1,x0.2.2.2.2.2.2.2.1,a.2.2.2.2.2.2.2.2)) λ(e:UInt8)=>(cR ((!(decide (c=[])))=true/\(decide ((e.toNat:Int)=(10:Int)))=false) (vs c) false λ(f:Bool)=>(cR ((bif(decide ((e.toNat:Int)=(10:Int))) then true else(bif(!(decide (c=[]))) then(!f) else false))=false) (Ec y23) false λ(t:Bool)=>(bif(bif(bif(decide ((e.toNat:Int)=(10:Int))) then true else(bif(!(decide (c=[]))) then(!f) else false)) then true else t) then(av (hg (a.1,a.2.1,a.2.2.1,x0.2.2.2.1,a.2.2.2.2.1,a.2.2.2.2.2.1,a.2.2.2.2.2.2.1,x0.2.2.2.2.2.2.2.1,a.2.2.2.2.2.2.2.2) a.2.1) λ(b:ah)=>d (b.1,b.2.1,b.2.2.1,x0.2.2.2.1,b.2.2.2.2.1,b.2.2.2.2.2.1,b.2.2.2.2.2.2.1,x0.2.2.2.2.2.2.2.1,b.2.2.2.2.2.2.2.2)) else(av (QJ R (a.1,a.2.1,a.2.2.1,x0.2.2.2.1,a.2.2.2.2.1,a.2.2.2.2.2.1,a.2.2.2.2.2.2.1,x0.2.2.2.2.2.2.2.1,a.2.2.2.2.2.2.2.2)) λ(u:ah)=>d u)))))))))))))
theorem WC{R:bh}(a:hZ R){x0:ah}{a2:bL}{Q:bt}{r:ah}(h:r_ R x0=some r):
  gI Tryz.prog 80 [.pointer a2] [] (eR a2 x0 Q) (λ_:bt=>True) (λq=> .tuple #[]) (λq=>eR a2 r q):=
 by
  refine V.jm (T:=ck) Tryz.call80 Tryz.func80 U λ_ _=>?_;unfold r_ at h;refine V.bI ab 3 0 h n9 [0] [] U λi _ h=>?_;refine V.cI ab 5 0 h mZ [0] U λj _ h=>?_;refine V.co ab 1 0 h U (λh=>?_) (λh=>?_)
  ·refine V.bI ab 3 0 h pt [0,0,0] [] U λk b h=>?_;cases h;exact V.rx ab 1 0 b [0,0,0] U
  refine V.cI ab 4 0 h oK [0] U λl _ h=>?_;refine V.cI ab 5 0 h wL [0] U λy23 _ h=>?_;refine V.c8 ab 2 0 h (ρ:=bt) (λs q=>[]) .nil (λs q=>gJ a2 s q) U ?_ ?_
  ·intro m _ h;refine V.hX ab 6 0 h Wh [] U (λ_=>id) λn h=>?_;refine V.co ab 3 0 h U (λh=>?_) (λh=>?_)
   ·refine V.bI ab 2 0 h (Wz a) [0,0,0] [] U λo c h=>?_;exact V.a5 ab 2 0 h c [1,2,0] U
   refine V.cI ab 3 0 h n_ [0] U λp _ h=>?_;refine V.hX ab 6 0 h K1 [] U (λ_ F d e=>F ⟨d,e⟩) λt h=>?_;refine V.hX ab 5 0 h agQ [] U (λ_=>id) λu h=>?_;refine V.co ab 3 0 h U (λh=>?_) (λh=>?_)
   ·refine V.bI ab 6 0 h pv [0] [] ⟨U,U,U,U⟩ λv _ h=>?_;exact V.a5 ab 2 0 h Q [1,2,0] U
   refine V.bI ab 2 0 h (ahE a) [0,0,0] [] U λw f h=>?_;exact V.a5 ab 2 0 h f [1,2,0] U
  rintro⟨x,y,z,A,B,C,D,E,G⟩ g h;cases h;exact V.jD ab 0 0 g [2,0,0] U
def WD(R:bh)(l:ah->Option ah)(m:ah->Option ah):ah->Option ah:=λ(f,g,h,b,d,i,j,c,k)=>
 (bif(decide (d=0)) then(av (g2 (f,g,h,b,d,i,j,c,k)) λ(a:ah)=>(av (hr (a.1,a.2.1,a.2.2.1,b,a.2.2.2.2.1,a.2.2.2.2.2.1,a.2.2.2.2.2.2.1,c,a.2.2.2.2.2.2.2.2)) λ(n:aa)=>(bif(!(decide (n=([124]:aa)))) then some (a.1,a.2.1,a.2.2.1,b,a.2.2.2.2.1,a.2.2.2.2.2.1,a.2.2.2.2.2.2.1,c,a.2.2.2.2.2.2.2.2) else(av (oa (a.1,(W (a.2.1+1)),a.2.2.1,b,a.2.2.2.2.1,a.2.2.2.2.2.1,a.2.2.2.2.2.2.1,c,a.2.2.2.2.2.2.2.2)) λ(e:ah)=>(bif(!(decide (e.2.2.2.2.1=0))) then(av (gr e ([]) ([120]:aa)) λ(o:ah)=>some o) else(av (r_ R e) λ(p:ah)=>m p)))))) else l (f,g,h,b,d,i,j,c,k))
def wR(R:bh)(x0:ah):Option ah:=
 (av (g2 x0) λ(a:ah)=>(a9 (λ(d:Int)=>(av (r_ R (a.1,d,a.2.2.1,x0.2.2.2.1,a.2.2.2.2.1,a.2.2.2.2.2.1,a.2.2.2.2.2.2.1,x0.2.2.2.2.2.2.2.1,a.2.2.2.2.2.2.2.2)) λ(b:ah)=>(a9 (λ((e,f,g,h,i,j,k,l,m):ah)=>some (e,f,g,h,i,j,k,l,m)) λn=>(fixF (WD R n) bC (b.1,b.2.1,b.2.2.1,b.2.2.2.1,b.2.2.2.2.1,b.2.2.2.2.2.1,b.2.2.2.2.2.2.1,b.2.2.2.2.2.2.2.1,b.2.2.2.2.2.2.2.2))))) λc=>(av (lA (a.1,a.2.1,a.2.2.1,x0.2.2.2.1,a.2.2.2.2.1,a.2.2.2.2.2.1,a.2.2.2.2.2.2.1,x0.2.2.2.2.2.2.2.1,a.2.2.2.2.2.2.2.2)) λ(o:aa)=>(bif(decide (o=([33]:aa))) then c (W (a.2.1+1)) else c a.2.1))))
theorem WE{R:bh}(b:hZ R){x0:ah}{a2:bL}{Q:bt}{r:ah}(h:wR R x0=some r):
  gI Tryz.prog 68 [.pointer a2] [] (eR a2 x0 Q) (λ_:bt=>True) (λq=> .tuple #[]) (λq=>eR a2 r q):=
 by
  refine V.jm (T:=ck) Tryz.call68 Tryz.func68 U λ_ _=>?_;unfold wR at h;refine V.bI ab 3 0 h n9 [0] [] U λa _ h=>?_;refine V.e6 ab 1 0 h (ρ:=Unit) (λs q=>[(0,.bj ⟨a2,1,1⟩ 0)]) .nil (λs q=>eR a2 (a.1,s,a.2.2.1,x0.2.2.2.1,a.2.2.2.2.1,a.2.2.2.2.2.1,a.2.2.2.2.2.2.1,x0.2.2.2.2.2.2.2.1,a.2.2.2.2.2.2.2.2) Q) U ?_ ?_
  ·intro i _ h;refine V.cI ab 3 0 h wL [0] U λj _ h=>?_;refine V.co ab 2 0 h U (λh=>?_) (λh=>?_)
   ·exact V.a5 ab 10 0 h () [0,1,2] ⟨U,U,U,U,U,U,U⟩
   exact V.a5 ab 1 0 h () [0,1,2] U
  rintro k _ h;refine V.bI ab 3 0 h (WC b) [0,0,0] [] U λl d h=>?_;refine V.c8 ab 1 0 h (ρ:=bt) (λs q=>[]) .nil (λs q=>gJ a2 s q) U ?_ ?_
  ·intro m _ h;refine V.e7 ab 0 0 h (ρ:=bt) (λs q=>[(0,.bj ⟨a2,1,1⟩ 0)]) .nil (λs q=>gJ a2 s q) d [1,2,0] U ?_;rintro n ⟨o,p,t,u,v,w,x,y,z⟩ c h;rw[WD] at h;refine V.co ab 9 2 h ⟨U,U,U,U⟩ (λh=>?_) (λh=>?_)
   ·refine V.bI ab 5 0 h n9 [2] [] U λA _ h=>?_;refine V.cI ab 5 0 h oK [0] U λB _ h=>?_;refine V.co ab 2 0 h U (λh=>?_) (λh=>?_)
    ·cases h;exact V.rx ab 0 0 c [0,0,0] U
    refine V.bI ab 15 0 h BX [0,0,0] [] ⟨U,U,U,U,U,U,U⟩ λC D h=>?_;refine V.co ab 10 0 h ⟨U,U,U,U⟩ (λh=>?_) (λh=>?_)
    ·refine V.bI ab 3 0 h qF [0,0,0] [] U λE e h=>?_;cases h;exact V.rx ab 1 0 e [0,0,0] U
    refine V.bI ab 3 0 h (WC b) [0,0,0] [] U λF f h=>?_;exact V.el ab 2 0 h f [1,2,0] U
   exact V.a5 ab 1 0 h c [0,1,2] U
  rintro⟨G,H,I,J,K,L,M,N,O⟩ g h;cases h;exact V.jD ab 0 0 g [2,0,0] U
def WG(R:bh)(m:ah->Option ah)(n:ah->Option ah):ah->Option ah:=λ(f,g,h,b,d,i,j,c,k)=>
 (bif(decide (d=0)) then(av (g2 (f,g,h,b,d,i,j,c,k)) λ(a:ah)=>(av (hr (a.1,a.2.1,a.2.2.1,b,a.2.2.2.2.1,a.2.2.2.2.2.1,a.2.2.2.2.2.2.1,c,a.2.2.2.2.2.2.2.2)) λ(l:aa)=>(bif(bif(!(decide (l=([38,38]:aa)))) then(!(decide (l=([124,124]:aa)))) else false) then some (a.1,a.2.1,a.2.2.1,b,a.2.2.2.2.1,a.2.2.2.2.2.1,a.2.2.2.2.2.2.1,c,a.2.2.2.2.2.2.2.2) else(av (oa (a.1,(W (a.2.1+2)),a.2.2.1,b,a.2.2.2.2.1,a.2.2.2.2.2.1,a.2.2.2.2.2.2.1,c,a.2.2.2.2.2.2.2.2)) λ(e:ah)=>(bif(!(decide (e.2.2.2.2.1=0))) then(av (gr e ([]) ([120]:aa)) λ(o:ah)=>some o) else(av (wR R e) λ(p:ah)=>n p)))))) else m (f,g,h,b,d,i,j,c,k))
def Eu(R:bh)(x0:ah):Option ah:=
 (av (wR R x0) λ(a:ah)=>(a9 (λ((b,c,d,e,f,g,h,i,j):ah)=>some (b,c,d,e,f,g,h,i,j)) λk=>(fixF (WG R k) bC (a.1,a.2.1,a.2.2.1,a.2.2.2.1,a.2.2.2.2.1,a.2.2.2.2.2.1,a.2.2.2.2.2.2.1,a.2.2.2.2.2.2.2.1,a.2.2.2.2.2.2.2.2))))
theorem ahH{R:bh}(a:hZ R){x0:ah}{a2:bL}{Q:bt}{r:ah}(h:Eu R x0=some r):
  gI Tryz.prog 51 [.pointer a2] [] (eR a2 x0 Q) (λ_:bt=>True) (λq=> .tuple #[]) (λq=>eR a2 r q):=
 by
  refine V.jm (T:=ck) Tryz.call51 Tryz.func51 U λ_ _=>?_;unfold Eu at h;refine V.bI ab 3 0 h (WE a) [0,0,0] [] U λg c h=>?_;refine V.c8 ab 1 0 h (ρ:=bt) (λs q=>[]) .nil (λs q=>gJ a2 s q) U ?_ ?_
  ·intro i _ h;refine V.e7 ab 0 0 h (ρ:=bt) (λs q=>[(0,.bj ⟨a2,1,1⟩ 0)]) .nil (λs q=>gJ a2 s q) c [1,2,0] U ?_;rintro j ⟨k,l,m,n,o,p,t,u,v⟩ b h;rw[WG] at h;refine V.co ab 9 2 h ⟨U,U,U,U⟩ (λh=>?_) (λh=>?_)
   ·refine V.bI ab 5 0 h n9 [2] [] U λw _ h=>?_;refine V.cI ab 4 0 h oK [0] U λx _ h=>?_;refine V.co ab 12 0 h U (λh=>?_) (λh=>?_)
    ·cases h;exact V.rx ab 0 0 b [0,0,0] U
    refine V.bI ab 16 0 h BX [0,0,0] [] ⟨U,U,U,U,U,U,U⟩ λy z h=>?_;refine V.co ab 10 0 h ⟨U,U,U,U⟩ (λh=>?_) (λh=>?_)
    ·refine V.bI ab 3 0 h qF [0,0,0] [] U λA d h=>?_;cases h;exact V.rx ab 1 0 d [0,0,0] U
    refine V.bI ab 3 0 h (WE a) [0,0,0] [] U λB e h=>?_;exact V.el ab 2 0 h e [1,2,0] U
   exact V.a5 ab 1 0 h b [0,1,2] U
  rintro⟨C,D,E,F,G,H,I,J,K⟩ f h;cases h;exact V.jD ab 0 0 f [2,0,0] U
def z8(R:bh)(g:aa)(x:bs)(l:Bool)(m:(Int×ah)->Option (Int×ah))(y:(Int×ah)->Option (Int×ah)):(Int×ah)->Option (Int×ah):=λ(d,n,o,p,e,i,q,r,f,s)=>
 (bif(decide (i=0)) then(a9 (λ((z,A,B,C,D,E,F,G,H,I):Int×ah)=>y (z,A,B,C,D,E,F,G,H,I)) λj=>(av (g2 (n,o,p,e,i,q,r,f,s)) λ(a:ah)=>(av (gq (a.1,a.2.1,a.2.2.1,e,a.2.2.2.2.1,a.2.2.2.2.2.1,a.2.2.2.2.2.2.1,f,a.2.2.2.2.2.2.2.2)) λ(J:Bool)=>(bif J then(a9 (λ((K,L,M,N,O,P,Q,S,T):ah)=>m (d,K,L,M,N,O,P,Q,S,T)) λt=>(bif(!(decide (g=[]))) then(av (g3 (a.1,a.2.1,a.2.2.1,e,a.2.2.2.2.1,a.2.2.2.2.2.1,a.2.2.2.2.2.2.1,f,a.2.2.2.2.2.2.2.2) ([])) λ(U:ah)=>t U) else t (a.1,a.2.1,a.2.2.1,e,a.2.2.2.2.1,a.2.2.2.2.2.1,a.2.2.2.2.2.2.1,f,a.2.2.2.2.2.2.2.2))) else(av (ia (a.1,a.2.1,a.2.2.1,e,a.2.2.2.2.1,a.2.2.2.2.2.1,a.2.2.2.2.2.2.1,f,a.2.2.2.2.2.2.2.2)) λ(V:UInt8)=>(bif(decide ((V.toNat:Int)=(10:Int))) then(av (zU (a.1,a.2.1,a.2.2.1,e,a.2.2.2.2.1,a.2.2.2.2.2.1,a.2.2.2.2.2.2.1,f,a.2.2.2.2.2.2.2.2)) λ(X:ah)=>j (d,X)) else(av (hr (a.1,a.2.1,a.2.2.1,e,a.2.2.2.2.1,a.2.2.2.2.2.1,a.2.2.2.2.2.2.1,f,a.2.2.2.2.2.2.2.2)) λ(u:aa)=>(av (lA (a.1,a.2.1,a.2.2.1,e,a.2.2.2.2.1,a.2.2.2.2.2.1,a.2.2.2.2.2.2.1,f,a.2.2.2.2.2.2.2.2)) λ(v:aa)=>(cR ((decide (0<d))=true/\(bif(bif(decide (u=g)) then(!(decide (g=[]))) else false) then(bif(decide (0<d)) then true else(!l)) else false)=false) (ye v x) false λ(Y:Bool)=>(bif(bif(bif(bif(bif(decide (u=g)) then(!(decide (g=[]))) else false) then(bif(decide (0<d)) then true else(!l)) else false) then true else(bif(decide (0<d)) then Y else false)) then true else(bif(decide (g=([59,59]:aa))) then(decide (v=([101,115,97,99]:aa))) else false)) then some (d,(a.1,a.2.1,a.2.2.1,e,a.2.2.2.2.1,a.2.2.2.2.2.1,a.2.2.2.2.2.2.1,f,a.2.2.2.2.2.2.2.2)) else(av (Eu R (a.1,a.2.1,a.2.2.1,e,a.2.2.2.2.1,a.2.2.2.2.2.1,a.2.2.2.2.2.2.1,f,a.2.2.2.2.2.2.2.2)) λ(c:ah)=>(bif(!(decide (c.2.2.2.2.1=0))) then some ((W (d+1)),c) else(av (g2 c) λ(b:ah)=>(av (hr (b.1,b.2.1,b.2.2.1,c.2.2.2.1,b.2.2.2.2.1,b.2.2.2.2.2.1,b.2.2.2.2.2.2.1,c.2.2.2.2.2.2.2.1,b.2.2.2.2.2.2.2.2)) λ(k:aa)=>(av (gq (b.1,b.2.1,b.2.2.1,c.2.2.2.1,b.2.2.2.2.1,b.2.2.2.2.2.1,b.2.2.2.2.2.2.1,c.2.2.2.2.2.2.2.1,b.2.2.2.2.2.2.2.2)) λ(w:Bool)=>(cR (w=false) (ia (b.1,b.2.1,b.2.2.1,c.2.2.2.1,b.2.2.2.2.1,b.2.2.2.2.2.1,b.2.2.2.2.2.2.1,c.2.2.2.2.2.2.2.1,b.2.2.2.2.2.2.2.2)) (0:UInt8) λ(Z:UInt8)=>(bif(bif(bif w then true else(decide ((Z.toNat:Int)=(10:Int)))) then true else(bif(decide (k=g)) then(!(decide (g=[]))) else false)) then j ((W (d+1)),b.1,b.2.1,b.2.2.1,c.2.2.2.1,b.2.2.2.2.1,b.2.2.2.2.2.1,b.2.2.2.2.2.2.1,c.2.2.2.2.2.2.2.1,b.2.2.2.2.2.2.2.2) else(bif(bif(!(decide (k=([59]:aa)))) then(!(decide (k=([38]:aa)))) else false) then(av (hg (b.1,b.2.1,b.2.2.1,c.2.2.2.1,b.2.2.2.2.1,b.2.2.2.2.2.1,b.2.2.2.2.2.2.1,c.2.2.2.2.2.2.2.1,b.2.2.2.2.2.2.2.2) b.2.1) λ(h:ah)=>some ((W (d+1)),(h.1,h.2.1,h.2.2.1,c.2.2.2.1,h.2.2.2.2.1,h.2.2.2.2.2.1,h.2.2.2.2.2.2.1,c.2.2.2.2.2.2.2.1,h.2.2.2.2.2.2.2.2))) else j ((W (d+1)),b.1,(W (b.2.1+1)),b.2.2.1,c.2.2.2.1,b.2.2.2.2.1,b.2.2.2.2.2.1,b.2.2.2.2.2.2.1,c.2.2.2.2.2.2.2.1,b.2.2.2.2.2.2.2.2))))))))))))))))))) else m (d,n,o,p,e,i,q,r,f,s))
def Ev(R:bh)(x0:ah)(n:aa)(o:bs)(b:Bool):Option (Int×ah):=
 (a9 (λ((c,d,e,f,g,h,i,j,k,l):Int×ah)=>(a9 (λ((p,q,r,s,t,u,v,w,x):ah)=>some (c,(p,q,r,s,t,u,v,w,x))) λm=>(bif(bif b then(decide (c=0)) else false) then(av (gr (d,e,f,g,h,i,j,k,l) ([]) ([120]:aa)) λ(a:ah)=>m (a.1,a.2.1,a.2.2.1,a.2.2.2.1,a.2.2.2.2.1,a.2.2.2.2.2.1,a.2.2.2.2.2.2.1,a.2.2.2.2.2.2.2.1,a.2.2.2.2.2.2.2.2)) else m (d,e,f,g,h,i,j,k,l)))) λy=>(fixF (z8 R n o b y) bC (0,x0.1,x0.2.1,x0.2.2.1,x0.2.2.2.1,x0.2.2.2.2.1,x0.2.2.2.2.2.1,x0.2.2.2.2.2.2.1,x0.2.2.2.2.2.2.2.1,x0.2.2.2.2.2.2.2.2)))
theorem ahI{R:bh}(n:hZ R){x0:ah}{d:aa}{c:bs}{b:Bool}{a:bL}{Q:bt}{e:bL}{f:Nat}{r:Int×ah}(h:Ev R x0 d c b=some r):
  gI Tryz.prog 32 [.pointer a,.string (a7 d),.slice e c.length f,.bool b] [hY e c f] (eR a x0 Q) (λ_:bt=>True) (λq=> .int .i64 r.1) (λq=>eR a r.2 q):=
 by
  refine V.jm (T:=ck) Tryz.call32 Tryz.func32 U λ_ _=>?_;unfold Ev at h;refine V.c8 ab 9 0 h (ρ:=bt) (λs q=>[(0,.bj ⟨a,1,1⟩ 0),(3,.v (.bool b)),(9,.v (.int .i64 s.1))]) .nil (λs q=>gJ a s.2 q) U ?_ ?_
  ·intro z _ h;refine V.e7 ab 0 0 h (ρ:=bt) (λs q=>[(0,.bj ⟨a,1,1⟩ 0),(1,.v (.string (a7 d))),(2,.v (.slice e c.length f)),(3,.v (.bool b)),(9,.v (.int .i64 s.1))]) .nil (λs q=>gJ a s.2 q) Q [1,2,0] U ?_;rintro o ⟨p,A,B,C,D,E,G,H,I,J⟩ i h;rw[z8] at h;refine V.co ab 9 3 h ⟨U,U,U,U⟩ (λh=>?_) (λh=>?_)
   ·refine V.c8 ab 1 0 h (ρ:=bt) (λs q=>[(0,.bj ⟨a,1,1⟩ 0),(1,.v (.string (a7 d))),(2,.v (.slice e c.length f)),(3,.v (.bool b)),(9,.v (.int .i64 s.1))]) .nil (λs q=>gJ a s.2 q) U ?_ ?_
    ·intro K _ h;refine V.bI ab 3 0 h n9 [2] [] U λL _ h=>?_;refine V.cI ab 5 0 h mZ [1] U λM _ h=>?_;refine V.co ab 1 0 h U (λh=>?_) (λh=>?_)
     ·refine V.e6 ab 0 0 h (ρ:=bt) (λs q=>[(0,.bj ⟨a,1,1⟩ 0),(3,.v (.bool b)),(9,.v (.int .i64 p))]) .nil (λs q=>gJ a s q) U ?_ ?_
      ·intro N _ h;refine V.co ab 5 0 h U (λh=>?_) (λh=>?_)
       ·refine V.bI ab 2 0 h pt [0,0,0] [] U λO t h=>?_;exact V.a5 ab 1 0 h t [1,2,0] U
       exact V.a5 ab 1 0 h i [1,2,0] U
      rintro⟨P,S,W,X,Y,Z,iO,kj,p3⟩ u h
      try dsimp only at h
      exact V.a5 ab 1 0 h u [0,1,2] U
     refine V.cI ab 5 0 h n_ [1] U λlV _ h=>?_;refine V.co ab 2 0 h U (λh=>?_) (λh=>?_)
     ·refine V.bI ab 3 0 h Wf [0,0,0] [] U λgz v h=>?_;exact V.a5 ab 2 0 h v [1,2,0] U
     refine V.cI ab 4 0 h oK [1] U λez _ h=>?_;refine V.cI ab 5 0 h wL [1] U λjG _ h=>?_;refine V.hX ab 26 0 h K0 [0] U (λ_ F j k=>F ⟨j,k⟩) λoJ h=>?_;refine V.co ab 11 0 h U (λh=>?_) (λh=>?_)
     ·cases h;exact V.rx ab 5 0 i [0,0,0] U
     refine V.bI ab 4 0 h (ahH n) [0,0,0] [] U λkN g h=>?_;refine V.co ab 16 1 h ⟨U,U,U,U⟩ (λh=>?_) (λh=>?_)
     ·cases h;exact V.rx ab 5 0 g [0,0,0] U
     refine V.bI ab 4 0 h n9 [0] [] U λdb _ h=>?_;refine V.cI ab 4 0 h oK [1] U λgW _ h=>?_;refine V.cI ab 6 0 h mZ [1] U λtY _ h=>?_;refine V.hX ab 2 0 h n_ [1] U (λ_=>id) λnK h=>?_;refine V.co ab 12 0 h U (λh=>?_) (λh=>?_)
     ·exact V.a5 ab 1 0 h g [1,2,0] U
     refine V.co ab 11 0 h U (λh=>?_) (λh=>?_)
     ·refine V.bI ab 7 1 h pv [0] [] ⟨U,U,U,U⟩ λir _ h=>?_;cases h;exact V.rx ab 6 0 g [0,0,0] U
     exact V.a5 ab 12 1 h g [1,2,0] ⟨U,U,U,U,U,U,U⟩
    rintro⟨pj,mU,pn,po,p6,ui,pk,qH,yk,r8⟩ w h
    try dsimp only at h
    exact V.el ab 0 0 h w [0,1,2] U
   exact V.a5 ab 1 0 h i [0,1,2] U
  rintro⟨x,DS,QK,s5,tZ,QL,QM,ym,Er,QN⟩ l h;refine V.e6 ab 0 0 h (ρ:=bt) (λs q=>[(9,.v (.int .i64 x))]) .nil (λs q=>gJ a s q) U ?_ ?_
  ·intro QO _ h;refine V.co ab 8 0 h U (λh=>?_) (λh=>?_)
   ·refine V.bI ab 2 0 h qF [2,0,0] [] U λuk y h=>?_;exact V.a5 ab 1 0 h y [1,2,0] U
   exact V.a5 ab 1 0 h l [0,1,2] U
  rintro⟨WH,Hh,HP,HQ,WI,WJ,HR,WK,WL⟩ m h;cases h;exact V.rx ab 5 0 m [2,0,0] U
def Lj(x0:aa)(i:Int->Option (Int×Int))(b:(Int×Int)->Option (Int×Int)):(Int×Int)->Option (Int×Int):=λ(c,a)=>
 (bif(decide (a<(x0.length:Int))) then(a9 (λ(j:Int)=>b (j,(W (a+1)))) λf=>(a8 (0<=a/\a<(x0.length:Int))<|(a9 (λ(d:UInt8)=>(bif(bif(bif(bif(bif(decide (((at' x0 a).toNat:Int)=(39:Int))) then true else(decide (((at' x0 a).toNat:Int)=(34:Int)))) then true else(decide (((at' x0 a).toNat:Int)=(92:Int)))) then true else(decide (((at' x0 a).toNat:Int)=(96:Int)))) then true else(bif(decide (((at' x0 a).toNat:Int)=(36:Int))) then(bif(decide ((d.toNat:Int)=(40:Int))) then true else(decide ((d.toNat:Int)=(123:Int)))) else false)) then some ((-2),a) else(a9 (λ(e:Int)=>(bif(bif(decide (((at' x0 a).toNat:Int)=(41:Int))) then(decide (0<e)) else false) then f (W (e-1)) else(bif(bif(decide (((at' x0 a).toNat:Int)=(41:Int))) then(decide ((W (a+1))=(x0.length:Int))) else false) then some ((-1),1) else(bif(bif(decide (((at' x0 a).toNat:Int)=(41:Int))) then(!(decide ((d.toNat:Int)=(41:Int)))) else false) then some ((-2),a) else(bif(decide (((at' x0 a).toNat:Int)=(41:Int))) then some ((W (a+2)),0) else f e))))) λg=>(bif(decide (((at' x0 a).toNat:Int)=(40:Int))) then g (W (c+1)) else g c)))) λh=>(bif(decide ((W (a+1))<(x0.length:Int))) then(a8 (0<=(W (a+1))/\(W (a+1))<(x0.length:Int))<|h (at' x0 (W (a+1)))) else h (0:UInt8))))) else i c)
def Ew(x0:aa)(a:Int):Option (Int×Int):=
 (av (zT a (x0.length:Int)) λ(b:Int)=>(a9 (λ(c:Int)=>some ((-1),(W (c+2)))) λd=>(fixF (Lj x0 d) bC (0,b))))
theorem ahO{x0:aa}{b:Int}{r:Int×Int}(h:Ew x0 b=some r):
  FC Tryz.prog 168 [.string (a7 x0),.int .i64 b] [] (λ_:Unit=>True) (λ_=> .tuple #[.int .i64 r.1,.int .i64 r.2]) (λ_=>[]):=
 by
  refine V.fE (T:=ck) Tryz.call168 Tryz.func168 U λ_=>?_;unfold Ew at h;refine V.cI ab 15 0 h KU [] U λi _ h=>?_;refine V.c8 ab 2 0 h (ρ:=Unit) (λs q=>[(6,.v (.int .i64 s))]) .nil (λs q=>[]) U ?_ ?_
  ·intro j _ h;refine V.e7 ab 0 0 h (ρ:=Unit) (λs q=>[(0,.v (.string (a7 x0))),(6,.v (.int .i64 s.1)),(7,.v (.int .i64 s.2))]) .nil (λs q=>[]) () [] U ?_;rintro c ⟨d,a⟩ _ h;rw[Lj] at h;refine V.co ab 8 0 h U (λh=>?_) (λh=>?_)
   ·refine V.c8 ab 2 0 h (ρ:=Unit) (λs q=>[(0,.v (.string (a7 x0))),(6,.v (.int .i64 s)),(7,.v (.int .i64 a))]) .nil (λs q=>[]) U ?_ ?_
    ·intro k _ h;obtain⟨e,h⟩:=bG h;refine V.e6 ab 11 0 h (ρ:=Unit) (λs q=>[(0,.v (.string (a7 x0))),(6,.v (.int .i64 d)),(7,.v (.int .i64 a)),(8,.v (.int .u8 ((at' x0 a).toNat:Int))),(9,.v (.int .u8 (s.toNat:Int)))]) .nil (λs q=>[]) ⟨e,U⟩ ?_ ?_
     ·intro l _ h;refine V.co ab 8 0 h U (λh=>?_) (λh=>?_)
      ·obtain⟨f,h⟩:=bG h;exact V.a5 ab 7 0 h () [] ⟨f,U⟩
      exact V.a5 ab 1 0 h () [] U
     rintro g _ h;refine V.co ab 30 0 h U (λh=>?_) (λh=>?_)
     ·cases h;exact V.rt ab 6 0 () [] U
     refine V.e6 ab 1 0 h (ρ:=Unit) (λs q=>[(0,.v (.string (a7 x0))),(6,.v (.int .i64 s)),(7,.v (.int .i64 a)),(8,.v (.int .u8 ((at' x0 a).toNat:Int))),(9,.v (.int .u8 (g.toNat:Int)))]) .nil (λs q=>[]) U ?_ ?_
     ·intro m _ h;refine V.co ab 5 0 h U (λh=>?_) (λh=>?_)
      ·exact V.a5 ab 5 0 h () [] U
      exact V.a5 ab 1 0 h () [] U
     rintro n _ h;refine V.co ab 10 0 h U (λh=>?_) (λh=>?_)
     ·exact V.a5 ab 7 0 h () [] U
     refine V.co ab 14 0 h U (λh=>?_) (λh=>?_)
     ·cases h;exact V.rt ab 5 0 () [] U
     refine V.co ab 11 0 h U (λh=>?_) (λh=>?_)
     ·cases h;exact V.rt ab 6 0 () [] U
     refine V.co ab 6 0 h U (λh=>?_) (λh=>?_)
     ·cases h;exact V.rt ab 7 0 () [] U
     exact V.a5 ab 2 0 h () [] U
    rintro o _ h
    try dsimp only at h
    exact V.el ab 5 0 h () [] U
   exact V.a5 ab 1 0 h () [] U
  rintro p _ h;cases h;exact V.rt ab 7 0 () [] U
def wS(R:bh)(m:ah->Option ah)(l:ah->Option ah):ah->Option ah:=λ(a,b,f,c,d,g,h,e,i)=>
 (bif(decide (d=0)) then(a9 (λ((n,o,p,q,r,s,t,u,v):ah)=>l (n,o,p,q,r,s,t,u,v)) λj=>(av (gq (a,b,f,c,d,g,h,e,i)) λ(w:Bool)=>(bif w then(av (g3 (a,b,f,c,d,g,h,e,i) ([])) λ(x:ah)=>j x) else(av (ia (a,b,f,c,d,g,h,e,i)) λ(y:UInt8)=>(bif(decide ((y.toNat:Int)=(125:Int))) then some (a,(W (b+1)),f,c,d,g,h,e,i) else(av (ia (a,b,f,c,d,g,h,e,i)) λ(z:UInt8)=>(bif(decide ((z.toNat:Int)=(92:Int))) then(av (wM (a,b,f,c,d,g,h,e,i)) λ(k:ah)=>j (k.1,k.2.1,k.2.2.1,c,k.2.2.2.2.1,k.2.2.2.2.2.1,k.2.2.2.2.2.2.1,e,k.2.2.2.2.2.2.2.2)) else(av (ia (a,b,f,c,d,g,h,e,i)) λ(A:UInt8)=>(bif(decide ((A.toNat:Int)=(39:Int))) then(av (BU a (W (b+1))) λ(B:Int)=>(av (r7 (a,b,f,c,d,g,h,e,i) B ([39]:aa) ([39]:aa)) λ(C:ah)=>j C)) else(av (ia (a,b,f,c,d,g,h,e,i)) λ(D:UInt8)=>(bif(decide ((D.toNat:Int)=(34:Int))) then(av (Ef R (a,b,f,c,d,g,h,e,i)) λ(E:ah)=>j E) else(av (ia (a,b,f,c,d,g,h,e,i)) λ(F:UInt8)=>(bif(decide ((F.toNat:Int)=(96:Int))) then(av (zX a (W (b+1))) λ(G:Int)=>(av (r7 (a,b,f,c,d,g,h,e,i) G ([96]:aa) ([96]:aa)) λ(H:ah)=>j H)) else(av (ia (a,b,f,c,d,g,h,e,i)) λ(I:UInt8)=>(bif(decide ((I.toNat:Int)=(36:Int))) then(av (R.u7 (a,b,f,c,d,g,h,e,i)) λ(J:ah)=>j J) else j (a,(W (b+1)),f,c,d,g,h,e,i)))))))))))))))) else m (a,b,f,c,d,g,h,e,i))
def Ll(R:bh)(x0:ah):Option ah:=
 (a9 (λ((a,b,c,d,e,f,g,h,i):ah)=>(av (gr (a,b,c,d,e,f,g,h,i) ([36,123]:aa) ([125]:aa)) λ(j:ah)=>some j)) λk=>(fixF (wS R k) bC (x0.1,(W (x0.2.1+2)),x0.2.2.1,x0.2.2.2.1,x0.2.2.2.2.1,x0.2.2.2.2.2.1,x0.2.2.2.2.2.2.1,x0.2.2.2.2.2.2.2.1,x0.2.2.2.2.2.2.2.2)))
theorem ahQ{R:bh}(n:hZ R){x0:ah}{a2:bL}{Q:bt}{r:ah}(h:Ll R x0=some r):
  gI Tryz.prog 169 [.pointer a2] [] (eR a2 x0 Q) (λ_:bt=>True) (λq=> .tuple #[]) (λq=>eR a2 r q):=
 by
  refine V.jm (T:=ck) Tryz.call169 Tryz.func169 U λ_ _=>?_;unfold Ll at h;refine V.c8 ab 13 0 h (ρ:=bt) (λs q=>[(0,.bj ⟨a2,1,1⟩ 0)]) .nil (λs q=>gJ a2 s q) ⟨U,U,U,U,U,U,U⟩ ?_ ?_
  ·intro F _ h;refine V.e7 ab 0 0 h (ρ:=bt) (λs q=>[(0,.bj ⟨a2,1,1⟩ 0)]) .nil (λs q=>gJ a2 s q) Q [1,2,0] U ?_;rintro o ⟨d,b,e,f,g,i,j,k,l⟩ a h;rw[wS] at h;refine V.go ab 3 0 U ?_;refine V.cl (aJ.iY 2 U λc=>V.cz ?_);refine V.co ab 6 2 h ⟨U,U,U,U⟩ (λh=>?_) (λh=>?_)
   ·refine V.c8 ab 2 0 h (ρ:=bt) (λs q=>[(0,.bj ⟨a2,1,1⟩ 0)]) .nil (λs q=>gJ a2 s q) U ?_ ?_
    ·intro G _ h;refine V.cI ab 3 0 h mZ [2] U λH _ h=>?_;refine V.co ab 2 0 h U (λh=>?_) (λh=>?_)
     ·refine V.bI ab 2 0 h pt [2,0,0] [] U λI p h=>?_;exact V.a5 ab 2 0 h p [1,2,0] U
     refine V.cI ab 3 0 h n_ [2] U λJ _ h=>?_;refine V.co ab 3 0 h U (λh=>?_) (λh=>?_)
     ·cases h;exact V.rx ab 11 2 a [0,0,0] ⟨U,U,U,U,U,U,U⟩
     refine V.cI ab 3 0 h n_ [2] U λK _ h=>?_;refine V.co ab 3 0 h U (λh=>?_) (λh=>?_)
     ·refine V.bI ab 2 0 h Qm [2] [] U λL _ h=>?_;exact V.a5 ab 2 0 h a [1,2,0] U
     refine V.cI ab 3 0 h n_ [2] U λM _ h=>?_;refine V.co ab 3 0 h U (λh=>?_) (λh=>?_)
     ·obtain⟨N,t,h⟩:=jP h;obtain⟨O,u,h⟩:=jP h;refine V.jT (aR.rQ U .nil [2] [10,11] trivial U (λv=>?_));refine bE.o9 ab gh 10 [0,5] U (by kernel_rfl) [] [(48,.bj ⟨a2,1,1⟩ 0),(53,.bj ⟨a2,1,1⟩ 0)] U (fD U) (bE.eE ab gh true 5 [1,2,3,6,7] U (by kernel_rfl) [] [(51,.bj ⟨a2,1,1⟩ 0),(55,.bj ⟨a2,1,1⟩ 1)] trivial [2] U U ⟨(c.fQ fR).1,c.fQ fR,(c.fQ fR).1,c.fQ fR,(fD U)⟩ (bE.kG ab gh 4 U (by kernel_rfl) U U U U U 0 U U 0 0 (d,b,e,(bA.v ⟨a.1,f.length,a.2.1⟩),g,i,j,(bA.v ⟨a.2.2.1,k.length,a.2.2.2⟩),l) ⟨U,U⟩ U U U trivial [2] U (bE.kG ab gh 8 U (by kernel_rfl) U U U U U 0 U U 0 1 (d,b,e,(bA.v ⟨a.1,f.length,a.2.1⟩),g,i,j,(bA.v ⟨a.2.2.1,k.length,a.2.2.2⟩),l) ⟨U,U⟩ U U U trivial [2] U (bE.eE ab gh true 2 [9] U (by kernel_rfl) [(W (b+1))] [(57,.v (.int .i64 (W (b+1))))] trivial [2] U U ⟨⟨trivial,U⟩,⟨U,trivial⟩⟩ (bE.one 10 (by kernel_rfl) (cK.call U U U U (Wl t) U [] U U λ_ _=>bE.nC U (bE.one 11 (by kernel_rfl) (cK.pW U U U U (Ee u) U [2,0,0] U [] U U ?_))))))));rintro w-;refine bE.nC U (bE.done (by kernel_rfl) (aR.boxes (B':= .nil) trivial (V.iA ?_)));exact V.a5 ab 1 0 h w [1,2,0] U
     refine V.cI ab 3 0 h n_ [2] U λP _ h=>?_;refine V.co ab 3 0 h U (λh=>?_) (λh=>?_)
     ·refine V.bI ab 2 0 h (Wk n) [2,0,0] [] U λS x h=>?_;exact V.a5 ab 2 0 h x [1,2,0] U
     refine V.cI ab 3 0 h n_ [2] U λX _ h=>?_;refine V.co ab 3 0 h U (λh=>?_) (λh=>?_)
     ·obtain⟨Y,y,h⟩:=jP h;obtain⟨Z,z,h⟩:=jP h;refine V.jT (aR.rQ U .nil [2] [10,11] trivial U (λA=>?_));refine bE.o9 ab gh 10 [0,5] U (by kernel_rfl) [] [(70,.bj ⟨a2,1,1⟩ 0),(75,.bj ⟨a2,1,1⟩ 0)] U (fD U) (bE.eE ab gh true 5 [1,2,3,6,7] U (by kernel_rfl) [] [(73,.bj ⟨a2,1,1⟩ 0),(77,.bj ⟨a2,1,1⟩ 1)] trivial [2] U U ⟨(c.fQ fR).1,c.fQ fR,(c.fQ fR).1,c.fQ fR,(fD U)⟩ (bE.kG ab gh 4 U (by kernel_rfl) U U U U U 0 U U 0 0 (d,b,e,(bA.v ⟨a.1,f.length,a.2.1⟩),g,i,j,(bA.v ⟨a.2.2.1,k.length,a.2.2.2⟩),l) ⟨U,U⟩ U U U trivial [2] U (bE.kG ab gh 8 U (by kernel_rfl) U U U U U 0 U U 0 1 (d,b,e,(bA.v ⟨a.1,f.length,a.2.1⟩),g,i,j,(bA.v ⟨a.2.2.1,k.length,a.2.2.2⟩),l) ⟨U,U⟩ U U U trivial [2] U (bE.eE ab gh true 2 [9] U (by kernel_rfl) [(W (b+1))] [(79,.v (.int .i64 (W (b+1))))] trivial [2] U U ⟨⟨trivial,U⟩,⟨U,trivial⟩⟩ (bE.one 10 (by kernel_rfl) (cK.call U U U U (Ql y) U [] U U λ_ _=>bE.nC U (bE.one 11 (by kernel_rfl) (cK.pW U U U U (Ee z) U [2,0,0] U [] U U ?_))))))));rintro B-;refine bE.nC U (bE.done (by kernel_rfl) (aR.boxes (B':= .nil) trivial (V.iA ?_)));exact V.a5 ab 1 0 h B [1,2,0] U
     refine V.cI ab 3 0 h n_ [2] U λjG _ h=>?_;refine V.co ab 3 0 h U (λh=>?_) (λh=>?_)
     ·refine V.bI ab 2 0 h n.u7 [2,0,0] [] U λoJ C h=>?_;exact V.a5 ab 2 0 h C [1,2,0] U
     exact V.a5 ab 11 2 h a [1,2,0] ⟨U,U,U,U,U,U,U⟩
    rintro⟨l8,vf,nc,rb,rX,vn,ug,zy,vt⟩ D h
    try dsimp only at h
    exact V.el ab 1 0 h D [0,1,2] U
   exact V.a5 ab 1 0 h a [0,1,2] U
  rintro⟨q_,Hl,Hv,z6,WM,WN,zI,HU,WO⟩ E h;refine V.bI ab 2 0 h qF [2,0,0] [] U λWQ m h=>?_;cases h;exact V.jD ab 1 0 m [0,0,0] U
def Ex(d:aa->Option ah)(a:(Int×aa)->Option ah):(Int×aa)->Option ah:=λ(c,b)=>
 (bif(decide (0<c)) then(a8 (((b.length+([41]:aa).length:Nat):Int)<=9223372036854775807)<|a ((W (c-1)),(b++([41]:aa)))) else d b)
def HX(R:bh)(x0:ah):Option ah:=
 (av (s4 x0 1) λ(f:UInt8)=>(cR ((decide ((f.toNat:Int)=(40:Int)))=true) (s4 x0 2) (0:UInt8) λ(k:UInt8)=>(bif(bif(decide ((f.toNat:Int)=(40:Int))) then(decide ((k.toNat:Int)=(40:Int))) else false) then(av (Ew x0.1 (W (x0.2.1+3))) λ(g,h)=>(bif(decide (g=(-2))) then(av (hg x0 h) λ(e:ah)=>some (e.1,e.2.1,e.2.2.1,x0.2.2.2.1,e.2.2.2.2.1,e.2.2.2.2.2.1,e.2.2.2.2.2.2.1,x0.2.2.2.2.2.2.2.1,e.2.2.2.2.2.2.2.2)) else(a9 (λ(l:aa)=>(av (r7 x0 g ([36,40,40]:aa) l) λ(m:ah)=>some m)) λn=>(fixF (Ex n) bC (h,[]))))) else(av (s4 x0 1) λ(o:UInt8)=>(bif(decide ((o.toNat:Int)=(40:Int))) then(a9 (λ((p,q,r,s,t,u,v,w,x):ah)=>some (p,q,r,s,t,u,v,w,x)) λi=>(av (yi x0 x0.2.1) λ(y,a)=>(bif y then(av (R.nE (a.1,(W (a.2.1+2)),a.2.2.1,x0.2.2.2.1,a.2.2.2.2.1,a.2.2.2.2.2.1,a.2.2.2.2.2.2.1,x0.2.2.2.2.2.2.2.1,a.2.2.2.2.2.2.2.2) ([41]:aa) ([]:bs) false) λ(L,z)=>(av (gr z ([36,40]:aa) ([41]:aa)) λ(c:ah)=>i (c.1,(W (c.2.1+1)),(W (c.2.2.1-1)),c.2.2.2.1,c.2.2.2.2.1,c.2.2.2.2.2.1,c.2.2.2.2.2.2.1,c.2.2.2.2.2.2.2.1,c.2.2.2.2.2.2.2.2))) else i (a.1,a.2.1,a.2.2.1,x0.2.2.2.1,a.2.2.2.2.1,a.2.2.2.2.2.1,a.2.2.2.2.2.2.1,x0.2.2.2.2.2.2.2.1,a.2.2.2.2.2.2.2.2)))) else(av (s4 x0 1) λ(A:UInt8)=>(bif(decide ((A.toNat:Int)=(123:Int))) then(a9 (λ((B,C,D,E,F,G,H,I,J):ah)=>some (B,C,D,E,F,G,H,I,J)) λj=>(av (yi x0 x0.2.1) λ(K,b)=>(bif K then(av (Ll R (b.1,b.2.1,b.2.2.1,x0.2.2.2.1,b.2.2.2.2.1,b.2.2.2.2.2.1,b.2.2.2.2.2.2.1,x0.2.2.2.2.2.2.2.1,b.2.2.2.2.2.2.2.2)) λ(d:ah)=>j (d.1,d.2.1,(W (d.2.2.1-1)),d.2.2.2.1,d.2.2.2.2.1,d.2.2.2.2.2.1,d.2.2.2.2.2.2.1,d.2.2.2.2.2.2.2.1,d.2.2.2.2.2.2.2.2)) else j (b.1,b.2.1,b.2.2.1,x0.2.2.2.1,b.2.2.2.2.1,b.2.2.2.2.2.1,b.2.2.2.2.2.2.1,x0.2.2.2.2.2.2.2.1,b.2.2.2.2.2.2.2.2)))) else some (x0.1,(W (x0.2.1+1)),x0.2.2.1,x0.2.2.2.1,x0.2.2.2.2.1,x0.2.2.2.2.2.1,x0.2.2.2.2.2.2.1,x0.2.2.2.2.2.2.2.1,x0.2.2.2.2.2.2.2.2))))))))
theorem ahT{R:bh}(d:hZ R){x0:ah}{a2:bL}{Q:bt}{r:ah}(h:HX R x0=some r):
  gI Tryz.prog 158 [.pointer a2] [] (eR a2 x0 Q) (λ_:bt=>True) (λq=> .tuple #[]) (λq=>eR a2 r q):=
 by
  refine V.jm (T:=ck) Tryz.call158 Tryz.func158 U λ_ _=>?_;unfold HX at h;refine V.cI ab 4 0 h Ed [0] U λl _ h=>?_;refine V.hX ab 3 0 h Ed [0] U (λ_=>id) λm h=>?_;refine V.co ab 3 0 h U (λh=>?_) (λh=>?_)
  ·refine V.jl ab 1 0 U (by kernel_rfl) ?_;refine V.go ab 9 0 ⟨U,U,U,U,U,U,U⟩ ?_;obtain⟨⟨e,n⟩,a,h⟩:=jP h;refine V.toQ (kX.call U U U U (ahO a) U [] U U (V.sU ?_));refine V.co ab 12 0 h U (λh=>?_) (λh=>?_)
   ·refine V.bI ab 4 0 h pv [0] [] U λo _ h=>?_;cases h;exact V.rx ab 1 0 Q [0,0,0] U
   refine V.c8 ab 6 0 h (ρ:=Unit) (λs q=>[(0,.bj ⟨a2,1,1⟩ 0),(2,.v (.int .i64 e)),(4,.v (.string (a7 s)))]) .nil (λs q=>eR a2 x0 Q) U ?_ ?_
   ·intro p _ h;refine V.e7 ab 0 0 h (ρ:=Unit) (λs q=>[(0,.bj ⟨a2,1,1⟩ 0),(2,.v (.int .i64 e)),(3,.v (.int .i64 s.1)),(4,.v (.string (a7 s.2)))]) .nil (λs q=>eR a2 x0 Q) () [0,1,2] U ?_;rintro f ⟨t,u⟩ _ h;rw[Ex] at h;refine V.co ab 6 0 h U (λh=>?_) (λh=>?_)
    ·obtain⟨g,h⟩:=bG h;exact V.el ab 14 0 h () [0,1,2] ⟨g,U⟩
    exact V.a5 ab 1 0 h () [0,1,2] U
   rintro v _ h;refine V.bI ab 5 0 h Ee [0,0,0] [] U λw i h=>?_;cases h;exact V.rx ab 1 0 i [0,0,0] U
  refine V.cI ab 5 0 h Ed [0] U λx _ h=>?_;refine V.co ab 2 0 h U (λh=>?_) (λh=>?_)
  ·refine V.e6 ab 0 0 h (ρ:=bt) (λs q=>[]) .nil (λs q=>gJ a2 s q) U ?_ ?_
   ·intro y _ h;refine V.bI ab 7 0 h Qx [0] [] ⟨U,U,U,U⟩ ?_;rintro⟨z,A⟩ _ h;refine V.co ab 1 0 h U (λh=>?_) (λh=>?_)
    ·refine V.go ab 15 0 ⟨U,U,U,U,U,U,U⟩ ?_;refine V.cl (aJ.JP .str bA.nil U U (V.cz ?_));refine V.bI ab 0 0 h d.nE [0,0,0] [0] U ?_;rintro⟨B,C⟩ D h;refine V.bI ab 4 0 h qF [0,0,0] [] U λE b h=>?_;exact V.zr ab 22 1 h b [1,2,0] [] ⟨U,U,U,U,U,U,U,U,U,U,U,U,U⟩
    exact V.a5 ab 1 0 h Q [1,2,0] U
   rintro⟨F,G,H,I,J,K,L,M,N⟩ j h;cases h;exact V.rx ab 0 0 j [2,0,0] U
  refine V.cI ab 5 0 h Ed [0] U λO _ h=>?_;refine V.co ab 2 0 h U (λh=>?_) (λh=>?_)
  ·refine V.e6 ab 0 0 h (ρ:=bt) (λs q=>[]) .nil (λs q=>gJ a2 s q) U ?_ ?_
   ·intro P _ h;refine V.bI ab 7 0 h Qx [0] [] ⟨U,U,U,U⟩ ?_;rintro⟨S,W⟩ _ h;refine V.co ab 1 0 h U (λh=>?_) (λh=>?_)
    ·refine V.bI ab 3 0 h (ahQ d) [0,0,0] [] U λX k h=>?_;exact V.a5 ab 11 0 h k [1,2,0] ⟨U,U,U,U,U,U,U⟩
    exact V.a5 ab 1 0 h Q [1,2,0] U
   rintro⟨Y,Z,pk,qH,oD,r8,vp,qE,rj⟩ c h;cases h;exact V.rx ab 0 0 c [2,0,0] U
  cases h;exact V.jD ab 11 0 Q [0,0,0] ⟨U,U,U,U,U,U,U⟩
def yq(x0:aa×Int×Int):Option (Int×aa×Int×Int):=
 (a9 (λ((b,c):Int×Int)=>some (b,(x0.1,c,(W ((W (x0.2.2*6364136223846793005))+1442695040888963407))))) λa=>(bif(decide (x0.2.1<(x0.1.length:Int))) then(a8 (0<=x0.2.1/\x0.2.1<(x0.1.length:Int))<|a ((W (((BitVec.ofInt (IntKind.bits .i64) (W ((W (((BitVec.ofInt (IntKind.bits .i64) (W (((BitVec.ofInt (IntKind.bits .i64) (Int.fdiv (W ((W (x0.2.2*6364136223846793005))+1442695040888963407)) (2^(min (Int.toNat 33) (IntKind.bits .i64))))^^^BitVec.ofInt (IntKind.bits .i64) (Int.fdiv (W ((W (x0.2.2*6364136223846793005))+1442695040888963407)) (2^(min (Int.toNat 45) (IntKind.bits .i64))))).toNat:Int)))&&&BitVec.ofInt (IntKind.bits .i64) 255).toNat:Int)))+((at' x0.1 x0.2.1).toNat:Int)))&&&BitVec.ofInt (IntKind.bits .i64) 255).toNat:Int))),(W (x0.2.1+1)))) else a ((W (((BitVec.ofInt (IntKind.bits .i64) (W (((BitVec.ofInt (IntKind.bits .i64) (Int.fdiv (W ((W (x0.2.2*6364136223846793005))+1442695040888963407)) (2^(min (Int.toNat 33) (IntKind.bits .i64))))^^^BitVec.ofInt (IntKind.bits .i64) (Int.fdiv (W ((W (x0.2.2*6364136223846793005))+1442695040888963407)) (2^(min (Int.toNat 45) (IntKind.bits .i64))))).toNat:Int)))&&&BitVec.ofInt (IntKind.bits .i64) 255).toNat:Int))),x0.2.1)))
end
end Go.Eng
