/- Part 2 of what FnWrap needs. No condition. -/
import Derived.Test.YthnjiffnjaaejaaGreatDoorFnWrapA
set_option linter.all false
namespace Go.Eng
open Go Go.Proofs
noncomputable section
structure h3(R:bg):Prop where
 kl:∀{x0:an}{al:Int}{bd:Bool}{bO:bK}{Q:bu}{r:bn an (Int×an)}(h:R.kl x0 al bd=some r),
  je Tryz.prog 30 [.pointer bO,.int .i64 al,.bool bd] [] (ed bO x0 Q) (λr (q:bu)=>jw 39 r λr=> .int .i64 r.1) (λr q=>ed bO (ma r) q) r
 xW:∀{x0:an}{al:UInt8}{bd:Bool}{bO:bK}{Q:bu}{r:bn an an}(h:R.xW x0 al bd=some r),
  je Tryz.prog 163 [.pointer bO,.int .u8 (al.toNat:Int),.bool bd] [] (ed bO x0 Q) (λr (q:bu)=>jw 39 r λr=> .tuple #[]) (λr q=>ed bO (jV r) q) r
 nI:∀{x0:ah}{al:aa}{bd:bt}{cj:Bool}{eY:bK}{Q:bu}{vf:bK}{xX:Nat}{r:Int×ah}(h:R.nI x0 al bd cj=some r),
  gN Tryz.prog 32 [.pointer eY,.string (a9 al),.slice vf bd.length xX,.bool cj] [h2 vf bd xX] (eR eY x0 Q) (λ_:bu=>True) (λq=> .int .i64 r.1) (λq=>eR eY r.2 q)
 ve:∀{x0:ah}{a2:bK}{Q:bu}{r:ah}(h:R.ve x0=some r),
  gN Tryz.prog 158 [.pointer a2] [] (eR a2 x0 Q) (λ_:bu=>True) (λq=> .tuple #[]) (λq=>eR a2 r q)
 hp:∀{x0:aa×Int×Int}{al:Int}{bd:aa}{bO:bK}{eY:bK}{nK:Nat}{r:aa×aa×Int×Int}(h:R.hp x0 al bd=some r),
  gN Tryz.prog 26 [.pointer bO,.int .i64 al,.string (a9 bd)] [lR eY x0.1 nK] [lA bO x0 eY nK] (λ_:Unit=>True) (λ_=> .string (a9 r.1)) (λ_=>[lA bO (x0.1,r.2.2) eY nK])
 nJ:∀{x0:aa×Int×Int}{al:Int}{a3:bK}{bO:bK}{hP:Nat}{r:aa×aa×Int×Int}(h:R.nJ x0 al=some r),
  gN Tryz.prog 54 [.pointer a3,.int .i64 al] [lR bO x0.1 hP] [lA a3 x0 bO hP] (λ_:Unit=>True) (λ_=> .string (a9 r.1)) (λ_=>[lA a3 (x0.1,r.2.2) bO hP])
def rj(x0:an):Option (bn an Empty):=
 some (.inl (1,(x0.1.length:Int),x0))
theorem DG{x0:an}{a2:bK}{Q:bu}{r:bn an Empty}(h:rj x0=some r):
  je Tryz.prog 63 [.pointer a2] [] [jf a2 x0 Q] (λr (_:Unit)=>jw 39 r λr=> .tuple #[]) (λr _=>[jf a2 ((s4 r).1,(s4 r).2.1,x0.2.2.1,(s4 r).2.2.2.1,x0.2.2.2.2.1,(s4 r).2.2.2.2.2) Q]) r:=
 by refine V.jX (T:=ck) Tryz.call63 Tryz.func63 U λ_ _=>?_;unfold rj at h;refine V.go ab 7 0 ⟨U,U,U,U⟩ ?_;refine V.cl (aI.Vw ab U U U U U U U U (V.cz ?_));cases h;exact V.cl (aI.panic U U U (λa h w=>Vx U a h w) () trivial U [0] U)
def GP(x0:an)(b:Int->Option (bn an an))(c:Int->Option (bn an an)):Int->Option (bn an an):=λa=>
 (aZ (((decide (a<(x0.1.length:Int)))=true)->0<=a/\a<(x0.1.length:Int))<|(bif(bif(decide (a<(x0.1.length:Int))) then(!(decide (((at' x0.1 a).toNat:Int)=(10:Int)))) else false) then c (W (a+1)) else b a))
def GQ(x0:an)(d:Int->Option (bn an an))(b:Int->Option (bn an an)):Int->Option (bn an an):=λa=>
 (bif(decide (a<(x0.1.length:Int))) then(a8 (λ(e:Int)=>b e) λf=>(aZ (0<=a/\a<(x0.1.length:Int))<|(a8 (λ(g:Int)=>f g) λc=>(bif(bif(decide (((at' x0.1 a).toNat:Int)=(32:Int))) then true else(decide (((at' x0.1 a).toNat:Int)=(9:Int)))) then c (W (a+1)) else(aZ (((bif(decide (((at' x0.1 a).toNat:Int)=(92:Int))) then(decide ((W (a+1))<(x0.1.length:Int))) else false)=true)->0<=(W (a+1))/\(W (a+1))<(x0.1.length:Int))<|(bif(bif(bif(decide (((at' x0.1 a).toNat:Int)=(92:Int))) then(decide ((W (a+1))<(x0.1.length:Int))) else false) then(decide (((at' x0.1 (W (a+1))).toNat:Int)=(10:Int))) else false) then(bif(decide ((W (a+2))=(x0.1.length:Int))) then a_ (rj (x0.1,(W (a+2)),x0.2.2.1,x0.2.2.2.1,x0.2.2.2.2.1,x0.2.2.2.2.2)) (λx=>x) λy=>Empty.elim y else c (W (a+2))) else(bif(decide (((at' x0.1 a).toNat:Int)=(35:Int))) then(a8 (λ(h:Int)=>c h) λi=>(fixF (GP x0 i) bC a)) else some (.inr (x0.1,a,x0.2.2.1,x0.2.2.2.1,x0.2.2.2.2.1,x0.2.2.2.2.2))))))))) else d a)
def Kv(x0:an):Option (bn an an):=
 (a8 (λ(a:Int)=>some (.inr (x0.1,a,x0.2.2.1,x0.2.2.2.1,x0.2.2.2.2.1,x0.2.2.2.2.2))) λb=>(fixF (GQ x0 b) bC x0.2.1))
theorem aeF{x0:an}{a2:bK}{Q:bu}{r:bn an an}(h:Kv x0=some r):
  je Tryz.prog 60 [.pointer a2] [] [jf a2 x0 Q] (λr (_:Unit)=>jw 39 r λr=> .tuple #[]) (λr _=>[jf a2 ((jV r).1,(jV r).2.1,x0.2.2.1,(jV r).2.2.2.1,x0.2.2.2.2.1,(jV r).2.2.2.2.2) Q]) r:=
 by
  refine V.jX (T:=ck) Tryz.call60 Tryz.func60 U λ_ _=>?_;unfold Kv at h;refine V.db ab 0 0 h (ρ:=Unit) (λs q=>[]) .nil (λs q=>[jf a2 (x0.1,s,x0.2.2) Q]) U ?_ ?_
  ·intro f _ h;refine V.e8 ab 0 0 h (ρ:=Unit) (λs q=>[(0,.bj ⟨a2,1,1⟩ 0)]) .nil (λs q=>[jf a2 (x0.1,s,x0.2.2) Q]) () [0] U ?_;rintro a g _ h;rw[GQ] at h;refine V.jH ab 2 0 U (by kernel_rfl) ?_;refine V.co ab 11 0 h ⟨U,U,U,U,U,U,U⟩ (λh=>?_) (λh=>?_)
   ·refine V.db ab 1 0 h (ρ:=Unit) (λs q=>[(0,.bj ⟨a2,1,1⟩ 0)]) .nil (λs q=>[jf a2 (x0.1,s,x0.2.2) Q]) U ?_ ?_
    ·intro i _ h;obtain⟨b,h⟩:=bB h;refine V.jH ab 1 0 U (by kernel_rfl) ?_;refine V.db ab 11 0 h (ρ:=Unit) (λs q=>[(0,.bj ⟨a2,1,1⟩ 0)]) .nil (λs q=>[jf a2 (x0.1,s,x0.2.2) Q]) ⟨U,U,U,U,U,U,b,U⟩ ?_ ?_
     ·intro j _ h;refine V.co ab 10 0 h U (λh=>?_) (λh=>?_)
      ·exact V.a6 ab 11 0 h () [0] ⟨U,U,U,U,U,U,U⟩
      obtain⟨c,h⟩:=bB h;refine V.jH ab 1 0 U (by kernel_rfl) ?_;refine V.co ab 30 0 h ⟨U,U,U,U,U,U,U,U,U,U,U,U,c,U⟩ (λh=>?_) (λh=>?_)
      ·refine V.jH ab 12 0 ⟨U,U,U,U,U,U,U⟩ (by kernel_rfl) ?_;refine V.co ab 11 0 h ⟨U,U,U,U,U,U,U⟩ (λh=>?_) (λh=>?_)
       ·refine V.cp ab 2 0 h DG [0] [] (λ_=>()) [0] U a5 a5 λy _ _=>y.elim
       exact V.a6 ab 2 0 h () [0] U
      refine V.co ab 6 0 h U (λh=>?_) (λh=>?_)
      ·refine V.db ab 0 0 h (ρ:=Unit) (λs q=>[(0,.bj ⟨a2,1,1⟩ 0)]) .nil (λs q=>[jf a2 (x0.1,s,x0.2.2) Q]) U ?_ ?_
       ·intro k _ h;refine V.e8 ab 0 0 h (ρ:=Unit) (λs q=>[(0,.bj ⟨a2,1,1⟩ 0)]) .nil (λs q=>[jf a2 (x0.1,s,x0.2.2) Q]) () [0] U ?_;rintro d l _ h;rw[GP] at h;obtain⟨e,h⟩:=bB h;refine V.jH ab 2 0 U (by kernel_rfl) ?_;refine V.co ab 23 0 h ⟨U,U,U,U,U,U,U,U,U,U,U,U,e,U⟩ (λh=>?_) (λh=>?_)
        ·exact V.el ab 13 0 h () [0] ⟨U,U,U,U,U,U,U⟩
        exact V.a6 ab 1 0 h () [0] U
       rintro m _ h
       try dsimp only at h
       exact V.a6 ab 1 0 h () [0] U
      cases h;exact V.jU ab 0 0 () [0] U
     rintro n _ h
     try dsimp only at h
     exact V.a6 ab 1 0 h () [0] U
    rintro o _ h
    try dsimp only at h
    exact V.el ab 0 0 h () [0] U
   exact V.a6 ab 1 0 h () [0] U
  rintro p _ h;cases h;exact V.oA ab 0 0 () [0] U
def O8(x0:aa):Option Int:=
 none
theorem aeH{x0:aa}{r:Int}(h:O8 x0=some r):
  FC Tryz.prog 144 [.string (a9 x0)] [] (λ_:Unit=>True) (λ_=> .int .i64 r) (λ_=>[]):=
 by refine V.fI (T:=ck) Tryz.call144 Tryz.func144 U λ_=>?_;unfold O8 at h;cases h
def O9(x0:aa):Option (Int×Int):=
 (bif(decide ((x0.length:Int)<1)) then some (65533,0) else(aZ (0<=(0:Int)/\0<(x0.length:Int))<|none))
theorem aeI{x0:aa}{r:Int×Int}(h:O9 x0=some r):
  FC Tryz.prog 134 [.string (a9 x0)] [] (λ_:Unit=>True) (λ_=> .tuple #[.int .i32 r.1,.int .i64 r.2]) (λ_=>[]):=
 by
  refine V.fI (T:=ck) Tryz.call134 Tryz.func134 U λ_=>?_;unfold O9 at h;refine V.co ab 17 0 h U (λh=>?_) (λh=>?_)
  ·cases h;exact V.rt ab 5 0 () [] U
  obtain⟨a,h⟩:=bB h;cases h
def O_(x0:aa):Option (Int×Int):=
 (aZ (((!(decide (x0=[])))=true)->0<=(0:Int)/\0<(x0.length:Int))<|(bif(bif(!(decide (x0=[]))) then(decide (((at' x0 0).toNat:Int)<(128:Int))) else false) then(aZ (0<=(0:Int)/\0<(x0.length:Int))<|some ((IntKind.i32.wrap (((at' x0 0).toNat:Int))),1)) else(au (O9 x0) λ(a,b)=>some (a,b))))
theorem aeJ{x0:aa}{r:Int×Int}(h:O_ x0=some r):
  FC Tryz.prog 104 [.string (a9 x0)] [] (λ_:Unit=>True) (λ_=> .tuple #[.int .i32 r.1,.int .i64 r.2]) (λ_=>[]):=
 by
  refine V.fI (T:=ck) Tryz.call104 Tryz.func104 U λ_=>?_;unfold O_ at h;obtain⟨a,h⟩:=bB h;refine V.co ab 16 0 h ⟨a,U⟩ (λh=>?_) (λh=>?_)
  ·obtain⟨b,h⟩:=bB h;cases h;exact V.rt ab 8 0 () [] ⟨b,U⟩
  refine V.cM ab 2 0 h aeI [] U ?_;rintro⟨c,d⟩ _ h;cases h;exact V.rt ab 6 0 () [] U
def Pa(e:Int)(f:(aa×bt)->Option bt)(g:(aa×bt×Int)->Option bt):(aa×bt×Int)->Option bt:=λ(a,d,c)=>
 (bif(decide (c<(W (e-1)))) then(au (O_ a) λ(h,b)=>(aZ (0<=(0:Int)/\(0:Int)<=b/\b<=(a.length:Int))<|(aZ (0<=c/\c<(d.length:Int))<|(aZ (0<=b/\b<=(a.length:Int)/\(a.length:Int)<=(a.length:Int))<|g ((cg a b (a.length:Int)),(List.set d (Int.toNat c) (cg a 0 b)),(W (c+1))))))) else f (a,d))
def Pc(x0:aa)(b:Int):Option bt:=
 (au (O8 x0) λ(d:Int)=>(a8 (λ(a:Int)=>(aZ (0<=a/\a<=536870912)<|(a8 (λ((g,c):aa×bt)=>(a8 (λ(h:bt)=>some h) λe=>(bif(decide (0<a)) then(aZ (0<=(W (a-1))/\(W (a-1))<(c.length:Int))<|e (List.set c (Int.toNat (W (a-1))) g)) else e c))) λi=>(fixF (Pa a i) bC (x0,(List.replicate (Int.toNat a) []),0))))) λf=>(bif(bif(decide (b<0)) then true else(decide (d<b))) then f d else f b)))
theorem aeK{x0:aa}{e:Int}{r:bt}(h:Pc x0 e=some r):
  FC Tryz.prog 123 [.string (a9 x0),.int .i64 e] [] (λ_:bK×Nat=>True) (λq=> .slice q.1 r.length q.2) (λq=>[h2 q.1 r q.2]):=
 by
  refine FC.of (T:=ck) Tryz.call123 Tryz.func123 U U λw0=>?_;unfold Pc at h;refine aT.s3 ab 1 [] ⟨trivial,U⟩ U U (aT.seq (aT.region (aI.eD ab 1 [] [] [(10,.v (.string (a9 x0)))] _ U ⟨⟨U,trivial⟩,U⟩ ?_)));obtain⟨f,G,h⟩:=jS h;refine aI.call U U U U (aeH G) U [] U U λ_ _=>aI.eD ab 1 [] [] [(5,.v (.int .i64 f))] _ U ⟨⟨U,trivial⟩,U⟩ (aI.done U ?_);obtain⟨H,j,h⟩:=GF h;refine aT.J6 (ι:=Int) ⟨λz=>H z=some r,λz=>[(0,.v (.string (a9 x0))),(1,.v (.int .i64 z))],λz=> .nil,λz=>[],λz=>[],λz=>0⟩ ?_ ?_
  ·refine aT.s3 ab 7 [(18,.v (.bool (bif(decide (e<0)) then true else(decide (f<e)))))] ⟨⟨U,trivial⟩,U⟩ U U ?_;refine aT.cond U (λk=>?_) (λk=>?_)
   ·have h:=xR h k;refine aT.aec ab 2 [(1,.v (.int .i64 f))] ⟨⟨U,trivial⟩,U⟩ U U (aT.wx f h (fE U) trivial [] U [] U)
   have h:=xS h k;refine aT.skip (aT.wx e h (fE U) trivial [] U [] U)
  rintro a h;subst j;refine aT.seq (aT.region (aI.eD ab 1 [] [] [(20,.v (.int .i64 a))] _ U ⟨⟨U,trivial⟩,U⟩ ?_));obtain⟨I,h⟩:=bB h;refine aI.makeSlice ab U U U U U U U U (Int.toNat a) (Int.toNat_of_nonneg I.1).symm (by omega) .str U U U U U λy=>aI.eD ab 1 [] [] [(6,.v (.slice y (Int.toNat a) (Int.toNat a)))] _ U ⟨⟨U,trivial⟩,U⟩ (aI.done U (aT.seq (aT.s3 ab 1 [(7,.v (.int .i64 0))] ⟨⟨U,trivial⟩,U⟩ U U ?_)));obtain⟨A,l,h⟩:=GF h;refine aT.OC (ι:=aa×bt×bK×Nat) ⟨λz=>A (z.1,z.2.1)=some r,λz=>[(0,.v (.string (a9 z.1))),(1,.v (.int .i64 a)),(6,.v (.slice z.2.2.1 z.2.1.length z.2.2.2))],λz=> .nil,λz=>[],λz=>[h2 z.2.2.1 z.2.1 z.2.2.2],λz=>0⟩ ?_ ?_
  ·refine aT.loop (ι:=Nat×aa×bt×Int×bK×Nat) ⟨λz=>fixF (Pa a A) z.1 (z.2.1,z.2.2.1,z.2.2.2.1)=some r,λz=>[(0,.v (.string (a9 z.2.1))),(1,.v (.int .i64 a)),(6,.v (.slice z.2.2.2.2.1 z.2.2.1.length z.2.2.2.2.2)),(7,.v (.int .i64 z.2.2.2.1))],λz=> .nil,λz=>[],λz=>[h2 z.2.2.2.2.1 z.2.2.1 z.2.2.2.2.2],λz=>z.1⟩ (bC,x0,(List.replicate (Int.toNat a) []),0,y,(Int.toNat a)) h ⟨U,U,(by simp only[uW,sN,eJ,fq,h2];rfl),U,trivial⟩ trivial [] U [0] (by simp only[uW,sN,eJ,fq,h2];rfl) ?_;rintro⟨B,b,g,c,m,n⟩ h;obtain⟨B,rfl,h⟩:=OM h;rw[Pa] at h;refine aT.seq (aT.rg ab 4 [(W (a-1))] [] [(25,.v (.bool (decide (c<(W (a-1))))))] _ ⟨⟨trivial,U⟩,⟨U,trivial⟩,U⟩ U U ?_);refine aT.cond U (λo=>?_) (λo=>?_)
   ·have h:=xR h o;refine aT.skip (aT.seq (aT.block (aT.seq (aT.region (aI.eD ab 1 [] [] [(29,.v (.string (a9 b)))] _ U ⟨⟨U,trivial⟩,U⟩ ?_)))));obtain⟨⟨O,d⟩,J,h⟩:=jS h;refine aI.call U U U U (aeJ J) U [] U U λ_ _=>aI.eD ab 5 [] [] [(9,.v (.int .i64 d))] _ U ⟨⟨U,trivial⟩,U⟩ (aI.done U (aT.seq (aT.region ?_)));obtain⟨K,h⟩:=bB h;refine aI.jd 0 U λp=>?_;obtain⟨C,h⟩:=bB h;refine aI.eD ab 6 [] [] [(37,.v (.string (a9 (cg b 0 d)))),(38,.bj ⟨m,g.length,n⟩ (Int.toNat c*1))] _ U ⟨K,p.ix C,(fE U),U⟩ (aI.qE ab U U U U U U U U U [0] (fs:=[]) U (Int.toNat c) 0 (at' g c) (cg b 0 d) ⟨mU C,U⟩ ⟨U,U,U⟩ (aI.done U (aT.region ?_)));obtain⟨L,h⟩:=bB h;refine aI.eD ab 4 [] [] [(0,.v (.string (a9 (cg b d (b.length:Int)))))] _ U ⟨L,⟨U,trivial⟩,U⟩ (aI.done U (aT.df (aT.jU ab 3 [(W (c+1))] [] [(7,.v (.int .i64 (W (c+1))))] _ ⟨⟨trivial,U⟩,⟨U,trivial⟩,U⟩ U U (aT.Om (B,(cg b d (b.length:Int)),(List.set g (Int.toNat c) (cg b 0 d)),(W (c+1)),m,n) h (xD _) ⟨U,U,(by simp only[uW,sN,eJ,fq,h2];rfl),U,trivial⟩ trivial [] U [0] (by simp only[uW,sN,eJ,fq,h2];rfl)))))
   have h:=xS h o;refine aT.exit U (aT.wx (b,g,m,n) h (fE U) trivial [] U [0] U)
  rintro⟨s,i,t,u⟩ h;subst l;obtain⟨M,v,h⟩:=GF h;refine aT.J6 (ι:=bt×bK×Nat) ⟨λz=>M z.1=some r,λz=>[(6,.v (.slice z.2.1 z.1.length z.2.2))],λz=> .nil,λz=>[],λz=>[h2 z.2.1 z.1 z.2.2],λz=>0⟩ ?_ ?_
  ·refine aT.s3 ab 2 [(43,.v (.bool (decide (0<a))))] ⟨⟨U,trivial⟩,U⟩ U U ?_;refine aT.cond U (λw=>?_) (λw=>?_)
   ·have h:=xR h w;refine aT.region (aI.jd 0 U λx=>?_);obtain⟨D,h⟩:=bB h;refine aI.eD ab 5 [(W (a-1))] [] [(47,.v (.string (a9 s))),(48,.bj ⟨t,i.length,u⟩ (Int.toNat (W (a-1)) *1))] _ U ⟨⟨trivial,U⟩,x.ix D,(fE U),U⟩ (aI.qE ab U U U U U U U U U [0] (fs:=[]) U (Int.toNat (W (a-1))) 0 (at' i (W (a-1))) s ⟨mU D,U⟩ ⟨U,U,U⟩ (aI.done U (aT.wx ((List.set i (Int.toNat (W (a-1))) s),t,u) h ⟨(by simp only[uW,sN,eJ,fq,h2];rfl),trivial⟩ trivial [] U [0] (by simp only[uW,sN,eJ,fq,h2];rfl))))
   have h:=xS h w;refine aT.skip (aT.wx (i,t,u) h ⟨U,trivial⟩ trivial [] U [0] U)
  rintro⟨N,E,F⟩ h;subst v;refine aT.s3 ab 2 [(4,.v (.slice E N.length F))] ⟨⟨U,trivial⟩,U⟩ U U ?_;cases h;exact aT.ret ab (E,F) trivial U U [0] U
def Pl(x0:aa)(a:aa):Option Int:=match a with
 |[c]=>some (Lib.indexByte x0 c)
 |_=>none
theorem aeQ{x0:aa}{a:aa}{r:Int}(h:Pl x0 a=some r):pT Tryz.prog 125 [.string (a9 x0),.string (a9 a)] [] (.int .i64 r):=by
 match a,h with
 |[c],h=>cases h;refine pT.GG Tryz.call125 λw=>?_;exact Tryz.strings_Index_one (a9 x0) c w
 |[],h=>cases h
 |_::_::_,h=>cases h
def Pm(x0:aa)(a:aa):Option Int:=match a with
 |[c]=>some (Lib.countByte x0 c:Int)
 |_=>none
theorem aeR{x0:aa}{a:aa}{r:Int}(h:Pm x0 a=some r):pT Tryz.prog 124 [.string (a9 x0),.string (a9 a)] [] (.int .i64 r):=by
 match a,h with
 |[c],h=>cases h;refine pT.GG Tryz.call124 λw=>?_;exact Tryz.strings_Count_one (a9 x0) c w
 |[],h=>cases h
 |_::_::_,h=>cases h
def GS(x0:aa)(d:aa)(f:Int)(h:Int)(g:(aa×bt×Int)->Option bt)(i:(aa×bt×Int)->Option bt):(aa×bt×Int)->Option bt:=λ(a,e,b)=>
 (bif(decide (b<(W ((min h (W ((x0.length:Int)+1)))-1)))) then(au (Pl a d) λ(c:Int)=>(bif(decide (c<0)) then g (a,e,b) else(aZ (0<=(0:Int)/\(0:Int)<=(W (c+f))/\(W (c+f))<=(a.length:Int))<|(aZ (0<=b/\b<(e.length:Int))<|(aZ (0<=(W (c+(d.length:Int)))/\(W (c+(d.length:Int)))<=(a.length:Int)/\(a.length:Int)<=(a.length:Int))<|i ((cg a (W (c+(d.length:Int))) (a.length:Int)),(List.set e (Int.toNat b) (cg a 0 (W (c+f)))),(W (b+1)))))))) else g (a,e,b))
def GU(x0:aa)(d:aa)(h:Int)(b:Int):Option bt:=
 (bif(decide (b=0)) then some ([]) else(bif(decide (d=[])) then(au (Pc x0 b) λ(i:bt)=>some i) else(a8 (λ(c:Int)=>(aZ (0<=(min c (W ((x0.length:Int)+1)))/\(min c (W ((x0.length:Int)+1)))<=536870912)<|(a8 (λ((f,e,a):aa×bt×Int)=>(aZ (0<=a/\a<(e.length:Int))<|(aZ (0<=(0:Int)/\(0:Int)<=(W (a+1))/\(W (a+1))<=((List.set e (Int.toNat a) f).length:Int))<|some (cg (List.set e (Int.toNat a) f) 0 (W (a+1)))))) λj=>(fixF (GS x0 d h c j) bC (x0,(List.replicate (Int.toNat (min c (W ((x0.length:Int)+1)))) []),0))))) λg=>(bif(decide (b<0)) then(au (Pm x0 d) λ(k:Int)=>g (W (k+1))) else g b))))
theorem aeS{x0:aa}{b:aa}{e:Int}{i:Int}{r:bt}(h:GU x0 b e i=some r):
  FC Tryz.prog 95 [.string (a9 x0),.string (a9 b),.int .i64 e,.int .i64 i] [] (λ_:bK×Nat=>True) (λq=> .slice q.1 r.length q.2) (λq=>[h2 q.1 r q.2]):=
 by
  refine FC.of (T:=ck) Tryz.call95 Tryz.func95 U U λw0=>?_;unfold GU at h;refine aT.s3 ab 1 [] ⟨trivial,U⟩ U U (aT.seq (aT.s3 ab 2 [(13,.v (.bool (decide (i=0))))] ⟨⟨U,trivial⟩,U⟩ U U ?_));refine aT.cond U (λn=>?_) (λn=>?_)
  ·have h:=xR h n;refine aT.s3 ab 1 [(8,.v (.slice none 0 0))] ⟨⟨U,trivial⟩,U⟩ U U ?_;cases h;refine aT.pY .str bz.nil U U (aT.ret ab (none,0) trivial U U [0] U)
  have h:=xS h n;refine aT.skip (aT.seq (aT.s3 ab 2 [(15,.v (.bool (decide (b=[]))))] ⟨⟨U,trivial⟩,U⟩ U U ?_));refine aT.cond U (λo=>?_) (λo=>?_)
  ·have h:=xR h o;refine aT.seq (aT.region (aI.eD ab 2 [] [] [(16,.v (.string (a9 x0))),(17,.v (.int .i64 i))] _ U ⟨(fE U),U⟩ ?_));obtain⟨P,p,h⟩:=jS h;refine aI.call U U U U (aeK p) U [] U U ?_;rintro⟨E,F⟩-;refine aI.eD ab 1 [] [] [(8,.v (.slice E P.length F))] _ U ⟨⟨U,trivial⟩,U⟩ (aI.done U ?_);cases h;exact aT.ret ab (E,F) trivial U U [0] U
  have h:=xS h o;refine aT.skip ?_;obtain⟨Q,s,h⟩:=GF h;refine aT.J6 (ι:=Int) ⟨λz=>Q z=some r,λz=>[(0,.v (.string (a9 x0))),(1,.v (.string (a9 b))),(2,.v (.int .i64 e)),(3,.v (.int .i64 z))],λz=> .nil,λz=>[],λz=>[],λz=>0⟩ ?_ ?_
  ·refine aT.s3 ab 2 [(20,.v (.bool (decide (i<0))))] ⟨⟨U,trivial⟩,U⟩ U U ?_;refine aT.cond U (λt=>?_) (λt=>?_)
   ·have h:=xR h t;refine aT.region (aI.eD ab 2 [] [] [(21,.v (.string (a9 x0))),(22,.v (.string (a9 b)))] _ U ⟨(fE U),U⟩ ?_);obtain⟨u,v,h⟩:=jS h;refine aI.call U U U U (aeR v) U [] U U λ_ _=>aI.eD ab 2 [(W (u+1))] [] [(3,.v (.int .i64 (W (u+1))))] _ U ⟨⟨trivial,U⟩,⟨U,trivial⟩,U⟩ (aI.done U (aT.wx (W (u+1)) h (fE U) trivial [] U [] U))
   have h:=xS h t;refine aT.skip (aT.wx i h (fE U) trivial [] U [] U)
  rintro a h;subst s;refine aT.rg ab 6 [(W ((x0.length:Int)+1))] [] [(3,.v (.int .i64 (min a (W ((x0.length:Int)+1)))))] _ ⟨⟨trivial,U⟩,⟨U,trivial⟩,U⟩ U U (aT.seq (aT.region (aI.eD ab 1 [] [] [(30,.v (.int .i64 (min a (W ((x0.length:Int)+1)))))] _ U ⟨⟨U,trivial⟩,U⟩ ?_)));obtain⟨R,h⟩:=bB h;refine aI.makeSlice ab U U U U U U U U (Int.toNat (min a (W ((x0.length:Int)+1)))) (Int.toNat_of_nonneg R.1).symm (by omega) .str U U U U U λG=>aI.eD ab 1 [] [] [(9,.v (.slice G (Int.toNat (min a (W ((x0.length:Int)+1)))) (Int.toNat (min a (W ((x0.length:Int)+1))))))] _ U ⟨⟨U,trivial⟩,U⟩ (aI.done U (aT.rg ab 3 [(W ((min a (W ((x0.length:Int)+1)))-1))] [] [(3,.v (.int .i64 (W ((min a (W ((x0.length:Int)+1)))-1))))] _ ⟨⟨trivial,U⟩,⟨U,trivial⟩,U⟩ U U (aT.s3 ab 1 [(10,.v (.int .i64 0))] ⟨⟨U,trivial⟩,U⟩ U U (aT.seq ?_))));obtain⟨H,w,h⟩:=GF h;refine aT.OC (ι:=aa×bt×Int×bK×Nat) ⟨λz=>H (z.1,z.2.1,z.2.2.1)=some r,λz=>[(0,.v (.string (a9 z.1))),(9,.v (.slice z.2.2.2.1 z.2.1.length z.2.2.2.2)),(10,.v (.int .i64 z.2.2.1))],λz=> .nil,λz=>[],λz=>[h2 z.2.2.2.1 z.2.1 z.2.2.2.2],λz=>0⟩ ?_ ?_
  ·refine aT.loop (ι:=Nat×aa×bt×Int×bK×Nat) ⟨λz=>fixF (GS x0 b e a H) z.1 (z.2.1,z.2.2.1,z.2.2.2.1)=some r,λz=>[(0,.v (.string (a9 z.2.1))),(1,.v (.string (a9 b))),(2,.v (.int .i64 e)),(3,.v (.int .i64 (W ((min a (W ((x0.length:Int)+1)))-1)))),(9,.v (.slice z.2.2.2.2.1 z.2.2.1.length z.2.2.2.2.2)),(10,.v (.int .i64 z.2.2.2.1))],λz=> .nil,λz=>[],λz=>[h2 z.2.2.2.2.1 z.2.2.1 z.2.2.2.2.2],λz=>z.1⟩ (bC,x0,(List.replicate (Int.toNat (min a (W ((x0.length:Int)+1)))) []),0,G,(Int.toNat (min a (W ((x0.length:Int)+1))))) h ⟨U,U,U,U,(by simp only[uW,sN,eJ,fq,h2];rfl),U,trivial⟩ trivial [] U [0] (by simp only[uW,sN,eJ,fq,h2];rfl) ?_;rintro⟨I,c,j,d,k,l⟩ h;obtain⟨I,rfl,h⟩:=OM h;rw[GS] at h;refine aT.seq (aT.s3 ab 3 [(36,.v (.bool (decide (d<(W ((min a (W ((x0.length:Int)+1)))-1))))))] ⟨⟨U,trivial⟩,U⟩ U U ?_);refine aT.cond U (λx=>?_) (λx=>?_)
   ·have h:=xR h x;refine aT.skip (aT.block (aT.seq (aT.region (aI.eD ab 2 [] [] [(37,.v (.string (a9 c))),(38,.v (.string (a9 b)))] _ U ⟨(fE U),U⟩ ?_))));obtain⟨f,y,h⟩:=jS h;refine aI.call U U U U (aeQ y) U [] U U λ_ _=>aI.eD ab 1 [] [] [(11,.v (.int .i64 f))] _ U ⟨⟨U,trivial⟩,U⟩ (aI.done U (aT.seq (aT.s3 ab 2 [(41,.v (.bool (decide (f<0))))] ⟨⟨U,trivial⟩,U⟩ U U ?_)));refine aT.cond U (λA=>?_) (λA=>?_)
    ·have h:=xR h A;refine aT.exit U (aT.wx (c,j,d,k,l) h (fE U) trivial [] U [0] U)
    have h:=xS h A;refine aT.skip (aT.seq (aT.region ?_));obtain⟨S,h⟩:=bB h;refine aI.jd 0 U λB=>?_;obtain⟨J,h⟩:=bB h;refine aI.eD ab 8 [(W (f+e))] [] [(48,.v (.string (a9 (cg c 0 (W (f+e)))))),(49,.bj ⟨k,j.length,l⟩ (Int.toNat d*1))] _ U ⟨⟨trivial,U⟩,S,B.ix J,(fE U),U⟩ (aI.qE ab U U U U U U U U U [0] (fs:=[]) U (Int.toNat d) 0 (at' j d) (cg c 0 (W (f+e))) ⟨mU J,U⟩ ⟨U,U,U⟩ (aI.done U (aT.seq (aT.region ?_))));obtain⟨V,h⟩:=bB h;refine aI.eD ab 7 [(W (f+(b.length:Int)))] [] [(0,.v (.string (a9 (cg c (W (f+(b.length:Int))) (c.length:Int)))))] _ U ⟨⟨trivial,U⟩,V,⟨U,trivial⟩,U⟩ (aI.done U (aT.jU ab 3 [(W (d+1))] [] [(10,.v (.int .i64 (W (d+1))))] _ ⟨⟨trivial,U⟩,⟨U,trivial⟩,U⟩ U U (aT.df (aT.Om (I,(cg c (W (f+(b.length:Int))) (c.length:Int)),(List.set j (Int.toNat d) (cg c 0 (W (f+e)))),(W (d+1)),k,l) h (xD _) ⟨U,U,U,U,(by simp only[uW,sN,eJ,fq,h2];rfl),U,trivial⟩ trivial [] U [0] (by simp only[uW,sN,eJ,fq,h2];rfl)))))
   have h:=xS h x;refine aT.exit U (aT.wx (c,j,d,k,l) h (fE U) trivial [] U [0] U)
  rintro⟨C,m,g,K,L⟩ h;subst w;refine aT.seq (aT.region (aI.jd 0 U λD=>?_));obtain⟨M,h⟩:=bB h;refine aI.eD ab 4 [] [] [(60,.v (.string (a9 C))),(61,.bj ⟨K,m.length,L⟩ (Int.toNat g*1))] _ U ⟨D.ix M,(fE U),U⟩ (aI.qE ab U U U U U U U U U [0] (fs:=[]) U (Int.toNat g) 0 (at' m g) C ⟨mU M,U⟩ ⟨U,U,U⟩ (aI.done U (aT.seq (aT.region (aI.eD ab 3 [(W (g+1))] [] [(62,.v (.slice K m.length L)),(64,.v (.int .i64 (W (g+1))))] _ U ⟨⟨trivial,U⟩,(fE U),U⟩ ?_)))));obtain⟨X,h⟩:=bB h;refine aI.GH ab U U U U U U U U [0] U (0:Int) (W (g+1)) U U X U λN O=>aI.eD ab 1 [] [] [(8,.v (.slice N (cg (List.set m (Int.toNat g) C) 0 (W (g+1))).length O))] _ U ⟨⟨U,trivial⟩,U⟩ (aI.done U ?_);cases h;exact aT.ret ab (N,O) trivial U U [0] U
def DL(x0:aa)(a:aa):Option bt:=
 (au (GU x0 a 0 (-1)) λ(b:bt)=>some b)
theorem VQ{x0:aa}{a:aa}{r:bt}(h:DL x0 a=some r):
  FC Tryz.prog 74 [.string (a9 x0),.string (a9 a)] [] (λ_:bK×Nat=>True) (λq=> .slice q.1 r.length q.2) (λq=>[h2 q.1 r q.2]):=
 by refine V.fI (T:=ck) Tryz.call74 Tryz.func74 U λ_=>?_;unfold DL at h;refine V.cM ab 8 0 h aeS [] U ?_;rintro d ⟨b,c⟩ h;cases h;exact V.rt ab 2 0 (b,c) [0] U
def Pv(x0:aa)(a:aa):Option Bool:=some (Lib.hasPrefix x0 a)
theorem ae0{x0:aa}{a:aa}{r:Bool}(h:Pv x0 a=some r):pT Tryz.prog 75 [.string (a9 x0),.string (a9 a)] [] (.bool r):=by cases h;refine pT.GG Tryz.call75 λw=>?_;exact Tryz.strings_HasPrefix (a9 x0) (a9 a) w
def GX(x0:aa)(c:Int)(b:bt)(e:Unit->Option aa)(d:Int->Option aa):Int->Option aa:=λa=>
 (bif(decide (a<(b.length:Int))) then(aZ (0<=a/\a<(b.length:Int))<|(aZ (0<=c/\c<=(x0.length:Int)/\(x0.length:Int)<=(x0.length:Int))<|(au (Pv (cg x0 c (x0.length:Int)) (at' b a)) λ(f:Bool)=>(bif f then some (at' b a) else d (W (a+1)))))) else e ())
def zy(x0:aa)(a:Int):Option aa:=
 (bif(bif(decide (a<0)) then true else(decide ((x0.length:Int)<=a))) then some ([]) else(au (DL ([60,60,45,32,38,38,32,124,124,32,59,59,32,60,60,32,60,38,32,60,62,32,62,62,32,62,38,32,62,124,32,38,32,124,32,59,32,60,32,62,32,40,32,41]:aa) ([32]:aa)) λ(b:bt)=>(a8 (λ(_:Unit)=>some ([])) λc=>(fixF (GX x0 a b c) bC 0))))
theorem Pw{x0:aa}{b:Int}{r:aa}(h:zy x0 b=some r):
  FC Tryz.prog 61 [.string (a9 x0),.int .i64 b] [] (λ_:Unit=>True) (λ_=> .string (a9 r)) (λ_=>[]):=
 by
  refine V.fI (T:=ck) Tryz.call61 Tryz.func61 U λ_=>?_;unfold zy at h;refine V.co ab 16 0 h U (λh=>?_) (λh=>?_)
  ·cases h;exact V.rt ab 4 0 () [] U
  refine V.cM ab 4 0 h VQ [] U ?_;rintro a ⟨c,d⟩ h;refine V.db ab 3 0 h (ρ:=Unit) (λs q=>[]) .nil (λs q=>[]) U ?_ ?_
  ·intro k _ h;refine V.e8 ab 0 0 h (ρ:=Unit) (λs q=>[(0,.v (.string (a9 x0))),(1,.v (.int .i64 b)),(15,.v (.slice c a.length d)),(16,.v (.int .i64 (a.length:Int))),(17,.v (.int .i64 s))]) .nil (λs q=>[h2 c a d]) () [0] U ?_;rintro g e _ h;rw[GX] at h;refine V.co ab 5 0 h U (λh=>?_) (λh=>?_)
   ·refine V.go ab 5 0 U ?_;refine V.cl (aI.jd 0 U λi=>V.cz ?_);obtain⟨f,h⟩:=bB h;refine V.go ab 1 0 ⟨i.ix f,U⟩ ?_;refine V.cl (aI.load ab U U U U U U U 0 U U (Int.toNat e) 0 (at' a e) ⟨mU f,U⟩ U U (V.cz ?_));obtain⟨j,h⟩:=bB h;refine V.cM ab 8 0 h ae0 [] ⟨j,U⟩ λl _ h=>?_;refine V.co ab 1 0 h U (λh=>?_) (λh=>?_)
    ·cases h;exact V.rt ab 5 0 () [] U
    exact V.el ab 6 0 h () [0] U
   exact V.a6 ab 1 0 h () [] U
  rintro _ _ h;cases h;exact V.rt ab 4 0 () [] U
def wD(x0:aa)(a:Int):Option Bool:=
 (aZ (((decide ((x0.length:Int)<=a))=false)->0<=a/\a<(x0.length:Int))<|(aZ (((bif(decide ((x0.length:Int)<=a)) then true else(decide (((at' x0 a).toNat:Int)=(32:Int))))=false)->0<=a/\a<(x0.length:Int))<|(aZ (((bif(bif(decide ((x0.length:Int)<=a)) then true else(decide (((at' x0 a).toNat:Int)=(32:Int)))) then true else(decide (((at' x0 a).toNat:Int)=(9:Int))))=false)->0<=a/\a<(x0.length:Int))<|(cP ((bif(bif(bif(decide ((x0.length:Int)<=a)) then true else(decide (((at' x0 a).toNat:Int)=(32:Int)))) then true else(decide (((at' x0 a).toNat:Int)=(9:Int)))) then true else(decide (((at' x0 a).toNat:Int)=(10:Int))))=false) (zy x0 a) [] λ(b:aa)=>some (bif(bif(bif(bif(decide ((x0.length:Int)<=a)) then true else(decide (((at' x0 a).toNat:Int)=(32:Int)))) then true else(decide (((at' x0 a).toNat:Int)=(9:Int)))) then true else(decide (((at' x0 a).toNat:Int)=(10:Int)))) then true else(!(decide (b=[]))))))))
theorem Px{x0:aa}{a:Int}{r:Bool}(h:wD x0 a=some r):
  FC Tryz.prog 76 [.string (a9 x0),.int .i64 a] [] (λ_:Unit=>True) (λ_=> .bool r) (λ_=>[]):=
 by refine V.fI (T:=ck) Tryz.call76 Tryz.func76 U λ_=>?_;unfold wD at h;obtain⟨b,h⟩:=bB h;obtain⟨c,h⟩:=bB h;obtain⟨d,h⟩:=bB h;refine V.hg ab 31 0 h Pw [] ⟨b,c,d,U⟩ (λ_=>id) λe h=>?_;cases h;exact V.rt ab 4 0 () [] U
def Bq(x0:aa)(a:Int):Option Bool:=
 (aZ (0<=a/\a<(x0.length:Int))<|(aZ (((bif(decide (((at' x0 a).toNat:Int)=(36:Int))) then(decide ((W (a+1))<(x0.length:Int))) else false)=true)->0<=(W (a+1))/\(W (a+1))<(x0.length:Int))<|(aZ (((decide (((at' x0 (W (a+1))).toNat:Int)=(40:Int)))=false)->((bif(decide (((at' x0 a).toNat:Int)=(36:Int))) then(decide ((W (a+1))<(x0.length:Int))) else false)=true)->0<=(W (a+1))/\(W (a+1))<(x0.length:Int))<|some (bif(bif(decide (((at' x0 a).toNat:Int)=(36:Int))) then(decide ((W (a+1))<(x0.length:Int))) else false) then(bif(decide (((at' x0 (W (a+1))).toNat:Int)=(40:Int))) then true else(decide (((at' x0 (W (a+1))).toNat:Int)=(123:Int)))) else false))))
theorem VR{x0:aa}{a:Int}{r:Bool}(h:Bq x0 a=some r):
  FC Tryz.prog 77 [.string (a9 x0),.int .i64 a] [] (λ_:Unit=>True) (λ_=> .bool r) (λ_=>[]):=
 by refine V.fI (T:=ck) Tryz.call77 Tryz.func77 U λ_=>?_;unfold Bq at h;obtain⟨b,h⟩:=bB h;obtain⟨c,h⟩:=bB h;obtain⟨d,h⟩:=bB h;cases h;exact V.rt ab 33 0 () [] ⟨b,c,d,U⟩
def DN(x0:aa)(b:Int->Option (aa×Bool))(c:Int->Option (aa×Bool)):Int->Option (aa×Bool):=λa=>
 (au (wD x0 a) λ(d:Bool)=>(bif(!d) then(aZ (0<=a/\a<(x0.length:Int))<|(cP ((bif(bif(bif(decide (((at' x0 a).toNat:Int)=(92:Int))) then true else(decide (((at' x0 a).toNat:Int)=(39:Int)))) then true else(decide (((at' x0 a).toNat:Int)=(34:Int)))) then true else(decide (((at' x0 a).toNat:Int)=(96:Int))))=false) (Bq x0 a) false λ(e:Bool)=>(bif(bif(bif(bif(bif(decide (((at' x0 a).toNat:Int)=(92:Int))) then true else(decide (((at' x0 a).toNat:Int)=(39:Int)))) then true else(decide (((at' x0 a).toNat:Int)=(34:Int)))) then true else(decide (((at' x0 a).toNat:Int)=(96:Int)))) then true else e) then some ([],false) else c (W (a+1))))) else b a))
def G0(x0:aa)(a:Int):Option (aa×Bool):=
 (a8 (λ(b:Int)=>(aZ (0<=a/\a<=b/\b<=(x0.length:Int))<|some ((cg x0 a b),true))) λc=>(fixF (DN x0 c) bC a))
theorem ae2{x0:aa}{a:Int}{r:aa×Bool}(h:G0 x0 a=some r):
  FC Tryz.prog 62 [.string (a9 x0),.int .i64 a] [] (λ_:Unit=>True) (λ_=> .tuple #[.string (a9 r.1),.bool r.2]) (λ_=>[]):=
 by
  refine V.fI (T:=ck) Tryz.call62 Tryz.func62 U λ_=>?_;unfold G0 at h;refine V.db ab 11 0 h (ρ:=Unit) (λs q=>[(0,.v (.string (a9 x0))),(1,.v (.int .i64 a)),(6,.v (.int .i64 s))]) .nil (λs q=>[]) U ?_ ?_
  ·intro d _ h;refine V.e8 ab 0 0 h (ρ:=Unit) (λs q=>[(0,.v (.string (a9 x0))),(1,.v (.int .i64 a)),(6,.v (.int .i64 s))]) .nil (λs q=>[]) () [] U ?_;rintro e f _ h;rw[DN] at h;refine V.cM ab 5 0 h Px [] U λg _ h=>?_;refine V.co ab 2 0 h U (λh=>?_) (λh=>?_)
   ·obtain⟨b,h⟩:=bB h;refine V.hg ab 29 0 h VR [] ⟨b,U⟩ (λ_=>id) λi h=>?_;refine V.co ab 2 0 h U (λh=>?_) (λh=>?_)
    ·cases h;exact V.rt ab 5 0 () [] U
    exact V.el ab 7 0 h () [] U
   exact V.a6 ab 1 0 h () [] U
  rintro j _ h;obtain⟨c,h⟩:=bB h;cases h;exact V.rt ab 9 0 () [] ⟨c,U⟩
def lY(x0:an):Option (bn an ((Int×aa×Bool)×an)):=
 (a_ (Kv x0) (λx=>x) λ(a:an)=>(bif(decide (a.2.1=(a.1.length:Int))) then some (.inr ((0,[],false),(a.1,a.2.1,x0.2.2.1,a.2.2.2.1,x0.2.2.2.2.1,a.2.2.2.2.2))) else(aZ (0<=a.2.1/\a.2.1<(a.1.length:Int))<|(bif(decide (((at' a.1 a.2.1).toNat:Int)=(10:Int))) then some (.inr ((1,[],false),(a.1,a.2.1,x0.2.2.1,a.2.2.2.1,x0.2.2.2.2.1,a.2.2.2.2.2))) else(au (zy a.1 a.2.1) λ(b:aa)=>(bif(!(decide (b=[]))) then some (.inr ((2,b,false),(a.1,a.2.1,x0.2.2.1,a.2.2.2.1,x0.2.2.2.2.1,a.2.2.2.2.2))) else(au (G0 a.1 a.2.1) λ(c,d)=>some (.inr ((3,c,d),(a.1,a.2.1,x0.2.2.1,a.2.2.2.1,x0.2.2.2.2.1,a.2.2.2.2.2))))))))))
theorem qI{x0:an}{a2:bK}{Q:bu}{r:bn an ((Int×aa×Bool)×an)}(h:lY x0=some r):
  je Tryz.prog 42 [.pointer a2] [] [jf a2 x0 Q] (λr (_:Unit)=>jw 39 r λr=> .agg #[.int .i64 r.1.1,.string (a9 r.1.2.1),.bool r.1.2.2]) (λr _=>[jf a2 ((ma r).1,(ma r).2.1,x0.2.2.1,(ma r).2.2.2.1,x0.2.2.2.2.1,(ma r).2.2.2.2.2) Q]) r:=
 by
  refine V.jX (T:=ck) Tryz.call42 Tryz.func42 U λ_ _=>?_;unfold lY at h;refine V.jW (aT.DA ab 1 [] [4] [(2,.eX 4 0)] (.new 4 65 [.int .i64 0,.string (a9 []),.bool false] .nil) ⟨⟨U,trivial⟩,(jv U U)⟩ U U (V.iJ ?_));refine V.cp ab 3 0 h aeF [0] [] (λ_=>()) [0] U a5 a5 λg _ h=>?_;refine V.jH ab 3 0 U (by kernel_rfl) ?_;refine V.co ab 11 0 h ⟨U,U,U,U,U,U,U⟩ (λh=>?_) (λh=>?_)
  ·refine V.jW (aT.DA ab 2 [] [] [] (.new 4 65 [.int .i64 0,.string (a9 []),.bool false] .nil) ⟨trivial,(jv U U)⟩ U U (V.iJ ?_));cases h;exact V.jU ab 0 0 () [0] U
  obtain⟨b,h⟩:=bB h;refine V.jH ab 3 0 U (by kernel_rfl) ?_;refine V.co ab 11 0 h ⟨U,U,U,U,U,U,b,U⟩ (λh=>?_) (λh=>?_)
  ·refine V.jW (aT.DA ab 2 [] [] [] (.new 4 65 [.int .i64 1,.string (a9 []),.bool false] .nil) ⟨trivial,(jv U U)⟩ U U (V.iJ ?_));cases h;exact V.jU ab 0 0 () [0] U
  refine V.jH ab 3 0 U (by kernel_rfl) ?_;refine V.go ab 8 0 ⟨U,U,U,U,U,U,U⟩ ?_;obtain⟨c,d,h⟩:=jS h;refine V.toQ (k1.call U U U U (Pw d) U [] U U (V.s5 ?_));refine V.co ab 7 0 h U (λh=>?_) (λh=>?_)
  ·refine V.jW (aT.DA ab 3 [] [] [] (.new 4 65 [.int .i64 2,.string (a9 c),.bool false] .nil) ⟨trivial,(jv U U)⟩ U U (V.iJ ?_));cases h;exact V.jU ab 0 0 () [0] U
  refine V.jH ab 2 0 U (by kernel_rfl) ?_;refine V.go ab 8 0 ⟨U,U,U,U,U,U,U⟩ ?_;obtain⟨⟨e,f⟩,a,h⟩:=jS h;refine V.toQ (k1.call U U U U (ae2 a) U [] U U (V.s5 ?_));refine V.go ab 6 0 U ?_;refine V.jW (aT.DA ab 4 [] [] [] (.new 4 65 [.int .i64 3,.string (a9 e),.bool f] .nil) ⟨trivial,(jv U U)⟩ U U (V.iJ ?_));cases h;exact V.jU ab 0 0 () [0] U
def wE(x0:Int)(a:Int):Option Int:=
 some (max (0:Int) (min x0 a))
theorem KB{x0:Int}{a:Int}{r:Int}(h:wE x0 a=some r):
  FC Tryz.prog 70 [.int .i64 x0,.int .i64 a] [] (λ_:Unit=>True) (λ_=> .int .i64 r) (λ_=>[]):=
 by refine V.fI (T:=ck) Tryz.call70 Tryz.func70 U λ_=>?_;unfold wE at h;cases h;exact V.rt ab 12 0 () [] U
def DO(x0:aa)(a:UInt8):Option Int:=some (Lib.indexByte x0 a)
theorem VT{x0:aa}{a:UInt8}{r:Int}(h:DO x0 a=some r):pT Tryz.prog 71 [.string (a9 x0),.int .u8 (a.toNat:Int)] [] (.int .i64 r):=by cases h;refine pT.GG Tryz.call71 λw=>?_;have:=Tryz.strings_IndexByte (a9 x0) (a.toNat:Int) w;rw[adI] at this;exact this
def KC(b:UInt8)(c:aa->Option aa)(d:aa->Option aa):aa->Option aa:=λa=>
 (aZ (((decide (0<(a.length:Int)))=true)->0<=(0:Int)/\0<(a.length:Int))<|(bif(bif(decide (0<(a.length:Int))) then(decide (((at' a 0).toNat:Int)=(b.toNat:Int))) else false) then(aZ (0<=(1:Int)/\(1:Int)<=(a.length:Int)/\(a.length:Int)<=(a.length:Int))<|d (cg a 1 (a.length:Int))) else c a))
def G1(x0:aa)(a:UInt8):Option aa:=
 (a8 (λ(b:aa)=>some b) λc=>(fixF (KC a c) bC x0))
theorem ae4{x0:aa}{a:UInt8}{r:aa}(h:G1 x0 a=some r):
  FC Tryz.prog 82 [.string (a9 x0),.int .u8 (a.toNat:Int)] [] (λ_:Unit=>True) (λ_=> .string (a9 r)) (λ_=>[]):=
 by
  refine V.fI (T:=ck) Tryz.call82 Tryz.func82 U λ_=>?_;unfold G1 at h;refine V.db ab 5 0 h (ρ:=Unit) (λs q=>[(0,.v (.string (a9 s)))]) .nil (λs q=>[]) U ?_ ?_
  ·intro e _ h;refine V.e8 ab 0 0 h (ρ:=Unit) (λs q=>[(0,.v (.string (a9 s))),(1,.v (.int .u8 (a.toNat:Int)))]) .nil (λs q=>[]) () [] U ?_;rintro b f _ h;rw[KC] at h;obtain⟨c,h⟩:=bB h;refine V.co ab 13 0 h ⟨c,U⟩ (λh=>?_) (λh=>?_)
   ·obtain⟨d,h⟩:=bB h;exact V.el ab 8 0 h () [] ⟨d,U⟩
   exact V.a6 ab 1 0 h () [] U
  rintro g _ h;cases h;exact V.rt ab 5 0 () [] U
def Bs(x0:aa)(a:aa):Option aa:=
 (bif(bif(decide (x0=[])) then true else(decide (a=[]))) then some x0 else(aZ (((decide ((a.length:Int)=1))=true)->0<=(0:Int)/\0<(a.length:Int))<|(bif(bif(decide ((a.length:Int)=1)) then(decide (((at' a 0).toNat:Int)<(128:Int))) else false) then(aZ (0<=(0:Int)/\0<(a.length:Int))<|(au (G1 x0 (at' a 0)) λ(b:aa)=>some b)) else none)))
theorem ae6{x0:aa}{a:aa}{r:aa}(h:Bs x0 a=some r):
  FC Tryz.prog 72 [.string (a9 x0),.string (a9 a)] [] (λ_:Unit=>True) (λ_=> .string (a9 r)) (λ_=>[]):=
 by
  refine V.fI (T:=ck) Tryz.call72 Tryz.func72 U λ_=>?_;unfold Bs at h;refine V.co ab 14 0 h U (λh=>?_) (λh=>?_)
  ·cases h;exact V.rt ab 5 0 () [] U
  obtain⟨b,h⟩:=bB h;refine V.co ab 13 0 h ⟨b,U⟩ (λh=>?_) (λh=>?_)
  ·obtain⟨c,h⟩:=bB h;refine V.cM ab 5 0 h ae4 [] ⟨c,U⟩ λd _ h=>?_;cases h;exact V.rt ab 2 0 () [] U
  cases h
def rm(x0:aa)(h:aa)(i:Bool)(j:Unit->Option Int)(c:Int->Option Int):Int->Option Int:=λa=>
 (bif(decide (a<(x0.length:Int))) then(aZ (0<=a/\a<=(x0.length:Int)/\(x0.length:Int)<=(x0.length:Int))<|(a8 (λ((d,e):aa×Int)=>(a8 (λ(k:aa)=>(bif(decide (k=h)) then some e else c e)) λf=>(bif i then(au (Bs d ([9]:aa)) λ(l:aa)=>f l) else f d))) λg=>(au (DO (cg x0 a (x0.length:Int)) (10:UInt8)) λ(b:Int)=>(bif(decide (0<=b)) then(aZ (0<=(0:Int)/\(0:Int)<=b/\b<=((cg x0 a (x0.length:Int)).length:Int))<|g ((cg (cg x0 a (x0.length:Int)) 0 b),(W ((W (a+b))+1)))) else g ((cg x0 a (x0.length:Int)),(x0.length:Int)))))) else j ())
def Bt(x0:aa)(a:Int)(b:aa)(c:Bool):Option Int:=
 (au (wE a (x0.length:Int)) λ(d:Int)=>(a8 (λ(_:Unit)=>some (-1)) λe=>(fixF (rm x0 b c e) bC d)))
theorem ae8{x0:aa}{c:Int}{a:aa}{b:Bool}{r:Int}(h:Bt x0 c a b=some r):
  FC Tryz.prog 56 [.string (a9 x0),.int .i64 c,.string (a9 a),.bool b] [] (λ_:Unit=>True) (λ_=> .int .i64 r) (λ_=>[]):=
 by
  refine V.fI (T:=ck) Tryz.call56 Tryz.func56 U λ_=>?_;unfold Bt at h;refine V.cM ab 9 0 h KB [] U λi _ h=>?_;refine V.db ab 3 0 h (ρ:=Unit) (λs q=>[]) .nil (λs q=>[]) U ?_ ?_
  ·intro j _ h;refine V.e8 ab 0 0 h (ρ:=Unit) (λs q=>[(0,.v (.string (a9 x0))),(1,.v (.int .i64 s)),(2,.v (.string (a9 a))),(3,.v (.bool b))]) .nil (λs q=>[]) () [] U ?_;rintro d k _ h;rw[rm] at h;refine V.co ab 8 0 h U (λh=>?_) (λh=>?_)
   ·obtain⟨e,h⟩:=bB h;refine V.e6 ab 12 0 h (ρ:=Unit) (λs q=>[(0,.v (.string (a9 x0))),(2,.v (.string (a9 a))),(3,.v (.bool b)),(9,.v (.string (a9 s.1))),(10,.v (.int .i64 s.2))]) .nil (λs q=>[]) ⟨e,U⟩ ?_ ?_
    ·intro l _ h;refine V.cM ab 3 0 h VT [] U λm _ h=>?_;refine V.co ab 7 0 h U (λh=>?_) (λh=>?_)
     ·obtain⟨f,h⟩:=bB h;exact V.a6 ab 11 0 h () [] ⟨f,U⟩
     exact V.a6 ab 1 0 h () [] U
    rintro⟨n,g⟩ _ h;refine V.e6 ab 0 0 h (ρ:=Unit) (λs q=>[(0,.v (.string (a9 x0))),(2,.v (.string (a9 a))),(3,.v (.bool b)),(9,.v (.string (a9 s))),(10,.v (.int .i64 g))]) .nil (λs q=>[]) U ?_ ?_
    ·intro o _ h;refine V.co ab 4 0 h U (λh=>?_) (λh=>?_)
     ·refine V.cM ab 2 0 h ae6 [] U λp _ h=>?_;exact V.a6 ab 2 0 h () [] U
     exact V.a6 ab 1 0 h () [] U
    rintro t _ h;refine V.co ab 7 0 h U (λh=>?_) (λh=>?_)
    ·cases h;exact V.rt ab 5 0 () [] U
    exact V.el ab 6 0 h () [] U
   exact V.a6 ab 1 0 h () [] U
  rintro _ _ h;cases h;exact V.rt ab 4 0 () [] U
def wH(x0:an)(a:aa):Option (bn an Empty):=
 (aZ (x0.2.2.2.2.1.length+([a]:bt).length<=536870912)<|a_ (rj (x0.1,x0.2.1,x0.2.2.1,x0.2.2.2.1,(x0.2.2.2.2.1++([a]:bt)),x0.2.2.2.2.2)) (λx=>(x.1,x.2.1,x0.2.2.1,x.2.2.2.1,(x0.2.2.2.2.1++([a]:bt)),x.2.2.2.2.2)) λy=>Empty.elim y)
theorem G2{x0:an}{a:aa}{a3:bK}{Q:bu}{r:bn an Empty}(h:wH x0 a=some r):
  je Tryz.prog 57 [.pointer a3,.string (a9 a)] [] (ed a3 x0 Q) (λr (q:bu)=>jw 39 r λr=> .tuple #[]) (λr q=>ed a3 (s4 r) q) r:=
 by refine V.jX (T:=ck) Tryz.call57 Tryz.func57 U λ_ _=>?_;unfold wH at h;refine V.go ab 8 0 ⟨U,U,U,U⟩ ?_;refine V.cl (aI.ky U (cL.buildSlice ab U U U U U U U U U U U [] U .str [a] ⟨U,U⟩ U U λe=>aI.kz (V.cz ?_)));obtain⟨d,h⟩:=bB h;refine V.cl (aI.qF ab U U U U ⟨U,U,U,U,trivial,U,U,U,U⟩ U U U [3] U 0 U d U λb c=>V.cz ?_);refine V.cp ab 6 2 h (DG (Q:=(Q.1,Q.2.1,b,c))) [0] [] (λ_=>(Q.1,Q.2.1,b,c)) [0,2,0] ⟨U,U,U,U⟩ a5 a5 λy _ _=>y.elim
def Bu(x0:an)(b:ao)(y23:an)(e:Int->Option (bn an (Bool×an)))(f:(Int×Int)->Option (bn an (Bool×an))):(Int×Int)->Option (bn an (Bool×an)):=λ(a,c)=>
 (bif(decide (a<(b.length:Int))) then(aZ (0<=a/\a<(b.length:Int))<|(au (Bt y23.1 c ((at' b a).1) ((at' b a).2)) λ(d:Int)=>(a8 (λ(_:Unit)=>f ((W (a+1)),d)) λg=>(bif(decide (d<0)) then a_ (wH (y23.1,c,b,y23.2.2.2.1,x0.2.2.2.2.1,y23.2.2.2.2.2) ([60,60]:aa)) (λx=>x) λy=>Empty.elim y else g ())))) else e c)
def PA(x0:an)(c:(Bool×aa×Int×ao×Int×Int)->Option (bn an (Bool×an)))(b:(Bool×aa×Int×ao×Int×Int)->Option (bn an (Bool×an))):(Bool×aa×Int×ao×Int×Int)->Option (bn an (Bool×an)):=λ(d,e,f,a,g,h)=>
 (a_ (lY (e,f,a,g,x0.2.2.2.2.1,h)) (λx=>(x.1,x.2.1,a,x.2.2.2.1,x0.2.2.2.2.1,x.2.2.2.2.2)) λ(i,y23)=>(bif(decide (i.1=1)) then(a8 (λ(j:Int)=>b (true,y23.1,j,([]:ao),y23.2.2.2.1,y23.2.2.2.2.2)) λk=>(a8 (λ(l:Int)=>k l) λm=>(fixF (Bu x0 a y23 m) bC (0,(W (y23.2.1+1)))))) else c (d,y23.1,y23.2.1,a,y23.2.2.2.1,y23.2.2.2.2.2)))
def k6(x0:an):Option (bn an (Bool×an)):=
 (a8 (λ((a,b,c,d,e,f):Bool×aa×Int×ao×Int×Int)=>some (.inr (a,(b,c,d,e,x0.2.2.2.2.1,f)))) λg=>(fixF (PA x0 g) bC (false,x0.1,x0.2.1,x0.2.2.1,x0.2.2.2.1,x0.2.2.2.2.2)))
theorem ua{x0:an}{a2:bK}{Q:bu}{r:bn an (Bool×an)}(h:k6 x0=some r):
  je Tryz.prog 38 [.pointer a2] [] (ed a2 x0 Q) (λr (q:bu)=>jw 39 r λr=> .bool r.1) (λr q=>ed a2 (ma r) q) r:=
 by
  refine V.jX (T:=ck) Tryz.call38 Tryz.func38 U λ_ _=>?_;unfold k6 at h;refine V.db ab 9 0 h (ρ:=bK×Nat) (λs q=>[(3,.v (.bool s.1))]) .nil (λs q=>[r5 q.1 s.2.2.2.1 q.2,jf a2 (s.2.1,s.2.2.1,s.2.2.2.1,s.2.2.2.2.1,x0.2.2.2.2.1,s.2.2.2.2.2) (q.1,q.2,Q.2.2),h2 Q.2.2.1 x0.2.2.2.2.1 Q.2.2.2]) U ?_ ?_
  ·intro o _ h;refine V.e8 ab 0 0 h (ρ:=bK×Nat) (λs q=>[(0,.bj ⟨a2,1,1⟩ 0),(3,.v (.bool s.1))]) .nil (λs q=>[r5 q.1 s.2.2.2.1 q.2,jf a2 (s.2.1,s.2.2.1,s.2.2.2.1,s.2.2.2.2.1,x0.2.2.2.2.1,s.2.2.2.2.2) (q.1,q.2,Q.2.2),h2 Q.2.2.1 x0.2.2.2.2.1 Q.2.2.2]) (Q.1,Q.2.1) [1,0,2] U ?_;rintro k ⟨p,t,u,a,v,w⟩ ⟨b,c⟩ h;rw[PA] at h;refine V.cp ab 4 0 h (qI (Q:=(b,c,Q.2.2))) [1] [] (λ_=>(b,c,Q.2.2)) [0,0,0] U a5 a5 ?_;rintro⟨x,y23⟩ _ h;refine V.co ab 3 0 h U (λh=>?_) (λh=>?_)
   ·refine V.db ab 1 0 h (ρ:=Unit) (λs q=>[(0,.bj ⟨a2,1,1⟩ 0),(3,.v (.bool true))]) .nil (λs q=>[⟨(.pair .str (.pair (.int .i64) (.pair .val (.pair (.int .i64) (.pair .val (.int .i64)))))),⟨a2,1,1⟩,[(y23.1,s,(bz.v ⟨none,0,0⟩),y23.2.2.2.1,(bz.v ⟨Q.2.2.1,x0.2.2.2.2.1.length,Q.2.2.2⟩),y23.2.2.2.2.2)]⟩,h2 Q.2.2.1 x0.2.2.2.2.1 Q.2.2.2]) U ?_ ?_
    ·intro z _ h;refine V.db ab 25 0 h (ρ:=Unit) (λs q=>[(0,.bj ⟨a2,1,1⟩ 0),(3,.v (.bool true))]) .nil (λs q=>ed a2 (y23.1,s,a,y23.2.2.2.1,x0.2.2.2.2.1,y23.2.2.2.2.2) (b,c,Q.2.2)) ⟨U,U,U,U,U,U,U,U,U,U⟩ ?_ ?_
     ·intro A _ h;refine V.e8 ab 0 0 h (ρ:=Unit) (λs q=>[(0,.bj ⟨a2,1,1⟩ 0),(3,.v (.bool true)),(21,.v (.slice b a.length c)),(22,.v (.int .i64 (a.length:Int))),(23,.v (.int .i64 s.1))]) .nil (λs q=>ed a2 (y23.1,s.2,a,y23.2.2.2.1,x0.2.2.2.2.1,y23.2.2.2.2.2) (b,c,Q.2.2)) () [0,1,2] U ?_;rintro l ⟨d,m⟩ _ h;rw[Bu] at h;refine V.co ab 5 0 h U (λh=>?_) (λh=>?_)
      ·refine V.go ab 5 0 U ?_;refine V.cl (aI.jd 1 U λe=>V.cz ?_);obtain⟨j,h⟩:=bB h;refine V.go ab 1 0 ⟨e.ix j,U⟩ ?_;refine V.cl (aI.kJ ab U U U U U U 1 U U (Int.toNat d) 0 (at' a d) ⟨mU j,U⟩ U U U (V.cz ?_));refine V.cl (aI.o_ ab 2 [] [35] [(5,.eX 35 0)] (.new 35 78 [.string (a9 (at' a d).1),.bool (at' a d).2] .nil) U ⟨⟨U,trivial⟩,(jv U U)⟩ (V.cz ?_));refine V.jH ab 2 0 U (by kernel_rfl) ?_;refine V.go ab 12 0 ⟨U,U,U,U,U,U,U⟩ ?_;obtain⟨n,f,h⟩:=jS h;refine V.toQ (k1.call U U U U (ae8 f) U [] U U (V.s5 ?_));refine V.e6 ab 2 0 h (ρ:=Unit) (λs q=>[(0,.bj ⟨a2,1,1⟩ 0),(3,.v (.bool true)),(6,.v (.int .i64 n)),(21,.v (.slice b a.length c)),(22,.v (.int .i64 (a.length:Int))),(23,.v (.int .i64 d))]) .nil (λs q=>ed a2 (y23.1,m,a,y23.2.2.2.1,x0.2.2.2.2.1,y23.2.2.2.2.2) (b,c,Q.2.2)) U ?_ ?_
       ·intro B _ h;refine V.co ab 5 0 h U (λh=>?_) (λh=>?_)
        ·refine V.cp ab 2 0 h (G2 (Q:=(b,c,Q.2.2))) [0,0,0] [] id [0,0,0] U a5 a5 λy _ _=>y.elim
        exact V.a6 ab 1 0 h () [0,1,2] U
       rintro _ _ h
       try dsimp only at h
       exact V.el ab 12 0 h () [0,1,2] ⟨U,U,U,U⟩
      exact V.a6 ab 1 0 h () [0,1,2] U
     rintro C _ h
     try dsimp only at h
     exact V.a6 ab 7 0 h () [0,2] ⟨U,U,U,U⟩
    rintro D _ h;refine V.jW (aT.pY (.pair .str .bool) bz.nil U U (V.iJ ?_))
    try dsimp only at h
    exact V.el ab 0 0 h (none,0) [0,1,2] U
   exact V.a6 ab 1 0 h (b,c) [1,0,2] U
  rintro⟨E,F,G,H,I,J⟩ ⟨g,i⟩ h;cases h;exact V.jU ab 5 0 (g,i,Q.2.2) [1,0,0] U
def pe(x0:an)(c:aa):Option (bn an (Bool×an)):=
 (a_ (lY x0) (λx=>x) λ(b,a)=>some (.inr ((bif(bif(decide (b.1=3)) then b.2.2 else false) then(decide (b.2.1=c)) else false),(a.1,a.2.1,x0.2.2.1,a.2.2.2.1,x0.2.2.2.2.1,a.2.2.2.2.2))))
theorem pf{x0:an}{b:aa}{a3:bK}{Q:bu}{r:bn an (Bool×an)}(h:pe x0 b=some r):
  je Tryz.prog 58 [.pointer a3,.string (a9 b)] [] [jf a3 x0 Q] (λr (_:Unit)=>jw 39 r λr=> .bool r.1) (λr _=>[jf a3 ((ma r).1,(ma r).2.1,x0.2.2.1,(ma r).2.2.2.1,x0.2.2.2.2.1,(ma r).2.2.2.2.2) Q]) r:=
 by refine V.jX (T:=ck) Tryz.call58 Tryz.func58 U λ_ _=>?_;unfold pe at h;refine V.cp ab 7 0 h qI [0] [] (λ_=>()) [0] U a5 a5 ?_;rintro⟨a,c⟩ _ h;refine V.cl (aI.o_ ab 2 [] [8] [(5,.eX 8 0)] (.new 8 65 [.int .i64 a.1,.string (a9 a.2.1),.bool a.2.2] .nil) U ⟨⟨U,trivial⟩,(jv U U)⟩ (V.cz ?_));cases h;exact V.jU ab 18 0 () [0] U
def nh(x0:an)(c:aa):Option (bn an (Bool×an)):=
 (a_ (lY x0) (λx=>x) λ(b,a)=>some (.inr ((bif(decide (b.1=2)) then(decide (b.2.1=c)) else false),(a.1,a.2.1,x0.2.2.1,a.2.2.2.1,x0.2.2.2.2.1,a.2.2.2.2.2))))
theorem p4{x0:an}{b:aa}{a3:bK}{Q:bu}{r:bn an (Bool×an)}(h:nh x0 b=some r):
  je Tryz.prog 41 [.pointer a3,.string (a9 b)] [] [jf a3 x0 Q] (λr (_:Unit)=>jw 39 r λr=> .bool r.1) (λr _=>[jf a3 ((ma r).1,(ma r).2.1,x0.2.2.1,(ma r).2.2.2.1,x0.2.2.2.2.1,(ma r).2.2.2.2.2) Q]) r:=
 by refine V.jX (T:=ck) Tryz.call41 Tryz.func41 U λ_ _=>?_;unfold nh at h;refine V.cp ab 7 0 h qI [0] [] (λ_=>()) [0] U a5 a5 ?_;rintro⟨a,c⟩ _ h;refine V.cl (aI.o_ ab 2 [] [8] [(5,.eX 8 0)] (.new 8 65 [.int .i64 a.1,.string (a9 a.2.1),.bool a.2.2] .nil) U ⟨⟨U,trivial⟩,(jv U U)⟩ (V.cz ?_));cases h;exact V.jU ab 14 0 () [0] U
def DQ(x0:an)(a:Int):Option (bn an (Bool×an)):=
 (bif(decide (a=0)) then(a_ (lY x0) (λx=>x) λ(q,e)=>some (.inr ((decide (q.1=0)),(e.1,e.2.1,x0.2.2.1,e.2.2.2.1,x0.2.2.2.2.1,e.2.2.2.2.2)))) else(bif(decide (a=1)) then(a_ (nh x0 ([41]:aa)) (λx=>x) λ(r,f)=>some (.inr (r,(f.1,f.2.1,x0.2.2.1,f.2.2.2.1,x0.2.2.2.2.1,f.2.2.2.2.2)))) else(bif(decide (a=2)) then(a_ (pe x0 ([125]:aa)) (λx=>x) λ(s,g)=>some (.inr (s,(g.1,g.2.1,x0.2.2.1,g.2.2.2.1,x0.2.2.2.2.1,g.2.2.2.2.2)))) else(bif(decide (a=3)) then(a_ (pe x0 ([116,104,101,110]:aa)) (λx=>x) λ(t,h)=>some (.inr (t,(h.1,h.2.1,x0.2.2.1,h.2.2.2.1,x0.2.2.2.2.1,h.2.2.2.2.2)))) else(bif(decide (a=4)) then(a_ (pe x0 ([101,108,105,102]:aa)) (λx=>x) λ(n,b)=>(nc (n=false) (pe (b.1,b.2.1,x0.2.2.1,b.2.2.2.1,x0.2.2.2.2.1,b.2.2.2.2.2) ([101,108,115,101]:aa)) (λx=>x) (false,(b.1,b.2.1,x0.2.2.1,b.2.2.2.1,x0.2.2.2.2.1,b.2.2.2.2.2)) λ(o,c)=>(nc ((bif n then true else o)=false) (pe (c.1,c.2.1,x0.2.2.1,c.2.2.2.1,x0.2.2.2.2.1,c.2.2.2.2.2) ([102,105]:aa)) (λx=>x) (false,(c.1,c.2.1,x0.2.2.1,c.2.2.2.1,x0.2.2.2.2.1,c.2.2.2.2.2)) λ(u,i)=>some (.inr ((bif(bif n then true else o) then true else u),(i.1,i.2.1,x0.2.2.1,i.2.2.2.1,x0.2.2.2.2.1,i.2.2.2.2.2)))))) else(bif(decide (a=5)) then(a_ (pe x0 ([102,105]:aa)) (λx=>x) λ(v,j)=>some (.inr (v,(j.1,j.2.1,x0.2.2.1,j.2.2.2.1,x0.2.2.2.2.1,j.2.2.2.2.2)))) else(bif(decide (a=6)) then(a_ (pe x0 ([100,111]:aa)) (λx=>x) λ(w,k)=>some (.inr (w,(k.1,k.2.1,x0.2.2.1,k.2.2.2.1,x0.2.2.2.2.1,k.2.2.2.2.2)))) else(bif(decide (a=7)) then(a_ (pe x0 ([100,111,110,101]:aa)) (λx=>x) λ(y,l)=>some (.inr (y,(l.1,l.2.1,x0.2.2.1,l.2.2.2.1,x0.2.2.2.2.1,l.2.2.2.2.2)))) else(a_ (nh x0 ([59,59]:aa)) (λx=>x) λ(p,d)=>(nc (p=false) (pe (d.1,d.2.1,x0.2.2.1,d.2.2.2.1,x0.2.2.2.2.1,d.2.2.2.2.2) ([101,115,97,99]:aa)) (λx=>x) (false,(d.1,d.2.1,x0.2.2.1,d.2.2.2.1,x0.2.2.2.2.1,d.2.2.2.2.2)) λ(z,m)=>some (.inr ((bif p then true else z),(m.1,m.2.1,x0.2.2.1,m.2.2.2.1,x0.2.2.2.2.1,m.2.2.2.2.2)))))))))))))
theorem KE{x0:an}{l:Int}{a3:bK}{Q:bu}{r:bn an (Bool×an)}(h:DQ x0 l=some r):
  je Tryz.prog 39 [.pointer a3,.int .i64 l] [] [jf a3 x0 Q] (λr (_:Unit)=>jw 39 r λr=> .bool r.1) (λr _=>[jf a3 ((ma r).1,(ma r).2.1,x0.2.2.1,(ma r).2.2.2.1,x0.2.2.2.2.1,(ma r).2.2.2.2.2) Q]) r:=
 by
  refine V.jX (T:=ck) Tryz.call39 Tryz.func39 U λ_ _=>?_;unfold DQ at h;refine V.co ab 15 0 h U (λh=>?_) (λh=>?_)
  ·refine V.cp ab 3 0 h qI [0] [] (λ_=>()) [0] U a5 a5 ?_;rintro⟨y,z⟩ _ h;cases h;exact V.jU ab 4 0 () [0] U
  refine V.co ab 5 0 h U (λh=>?_) (λh=>?_)
  ·refine V.cp ab 3 0 h p4 [0] [] (λ_=>()) [0] U a5 a5 ?_;rintro⟨A,B⟩ _ h;cases h;exact V.jU ab 2 0 () [0] U
  refine V.co ab 5 0 h U (λh=>?_) (λh=>?_)
  ·refine V.cp ab 3 0 h pf [0] [] (λ_=>()) [0] U a5 a5 ?_;rintro⟨C,D⟩ _ h;cases h;exact V.jU ab 2 0 () [0] U
  refine V.co ab 5 0 h U (λh=>?_) (λh=>?_)
  ·refine V.cp ab 3 0 h pf [0] [] (λ_=>()) [0] U a5 a5 ?_;rintro⟨E,F⟩ _ h;cases h;exact V.jU ab 2 0 () [0] U
  refine V.co ab 5 0 h U (λh=>?_) (λh=>?_)
  ·refine V.cp ab 3 0 h pf [0] [] (λ_=>()) [0] U a5 a5 ?_;rintro⟨G,H⟩ _ h;refine V.go ab 2 0 U ?_;rcases zr h with⟨a,I,b,rfl⟩|⟨⟨J,K⟩,b,m,h⟩
   ·exact V.cl (aI.zt U U U ⟨a,trivial⟩ (pf b) U [0] U [] U (λ_=>U) (λs _=>⟨(),trivial,U,[0],_,U⟩))
   refine V.cl (aI.zq U U U U (λc=>pc.ret (pf (b c)) (λ_=>U)) U [0] U [] U U () (λn=>by cases m (λo=>n ⟨o,trivial⟩);rfl) λ_ _=>V.cz ?_);refine V.go ab 3 0 U ?_;rcases zr h with⟨d,p,e,rfl⟩|⟨⟨L,M⟩,e,f,h⟩
   ·exact V.cl (aI.zt U U U ⟨d,trivial⟩ (pf e) U [0] U [] U (λ_=>U) (λs _=>⟨(),trivial,U,[0],_,U⟩))
   refine V.cl (aI.zq U U U U (λq=>pc.ret (pf (e q)) (λ_=>U)) U [0] U [] U U () (λt=>by cases f (λu=>t ⟨u,trivial⟩);rfl) λ_ _=>V.cz ?_);cases h;exact V.jU ab 3 0 () [0] U
  refine V.co ab 5 0 h U (λh=>?_) (λh=>?_)
  ·refine V.cp ab 3 0 h pf [0] [] (λ_=>()) [0] U a5 a5 ?_;rintro⟨N,O⟩ _ h;cases h;exact V.jU ab 2 0 () [0] U
  refine V.co ab 5 0 h U (λh=>?_) (λh=>?_)
  ·refine V.cp ab 3 0 h pf [0] [] (λ_=>()) [0] U a5 a5 ?_;rintro⟨P,R⟩ _ h;cases h;exact V.jU ab 2 0 () [0] U
  refine V.co ab 5 0 h U (λh=>?_) (λh=>?_)
  ·refine V.cp ab 3 0 h pf [0] [] (λ_=>()) [0] U a5 a5 ?_;rintro⟨S,W⟩ _ h;cases h;exact V.jU ab 2 0 () [0] U
  refine V.cp ab 5 0 h p4 [0] [] (λ_=>()) [0] U a5 a5 ?_;rintro⟨X,Y⟩ _ h;refine V.go ab 2 0 U ?_;rcases zr h with⟨g,v,i,rfl⟩|⟨⟨Z,G4⟩,i,j,h⟩
  ·exact V.cl (aI.zt U U U ⟨g,trivial⟩ (pf i) U [0] U [] U (λ_=>U) (λs _=>⟨(),trivial,U,[0],_,U⟩))
  refine V.cl (aI.zq U U U U (λw=>pc.ret (pf (i w)) (λ_=>U)) U [0] U [] U U () (λk=>by cases j (λx=>k ⟨x,trivial⟩);rfl) λ_ _=>V.cz ?_);cases h;exact V.jU ab 3 0 () [0] U
def KF(x0:aa)(b:bt)(c:Unit->Option Bool)(d:Int->Option Bool):Int->Option Bool:=λa=>
 (bif(decide (a<(b.length:Int))) then(aZ (0<=a/\a<(b.length:Int))<|(bif(decide ((at' b a)=x0)) then some true else d (W (a+1)))) else c ())
def Bx(x0:aa)(a:aa):Option Bool:=
 (au (DL a ([32]:aa)) λ(b:bt)=>(a8 (λ(_:Unit)=>some false) λc=>(fixF (KF x0 b c) bC 0)))
theorem PI{x0:aa}{c:aa}{r:Bool}(h:Bx x0 c=some r):
  FC Tryz.prog 115 [.string (a9 x0),.string (a9 c)] [] (λ_:Unit=>True) (λ_=> .bool r) (λ_=>[]):=
 by
  refine V.fI (T:=ck) Tryz.call115 Tryz.func115 U λ_=>?_;unfold Bx at h;refine V.cM ab 8 0 h VQ [] U ?_;rintro a ⟨d,e⟩ h;refine V.db ab 3 0 h (ρ:=Unit) (λs q=>[]) .nil (λs q=>[]) U ?_ ?_
  ·intro j _ h;refine V.e8 ab 0 0 h (ρ:=Unit) (λs q=>[(0,.v (.string (a9 x0))),(8,.v (.slice d a.length e)),(9,.v (.int .i64 (a.length:Int))),(10,.v (.int .i64 s))]) .nil (λs q=>[h2 d a e]) () [0] U ?_;rintro i f _ h;rw[KF] at h;refine V.co ab 5 0 h U (λh=>?_) (λh=>?_)
   ·refine V.go ab 5 0 U ?_;refine V.cl (aI.jd 0 U λb=>V.cz ?_);obtain⟨g,h⟩:=bB h;refine V.go ab 1 0 ⟨b.ix g,U⟩ ?_;refine V.cl (aI.load ab U U U U U U U 0 U U (Int.toNat f) 0 (at' a f) ⟨mU g,U⟩ U U (V.cz ?_));refine V.co ab 8 0 h U (λh=>?_) (λh=>?_)
    ·cases h;exact V.rt ab 4 0 () [] U
    exact V.el ab 6 0 h () [0] U
   exact V.a6 ab 1 0 h () [] U
  rintro _ _ h;cases h;exact V.rt ab 4 0 () [] U
def G9(x0:aa):Option Bool:=
 (au (Bx x0 ([105,102,32,119,104,105,108,101,32,117,110,116,105,108,32,102,111,114,32,99,97,115,101,32,123]:aa)) λ(a:Bool)=>some a)
theorem afn{x0:aa}{r:Bool}(h:G9 x0=some r):
  FC Tryz.prog 106 [.string (a9 x0)] [] (λ_:Unit=>True) (λ_=> .bool r) (λ_=>[]):=
 by refine V.fI (T:=ck) Tryz.call106 Tryz.func106 U λ_=>?_;unfold G9 at h;refine V.cM ab 7 0 h PI [] U λa _ h=>?_;cases h;exact V.rt ab 2 0 () [] U
def DR(x0:an):Option (bn an (Bool×an)):=
 (a_ (lY x0) (λx=>x) λ(a,b)=>(cP ((bif(decide (a.1=3)) then a.2.2 else false)=true/\(bif(decide (a.1=2)) then(decide (a.2.1=([40]:aa))) else false)=false) (G9 a.2.1) false λ(c:Bool)=>some (.inr ((bif(bif(decide (a.1=2)) then(decide (a.2.1=([40]:aa))) else false) then true else(bif(bif(decide (a.1=3)) then a.2.2 else false) then c else false)),(b.1,b.2.1,x0.2.2.1,b.2.2.2.1,x0.2.2.2.2.1,b.2.2.2.2.2)))))
theorem VX{x0:an}{a2:bK}{Q:bu}{r:bn an (Bool×an)}(h:DR x0=some r):
  je Tryz.prog 86 [.pointer a2] [] [jf a2 x0 Q] (λr (_:Unit)=>jw 39 r λr=> .bool r.1) (λr _=>[jf a2 ((ma r).1,(ma r).2.1,x0.2.2.1,(ma r).2.2.2.1,x0.2.2.2.2.1,(ma r).2.2.2.2.2) Q]) r:=
 by refine V.jX (T:=ck) Tryz.call86 Tryz.func86 U λ_ _=>?_;unfold DR at h;refine V.cp ab 7 0 h qI [0] [] (λ_=>()) [0] U a5 a5 ?_;rintro⟨a,d⟩ _ h;refine V.cl (aI.o_ ab 2 [] [8] [(3,.eX 8 0)] (.new 8 65 [.int .i64 a.1,.string (a9 a.2.1),.bool a.2.2] .nil) U ⟨⟨U,trivial⟩,(jv U U)⟩ (V.cz ?_));refine V.hg ab 22 0 h afn [] U (λ_ F b c=>F ⟨b,c⟩) λe h=>?_;cases h;exact V.jU ab 4 0 () [0] U
def x3(x0:an)(a:Int):Option (bn an Empty):=
 some (.inl (2,a,x0))
theorem By{x0:an}{b:Int}{a3:bK}{Q:bu}{r:bn an Empty}(h:x3 x0 b=some r):
  je Tryz.prog 64 [.pointer a3,.int .i64 b] [] [jf a3 x0 Q] (λr (_:Unit)=>jw 39 r λr=> .tuple #[]) (λr _=>[jf a3 ((s4 r).1,(s4 r).2.1,x0.2.2.1,(s4 r).2.2.2.1,x0.2.2.2.2.1,(s4 r).2.2.2.2.2) Q]) r:=
 by refine V.jX (T:=ck) Tryz.call64 Tryz.func64 U λ_ _=>?_;unfold x3 at h;refine V.go ab 3 0 U ?_;refine V.cl (aI.Vw ab U U U U U U U U (V.cz ?_));cases h;exact V.cl (aI.panic U U U (λa h w=>Vx U a h w) () trivial U [0] U)
def x4(x0:an)(b:Int)(a:aa):Option (bn an an):=
 (a8 (λ(_:Unit)=>(aZ (x0.2.2.2.2.1.length+([a]:bt).length<=536870912)<|some (.inr (x0.1,x0.2.1,x0.2.2.1,(W (x0.2.2.2.1+1)),(x0.2.2.2.2.1++([a]:bt)),x0.2.2.2.2.2)))) λc=>(bif(decide (x0.2.2.2.1=30)) then a_ (x3 x0 b) (λx=>(x.1,x.2.1,x0.2.2.1,x.2.2.2.1,x0.2.2.2.2.1,x.2.2.2.2.2)) λy=>Empty.elim y else c ()))
theorem KG{x0:an}{c:Int}{b:aa}{a:bK}{Q:bu}{r:bn an an}(h:x4 x0 c b=some r):
  je Tryz.prog 107 [.pointer a,.int .i64 c,.string (a9 b)] [] (ed a x0 Q) (λr (q:bu)=>jw 39 r λr=> .tuple #[]) (λr q=>ed a (jV r) q) r:=
 by
  refine V.jX (T:=ck) Tryz.call107 Tryz.func107 U λ_ _=>?_;unfold x4 at h;refine V.e6 ab 0 0 h (ρ:=Unit) (λs q=>[(0,.bj ⟨a,1,1⟩ 0),(2,.v (.string (a9 b)))]) .nil (λs q=>ed a x0 Q) U ?_ ?_
  ·intro g _ h;refine V.co ab 8 0 h ⟨U,U,U,U⟩ (λh=>?_) (λh=>?_)
   ·refine V.cp ab 3 0 h By [0] [] (λ_=>Q) [0,0,0] U a5 a5 λy _ _=>y.elim
   exact V.a6 ab 1 0 h () [0,1,2] U
  rintro _ _ h;refine V.go ab 18 0 ⟨U,U,U,U,U,U,U,U,U,U⟩ ?_;refine V.cl (aI.ky U (cL.buildSlice ab U U U U U U U U U U U [] U .str [b] ⟨U,U⟩ U U λi=>aI.kz (V.cz ?_)));obtain⟨d,h⟩:=bB h;refine V.cl (aI.qF ab U U U U ⟨U,U,U,U,trivial,U,U,U,U⟩ U U U [3] U 0 U d U λe f=>V.cz ?_);cases h;exact V.oA ab 4 2 (Q.1,Q.2.1,e,f) [0,2,0] ⟨U,U,U,U⟩
def kC(x0:an):Option (bn an Empty):=
 (a8 (λ((c,b,d,e):aa×Int×Int×Int)=>a_ (x3 (c,b,x0.2.2.1,d,x0.2.2.2.2.1,e) b) (λx=>x) λy=>Empty.elim y) λf=>(a_ (lY x0) (λx=>x) λ(g,a)=>(bif(decide (g.1=0)) then a_ (rj (a.1,a.2.1,x0.2.2.1,a.2.2.2.1,x0.2.2.2.2.1,a.2.2.2.2.2)) (λx=>x) λy=>Empty.elim y else f (a.1,a.2.1,a.2.2.2.1,a.2.2.2.2.2))))
theorem wJ{x0:an}{a2:bK}{Q:bu}{r:bn an Empty}(h:kC x0=some r):
  je Tryz.prog 43 [.pointer a2] [] [jf a2 x0 Q] (λr (_:Unit)=>jw 39 r λr=> .tuple #[]) (λr _=>[jf a2 ((s4 r).1,(s4 r).2.1,x0.2.2.1,(s4 r).2.2.2.1,x0.2.2.2.2.1,(s4 r).2.2.2.2.2) Q]) r:=
 by
  refine V.jX (T:=ck) Tryz.call43 Tryz.func43 U λ_ _=>?_;unfold kC at h;refine V.e6 ab 0 0 h (ρ:=Unit) (λs q=>[(0,.bj ⟨a2,1,1⟩ 0)]) .nil (λs q=>[jf a2 (s.1,s.2.1,x0.2.2.1,s.2.2.1,x0.2.2.2.2.1,s.2.2.2) Q]) U ?_ ?_
  ·intro a _ h;refine V.cp ab 3 0 h qI [0] [] (λ_=>()) [0] U a5 a5 ?_;rintro⟨b,c⟩ _ h;refine V.co ab 3 0 h U (λh=>?_) (λh=>?_)
   ·refine V.cp ab 2 0 h DG [0] [] (λ_=>()) [0] U a5 a5 λy _ _=>y.elim
   exact V.a6 ab 1 0 h () [0] U
  rintro⟨d,e,f,g⟩ _ h;refine V.cp ab 6 0 h By [0] [] (λ_=>()) [0] ⟨U,U,U,U⟩ a5 a5 λy _ _=>y.elim
def ni(x0:an)(b:aa):Option (bn an an):=
 (a8 (λ((c,d,e,f):aa×Int×Int×Int)=>some (.inr (c,(W (d+(b.length:Int))),x0.2.2.1,e,x0.2.2.2.2.1,f))) λg=>(a_ (pe x0 b) (λx=>x) λ(h,a)=>(bif(!h) then a_ (kC (a.1,a.2.1,x0.2.2.1,a.2.2.2.1,x0.2.2.2.2.1,a.2.2.2.2.2)) (λx=>x) λy=>Empty.elim y else g (a.1,a.2.1,a.2.2.2.1,a.2.2.2.2.2))))
theorem wK{x0:an}{a:aa}{a3:bK}{Q:bu}{r:bn an an}(h:ni x0 a=some r):
  je Tryz.prog 109 [.pointer a3,.string (a9 a)] [] [jf a3 x0 Q] (λr (_:Unit)=>jw 39 r λr=> .tuple #[]) (λr _=>[jf a3 ((jV r).1,(jV r).2.1,x0.2.2.1,(jV r).2.2.2.1,x0.2.2.2.2.1,(jV r).2.2.2.2.2) Q]) r:=
 by
  refine V.jX (T:=ck) Tryz.call109 Tryz.func109 U λ_ _=>?_;unfold ni at h;refine V.e6 ab 0 0 h (ρ:=Unit) (λs q=>[(0,.bj ⟨a3,1,1⟩ 0),(1,.v (.string (a9 a)))]) .nil (λs q=>[jf a3 (s.1,s.2.1,x0.2.2.1,s.2.2.1,x0.2.2.2.2.1,s.2.2.2) Q]) U ?_ ?_
  ·intro b _ h;refine V.cp ab 4 0 h pf [0] [] (λ_=>()) [0] U a5 a5 ?_;rintro⟨c,d⟩ _ h;refine V.co ab 2 0 h U (λh=>?_) (λh=>?_)
   ·refine V.cp ab 2 0 h wJ [0] [] (λ_=>()) [0] U a5 a5 λy _ _=>y.elim
   exact V.a6 ab 1 0 h () [0] U
  rintro⟨e,f,g,i⟩ _ h;cases h;exact V.oA ab 12 0 () [0] ⟨U,U,U,U,U,U,U⟩
def s9(R:bg)(x0:an):Option (bn an an):=
 (a_ (ni x0 ([100,111]:aa)) (λx=>(x.1,x.2.1,x0.2.2.1,x.2.2.2.1,x0.2.2.2.2.1,x.2.2.2.2.2)) λ(b:an)=>(a_ (R.kl (b.1,b.2.1,x0.2.2.1,b.2.2.2.1,x0.2.2.2.2.1,b.2.2.2.2.2) 7 false) (λx=>x) λ(d,a)=>(a_ (ni a ([100,111,110,101]:aa)) (λx=>(x.1,x.2.1,a.2.2.1,x.2.2.2.1,a.2.2.2.2.1,x.2.2.2.2.2)) λ(c:an)=>some (.inr (c.1,c.2.1,a.2.2.1,c.2.2.2.1,a.2.2.2.2.1,c.2.2.2.2.2)))))
theorem PJ{R:bg}(b:h3 R){x0:an}{a2:bK}{Q:bu}{r:bn an an}(h:s9 R x0=some r):
  je Tryz.prog 113 [.pointer a2] [] (ed a2 x0 Q) (λr (q:bu)=>jw 39 r λr=> .tuple #[]) (λr q=>ed a2 (jV r) q) r:=
 by refine V.jX (T:=ck) Tryz.call113 Tryz.func113 U λ_ _=>?_;unfold s9 at h;refine V.cp ab 3 0 h wK [0] [] (λ_=>Q) [0,0,0] U a5 a5 λc _ h=>?_;refine V.cp ab 4 0 h b.kl [0,0,0] [] id [0,0,0] U a5 a5 ?_;rintro⟨d,e⟩ a h;refine V.cp ab 3 0 h wK [0] [] (λ_=>a) [0,0,0] U a5 a5 λf _ h=>?_;cases h;exact V.oA ab 1 0 a [0,0,0] U
def r9(x0:an)(b:aa):Option (bn an an):=
 (a8 (λ((c,d,e,f):aa×Int×Int×Int)=>some (.inr (c,(W (d+(b.length:Int))),x0.2.2.1,e,x0.2.2.2.2.1,f))) λg=>(a_ (nh x0 b) (λx=>x) λ(h,a)=>(bif(!h) then a_ (kC (a.1,a.2.1,x0.2.2.1,a.2.2.2.1,x0.2.2.2.2.1,a.2.2.2.2.2)) (λx=>x) λy=>Empty.elim y else g (a.1,a.2.1,a.2.2.2.1,a.2.2.2.2.2))))
theorem KI{x0:an}{a:aa}{a3:bK}{Q:bu}{r:bn an an}(h:r9 x0 a=some r):
  je Tryz.prog 108 [.pointer a3,.string (a9 a)] [] [jf a3 x0 Q] (λr (_:Unit)=>jw 39 r λr=> .tuple #[]) (λr _=>[jf a3 ((jV r).1,(jV r).2.1,x0.2.2.1,(jV r).2.2.2.1,x0.2.2.2.2.1,(jV r).2.2.2.2.2) Q]) r:=
 by
  refine V.jX (T:=ck) Tryz.call108 Tryz.func108 U λ_ _=>?_;unfold r9 at h;refine V.e6 ab 0 0 h (ρ:=Unit) (λs q=>[(0,.bj ⟨a3,1,1⟩ 0),(1,.v (.string (a9 a)))]) .nil (λs q=>[jf a3 (s.1,s.2.1,x0.2.2.1,s.2.2.1,x0.2.2.2.2.1,s.2.2.2) Q]) U ?_ ?_
  ·intro b _ h;refine V.cp ab 4 0 h p4 [0] [] (λ_=>()) [0] U a5 a5 ?_;rintro⟨c,d⟩ _ h;refine V.co ab 2 0 h U (λh=>?_) (λh=>?_)
   ·refine V.cp ab 2 0 h wJ [0] [] (λ_=>()) [0] U a5 a5 λy _ _=>y.elim
   exact V.a6 ab 1 0 h () [0] U
  rintro⟨e,f,g,i⟩ _ h;cases h;exact V.oA ab 12 0 () [0] ⟨U,U,U,U,U,U,U⟩
def uc(x0:an):Option an:=
 (aZ (0<=(0:Int)/\(0:Int)<=(W ((x0.2.2.2.2.1.length:Int)-1))/\(W ((x0.2.2.2.2.1.length:Int)-1))<=(x0.2.2.2.2.1.length:Int))<|some (x0.1,x0.2.1,x0.2.2.1,(W (x0.2.2.2.1-1)),(cg x0.2.2.2.2.1 0 (W ((x0.2.2.2.2.1.length:Int)-1))),x0.2.2.2.2.2))
theorem KJ{x0:an}{a2:bK}{Q:bu}{r:an}(h:uc x0=some r):
  gN Tryz.prog 114 [.pointer a2] [] (ed a2 x0 Q) (λ_:bu=>True) (λq=> .tuple #[]) (λq=>ed a2 r q):=
 by refine V.jo (T:=ck) Tryz.call114 Tryz.func114 U λ_ _=>?_;unfold uc at h;refine V.go ab 2 0 U ?_;refine V.cl (aI.jd 0 U λa=>V.cz ?_);obtain⟨d,h⟩:=bB h;refine V.go ab 9 0 ⟨U,U,U,U,U,U,U⟩ ?_;refine V.jW (aT.r3 U .nil [0] [11,12,13,14] trivial U (λe=>?_));refine bE.pa ab gh 13 [0,5] U (by kernel_rfl) [] [(9,.bj ⟨a2,1,1⟩ 0),(14,.bj ⟨a2,1,1⟩ 0)] U (fE U) (bE.eD ab gh true 8 [1,2,3,6,7] U (by kernel_rfl) [] [(12,.bj ⟨a2,1,1⟩ 4),(16,.bj ⟨a2,1,1⟩ 4)] trivial [0] U U ⟨(a.fS fT).1,a.fS fT,(a.fS fT).1,a.fS fT,(fE U)⟩ (bE.kJ ab gh 4 U (by kernel_rfl) U U U U U 0 U U 0 4 (x0.1,x0.2.1,(bz.v ⟨Q.1,x0.2.2.1.length,Q.2.1⟩),(W (x0.2.2.2.1-1)),(bz.v ⟨Q.2.2.1,x0.2.2.2.2.1.length,Q.2.2.2⟩),x0.2.2.2.2.2) ⟨U,U⟩ U U U trivial [0] U (bE.kJ ab gh 8 U (by kernel_rfl) U U U U U 0 U U 0 4 (x0.1,x0.2.1,(bz.v ⟨Q.1,x0.2.2.1.length,Q.2.1⟩),(W (x0.2.2.2.1-1)),(bz.v ⟨Q.2.2.1,x0.2.2.2.2.1.length,Q.2.2.2⟩),x0.2.2.2.2.2) ⟨U,U⟩ U U U trivial [0] U (bE.eD ab gh true 4 [9,10] U (by kernel_rfl) [(W ((x0.2.2.2.2.1.length:Int)-1))] [(19,.v (.int .i64 (W ((x0.2.2.2.2.1.length:Int)-1))))] trivial [0] U U ⟨⟨trivial,U⟩,⟨U,trivial⟩⟩ (bE.one 11 (by kernel_rfl) (cL.GH ab U U U U U U U U [2] U (0:Int) (W ((x0.2.2.2.2.1.length:Int)-1)) U U d U λb c=>bE.nG U (bE.pa ab gh 1 [12,13] U (by kernel_rfl) [] [(22,.bj ⟨a2,1,1⟩ 4)] U ⟨(a.fS fT).1,a.fS fT,⟨U,trivial⟩⟩ (bE.one 14 (by kernel_rfl) (cL.qE ab U U U U U U U U U [1] (fs:=[]) U 0 4 (x0.1,x0.2.1,(bz.v ⟨Q.1,x0.2.2.1.length,Q.2.1⟩),(W (x0.2.2.2.1-1)),(bz.v ⟨Q.2.2.1,x0.2.2.2.2.1.length,Q.2.2.2⟩),x0.2.2.2.2.2) (x0.1,x0.2.1,(bz.v ⟨Q.1,x0.2.2.1.length,Q.2.1⟩),(W (x0.2.2.2.1-1)),(bz.v ⟨b,(cg x0.2.2.2.2.1 0 (W ((x0.2.2.2.2.1.length:Int)-1))).length,c⟩),x0.2.2.2.2.2) ⟨U,U⟩ ⟨⟨⟨⟨⟨⟨U,U,U,U⟩,U⟩,U⟩,U⟩,U⟩,U⟩ (bE.nG U (bE.done (by kernel_rfl) (aT.boxes (B':= .nil) trivial (V.iJ ?_)))))))))))));cases h;exact V.jG ab 0 0 (Q.1,Q.2.1,b,c) [0,1,0] U
def Bz(x0:aa)(e:Int->Option (Int×Int))(f:(Int×Int)->Option (Int×Int)):(Int×Int)->Option (Int×Int):=λ(b,a)=>
 (bif(decide (a<(x0.length:Int))) then(aZ (0<=a/\a<(x0.length:Int))<|(a8 (λ(g:Int)=>f (g,(W (a+1)))) λc=>(bif(decide (((at' x0 a).toNat:Int)=(40:Int))) then c (W (b+1)) else(bif(decide (((at' x0 a).toNat:Int)=(41:Int))) then(bif(decide (0<b)) then c (W (b-1)) else(bif(decide ((W (a+1))=(x0.length:Int))) then some ((-1),1) else(aZ (0<=(W (a+1))/\(W (a+1))<(x0.length:Int))<|(bif(decide (((at' x0 (W (a+1))).toNat:Int)=(41:Int))) then some ((W (a+2)),0) else some ((-2),a))))) else(a8 (λ(h:Bool)=>(bif h then some ((-2),a) else(bif(decide (((at' x0 a).toNat:Int)=(36:Int))) then(aZ (((decide ((W (a+1))<(x0.length:Int)))=true)->0<=(W (a+1))/\(W (a+1))<(x0.length:Int))<|(aZ (((decide (((at' x0 (W (a+1))).toNat:Int)=(40:Int)))=false)->((decide ((W (a+1))<(x0.length:Int)))=true)->0<=(W (a+1))/\(W (a+1))<(x0.length:Int))<|(bif(bif(decide ((W (a+1))<(x0.length:Int))) then(bif(decide (((at' x0 (W (a+1))).toNat:Int)=(40:Int))) then true else(decide (((at' x0 (W (a+1))).toNat:Int)=(123:Int)))) else false) then some ((-2),a) else c b))) else c b))) λd=>(bif(decide (((at' x0 a).toNat:Int)=(39:Int))) then d (decide (((at' x0 a).toNat:Int)=(39:Int))) else(bif(decide (((at' x0 a).toNat:Int)=(34:Int))) then d (decide (((at' x0 a).toNat:Int)=(34:Int))) else(bif(decide (((at' x0 a).toNat:Int)=(92:Int))) then d (decide (((at' x0 a).toNat:Int)=(92:Int))) else d (decide (((at' x0 a).toNat:Int)=(96:Int))))))))))) else e b)
def BA(x0:aa)(a:Int):Option (Int×Int):=
 (au (wE a (x0.length:Int)) λ(b:Int)=>(a8 (λ(c:Int)=>some ((-1),(W (c+2)))) λd=>(fixF (Bz x0 d) bC (0,b))))
theorem afp{x0:aa}{b:Int}{r:Int×Int}(h:BA x0 b=some r):
  FC Tryz.prog 164 [.string (a9 x0),.int .i64 b] [] (λ_:Unit=>True) (λ_=> .tuple #[.int .i64 r.1,.int .i64 r.2]) (λ_=>[]):=
 by
  refine V.fI (T:=ck) Tryz.call164 Tryz.func164 U λ_=>?_;unfold BA at h;refine V.cM ab 15 0 h KB [] U λi _ h=>?_;refine V.db ab 2 0 h (ρ:=Unit) (λs q=>[(6,.v (.int .i64 s))]) .nil (λs q=>[]) U ?_ ?_
  ·intro j _ h;refine V.e8 ab 0 0 h (ρ:=Unit) (λs q=>[(0,.v (.string (a9 x0))),(6,.v (.int .i64 s.1)),(7,.v (.int .i64 s.2))]) .nil (λs q=>[]) () [] U ?_;rintro k ⟨c,a⟩ _ h;rw[Bz] at h;refine V.co ab 8 0 h U (λh=>?_) (λh=>?_)
   ·obtain⟨d,h⟩:=bB h;refine V.db ab 9 0 h (ρ:=Unit) (λs q=>[(0,.v (.string (a9 x0))),(6,.v (.int .i64 s)),(7,.v (.int .i64 a))]) .nil (λs q=>[]) ⟨d,U⟩ ?_ ?_
    ·intro l _ h;refine V.co ab 5 0 h U (λh=>?_) (λh=>?_)
     ·exact V.a6 ab 6 0 h () [] U
     refine V.co ab 5 0 h U (λh=>?_) (λh=>?_)
     ·refine V.co ab 7 0 h U (λh=>?_) (λh=>?_)
      ·exact V.a6 ab 7 0 h () [] U
      refine V.co ab 9 0 h U (λh=>?_) (λh=>?_)
      ·cases h;exact V.rt ab 5 0 () [] U
      obtain⟨e,h⟩:=bB h;refine V.co ab 9 0 h ⟨e,U⟩ (λh=>?_) (λh=>?_)
      ·cases h;exact V.rt ab 7 0 () [] U
      cases h;exact V.rt ab 6 0 () [] U
     refine V.e6 ab 0 0 h (ρ:=Unit) (λs q=>[(0,.v (.string (a9 x0))),(6,.v (.int .i64 c)),(7,.v (.int .i64 a)),(20,.v (.int .u8 ((at' x0 a).toNat:Int))),(47,.v (.bool s))]) .nil (λs q=>[]) U ?_ ?_
     ·intro m _ h;refine V.co ab 5 0 h U (λh=>?_) (λh=>?_)
      ·exact V.a6 ab 1 0 h () [] U
      refine V.co ab 5 0 h U (λh=>?_) (λh=>?_)
      ·exact V.a6 ab 1 0 h () [] U
      refine V.co ab 5 0 h U (λh=>?_) (λh=>?_)
      ·exact V.a6 ab 1 0 h () [] U
      exact V.a6 ab 4 0 h () [] U
     rintro n _ h;refine V.co ab 0 0 h U (λh=>?_) (λh=>?_)
     ·cases h;exact V.rt ab 6 0 () [] U
     refine V.co ab 5 0 h U (λh=>?_) (λh=>?_)
     ·obtain⟨f,h⟩:=bB h;obtain⟨g,h⟩:=bB h;refine V.co ab 22 0 h ⟨f,g,U⟩ (λh=>?_) (λh=>?_)
      ·cases h;exact V.rt ab 6 0 () [] U
      exact V.a6 ab 2 0 h () [] U
     exact V.a6 ab 2 0 h () [] U
    rintro o _ h
    try dsimp only at h
    exact V.el ab 6 0 h () [] U
   exact V.a6 ab 1 0 h () [] U
  rintro p _ h;cases h;exact V.rt ab 7 0 () [] U
def wL(R:bg)(x0:an):Option (bn an an):=
 (a8 (λ((g,h,i,j,k,l):an)=>some (.inr (g,h,i,j,k,l))) λc=>(aZ (0<=(W (x0.2.1+1))/\(W (x0.2.1+1))<(x0.1.length:Int))<|(bif(decide (((at' x0.1 (W (x0.2.1+1))).toNat:Int)=(123:Int))) then(a_ (x4 x0 x0.2.1 ([36,123]:aa)) (λx=>x) λ(d:an)=>(a_ (R.xW (d.1,(W (d.2.1+2)),d.2.2) (125:UInt8) true) (λx=>x) λ(m:an)=>(au (uc m) λ(n:an)=>c n))) else(aZ (((decide ((W (x0.2.1+2))<(x0.1.length:Int)))=true)->0<=(W (x0.2.1+2))/\(W (x0.2.1+2))<(x0.1.length:Int))<|(bif(bif(decide ((W (x0.2.1+2))<(x0.1.length:Int))) then(decide (((at' x0.1 (W (x0.2.1+2))).toNat:Int)=(40:Int))) else false) then(au (BA x0.1 (W (x0.2.1+3))) λ(e,o)=>(a8 (λ(_:Unit)=>c (x0.1,e,x0.2.2)) λp=>(bif(decide (e=(-1))) then a_ (wH x0 ([36,40,40]:aa)) (λx=>x) λy=>Empty.elim y else(bif(decide (e=(-2))) then a_ (x3 x0 o) (λx=>(x.1,x.2.1,x0.2.2.1,x.2.2.2.1,x0.2.2.2.2.1,x.2.2.2.2.2)) λy=>Empty.elim y else p ())))) else(a_ (x4 x0 x0.2.1 ([36,40]:aa)) (λx=>x) λ(f:an)=>(a_ (R.kl (f.1,(W (f.2.1+2)),f.2.2) 1 true) (λx=>x) λ(r,a)=>(a_ (r9 a ([41]:aa)) (λx=>(x.1,x.2.1,a.2.2.1,x.2.2.2.1,a.2.2.2.2.1,x.2.2.2.2.2)) λ(b:an)=>(au (uc (b.1,b.2.1,a.2.2.1,b.2.2.2.1,a.2.2.2.2.1,b.2.2.2.2.2)) λ(q:an)=>c q)))))))))
theorem afq{R:bg}(b:h3 R){x0:an}{a2:bK}{Q:bu}{r:bn an an}(h:wL R x0=some r):
  je Tryz.prog 142 [.pointer a2] [] (ed a2 x0 Q) (λr (q:bu)=>jw 39 r λr=> .tuple #[]) (λr q=>ed a2 (jV r) q) r:=
 by
  refine V.jX (T:=ck) Tryz.call142 Tryz.func142 U λ_ _=>?_;unfold wL at h;refine V.db ab 8 0 h (ρ:=bu) (λs q=>[]) .nil (λs q=>kK a2 s q) ⟨U,U,U,U⟩ ?_ ?_
  ·intro j _ h;obtain⟨c,h⟩:=bB h;refine V.co ab 12 0 h ⟨U,U,U,c,U⟩ (λh=>?_) (λh=>?_)
   ·refine V.cp ab 4 0 h KG [0,0,0] [] id [0,0,0] U a5 a5 λk l h=>?_;refine V.cp ab 15 0 h b.xW [0,0,0] [] id [0,0,0] ⟨U,U,U,U,U,U,U⟩ a5 a5 λm n h=>?_;refine V.bH ab 3 0 h KJ [0,0,0] [] U λo d h=>?_;exact V.a6 ab 2 0 h d [1,2,0] U
   obtain⟨a,h⟩:=bB h;refine V.co ab 22 0 h ⟨U,U,U,U,U,U,a,U⟩ (λh=>?_) (λh=>?_)
   ·refine V.cM ab 8 0 h afp [] ⟨U,U,U,U⟩ ?_;rintro⟨e,p⟩ _ h;refine V.db ab 11 0 h (ρ:=Unit) (λs q=>[(0,.bj ⟨a2,1,1⟩ 0),(3,.v (.int .i64 e))]) .nil (λs q=>ed a2 x0 Q) U ?_ ?_
    ·intro t _ h;refine V.co ab 5 0 h U (λh=>?_) (λh=>?_)
     ·refine V.cp ab 2 0 h G2 [0,0,0] [] id [0,0,0] U a5 a5 λy _ _=>y.elim
     refine V.co ab 5 0 h U (λh=>?_) (λh=>?_)
     ·refine V.cp ab 3 0 h By [0] [] (λ_=>Q) [0,0,0] U a5 a5 λy _ _=>y.elim
     exact V.a6 ab 2 0 h () [0,1,2] U
    rintro _ _ h
    try dsimp only at h
    exact V.a6 ab 8 0 h Q [1,2,0] ⟨U,U,U,U⟩
   refine V.cp ab 4 0 h KG [0,0,0] [] id [0,0,0] U a5 a5 λu v h=>?_;refine V.cp ab 15 0 h b.kl [0,0,0] [] id [0,0,0] ⟨U,U,U,U,U,U,U⟩ a5 a5 ?_;rintro⟨w,x⟩ f h;refine V.cp ab 4 0 h KI [0] [] (λ_=>f) [0,0,0] U a5 a5 λz _ h=>?_;refine V.bH ab 3 0 h KJ [0,0,0] [] U λA g h=>?_;exact V.a6 ab 2 0 h g [1,2,0] U
  rintro⟨B,C,D,E,F,G⟩ i h;cases h;exact V.oA ab 0 0 i [2,0,0] U
def Hd(R:bg)(x0:an):Option (bn an an):=
 (aZ (x0.2.2.2.2.1.length+([([34]:aa)]:bt).length<=536870912)<|(a_ (R.xW (x0.1,(W (x0.2.1+1)),x0.2.2.1,x0.2.2.2.1,(x0.2.2.2.2.1++([([34]:aa)]:bt)),x0.2.2.2.2.2) (34:UInt8) false) (λx=>x) λ(a:an)=>(aZ (0<=(0:Int)/\(0:Int)<=(W ((a.2.2.2.2.1.length:Int)-1))/\(W ((a.2.2.2.2.1.length:Int)-1))<=(a.2.2.2.2.1.length:Int))<|some (.inr (a.1,a.2.1,a.2.2.1,a.2.2.2.1,(cg a.2.2.2.2.1 0 (W ((a.2.2.2.2.1.length:Int)-1))),a.2.2.2.2.2)))))
theorem afs{R:bg}(f:h3 R){x0:an}{a2:bK}{Q:bu}{r:bn an an}(h:Hd R x0=some r):
  je Tryz.prog 141 [.pointer a2] [] (ed a2 x0 Q) (λr (q:bu)=>jw 39 r λr=> .tuple #[]) (λr q=>ed a2 (jV r) q) r:=
 by refine V.jX (T:=ck) Tryz.call141 Tryz.func141 U λ_ _=>?_;unfold Hd at h;refine V.go ab 2 0 U ?_;refine V.cl (aI.jd 0 U λc=>V.cz ?_);refine V.go ab 5 0 ⟨U,U,U,U⟩ ?_;refine V.cl (aI.ky U (cL.buildSlice ab U U U U U U U U U U U [] U .str [([34]:aa)] ⟨U,U⟩ U U λg=>aI.kz (V.cz ?_)));obtain⟨i,h⟩:=bB h;refine V.cl (aI.qF ab U U U U ⟨U,U,U,U,trivial,U,U,U,U⟩ U U U [3] U 0 U i U λj k=>V.cz ?_);refine V.go ab 3 2 ⟨U,U,U,U⟩ ?_;refine V.cp ab 15 0 h (f.xW (Q:=(Q.1,Q.2.1,j,k))) [0,2,0] [] id [0,0,0] ⟨U,U,U,U,U,U,U⟩ a5 a5 λa b h=>?_;obtain⟨l,h⟩:=bB h;refine V.go ab 1 0 U ?_;refine V.jW (aT.r3 U .nil [0] [11,12,13,14] trivial U (λm=>?_));refine bE.pa ab ri 13 [0,5] U (by kernel_rfl) [] [(20,.bj ⟨a2,1,1⟩ 0),(25,.bj ⟨a2,1,1⟩ 0)] U (fE U) (bE.eD ab ri true 8 [1,2,3,6,7] U (by kernel_rfl) [] [(23,.bj ⟨a2,1,1⟩ 4),(27,.bj ⟨a2,1,1⟩ 4)] trivial [0] U U ⟨(c.fS fT).1,c.fS fT,(c.fS fT).1,c.fS fT,(fE U)⟩ (bE.kJ ab ri 4 U (by kernel_rfl) U U U U U 0 U U 0 4 (a.1,a.2.1,(bz.v ⟨b.1,a.2.2.1.length,b.2.1⟩),a.2.2.2.1,(bz.v ⟨b.2.2.1,a.2.2.2.2.1.length,b.2.2.2⟩),a.2.2.2.2.2) ⟨U,U⟩ U U U trivial [0] U (bE.kJ ab ri 8 U (by kernel_rfl) U U U U U 0 U U 0 4 (a.1,a.2.1,(bz.v ⟨b.1,a.2.2.1.length,b.2.1⟩),a.2.2.2.1,(bz.v ⟨b.2.2.1,a.2.2.2.2.1.length,b.2.2.2⟩),a.2.2.2.2.2) ⟨U,U⟩ U U U trivial [0] U (bE.eD ab ri true 4 [9,10] U (by kernel_rfl) [(W ((a.2.2.2.2.1.length:Int)-1))] [(30,.v (.int .i64 (W ((a.2.2.2.2.1.length:Int)-1))))] trivial [0] U U ⟨⟨trivial,U⟩,⟨U,trivial⟩⟩ (bE.one 11 (by kernel_rfl) (cL.GH ab U U U U U U U U [2] U (0:Int) (W ((a.2.2.2.2.1.length:Int)-1)) U U l U λd e=>bE.nG U (bE.pa ab ri 1 [12,13] U (by kernel_rfl) [] [(33,.bj ⟨a2,1,1⟩ 4)] U ⟨(c.fS fT).1,c.fS fT,⟨U,trivial⟩⟩ (bE.one 14 (by kernel_rfl) (cL.qE ab U U U U U U U U U [1] (fs:=[]) U 0 4 (a.1,a.2.1,(bz.v ⟨b.1,a.2.2.1.length,b.2.1⟩),a.2.2.2.1,(bz.v ⟨b.2.2.1,a.2.2.2.2.1.length,b.2.2.2⟩),a.2.2.2.2.2) (a.1,a.2.1,(bz.v ⟨b.1,a.2.2.1.length,b.2.1⟩),a.2.2.2.1,(bz.v ⟨d,(cg a.2.2.2.2.1 0 (W ((a.2.2.2.2.1.length:Int)-1))).length,e⟩),a.2.2.2.2.2) ⟨U,U⟩ ⟨⟨⟨⟨⟨⟨U,U,U,U⟩,U⟩,U⟩,U⟩,U⟩,U⟩ (bE.nG U (bE.done (by kernel_rfl) (aT.boxes (B':= .nil) trivial (V.iJ ?_)))))))))))));cases h;exact V.oA ab 0 0 (b.1,b.2.1,d,e) [0,1,0] U
def wM(x0:aa)(c:Unit->Option Int)(d:Int->Option Int):Int->Option Int:=λa=>
 (bif(decide (a<(x0.length:Int))) then(aZ (0<=a/\a<(x0.length:Int))<|(a8 (λ(e:Int)=>d (W (e+1))) λb=>(bif(decide (((at' x0 a).toNat:Int)=(92:Int))) then b (W (a+1)) else(bif(decide (((at' x0 a).toNat:Int)=(96:Int))) then some (W (a+1)) else b a)))) else c ())
def BD(x0:aa)(a:Int):Option Int:=
 (au (wE a (x0.length:Int)) λ(b:Int)=>(a8 (λ(_:Unit)=>some (-1)) λc=>(fixF (wM x0 c) bC b)))
theorem afu{x0:aa}{a:Int}{r:Int}(h:BD x0 a=some r):
  FC Tryz.prog 140 [.string (a9 x0),.int .i64 a] [] (λ_:Unit=>True) (λ_=> .int .i64 r) (λ_=>[]):=
 by
  refine V.fI (T:=ck) Tryz.call140 Tryz.func140 U λ_=>?_;unfold BD at h;refine V.cM ab 10 0 h KB [] U λd _ h=>?_;refine V.db ab 2 0 h (ρ:=Unit) (λs q=>[]) .nil (λs q=>[]) U ?_ ?_
  ·intro e _ h;refine V.e8 ab 0 0 h (ρ:=Unit) (λs q=>[(0,.v (.string (a9 x0))),(5,.v (.int .i64 s))]) .nil (λs q=>[]) () [] U ?_;rintro b f _ h;rw[wM] at h;refine V.co ab 8 0 h U (λh=>?_) (λh=>?_)
   ·obtain⟨c,h⟩:=bB h;refine V.db ab 9 0 h (ρ:=Unit) (λs q=>[(0,.v (.string (a9 x0))),(5,.v (.int .i64 s))]) .nil (λs q=>[]) ⟨c,U⟩ ?_ ?_
    ·intro g _ h;refine V.co ab 5 0 h U (λh=>?_) (λh=>?_)
     ·exact V.a6 ab 6 0 h () [] U
     refine V.co ab 5 0 h U (λh=>?_) (λh=>?_)
     ·cases h;exact V.rt ab 6 0 () [] U
     exact V.a6 ab 2 0 h () [] U
    rintro i _ h
    try dsimp only at h
    exact V.el ab 6 0 h () [] U
   exact V.a6 ab 1 0 h () [] U
  rintro _ _ h;cases h;exact V.rt ab 4 0 () [] U
def vp(x0:aa)(c:Int):Option Int:=
 (au (wE c (x0.length:Int)) λ(a:Int)=>(aZ (0<=a/\a<=(x0.length:Int)/\(x0.length:Int)<=(x0.length:Int))<|(au (DO (cg x0 a (x0.length:Int)) (39:UInt8)) λ(b:Int)=>(bif(decide (b<0)) then some (-1) else some (W ((W (a+b))+1))))))
theorem PQ{x0:aa}{a:Int}{r:Int}(h:vp x0 a=some r):
  FC Tryz.prog 137 [.string (a9 x0),.int .i64 a] [] (λ_:Unit=>True) (λ_=> .int .i64 r) (λ_=>[]):=
 by
  refine V.fI (T:=ck) Tryz.call137 Tryz.func137 U λ_=>?_;unfold vp at h;refine V.cM ab 9 0 h KB [] U λc _ h=>?_;obtain⟨b,h⟩:=bB h;refine V.cM ab 7 0 h VT [] ⟨b,U⟩ λd _ h=>?_;refine V.co ab 8 0 h U (λh=>?_) (λh=>?_)
  ·cases h;exact V.rt ab 4 0 () [] U
  cases h;exact V.rt ab 9 0 () [] U
def zD(R:bg)(x0:an)(d:Bool):Option (bn an (Bool×an)):=
 (aZ (0<=x0.2.1/\x0.2.1<(x0.1.length:Int))<|(a8 (λ((e,f,g,h,i,j):an)=>some (.inr (true,(e,f,g,h,i,j)))) λa=>(bif(decide (((at' x0.1 x0.2.1).toNat:Int)=(92:Int))) then a (x0.1,(min (W (x0.2.1+2)) (x0.1.length:Int)),x0.2.2) else(bif(bif(decide (((at' x0.1 x0.2.1).toNat:Int)=(39:Int))) then d else false) then(au (vp x0.1 (W (x0.2.1+1))) λ(b:Int)=>(bif(decide (b<0)) then a_ (wH (x0.1,b,x0.2.2) ([39]:aa)) (λx=>x) λy=>Empty.elim y else a (x0.1,b,x0.2.2))) else(bif(decide (((at' x0.1 x0.2.1).toNat:Int)=(96:Int))) then(au (BD x0.1 (W (x0.2.1+1))) λ(c:Int)=>(bif(decide (c<0)) then a_ (wH (x0.1,c,x0.2.2) ([96]:aa)) (λx=>x) λy=>Empty.elim y else a (x0.1,c,x0.2.2))) else(bif(bif(decide (((at' x0.1 x0.2.1).toNat:Int)=(34:Int))) then d else false) then(a_ (Hd R x0) (λx=>x) λ(k:an)=>a k) else(au (Bq x0.1 x0.2.1) λ(l:Bool)=>(bif l then(a_ (wL R x0) (λx=>x) λ(m:an)=>a m) else some (.inr (false,x0))))))))))
theorem VY{R:bg}(a:h3 R){x0:an}{b:Bool}{a3:bK}{Q:bu}{r:bn an (Bool×an)}(h:zD R x0 b=some r):
  je Tryz.prog 119 [.pointer a3,.bool b] [] (ed a3 x0 Q) (λr (q:bu)=>jw 39 r λr=> .bool r.1) (λr q=>ed a3 (ma r) q) r:=
 by
  refine V.jX (T:=ck) Tryz.call119 Tryz.func119 U λ_ _=>?_;unfold zD at h;refine V.jH ab 5 0 U (by kernel_rfl) ?_;obtain⟨c,h⟩:=bB h;refine V.db ab 19 0 h (ρ:=bu) (λs q=>[]) .nil (λs q=>kK a3 s q) ⟨U,U,U,U,U,U,c,U⟩ ?_ ?_
  ·intro g _ h;refine V.co ab 6 0 h U (λh=>?_) (λh=>?_)
   ·exact V.a6 ab 12 0 h Q [1,2,0] ⟨U,U,U,U⟩
   refine V.co ab 9 0 h U (λh=>?_) (λh=>?_)
   ·refine V.cM ab 6 0 h PQ [] U λi _ h=>?_;refine V.co ab 12 0 h ⟨U,U,U,U,U,U,U⟩ (λh=>?_) (λh=>?_)
    ·refine V.cp ab 2 0 h G2 [0,0,0] [] id [0,0,0] U a5 a5 λy _ _=>y.elim
    exact V.a6 ab 2 0 h Q [1,2,0] U
   refine V.co ab 6 0 h U (λh=>?_) (λh=>?_)
   ·refine V.cM ab 6 0 h afu [] U λj _ h=>?_;refine V.co ab 12 0 h ⟨U,U,U,U,U,U,U⟩ (λh=>?_) (λh=>?_)
    ·refine V.cp ab 2 0 h G2 [0,0,0] [] id [0,0,0] U a5 a5 λy _ _=>y.elim
    exact V.a6 ab 2 0 h Q [1,2,0] U
   refine V.co ab 9 0 h U (λh=>?_) (λh=>?_)
   ·refine V.cp ab 2 0 h (afs a) [0,0,0] [] id [0,0,0] U a5 a5 λk d h=>?_;exact V.a6 ab 2 0 h d [1,2,0] U
   refine V.cM ab 4 0 h VR [] U λl _ h=>?_;refine V.co ab 2 0 h U (λh=>?_) (λh=>?_)
   ·refine V.cp ab 2 0 h (afq a) [0,0,0] [] id [0,0,0] U a5 a5 λm e h=>?_;exact V.a6 ab 2 0 h e [1,2,0] U
   cases h;exact V.jU ab 4 0 Q [0,0,0] U
  rintro⟨n,o,p,t,u,v⟩ f h;cases h;exact V.jU ab 4 0 f [2,0,0] U
def KL(R:bg)(i:an->Option (bn an an))(j:an->Option (bn an an)):an->Option (bn an an):=λ(b,c,d,e,f,g)=>
 (au (wD b c) λ(k:Bool)=>(bif(!k) then(a8 (λ((l,m,n,o,p,q):an)=>j (l,m,n,o,p,q)) λh=>(a_ (zD R (b,c,d,e,f,g) true) (λx=>x) λ(r,a)=>(bif(!r) then h (a.1,(W (a.2.1+1)),a.2.2) else h a))) else i (b,c,d,e,f,g)))
def k8(R:bg)(x0:an):Option (bn an an):=
 (a8 (λ((h,i,j,k):aa×Int×Int×Int)=>(a8 (λ((b,c,d,f,e,g):an)=>(bif(decide (c=(b.length:Int))) then a_ (rj (b,c,d,f,e,g)) (λx=>(x.1,x.2.1,d,x.2.2.2.1,e,x.2.2.2.2.2)) λy=>Empty.elim y else some (.inr (b,c,d,f,e,g)))) λl=>(fixF (KL R l) bC (h,i,x0.2.2.1,j,x0.2.2.2.2.1,k)))) λm=>(a_ (lY x0) (λx=>(x.1,x.2.1,x0.2.2.1,x.2.2.2.1,x0.2.2.2.2.1,x.2.2.2.2.2)) λ(n,a)=>(bif(!(decide (n.1=3))) then a_ (kC (a.1,a.2.1,x0.2.2.1,a.2.2.2.1,x0.2.2.2.2.1,a.2.2.2.2.2)) (λx=>(x.1,x.2.1,x0.2.2.1,x.2.2.2.1,x0.2.2.2.2.1,x.2.2.2.2.2)) λy=>Empty.elim y else m (a.1,a.2.1,a.2.2.2.1,a.2.2.2.2.2))))
theorem BE{R:bg}(e:h3 R){x0:an}{a2:bK}{Q:bu}{r:bn an an}(h:k8 R x0=some r):
  je Tryz.prog 92 [.pointer a2] [] (ed a2 x0 Q) (λr (q:bu)=>jw 39 r λr=> .tuple #[]) (λr q=>ed a2 (jV r) q) r:=
 by
  refine V.jX (T:=ck) Tryz.call92 Tryz.func92 U λ_ _=>?_;unfold k8 at h;refine V.e6 ab 0 0 h (ρ:=Unit) (λs q=>[(0,.bj ⟨a2,1,1⟩ 0)]) .nil (λs q=>ed a2 (s.1,s.2.1,x0.2.2.1,s.2.2.1,x0.2.2.2.2.1,s.2.2.2) Q) U ?_ ?_
  ·intro i _ h;refine V.cp ab 3 0 h qI [0] [] (λ_=>Q) [0,0,0] U a5 a5 ?_;rintro⟨j,k⟩ _ h;refine V.co ab 3 0 h U (λh=>?_) (λh=>?_)
   ·refine V.cp ab 2 0 h wJ [0] [] (λ_=>Q) [0,0,0] U a5 a5 λy _ _=>y.elim
   exact V.a6 ab 1 0 h () [0,1,2] U
  rintro⟨l,m,n,o⟩ _ h;refine V.db ab 1 0 h (ρ:=bu) (λs q=>[(0,.bj ⟨a2,1,1⟩ 0)]) .nil (λs q=>kK a2 s q) U ?_ ?_
  ·intro p _ h;refine V.e8 ab 0 0 h (ρ:=bu) (λs q=>[(0,.bj ⟨a2,1,1⟩ 0)]) .nil (λs q=>kK a2 s q) Q [1,2,0] U ?_;rintro f ⟨t,u,v,w,x,z⟩ g h;rw[KL] at h;refine V.jH ab 2 0 U (by kernel_rfl) ?_;refine V.go ab 8 2 ⟨U,U,U,U,U,U,U⟩ ?_;obtain⟨A,a,h⟩:=jS h;refine V.toQ (k1.call U U U U (Px a) U [] U U (V.s5 ?_));refine V.co ab 2 0 h U (λh=>?_) (λh=>?_)
   ·refine V.db ab 1 0 h (ρ:=bu) (λs q=>[(0,.bj ⟨a2,1,1⟩ 0)]) .nil (λs q=>kK a2 s q) U ?_ ?_
    ·intro B _ h;refine V.cp ab 3 0 h (VY e) [2,0,0] [] id [0,0,0] U a5 a5 ?_;rintro⟨C,D⟩ c h;refine V.co ab 2 0 h U (λh=>?_) (λh=>?_)
     ·exact V.a6 ab 11 0 h c [1,2,0] ⟨U,U,U,U,U,U,U⟩
     exact V.a6 ab 2 0 h c [1,2,0] U
    rintro⟨E,F,G,H,I,J⟩ b h
    try dsimp only at h
    exact V.el ab 0 0 h b [0,1,2] U
   exact V.a6 ab 1 0 h g [0,1,2] U
  rintro⟨K,L,M,N,O,P⟩ d h;refine V.jH ab 1 0 U (by kernel_rfl) ?_;refine V.co ab 11 2 h ⟨U,U,U,U,U,U,U⟩ (λh=>?_) (λh=>?_)
  ·refine V.cp ab 2 0 h DG [2] [] (λ_=>d) [0,0,0] U a5 a5 λy _ _=>y.elim
  cases h;exact V.oA ab 1 0 d [2,0,0] U
def vr(R:bg)(e:an->Option (bn an an))(d:an->Option (bn an an)):an->Option (bn an an):=λ(f,g,b,h,c,i)=>
 (a_ (nh (f,g,b,h,c,i) ([124]:aa)) (λx=>(x.1,x.2.1,b,x.2.2.2.1,c,x.2.2.2.2.2)) λ(j,a)=>(bif j then(a_ (k8 R (a.1,(W (a.2.1+1)),b,a.2.2.2.1,c,a.2.2.2.2.2)) (λx=>x) λ(k:an)=>d k) else e (a.1,a.2.1,b,a.2.2.2.1,c,a.2.2.2.2.2)))
def Hf(R:bg)(m:an->Option (bn an an))(j:an->Option (bn an an)):an->Option (bn an an):=λ(o,p,e,q,f,r)=>
 (a_ (pe (o,p,e,q,f,r) ([101,115,97,99]:aa)) (λx=>(x.1,x.2.1,e,x.2.2.2.1,f,x.2.2.2.2.2)) λ(s,a)=>(bif(!s) then(a8 (λ((t,u,v,w,y,z):an)=>j (t,u,v,w,y,z)) λA=>(a8 (λ((B,C,D,E):aa×Int×Int×Int)=>(a_ (k8 R (B,C,e,D,f,E)) (λx=>x) λ(g:an)=>(a8 (λ((F,G,k,H,l,I):an)=>(a_ (r9 (F,G,k,H,l,I) ([41]:aa)) (λx=>(x.1,x.2.1,k,x.2.2.2.1,l,x.2.2.2.2.2)) λ(i:an)=>(a_ (R.kl (i.1,i.2.1,k,i.2.2.2.1,l,i.2.2.2.2.2) 8 true) (λx=>x) λ(M,d)=>(a_ (nh d ([59,59]:aa)) (λx=>(x.1,x.2.1,d.2.2.1,x.2.2.2.1,d.2.2.2.2.1,x.2.2.2.2.2)) λ(J,b)=>(bif(!J) then m (b.1,b.2.1,d.2.2.1,b.2.2.2.1,d.2.2.2.2.1,b.2.2.2.2.2) else(a_ (k6 (b.1,(W (b.2.1+2)),d.2.2.1,b.2.2.2.1,d.2.2.2.2.1,b.2.2.2.2.2)) (λx=>x) λ(N,h)=>A (h.1,h.2.1,h.2.2.1,h.2.2.2.1,h.2.2.2.2.1,h.2.2.2.2.2))))))) λK=>(fixF (vr R K) bC (g.1,g.2.1,g.2.2.1,g.2.2.2.1,g.2.2.2.2.1,g.2.2.2.2.2))))) λn=>(a_ (nh (a.1,a.2.1,e,a.2.2.2.1,f,a.2.2.2.2.2) ([40]:aa)) (λx=>(x.1,x.2.1,e,x.2.2.2.1,f,x.2.2.2.2.2)) λ(L,c)=>(bif L then n (c.1,(W (c.2.1+1)),c.2.2.2.1,c.2.2.2.2.2) else n (c.1,c.2.1,c.2.2.2.1,c.2.2.2.2.2))))) else m (a.1,a.2.1,e,a.2.2.2.1,f,a.2.2.2.2.2)))
def DY(R:bg)(x0:an):Option (bn an an):=
 (a_ (k8 R x0) (λx=>x) λ(g:an)=>(a_ (k6 g) (λx=>x) λ(m,b)=>(a_ (ni b ([105,110]:aa)) (λx=>(x.1,x.2.1,b.2.2.1,x.2.2.2.1,b.2.2.2.2.1,x.2.2.2.2.2)) λ(c:an)=>(a_ (k6 (c.1,c.2.1,b.2.2.1,c.2.2.2.1,b.2.2.2.2.1,c.2.2.2.2.2)) (λx=>x) λ(n,a)=>(a8 (λ((h,i,e,j,f,k):an)=>(a_ (ni (h,i,e,j,f,k) ([101,115,97,99]:aa)) (λx=>(x.1,x.2.1,e,x.2.2.2.1,f,x.2.2.2.2.2)) λ(d:an)=>some (.inr (d.1,d.2.1,e,d.2.2.2.1,f,d.2.2.2.2.2)))) λl=>(fixF (Hf R l) bC (a.1,a.2.1,a.2.2.1,a.2.2.2.1,a.2.2.2.2.1,a.2.2.2.2.2)))))))
theorem afB{R:bg}(a:h3 R){x0:an}{a2:bK}{Q:bu}{r:bn an an}(h:DY R x0=some r):
  je Tryz.prog 112 [.pointer a2] [] (ed a2 x0 Q) (λr (q:bu)=>jw 39 r λr=> .tuple #[]) (λr q=>ed a2 (jV r) q) r:=
 by
  refine V.jX (T:=ck) Tryz.call112 Tryz.func112 U λ_ _=>?_;unfold DY at h;refine V.cp ab 3 0 h (BE a) [0,0,0] [] id [0,0,0] U a5 a5 λu v h=>?_;refine V.cp ab 4 0 h ua [0,0,0] [] id [0,0,0] U a5 a5 ?_;rintro⟨w,x⟩ i h;refine V.cp ab 4 0 h wK [0] [] (λ_=>i) [0,0,0] U a5 a5 λy _ h=>?_;refine V.cp ab 4 0 h ua [0,0,0] [] id [0,0,0] U a5 a5 ?_;rintro⟨z,A⟩ j h;refine V.db ab 2 0 h (ρ:=bu) (λs q=>[(0,.bj ⟨a2,1,1⟩ 0)]) .nil (λs q=>kK a2 s q) U ?_ ?_
  ·intro B _ h;refine V.e8 ab 0 0 h (ρ:=bu) (λs q=>[(0,.bj ⟨a2,1,1⟩ 0)]) .nil (λs q=>kK a2 s q) j [1,2,0] U ?_;rintro k ⟨C,D,l,E,m,F⟩ b h;rw[Hf] at h;refine V.cp ab 4 0 h pf [2] [] (λ_=>b) [0,0,0] U a5 a5 ?_;rintro⟨G,H⟩ _ h;refine V.co ab 2 0 h U (λh=>?_) (λh=>?_)
   ·refine V.db ab 1 0 h (ρ:=bu) (λs q=>[(0,.bj ⟨a2,1,1⟩ 0)]) .nil (λs q=>kK a2 s q) U ?_ ?_
    ·intro I _ h;refine V.e6 ab 0 0 h (ρ:=Unit) (λs q=>[(0,.bj ⟨a2,1,1⟩ 0)]) .nil (λs q=>ed a2 (s.1,s.2.1,l,s.2.2.1,m,s.2.2.2) b) U ?_ ?_
     ·intro J _ h;refine V.cp ab 3 0 h p4 [0] [] (λ_=>b) [0,0,0] U a5 a5 ?_;rintro⟨K,L⟩ _ h;refine V.co ab 1 0 h U (λh=>?_) (λh=>?_)
      ·exact V.a6 ab 10 0 h () [0,1,2] ⟨U,U,U,U,U,U,U⟩
      exact V.a6 ab 1 0 h () [0,1,2] U
     rintro⟨M,N,O,P⟩ _ h;refine V.cp ab 3 0 h (BE a) [0,0,0] [] id [0,0,0] U a5 a5 λS n h=>?_;refine V.db ab 2 0 h (ρ:=bu) (λs q=>[(0,.bj ⟨a2,1,1⟩ 0)]) .nil (λs q=>kK a2 s q) U ?_ ?_
     ·intro W _ h;refine V.e8 ab 0 0 h (ρ:=bu) (λs q=>[(0,.bj ⟨a2,1,1⟩ 0)]) .nil (λs q=>kK a2 s q) n [1,2,0] U ?_;rintro o ⟨X,Y,Z,jZ,m0,mx⟩ e h;rw[vr] at h;refine V.cp ab 4 0 h p4 [2] [] (λ_=>e) [0,0,0] U a5 a5 ?_;rintro⟨ko,dc⟩ _ h;refine V.co ab 1 0 h U (λh=>?_) (λh=>?_)
      ·refine V.cp ab 15 0 h (BE a) [0,0,0] [] id [0,0,0] ⟨U,U,U,U,U,U,U⟩ a5 a5 λuf p h=>?_;exact V.el ab 2 0 h p [1,2,0] U
      exact V.a6 ab 1 0 h e [1,2,0] U
     rintro⟨p8,pn,m1,p9,BF,po⟩ c h;refine V.cp ab 3 0 h KI [2] [] (λ_=>c) [0,0,0] U a5 a5 λBG _ h=>?_;refine V.cp ab 4 0 h a.kl [0,0,0] [] id [0,0,0] U a5 a5 ?_;rintro⟨V3,qM⟩ f h;refine V.cp ab 5 0 h p4 [0] [] (λ_=>f) [0,0,0] U a5 a5 ?_;rintro⟨BH,hi⟩ _ h;refine V.co ab 2 0 h U (λh=>?_) (λh=>?_)
     ·exact V.a6 ab 1 0 h f [1,2,0] U
     refine V.cp ab 14 0 h ua [0,0,0] [] id [0,0,0] ⟨U,U,U,U,U,U,U⟩ a5 a5 ?_;rintro⟨V4,kN⟩ t h
     try dsimp only at h
     exact V.a6 ab 2 0 h t [1,2,0] U
    rintro⟨V0,V1,oF,p7,DX,ug⟩ d h
    try dsimp only at h
    exact V.el ab 0 0 h d [0,1,2] U
   exact V.a6 ab 1 0 h b [1,2,0] U
  rintro⟨V5,V6,KM,Hh,BI,Hi⟩ g h;refine V.cp ab 2 0 h wK [2] [] (λ_=>g) [0,0,0] U a5 a5 λHj _ h=>?_;cases h;exact V.oA ab 1 0 g [0,0,0] U
def zI(x0:Int)(a:Int)(b:Int):Option Bool:=
 some (bif(decide (a<=x0)) then(decide (x0<=b)) else false)
theorem PW{x0:Int}{a:Int}{b:Int}{r:Bool}(h:zI x0 a b=some r):
  FC Tryz.prog 143 [.int .i64 x0,.int .i64 a,.int .i64 b] [] (λ_:Unit=>True) (λ_=> .bool r) (λ_=>[]):=
 by refine V.fI (T:=ck) Tryz.call143 Tryz.func143 U λ_=>?_;unfold zI at h;cases h;exact V.rt ab 16 0 () [] U
def Hk(x0:Int):Option Bool:=
 (au (zI x0 97 122) λ(a:Bool)=>some a)
theorem afE{x0:Int}{r:Bool}(h:Hk x0=some r):
  FC Tryz.prog 120 [.int .i64 x0] [] (λ_:Unit=>True) (λ_=> .bool r) (λ_=>[]):=
 by refine V.fI (T:=ck) Tryz.call120 Tryz.func120 U λ_=>?_;unfold Hk at h;refine V.cM ab 7 0 h PW [] U λa _ h=>?_;cases h;exact V.rt ab 2 0 () [] U
def Hl(x0:Int):Option Bool:=
 (au (zI x0 65 90) λ(a:Bool)=>some a)
theorem afF{x0:Int}{r:Bool}(h:Hl x0=some r):
  FC Tryz.prog 121 [.int .i64 x0] [] (λ_:Unit=>True) (λ_=> .bool r) (λ_=>[]):=
 by refine V.fI (T:=ck) Tryz.call121 Tryz.func121 U λ_=>?_;unfold Hl at h;refine V.cM ab 7 0 h PW [] U λa _ h=>?_;cases h;exact V.rt ab 2 0 () [] U
def D0(x0:Int):Option Bool:=
 (au (zI x0 48 57) λ(a:Bool)=>some a)
theorem V8{x0:Int}{r:Bool}(h:D0 x0=some r):
  FC Tryz.prog 122 [.int .i64 x0] [] (λ_:Unit=>True) (λ_=> .bool r) (λ_=>[]):=
 by refine V.fI (T:=ck) Tryz.call122 Tryz.func122 U λ_=>?_;unfold D0 at h;refine V.cM ab 7 0 h PW [] U λa _ h=>?_;cases h;exact V.rt ab 2 0 () [] U
def zJ(x0:aa)(d:Unit->Option Bool)(e:Int->Option Bool):Int->Option Bool:=λa=>
 (bif(decide (a<(x0.length:Int))) then(aZ (0<=a/\a<(x0.length:Int))<|(au (Hk ((at' x0 a).toNat:Int)) λ(b:Bool)=>(cP ((!b)=true) (Hl ((at' x0 a).toNat:Int)) false λ(c:Bool)=>(cP ((decide (a=0))=false/\(bif(bif(!b) then(!c) else false) then(!(decide (((at' x0 a).toNat:Int)=95))) else false)=true) (D0 ((at' x0 a).toNat:Int)) false λ(f:Bool)=>(bif(bif(bif(bif(!b) then(!c) else false) then(!(decide (((at' x0 a).toNat:Int)=95))) else false) then(bif(decide (a=0)) then true else(!f)) else false) then some false else e (W (a+1))))))) else d ())
def zK(x0:aa):Option Bool:=
 (a8 (λ(_:Unit)=>some (!(decide (x0=[])))) λa=>(fixF (zJ x0 a) bC 0))
theorem V9{x0:aa}{r:Bool}(h:zK x0=some r):
  FC Tryz.prog 93 [.string (a9 x0)] [] (λ_:Unit=>True) (λ_=> .bool r) (λ_=>[]):=
 by
  refine V.fI (T:=ck) Tryz.call93 Tryz.func93 U λ_=>?_;unfold zK at h;refine V.db ab 9 0 h (ρ:=Unit) (λs q=>[(0,.v (.string (a9 x0)))]) .nil (λs q=>[]) U ?_ ?_
  ·intro f _ h;refine V.e8 ab 0 0 h (ρ:=Unit) (λs q=>[(0,.v (.string (a9 x0))),(3,.v (.int .i64 s))]) .nil (λs q=>[]) () [] U ?_;rintro b a _ h;rw[zJ] at h;refine V.co ab 8 0 h U (λh=>?_) (λh=>?_)
   ·obtain⟨c,h⟩:=bB h;refine V.go ab 5 0 U ?_;refine V.cl (aI.eD ab 5 [((at' x0 a).toNat:Int)] [] [(4,.v (.int .i64 ((at' x0 a).toNat:Int)))] _ U ⟨c,⟨trivial,J9 _⟩,⟨U,trivial⟩,U⟩ (V.cz ?_));refine V.cM ab 4 0 h afE [] U λg _ h=>?_;refine V.hg ab 3 0 h afF [] U (λ_=>id) λi h=>?_;refine V.hg ab 11 0 h V8 [] U (λ_ F d e=>F ⟨d,e⟩) λj h=>?_;refine V.co ab 4 0 h U (λh=>?_) (λh=>?_)
    ·cases h;exact V.rt ab 4 0 () [] U
    exact V.el ab 7 0 h () [] U
   exact V.a6 ab 1 0 h () [] U
  rintro _ _ h;cases h;exact V.rt ab 6 0 () [] U
def se(x0:an):Option (bn an an):=
 (a_ (lY x0) (λx=>x) λ(b,a)=>(a8 (λ(_:Unit)=>some (.inr (a.1,(W (a.2.1+(b.2.1.length:Int))),x0.2.2.1,a.2.2.2.1,x0.2.2.2.2.1,a.2.2.2.2.2))) λc=>(cP ((bif(!(decide (b.1=3))) then true else(!b.2.2))=false) (zK b.2.1) false λ(d:Bool)=>(bif(bif(bif(!(decide (b.1=3))) then true else(!b.2.2)) then true else(!d)) then a_ (kC (a.1,a.2.1,x0.2.2.1,a.2.2.2.1,x0.2.2.2.2.1,a.2.2.2.2.2)) (λx=>x) λy=>Empty.elim y else c ()))))
theorem afG{x0:an}{a2:bK}{Q:bu}{r:bn an an}(h:se x0=some r):
  je Tryz.prog 136 [.pointer a2] [] [jf a2 x0 Q] (λr (_:Unit)=>jw 39 r λr=> .tuple #[]) (λr _=>[jf a2 ((jV r).1,(jV r).2.1,x0.2.2.1,(jV r).2.2.2.1,x0.2.2.2.2.1,(jV r).2.2.2.2.2) Q]) r:=
 by
  refine V.jX (T:=ck) Tryz.call136 Tryz.func136 U λ_ _=>?_;unfold se at h;refine V.cp ab 3 0 h qI [0] [] (λ_=>()) [0] U a5 a5 ?_;rintro⟨b,a⟩ _ h;refine V.cl (aI.o_ ab 2 [] [8] [(2,.eX 8 0)] (.new 8 65 [.int .i64 b.1,.string (a9 b.2.1),.bool b.2.2] .nil) U ⟨⟨U,trivial⟩,(jv U U)⟩ (V.cz ?_));refine V.e6 ab 1 0 h (ρ:=Unit) (λs q=>[(0,.bj ⟨a2,1,1⟩ 0),(2,.eX 8 0)]) (.new 8 65 [.int .i64 b.1,.string (a9 b.2.1),.bool b.2.2] .nil) (λs q=>[jf a2 (a.1,a.2.1,x0.2.2.1,a.2.2.2.1,x0.2.2.2.2.1,a.2.2.2.2.2) Q]) U ?_ ?_
  ·intro e _ h;refine V.hg ab 13 0 h V9 [] U (λ_=>id) λf h=>?_;refine V.co ab 3 0 h U (λh=>?_) (λh=>?_)
   ·refine V.cp ab 2 0 h wJ [0] [] (λ_=>()) [0] U a5 a5 λy _ _=>y.elim
   exact V.a6 ab 1 0 h () [0] U
  rintro _ _ h;refine V.jW (aT.jd 0 U λc=>V.iJ ?_);refine V.jW (aT.r3 U (.new 8 65 [.int .i64 b.1,.string (a9 b.2.1),.bool b.2.2] .nil) [0] [7,8,9,10] ⟨U,U,U,U,trivial⟩ U (λd=>?_));refine bE.eD ab ri true 5 [0,1,2,4,5,6] U (by kernel_rfl) [] [(21,.bj ⟨a2,1,1⟩ 0),(23,.bj ⟨a2,1,1⟩ 1),(27,.v (.int .i64 (b.2.1.length:Int)))] ⟨U,U,U,U,trivial⟩ [0] U U ⟨(c.fS fT).1,c.fS fT,(fE U)⟩ (bE.kJ ab ri 3 U (by kernel_rfl) U U U U U 0 U U 0 1 (a.1,a.2.1,(bz.v ⟨Q.1,x0.2.2.1.length,Q.2.1⟩),a.2.2.2.1,(bz.v ⟨Q.2.2.1,x0.2.2.2.2.1.length,Q.2.2.2⟩),a.2.2.2.2.2) ⟨U,U⟩ U U U ⟨U,U,U,U,trivial⟩ [0] U (bE.pa ab ri 1 [7,8,9] U (by kernel_rfl) [(W (a.2.1+(b.2.1.length:Int)))] [(28,.v (.int .i64 (W (a.2.1+(b.2.1.length:Int))))),(30,.bj ⟨a2,1,1⟩ 1)] U ⟨⟨trivial,U⟩,(c.fS fT).1,c.fS fT,(fE U)⟩ (bE.one 10 (by kernel_rfl) (cL.qE ab U U U U U U U U U [0] (fs:=[]) U 0 1 (a.1,a.2.1,(bz.v ⟨Q.1,x0.2.2.1.length,Q.2.1⟩),a.2.2.2.1,(bz.v ⟨Q.2.2.1,x0.2.2.2.2.1.length,Q.2.2.2⟩),a.2.2.2.2.2) (a.1,(W (a.2.1+(b.2.1.length:Int))),(bz.v ⟨Q.1,x0.2.2.1.length,Q.2.1⟩),a.2.2.2.1,(bz.v ⟨Q.2.2.1,x0.2.2.2.2.1.length,Q.2.2.2⟩),a.2.2.2.2.2) ⟨U,U⟩ ⟨⟨⟨U,U,U⟩,U⟩,U⟩ (bE.nG U (bE.done (by kernel_rfl) (aT.boxes (B':= .nil) trivial (V.iJ ?_))))))));cases h;exact V.oA ab 0 0 () [0] U
def vs(R:bg)(e:an->Option (bn an an))(d:an->Option (bn an an)):an->Option (bn an an):=λ(f,g,b,h,c,i)=>
 (a_ (lY (f,g,b,h,c,i)) (λx=>(x.1,x.2.1,b,x.2.2.2.1,c,x.2.2.2.2.2)) λ(j,a)=>(bif(decide (j.1=3)) then(a_ (k8 R (a.1,a.2.1,b,a.2.2.2.1,c,a.2.2.2.2.2)) (λx=>x) λ(k:an)=>d k) else e (a.1,a.2.1,b,a.2.2.2.1,c,a.2.2.2.2.2)))
def D1(R:bg)(x0:an):Option (bn an an):=
 (a_ (se x0) (λx=>(x.1,x.2.1,x0.2.2.1,x.2.2.2.1,x0.2.2.2.2.1,x.2.2.2.2.2)) λ(i:an)=>(a_ (nh (i.1,i.2.1,x0.2.2.1,i.2.2.2.1,x0.2.2.2.2.1,i.2.2.2.2.2) ([59]:aa)) (λx=>(x.1,x.2.1,x0.2.2.1,x.2.2.2.1,x0.2.2.2.2.1,x.2.2.2.2.2)) λ(m,b)=>(bif m then(a_ (k6 (b.1,(W (b.2.1+1)),x0.2.2.1,b.2.2.2.1,x0.2.2.2.2.1,b.2.2.2.2.2)) (λx=>x) λ(L,n)=>(a_ (s9 R n) (λx=>x) λ(o:an)=>some (.inr o))) else(a_ (k6 (b.1,b.2.1,x0.2.2.1,b.2.2.2.1,x0.2.2.2.2.1,b.2.2.2.2.2)) (λx=>x) λ(M,a)=>(a8 (λ((p,q,r,s,t,u):an)=>(a_ (s9 R (p,q,r,s,t,u)) (λx=>x) λ(v:an)=>some (.inr v))) λk=>(a_ (pe a ([105,110]:aa)) (λx=>(x.1,x.2.1,a.2.2.1,x.2.2.2.1,a.2.2.2.2.1,x.2.2.2.2.2)) λ(w,c)=>(bif w then(a_ (ni (c.1,c.2.1,a.2.2.1,c.2.2.2.1,a.2.2.2.2.1,c.2.2.2.2.2) ([105,110]:aa)) (λx=>(x.1,x.2.1,a.2.2.1,x.2.2.2.1,a.2.2.2.2.1,x.2.2.2.2.2)) λ(j:an)=>(a8 (λ((z,A,f,B,g,C):an)=>(a8 (λ((D,E,F,G):aa×Int×Int×Int)=>(a_ (k6 (D,E,f,F,g,G)) (λx=>x) λ(H,h)=>k (h.1,h.2.1,h.2.2.1,h.2.2.2.1,h.2.2.2.2.1,h.2.2.2.2.2))) λl=>(a_ (nh (z,A,f,B,g,C) ([59]:aa)) (λx=>(x.1,x.2.1,f,x.2.2.2.1,g,x.2.2.2.2.2)) λ(I,d)=>(bif I then l (d.1,(W (d.2.1+1)),d.2.2.2.1,d.2.2.2.2.2) else(a_ (lY (d.1,d.2.1,f,d.2.2.2.1,g,d.2.2.2.2.2)) (λx=>(x.1,x.2.1,f,x.2.2.2.1,g,x.2.2.2.2.2)) λ(J,e)=>(bif(!(decide (J.1=1))) then a_ (kC (e.1,e.2.1,f,e.2.2.2.1,g,e.2.2.2.2.2)) (λx=>(x.1,x.2.1,f,x.2.2.2.1,g,x.2.2.2.2.2)) λy=>Empty.elim y else l (e.1,e.2.1,e.2.2.2.1,e.2.2.2.2.2))))))) λK=>(fixF (vs R K) bC (j.1,j.2.1,a.2.2.1,j.2.2.2.1,a.2.2.2.2.1,j.2.2.2.2.2)))) else k (c.1,c.2.1,a.2.2.1,c.2.2.2.1,a.2.2.2.2.1,c.2.2.2.2.2))))))))
theorem afJ{R:bg}(c:h3 R){x0:an}{a2:bK}{Q:bu}{r:bn an an}(h:D1 R x0=some r):
  je Tryz.prog 111 [.pointer a2] [] (ed a2 x0 Q) (λr (q:bu)=>jw 39 r λr=> .tuple #[]) (λr q=>ed a2 (jV r) q) r:=
 by
  refine V.jX (T:=ck) Tryz.call111 Tryz.func111 U λ_ _=>?_;unfold D1 at h;refine V.cp ab 3 0 h afG [0] [] (λ_=>Q) [0,0,0] U a5 a5 λn _ h=>?_;refine V.cp ab 5 0 h p4 [0] [] (λ_=>Q) [0,0,0] U a5 a5 ?_;rintro⟨o,p⟩ _ h;refine V.co ab 1 0 h U (λh=>?_) (λh=>?_)
  ·refine V.cp ab 14 0 h ua [0,0,0] [] id [0,0,0] ⟨U,U,U,U,U,U,U⟩ a5 a5 ?_;rintro⟨t,u⟩ v h;refine V.cp ab 4 0 h (PJ c) [0,0,0] [] id [0,0,0] U a5 a5 λw g h=>?_;cases h;exact V.jU ab 1 0 g [0,0,0] U
  refine V.cp ab 4 0 h ua [0,0,0] [] id [0,0,0] U a5 a5 ?_;rintro⟨x,z⟩ a h;refine V.e6 ab 1 0 h (ρ:=bu) (λs q=>[(0,.bj ⟨a2,1,1⟩ 0)]) .nil (λs q=>kK a2 s q) U ?_ ?_
  ·intro A _ h;refine V.cp ab 3 0 h pf [0] [] (λ_=>a) [0,0,0] U a5 a5 ?_;rintro⟨B,C⟩ _ h;refine V.co ab 1 0 h U (λh=>?_) (λh=>?_)
   ·refine V.cp ab 3 0 h wK [0] [] (λ_=>a) [0,0,0] U a5 a5 λD _ h=>?_;refine V.db ab 2 0 h (ρ:=bu) (λs q=>[(0,.bj ⟨a2,1,1⟩ 0)]) .nil (λs q=>kK a2 s q) U ?_ ?_
    ·intro E _ h;refine V.e8 ab 0 0 h (ρ:=bu) (λs q=>[(0,.bj ⟨a2,1,1⟩ 0)]) .nil (λs q=>kK a2 s q) a [1,2,0] U ?_;rintro i ⟨F,G,H,I,J,K⟩ f h;rw[vs] at h;refine V.cp ab 4 0 h qI [2] [] (λ_=>f) [0,0,0] U a5 a5 ?_;rintro⟨L,M⟩ _ h;refine V.co ab 3 0 h U (λh=>?_) (λh=>?_)
     ·refine V.cp ab 4 0 h (BE c) [0,0,0] [] id [0,0,0] U a5 a5 λN j h=>?_;exact V.el ab 2 0 h j [1,2,0] U
     exact V.a6 ab 1 0 h f [1,2,0] U
    rintro⟨O,P,k,S,l,W⟩ b h;refine V.e6 ab 0 0 h (ρ:=Unit) (λs q=>[(0,.bj ⟨a2,1,1⟩ 0)]) .nil (λs q=>ed a2 (s.1,s.2.1,k,s.2.2.1,l,s.2.2.2) b) U ?_ ?_
    ·intro X _ h;refine V.cp ab 3 0 h p4 [2] [] (λ_=>b) [0,0,0] U a5 a5 ?_;rintro⟨Y,Z⟩ _ h;refine V.co ab 1 0 h U (λh=>?_) (λh=>?_)
     ·exact V.a6 ab 10 0 h () [0,1,2] ⟨U,U,U,U,U,U,U⟩
     refine V.cp ab 3 0 h qI [0] [] (λ_=>b) [0,0,0] U a5 a5 ?_;rintro⟨iC,uj⟩ _ h;refine V.co ab 3 0 h U (λh=>?_) (λh=>?_)
     ·refine V.cp ab 2 0 h wJ [0] [] (λ_=>b) [0,0,0] U a5 a5 λy _ _=>y.elim
     exact V.a6 ab 1 0 h () [0,1,2] U
    rintro⟨m1,pq,ps,p9⟩ _ h;refine V.cp ab 2 0 h ua [0,0,0] [] id [0,0,0] U a5 a5 ?_;rintro⟨m,BJ⟩ d h
    try dsimp only at h
    exact V.a6 ab 1 0 h d [1,2,0] U
   exact V.a6 ab 1 0 h a [1,2,0] U
  rintro⟨qN,rn,Hm,V_,Wa,zL⟩ Wd h;refine V.cp ab 2 0 h (PJ c) [2,0,0] [] id [0,0,0] U a5 a5 λWb e h=>?_;cases h;exact V.oA ab 1 0 e [0,0,0] U
def PZ(R:bg)(g:an->Option (bn an an))(f:an->Option (bn an an)):an->Option (bn an an):=λ(h,i,j,k,l,m)=>
 (a_ (R.kl (h,i,j,k,l,m) 3 false) (λx=>x) λ(o,c)=>(a_ (ni c ([116,104,101,110]:aa)) (λx=>(x.1,x.2.1,c.2.2.1,x.2.2.2.1,c.2.2.2.2.1,x.2.2.2.2.2)) λ(d:an)=>(a_ (R.kl (d.1,d.2.1,c.2.2.1,d.2.2.2.1,c.2.2.2.2.1,d.2.2.2.2.2) 4 false) (λx=>x) λ(p,a)=>(a_ (pe a ([101,108,105,102]:aa)) (λx=>(x.1,x.2.1,a.2.2.1,x.2.2.2.1,a.2.2.2.2.1,x.2.2.2.2.2)) λ(n,b)=>(bif(!n) then g (b.1,b.2.1,a.2.2.1,b.2.2.2.1,a.2.2.2.2.1,b.2.2.2.2.2) else(a_ (ni (b.1,b.2.1,a.2.2.1,b.2.2.2.1,a.2.2.2.2.1,b.2.2.2.2.2) ([101,108,105,102]:aa)) (λx=>(x.1,x.2.1,a.2.2.1,x.2.2.2.1,a.2.2.2.2.1,x.2.2.2.2.2)) λ(e:an)=>f (e.1,e.2.1,a.2.2.1,e.2.2.2.1,a.2.2.2.2.1,e.2.2.2.2.2)))))))
def D3(R:bg)(x0:an):Option (bn an an):=
 (a8 (λ((j,k,b,l,c,m):an)=>(a8 (λ((n,o,g,p,h,q):an)=>(a_ (ni (n,o,g,p,h,q) ([102,105]:aa)) (λx=>(x.1,x.2.1,g,x.2.2.2.1,h,x.2.2.2.2.2)) λ(e:an)=>some (.inr (e.1,e.2.1,g,e.2.2.2.1,h,e.2.2.2.2.2)))) λi=>(a_ (pe (j,k,b,l,c,m) ([101,108,115,101]:aa)) (λx=>(x.1,x.2.1,b,x.2.2.2.1,c,x.2.2.2.2.2)) λ(r,a)=>(bif r then(a_ (ni (a.1,a.2.1,b,a.2.2.2.1,c,a.2.2.2.2.2) ([101,108,115,101]:aa)) (λx=>(x.1,x.2.1,b,x.2.2.2.1,c,x.2.2.2.2.2)) λ(f:an)=>(a_ (R.kl (f.1,f.2.1,b,f.2.2.2.1,c,f.2.2.2.2.2) 5 false) (λx=>x) λ(t,d)=>i (d.1,d.2.1,d.2.2.1,d.2.2.2.1,d.2.2.2.2.1,d.2.2.2.2.2))) else i (a.1,a.2.1,b,a.2.2.2.1,c,a.2.2.2.2.2))))) λs=>(fixF (PZ R s) bC (x0.1,x0.2.1,x0.2.2.1,x0.2.2.2.1,x0.2.2.2.2.1,x0.2.2.2.2.2)))
theorem afN{R:bg}(b:h3 R){x0:an}{a2:bK}{Q:bu}{r:bn an an}(h:D3 R x0=some r):
  je Tryz.prog 110 [.pointer a2] [] (ed a2 x0 Q) (λr (q:bu)=>jw 39 r λr=> .tuple #[]) (λr q=>ed a2 (jV r) q) r:=
 by
  refine V.jX (T:=ck) Tryz.call110 Tryz.func110 U λ_ _=>?_;unfold D3 at h;refine V.db ab 1 0 h (ρ:=bu) (λs q=>[(0,.bj ⟨a2,1,1⟩ 0)]) .nil (λs q=>kK a2 s q) U ?_ ?_
  ·intro i _ h;refine V.e8 ab 0 0 h (ρ:=bu) (λs q=>[(0,.bj ⟨a2,1,1⟩ 0)]) .nil (λs q=>kK a2 s q) Q [1,2,0] U ?_;rintro e ⟨j,k,l,m,n,o⟩ p h;rw[PZ] at h;refine V.cp ab 4 0 h b.kl [2,0,0] [] id [0,0,0] U a5 a5 ?_;rintro⟨t,u⟩ f h;refine V.cp ab 4 0 h wK [0] [] (λ_=>f) [0,0,0] U a5 a5 λv _ h=>?_;refine V.cp ab 4 0 h b.kl [0,0,0] [] id [0,0,0] U a5 a5 ?_;rintro⟨w,x⟩ a h;refine V.cp ab 5 0 h pf [0] [] (λ_=>a) [0,0,0] U a5 a5 ?_;rintro⟨y,z⟩ _ h;refine V.co ab 2 0 h U (λh=>?_) (λh=>?_)
   ·exact V.a6 ab 1 0 h a [1,2,0] U
   refine V.cp ab 3 0 h wK [0] [] (λ_=>a) [0,0,0] U a5 a5 λA _ h=>?_;exact V.el ab 2 0 h a [1,2,0] U
  rintro⟨B,C,D,E,F,G⟩ c h;refine V.e6 ab 0 0 h (ρ:=bu) (λs q=>[(0,.bj ⟨a2,1,1⟩ 0)]) .nil (λs q=>kK a2 s q) U ?_ ?_
  ·intro H _ h;refine V.cp ab 3 0 h pf [2] [] (λ_=>c) [0,0,0] U a5 a5 ?_;rintro⟨I,J⟩ _ h;refine V.co ab 1 0 h U (λh=>?_) (λh=>?_)
   ·refine V.cp ab 3 0 h wK [0] [] (λ_=>c) [0,0,0] U a5 a5 λK _ h=>?_;refine V.cp ab 3 0 h b.kl [0,0,0] [] id [0,0,0] U a5 a5 ?_;rintro⟨L,M⟩ g h
    try dsimp only at h
    exact V.a6 ab 1 0 h g [1,2,0] U
   exact V.a6 ab 1 0 h c [1,2,0] U
  rintro⟨N,O,P,S,W,X⟩ d h;refine V.cp ab 2 0 h wK [2] [] (λ_=>d) [0,0,0] U a5 a5 λY _ h=>?_;cases h;exact V.oA ab 1 0 d [0,0,0] U
def BK(R:bg)(x0:an):Option (bn an an):=
 (a_ (lY x0) (λx=>(x.1,x.2.1,x0.2.2.1,x.2.2.2.1,x0.2.2.2.2.1,x.2.2.2.2.2)) λ(b,d)=>(a_ (x4 (d.1,d.2.1,x0.2.2.1,d.2.2.2.1,x0.2.2.2.2.1,d.2.2.2.2.2) d.2.1 b.2.1) (λx=>x) λ(a:an)=>(a8 (λ((i,j,k,l,m,n):an)=>(au (uc (i,j,k,l,m,n)) λ(o:an)=>some (.inr o))) λc=>(bif(decide (b.2.1=([40]:aa))) then(a_ (R.kl (a.1,(W (a.2.1+(b.2.1.length:Int))),a.2.2) 1 false) (λx=>x) λ(y23,e)=>(a_ (r9 e ([41]:aa)) (λx=>(x.1,x.2.1,e.2.2.1,x.2.2.2.1,e.2.2.2.2.1,x.2.2.2.2.2)) λ(g:an)=>c (g.1,g.2.1,e.2.2.1,g.2.2.2.1,e.2.2.2.2.1,g.2.2.2.2.2))) else(bif(decide (b.2.1=([123]:aa))) then(a_ (R.kl (a.1,(W (a.2.1+(b.2.1.length:Int))),a.2.2) 2 false) (λx=>x) λ(u,f)=>(a_ (ni f ([125]:aa)) (λx=>(x.1,x.2.1,f.2.2.1,x.2.2.2.1,f.2.2.2.2.1,x.2.2.2.2.2)) λ(h:an)=>c (h.1,h.2.1,f.2.2.1,h.2.2.2.1,f.2.2.2.2.1,h.2.2.2.2.2))) else(bif(decide (b.2.1=([105,102]:aa))) then(a_ (D3 R (a.1,(W (a.2.1+(b.2.1.length:Int))),a.2.2)) (λx=>x) λ(p:an)=>c p) else(bif(decide (b.2.1=([102,111,114]:aa))) then(a_ (D1 R (a.1,(W (a.2.1+(b.2.1.length:Int))),a.2.2)) (λx=>x) λ(q:an)=>c q) else(bif(decide (b.2.1=([99,97,115,101]:aa))) then(a_ (DY R (a.1,(W (a.2.1+(b.2.1.length:Int))),a.2.2)) (λx=>x) λ(r:an)=>c r) else(a_ (R.kl (a.1,(W (a.2.1+(b.2.1.length:Int))),a.2.2) 6 false) (λx=>x) λ(v,s)=>(a_ (s9 R s) (λx=>x) λ(t:an)=>c t))))))))))
theorem Wh{R:bg}(a:h3 R){x0:an}{a2:bK}{Q:bu}{r:bn an an}(h:BK R x0=some r):
  je Tryz.prog 87 [.pointer a2] [] (ed a2 x0 Q) (λr (q:bu)=>jw 39 r λr=> .tuple #[]) (λr q=>ed a2 (jV r) q) r:=
 by
  refine V.jX (T:=ck) Tryz.call87 Tryz.func87 U λ_ _=>?_;unfold BK at h;refine V.cp ab 3 0 h qI [0] [] (λ_=>Q) [0,0,0] U a5 a5 ?_;rintro⟨j,k⟩ _ h;refine V.cp ab 11 0 h KG [0,0,0] [] id [0,0,0] ⟨U,U,U,U⟩ a5 a5 λl m h=>?_;refine V.db ab 19 0 h (ρ:=bu) (λs q=>[(0,.bj ⟨a2,1,1⟩ 0)]) .nil (λs q=>kK a2 s q) ⟨U,U,U,U,U,U,U⟩ ?_ ?_
  ·intro n _ h;refine V.co ab 5 0 h U (λh=>?_) (λh=>?_)
   ·refine V.cp ab 3 0 h a.kl [0,0,0] [] id [0,0,0] U a5 a5 ?_;rintro⟨y23,o⟩ b h;refine V.cp ab 3 0 h KI [0] [] (λ_=>b) [0,0,0] U a5 a5 λp _ h=>?_
    try dsimp only at h
    exact V.a6 ab 2 0 h b [1,2,0] U
   refine V.co ab 5 0 h U (λh=>?_) (λh=>?_)
   ·refine V.cp ab 3 0 h a.kl [0,0,0] [] id [0,0,0] U a5 a5 ?_;rintro⟨t,u⟩ c h;refine V.cp ab 3 0 h wK [0] [] (λ_=>c) [0,0,0] U a5 a5 λv _ h=>?_
    try dsimp only at h
    exact V.a6 ab 2 0 h c [1,2,0] U
   refine V.co ab 5 0 h U (λh=>?_) (λh=>?_)
   ·refine V.cp ab 2 0 h (afN a) [0,0,0] [] id [0,0,0] U a5 a5 λw d h=>?_;exact V.a6 ab 2 0 h d [1,2,0] U
   refine V.co ab 5 0 h U (λh=>?_) (λh=>?_)
   ·refine V.cp ab 2 0 h (afJ a) [0,0,0] [] id [0,0,0] U a5 a5 λx e h=>?_;exact V.a6 ab 2 0 h e [1,2,0] U
   refine V.co ab 5 0 h U (λh=>?_) (λh=>?_)
   ·refine V.cp ab 2 0 h (afB a) [0,0,0] [] id [0,0,0] U a5 a5 λy f h=>?_;exact V.a6 ab 2 0 h f [1,2,0] U
   refine V.cp ab 3 0 h a.kl [0,0,0] [] id [0,0,0] U a5 a5 ?_;rintro⟨z,A⟩ B h;refine V.cp ab 3 0 h (PJ a) [0,0,0] [] id [0,0,0] U a5 a5 λC g h=>?_;exact V.a6 ab 2 0 h g [1,2,0] U
  rintro⟨D,E,F,G,H,I⟩ J h;refine V.bH ab 2 0 h KJ [2,0,0] [] U λK i h=>?_;cases h;exact V.oA ab 1 0 i [0,0,0] U
def Ho(x0:aa)(b:Unit->Option Bool)(c:Int->Option Bool):Int->Option Bool:=λa=>
 (bif(decide (a<(x0.length:Int))) then(aZ (0<=a/\a<(x0.length:Int))<|(au (D0 ((at' x0 a).toNat:Int)) λ(d:Bool)=>(bif(!d) then some false else c (W (a+1))))) else b ())
def D5(x0:aa):Option Bool:=
 (a8 (λ(_:Unit)=>some (!(decide (x0=[])))) λa=>(fixF (Ho x0 a) bC 0))
theorem afO{x0:aa}{r:Bool}(h:D5 x0=some r):
  FC Tryz.prog 116 [.string (a9 x0)] [] (λ_:Unit=>True) (λ_=> .bool r) (λ_=>[]):=
 by
  refine V.fI (T:=ck) Tryz.call116 Tryz.func116 U λ_=>?_;unfold D5 at h;refine V.db ab 9 0 h (ρ:=Unit) (λs q=>[(0,.v (.string (a9 x0)))]) .nil (λs q=>[]) U ?_ ?_
  ·intro d _ h;refine V.e8 ab 0 0 h (ρ:=Unit) (λs q=>[(0,.v (.string (a9 x0))),(3,.v (.int .i64 s))]) .nil (λs q=>[]) () [] U ?_;rintro b a _ h;rw[Ho] at h;refine V.co ab 8 0 h U (λh=>?_) (λh=>?_)
   ·obtain⟨c,h⟩:=bB h;refine V.go ab 5 0 U ?_;refine V.cl (aI.eD ab 4 [((at' x0 a).toNat:Int)] [] [(13,.v (.int .i64 ((at' x0 a).toNat:Int)))] _ U ⟨c,⟨trivial,J9 _⟩,⟨U,trivial⟩,U⟩ (V.cz ?_));refine V.cM ab 0 0 h V8 [] U λe _ h=>?_;refine V.co ab 2 0 h U (λh=>?_) (λh=>?_)
    ·cases h;exact V.rt ab 4 0 () [] U
    exact V.el ab 7 0 h () [] U
   exact V.a6 ab 1 0 h () [] U
  rintro _ _ h;cases h;exact V.rt ab 6 0 () [] U
def D6(x0:aa):Option Bool:=
 (au (Bx x0 ([60,60,45,32,60,60,32,60,38,32,60,62,32,62,62,32,62,38,32,62,124,32,60,32,62]:aa)) λ(a:Bool)=>some a)
theorem afP{x0:aa}{r:Bool}(h:D6 x0=some r):
  FC Tryz.prog 117 [.string (a9 x0)] [] (λ_:Unit=>True) (λ_=> .bool r) (λ_=>[]):=
 by refine V.fI (T:=ck) Tryz.call117 Tryz.func117 U λ_=>?_;unfold D6 at h;refine V.cM ab 7 0 h PI [] U λa _ h=>?_;cases h;exact V.rt ab 2 0 () [] U
def sf(x0:aa)(f:Unit->Option (aa×Int))(d:(aa×Int)->Option (aa×Int)):(aa×Int)->Option (aa×Int):=λ(b,a)=>
 (bif(decide (a<(x0.length:Int))) then(aZ (0<=a/\a<(x0.length:Int))<|(a8 (λ((g,h):aa×Int)=>d (g,(W (h+1)))) λc=>(bif(decide (((at' x0 a).toNat:Int)=(34:Int))) then some (b,(W (a+1))) else(a8 (λ(i:Bool)=>(bif i then some ([],(-1)) else(bif(decide (((at' x0 a).toNat:Int)=(92:Int))) then(bif(decide ((W (a+1))=(x0.length:Int))) then some ([],(-1)) else(aZ (0<=(W (a+1))/\(W (a+1))<(x0.length:Int))<|(bif(bif(bif(bif(decide (((at' x0 (W (a+1))).toNat:Int)=(36:Int))) then true else(decide (((at' x0 (W (a+1))).toNat:Int)=(34:Int)))) then true else(decide (((at' x0 (W (a+1))).toNat:Int)=(92:Int)))) then true else(decide (((at' x0 (W (a+1))).toNat:Int)=(96:Int)))) then(aZ (b.length+([(at' x0 (W (a+1)))]:aa).length<=536870912)<|c ((b++([(at' x0 (W (a+1)))]:aa)),(W (a+1)))) else(bif(!(decide (((at' x0 (W (a+1))).toNat:Int)=(10:Int)))) then(aZ (b.length+([(92:UInt8),(at' x0 (W (a+1)))]:aa).length<=536870912)<|c ((b++([(92:UInt8),(at' x0 (W (a+1)))]:aa)),(W (a+1)))) else c (b,(W (a+1))))))) else(aZ (0<=a/\a<(x0.length:Int))<|(aZ (b.length+([(at' x0 a)]:aa).length<=536870912)<|c ((b++([(at' x0 a)]:aa)),a)))))) λe=>(bif(decide (((at' x0 a).toNat:Int)=(36:Int))) then e (decide (((at' x0 a).toNat:Int)=(36:Int))) else e (decide (((at' x0 a).toNat:Int)=(96:Int)))))))) else f ())
def BN(x0:aa)(a:Int)(b:aa):Option (aa×Int):=
 (a8 (λ(_:Unit)=>some ([],(-1))) λc=>(fixF (sf x0 c) bC (b,a)))
theorem Wj{x0:aa}{j:Int}{d:aa}{e:bK}{f:Nat}{r:aa×Int}(h:BN x0 j d=some r):
  gN Tryz.prog 138 [.string (a9 x0),.int .i64 j,.slice e d.length f] [] [lR e d f] (λ_:bK×Nat=>True) (λq=> .tuple #[.slice q.1 r.1.length q.2,.int .i64 r.2]) (λq=>[lR q.1 r.1 q.2]):=
 by
  refine V.jo (T:=ck) Tryz.call138 Tryz.func138 U λ_ _=>?_;unfold BN at h;refine V.db ab 11 0 h (ρ:=Unit) (λs q=>[]) .nil (λs q=>[]) U ?_ ?_
  ·intro C _ h;refine V.e8 ab 0 0 h (ρ:=bK×Nat) (λs q=>[(0,.v (.string (a9 x0))),(2,.v (.slice q.1 s.1.length q.2)),(8,.v (.int .i64 s.2))]) .nil (λs q=>[lR q.1 s.1 q.2]) (e,f) [0] U ?_;rintro l ⟨k,a⟩ ⟨b,c⟩ h;rw[sf] at h;refine V.co ab 8 0 h U (λh=>?_) (λh=>?_)
   ·obtain⟨m,h⟩:=bB h;refine V.db ab 9 0 h (ρ:=bK×Nat) (λs q=>[(0,.v (.string (a9 x0))),(2,.v (.slice q.1 s.1.length q.2)),(8,.v (.int .i64 s.2))]) .nil (λs q=>[lR q.1 s.1 q.2]) ⟨m,U⟩ ?_ ?_
    ·intro D _ h;refine V.co ab 5 0 h U (λh=>?_) (λh=>?_)
     ·cases h;exact V.rx ab 8 0 (b,c) [0] U
     refine V.e6 ab 0 0 h (ρ:=Unit) (λs q=>[(0,.v (.string (a9 x0))),(2,.v (.slice b k.length c)),(8,.v (.int .i64 a)),(19,.v (.int .u8 ((at' x0 a).toNat:Int))),(31,.v (.bool s))]) .nil (λs q=>[lR b k c]) U ?_ ?_
     ·intro E _ h;refine V.co ab 5 0 h U (λh=>?_) (λh=>?_)
      ·exact V.a6 ab 1 0 h () [0] U
      exact V.a6 ab 4 0 h () [0] U
     rintro F _ h;refine V.co ab 0 0 h U (λh=>?_) (λh=>?_)
     ·cases h;refine V.go ab 5 0 U ?_;refine V.jW (aT.pY .byte bz.nil U U (V.iJ ?_));exact V.rx ab 0 0 (none,0) [0] U
     refine V.co ab 5 0 h U (λh=>?_) (λh=>?_)
     ·refine V.co ab 14 0 h U (λh=>?_) (λh=>?_)
      ·cases h;refine V.go ab 5 0 U ?_;refine V.jW (aT.pY .byte bz.nil U U (V.iJ ?_));exact V.rx ab 0 0 (none,0) [0] U
      obtain⟨n,h⟩:=bB h;refine V.co ab 25 0 h ⟨n,U⟩ (λh=>?_) (λh=>?_)
      ·refine V.go ab 3 0 U ?_;refine V.cl (aI.ky U (cL.buildSlice ab U U U U U U U U U U U [] U .byte [(at' x0 (W (a+1)))] ⟨U,U⟩ U U λG=>aI.kz (V.cz ?_)));obtain⟨o,h⟩:=bB h;refine V.cl (aI.qF ab U U U U ⟨U,U,U,U,trivial,U,U,U,U⟩ U U U [1] U 0 U o U λp t=>V.cz ?_);exact V.a6 ab 3 0 h (p,t) [0] U
      refine V.co ab 5 0 h U (λh=>?_) (λh=>?_)
      ·refine V.go ab 3 0 U ?_;refine V.cl (aI.ky U (cL.buildSlice ab U U U U U U U U U U U [] U .byte [(92:UInt8),(at' x0 (W (a+1)))] ⟨U,U⟩ U U λH=>aI.kz (V.cz ?_)));obtain⟨u,h⟩:=bB h;refine V.cl (aI.qF ab U U U U ⟨U,U,U,U,trivial,U,U,U,U⟩ U U U [1] U 0 U u U λv w=>V.cz ?_);exact V.a6 ab 3 0 h (v,w) [0] U
      exact V.a6 ab 2 0 h (b,c) [0] U
     obtain⟨x,h⟩:=bB h;refine V.go ab 5 0 ⟨x,U⟩ ?_;refine V.cl (aI.ky U (cL.buildSlice ab U U U U U U U U U U U [] U .byte [(at' x0 a)] ⟨U,U⟩ U U λy=>aI.kz (V.cz ?_)));obtain⟨z,h⟩:=bB h;refine V.cl (aI.qF ab U U U U ⟨U,U,U,U,trivial,U,U,U,U⟩ U U U [1] U 0 U z U λA B=>V.cz ?_);exact V.a6 ab 3 0 h (A,B) [0] U
    rintro⟨I,J⟩ ⟨g,i⟩ h
    try dsimp only at h
    exact V.el ab 6 0 h (g,i) [0] U
   exact V.a6 ab 1 0 h () [] U
  rintro _ _ h;cases h;refine V.go ab 5 0 U ?_;refine V.jW (aT.pY .byte bz.nil U U (V.iJ ?_));exact V.rx ab 0 0 (none,0) [0] U
def P6(x0:aa)(a:aa):Option Bool:=match a with
 |[c]=>some (decide (0<=Lib.indexByte x0 c))
 |_=>none
theorem afT{x0:aa}{a:aa}{r:Bool}(h:P6 x0 a=some r):pT Tryz.prog 162 [.string (a9 x0),.string (a9 a)] [] (.bool r):=by
 match a,h with
 |[c],h=>cases h;refine pT.GG Tryz.call162 λw=>?_;exact Tryz.strings_Contains_one (a9 x0) c w
 |[],h=>cases h
 |_::_::_,h=>cases h
def BO(x0:aa)(h:aa->Option (aa×Bool))(i:(aa×Int)->Option (aa×Bool)):(aa×Int)->Option (aa×Bool):=λ(b,a)=>
 (bif(decide (a<(x0.length:Int))) then(aZ (0<=a/\a<(x0.length:Int))<|(a8 (λ((j,k):aa×Int)=>i (j,k)) λd=>(bif(decide (((at' x0 a).toNat:Int)=(92:Int))) then(bif(decide ((W (a+1))=(x0.length:Int))) then some ([],false) else(a8 (λ(l:aa)=>d (l,(W (a+2)))) λe=>(aZ (0<=(W (a+1))/\(W (a+1))<(x0.length:Int))<|(bif(!(decide (((at' x0 (W (a+1))).toNat:Int)=(10:Int)))) then(aZ (0<=(W (a+1))/\(W (a+1))<(x0.length:Int))<|(aZ (b.length+([(at' x0 (W (a+1)))]:aa).length<=536870912)<|e (b++([(at' x0 (W (a+1)))]:aa)))) else e b)))) else(bif(decide (((at' x0 a).toNat:Int)=(39:Int))) then(au (vp x0 (W (a+1))) λ(c:Int)=>(bif(decide (c<0)) then some ([],false) else(aZ (0<=(W (a+1))/\(W (a+1))<=(W (c-1))/\(W (c-1))<=(x0.length:Int))<|(aZ (b.length+(cg x0 (W (a+1)) (W (c-1))).length<=536870912)<|d ((b++(cg x0 (W (a+1)) (W (c-1)))),c))))) else(bif(decide (((at' x0 a).toNat:Int)=(34:Int))) then(au (BN x0 (W (a+1)) b) λ(m,f)=>(bif(decide (f<0)) then some ([],false) else d (m,f))) else(a8 (λ(n:Bool)=>(bif n then some ([],false) else(aZ (0<=a/\a<(x0.length:Int))<|(aZ (b.length+([(at' x0 a)]:aa).length<=536870912)<|d ((b++([(at' x0 a)]:aa)),(W (a+1))))))) λg=>(bif(decide (((at' x0 a).toNat:Int)=(36:Int))) then g (decide (((at' x0 a).toNat:Int)=(36:Int))) else g (decide (((at' x0 a).toNat:Int)=(96:Int)))))))))) else h b)
def wN(x0:aa):Option (aa×Bool):=
 (a8 (λ(a:aa)=>(au (P6 a ([10]:aa)) λ(b:Bool)=>(bif b then some ([],false) else some (a,true)))) λc=>(fixF (BO x0 c) bC (([]:aa),0)))
theorem afU{x0:aa}{r:aa×Bool}(h:wN x0=some r):
  FC Tryz.prog 139 [.string (a9 x0)] [] (λ_:Unit=>True) (λ_=> .tuple #[.string (a9 r.1),.bool r.2]) (λ_=>[]):=
 by
  refine V.fI (T:=ck) Tryz.call139 Tryz.func139 U λ_=>?_;unfold wN at h;refine V.db ab 14 0 h (ρ:=bK×Nat) (λs q=>[(4,.v (.slice q.1 s.length q.2))]) .nil (λs q=>[lR q.1 s q.2]) U ?_ ?_
  ·intro E _ h;refine V.jW (aT.pY .byte bz.nil U U (V.iJ ?_));refine V.e8 ab 0 0 h (ρ:=bK×Nat) (λs q=>[(0,.v (.string (a9 x0))),(4,.v (.slice q.1 s.1.length q.2)),(5,.v (.int .i64 s.2))]) .nil (λs q=>[lR q.1 s.1 q.2]) (none,0) [0] U ?_;rintro F ⟨j,a⟩ ⟨a3,b⟩ h;rw[BO] at h;refine V.co ab 8 0 h U (λh=>?_) (λh=>?_)
   ·obtain⟨k,h⟩:=bB h;refine V.db ab 8 0 h (ρ:=bK×Nat) (λs q=>[(0,.v (.string (a9 x0))),(4,.v (.slice q.1 s.1.length q.2)),(5,.v (.int .i64 s.2))]) .nil (λs q=>[lR q.1 s.1 q.2]) ⟨k,U⟩ ?_ ?_
    ·intro G _ h;refine V.co ab 5 0 h U (λh=>?_) (λh=>?_)
     ·refine V.co ab 9 0 h U (λh=>?_) (λh=>?_)
      ·cases h;exact V.rt ab 5 0 () [] U
      refine V.e6 ab 1 0 h (ρ:=bK×Nat) (λs q=>[(0,.v (.string (a9 x0))),(4,.v (.slice q.1 s.length q.2)),(5,.v (.int .i64 a))]) .nil (λs q=>[lR q.1 s q.2]) U ?_ ?_
      ·intro H _ h;obtain⟨l,h⟩:=bB h;refine V.co ab 8 0 h ⟨l,U⟩ (λh=>?_) (λh=>?_)
       ·obtain⟨m,h⟩:=bB h;refine V.go ab 6 0 ⟨m,U⟩ ?_;refine V.cl (aI.ky U (cL.buildSlice ab U U U U U U U U U U U [] U .byte [(at' x0 (W (a+1)))] ⟨U,U⟩ U U λn=>aI.kz (V.cz ?_)));obtain⟨o,h⟩:=bB h;refine V.cl (aI.qF ab U U U U ⟨U,U,U,U,trivial,U,U,U,U⟩ U U U [1] U 0 U o U λc d=>V.cz ?_);exact V.a6 ab 2 0 h (c,d) [0] U
       exact V.a6 ab 1 0 h (a3,b) [0] U
      rintro I ⟨p,t⟩ h
      try dsimp only at h
      exact V.a6 ab 6 0 h (p,t) [0] U
     refine V.co ab 5 0 h U (λh=>?_) (λh=>?_)
     ·refine V.cM ab 5 0 h PQ [] U λJ _ h=>?_;refine V.co ab 8 0 h U (λh=>?_) (λh=>?_)
      ·cases h;exact V.rt ab 5 0 () [] U
      obtain⟨u,h⟩:=bB h;obtain⟨v,h⟩:=bB h;refine V.go ab 10 0 ⟨u,U⟩ ?_;refine V.cl (aI.adJ ab U U U U ⟨U,U,U,U,trivial,U,U,U,U⟩ U U [0] U v U λw x=>V.cz ?_);exact V.a6 ab 7 0 h (w,x) [0] U
     refine V.co ab 5 0 h U (λh=>?_) (λh=>?_)
     ·refine V.bH ab 6 0 h Wj [0] [] U ?_;rintro⟨K,L⟩ ⟨y,z⟩ h;refine V.co ab 12 0 h U (λh=>?_) (λh=>?_)
      ·cases h;exact V.rt ab 5 0 () [] U
      exact V.a6 ab 11 0 h (y,z) [0] U
     refine V.e6 ab 0 0 h (ρ:=Unit) (λs q=>[(0,.v (.string (a9 x0))),(4,.v (.slice a3 j.length b)),(5,.v (.int .i64 a)),(77,.v (.bool s))]) .nil (λs q=>[lR a3 j b]) U ?_ ?_
     ·intro M _ h;refine V.co ab 5 0 h U (λh=>?_) (λh=>?_)
      ·exact V.a6 ab 1 0 h () [0] U
      exact V.a6 ab 4 0 h () [0] U
     rintro N _ h;refine V.co ab 0 0 h U (λh=>?_) (λh=>?_)
     ·cases h;exact V.rt ab 5 0 () [] U
     obtain⟨A,h⟩:=bB h;refine V.go ab 6 0 ⟨A,U⟩ ?_;refine V.cl (aI.ky U (cL.buildSlice ab U U U U U U U U U U U [] U .byte [(at' x0 a)] ⟨U,U⟩ U U λO=>aI.kz (V.cz ?_)));obtain⟨B,h⟩:=bB h;refine V.cl (aI.qF ab U U U U ⟨U,U,U,U,trivial,U,U,U,U⟩ U U U [1] U 0 U B U λe f=>V.cz ?_);exact V.a6 ab 8 0 h (e,f) [0] U
    rintro⟨P,Q⟩ ⟨g,i⟩ h
    try dsimp only at h
    exact V.el ab 1 0 h (g,i) [0] U
   exact V.a6 ab 1 0 h (a3,b) [0] U
  rintro R ⟨C,D⟩ h;refine V.go ab 3 0 U ?_;refine V.cl (aI.strOf ab U U U U U U U U 0 U U (V.cz ?_));refine V.cM ab 6 0 h afT [] U λS _ h=>?_;refine V.co ab 1 0 h U (λh=>?_) (λh=>?_)
  ·cases h;exact V.rt ab 5 0 () [] U
  cases h;exact V.rt ab 7 0 () [] U
def x9(x0:an)(b:aa)(f:Int)(g:Int)(h:Int)(m:(aa×Int)->Option (bn an an))(e:(aa×Int)->Option (bn an an)):(aa×Int)->Option (bn an an):=λ(c,a)=>
 (au (wD b a) λ(n:Bool)=>(bif(bif(!n) then(decide (c=[])) else false) then(aZ (0<=a/\a<(b.length:Int))<|(a8 (λ((o,p):aa×Int)=>e (o,p)) λd=>(bif(decide (((at' b a).toNat:Int)=(92:Int))) then d (c,(W (a+2))) else(bif(decide (((at' b a).toNat:Int)=(39:Int))) then(au (vp b (W (a+1))) λ(i:Int)=>(a8 (λ(_:Unit)=>d (c,i)) λq=>(bif(decide (i<0)) then a_ (x3 (b,a,x0.2.2.1,g,x0.2.2.2.2.1,h) f) (λx=>(x.1,x.2.1,x0.2.2.1,x.2.2.2.1,x0.2.2.2.2.1,x.2.2.2.2.2)) λy=>Empty.elim y else q ()))) else(a8 (λ(r:Bool)=>(bif r then a_ (x3 (b,a,x0.2.2.1,g,x0.2.2.2.2.1,h) f) (λx=>(x.1,x.2.1,x0.2.2.1,x.2.2.2.1,x0.2.2.2.2.1,x.2.2.2.2.2)) λy=>Empty.elim y else(bif(decide (((at' b a).toNat:Int)=(34:Int))) then(au (BN b (W (a+1)) ([]:aa)) λ(u,j)=>(a8 (λ((s,t):aa×Int)=>d (s,t)) λk=>(bif(decide (j<0)) then k (([34]:aa),(b.length:Int)) else k (c,j)))) else d (c,(W (a+1)))))) λl=>(bif(decide (((at' b a).toNat:Int)=(36:Int))) then l (decide (((at' b a).toNat:Int)=(36:Int))) else l (decide (((at' b a).toNat:Int)=(96:Int))))))))) else m (c,a)))
def x_(x0:an)(h:Bool):Option (bn an an):=
 (a8 (λ((a,d,f,g):aa×Int×Int×Int)=>(a8 (λ((i,b):aa×Int)=>(aZ (0<=d/\d<=(min b (a.length:Int))/\(min b (a.length:Int))<=(a.length:Int))<|(aZ ((((cg a d (min b (a.length:Int))).length+i.length:Nat):Int)<=9223372036854775807)<|(au (wN ((cg a d (min b (a.length:Int)))++i)) λ(e,j)=>(a8 (λ(_:Unit)=>(a8 (λ(_:Unit)=>(a8 (λ(_:Unit)=>(aZ (x0.2.2.1.length+([(e,h)]:ao).length<=536870912)<|some (.inr (a,b,(x0.2.2.1++([(e,h)]:ao)),f,x0.2.2.2.2.1,g)))) λk=>(bif(decide ((a.length:Int)<=b)) then a_ (rj (a,b,x0.2.2.1,f,x0.2.2.2.2.1,g)) (λx=>(x.1,x.2.1,x0.2.2.1,x.2.2.2.1,x0.2.2.2.2.1,x.2.2.2.2.2)) λy=>Empty.elim y else k ()))) λl=>(bif(!(decide (i=[]))) then a_ (wH (a,b,x0.2.2.1,f,x0.2.2.2.2.1,g) i) (λx=>x) λy=>Empty.elim y else l ()))) λm=>(aZ (((bif h then(!(decide (e=[]))) else false)=true)->((!j)=false)->0<=(0:Int)/\0<(e.length:Int))<|(bif(bif(!j) then true else(bif(bif h then(!(decide (e=[]))) else false) then(decide (((at' e 0).toNat:Int)=(9:Int))) else false)) then a_ (x3 (a,b,x0.2.2.1,f,x0.2.2.2.2.1,g) d) (λx=>(x.1,x.2.1,x0.2.2.1,x.2.2.2.1,x0.2.2.2.2.1,x.2.2.2.2.2)) λy=>Empty.elim y else m ()))))))) λn=>(fixF (x9 x0 a d f g n) bC ([],d)))) λo=>(a_ (lY x0) (λx=>(x.1,x.2.1,x0.2.2.1,x.2.2.2.1,x0.2.2.2.2.1,x.2.2.2.2.2)) λ(p,c)=>(bif(!(decide (p.1=3))) then a_ (kC (c.1,c.2.1,x0.2.2.1,c.2.2.2.1,x0.2.2.2.2.1,c.2.2.2.2.2)) (λx=>(x.1,x.2.1,x0.2.2.1,x.2.2.2.1,x0.2.2.2.2.1,x.2.2.2.2.2)) λy=>Empty.elim y else o (c.1,c.2.1,c.2.2.2.1,c.2.2.2.2.2))))
theorem af2{x0:an}{a:Bool}{a3:bK}{Q:bu}{r:bn an an}(h:x_ x0 a=some r):
  je Tryz.prog 118 [.pointer a3,.bool a] [] (ed a3 x0 Q) (λr (q:bu)=>jw 39 r λr=> .tuple #[]) (λr q=>ed a3 (jV r) q) r:=
 by
  refine V.jX (T:=ck) Tryz.call118 Tryz.func118 U λ_ _=>?_;unfold x_ at h;refine V.e6 ab 0 0 h (ρ:=Unit) (λs q=>[(0,.bj ⟨a3,1,1⟩ 0),(1,.v (.bool a))]) .nil (λs q=>ed a3 (s.1,s.2.1,x0.2.2.1,s.2.2.1,x0.2.2.2.2.1,s.2.2.2) Q) U ?_ ?_
  ·intro I _ h;refine V.cp ab 3 0 h qI [0] [] (λ_=>Q) [0,0,0] U a5 a5 ?_;rintro⟨J,K⟩ _ h;refine V.co ab 3 0 h U (λh=>?_) (λh=>?_)
   ·refine V.cp ab 2 0 h wJ [0] [] (λ_=>Q) [0,0,0] U a5 a5 λy _ _=>y.elim
   exact V.a6 ab 1 0 h () [0,1,2] U
  rintro⟨b,f,c,d⟩ _ h;refine V.db ab 13 0 h (ρ:=Unit) (λs q=>[(0,.bj ⟨a3,1,1⟩ 0),(1,.v (.bool a)),(4,.v (.int .i64 f)),(5,.v (.string (a9 s.1)))]) .nil (λs q=>ed a3 (b,s.2,x0.2.2.1,c,x0.2.2.2.2.1,d) Q) ⟨U,U,U,U⟩ ?_ ?_
  ·intro L _ h;refine V.e8 ab 0 0 h (ρ:=Unit) (λs q=>[(0,.bj ⟨a3,1,1⟩ 0),(1,.v (.bool a)),(4,.v (.int .i64 f)),(5,.v (.string (a9 s.1)))]) .nil (λs q=>ed a3 (b,s.2,x0.2.2.1,c,x0.2.2.2.2.1,d) Q) () [0,1,2] U ?_;rintro x ⟨w,e⟩ _ h;rw[x9] at h;refine V.jH ab 2 0 U (by kernel_rfl) ?_;refine V.go ab 8 0 ⟨U,U,U,U,U,U,U⟩ ?_;obtain⟨M,j,h⟩:=jS h;refine V.toQ (k1.call U U U U (Px j) U [] U U (V.s5 ?_));refine V.co ab 6 0 h U (λh=>?_) (λh=>?_)
   ·obtain⟨z,h⟩:=bB h;refine V.jH ab 3 0 U (by kernel_rfl) ?_;refine V.db ab 10 0 h (ρ:=Unit) (λs q=>[(0,.bj ⟨a3,1,1⟩ 0),(1,.v (.bool a)),(4,.v (.int .i64 f)),(5,.v (.string (a9 s.1)))]) .nil (λs q=>ed a3 (b,s.2,x0.2.2.1,c,x0.2.2.2.2.1,d) Q) ⟨U,U,U,U,U,U,z,U⟩ ?_ ?_
    ·intro N _ h;refine V.co ab 5 0 h U (λh=>?_) (λh=>?_)
     ·exact V.a6 ab 11 0 h () [0,1,2] ⟨U,U,U,U,U,U,U⟩
     refine V.co ab 5 0 h U (λh=>?_) (λh=>?_)
     ·refine V.jH ab 1 0 U (by kernel_rfl) ?_;refine V.go ab 9 0 ⟨U,U,U,U,U,U,U⟩ ?_;obtain⟨A,B,h⟩:=jS h;refine V.toQ (k1.call U U U U (PQ B) U [] U U (V.s5 ?_));refine V.e6 ab 2 0 h (ρ:=Unit) (λs q=>[(0,.bj ⟨a3,1,1⟩ 0),(1,.v (.bool a)),(4,.v (.int .i64 f)),(5,.v (.string (a9 w))),(6,.v (.int .i64 A))]) .nil (λs q=>ed a3 (b,e,x0.2.2.1,c,x0.2.2.2.2.1,d) Q) U ?_ ?_
      ·intro O _ h;refine V.co ab 5 0 h U (λh=>?_) (λh=>?_)
       ·refine V.cp ab 3 0 h By [0] [] (λ_=>Q) [0,0,0] U a5 a5 λy _ _=>y.elim
       exact V.a6 ab 1 0 h () [0,1,2] U
      rintro _ _ h
      try dsimp only at h
      exact V.a6 ab 8 0 h () [0,1,2] ⟨U,U,U,U⟩
     refine V.e6 ab 0 0 h (ρ:=Unit) (λs q=>[(0,.bj ⟨a3,1,1⟩ 0),(1,.v (.bool a)),(4,.v (.int .i64 f)),(5,.v (.string (a9 w))),(43,.v (.int .u8 ((at' b e).toNat:Int))),(81,.v (.bool s))]) .nil (λs q=>ed a3 (b,e,x0.2.2.1,c,x0.2.2.2.2.1,d) Q) U ?_ ?_
     ·intro P _ h;refine V.co ab 5 0 h U (λh=>?_) (λh=>?_)
      ·exact V.a6 ab 1 0 h () [0,1,2] U
      exact V.a6 ab 4 0 h () [0,1,2] U
     rintro R _ h;refine V.co ab 0 0 h U (λh=>?_) (λh=>?_)
     ·refine V.cp ab 3 0 h By [0] [] (λ_=>Q) [0,0,0] U a5 a5 λy _ _=>y.elim
     refine V.co ab 5 0 h U (λh=>?_) (λh=>?_)
     ·refine V.go ab 1 0 U ?_;refine V.jW (aT.jd 0 U λg=>V.iJ ?_);obtain⟨⟨S,C⟩,k,h⟩:=jS h;refine V.jW (aT.r3 U .nil [0] [9,10,11,12,13,14] trivial U (λD=>?_));refine bE.pa ab ri 12 [0,4,5] U (by kernel_rfl) [] [(90,.bj ⟨a3,1,1⟩ 0),(95,.bj ⟨a3,1,1⟩ 0)] U ⟨(g.fS fT).1,(fE U)⟩ (bE.eD ab ri true 9 [1,2,6] U (by kernel_rfl) [] [(92,.bj ⟨a3,1,1⟩ 0),(96,.bj ⟨a3,1,1⟩ 1)] trivial [0] U U ⟨(g.fS fT).1,g.fS fT,g.fS fT,(fE U)⟩ (bE.kJ ab ri 3 U (by kernel_rfl) U U U U U 0 U U 0 0 (b,e,(bz.v ⟨Q.1,x0.2.2.1.length,Q.2.1⟩),c,(bz.v ⟨Q.2.2.1,x0.2.2.2.2.1.length,Q.2.2.2⟩),d) ⟨U,U⟩ U U U trivial [0] U (bE.kJ ab ri 7 U (by kernel_rfl) U U U U U 0 U U 0 1 (b,e,(bz.v ⟨Q.1,x0.2.2.1.length,Q.2.1⟩),c,(bz.v ⟨Q.2.2.1,x0.2.2.2.2.1.length,Q.2.2.2⟩),d) ⟨U,U⟩ U U U trivial [0] U (bE.eD ab ri true 6 [8] U (by kernel_rfl) [(W (e+1))] [(98,.v (.int .i64 (W (e+1))))] trivial [0] U U ⟨⟨trivial,U⟩,⟨U,trivial⟩⟩ (bE.one 9 (by kernel_rfl) (cL.pY .byte bz.nil U U (cL.pZ U U U U (Wj k) U [0] U [] U U ?_)))))));rintro⟨E,F⟩-;refine bE.nG U (bE.pa ab ri 0 [10,11,12,13,14] U (by kernel_rfl) [] [(8,.v (.int .i64 C))] U ⟨U,trivial⟩ (bE.done (by kernel_rfl) (aT.boxes (B':= .nil) trivial (V.iJ ?_))));refine V.e6 ab 0 0 h (ρ:=Unit) (λs q=>[(0,.bj ⟨a3,1,1⟩ 0),(1,.v (.bool a)),(4,.v (.int .i64 f)),(5,.v (.string (a9 s.1))),(8,.v (.int .i64 s.2))]) .nil (λs q=>ed a3 (b,e,x0.2.2.1,c,x0.2.2.2.2.1,d) Q) U ?_ ?_
      ·intro X _ h;refine V.co ab 5 0 h U (λh=>?_) (λh=>?_)
       ·exact V.a6 ab 12 1 h () [1,2,3] ⟨U,U,U,U⟩
       exact V.a6 ab 1 0 h () [1,2,3] U
      rintro⟨Y,Z⟩ _ h
      try dsimp only at h
      exact V.a6 ab 8 0 h () [0,1,2] ⟨U,U,U,U⟩
     exact V.a6 ab 11 0 h () [0,1,2] ⟨U,U,U,U,U,U,U⟩
    rintro⟨lT,ru⟩ _ h
    try dsimp only at h
    exact V.el ab 1 0 h () [0,1,2] U
   exact V.a6 ab 1 0 h () [0,1,2] U
  rintro⟨G,l⟩ _ h;obtain⟨m,h⟩:=bB h;obtain⟨n,h⟩:=bB h;refine V.jH ab 1 0 U (by kernel_rfl) ?_;refine V.go ab 18 0 ⟨U,U,U,U,U,U,U,U,U,m,n,U⟩ ?_;obtain⟨⟨i,Qc⟩,o,h⟩:=jS h;refine V.toQ (k1.call U U U U (afU o) U [] U U (V.s5 ?_));refine V.e6 ab 6 0 h (ρ:=Unit) (λs q=>[(0,.bj ⟨a3,1,1⟩ 0),(1,.v (.bool a)),(5,.v (.string (a9 G))),(9,.v (.string (a9 i)))]) .nil (λs q=>ed a3 (b,l,x0.2.2.1,c,x0.2.2.2.2.1,d) Q) U ?_ ?_
  ·intro Wo _ h;obtain⟨p,h⟩:=bB h;refine V.co ab 17 0 h ⟨p,U⟩ (λh=>?_) (λh=>?_)
   ·refine V.cp ab 3 0 h By [0] [] (λ_=>Q) [0,0,0] U a5 a5 λy _ _=>y.elim
   exact V.a6 ab 1 0 h () [0,1,2] U
  rintro _ _ h;refine V.e6 ab 0 0 h (ρ:=Unit) (λs q=>[(0,.bj ⟨a3,1,1⟩ 0),(1,.v (.bool a)),(9,.v (.string (a9 i)))]) .nil (λs q=>ed a3 (b,l,x0.2.2.1,c,x0.2.2.2.2.1,d) Q) U ?_ ?_
  ·intro Wn _ h;refine V.co ab 5 0 h U (λh=>?_) (λh=>?_)
   ·refine V.cp ab 3 0 h G2 [0,0,0] [] id [0,0,0] U a5 a5 λy _ _=>y.elim
   exact V.a6 ab 1 0 h () [0,1,2] U
  rintro _ _ h;refine V.e6 ab 0 0 h (ρ:=Unit) (λs q=>[(0,.bj ⟨a3,1,1⟩ 0),(1,.v (.bool a)),(9,.v (.string (a9 i)))]) .nil (λs q=>ed a3 (b,l,x0.2.2.1,c,x0.2.2.2.2.1,d) Q) U ?_ ?_
  ·intro Wm _ h;refine V.jH ab 1 0 U (by kernel_rfl) ?_;refine V.co ab 11 0 h ⟨U,U,U,U,U,U,U⟩ (λh=>?_) (λh=>?_)
   ·refine V.cp ab 2 0 h DG [0] [] (λ_=>Q) [0,0,0] U a5 a5 λy _ _=>y.elim
   exact V.a6 ab 1 0 h () [0,1,2] U
  rintro _ _ h;refine V.go ab 9 0 ⟨U,U,U,U⟩ ?_;refine V.cl (aI.ky U (cL.buildSlice ab U U U U U U U U U U U [] U (.pair .str .bool) [(i,a)] ⟨U,U⟩ U U λH=>aI.kz (V.cz ?_)));obtain⟨t,h⟩:=bB h;refine V.cl (aI.qF ab U U U U ⟨U,U,U,U,trivial,U,U,U,U⟩ U U U [2] U 0 U t U λu v=>V.cz ?_);cases h;exact V.oA ab 4 2 (u,v,Q.2.2) [0,0,1] ⟨U,U,U,U⟩
def ya(R:bg)(x0:an):Option (bn an (Bool×an)):=
 (a_ (lY x0) (λx=>(x.1,x.2.1,x0.2.2.1,x.2.2.2.1,x0.2.2.2.2.1,x.2.2.2.2.2)) λ(b,a)=>(a8 (λ(d:Int)=>(au (zy a.1 d) λ(c:aa)=>(au (D6 c) λ(g:Bool)=>(bif(!g) then some (.inr (false,(a.1,a.2.1,x0.2.2.1,a.2.2.2.1,x0.2.2.2.2.1,a.2.2.2.2.2))) else(a8 (λ((h,i,j,k,l,m):an)=>some (.inr (true,(h,i,j,k,l,m)))) λe=>(bif(bif(decide (c=([60,60]:aa))) then true else(decide (c=([60,60,45]:aa)))) then(a_ (x_ (a.1,(W (d+(c.length:Int))),x0.2.2.1,a.2.2.2.1,x0.2.2.2.2.1,a.2.2.2.2.2) (decide (c=([60,60,45]:aa)))) (λx=>x) λ(n:an)=>e n) else(a_ (k8 R (a.1,(W (d+(c.length:Int))),x0.2.2.1,a.2.2.2.1,x0.2.2.2.2.1,a.2.2.2.2.2)) (λx=>x) λ(o:an)=>e o))))))) λf=>(cP ((bif(decide (b.1=3)) then b.2.2 else false)=true) (D5 b.2.1) false λ(p:Bool)=>(bif(bif(bif(decide (b.1=3)) then b.2.2 else false) then p else false) then f (W (a.2.1+(b.2.1.length:Int))) else f a.2.1))))
theorem Qd{R:bg}(d:h3 R){x0:an}{a2:bK}{Q:bu}{r:bn an (Bool×an)}(h:ya R x0=some r):
  je Tryz.prog 90 [.pointer a2] [] (ed a2 x0 Q) (λr (q:bu)=>jw 39 r λr=> .bool r.1) (λr q=>ed a2 (ma r) q) r:=
 by
  refine V.jX (T:=ck) Tryz.call90 Tryz.func90 U λ_ _=>?_;unfold ya at h;refine V.cp ab 7 0 h qI [0] [] (λ_=>Q) [0,0,0] U a5 a5 ?_;rintro⟨b,a⟩ _ h;refine V.cl (aI.o_ ab 2 [] [8] [(3,.eX 8 0)] (.new 8 65 [.int .i64 b.1,.string (a9 b.2.1),.bool b.2.2] .nil) U ⟨⟨U,trivial⟩,(jv U U)⟩ (V.cz ?_));refine V.e6 ab 9 0 h (ρ:=Unit) (λs q=>[(0,.bj ⟨a2,1,1⟩ 0),(4,.v (.int .i64 s))]) .nil (λs q=>ed a2 (a.1,a.2.1,x0.2.2.1,a.2.2.2.1,x0.2.2.2.2.1,a.2.2.2.2.2) Q) ⟨U,U,U,U⟩ ?_ ?_
  ·intro g _ h;refine V.hg ab 12 0 h afO [] U (λ_=>id) λi h=>?_;refine V.co ab 2 0 h U (λh=>?_) (λh=>?_)
   ·exact V.a6 ab 8 0 h () [0,1,2] U
   exact V.a6 ab 1 0 h () [0,1,2] U
  rintro j _ h;refine V.cM ab 7 0 h Pw [] ⟨U,U,U,U⟩ λk _ h=>?_;refine V.cM ab 6 0 h afP [] U λl _ h=>?_;refine V.co ab 2 0 h U (λh=>?_) (λh=>?_)
  ·cases h;exact V.jU ab 4 0 Q [0,0,0] U
  refine V.e6 ab 12 0 h (ρ:=bu) (λs q=>[]) .nil (λs q=>kK a2 s q) ⟨U,U,U,U⟩ ?_ ?_
  ·intro m _ h;refine V.co ab 9 0 h U (λh=>?_) (λh=>?_)
   ·refine V.cp ab 4 0 h af2 [0,0,0] [] id [0,0,0] U a5 a5 λn e h=>?_;exact V.a6 ab 1 0 h e [1,2,0] U
   refine V.cp ab 2 0 h (BE d) [0,0,0] [] id [0,0,0] U a5 a5 λo c h=>?_;exact V.a6 ab 1 0 h c [1,2,0] U
  rintro⟨p,t,u,v,w,x⟩ f h;cases h;exact V.jU ab 4 0 f [2,0,0] U
def Qe(R:bg)(b:an->Option (bn an an))(c:an->Option (bn an an)):an->Option (bn an an):=λ(d,e,f,g,h,i)=>
 (a_ (ya R (d,e,f,g,h,i)) (λx=>x) λ(j,a)=>(bif j then c a else b a))
def D7(R:bg)(x0:an):Option (bn an an):=
 (a8 (λ((a,b,c,d,e,f):an)=>some (.inr (a,b,c,d,e,f))) λg=>(fixF (Qe R g) bC (x0.1,x0.2.1,x0.2.2.1,x0.2.2.2.1,x0.2.2.2.2.1,x0.2.2.2.2.2)))
theorem Wp{R:bg}(b:h3 R){x0:an}{a2:bK}{Q:bu}{r:bn an an}(h:D7 R x0=some r):
  je Tryz.prog 88 [.pointer a2] [] (ed a2 x0 Q) (λr (q:bu)=>jw 39 r λr=> .tuple #[]) (λr q=>ed a2 (jV r) q) r:=
 by
  refine V.jX (T:=ck) Tryz.call88 Tryz.func88 U λ_ _=>?_;unfold D7 at h;refine V.db ab 0 0 h (ρ:=bu) (λs q=>[]) .nil (λs q=>kK a2 s q) U ?_ ?_
  ·intro d _ h;refine V.e8 ab 0 0 h (ρ:=bu) (λs q=>[(0,.bj ⟨a2,1,1⟩ 0)]) .nil (λs q=>kK a2 s q) Q [1,2,0] U ?_;rintro e ⟨f,g,i,j,k,l⟩ m h;rw[Qe] at h;refine V.cp ab 4 0 h (Qd b) [2,0,0] [] id [0,0,0] U a5 a5 ?_;rintro⟨n,o⟩ a h;refine V.co ab 1 0 h U (λh=>?_) (λh=>?_)
   ·exact V.el ab 4 0 h a [1,2,0] U
   exact V.a6 ab 1 0 h a [1,2,0] U
  rintro⟨p,t,u,v,w,x⟩ c h;cases h;exact V.oA ab 0 0 c [2,0,0] U
def Hs(x0:aa):Option Bool:=
 (au (Bx x0 ([105,102,32,116,104,101,110,32,101,108,105,102,32,101,108,115,101,32,102,105,32,100,111,32,100,111,110,101,32,119,104,105,108,101,32,117,110,116,105,108,32,102,111,114,32,99,97,115,101,32,101,115,97,99,32,123,32,125,32,33]:aa)) λ(a:Bool)=>some a)
theorem agd{x0:aa}{r:Bool}(h:Hs x0=some r):
  FC Tryz.prog 89 [.string (a9 x0)] [] (λ_:Unit=>True) (λ_=> .bool r) (λ_=>[]):=
 by refine V.fI (T:=ck) Tryz.call89 Tryz.func89 U λ_=>?_;unfold Hs at h;refine V.cM ab 7 0 h PI [] U λa _ h=>?_;cases h;exact V.rt ab 2 0 () [] U
def Qg(R:bg)(d:an->Option (bn an an)):an->Option (bn an an):=λ(e,f,g,h,i,j)=>
 (a8 (λ((k,l,m,n,o,p):an)=>d (k,l,m,n,o,p)) λc=>(a_ (ya R (e,f,g,h,i,j)) (λx=>x) λ(q,a)=>(bif q then c a else(a_ (lY a) (λx=>(x.1,x.2.1,a.2.2.1,x.2.2.2.1,a.2.2.2.2.1,x.2.2.2.2.2)) λ(r,b)=>(bif(!(decide (r.1=3))) then some (.inr (b.1,b.2.1,a.2.2.1,b.2.2.2.1,a.2.2.2.2.1,b.2.2.2.2.2)) else(a_ (k8 R (b.1,b.2.1,a.2.2.1,b.2.2.2.1,a.2.2.2.2.1,b.2.2.2.2.2)) (λx=>x) λ(s:an)=>c s))))))
def zR(R:bg)(x0:an):Option (bn an an):=
 (fixF (Qg R) bC (x0.1,x0.2.1,x0.2.2.1,x0.2.2.2.1,x0.2.2.2.2.1,x0.2.2.2.2.2))
theorem Wq{R:bg}(b:h3 R){x0:an}{a2:bK}{Q:bu}{r:bn an an}(h:zR R x0=some r):
  je Tryz.prog 91 [.pointer a2] [] (ed a2 x0 Q) (λr (q:bu)=>jw 39 r λr=> .tuple #[]) (λr q=>ed a2 (jV r) q) r:=
 by
  refine V.jX (T:=ck) Tryz.call91 Tryz.func91 U λ_ _=>?_;unfold zR at h;refine V.e8 ab 1 0 h (ρ:=bu) (λs q=>[(0,.bj ⟨a2,1,1⟩ 0)]) .nil (λs q=>kK a2 s q) Q [1,2,0] U ?_;rintro e ⟨f,g,i,j,k,l⟩ m h;rw[Qg] at h;refine V.db ab 0 0 h (ρ:=bu) (λs q=>[(0,.bj ⟨a2,1,1⟩ 0)]) .nil (λs q=>kK a2 s q) U ?_ ?_
  ·intro n _ h;refine V.cp ab 4 0 h (Qd b) [2,0,0] [] id [0,0,0] U a5 a5 ?_;rintro⟨o,p⟩ a h;refine V.co ab 1 0 h U (λh=>?_) (λh=>?_)
   ·exact V.a6 ab 1 0 h a [1,2,0] U
   refine V.cp ab 5 0 h qI [0] [] (λ_=>a) [0,0,0] U a5 a5 ?_;rintro⟨t,u⟩ _ h;refine V.co ab 3 0 h U (λh=>?_) (λh=>?_)
   ·cases h;exact V.jU ab 0 0 a [0,0,0] U
   refine V.cp ab 3 0 h (BE b) [0,0,0] [] id [0,0,0] U a5 a5 λv c h=>?_;exact V.a6 ab 2 0 h c [1,2,0] U
  rintro⟨w,x,y,z,A,B⟩ d h
  try dsimp only at h
  exact V.el ab 0 0 h d [0,1,2] U
def Ht(R:bg)(x0:an):Option (bn an an):=
 (a8 (λ(_:Unit)=>(a_ (x4 x0 x0.2.1 ([102,40,41]:aa)) (λx=>x) λ(c:an)=>(a_ (r9 (c.1,(W (c.2.1+1)),c.2.2) ([41]:aa)) (λx=>(x.1,x.2.1,c.2.2.1,x.2.2.2.1,c.2.2.2.2.1,x.2.2.2.2.2)) λ(d:an)=>(a_ (k6 (d.1,d.2.1,c.2.2.1,d.2.2.2.1,c.2.2.2.2.1,d.2.2.2.2.2)) (λx=>x) λ(n,a)=>(a8 (λ((e,f,g,h):aa×Int×Int×Int)=>(a_ (BK R (e,f,a.2.2.1,g,a.2.2.2.2.1,h)) (λx=>x) λ(i:an)=>(au (uc i) λ(j:an)=>some (.inr j)))) λk=>(a_ (DR a) (λx=>(x.1,x.2.1,a.2.2.1,x.2.2.2.1,a.2.2.2.2.1,x.2.2.2.2.2)) λ(l,b)=>(bif(!l) then a_ (kC (b.1,b.2.1,a.2.2.1,b.2.2.2.1,a.2.2.2.2.1,b.2.2.2.2.2)) (λx=>(x.1,x.2.1,a.2.2.1,x.2.2.2.1,a.2.2.2.2.1,x.2.2.2.2.2)) λy=>Empty.elim y else k (b.1,b.2.1,b.2.2.2.1,b.2.2.2.2.2)))))))) λm=>(bif(decide (30<(W (x0.2.2.2.1+2)))) then a_ (x3 x0 x0.2.1) (λx=>(x.1,x.2.1,x0.2.2.1,x.2.2.2.1,x0.2.2.2.2.1,x.2.2.2.2.2)) λy=>Empty.elim y else m ()))
theorem age{R:bg}(c:h3 R){x0:an}{a2:bK}{Q:bu}{r:bn an an}(h:Ht R x0=some r):
  je Tryz.prog 94 [.pointer a2] [] (ed a2 x0 Q) (λr (q:bu)=>jw 39 r λr=> .tuple #[]) (λr q=>ed a2 (jV r) q) r:=
 by
  refine V.jX (T:=ck) Tryz.call94 Tryz.func94 U λ_ _=>?_;unfold Ht at h;refine V.e6 ab 0 0 h (ρ:=Unit) (λs q=>[(0,.bj ⟨a2,1,1⟩ 0)]) .nil (λs q=>ed a2 x0 Q) U ?_ ?_
  ·intro f _ h;refine V.co ab 9 0 h ⟨U,U,U,U⟩ (λh=>?_) (λh=>?_)
   ·refine V.cp ab 6 0 h By [0] [] (λ_=>Q) [0,0,0] ⟨U,U,U,U⟩ a5 a5 λy _ _=>y.elim
   exact V.a6 ab 1 0 h () [0,1,2] U
  rintro _ _ h;refine V.cp ab 7 0 h KG [0,0,0] [] id [0,0,0] ⟨U,U,U,U⟩ a5 a5 λg d h=>?_;refine V.cp ab 15 0 h KI [0] [] (λ_=>d) [0,0,0] ⟨U,U,U,U,U,U,U⟩ a5 a5 λi _ h=>?_;refine V.cp ab 4 0 h ua [0,0,0] [] id [0,0,0] U a5 a5 ?_;rintro⟨j,b⟩ a h;refine V.e6 ab 1 0 h (ρ:=Unit) (λs q=>[(0,.bj ⟨a2,1,1⟩ 0)]) .nil (λs q=>ed a2 (s.1,s.2.1,b.2.2.1,s.2.2.1,b.2.2.2.2.1,s.2.2.2) a) U ?_ ?_
  ·intro k _ h;refine V.cp ab 3 0 h VX [0] [] (λ_=>a) [0,0,0] U a5 a5 ?_;rintro⟨l,m⟩ _ h;refine V.co ab 2 0 h U (λh=>?_) (λh=>?_)
   ·refine V.cp ab 2 0 h wJ [0] [] (λ_=>a) [0,0,0] U a5 a5 λy _ _=>y.elim
   exact V.a6 ab 1 0 h () [0,1,2] U
  rintro⟨n,o,p,t⟩ _ h;refine V.cp ab 3 0 h (Wh c) [0,0,0] [] id [0,0,0] U a5 a5 λu v h=>?_;refine V.bH ab 3 0 h KJ [0,0,0] [] U λw e h=>?_;cases h;exact V.oA ab 1 0 e [0,0,0] U
def zS(R:bg)(x0:an):Option (bn an an):=
 (a_ (DR x0) (λx=>(x.1,x.2.1,x0.2.2.1,x.2.2.2.1,x0.2.2.2.2.1,x.2.2.2.2.2)) λ(h,b)=>(bif h then(a_ (BK R (b.1,b.2.1,x0.2.2.1,b.2.2.2.1,x0.2.2.2.2.1,b.2.2.2.2.2)) (λx=>x) λ(i:an)=>(a_ (D7 R i) (λx=>x) λ(j:an)=>some (.inr j))) else(a_ (lY (b.1,b.2.1,x0.2.2.1,b.2.2.2.1,x0.2.2.2.2.1,b.2.2.2.2.2)) (λx=>(x.1,x.2.1,x0.2.2.1,x.2.2.2.1,x0.2.2.2.2.1,x.2.2.2.2.2)) λ(a,c)=>(a8 (λ(_:Unit)=>(a_ (ya R (c.1,c.2.1,x0.2.2.1,c.2.2.2.1,x0.2.2.2.2.1,c.2.2.2.2.2)) (λx=>x) λ(k,f)=>(bif k then(a_ (zR R f) (λx=>x) λ(l:an)=>some (.inr l)) else(a8 (λ(_:Unit)=>(a_ (k8 R f) (λx=>x) λ(d:an)=>(cP (a.2.2=true) (zK a.2.1) false λ(g:Bool)=>(nc ((bif a.2.2 then g else false)=true) (nh d ([40]:aa)) (λx=>(x.1,x.2.1,d.2.2.1,x.2.2.2.1,d.2.2.2.2.1,x.2.2.2.2.2)) (false,d) λ(m,e)=>(bif(bif(bif a.2.2 then g else false) then m else false) then(a_ (Ht R (e.1,e.2.1,d.2.2.1,e.2.2.2.1,d.2.2.2.2.1,e.2.2.2.2.2)) (λx=>x) λ(n:an)=>(a_ (D7 R n) (λx=>x) λ(o:an)=>some (.inr o))) else(a_ (zR R (e.1,e.2.1,d.2.2.1,e.2.2.2.1,d.2.2.2.2.1,e.2.2.2.2.2)) (λx=>x) λ(p:an)=>some (.inr p))))))) λq=>(bif(!(decide (a.1=3))) then a_ (kC f) (λx=>(x.1,x.2.1,f.2.2.1,x.2.2.2.1,f.2.2.2.2.1,x.2.2.2.2.2)) λy=>Empty.elim y else q ()))))) λr=>(cP ((bif(decide (a.1=3)) then a.2.2 else false)=true) (Hs a.2.1) false λ(s:Bool)=>(bif(bif(bif(decide (a.1=3)) then a.2.2 else false) then s else false) then a_ (kC (c.1,c.2.1,x0.2.2.1,c.2.2.2.1,x0.2.2.2.2.1,c.2.2.2.2.2)) (λx=>(x.1,x.2.1,x0.2.2.1,x.2.2.2.1,x0.2.2.2.2.1,x.2.2.2.2.2)) λy=>Empty.elim y else r ()))))))
theorem Ws{R:bg}(b:h3 R){x0:an}{a2:bK}{Q:bu}{r:bn an an}(h:zS R x0=some r):
  je Tryz.prog 73 [.pointer a2] [] (ed a2 x0 Q) (λr (q:bu)=>jw 39 r λr=> .tuple #[]) (λr q=>ed a2 (jV r) q) r:=
 by
  refine V.jX (T:=ck) Tryz.call73 Tryz.func73 U λ_ _=>?_;unfold zS at h;refine V.cp ab 4 0 h VX [0] [] (λ_=>Q) [0,0,0] U a5 a5 ?_;rintro⟨v,w⟩ _ h;refine V.co ab 1 0 h U (λh=>?_) (λh=>?_)
  ·refine V.cp ab 3 0 h (Wh b) [0,0,0] [] id [0,0,0] U a5 a5 λx z h=>?_;refine V.cp ab 4 0 h (Wp b) [0,0,0] [] id [0,0,0] U a5 a5 λA l h=>?_;cases h;exact V.jU ab 1 0 l [0,0,0] U
  refine V.cp ab 4 0 h qI [0] [] (λ_=>Q) [0,0,0] U a5 a5 ?_;rintro⟨a,c⟩ _ h;refine V.cl (aI.o_ ab 2 [] [30] [(2,.eX 30 0)] (.new 30 65 [.int .i64 a.1,.string (a9 a.2.1),.bool a.2.2] .nil) U ⟨⟨U,trivial⟩,(jv U U)⟩ (V.cz ?_));refine V.e6 ab 1 0 h (ρ:=Unit) (λs q=>[(0,.bj ⟨a2,1,1⟩ 0),(2,.eX 30 0)]) (.new 30 65 [.int .i64 a.1,.string (a9 a.2.1),.bool a.2.2] .nil) (λs q=>ed a2 (c.1,c.2.1,x0.2.2.1,c.2.2.2.1,x0.2.2.2.2.1,c.2.2.2.2.2) Q) U ?_ ?_
  ·intro B _ h;refine V.hg ab 12 0 h agd [] U (λ_=>id) λC h=>?_;refine V.co ab 2 0 h U (λh=>?_) (λh=>?_)
   ·refine V.cp ab 2 0 h wJ [0] [] (λ_=>Q) [0,0,0] U a5 a5 λy _ _=>y.elim
   exact V.a6 ab 1 0 h () [0,1,2] U
  rintro _ _ h;refine V.cp ab 4 0 h (Qd b) [0,0,0] [] id [0,0,0] U a5 a5 ?_;rintro⟨D,m⟩ k h;refine V.co ab 1 0 h U (λh=>?_) (λh=>?_)
  ·refine V.cp ab 3 0 h (Wq b) [0,0,0] [] id [0,0,0] U a5 a5 λE n h=>?_;cases h;exact V.jU ab 1 0 n [0,0,0] U
  refine V.e6 ab 1 0 h (ρ:=Unit) (λs q=>[(0,.bj ⟨a2,1,1⟩ 0),(2,.eX 30 0)]) (.new 30 65 [.int .i64 a.1,.string (a9 a.2.1),.bool a.2.2] .nil) (λs q=>ed a2 m k) U ?_ ?_
  ·intro F _ h;refine V.co ab 6 0 h U (λh=>?_) (λh=>?_)
   ·refine V.cp ab 2 0 h wJ [0] [] (λ_=>k) [0,0,0] U a5 a5 λy _ _=>y.elim
   exact V.a6 ab 1 0 h () [0,1,2] U
  rintro _ _ h;refine V.cp ab 3 0 h (BE b) [0,0,0] [] id [0,0,0] U a5 a5 λG o h=>?_;refine V.hg ab 9 0 h V9 [] U (λ_=>id) λH h=>?_;refine V.go ab 3 0 U ?_;rcases zr h with⟨d,p,e,rfl⟩|⟨⟨I,J⟩,e,f,h⟩
  ·exact V.cl (aI.zt U U U ⟨d,trivial⟩ (p4 e) U [0] U [] U (λ_=>U) (λs _=>⟨o,trivial,U,[0,0,0],_,U⟩))
  refine V.cl (aI.zq U U U U (λg=>pc.ret (p4 (e g)) (λ_=>U)) U [0] U [] U U () (λi=>by cases f (λt=>i ⟨t,trivial⟩);rfl) λ_ _=>V.cz ?_);refine V.co ab 2 0 h U (λh=>?_) (λh=>?_)
  ·refine V.cp ab 3 0 h (age b) [0,0,0] [] id [0,0,0] U a5 a5 λK L h=>?_;refine V.cp ab 4 0 h (Wp b) [0,0,0] [] id [0,0,0] U a5 a5 λM j h=>?_;cases h;exact V.jU ab 1 0 j [0,0,0] U
  refine V.cp ab 3 0 h (Wq b) [0,0,0] [] id [0,0,0] U a5 a5 λN u h=>?_;cases h;exact V.oA ab 1 0 u [0,0,0] U
def K0(R:bg)(d:an->Option (bn an an))(e:an->Option (bn an an)):an->Option (bn an an):=λ(f,g,b,h,c,i)=>
 (a_ (nh (f,g,b,h,c,i) ([124]:aa)) (λx=>(x.1,x.2.1,b,x.2.2.2.1,c,x.2.2.2.2.2)) λ(j,a)=>(bif j then(a_ (k6 (a.1,(W (a.2.1+1)),b,a.2.2.2.1,c,a.2.2.2.2.2)) (λx=>x) λ(m,k)=>(a_ (zS R k) (λx=>x) λ(l:an)=>e l)) else d (a.1,a.2.1,b,a.2.2.2.1,c,a.2.2.2.2.2)))
def BR(R:bg)(x0:an):Option (bn an an):=
 (a8 (λ((d,e,f,g):aa×Int×Int×Int)=>(a_ (zS R (d,e,x0.2.2.1,f,x0.2.2.2.2.1,g)) (λx=>x) λ(b:an)=>(a8 (λ((h,i,j,k,l,m):an)=>some (.inr (h,i,j,k,l,m))) λn=>(fixF (K0 R n) bC (b.1,b.2.1,b.2.2.1,b.2.2.2.1,b.2.2.2.2.1,b.2.2.2.2.2))))) λc=>(a_ (pe x0 ([33]:aa)) (λx=>(x.1,x.2.1,x0.2.2.1,x.2.2.2.1,x0.2.2.2.2.1,x.2.2.2.2.2)) λ(o,a)=>(bif o then c (a.1,(W (a.2.1+1)),a.2.2.2.1,a.2.2.2.2.2) else c (a.1,a.2.1,a.2.2.2.1,a.2.2.2.2.2))))
theorem Wt{R:bg}(a:h3 R){x0:an}{a2:bK}{Q:bu}{r:bn an an}(h:BR R x0=some r):
  je Tryz.prog 59 [.pointer a2] [] (ed a2 x0 Q) (λr (q:bu)=>jw 39 r λr=> .tuple #[]) (λr q=>ed a2 (jV r) q) r:=
 by
  refine V.jX (T:=ck) Tryz.call59 Tryz.func59 U λ_ _=>?_;unfold BR at h;refine V.e6 ab 0 0 h (ρ:=Unit) (λs q=>[(0,.bj ⟨a2,1,1⟩ 0)]) .nil (λs q=>ed a2 (s.1,s.2.1,x0.2.2.1,s.2.2.1,x0.2.2.2.2.1,s.2.2.2) Q) U ?_ ?_
  ·intro g _ h;refine V.cp ab 3 0 h pf [0] [] (λ_=>Q) [0,0,0] U a5 a5 ?_;rintro⟨i,j⟩ _ h;refine V.co ab 1 0 h U (λh=>?_) (λh=>?_)
   ·exact V.a6 ab 10 0 h () [0,1,2] ⟨U,U,U,U,U,U,U⟩
   exact V.a6 ab 1 0 h () [0,1,2] U
  rintro⟨k,l,m,n⟩ _ h;refine V.cp ab 3 0 h (Ws a) [0,0,0] [] id [0,0,0] U a5 a5 λo c h=>?_;refine V.db ab 1 0 h (ρ:=bu) (λs q=>[]) .nil (λs q=>kK a2 s q) U ?_ ?_
  ·intro p _ h;refine V.e8 ab 0 0 h (ρ:=bu) (λs q=>[(0,.bj ⟨a2,1,1⟩ 0)]) .nil (λs q=>kK a2 s q) c [1,2,0] U ?_;rintro d ⟨t,u,v,w,x,y⟩ b h;rw[K0] at h;refine V.cp ab 4 0 h p4 [2] [] (λ_=>b) [0,0,0] U a5 a5 ?_;rintro⟨z,A⟩ _ h;refine V.co ab 1 0 h U (λh=>?_) (λh=>?_)
   ·refine V.cp ab 16 0 h ua [0,0,0] [] id [0,0,0] ⟨U,U,U,U,U,U,U⟩ a5 a5 ?_;rintro⟨B,C⟩ D h;refine V.cp ab 3 0 h (Ws a) [0,0,0] [] id [0,0,0] U a5 a5 λE e h=>?_;exact V.el ab 2 0 h e [1,2,0] U
   exact V.a6 ab 1 0 h b [1,2,0] U
  rintro⟨F,G,H,I,J,K⟩ f h;cases h;exact V.oA ab 0 0 f [2,0,0] U
def Qj(R:bg)(g:an->Option (bn an an))(e:an->Option (bn an an)):an->Option (bn an an):=λ(h,i,c,j,d,k)=>
 (a_ (nh (h,i,c,j,d,k) ([38,38]:aa)) (λx=>(x.1,x.2.1,c,x.2.2.2.1,d,x.2.2.2.2.2)) λ(f,a)=>(nc (f=false) (nh (a.1,a.2.1,c,a.2.2.2.1,d,a.2.2.2.2.2) ([124,124]:aa)) (λx=>(x.1,x.2.1,c,x.2.2.2.1,d,x.2.2.2.2.2)) (false,(a.1,a.2.1,c,a.2.2.2.1,d,a.2.2.2.2.2)) λ(l,b)=>(bif(bif f then true else l) then(a_ (k6 (b.1,(W (b.2.1+2)),c,b.2.2.2.1,d,b.2.2.2.2.2)) (λx=>x) λ(o,m)=>(a_ (BR R m) (λx=>x) λ(n:an)=>e n)) else g (b.1,b.2.1,c,b.2.2.2.1,d,b.2.2.2.2.2))))
def zT(R:bg)(x0:an):Option (bn an an):=
 (a_ (BR R x0) (λx=>x) λ(a:an)=>(a8 (λ((b,c,d,e,f,g):an)=>some (.inr (b,c,d,e,f,g))) λh=>(fixF (Qj R h) bC (a.1,a.2.1,a.2.2.1,a.2.2.2.1,a.2.2.2.2.1,a.2.2.2.2.2))))
theorem agm{R:bg}(e:h3 R){x0:an}{a2:bK}{Q:bu}{r:bn an an}(h:zT R x0=some r):
  je Tryz.prog 40 [.pointer a2] [] (ed a2 x0 Q) (λr (q:bu)=>jw 39 r λr=> .tuple #[]) (λr q=>ed a2 (jV r) q) r:=
 by
  refine V.jX (T:=ck) Tryz.call40 Tryz.func40 U λ_ _=>?_;unfold zT at h;refine V.cp ab 3 0 h (Wt e) [0,0,0] [] id [0,0,0] U a5 a5 λn f h=>?_;refine V.db ab 1 0 h (ρ:=bu) (λs q=>[]) .nil (λs q=>kK a2 s q) U ?_ ?_
  ·intro o _ h;refine V.e8 ab 0 0 h (ρ:=bu) (λs q=>[(0,.bj ⟨a2,1,1⟩ 0)]) .nil (λs q=>kK a2 s q) f [1,2,0] U ?_;rintro g ⟨p,t,u,v,w,x⟩ a h;rw[Qj] at h;refine V.cp ab 4 0 h p4 [2] [] (λ_=>a) [0,0,0] U a5 a5 ?_;rintro⟨y,z⟩ _ h;refine V.go ab 2 0 U ?_;rcases zr h with⟨b,A,c,rfl⟩|⟨⟨B,C⟩,c,i,h⟩
   ·exact V.cl (aI.zt U U U ⟨b,trivial⟩ (p4 c) U [0] U [] U (λ_=>U) (λs _=>⟨a,trivial,U,[0,0,0],_,U⟩))
   refine V.cl (aI.zq U U U U (λj=>pc.ret (p4 (c j)) (λ_=>U)) U [0] U [] U U () (λk=>by cases i (λl=>k ⟨l,trivial⟩);rfl) λ_ _=>V.cz ?_);refine V.co ab 2 0 h U (λh=>?_) (λh=>?_)
   ·refine V.cp ab 16 0 h ua [0,0,0] [] id [0,0,0] ⟨U,U,U,U,U,U,U⟩ a5 a5 ?_;rintro⟨D,E⟩ F h;refine V.cp ab 3 0 h (Wt e) [0,0,0] [] id [0,0,0] U a5 a5 λG m h=>?_;exact V.el ab 2 0 h m [1,2,0] U
   exact V.a6 ab 1 0 h a [1,2,0] U
  rintro⟨H,I,J,K,L,M⟩ d h;cases h;exact V.oA ab 0 0 d [2,0,0] U
def Hv(R:bg)(l:Int)(m:Bool)(k:(Int×an)->Option (bn an (Int×an))):(Int×an)->Option (bn an (Int×an)):=λ(h,n,o,i,p,j,q)=>
 (a8 (λ((u,v,w,z,A,B):an)=>k ((W (h+1)),u,v,w,z,A,B)) λr=>(nc ((bif m then true else(decide (0<h)))=true) (DQ (n,o,i,p,j,q) l) (λx=>(x.1,x.2.1,i,x.2.2.2.1,j,x.2.2.2.2.2)) (false,(n,o,i,p,j,q)) λ(C,c)=>(bif(bif(bif m then true else(decide (0<h))) then C else false) then some (.inr (h,(c.1,c.2.1,i,c.2.2.2.1,j,c.2.2.2.2.2))) else(a_ (zT R (c.1,c.2.1,i,c.2.2.2.1,j,c.2.2.2.2.2)) (λx=>x) λ(b:an)=>(a_ (nh b ([59]:aa)) (λx=>(x.1,x.2.1,b.2.2.1,x.2.2.2.1,b.2.2.2.2.1,x.2.2.2.2.2)) λ(s,d)=>(nc (s=false) (nh (d.1,d.2.1,b.2.2.1,d.2.2.2.1,b.2.2.2.2.1,d.2.2.2.2.2) ([38]:aa)) (λx=>(x.1,x.2.1,b.2.2.1,x.2.2.2.1,b.2.2.2.2.1,x.2.2.2.2.2)) (false,(d.1,d.2.1,b.2.2.1,d.2.2.2.1,b.2.2.2.2.1,d.2.2.2.2.2)) λ(D,e)=>(bif(bif s then true else D) then(a_ (k6 (e.1,(W (e.2.1+1)),b.2.2.1,e.2.2.2.1,b.2.2.2.2.1,e.2.2.2.2.2)) (λx=>x) λ(M,E)=>r E) else(a_ (k6 (e.1,e.2.1,b.2.2.1,e.2.2.2.1,b.2.2.2.2.1,e.2.2.2.2.2)) (λx=>x) λ(F,a)=>(bif F then r a else(a_ (lY a) (λx=>(x.1,x.2.1,a.2.2.1,x.2.2.2.1,a.2.2.2.2.1,x.2.2.2.2.2)) λ(t,f)=>(a8 (λ((G,H,I,J):aa×Int×Int×Int)=>some (.inr ((W (h+1)),(G,H,a.2.2.1,I,a.2.2.2.2.1,J)))) λK=>(nc ((decide (t.1=3))=false) (DQ (f.1,f.2.1,a.2.2.1,f.2.2.2.1,a.2.2.2.2.1,f.2.2.2.2.2) l) (λx=>(x.1,x.2.1,a.2.2.1,x.2.2.2.1,a.2.2.2.2.1,x.2.2.2.2.2)) (false,(f.1,f.2.1,a.2.2.1,f.2.2.2.1,a.2.2.2.2.1,f.2.2.2.2.2)) λ(L,g)=>(bif(bif(decide (t.1=3)) then true else(!L)) then a_ (kC (g.1,g.2.1,a.2.2.1,g.2.2.2.1,a.2.2.2.2.1,g.2.2.2.2.2)) (λx=>(x.1,x.2.1,a.2.2.1,x.2.2.2.1,a.2.2.2.2.1,x.2.2.2.2.2)) λy=>Empty.elim y else K (g.1,g.2.1,g.2.2.2.1,g.2.2.2.2.2))))))))))))))
def D_(R:bg)(x0:an)(b:Int)(c:Bool):Option (bn an (Int×an)):=
 (a_ (k6 x0) (λx=>x) λ(d,a)=>(fixF (Hv R b c) bC (0,a.1,a.2.1,a.2.2.1,a.2.2.2.1,a.2.2.2.2.1,a.2.2.2.2.2)))
theorem agq{R:bg}(F:h3 R){x0:an}{c:Int}{d:Bool}{a:bK}{Q:bu}{r:bn an (Int×an)}(h:D_ R x0 c d=some r):
  je Tryz.prog 30 [.pointer a,.int .i64 c,.bool d] [] (ed a x0 Q) (λr (q:bu)=>jw 39 r λr=> .int .i64 r.1) (λr q=>ed a (ma r) q) r:=
 by
  refine V.jX (T:=ck) Tryz.call30 Tryz.func30 U λ_ _=>?_;unfold D_ at h;refine V.cp ab 7 0 h ua [0,0,0] [] id [0,0,0] U a5 a5 ?_;rintro⟨N,O⟩ G h;refine V.e8 ab 6 0 h (ρ:=bu) (λs q=>[(0,.bj ⟨a,1,1⟩ 0),(1,.v (.int .i64 c)),(2,.v (.bool d)),(7,.v (.int .i64 s.1))]) .nil (λs q=>kK a s.2 q) G [1,2,0] U ?_;rintro H ⟨B,P,S,X,Y,Z,ph⟩ C h;rw[Hv] at h;refine V.db ab 0 0 h (ρ:=bu) (λs q=>[(0,.bj ⟨a,1,1⟩ 0),(1,.v (.int .i64 c)),(2,.v (.bool d)),(7,.v (.int .i64 (W (B+1))))]) .nil (λs q=>kK a s q) U ?_ ?_
  ·intro Qk _ h;refine V.go ab 11 0 U ?_;rcases zr h with⟨e,VW,f,rfl⟩|⟨⟨kB,cr⟩,f,I,h⟩
   ·exact V.cl (aI.zt U U U ⟨e,trivial⟩ (KE f) U [2] U [] U (λ_=>U) (λs _=>⟨C,trivial,U,[0,0,0],_,U⟩))
   refine V.cl (aI.zq U U U U (λg=>pc.ret (KE (f g)) (λ_=>U)) U [2] U [] U U () (λi=>by cases I (λj=>i ⟨j,trivial⟩);rfl) λ_ _=>V.cz ?_);refine V.co ab 2 0 h U (λh=>?_) (λh=>?_)
   ·cases h;exact V.jU ab 5 0 C [0,0,0] U
   refine V.cp ab 4 0 h (agm F) [0,0,0] [] id [0,0,0] U a5 a5 λef D h=>?_;refine V.cp ab 11 0 h p4 [0] [] (λ_=>D) [0,0,0] U a5 a5 ?_;rintro⟨si,j0⟩ _ h;refine V.go ab 2 0 U ?_;rcases zr h with⟨k,J,l,rfl⟩|⟨⟨kd,m4⟩,l,m,h⟩
   ·exact V.cl (aI.zt U U U ⟨k,trivial⟩ (p4 l) U [0] U [] U (λ_=>U) (λs _=>⟨D,trivial,U,[0,0,0],_,U⟩))
   refine V.cl (aI.zq U U U U (λK=>pc.ret (p4 (l K)) (λ_=>U)) U [0] U [] U U () (λn=>by cases m (λo=>n ⟨o,trivial⟩);rfl) λ_ _=>V.cz ?_);refine V.co ab 2 0 h U (λh=>?_) (λh=>?_)
   ·refine V.cp ab 14 0 h ua [0,0,0] [] id [0,0,0] ⟨U,U,U,U,U,U,U⟩ a5 a5 ?_;rintro⟨h4,jY⟩ L h
    try dsimp only at h
    exact V.a6 ab 2 0 h L [1,2,0] U
   refine V.cp ab 5 0 h ua [0,0,0] [] id [0,0,0] U a5 a5 ?_;rintro⟨oH,E⟩ b h;refine V.co ab 1 0 h U (λh=>?_) (λh=>?_)
   ·exact V.a6 ab 1 0 h b [1,2,0] U
   refine V.cp ab 4 0 h qI [0] [] (λ_=>b) [0,0,0] U a5 a5 ?_;rintro⟨p,ko⟩ _ h;refine V.cl (aI.o_ ab 2 [] [74] [(8,.eX 74 0)] (.new 74 65 [.int .i64 p.1,.string (a9 p.2.1),.bool p.2.2] .nil) U ⟨⟨U,trivial⟩,(jv U U)⟩ (V.cz ?_));refine V.e6 ab 1 0 h (ρ:=Unit) (λs q=>[(7,.v (.int .i64 (W (B+1))))]) .nil (λs q=>ed a (s.1,s.2.1,E.2.2.1,s.2.2.1,E.2.2.2.2.1,s.2.2.2) b) U ?_ ?_
   ·intro Wu _ h;refine V.go ab 8 0 U ?_;rcases zr h with⟨t,M,u,rfl⟩|⟨⟨gY,pv⟩,u,v,h⟩
    ·exact V.cl (aI.zt U U U ⟨t,trivial⟩ (KE u) U [0] U [] U (λ_=>U) (λs _=>⟨b,trivial,U,[0,0,0],_,U⟩))
    refine V.cl (aI.zq U U U U (λw=>pc.ret (KE (u w)) (λ_=>U)) U [0] U [] U U () (λx=>by cases v (λz=>x ⟨z,trivial⟩);rfl) λ_ _=>V.cz ?_);refine V.co ab 3 0 h U (λh=>?_) (λh=>?_)
    ·refine V.cp ab 2 0 h wJ [0] [] (λ_=>b) [0,0,0] U a5 a5 λy _ _=>y.elim
    exact V.a6 ab 1 0 h () [0,1,2] U
   rintro⟨p8,pn,m1,pq⟩ _ h;cases h;exact V.jU ab 5 0 b [0,0,0] U
  rintro⟨vx,qO,D9,zU,qN,Hw⟩ A h
  try dsimp only at h
  exact V.el ab 0 0 h A [0,1,2] U
def Qp(R:bg)(j:UInt8)(k:Bool)(f:an->Option (bn an an)):an->Option (bn an an):=λ(b,a,c,g,d,h)=>
 (a8 (λ((l,m,n,o,p,q):an)=>f (l,m,n,o,p,q)) λi=>(a8 (λ(_:Unit)=>(aZ (0<=a/\a<(b.length:Int))<|(bif(decide (((at' b a).toNat:Int)=(j.toNat:Int))) then some (.inr (b,(W (a+1)),c,g,d,h)) else(a_ (zD R (b,a,c,g,d,h) k) (λx=>x) λ(r,e)=>(bif(!r) then i (e.1,(W (e.2.1+1)),e.2.2) else i e))))) λs=>(bif(decide ((b.length:Int)<=a)) then a_ (rj (b,a,c,g,d,h)) (λx=>(x.1,x.2.1,c,x.2.2.2.1,d,x.2.2.2.2.2)) λy=>Empty.elim y else s ())))
def Hx(R:bg)(x0:an)(a:UInt8)(b:Bool):Option (bn an an):=
 (fixF (Qp R a b) bC (x0.1,x0.2.1,x0.2.2.1,x0.2.2.2.1,x0.2.2.2.2.1,x0.2.2.2.2.2))
theorem agG{R:bg}(f:h3 R){x0:an}{b:UInt8}{c:Bool}{a:bK}{Q:bu}{r:bn an an}(h:Hx R x0 b c=some r):
  je Tryz.prog 163 [.pointer a,.int .u8 (b.toNat:Int),.bool c] [] (ed a x0 Q) (λr (q:bu)=>jw 39 r λr=> .tuple #[]) (λr q=>ed a (jV r) q) r:=
 by
  refine V.jX (T:=ck) Tryz.call163 Tryz.func163 U λ_ _=>?_;unfold Hx at h;refine V.e8 ab 1 0 h (ρ:=bu) (λs q=>[(0,.bj ⟨a,1,1⟩ 0),(1,.v (.int .u8 (b.toNat:Int))),(2,.v (.bool c))]) .nil (λs q=>kK a s q) Q [1,2,0] U ?_;rintro g ⟨i,j,k,l,m,n⟩ d h;rw[Qp] at h;refine V.db ab 0 0 h (ρ:=bu) (λs q=>[(0,.bj ⟨a,1,1⟩ 0),(1,.v (.int .u8 (b.toNat:Int))),(2,.v (.bool c))]) .nil (λs q=>kK a s q) U ?_ ?_
  ·intro t _ h;refine V.e6 ab 0 0 h (ρ:=Unit) (λs q=>[(0,.bj ⟨a,1,1⟩ 0),(1,.v (.int .u8 (b.toNat:Int))),(2,.v (.bool c))]) .nil (λs q=>ed a (i,j,k,l,m,n) d) U ?_ ?_
   ·intro u _ h;refine V.jH ab 1 0 U (by kernel_rfl) ?_;refine V.co ab 11 2 h ⟨U,U,U,U,U,U,U⟩ (λh=>?_) (λh=>?_)
    ·refine V.cp ab 2 0 h DG [2] [] (λ_=>d) [0,0,0] U a5 a5 λy _ _=>y.elim
    exact V.a6 ab 1 0 h () [2,0,1] U
   rintro _ _ h;obtain⟨o,h⟩:=bB h;refine V.jH ab 2 0 U (by kernel_rfl) ?_;refine V.co ab 12 0 h ⟨U,U,U,U,U,U,o,U⟩ (λh=>?_) (λh=>?_)
   ·cases h;exact V.jU ab 11 0 d [0,0,0] ⟨U,U,U,U,U,U,U⟩
   refine V.cp ab 5 0 h (VY f) [0,0,0] [] id [0,0,0] U a5 a5 ?_;rintro⟨v,w⟩ e h;refine V.co ab 2 0 h U (λh=>?_) (λh=>?_)
   ·exact V.a6 ab 11 0 h e [1,2,0] ⟨U,U,U,U,U,U,U⟩
   exact V.a6 ab 2 0 h e [1,2,0] U
  rintro⟨x,z,A,B,C,D⟩ p h
  try dsimp only at h
  exact V.el ab 0 0 h p [0,1,2] U
def gu(x0:ah):Option Bool:=
 some (decide ((x0.1.length:Int)<=x0.2.1))
theorem m6{x0:ah}{a2:bK}{Q:bu}{r:Bool}(h:gu x0=some r):
  FC Tryz.prog 45 [.pointer a2] [lQ a2 x0 Q] (λ_:Unit=>True) (λ_=> .bool r) (λ_=>[]):=
 by refine V.fI (T:=ck) Tryz.call45 Tryz.func45 U λ_=>?_;unfold gu at h;refine V.jH ab 5 0 U (by kernel_rfl) ?_;cases h;exact V.rt ab 12 0 () [] ⟨U,U,U,U,U,U,U⟩
def zV(x0:UInt8):Option Bool:=
 some (bif(decide ((x0.toNat:Int)=(32:Int))) then true else(decide ((x0.toNat:Int)=(9:Int))))
theorem Qr{x0:UInt8}{r:Bool}(h:zV x0=some r):
  FC Tryz.prog 65 [.int .u8 (x0.toNat:Int)] [] (λ_:Unit=>True) (λ_=> .bool r) (λ_=>[]):=
 by refine V.fI (T:=ck) Tryz.call65 Tryz.func65 U λ_=>?_;unfold zV at h;cases h;exact V.rt ab 14 0 () [] U
def Ec(x0:ah)(d:Bool)(e:Int->Option ah)(b:Int->Option ah):Int->Option ah:=λa=>
 (au (gu (x0.1,a,x0.2.2.1,x0.2.2.2.1,x0.2.2.2.2.1,x0.2.2.2.2.2.1,x0.2.2.2.2.2.2.1,x0.2.2.2.2.2.2.2.1,d)) λ(c:Bool)=>(aZ (((!c)=true)->0<=a/\a<(x0.1.length:Int))<|(bif(bif(!c) then(!(decide (((at' x0.1 a).toNat:Int)=(10:Int)))) else false) then b (W (a+1)) else e a)))
def BV(x0:ah)(e:(Int×Bool)->Option ah)(c:(Int×Bool)->Option ah):(Int×Bool)->Option ah:=λ(a,b)=>
 (au (gu (x0.1,a,x0.2.2.1,x0.2.2.2.1,x0.2.2.2.2.1,x0.2.2.2.2.2.1,x0.2.2.2.2.2.2.1,x0.2.2.2.2.2.2.2.1,b)) λ(f:Bool)=>(bif(!f) then(a8 (λ((g,h):Int×Bool)=>c (g,h)) λd=>(aZ (0<=a/\a<(x0.1.length:Int))<|(au (zV (at' x0.1 a)) λ(y23:Bool)=>(bif y23 then d ((W (a+1)),b) else(aZ (((bif(decide (((at' x0.1 a).toNat:Int)=(92:Int))) then(decide ((W (a+1))<(x0.1.length:Int))) else false)=true)->0<=(W (a+1))/\(W (a+1))<(x0.1.length:Int))<|(bif(bif(bif(decide (((at' x0.1 a).toNat:Int)=(92:Int))) then(decide ((W (a+1))<(x0.1.length:Int))) else false) then(decide (((at' x0.1 (W (a+1))).toNat:Int)=(10:Int))) else false) then d ((W (a+2)),true) else(bif(decide (((at' x0.1 a).toNat:Int)=(35:Int))) then(a8 (λ(i:Int)=>d (i,b)) λj=>(fixF (Ec x0 b j) bC a)) else some (x0.1,a,x0.2.2.1,x0.2.2.2.1,x0.2.2.2.2.1,x0.2.2.2.2.2.1,x0.2.2.2.2.2.2.1,x0.2.2.2.2.2.2.2.1,b)))))))) else e (a,b)))
def g6(x0:ah):Option ah:=
 (a8 (λ((a,b):Int×Bool)=>some (x0.1,a,x0.2.2.1,x0.2.2.2.1,x0.2.2.2.2.1,x0.2.2.2.2.2.1,x0.2.2.2.2.2.2.1,x0.2.2.2.2.2.2.2.1,b)) λc=>(fixF (BV x0 c) bC (x0.2.1,x0.2.2.2.2.2.2.2.2)))
theorem oa{x0:ah}{a2:bK}{Q:bu}{r:ah}(h:g6 x0=some r):
  gN Tryz.prog 44 [.pointer a2] [] [lQ a2 x0 Q] (λ_:Unit=>True) (λ_=> .tuple #[]) (λ_=>[lQ a2 (r.1,r.2.1,r.2.2.1,x0.2.2.2.1,r.2.2.2.2.1,r.2.2.2.2.2.1,r.2.2.2.2.2.2.1,x0.2.2.2.2.2.2.2.1,r.2.2.2.2.2.2.2.2) Q]):=
 by
  refine V.jo (T:=ck) Tryz.call44 Tryz.func44 U λ_ _=>?_;unfold g6 at h;refine V.db ab 0 0 h (ρ:=Unit) (λs q=>[]) .nil (λs q=>[lQ a2 (x0.1,s.1,x0.2.2.1,x0.2.2.2.1,x0.2.2.2.2.1,x0.2.2.2.2.2.1,x0.2.2.2.2.2.2.1,x0.2.2.2.2.2.2.2.1,s.2) Q]) U ?_ ?_
  ·intro i _ h;refine V.e8 ab 0 0 h (ρ:=Unit) (λs q=>[(0,.bj ⟨a2,1,1⟩ 0)]) .nil (λs q=>[lQ a2 (x0.1,s.1,x0.2.2.1,x0.2.2.2.1,x0.2.2.2.2.1,x0.2.2.2.2.2.1,x0.2.2.2.2.2.2.1,x0.2.2.2.2.2.2.2.1,s.2) Q]) () [0] U ?_;rintro c ⟨j,b⟩ _ h;rw[BV] at h;refine V.cM ab 4 0 h m6 [0] U λk _ h=>?_;refine V.co ab 2 0 h U (λh=>?_) (λh=>?_)
   ·refine V.db ab 1 0 h (ρ:=Unit) (λs q=>[(0,.bj ⟨a2,1,1⟩ 0)]) .nil (λs q=>[lQ a2 (x0.1,s.1,x0.2.2.1,x0.2.2.2.1,x0.2.2.2.2.1,x0.2.2.2.2.2.1,x0.2.2.2.2.2.2.1,x0.2.2.2.2.2.2.2.1,s.2) Q]) U ?_ ?_
    ·intro l _ h;obtain⟨d,h⟩:=bB h;refine V.jH ab 1 0 U (by kernel_rfl) ?_;refine V.cM ab 14 0 h Qr [] ⟨U,U,U,U,U,U,d,U⟩ λy23 _ h=>?_;refine V.co ab 1 0 h U (λh=>?_) (λh=>?_)
     ·exact V.a6 ab 11 0 h () [0] ⟨U,U,U,U,U,U,U⟩
     obtain⟨e,h⟩:=bB h;refine V.jH ab 1 0 U (by kernel_rfl) ?_;refine V.co ab 29 0 h ⟨U,U,U,U,U,U,U,U,U,U,U,U,e,U⟩ (λh=>?_) (λh=>?_)
     ·exact V.a6 ab 19 0 h () [0] ⟨U,U,U,U,U,U,U,U,U,U⟩
     refine V.co ab 5 0 h U (λh=>?_) (λh=>?_)
     ·refine V.db ab 0 0 h (ρ:=Unit) (λs q=>[(0,.bj ⟨a2,1,1⟩ 0)]) .nil (λs q=>[lQ a2 (x0.1,s,x0.2.2.1,x0.2.2.2.1,x0.2.2.2.2.1,x0.2.2.2.2.2.1,x0.2.2.2.2.2.2.1,x0.2.2.2.2.2.2.2.1,b) Q]) U ?_ ?_
      ·intro m _ h;refine V.e8 ab 0 0 h (ρ:=Unit) (λs q=>[(0,.bj ⟨a2,1,1⟩ 0)]) .nil (λs q=>[lQ a2 (x0.1,s,x0.2.2.1,x0.2.2.2.1,x0.2.2.2.2.1,x0.2.2.2.2.2.1,x0.2.2.2.2.2.2.1,x0.2.2.2.2.2.2.2.1,b) Q]) () [0] U ?_;rintro f n _ h;rw[Ec] at h;refine V.jH ab 2 0 U (by kernel_rfl) ?_;refine V.go ab 1 0 U ?_;obtain⟨o,g,h⟩:=jS h;obtain⟨a,h⟩:=bB h;refine V.toQ (k1.call U U U U (m6 g) U [0] U U (V.s5 ?_));refine V.co ab 14 0 h ⟨U,U,U,U,U,U,a,U⟩ (λh=>?_) (λh=>?_)
       ·exact V.el ab 13 0 h () [0] ⟨U,U,U,U,U,U,U⟩
       exact V.a6 ab 1 0 h () [0] U
      rintro p _ h
      try dsimp only at h
      exact V.a6 ab 1 0 h () [0] U
     cases h;exact V.rx ab 0 0 () [0] U
    rintro⟨t,u⟩ _ h
    try dsimp only at h
    exact V.el ab 0 0 h () [0] U
   exact V.a6 ab 1 0 h () [0] U
  rintro⟨v,w⟩ _ h;cases h;exact V.jG ab 0 0 () [0] U
def Hz(b:ao)(e:aa->Option ah)(d:(Int×aa)->Option ah):(Int×aa)->Option ah:=λ(a,c)=>
 (bif(decide (a<(b.length:Int))) then(aZ (0<=a/\a<(b.length:Int))<|(aZ (((c.length+((at' b a).1).length:Nat):Int)<=9223372036854775807)<|(aZ ((((c++(at' b a).1).length+([10]:aa).length:Nat):Int)<=9223372036854775807)<|d ((W (a+1)),((c++(at' b a).1)++([10]:aa)))))) else e c)
def HA(b:aa)(g:(ao×aa)->Option ah)(d:(Int×ao×aa)->Option ah):(Int×ao×aa)->Option ah:=λ(a,e,c)=>
 (bif(decide (a<(b.length:Int))) then(a8 (λ((h,i):ao×aa)=>d ((W (a+1)),h,i)) λf=>(aZ (0<=a/\a<=(W (a+1))/\(W (a+1))<=(b.length:Int))<|(aZ (((c.length+(cg b a (W (a+1))).length:Nat):Int)<=9223372036854775807)<|(aZ (0<=a/\a<(b.length:Int))<|(bif(decide (((at' b a).toNat:Int)=(10:Int))) then(a8 (λ(j:aa)=>f (([]:ao),j)) λk=>(fixF (Hz e k) bC (0,(c++(cg b a (W (a+1))))))) else f (e,(c++(cg b a (W (a+1)))))))))) else g (e,c))
def vy(x0:ah)(a:aa):Option ah:=
 (a8 (λ((b,c):ao×aa)=>some (x0.1,x0.2.1,x0.2.2.1,b,x0.2.2.2.2.1,x0.2.2.2.2.2.1,c,x0.2.2.2.2.2.2.2.1,x0.2.2.2.2.2.2.2.2)) λd=>(fixF (HA a d) bC (0,x0.2.2.2.1,x0.2.2.2.2.2.2.1)))
theorem Qt{x0:ah}{e:aa}{a3:bK}{Q:bu}{r:ah}(h:vy x0 e=some r):
  gN Tryz.prog 34 [.pointer a3,.string (a9 e)] [] (eR a3 x0 Q) (λ_:bu=>True) (λq=> .tuple #[]) (λq=>eR a3 r q):=
 by
  refine V.jo (T:=ck) Tryz.call34 Tryz.func34 U λ_ _=>?_;unfold vy at h;refine V.db ab 4 0 h (ρ:=bK×Nat) (λs q=>[]) .nil (λs q=>[r5 q.1 s.1 q.2,lQ a3 (x0.1,x0.2.1,x0.2.2.1,s.1,x0.2.2.2.2.1,x0.2.2.2.2.2.1,s.2,x0.2.2.2.2.2.2.2) (q.1,q.2,Q.2.2),h2 Q.2.2.1 x0.2.2.2.2.2.2.2.1 Q.2.2.2]) U ?_ ?_
  ·intro D _ h;refine V.e8 ab 0 0 h (ρ:=bK×Nat) (λs q=>[(0,.bj ⟨a3,1,1⟩ 0),(1,.v (.string (a9 e))),(4,.v (.int .i64 s.1))]) .nil (λs q=>[r5 q.1 s.2.1 q.2,lQ a3 (x0.1,x0.2.1,x0.2.2.1,s.2.1,x0.2.2.2.2.1,x0.2.2.2.2.2.1,s.2.2,x0.2.2.2.2.2.2.2) (q.1,q.2,Q.2.2),h2 Q.2.2.1 x0.2.2.2.2.2.2.2.1 Q.2.2.2]) (Q.1,Q.2.1) [1,0,2] U ?_;rintro v ⟨d,a,g⟩ ⟨b,c⟩ h;rw[HA] at h;refine V.co ab 8 0 h U (λh=>?_) (λh=>?_)
   ·refine V.db ab 2 0 h (ρ:=bK×Nat) (λs q=>[(0,.bj ⟨a3,1,1⟩ 0),(1,.v (.string (a9 e))),(4,.v (.int .i64 d))]) .nil (λs q=>[r5 q.1 s.1 q.2,lQ a3 (x0.1,x0.2.1,x0.2.2.1,s.1,x0.2.2.2.2.1,x0.2.2.2.2.2.1,s.2,x0.2.2.2.2.2.2.2) (q.1,q.2,Q.2.2),h2 Q.2.2.1 x0.2.2.2.2.2.2.2.1 Q.2.2.2]) U ?_ ?_
    ·intro E _ h;obtain⟨w,h⟩:=bB h;obtain⟨x,h⟩:=bB h;refine V.go ab 1 0 U ?_;refine V.jW (aT.jd 1 U λi=>V.iJ ?_);refine V.jW (aT.r3 U .nil [1] [10,11,12,13] trivial U (λy=>?_));refine bE.pa ab gh 13 [0] U (by kernel_rfl) [] [(13,.bj ⟨a3,1,1⟩ 0)] U ⟨U,trivial⟩ (bE.eD ab gh true 5 [1,2,3,5,6,7,8,9] U (by kernel_rfl) [(W (d+1))] [(16,.bj ⟨a3,1,1⟩ 6),(22,.v (.string (a9 (cg e d (W (d+1))))))] trivial [1] U U ⟨(i.fS fT).1,i.fS fT,⟨trivial,U⟩,w,(fE U)⟩ (bE.kJ ab gh 4 U (by kernel_rfl) U U U U U 0 U U 0 6 (x0.1,x0.2.1,x0.2.2.1,(bz.v ⟨b,a.length,c⟩),x0.2.2.2.2.1,x0.2.2.2.2.2.1,g,(bz.v ⟨Q.2.2.1,x0.2.2.2.2.2.2.2.1.length,Q.2.2.2⟩),x0.2.2.2.2.2.2.2.2) ⟨U,U⟩ U U U trivial [1] U (bE.pa ab gh 1 [10,11,12] U (by kernel_rfl) [] [(23,.v (.string (a9 (g++(cg e d (W (d+1))))))),(25,.bj ⟨a3,1,1⟩ 6)] U ⟨x,(i.fS fT).1,i.fS fT,(fE U)⟩ (bE.one 13 (by kernel_rfl) (cL.qE ab U U U U U U U U U [1] (fs:=[]) U 0 6 (x0.1,x0.2.1,x0.2.2.1,(bz.v ⟨b,a.length,c⟩),x0.2.2.2.2.1,x0.2.2.2.2.2.1,g,(bz.v ⟨Q.2.2.1,x0.2.2.2.2.2.2.2.1.length,Q.2.2.2⟩),x0.2.2.2.2.2.2.2.2) (x0.1,x0.2.1,x0.2.2.1,(bz.v ⟨b,a.length,c⟩),x0.2.2.2.2.1,x0.2.2.2.2.2.1,(g++(cg e d (W (d+1)))),(bz.v ⟨Q.2.2.1,x0.2.2.2.2.2.2.2.1.length,Q.2.2.2⟩),x0.2.2.2.2.2.2.2.2) ⟨U,U⟩ ⟨⟨⟨⟨⟨⟨⟨⟨U,U,U⟩,U⟩,U⟩,U⟩,U⟩,U⟩,U⟩,U⟩ (bE.nG U (bE.done (by kernel_rfl) (aT.boxes (B':= .nil) trivial (V.iJ ?_)))))))));obtain⟨z,h⟩:=bB h;refine V.co ab 7 0 h ⟨z,U⟩ (λh=>?_) (λh=>?_)
     ·refine V.db ab 10 0 h (ρ:=Unit) (λs q=>[(0,.bj ⟨a3,1,1⟩ 0),(1,.v (.string (a9 e))),(4,.v (.int .i64 d))]) .nil (λs q=>eR a3 (x0.1,x0.2.1,x0.2.2.1,a,x0.2.2.2.2.1,x0.2.2.2.2.2.1,s,x0.2.2.2.2.2.2.2) (b,c,Q.2.2)) ⟨U,U,U,U⟩ ?_ ?_
      ·intro F _ h;refine V.e8 ab 0 0 h (ρ:=Unit) (λs q=>[(0,.bj ⟨a3,1,1⟩ 0),(1,.v (.string (a9 e))),(4,.v (.int .i64 d)),(33,.v (.slice b a.length c)),(34,.v (.int .i64 (a.length:Int))),(35,.v (.int .i64 s.1))]) .nil (λs q=>eR a3 (x0.1,x0.2.1,x0.2.2.1,a,x0.2.2.2.2.1,x0.2.2.2.2.2.1,s.2,x0.2.2.2.2.2.2.2) (b,c,Q.2.2)) () [0,1,2] U ?_;rintro A ⟨f,j⟩ _ h;rw[Hz] at h;refine V.co ab 5 0 h U (λh=>?_) (λh=>?_)
       ·refine V.go ab 5 0 U ?_;refine V.cl (aI.jd 1 U λl=>V.cz ?_);obtain⟨u,h⟩:=bB h;refine V.go ab 1 0 ⟨l.ix u,U⟩ ?_;refine V.cl (aI.kJ ab U U U U U U 1 U U (Int.toNat f) 0 (at' a f) ⟨mU u,U⟩ U U U (V.cz ?_));refine V.cl (aI.o_ ab 2 [] [41] [(6,.eX 41 0)] (.new 41 75 [.string (a9 (at' a f).1),.bool (at' a f).2] .nil) U ⟨⟨U,trivial⟩,(jv U U)⟩ (V.cz ?_));obtain⟨B,h⟩:=bB h;obtain⟨m,h⟩:=bB h;refine V.go ab 1 0 U ?_;refine V.jW (aT.jd 0 U λk=>V.iJ ?_);refine V.jW (aT.r3 U (.new 41 75 [.string (a9 (at' a f).1),.bool (at' a f).2] .nil) [0] [7,8,9,10,11] ⟨U,U,U,U,trivial⟩ U (λC=>?_));refine bE.pa ab gh 11 [0] U (by kernel_rfl) [] [(39,.bj ⟨a3,1,1⟩ 0)] U ⟨U,trivial⟩ (bE.eD ab gh true 6 [1,2,3,5,6] U (by kernel_rfl) [] [(42,.bj ⟨a3,1,1⟩ 6),(45,.v (.string (a9 (at' a f).1)))] ⟨U,U,U,U,trivial⟩ [0] U U ⟨(k.fS fT).1,k.fS fT,(fE U)⟩ (bE.kJ ab gh 4 U (by kernel_rfl) U U U U U 0 U U 0 6 (x0.1,x0.2.1,x0.2.2.1,(bz.v ⟨b,a.length,c⟩),x0.2.2.2.2.1,x0.2.2.2.2.2.1,j,(bz.v ⟨Q.2.2.1,x0.2.2.2.2.2.2.2.1.length,Q.2.2.2⟩),x0.2.2.2.2.2.2.2.2) ⟨U,U⟩ U U U ⟨U,U,U,U,trivial⟩ [0] U (bE.pa ab gh 1 [7,8,9,10] U (by kernel_rfl) [] [(47,.v (.string (a9 ((j++(at' a f).1)++([10]:aa))))),(49,.bj ⟨a3,1,1⟩ 6)] U ⟨B,m,(k.fS fT).1,k.fS fT,(fE U)⟩ (bE.one 11 (by kernel_rfl) (cL.qE ab U U U U U U U U U [0] (fs:=[]) U 0 6 (x0.1,x0.2.1,x0.2.2.1,(bz.v ⟨b,a.length,c⟩),x0.2.2.2.2.1,x0.2.2.2.2.2.1,j,(bz.v ⟨Q.2.2.1,x0.2.2.2.2.2.2.2.1.length,Q.2.2.2⟩),x0.2.2.2.2.2.2.2.2) (x0.1,x0.2.1,x0.2.2.1,(bz.v ⟨b,a.length,c⟩),x0.2.2.2.2.1,x0.2.2.2.2.2.1,((j++(at' a f).1)++([10]:aa)),(bz.v ⟨Q.2.2.1,x0.2.2.2.2.2.2.2.1.length,Q.2.2.2⟩),x0.2.2.2.2.2.2.2.2) ⟨U,U⟩ ⟨⟨⟨⟨⟨⟨⟨⟨U,U,U⟩,U⟩,U⟩,U⟩,U⟩,U⟩,U⟩,U⟩ (bE.nG U (bE.done (by kernel_rfl) (aT.boxes (B':= .nil) trivial (V.iJ ?_)))))))));exact V.el ab 5 0 h () [0,1,2] U
       exact V.a6 ab 1 0 h () [0,1,2] U
      rintro G _ h;refine V.go ab 7 0 ⟨U,U,U,U⟩ ?_;refine V.jW (aT.pY (.pair .str .bool) bz.nil U U (V.iJ ?_))
      try dsimp only at h
      exact V.a6 ab 0 0 h (none,0) [0,1,3] U
     exact V.a6 ab 2 0 h (b,c) [1,0,2] U
    rintro⟨H,I⟩ ⟨n,o⟩ h
    try dsimp only at h
    exact V.el ab 5 0 h (n,o) [0,1,2] U
   exact V.a6 ab 1 0 h (b,c) [0,1,2] U
  rintro⟨J,K⟩ ⟨p,t⟩ h;cases h;exact V.jG ab 0 0 (p,t,Q.2.2) [1,0,0] U
def g7(x0:ah)(b:aa):Option ah:=
 (a8 (λ(c:Int)=>(au (vy (x0.1,x0.2.1,x0.2.2.1,x0.2.2.2.1,c,x0.2.2.2.2.2) b) λ(d:ah)=>some d)) λa=>(bif(decide (x0.2.2.2.2.1=0)) then a 1 else a x0.2.2.2.2.1))
theorem pw{x0:ah}{a:aa}{a3:bK}{Q:bu}{r:ah}(h:g7 x0 a=some r):
  gN Tryz.prog 33 [.pointer a3,.string (a9 a)] [] (eR a3 x0 Q) (λ_:bu=>True) (λq=> .tuple #[]) (λq=>eR a3 r q):=
 by
  refine V.jo (T:=ck) Tryz.call33 Tryz.func33 U λ_ _=>?_;unfold g7 at h;refine V.e6 ab 0 0 h (ρ:=Unit) (λs q=>[(0,.bj ⟨a3,1,1⟩ 0),(1,.v (.string (a9 a)))]) .nil (λs q=>eR a3 (x0.1,x0.2.1,x0.2.2.1,x0.2.2.2.1,s,x0.2.2.2.2.2) Q) U ?_ ?_
  ·intro c _ h;refine V.co ab 8 0 h ⟨U,U,U,U⟩ (λh=>?_) (λh=>?_)
   ·exact V.a6 ab 6 0 h () [0,1,2] ⟨U,U,U,U⟩
   exact V.a6 ab 1 0 h () [0,1,2] U
  rintro d _ h;refine V.bH ab 3 0 h Qt [0,0,0] [] U λe b h=>?_;cases h;exact V.jG ab 1 0 b [0,0,0] U
def ie(x0:ah):Option UInt8:=
 (au (gu x0) λ(a:Bool)=>(bif a then some (0:UInt8) else(aZ (0<=x0.2.1/\x0.2.1<(x0.1.length:Int))<|some (at' x0.1 x0.2.1))))
theorem ob{x0:ah}{a2:bK}{Q:bu}{r:UInt8}(h:ie x0=some r):
  FC Tryz.prog 46 [.pointer a2] [lQ a2 x0 Q] (λ_:Unit=>True) (λ_=> .int .u8 (r.toNat:Int)) (λ_=>[]):=
 by
  refine V.fI (T:=ck) Tryz.call46 Tryz.func46 U λ_=>?_;unfold ie at h;refine V.cM ab 8 0 h m6 [0] U λb _ h=>?_;refine V.co ab 1 0 h U (λh=>?_) (λh=>?_)
  ·cases h;exact V.rt ab 4 0 () [] U
  obtain⟨a,h⟩:=bB h;refine V.jH ab 2 0 U (by kernel_rfl) ?_;cases h;exact V.rt ab 11 0 () [] ⟨U,U,U,U,U,U,a,U⟩
def zW(x0:Int)(a:Int):Option Int:=
 (bif(decide (x0<0)) then some 0 else(bif(decide (a<x0)) then some a else some x0))
theorem K9{x0:Int}{a:Int}{r:Int}(h:zW x0 a=some r):
  FC Tryz.prog 78 [.int .i64 x0,.int .i64 a] [] (λ_:Unit=>True) (λ_=> .int .i64 r) (λ_=>[]):=
 by
  refine V.fI (T:=ck) Tryz.call78 Tryz.func78 U λ_=>?_;unfold zW at h;refine V.co ab 10 0 h U (λh=>?_) (λh=>?_)
  ·cases h;exact V.rt ab 4 0 () [] U
  refine V.co ab 8 0 h U (λh=>?_) (λh=>?_)
  ·cases h;exact V.rt ab 5 0 () [] U
  cases h;exact V.rt ab 6 0 () [] U
def HC(x0:aa)(b:Int->Option Int)(c:Int->Option Int):Int->Option Int:=λa=>
 (aZ (((decide (a<(x0.length:Int)))=true)->0<=a/\a<(x0.length:Int))<|(bif(bif(decide (a<(x0.length:Int))) then(!(decide (((at' x0 a).toNat:Int)=(10:Int)))) else false) then c (W (a+1)) else b a))
def Ee(x0:aa)(b:Bool)(c:Int)(d:Int->Option Int)(e:Int->Option Int):Int->Option Int:=λa=>
 (aZ (((bif b then(decide (a<c)) else false)=true)->0<=a/\a<(x0.length:Int))<|(bif(bif(bif b then(decide (a<c)) else false) then(decide (((at' x0 a).toNat:Int)=(9:Int))) else false) then e (W (a+1)) else d a))
def wO(x0:aa)(g:aa)(h:Bool)(i:Unit->Option Int)(b:Int->Option Int):Int->Option Int:=λc=>
 (bif(decide (c<(x0.length:Int))) then(a8 (λ(j:Int)=>b j) λk=>(a8 (λ(a:Int)=>(a8 (λ(d:Int)=>(a8 (λ(e:Int)=>(aZ (0<=d/\d<=a/\a<=(x0.length:Int))<|(bif(decide ((cg x0 d a)=g)) then some e else k e))) λf=>(bif(decide (a<(x0.length:Int))) then f (W (a+1)) else f a))) λl=>(fixF (Ee x0 h a l) bC c))) λm=>(fixF (HC x0 m) bC c))) else i ())
def Eg(x0:aa)(a:Int)(b:aa)(c:Bool):Option Int:=
 (au (zW a (x0.length:Int)) λ(d:Int)=>(a8 (λ(_:Unit)=>some (-1)) λe=>(fixF (wO x0 b c e) bC d)))
theorem agU{x0:aa}{d:Int}{a:aa}{b:Bool}{r:Int}(h:Eg x0 d a b=some r):
  FC Tryz.prog 66 [.string (a9 x0),.int .i64 d,.string (a9 a),.bool b] [] (λ_:Unit=>True) (λ_=> .int .i64 r) (λ_=>[]):=
 by
  refine V.fI (T:=ck) Tryz.call66 Tryz.func66 U λ_=>?_;unfold Eg at h;refine V.cM ab 9 0 h K9 [] U λl _ h=>?_;refine V.db ab 3 0 h (ρ:=Unit) (λs q=>[]) .nil (λs q=>[]) U ?_ ?_
  ·intro m _ h;refine V.e8 ab 0 0 h (ρ:=Unit) (λs q=>[(0,.v (.string (a9 x0))),(2,.v (.string (a9 a))),(3,.v (.bool b)),(9,.v (.int .i64 s))]) .nil (λs q=>[]) () [] U ?_;rintro f e _ h;rw[wO] at h;refine V.co ab 8 0 h U (λh=>?_) (λh=>?_)
   ·refine V.db ab 1 0 h (ρ:=Unit) (λs q=>[(0,.v (.string (a9 x0))),(2,.v (.string (a9 a))),(3,.v (.bool b)),(9,.v (.int .i64 s))]) .nil (λs q=>[]) U ?_ ?_
    ·intro n _ h;refine V.db ab 6 0 h (ρ:=Unit) (λs q=>[(0,.v (.string (a9 x0))),(2,.v (.string (a9 a))),(3,.v (.bool b)),(9,.v (.int .i64 e)),(10,.v (.int .i64 s))]) .nil (λs q=>[]) U ?_ ?_
     ·intro o _ h;refine V.e8 ab 0 0 h (ρ:=Unit) (λs q=>[(0,.v (.string (a9 x0))),(2,.v (.string (a9 a))),(3,.v (.bool b)),(9,.v (.int .i64 e)),(10,.v (.int .i64 s))]) .nil (λs q=>[]) () [] U ?_;rintro p t _ h;rw[HC] at h;obtain⟨g,h⟩:=bB h;refine V.co ab 14 0 h ⟨g,U⟩ (λh=>?_) (λh=>?_)
      ·exact V.el ab 8 0 h () [] U
      exact V.a6 ab 1 0 h () [] U
     rintro c _ h;refine V.db ab 6 0 h (ρ:=Unit) (λs q=>[(0,.v (.string (a9 x0))),(2,.v (.string (a9 a))),(3,.v (.bool b)),(10,.v (.int .i64 c)),(11,.v (.int .i64 s))]) .nil (λs q=>[]) U ?_ ?_
     ·intro u _ h;refine V.e8 ab 0 0 h (ρ:=Unit) (λs q=>[(0,.v (.string (a9 x0))),(2,.v (.string (a9 a))),(3,.v (.bool b)),(10,.v (.int .i64 c)),(11,.v (.int .i64 s))]) .nil (λs q=>[]) () [] U ?_;rintro v w _ h;rw[Ee] at h;obtain⟨i,h⟩:=bB h;refine V.co ab 16 0 h ⟨i,U⟩ (λh=>?_) (λh=>?_)
      ·exact V.el ab 8 0 h () [] U
      exact V.a6 ab 1 0 h () [] U
     rintro j _ h;refine V.e6 ab 5 0 h (ρ:=Unit) (λs q=>[(0,.v (.string (a9 x0))),(2,.v (.string (a9 a))),(3,.v (.bool b)),(10,.v (.int .i64 c)),(11,.v (.int .i64 j)),(12,.v (.int .i64 s))]) .nil (λs q=>[]) U ?_ ?_
     ·intro x _ h;refine V.co ab 7 0 h U (λh=>?_) (λh=>?_)
      ·exact V.a6 ab 5 0 h () [] U
      exact V.a6 ab 1 0 h () [] U
     rintro y _ h;obtain⟨k,h⟩:=bB h;refine V.co ab 10 0 h ⟨k,U⟩ (λh=>?_) (λh=>?_)
     ·cases h;exact V.rt ab 5 0 () [] U
     exact V.a6 ab 6 0 h () [] U
    rintro z _ h
    try dsimp only at h
    exact V.el ab 0 0 h () [] U
   exact V.a6 ab 1 0 h () [] U
  rintro _ _ h;cases h;exact V.rt ab 4 0 () [] U
def HD(x0:ah)(b:Int)(e:aa->Option ah)(d:(Int×aa)->Option ah):(Int×aa)->Option ah:=λ(a,c)=>
 (bif(decide (a<((cg x0.2.2.2.1 b (x0.2.2.2.1.length:Int)).length:Int))) then(aZ (0<=a/\a<((cg x0.2.2.2.1 b (x0.2.2.2.1.length:Int)).length:Int))<|(aZ (((c.length+((at' (cg x0.2.2.2.1 b (x0.2.2.2.1.length:Int)) a).1).length:Nat):Int)<=9223372036854775807)<|(aZ ((((c++(at' (cg x0.2.2.2.1 b (x0.2.2.2.1.length:Int)) a).1).length+([10]:aa).length:Nat):Int)<=9223372036854775807)<|d ((W (a+1)),((c++(at' (cg x0.2.2.2.1 b (x0.2.2.2.1.length:Int)) a).1)++([10]:aa)))))) else e c)
def BW(x0:ah)(d:Int->Option ah)(e:(Int×Int)->Option ah):(Int×Int)->Option ah:=λ(a,b)=>
 (bif(decide (a<(x0.2.2.2.1.length:Int))) then(a8 (λ(f:Int)=>e ((W (a+1)),f)) λg=>(aZ (0<=a/\a<(x0.2.2.2.1.length:Int))<|(au (Eg x0.1 b ((at' x0.2.2.2.1 a).1) ((at' x0.2.2.2.1 a).2)) λ(c:Int)=>(bif(decide (c<0)) then(aZ (0<=a/\a<=(x0.2.2.2.1.length:Int)/\(x0.2.2.2.1.length:Int)<=(x0.2.2.2.1.length:Int))<|(a8 (λ(h:aa)=>some (x0.1,(x0.1.length:Int),x0.2.2.1,[],1,x0.2.2.2.2.2.1,h,([([60,60]:aa)]:bt),false)) λi=>(fixF (HD x0 a i) bC (0,x0.2.2.2.2.2.2.1)))) else g c)))) else d b)
def zX(x0:ah):Option ah:=
 (a8 (λ(a:Int)=>some (x0.1,a,x0.2.2.1,[],x0.2.2.2.2.1,x0.2.2.2.2.2.1,x0.2.2.2.2.2.2.1,x0.2.2.2.2.2.2.2.1,false)) λb=>(fixF (BW x0 b) bC (0,(W (x0.2.1+1)))))
theorem Wz{x0:ah}{a2:bK}{Q:bu}{r:ah}(h:zX x0=some r):
  gN Tryz.prog 47 [.pointer a2] [] (eR a2 x0 Q) (λ_:bu=>True) (λq=> .tuple #[]) (λq=>eR a2 r q):=
 by
  refine V.jo (T:=ck) Tryz.call47 Tryz.func47 U λ_ _=>?_;unfold zX at h;refine V.db ab 39 0 h (ρ:=Unit) (λs q=>[]) .nil (λs q=>[⟨(.pair .str (.pair (.int .i64) (.pair (.int .i64) (.pair .val (.pair (.int .i64) (.pair (.int .i64) (.pair .str (.pair .val .bool)))))))),⟨a2,1,1⟩,[(x0.1,s,x0.2.2.1,(bz.v ⟨none,0,0⟩),x0.2.2.2.2.1,x0.2.2.2.2.2.1,x0.2.2.2.2.2.2.1,(bz.v ⟨Q.2.2.1,x0.2.2.2.2.2.2.2.1.length,Q.2.2.2⟩),false)]⟩,h2 Q.2.2.1 x0.2.2.2.2.2.2.2.1 Q.2.2.2]) ⟨U,U,U,U,U,U,U,U,U,U,U,U,U,U,U,U⟩ ?_ ?_
  ·intro w _ h;refine V.e8 ab 0 0 h (ρ:=Unit) (λs q=>[(0,.bj ⟨a2,1,1⟩ 0),(2,.v (.slice Q.1 x0.2.2.2.1.length Q.2.1)),(25,.v (.slice Q.1 x0.2.2.2.1.length Q.2.1)),(26,.v (.int .i64 (x0.2.2.2.1.length:Int))),(27,.v (.int .i64 s.1))]) .nil (λs q=>[⟨(.pair .str (.pair (.int .i64) (.pair (.int .i64) (.pair .val (.pair (.int .i64) (.pair (.int .i64) (.pair .str (.pair .val .bool)))))))),⟨a2,1,1⟩,[(x0.1,s.2,x0.2.2.1,(bz.v ⟨none,0,0⟩),x0.2.2.2.2.1,x0.2.2.2.2.2.1,x0.2.2.2.2.2.2.1,(bz.v ⟨Q.2.2.1,x0.2.2.2.2.2.2.2.1.length,Q.2.2.2⟩),false)]⟩,r5 Q.1 x0.2.2.2.1 Q.2.1,h2 Q.2.2.1 x0.2.2.2.2.2.2.2.1 Q.2.2.2]) () [0,1,2] U ?_;rintro m ⟨a,x⟩ _ h;rw[BW] at h;refine V.co ab 5 0 h U (λh=>?_) (λh=>?_)
   ·refine V.db ab 2 0 h (ρ:=Unit) (λs q=>[(0,.bj ⟨a2,1,1⟩ 0),(2,.v (.slice Q.1 x0.2.2.2.1.length Q.2.1)),(25,.v (.slice Q.1 x0.2.2.2.1.length Q.2.1)),(26,.v (.int .i64 (x0.2.2.2.1.length:Int))),(27,.v (.int .i64 a))]) .nil (λs q=>[⟨(.pair .str (.pair (.int .i64) (.pair (.int .i64) (.pair .val (.pair (.int .i64) (.pair (.int .i64) (.pair .str (.pair .val .bool)))))))),⟨a2,1,1⟩,[(x0.1,s,x0.2.2.1,(bz.v ⟨none,0,0⟩),x0.2.2.2.2.1,x0.2.2.2.2.2.1,x0.2.2.2.2.2.2.1,(bz.v ⟨Q.2.2.1,x0.2.2.2.2.2.2.2.1.length,Q.2.2.2⟩),false)]⟩,r5 Q.1 x0.2.2.2.1 Q.2.1,h2 Q.2.2.1 x0.2.2.2.2.2.2.2.1 Q.2.2.2]) U ?_ ?_
    ·intro y _ h;refine V.go ab 2 0 U ?_;refine V.cl (aI.jd 1 U λn=>V.cz ?_);obtain⟨i,h⟩:=bB h;refine V.go ab 2 0 ⟨n.ix i,U⟩ ?_;refine V.cl (aI.kJ ab U U U U U U 1 U U (Int.toNat a) 0 (at' x0.2.2.2.1 a) ⟨mU i,U⟩ U U U (V.cz ?_));refine V.cl (aI.o_ ab 3 [] [25] [(3,.v (.int .i64 a)),(4,.eX 25 0)] (.new 25 75 [.string (a9 (at' x0.2.2.2.1 a).1),.bool (at' x0.2.2.2.1 a).2] .nil) U ⟨(fE U),(jv U U)⟩ (V.cz ?_));refine V.jH ab 2 0 U (by kernel_rfl) ?_;refine V.go ab 12 0 ⟨U,U,U,U,U,U,U⟩ ?_;obtain⟨z,f,h⟩:=jS h;refine V.toQ (k1.call U U U U (agU f) U [] U U (V.s5 ?_));refine V.co ab 8 0 h U (λh=>?_) (λh=>?_)
     ·refine V.go ab 22 0 ⟨U,U,U,U,U,U,U,U,U,U⟩ ?_;refine V.cl (aI.ky U (cL.buildSlice ab U U U U U U U U U U U [] U .str [([60,60]:aa)] ⟨U,U⟩ U U λc=>aI.kz (V.cz ?_)));obtain⟨o,h⟩:=bB h;refine V.go ab 9 1 ⟨U,U,U,U⟩ ?_;refine V.cl (aI.GH ab U U U U U U U U [2] U a (x0.2.2.2.1.length:Int) U U o U λj k=>V.cz ?_);refine V.db ab 3 0 h (ρ:=Unit) (λs q=>[]) .nil (λs q=>[⟨(.pair .str (.pair (.int .i64) (.pair (.int .i64) (.pair .val (.pair (.int .i64) (.pair (.int .i64) (.pair .str (.pair .val .bool)))))))),⟨a2,1,1⟩,[(x0.1,(x0.1.length:Int),x0.2.2.1,(bz.v ⟨none,0,0⟩),1,x0.2.2.2.2.2.1,s,(bz.v ⟨c,([([60,60]:aa)]:bt).length,([([60,60]:aa)]:bt).length⟩),false)]⟩,h2 c ([([60,60]:aa)]:bt) ([([60,60]:aa)]:bt).length]) U ?_ ?_
      ·intro A _ h;refine V.e8 ab 0 0 h (ρ:=Unit) (λs q=>[(0,.bj ⟨a2,1,1⟩ 0),(64,.v (.slice j (cg x0.2.2.2.1 a (x0.2.2.2.1.length:Int)).length k)),(65,.v (.int .i64 ((cg x0.2.2.2.1 a (x0.2.2.2.1.length:Int)).length:Int))),(66,.v (.int .i64 s.1))]) .nil (λs q=>[⟨(.pair .str (.pair (.int .i64) (.pair (.int .i64) (.pair .val (.pair (.int .i64) (.pair (.int .i64) (.pair .str (.pair .val .bool)))))))),⟨a2,1,1⟩,[(x0.1,(x0.1.length:Int),x0.2.2.1,(bz.v ⟨none,0,0⟩),1,x0.2.2.2.2.2.1,s.2,(bz.v ⟨c,([([60,60]:aa)]:bt).length,([([60,60]:aa)]:bt).length⟩),false)]⟩,r5 j (cg x0.2.2.2.1 a (x0.2.2.2.1.length:Int)) k,h2 c ([([60,60]:aa)]:bt) ([([60,60]:aa)]:bt).length]) () [1,0,2] U ?_;rintro p ⟨b,d⟩ _ h;rw[HD] at h;refine V.co ab 5 0 h U (λh=>?_) (λh=>?_)
       ·refine V.go ab 5 0 U ?_;refine V.cl (aI.jd 1 U λg=>V.cz ?_);obtain⟨l,h⟩:=bB h;refine V.go ab 1 0 ⟨g.ix l,U⟩ ?_;refine V.cl (aI.kJ ab U U U U U U 1 U U (Int.toNat b) 0 (at' (cg x0.2.2.2.1 a (x0.2.2.2.1.length:Int)) b) ⟨mU l,U⟩ U U U (V.cz ?_));refine V.cl (aI.o_ ab 2 [] [55] [(7,.eX 55 0)] (.new 55 75 [.string (a9 (at' (cg x0.2.2.2.1 a (x0.2.2.2.1.length:Int)) b).1),.bool (at' (cg x0.2.2.2.1 a (x0.2.2.2.1.length:Int)) b).2] .nil) U ⟨⟨U,trivial⟩,(jv U U)⟩ (V.cz ?_));obtain⟨t,h⟩:=bB h;obtain⟨u,h⟩:=bB h;refine V.go ab 1 0 U ?_;refine V.jW (aT.jd 0 U λe=>V.iJ ?_);refine V.jW (aT.r3 U (.new 55 75 [.string (a9 (at' (cg x0.2.2.2.1 a (x0.2.2.2.1.length:Int)) b).1),.bool (at' (cg x0.2.2.2.1 a (x0.2.2.2.1.length:Int)) b).2] .nil) [0] [7,8,9,10,11] ⟨U,U,U,U,trivial⟩ U (λv=>?_));refine bE.pa ab gh 11 [0] U (by kernel_rfl) [] [(70,.bj ⟨a2,1,1⟩ 0)] U ⟨U,trivial⟩ (bE.eD ab gh true 6 [1,2,3,5,6] U (by kernel_rfl) [] [(73,.bj ⟨a2,1,1⟩ 6),(76,.v (.string (a9 (at' (cg x0.2.2.2.1 a (x0.2.2.2.1.length:Int)) b).1)))] ⟨U,U,U,U,trivial⟩ [0] U U ⟨(e.fS fT).1,e.fS fT,(fE U)⟩ (bE.kJ ab gh 4 U (by kernel_rfl) U U U U U 0 U U 0 6 (x0.1,(x0.1.length:Int),x0.2.2.1,(bz.v ⟨none,0,0⟩),1,x0.2.2.2.2.2.1,d,(bz.v ⟨c,([([60,60]:aa)]:bt).length,([([60,60]:aa)]:bt).length⟩),false) ⟨U,U⟩ U U U ⟨U,U,U,U,trivial⟩ [0] U (bE.pa ab gh 1 [7,8,9,10] U (by kernel_rfl) [] [(78,.v (.string (a9 ((d++(at' (cg x0.2.2.2.1 a (x0.2.2.2.1.length:Int)) b).1)++([10]:aa))))),(80,.bj ⟨a2,1,1⟩ 6)] U ⟨t,u,(e.fS fT).1,e.fS fT,(fE U)⟩ (bE.one 11 (by kernel_rfl) (cL.qE ab U U U U U U U U U [0] (fs:=[]) U 0 6 (x0.1,(x0.1.length:Int),x0.2.2.1,(bz.v ⟨none,0,0⟩),1,x0.2.2.2.2.2.1,d,(bz.v ⟨c,([([60,60]:aa)]:bt).length,([([60,60]:aa)]:bt).length⟩),false) (x0.1,(x0.1.length:Int),x0.2.2.1,(bz.v ⟨none,0,0⟩),1,x0.2.2.2.2.2.1,((d++(at' (cg x0.2.2.2.1 a (x0.2.2.2.1.length:Int)) b).1)++([10]:aa)),(bz.v ⟨c,([([60,60]:aa)]:bt).length,([([60,60]:aa)]:bt).length⟩),false) ⟨U,U⟩ ⟨⟨⟨⟨⟨⟨⟨⟨U,U,U⟩,U⟩,U⟩,U⟩,U⟩,U⟩,U⟩,U⟩ (bE.nG U (bE.done (by kernel_rfl) (aT.boxes (B':= .nil) trivial (V.iJ ?_)))))))));exact V.el ab 5 0 h () [0,1,2] U
       exact V.a6 ab 1 0 h () [0,2] U
      rintro B _ h;cases h;refine V.jW (aT.pY (.pair .str .bool) bz.nil U U (V.iJ ?_));exact V.rx ab 0 0 (none,0,c,([([60,60]:aa)]:bt).length) [1,0,0] U
     try dsimp only at h
     exact V.a6 ab 9 0 h () [0,1,2] ⟨U,U,U,U⟩
    rintro C _ h
    try dsimp only at h
    exact V.el ab 4 0 h () [0,1,2] U
   exact V.a6 ab 1 0 h () [0,2] U
  rintro D _ h;cases h;refine V.jW (aT.pY (.pair .str .bool) bz.nil U U (V.iJ ?_));exact V.jG ab 0 0 (none,0,Q.2.2) [1,0,0] U
def La:Option bt:=
 some ([([60,60,45]:aa),([38,38]:aa),([124,124]:aa),([59,59]:aa),([60,60]:aa),([60,38]:aa),([60,62]:aa),([62,62]:aa),([62,38]:aa),([62,124]:aa),([38]:aa),([124]:aa),([59]:aa),([60]:aa),([62]:aa),([40]:aa),([41]:aa)]:bt)
theorem agZ{r:bt}(h:La=some r):
  FC Tryz.prog 79 [] [] (λ_:bK×Nat=>True) (λq=> .slice q.1 r.length q.2) (λq=>[h2 q.1 r q.2]):=
 by refine V.fI (T:=ck) Tryz.call79 Tryz.func79 U λ_=>?_;unfold La at h;refine V.go ab 6 0 U ?_;refine V.cl (aI.ky U (cL.buildSlice ab U U U U U U U U U U U [] U .str [([60,60,45]:aa),([38,38]:aa),([124,124]:aa),([59,59]:aa),([60,60]:aa),([60,38]:aa),([60,62]:aa),([62,62]:aa),([62,38]:aa),([62,124]:aa),([38]:aa),([124]:aa),([59]:aa),([60]:aa),([62]:aa),([40]:aa),([41]:aa)] ⟨U,U⟩ U U λa=>aI.kz (V.cz ?_)));cases h;exact V.rt ab 2 0 (a,([([60,60,45]:aa),([38,38]:aa),([124,124]:aa),([59,59]:aa),([60,60]:aa),([60,38]:aa),([60,62]:aa),([62,62]:aa),([62,38]:aa),([62,124]:aa),([38]:aa),([124]:aa),([59]:aa),([60]:aa),([62]:aa),([40]:aa),([41]:aa)]:bt).length) [0] U
def HE(x0:aa)(c:Int)(b:bt)(e:Unit->Option aa)(d:Int->Option aa):Int->Option aa:=λa=>
 (bif(decide (a<(b.length:Int))) then(aZ (0<=a/\a<(b.length:Int))<|(aZ (((decide (((at' b a).length:Int)<=(W ((x0.length:Int)-c))))=true)->0<=c/\c<=(W (c+((at' b a).length:Int)))/\(W (c+((at' b a).length:Int)))<=(x0.length:Int))<|(bif(bif(decide (((at' b a).length:Int)<=(W ((x0.length:Int)-c)))) then(decide ((cg x0 c (W (c+((at' b a).length:Int))))=(at' b a))) else false) then some (at' b a) else d (W (a+1))))) else e ())
def yg(x0:aa)(a:Int):Option aa:=
 (bif(bif(decide (a<0)) then true else(decide ((x0.length:Int)<=a))) then some ([]) else(au (La) λ(b:bt)=>(a8 (λ(_:Unit)=>some ([])) λc=>(fixF (HE x0 a b c) bC 0))))
theorem Qz{x0:aa}{b:Int}{r:aa}(h:yg x0 b=some r):
  FC Tryz.prog 67 [.string (a9 x0),.int .i64 b] [] (λ_:Unit=>True) (λ_=> .string (a9 r)) (λ_=>[]):=
 by
  refine V.fI (T:=ck) Tryz.call67 Tryz.func67 U λ_=>?_;unfold yg at h;refine V.co ab 16 0 h U (λh=>?_) (λh=>?_)
  ·cases h;exact V.rt ab 4 0 () [] U
  refine V.cM ab 4 0 h agZ [] U ?_;rintro a ⟨d,e⟩ h;refine V.db ab 3 0 h (ρ:=Unit) (λs q=>[]) .nil (λs q=>[]) U ?_ ?_
  ·intro k _ h;refine V.e8 ab 0 0 h (ρ:=Unit) (λs q=>[(0,.v (.string (a9 x0))),(1,.v (.int .i64 b)),(15,.v (.slice d a.length e)),(16,.v (.int .i64 (a.length:Int))),(17,.v (.int .i64 s))]) .nil (λs q=>[h2 d a e]) () [0] U ?_;rintro i f _ h;rw[HE] at h;refine V.co ab 5 0 h U (λh=>?_) (λh=>?_)
   ·refine V.go ab 5 0 U ?_;refine V.cl (aI.jd 0 U λc=>V.cz ?_);obtain⟨g,h⟩:=bB h;refine V.go ab 1 0 ⟨c.ix g,U⟩ ?_;refine V.cl (aI.load ab U U U U U U U 0 U U (Int.toNat f) 0 (at' a f) ⟨mU g,U⟩ U U (V.cz ?_));obtain⟨j,h⟩:=bB h;refine V.co ab 23 0 h ⟨j,U⟩ (λh=>?_) (λh=>?_)
    ·cases h;exact V.rt ab 5 0 () [] U
    exact V.el ab 6 0 h () [0] U
   exact V.a6 ab 1 0 h () [] U
  rintro _ _ h;cases h;exact V.rt ab 4 0 () [] U
def hH(x0:ah):Option aa:=
 (au (yg x0.1 x0.2.1) λ(a:aa)=>some a)
theorem oI{x0:ah}{a2:bK}{Q:bu}{r:aa}(h:hH x0=some r):
  FC Tryz.prog 48 [.pointer a2] [lQ a2 x0 Q] (λ_:Unit=>True) (λ_=> .string (a9 r)) (λ_=>[]):=
 by refine V.fI (T:=ck) Tryz.call48 Tryz.func48 U λ_=>?_;unfold hH at h;refine V.jH ab 5 0 U (by kernel_rfl) ?_;refine V.go ab 8 0 ⟨U,U,U,U,U,U,U⟩ ?_;obtain⟨b,a,h⟩:=jS h;refine V.toQ (k1.call U U U U (Qz a) U [] U U (V.s5 ?_));cases h;exact V.rt ab 2 0 () [] U
def HF(x0:ah)(b:Int->Option aa)(c:Int->Option aa):Int->Option aa:=λa=>
 (aZ (((decide (a<(x0.1.length:Int)))=true)->0<=a/\a<(x0.1.length:Int))<|(aZ (((decide ((97:Int)<=((at' x0.1 a).toNat:Int)))=true)->((decide (a<(x0.1.length:Int)))=true)->0<=a/\a<(x0.1.length:Int))<|(aZ (((bif(decide ((97:Int)<=((at' x0.1 a).toNat:Int))) then(decide (((at' x0.1 a).toNat:Int)<=(122:Int))) else false)=false)->((decide (a<(x0.1.length:Int)))=true)->0<=a/\a<(x0.1.length:Int))<|(aZ (((bif(bif(decide ((97:Int)<=((at' x0.1 a).toNat:Int))) then(decide (((at' x0.1 a).toNat:Int)<=(122:Int))) else false) then true else(decide (((at' x0.1 a).toNat:Int)=(123:Int))))=false)->((decide (a<(x0.1.length:Int)))=true)->0<=a/\a<(x0.1.length:Int))<|(aZ (((bif(bif(bif(decide ((97:Int)<=((at' x0.1 a).toNat:Int))) then(decide (((at' x0.1 a).toNat:Int)<=(122:Int))) else false) then true else(decide (((at' x0.1 a).toNat:Int)=(123:Int)))) then true else(decide (((at' x0.1 a).toNat:Int)=(125:Int))))=false)->((decide (a<(x0.1.length:Int)))=true)->0<=a/\a<(x0.1.length:Int))<|(bif(bif(decide (a<(x0.1.length:Int))) then(bif(bif(bif(bif(decide ((97:Int)<=((at' x0.1 a).toNat:Int))) then(decide (((at' x0.1 a).toNat:Int)<=(122:Int))) else false) then true else(decide (((at' x0.1 a).toNat:Int)=(123:Int)))) then true else(decide (((at' x0.1 a).toNat:Int)=(125:Int)))) then true else(decide (((at' x0.1 a).toNat:Int)=(33:Int)))) else false) then c (W (a+1)) else b a))))))
def lD(x0:ah):Option aa:=
 (a8 (λ(a:Int)=>(aZ (((decide (a<(x0.1.length:Int)))=true)->0<=a/\a<(x0.1.length:Int))<|(cP ((decide (a<(x0.1.length:Int)))=true) (zV (at' x0.1 a)) false λ(b:Bool)=>(aZ ((b=false)->((decide (a<(x0.1.length:Int)))=true)->0<=a/\a<(x0.1.length:Int))<|(cP ((bif b then true else(decide (((at' x0.1 a).toNat:Int)=(10:Int))))=false/\(decide (a<(x0.1.length:Int)))=true) (yg x0.1 a) [] λ(c:aa)=>(bif(bif(decide (a<(x0.1.length:Int))) then(bif(bif b then true else(decide (((at' x0.1 a).toNat:Int)=(10:Int)))) then true else(!(decide (c=[])))) else false) then(aZ (0<=x0.2.1/\x0.2.1<=a/\a<=(x0.1.length:Int))<|some (cg x0.1 x0.2.1 a)) else some ([]))))))) λd=>(fixF (HF x0 d) bC x0.2.1))
theorem wQ{x0:ah}{a2:bK}{Q:bu}{r:aa}(h:lD x0=some r):
  FC Tryz.prog 49 [.pointer a2] [lQ a2 x0 Q] (λ_:Unit=>True) (λ_=> .string (a9 r)) (λ_=>[]):=
 by
  refine V.fI (T:=ck) Tryz.call49 Tryz.func49 U λ_=>?_;unfold lD at h;refine V.db ab 13 0 h (ρ:=Unit) (λs q=>[(0,.bj ⟨a2,1,1⟩ 0),(3,.v (.int .i64 s))]) .nil (λs q=>[]) ⟨U,U,U,U⟩ ?_ ?_
  ·intro l _ h;refine V.e8 ab 0 0 h (ρ:=Unit) (λs q=>[(0,.bj ⟨a2,1,1⟩ 0),(3,.v (.int .i64 s))]) .nil (λs q=>[]) () [] U ?_;rintro m n _ h;rw[HF] at h;obtain⟨g,h⟩:=bB h;obtain⟨i,h⟩:=bB h;obtain⟨j,h⟩:=bB h;obtain⟨k,h⟩:=bB h;obtain⟨a,h⟩:=bB h;refine V.co ab 56 0 h ⟨U,U,U,U,U,U,g,U,U,U,i,U,U,U,j,U,U,U,k,U,U,U,a,U⟩ (λh=>?_) (λh=>?_)
   ·exact V.el ab 8 0 h () [] U
   exact V.a6 ab 1 0 h () [] U
  rintro o _ h;obtain⟨b,h⟩:=bB h;refine V.hg ab 17 0 h Qr [] ⟨U,U,U,U,U,U,b,U⟩ (λ_=>id) λp h=>?_;obtain⟨c,h⟩:=bB h;refine V.hg ab 15 0 h Qz [] ⟨U,U,U,c,U,U,U,U⟩ (λ_ F d e=>F ⟨d,e⟩) λt h=>?_;refine V.co ab 4 0 h U (λh=>?_) (λh=>?_)
  ·obtain⟨f,h⟩:=bB h;refine V.jH ab 1 0 U (by kernel_rfl) ?_;cases h;exact V.rt ab 12 0 () [] ⟨U,U,U,U,U,U,f,U⟩
  cases h;exact V.rt ab 5 0 () [] U
def HG(x0:aa)(b:bt)(c:Unit->Option Bool)(d:Int->Option Bool):Int->Option Bool:=λa=>
 (bif(decide (a<(b.length:Int))) then(aZ (0<=a/\a<(b.length:Int))<|(bif(decide ((at' b a)=x0)) then some true else d (W (a+1)))) else c ())
def yh(x0:aa)(a:bt):Option Bool:=
 (a8 (λ(_:Unit)=>some false) λb=>(fixF (HG x0 a b) bC 0))
theorem Le{x0:aa}{a:bt}{a3:bK}{b:Nat}{r:Bool}(h:yh x0 a=some r):
  FC Tryz.prog 50 [.string (a9 x0),.slice a3 a.length b] [h2 a3 a b] (λ_:Unit=>True) (λ_=> .bool r) (λ_=>[]):=
 by
  refine V.fI (T:=ck) Tryz.call50 Tryz.func50 U λ_=>?_;unfold yh at h;refine V.db ab 11 0 h (ρ:=Unit) (λs q=>[]) .nil (λs q=>[]) U ?_ ?_
  ·intro f _ h;refine V.e8 ab 0 0 h (ρ:=Unit) (λs q=>[(0,.v (.string (a9 x0))),(7,.v (.slice a3 a.length b)),(8,.v (.int .i64 (a.length:Int))),(9,.v (.int .i64 s))]) .nil (λs q=>[]) () [] U ?_;rintro g d _ h;rw[HG] at h;refine V.co ab 5 0 h U (λh=>?_) (λh=>?_)
   ·refine V.go ab 5 0 U ?_;refine V.cl (aI.jd 0 U λc=>V.cz ?_);obtain⟨e,h⟩:=bB h;refine V.go ab 1 0 ⟨c.ix e,U⟩ ?_;refine V.cl (aI.load ab U U U U U U U 0 U U (Int.toNat d) 0 (at' a d) ⟨mU e,U⟩ U U (V.cz ?_));refine V.co ab 8 0 h U (λh=>?_) (λh=>?_)
    ·cases h;exact V.rt ab 4 0 () [] U
    exact V.el ab 6 0 h () [] U
   exact V.a6 ab 1 0 h () [] U
  rintro _ _ h;cases h;exact V.rt ab 4 0 () [] U
def yi(x0:aa):Option Bool:=
 (au (yh x0 ([([105,102]:aa),([119,104,105,108,101]:aa),([117,110,116,105,108]:aa),([102,111,114]:aa),([99,97,115,101]:aa),([123]:aa)]:bt)) λ(a:Bool)=>some a)
theorem WB{x0:aa}{r:Bool}(h:yi x0=some r):
  FC Tryz.prog 97 [.string (a9 x0)] [] (λ_:Unit=>True) (λ_=> .bool r) (λ_=>[]):=
 by refine V.fI (T:=ck) Tryz.call97 Tryz.func97 U λ_=>?_;unfold yi at h;refine V.go ab 7 0 U ?_;refine V.cl (aI.ky U (cL.buildSlice ab U U U U U U U U U U U [] U .str [([105,102]:aa),([119,104,105,108,101]:aa),([117,110,116,105,108]:aa),([102,111,114]:aa),([99,97,115,101]:aa),([123]:aa)] ⟨U,U⟩ U U λa2=>aI.kz (V.cz ?_)));refine V.cM ab 0 0 h Le [0] U λa _ h=>?_;cases h;exact V.rt ab 2 0 () [] U
def vA(x0:aa):Option Bool:=
 (au (yh x0 ([([60,60,45]:aa),([60,60]:aa),([60,38]:aa),([60,62]:aa),([62,62]:aa),([62,38]:aa),([62,124]:aa),([60]:aa),([62]:aa)]:bt)) λ(a:Bool)=>some a)
theorem Lf{x0:aa}{r:Bool}(h:vA x0=some r):
  FC Tryz.prog 99 [.string (a9 x0)] [] (λ_:Unit=>True) (λ_=> .bool r) (λ_=>[]):=
 by refine V.fI (T:=ck) Tryz.call99 Tryz.func99 U λ_=>?_;unfold vA at h;refine V.go ab 7 0 U ?_;refine V.cl (aI.ky U (cL.buildSlice ab U U U U U U U U U U U [] U .str [([60,60,45]:aa),([60,60]:aa),([60,38]:aa),([60,62]:aa),([62,62]:aa),([62,38]:aa),([62,124]:aa),([60]:aa),([62]:aa)] ⟨U,U⟩ U U λa2=>aI.kz (V.cz ?_)));refine V.cM ab 0 0 h Le [0] U λa _ h=>?_;cases h;exact V.rt ab 2 0 () [] U
def Eh(x0:aa):Option Bool:=
 (au (yh x0 ([([105,102]:aa),([116,104,101,110]:aa),([101,108,105,102]:aa),([101,108,115,101]:aa),([102,105]:aa),([100,111]:aa),([100,111,110,101]:aa),([119,104,105,108,101]:aa),([117,110,116,105,108]:aa),([102,111,114]:aa),([99,97,115,101]:aa),([101,115,97,99]:aa),([123]:aa),([125]:aa),([33]:aa)]:bt)) λ(a:Bool)=>some a)
theorem ag_{x0:aa}{r:Bool}(h:Eh x0=some r):
  FC Tryz.prog 100 [.string (a9 x0)] [] (λ_:Unit=>True) (λ_=> .bool r) (λ_=>[]):=
 by refine V.fI (T:=ck) Tryz.call100 Tryz.func100 U λ_=>?_;unfold Eh at h;refine V.go ab 7 0 U ?_;refine V.cl (aI.ky U (cL.buildSlice ab U U U U U U U U U U U [] U .str [([105,102]:aa),([116,104,101,110]:aa),([101,108,105,102]:aa),([101,108,115,101]:aa),([102,105]:aa),([100,111]:aa),([100,111,110,101]:aa),([119,104,105,108,101]:aa),([117,110,116,105,108]:aa),([102,111,114]:aa),([99,97,115,101]:aa),([101,115,97,99]:aa),([123]:aa),([125]:aa),([33]:aa)] ⟨U,U⟩ U U λa2=>aI.kz (V.cz ?_)));refine V.cM ab 0 0 h Le [0] U λa _ h=>?_;cases h;exact V.rt ab 2 0 () [] U
def HH(x0:ah)(c:Int->Option Bool)(b:Int->Option Bool):Int->Option Bool:=λa=>
 (aZ (((decide (a<(x0.1.length:Int)))=true)->0<=a/\a<(x0.1.length:Int))<|(aZ (((bif(decide (a<(x0.1.length:Int))) then(decide ((48:Int)<=((at' x0.1 a).toNat:Int))) else false)=true)->0<=a/\a<(x0.1.length:Int))<|(bif(bif(bif(decide (a<(x0.1.length:Int))) then(decide ((48:Int)<=((at' x0.1 a).toNat:Int))) else false) then(decide (((at' x0.1 a).toNat:Int)<=(57:Int))) else false) then b (W (a+1)) else c a)))
def zZ(x0:ah):Option Bool:=
 (a8 (λ(a:Int)=>(cP ((decide (x0.2.1<a))=true) (yg x0.1 a) [] λ(b:aa)=>(cP ((decide (x0.2.1<a))=true) (vA b) false λ(c:Bool)=>some (bif(decide (x0.2.1<a)) then c else false)))) λd=>(fixF (HH x0 d) bC x0.2.1))
theorem WC{x0:ah}{a2:bK}{Q:bu}{r:Bool}(h:zZ x0=some r):
  FC Tryz.prog 130 [.pointer a2] [lQ a2 x0 Q] (λ_:Unit=>True) (λ_=> .bool r) (λ_=>[]):=
 by
  refine V.fI (T:=ck) Tryz.call130 Tryz.func130 U λ_=>?_;unfold zZ at h;refine V.db ab 13 0 h (ρ:=Unit) (λs q=>[(0,.bj ⟨a2,1,1⟩ 0),(3,.v (.int .i64 s))]) .nil (λs q=>[]) ⟨U,U,U,U⟩ ?_ ?_
  ·intro d _ h;refine V.e8 ab 0 0 h (ρ:=Unit) (λs q=>[(0,.bj ⟨a2,1,1⟩ 0),(3,.v (.int .i64 s))]) .nil (λs q=>[]) () [] U ?_;rintro a e _ h;rw[HH] at h;obtain⟨b,h⟩:=bB h;obtain⟨c,h⟩:=bB h;refine V.co ab 29 0 h ⟨U,U,U,U,U,U,b,U,U,U,c,U⟩ (λh=>?_) (λh=>?_)
   ·exact V.el ab 8 0 h () [] U
   exact V.a6 ab 1 0 h () [] U
  rintro f _ h;refine V.hg ab 14 0 h Qz [] ⟨U,U,U,U,U,U,U⟩ (λ_=>id) λg h=>?_;refine V.hg ab 0 0 h Lf [] U (λ_=>id) λi h=>?_;cases h;exact V.rt ab 3 0 () [] U
def tc(x0:ah)(a:Int):Option UInt8:=
 (bif(decide ((W (x0.2.1+a))<(x0.1.length:Int))) then(aZ (0<=(W (x0.2.1+a))/\(W (x0.2.1+a))<(x0.1.length:Int))<|some (at' x0.1 (W (x0.2.1+a)))) else some (0:UInt8))
theorem Ei{x0:ah}{a:Int}{a3:bK}{Q:bu}{r:UInt8}(h:tc x0 a=some r):
  FC Tryz.prog 157 [.pointer a3,.int .i64 a] [lQ a3 x0 Q] (λ_:Unit=>True) (λ_=> .int .u8 (r.toNat:Int)) (λ_=>[]):=
 by
  refine V.fI (T:=ck) Tryz.call157 Tryz.func157 U λ_=>?_;unfold tc at h;refine V.jH ab 6 0 U (by kernel_rfl) ?_;refine V.co ab 13 0 h ⟨U,U,U,U,U,U,U⟩ (λh=>?_) (λh=>?_)
  ·obtain⟨b,h⟩:=bB h;refine V.jH ab 1 0 U (by kernel_rfl) ?_;cases h;exact V.rt ab 13 0 () [] ⟨U,U,U,U,U,U,b,U⟩
  cases h;exact V.rt ab 5 0 () [] U
def BX(x0:aa)(d:Unit->Option Int)(b:Int->Option Int):Int->Option Int:=λa=>
 (bif(decide (a<(x0.length:Int))) then(a8 (λ(e:Int)=>b (W (e+1))) λc=>(aZ (0<=a/\a<(x0.length:Int))<|(bif(decide (((at' x0 a).toNat:Int)=(96:Int))) then some (W (a+1)) else(aZ (0<=a/\a<(x0.length:Int))<|(bif(decide (((at' x0 a).toNat:Int)=(92:Int))) then c (W (a+1)) else c a))))) else d ())
def z1(x0:aa)(a:Int):Option Int:=
 (au (zW a (x0.length:Int)) λ(b:Int)=>(a8 (λ(_:Unit)=>some (-1)) λc=>(fixF (BX x0 c) bC b)))
theorem QB{x0:aa}{a:Int}{r:Int}(h:z1 x0 a=some r):
  FC Tryz.prog 156 [.string (a9 x0),.int .i64 a] [] (λ_:Unit=>True) (λ_=> .int .i64 r) (λ_=>[]):=
 by
  refine V.fI (T:=ck) Tryz.call156 Tryz.func156 U λ_=>?_;unfold z1 at h;refine V.cM ab 10 0 h K9 [] U λe _ h=>?_;refine V.db ab 2 0 h (ρ:=Unit) (λs q=>[]) .nil (λs q=>[]) U ?_ ?_
  ·intro f _ h;refine V.e8 ab 0 0 h (ρ:=Unit) (λs q=>[(0,.v (.string (a9 x0))),(5,.v (.int .i64 s))]) .nil (λs q=>[]) () [] U ?_;rintro b g _ h;rw[BX] at h;refine V.co ab 8 0 h U (λh=>?_) (λh=>?_)
   ·refine V.db ab 2 0 h (ρ:=Unit) (λs q=>[(0,.v (.string (a9 x0))),(5,.v (.int .i64 s))]) .nil (λs q=>[]) U ?_ ?_
    ·intro i _ h;obtain⟨c,h⟩:=bB h;refine V.co ab 8 0 h ⟨c,U⟩ (λh=>?_) (λh=>?_)
     ·cases h;exact V.rt ab 6 0 () [] U
     obtain⟨d,h⟩:=bB h;refine V.co ab 8 0 h ⟨d,U⟩ (λh=>?_) (λh=>?_)
     ·exact V.a6 ab 6 0 h () [] U
     exact V.a6 ab 2 0 h () [] U
    rintro j _ h
    try dsimp only at h
    exact V.el ab 5 0 h () [] U
   exact V.a6 ab 1 0 h () [] U
  rintro _ _ h;cases h;exact V.rt ab 4 0 () [] U
def sj(x0:ah)(b:Int)(c:aa)(d:aa):Option ah:=
 (bif(decide (b<0)) then(au (g7 (x0.1,(x0.1.length:Int),x0.2.2) d) λ(a:ah)=>(aZ (([c]:bt).length+a.2.2.2.2.2.2.2.1.length<=536870912)<|some (a.1,a.2.1,a.2.2.1,a.2.2.2.1,a.2.2.2.2.1,a.2.2.2.2.2.1,a.2.2.2.2.2.2.1,(([c]:bt)++a.2.2.2.2.2.2.2.1),a.2.2.2.2.2.2.2.2))) else some (x0.1,b,x0.2.2))
theorem Ej{x0:ah}{c:Int}{a:aa}{d:aa}{b:bK}{Q:bu}{r:ah}(h:sj x0 c a d=some r):
  gN Tryz.prog 153 [.pointer b,.int .i64 c,.string (a9 a),.string (a9 d)] [] (eR b x0 Q) (λ_:bu=>True) (λq=> .tuple #[]) (λq=>eR b r q):=
 by
  refine V.jo (T:=ck) Tryz.call153 Tryz.func153 U λ_ _=>?_;unfold sj at h;refine V.co ab 13 0 h ⟨U,U,U,U⟩ (λh=>?_) (λh=>?_)
  ·refine V.bH ab 16 0 h pw [0,0,0] [] ⟨U,U,U,U,U,U,U⟩ λj e h=>?_;refine V.go ab 4 0 U ?_;refine V.cl (aI.ky U (cL.buildSlice ab U U U U U U U U U U U [] U .str [a] ⟨U,U⟩ U U λk=>aI.kz (V.cz ?_)));obtain⟨f,h⟩:=bB h;refine V.go ab 4 1 ⟨U,U,U,U⟩ ?_;refine V.cl (aI.qF ab U U U U ⟨U,U,U,U,trivial,U,U,U,U⟩ U U U [0] U 3 U f U λg i=>V.cz ?_);cases h;exact V.jG ab 4 1 (e.1,e.2.1,g,i) [0,1,0] ⟨U,U,U,U⟩
  cases h;exact V.jG ab 1 0 Q [0,0,0] U
def wR(x0:ah):Option ah:=
 (bif(decide ((x0.1.length:Int)<(W (x0.2.1+2)))) then some (x0.1,(x0.1.length:Int),x0.2.2) else some (x0.1,(W (x0.2.1+2)),x0.2.2))
theorem QC{x0:ah}{a2:bK}{Q:bu}{r:ah}(h:wR x0=some r):
  gN Tryz.prog 152 [.pointer a2] [] [lQ a2 x0 Q] (λ_:Unit=>True) (λ_=> .tuple #[]) (λ_=>[lQ a2 (r.1,r.2.1,r.2.2.1,x0.2.2.2.1,r.2.2.2.2.1,r.2.2.2.2.2.1,r.2.2.2.2.2.2.1,x0.2.2.2.2.2.2.2.1,r.2.2.2.2.2.2.2.2) Q]):=
 by
  refine V.jo (T:=ck) Tryz.call152 Tryz.func152 U λ_ _=>?_;unfold wR at h;refine V.jH ab 13 0 ⟨U,U,U,U,U,U,U⟩ (by kernel_rfl) ?_;refine V.co ab 11 0 h ⟨U,U,U,U,U,U,U⟩ (λh=>?_) (λh=>?_)
  ·cases h;exact V.jG ab 11 0 () [0] ⟨U,U,U,U,U,U,U⟩
  cases h;exact V.jG ab 1 0 () [0] U
def gv(x0:ah)(a:aa)(c:aa):Option ah:=
 (bif(decide (x0.2.2.2.2.1=1)) then(a8 (λ(d:bt)=>(au (vy (x0.1,x0.2.1,x0.2.2.1,x0.2.2.2.1,x0.2.2.2.2.1,x0.2.2.2.2.2.1,x0.2.2.2.2.2.2.1,d,x0.2.2.2.2.2.2.2.2) c) λ(e:ah)=>some e)) λb=>(bif(!(decide (a=[]))) then(aZ (([a]:bt).length+x0.2.2.2.2.2.2.2.1.length<=536870912)<|b (([a]:bt)++x0.2.2.2.2.2.2.2.1)) else b x0.2.2.2.2.2.2.2.1)) else some x0)
theorem qP{x0:ah}{b:aa}{c:aa}{a:bK}{Q:bu}{r:ah}(h:gv x0 b c=some r):
  gN Tryz.prog 53 [.pointer a,.string (a9 b),.string (a9 c)] [] (eR a x0 Q) (λ_:bu=>True) (λq=> .tuple #[]) (λq=>eR a r q):=
 by
  refine V.jo (T:=ck) Tryz.call53 Tryz.func53 U λ_ _=>?_;unfold gv at h;refine V.co ab 8 0 h ⟨U,U,U,U⟩ (λh=>?_) (λh=>?_)
  ·refine V.e6 ab 0 0 h (ρ:=bK×Nat) (λs q=>[(0,.bj ⟨a,1,1⟩ 0),(2,.v (.string (a9 c)))]) .nil (λs q=>[h2 q.1 s q.2,lQ a (x0.1,x0.2.1,x0.2.2.1,x0.2.2.2.1,x0.2.2.2.2.1,x0.2.2.2.2.2.1,x0.2.2.2.2.2.2.1,s,x0.2.2.2.2.2.2.2.2) (Q.1,Q.2.1,q),r5 Q.1 x0.2.2.2.1 Q.2.1]) U ?_ ?_
   ·intro k _ h;refine V.co ab 5 0 h U (λh=>?_) (λh=>?_)
    ·refine V.go ab 3 0 U ?_;refine V.cl (aI.ky U (cL.buildSlice ab U U U U U U U U U U U [] U .str [b] ⟨U,U⟩ U U λl=>aI.kz (V.cz ?_)));obtain⟨f,h⟩:=bB h;refine V.go ab 4 1 ⟨U,U,U,U⟩ ?_;refine V.cl (aI.qF ab U U U U ⟨U,U,U,U,trivial,U,U,U,U⟩ U U U [0] U 3 U f U λg i=>V.cz ?_);exact V.a6 ab 4 1 h (g,i) [1,0,2] ⟨U,U,U,U⟩
    exact V.a6 ab 1 0 h Q.2.2 [2,0,1] U
   rintro m ⟨d,e⟩ h;refine V.bH ab 3 0 h (Qt (Q:=(Q.1,Q.2.1,d,e))) [1,1,0] [] U λn j h=>?_;cases h;exact V.jG ab 1 0 j [0,0,0] U
  cases h;exact V.jG ab 1 0 Q [0,0,0] U
def wS(R:bg)(m:ah->Option ah)(l:ah->Option ah):ah->Option ah:=λ(a,b,f,c,d,g,h,e,i)=>
 (bif(decide (d=0)) then(a8 (λ((n,o,p,q,r,s,t,u,v):ah)=>l (n,o,p,q,r,s,t,u,v)) λk=>(au (gu (a,b,f,c,d,g,h,e,i)) λ(w:Bool)=>(bif w then(au (g7 (a,b,f,c,d,g,h,e,i) ([])) λ(x:ah)=>k x) else(au (ie (a,b,f,c,d,g,h,e,i)) λ(y:UInt8)=>(bif(decide ((y.toNat:Int)=(34:Int))) then some (a,(W (b+1)),f,c,d,g,h,e,i) else(au (ie (a,b,f,c,d,g,h,e,i)) λ(z:UInt8)=>(bif(decide ((z.toNat:Int)=(92:Int))) then(au (wR (a,b,f,c,d,g,h,e,i)) λ(j:ah)=>k (j.1,j.2.1,j.2.2.1,c,j.2.2.2.2.1,j.2.2.2.2.2.1,j.2.2.2.2.2.2.1,e,j.2.2.2.2.2.2.2.2)) else(au (ie (a,b,f,c,d,g,h,e,i)) λ(A:UInt8)=>(bif(decide ((A.toNat:Int)=(96:Int))) then(au (z1 a (W (b+1))) λ(B:Int)=>(au (sj (a,b,f,c,d,g,h,e,i) B ([96]:aa) ([96]:aa)) λ(C:ah)=>k C)) else(au (ie (a,b,f,c,d,g,h,e,i)) λ(D:UInt8)=>(bif(decide ((D.toNat:Int)=(36:Int))) then(au (R.ve (a,b,f,c,d,g,h,e,i)) λ(E:ah)=>k E) else k (a,(W (b+1)),f,c,d,g,h,e,i)))))))))))) else m (a,b,f,c,d,g,h,e,i))
def Ek(R:bg)(x0:ah):Option ah:=
 (a8 (λ((a,b,c,d,e,f,g,h,i):ah)=>(au (gv (a,b,c,d,e,f,g,h,i) ([34]:aa) ([34]:aa)) λ(j:ah)=>some j)) λk=>(fixF (wS R k) bC (x0.1,(W (x0.2.1+1)),x0.2.2.1,x0.2.2.2.1,x0.2.2.2.2.1,x0.2.2.2.2.2.1,x0.2.2.2.2.2.2.1,x0.2.2.2.2.2.2.2.1,x0.2.2.2.2.2.2.2.2)))
theorem WE{R:bg}(n:h3 R){x0:ah}{a2:bK}{Q:bu}{r:ah}(h:Ek R x0=some r):
  gN Tryz.prog 155 [.pointer a2] [] (eR a2 x0 Q) (λ_:bu=>True) (λq=> .tuple #[]) (λq=>eR a2 r q):=
 by
  refine V.jo (T:=ck) Tryz.call155 Tryz.func155 U λ_ _=>?_;unfold Ek at h;refine V.db ab 12 0 h (ρ:=bu) (λs q=>[(0,.bj ⟨a2,1,1⟩ 0)]) .nil (λs q=>gO a2 s q) ⟨U,U,U,U,U,U,U⟩ ?_ ?_
  ·intro A _ h;refine V.e8 ab 0 0 h (ρ:=bu) (λs q=>[(0,.bj ⟨a2,1,1⟩ 0)]) .nil (λs q=>gO a2 s q) Q [1,2,0] U ?_;rintro o ⟨e,b,f,g,i,j,k,l,m⟩ a h;rw[wS] at h;refine V.go ab 3 0 U ?_;refine V.cl (aI.jd 2 U λc=>V.cz ?_);refine V.co ab 6 2 h ⟨U,U,U,U⟩ (λh=>?_) (λh=>?_)
   ·refine V.db ab 2 0 h (ρ:=bu) (λs q=>[(0,.bj ⟨a2,1,1⟩ 0)]) .nil (λs q=>gO a2 s q) U ?_ ?_
    ·intro B _ h;refine V.cM ab 3 0 h m6 [2] U λC _ h=>?_;refine V.co ab 2 0 h U (λh=>?_) (λh=>?_)
     ·refine V.bH ab 2 0 h pw [2,0,0] [] U λD p h=>?_;exact V.a6 ab 2 0 h p [1,2,0] U
     refine V.cM ab 3 0 h ob [2] U λE _ h=>?_;refine V.co ab 3 0 h U (λh=>?_) (λh=>?_)
     ·cases h;exact V.rx ab 11 2 a [0,0,0] ⟨U,U,U,U,U,U,U⟩
     refine V.cM ab 3 0 h ob [2] U λF _ h=>?_;refine V.co ab 3 0 h U (λh=>?_) (λh=>?_)
     ·refine V.bH ab 2 0 h QC [2] [] U λG _ h=>?_;exact V.a6 ab 2 0 h a [1,2,0] U
     refine V.cM ab 3 0 h ob [2] U λH _ h=>?_;refine V.co ab 3 0 h U (λh=>?_) (λh=>?_)
     ·obtain⟨I,t,h⟩:=jS h;obtain⟨J,u,h⟩:=jS h;refine V.jW (aT.r3 U .nil [2] [10,11] trivial U (λv=>?_));refine bE.pa ab gh 10 [0,5] U (by kernel_rfl) [] [(47,.bj ⟨a2,1,1⟩ 0),(52,.bj ⟨a2,1,1⟩ 0)] U (fE U) (bE.eD ab gh true 5 [1,2,3,6,7] U (by kernel_rfl) [] [(50,.bj ⟨a2,1,1⟩ 0),(54,.bj ⟨a2,1,1⟩ 1)] trivial [2] U U ⟨(c.fS fT).1,c.fS fT,(c.fS fT).1,c.fS fT,(fE U)⟩ (bE.kJ ab gh 4 U (by kernel_rfl) U U U U U 0 U U 0 0 (e,b,f,(bz.v ⟨a.1,g.length,a.2.1⟩),i,j,k,(bz.v ⟨a.2.2.1,l.length,a.2.2.2⟩),m) ⟨U,U⟩ U U U trivial [2] U (bE.kJ ab gh 8 U (by kernel_rfl) U U U U U 0 U U 0 1 (e,b,f,(bz.v ⟨a.1,g.length,a.2.1⟩),i,j,k,(bz.v ⟨a.2.2.1,l.length,a.2.2.2⟩),m) ⟨U,U⟩ U U U trivial [2] U (bE.eD ab gh true 2 [9] U (by kernel_rfl) [(W (b+1))] [(56,.v (.int .i64 (W (b+1))))] trivial [2] U U ⟨⟨trivial,U⟩,⟨U,trivial⟩⟩ (bE.one 10 (by kernel_rfl) (cL.call U U U U (QB t) U [] U U λ_ _=>bE.nG U (bE.one 11 (by kernel_rfl) (cL.pZ U U U U (Ej u) U [2,0,0] U [] U U ?_))))))));rintro w-;refine bE.nG U (bE.done (by kernel_rfl) (aT.boxes (B':= .nil) trivial (V.iJ ?_)));exact V.a6 ab 1 0 h w [1,2,0] U
     refine V.cM ab 3 0 h ob [2] U λK _ h=>?_;refine V.co ab 3 0 h U (λh=>?_) (λh=>?_)
     ·refine V.bH ab 2 0 h n.ve [2,0,0] [] U λL x h=>?_;exact V.a6 ab 2 0 h x [1,2,0] U
     exact V.a6 ab 11 2 h a [1,2,0] ⟨U,U,U,U,U,U,U⟩
    rintro⟨M,N,O,P,S,X,Y,Z,jZ⟩ y h
    try dsimp only at h
    exact V.el ab 1 0 h y [0,1,2] U
   exact V.a6 ab 1 0 h a [0,1,2] U
  rintro⟨Hn,iM,vB,p8,pq,ps,p9,BF,po⟩ z h;refine V.bH ab 2 0 h qP [2,0,0] [] U λWD d h=>?_;cases h;exact V.jG ab 1 0 d [0,0,0] U
def HK(x0:aa)(c:Unit->Option Int)(b:Int->Option Int):Int->Option Int:=λa=>
 (bif(decide (a<(x0.length:Int))) then(aZ (0<=a/\a<(x0.length:Int))<|(bif(decide (((at' x0 a).toNat:Int)=(39:Int))) then some (W (a+1)) else b (W (a+1)))) else c ())
def BZ(x0:aa)(a:Int):Option Int:=
 (au (zW a (x0.length:Int)) λ(b:Int)=>(a8 (λ(_:Unit)=>some (-1)) λc=>(fixF (HK x0 c) bC b)))
theorem WG{x0:aa}{a:Int}{r:Int}(h:BZ x0 a=some r):
  FC Tryz.prog 154 [.string (a9 x0),.int .i64 a] [] (λ_:Unit=>True) (λ_=> .int .i64 r) (λ_=>[]):=
 by
  refine V.fI (T:=ck) Tryz.call154 Tryz.func154 U λ_=>?_;unfold BZ at h;refine V.cM ab 10 0 h K9 [] U λc _ h=>?_;refine V.db ab 2 0 h (ρ:=Unit) (λs q=>[]) .nil (λs q=>[]) U ?_ ?_
  ·intro d _ h;refine V.e8 ab 0 0 h (ρ:=Unit) (λs q=>[(0,.v (.string (a9 x0))),(5,.v (.int .i64 s))]) .nil (λs q=>[]) () [] U ?_;rintro e f _ h;rw[HK] at h;refine V.co ab 8 0 h U (λh=>?_) (λh=>?_)
   ·obtain⟨b,h⟩:=bB h;refine V.co ab 10 0 h ⟨b,U⟩ (λh=>?_) (λh=>?_)
    ·cases h;exact V.rt ab 6 0 () [] U
    exact V.el ab 7 0 h () [] U
   exact V.a6 ab 1 0 h () [] U
  rintro _ _ h;cases h;exact V.rt ab 4 0 () [] U
def wT(R:bg)(n:(Bool×ah)->Option (aa×Bool×ah))(o:(Bool×ah)->Option (aa×Bool×ah)):(Bool×ah)->Option (aa×Bool×ah):=λ(m,a,b,f,c,d,g,h,e,i)=>
 (bif(decide (d=0)) then(au (gu (a,b,f,c,d,g,h,e,i)) λ(s:Bool)=>(bif s then(au (g7 (a,b,f,c,d,g,h,e,i) ([])) λ(t:ah)=>n (m,t)) else(au (ie (a,b,f,c,d,g,h,e,i)) λ(j:UInt8)=>(au (zV j) λ(p:Bool)=>(cP ((bif p then true else(decide ((j.toNat:Int)=(10:Int))))=false) (hH (a,b,f,c,d,g,h,e,i)) [] λ(u:aa)=>(bif(bif(bif p then true else(decide ((j.toNat:Int)=(10:Int)))) then true else(!(decide (u=[])))) then n (m,a,b,f,c,d,g,h,e,i) else(a8 (λ((v,w,x,y,z,A,B,C,D,E):Bool×ah)=>o (v,w,x,y,z,A,B,C,D,E)) λl=>(bif(decide ((j.toNat:Int)=(92:Int))) then(au (wR (a,b,f,c,d,g,h,e,i)) λ(k:ah)=>l (false,k.1,k.2.1,k.2.2.1,c,k.2.2.2.2.1,k.2.2.2.2.2.1,k.2.2.2.2.2.2.1,e,k.2.2.2.2.2.2.2.2)) else(bif(decide ((j.toNat:Int)=(39:Int))) then(au (BZ a (W (b+1))) λ(F:Int)=>(au (sj (a,b,f,c,d,g,h,e,i) F ([39]:aa) ([39]:aa)) λ(G:ah)=>l (false,G))) else(bif(decide ((j.toNat:Int)=(34:Int))) then(au (Ek R (a,b,f,c,d,g,h,e,i)) λ(H:ah)=>l (false,H)) else(bif(decide ((j.toNat:Int)=(96:Int))) then(au (z1 a (W (b+1))) λ(I:Int)=>(au (sj (a,b,f,c,d,g,h,e,i) I ([96]:aa) ([96]:aa)) λ(J:ah)=>l (false,J))) else(bif(decide ((j.toNat:Int)=(36:Int))) then(a8 (λ(K:Bool)=>(au (R.ve (a,b,f,c,d,g,h,e,i)) λ(L:ah)=>l (K,L))) λq=>(au (tc (a,b,f,c,d,g,h,e,i) 1) λ(r:UInt8)=>(cP ((decide ((r.toNat:Int)=(40:Int)))=false) (tc (a,b,f,c,d,g,h,e,i) 1) (0:UInt8) λ(M:UInt8)=>(bif(bif(decide ((r.toNat:Int)=(40:Int))) then true else(decide ((M.toNat:Int)=(123:Int)))) then q false else q m)))) else l (m,a,(W (b+1)),f,c,d,g,h,e,i))))))))))))) else n (m,a,b,f,c,d,g,h,e,i))
def p_(R:bg)(x0:ah):Option (aa×Bool×ah):=
 (a8 (λ((e,a,b,f,g,h,i,j,k,l):Bool×ah)=>(a8 (λ(c:Int)=>(aZ (0<=x0.2.1/\x0.2.1<=c/\c<=(a.length:Int))<|some ((cg a x0.2.1 c),e,(a,b,f,g,h,i,j,k,l)))) λd=>(bif(decide ((a.length:Int)<b)) then d (a.length:Int) else d b))) λm=>(fixF (wT R m) bC (true,x0.1,x0.2.1,x0.2.2.1,x0.2.2.2.1,x0.2.2.2.2.1,x0.2.2.2.2.2.1,x0.2.2.2.2.2.2.1,x0.2.2.2.2.2.2.2.1,x0.2.2.2.2.2.2.2.2)))
theorem Eo{R:bg}(t:h3 R){x0:ah}{a2:bK}{Q:bu}{r:aa×Bool×ah}(h:p_ R x0=some r):
  gN Tryz.prog 132 [.pointer a2] [] (eR a2 x0 Q) (λ_:bu=>True) (λq=> .tuple #[.string (a9 r.1),.bool r.2.1]) (λq=>eR a2 r.2.2 q):=
 by
  refine V.jo (T:=ck) Tryz.call132 Tryz.func132 U λ_ _=>?_;unfold p_ at h;refine V.db ab 18 0 h (ρ:=bu) (λs q=>[(0,.bj ⟨a2,1,1⟩ 0),(4,.v (.int .i64 x0.2.1)),(5,.v (.bool s.1))]) .nil (λs q=>gO a2 s.2 q) ⟨U,U,U,U⟩ ?_ ?_
  ·intro P _ h;refine V.e8 ab 0 0 h (ρ:=bu) (λs q=>[(0,.bj ⟨a2,1,1⟩ 0),(4,.v (.int .i64 x0.2.1)),(5,.v (.bool s.1))]) .nil (λs q=>gO a2 s.2 q) Q [1,2,0] U ?_;rintro v ⟨S,d,b,e,f,g,i,j,k,l⟩ a h;rw[wT] at h;refine V.go ab 3 0 U ?_;refine V.cl (aI.jd 2 U λc=>V.cz ?_);refine V.co ab 6 2 h ⟨U,U,U,U⟩ (λh=>?_) (λh=>?_)
   ·refine V.cM ab 6 0 h m6 [2] U λX _ h=>?_;refine V.co ab 1 0 h U (λh=>?_) (λh=>?_)
    ·refine V.bH ab 3 0 h pw [2,0,0] [] U λY w h=>?_;exact V.a6 ab 2 0 h w [1,2,0] U
    refine V.cM ab 4 0 h ob [2] U λZ _ h=>?_;refine V.cM ab 6 0 h Qr [] U λiU _ h=>?_;refine V.hg ab 6 0 h oI [2] U (λ_=>id) λfc h=>?_;refine V.co ab 3 0 h U (λh=>?_) (λh=>?_)
    ·exact V.a6 ab 1 0 h a [0,1,2] U
    refine V.db ab 1 0 h (ρ:=bu) (λs q=>[(0,.bj ⟨a2,1,1⟩ 0),(4,.v (.int .i64 x0.2.1)),(5,.v (.bool s.1))]) .nil (λs q=>gO a2 s.2 q) U ?_ ?_
    ·intro vu _ h;refine V.co ab 6 0 h U (λh=>?_) (λh=>?_)
     ·refine V.bH ab 6 0 h QC [2] [] U λef _ h=>?_;exact V.a6 ab 2 0 h a [1,2,0] U
     refine V.co ab 6 0 h U (λh=>?_) (λh=>?_)
     ·refine V.go ab 4 0 U ?_;obtain⟨dC,x,h⟩:=jS h;obtain⟨iB,m,h⟩:=jS h;refine V.jW (aT.r3 U .nil [2] [10,11] trivial U (λy=>?_));refine bE.pa ab gh 10 [0,5] U (by kernel_rfl) [] [(49,.bj ⟨a2,1,1⟩ 0),(54,.bj ⟨a2,1,1⟩ 0)] U (fE U) (bE.eD ab gh true 5 [1,2,3,6,7] U (by kernel_rfl) [] [(52,.bj ⟨a2,1,1⟩ 0),(56,.bj ⟨a2,1,1⟩ 1)] trivial [2] U U ⟨(c.fS fT).1,c.fS fT,(c.fS fT).1,c.fS fT,(fE U)⟩ (bE.kJ ab gh 4 U (by kernel_rfl) U U U U U 0 U U 0 0 (d,b,e,(bz.v ⟨a.1,f.length,a.2.1⟩),g,i,j,(bz.v ⟨a.2.2.1,k.length,a.2.2.2⟩),l) ⟨U,U⟩ U U U trivial [2] U (bE.kJ ab gh 8 U (by kernel_rfl) U U U U U 0 U U 0 1 (d,b,e,(bz.v ⟨a.1,f.length,a.2.1⟩),g,i,j,(bz.v ⟨a.2.2.1,k.length,a.2.2.2⟩),l) ⟨U,U⟩ U U U trivial [2] U (bE.eD ab gh true 2 [9] U (by kernel_rfl) [(W (b+1))] [(58,.v (.int .i64 (W (b+1))))] trivial [2] U U ⟨⟨trivial,U⟩,⟨U,trivial⟩⟩ (bE.one 10 (by kernel_rfl) (cL.call U U U U (WG x) U [] U U λ_ _=>bE.nG U (bE.one 11 (by kernel_rfl) (cL.pZ U U U U (Ej m) U [2,0,0] U [] U U ?_))))))));rintro z-;refine bE.nG U (bE.done (by kernel_rfl) (aT.boxes (B':= .nil) trivial (V.iJ ?_)));exact V.a6 ab 1 0 h z [1,2,0] U
     refine V.co ab 6 0 h U (λh=>?_) (λh=>?_)
     ·refine V.bH ab 6 0 h (WE t) [2,0,0] [] U λkd A h=>?_;exact V.a6 ab 2 0 h A [1,2,0] U
     refine V.co ab 6 0 h U (λh=>?_) (λh=>?_)
     ·refine V.go ab 4 0 U ?_;obtain⟨hQ,n,h⟩:=jS h;obtain⟨nL,B,h⟩:=jS h;refine V.jW (aT.r3 U .nil [2] [10,11] trivial U (λC=>?_));refine bE.pa ab gh 10 [0,5] U (by kernel_rfl) [] [(69,.bj ⟨a2,1,1⟩ 0),(74,.bj ⟨a2,1,1⟩ 0)] U (fE U) (bE.eD ab gh true 5 [1,2,3,6,7] U (by kernel_rfl) [] [(72,.bj ⟨a2,1,1⟩ 0),(76,.bj ⟨a2,1,1⟩ 1)] trivial [2] U U ⟨(c.fS fT).1,c.fS fT,(c.fS fT).1,c.fS fT,(fE U)⟩ (bE.kJ ab gh 4 U (by kernel_rfl) U U U U U 0 U U 0 0 (d,b,e,(bz.v ⟨a.1,f.length,a.2.1⟩),g,i,j,(bz.v ⟨a.2.2.1,k.length,a.2.2.2⟩),l) ⟨U,U⟩ U U U trivial [2] U (bE.kJ ab gh 8 U (by kernel_rfl) U U U U U 0 U U 0 1 (d,b,e,(bz.v ⟨a.1,f.length,a.2.1⟩),g,i,j,(bz.v ⟨a.2.2.1,k.length,a.2.2.2⟩),l) ⟨U,U⟩ U U U trivial [2] U (bE.eD ab gh true 2 [9] U (by kernel_rfl) [(W (b+1))] [(78,.v (.int .i64 (W (b+1))))] trivial [2] U U ⟨⟨trivial,U⟩,⟨U,trivial⟩⟩ (bE.one 10 (by kernel_rfl) (cL.call U U U U (QB n) U [] U U λ_ _=>bE.nG U (bE.one 11 (by kernel_rfl) (cL.pZ U U U U (Ej B) U [2,0,0] U [] U U ?_))))))));rintro o-;refine bE.nG U (bE.done (by kernel_rfl) (aT.boxes (B':= .nil) trivial (V.iJ ?_)));exact V.a6 ab 1 0 h o [1,2,0] U
     refine V.co ab 6 0 h U (λh=>?_) (λh=>?_)
     ·refine V.e6 ab 0 0 h (ρ:=Unit) (λs q=>[(0,.bj ⟨a2,1,1⟩ 0),(4,.v (.int .i64 x0.2.1)),(5,.v (.bool s))]) .nil (λs q=>eR a2 (d,b,e,f,g,i,j,k,l) a) U ?_ ?_
      ·intro ng _ h;refine V.cM ab 3 0 h Ei [2] U λew _ h=>?_;refine V.hg ab 3 0 h Ei [2] U (λ_=>id) λjK h=>?_;refine V.co ab 3 0 h U (λh=>?_) (λh=>?_)
       ·exact V.a6 ab 3 0 h () [2,0,1] U
       exact V.a6 ab 1 0 h () [2,0,1] U
      rintro jq _ h;refine V.bH ab 2 0 h t.ve [0,0,0] [] U λuu D h=>?_;exact V.a6 ab 2 0 h D [1,2,0] U
     exact V.a6 ab 11 2 h a [1,2,0] ⟨U,U,U,U,U,U,U⟩
    rintro⟨ud,sb,vv,ur,zB,vB,p8,pn,m1,p9⟩ E h
    try dsimp only at h
    exact V.el ab 1 0 h E [0,1,2] U
   exact V.a6 ab 1 0 h a [0,1,2] U
  rintro⟨F,G,H,I,J,K,L,M,N,O⟩ u h;refine V.e6 ab 8 2 h (ρ:=Unit) (λs q=>[(0,.bj ⟨a2,1,1⟩ 0),(4,.v (.int .i64 x0.2.1)),(5,.v (.bool F)),(7,.v (.int .i64 s))]) .nil (λs q=>eR a2 (G,H,I,J,K,L,M,N,O) u) ⟨U,U,U,U⟩ ?_ ?_
  ·intro QH _ h;refine V.co ab 10 2 h ⟨U,U,U,U⟩ (λh=>?_) (λh=>?_)
   ·exact V.a6 ab 8 2 h () [2,0,1] ⟨U,U,U,U⟩
   exact V.a6 ab 1 0 h () [2,0,1] U
  rintro Bw _ h;obtain⟨p,h⟩:=bB h;cases h;exact V.rx ab 13 0 u [0,0,0] ⟨U,U,U,p,U⟩
def z5(x0:aa)(b:Unit->Option Bool)(c:Int->Option Bool):Int->Option Bool:=λa=>
 (bif(decide (a<(x0.length:Int))) then(aZ (0<=a/\a<(x0.length:Int))<|(aZ (((decide ((97:Int)<=((at' x0 a).toNat:Int)))=true)->0<=a/\a<(x0.length:Int))<|(aZ (((bif(decide ((97:Int)<=((at' x0 a).toNat:Int))) then(decide (((at' x0 a).toNat:Int)<=(122:Int))) else false)=false)->0<=a/\a<(x0.length:Int))<|(aZ (((decide ((65:Int)<=((at' x0 a).toNat:Int)))=true)->((bif(decide ((97:Int)<=((at' x0 a).toNat:Int))) then(decide (((at' x0 a).toNat:Int)<=(122:Int))) else false)=false)->0<=a/\a<(x0.length:Int))<|(aZ (((bif(bif(decide ((97:Int)<=((at' x0 a).toNat:Int))) then(decide (((at' x0 a).toNat:Int)<=(122:Int))) else false) then true else(bif(decide ((65:Int)<=((at' x0 a).toNat:Int))) then(decide (((at' x0 a).toNat:Int)<=(90:Int))) else false))=false)->0<=a/\a<(x0.length:Int))<|(aZ (0<=a/\a<(x0.length:Int))<|(aZ (((decide ((48:Int)<=((at' x0 a).toNat:Int)))=true)->0<=a/\a<(x0.length:Int))<|(bif(bif(!(bif(bif(bif(decide ((97:Int)<=((at' x0 a).toNat:Int))) then(decide (((at' x0 a).toNat:Int)<=(122:Int))) else false) then true else(bif(decide ((65:Int)<=((at' x0 a).toNat:Int))) then(decide (((at' x0 a).toNat:Int)<=(90:Int))) else false)) then true else(decide (((at' x0 a).toNat:Int)=(95:Int))))) then(bif(!(bif(decide ((48:Int)<=((at' x0 a).toNat:Int))) then(decide (((at' x0 a).toNat:Int)<=(57:Int))) else false)) then true else(decide (a=0))) else false) then some false else c (W (a+1)))))))))) else b ())
def z6(x0:aa):Option Bool:=
 (a8 (λ(_:Unit)=>some (decide (0<(x0.length:Int)))) λa=>(fixF (z5 x0 a) bC 0))
theorem WI{x0:aa}{r:Bool}(h:z6 x0=some r):
  FC Tryz.prog 133 [.string (a9 x0)] [] (λ_:Unit=>True) (λ_=> .bool r) (λ_=>[]):=
 by
  refine V.fI (T:=ck) Tryz.call133 Tryz.func133 U λ_=>?_;unfold z6 at h;refine V.db ab 9 0 h (ρ:=Unit) (λs q=>[(0,.v (.string (a9 x0)))]) .nil (λs q=>[]) U ?_ ?_
  ·intro j _ h;refine V.e8 ab 0 0 h (ρ:=Unit) (λs q=>[(0,.v (.string (a9 x0))),(3,.v (.int .i64 s))]) .nil (λs q=>[]) () [] U ?_;rintro a k _ h;rw[z5] at h;refine V.co ab 8 0 h U (λh=>?_) (λh=>?_)
   ·obtain⟨b,h⟩:=bB h;obtain⟨c,h⟩:=bB h;obtain⟨d,h⟩:=bB h;obtain⟨e,h⟩:=bB h;obtain⟨f,h⟩:=bB h;obtain⟨g,h⟩:=bB h;obtain⟨i,h⟩:=bB h;refine V.co ab 62 0 h ⟨b,c,d,e,f,g,i,U⟩ (λh=>?_) (λh=>?_)
    ·cases h;exact V.rt ab 4 0 () [] U
    exact V.el ab 7 0 h () [] U
   exact V.a6 ab 1 0 h () [] U
  rintro _ _ h;cases h;exact V.rt ab 7 0 () [] U
def vC(x0:ah):Option Bool:=
 (au (ie x0) λ(a:UInt8)=>(cP ((decide ((a.toNat:Int)=(10:Int)))=false) (hH x0) [] λ(b:aa)=>some (bif(decide ((a.toNat:Int)=(10:Int))) then true else(!(decide (b=[]))))))
theorem Lj{x0:ah}{a2:bK}{Q:bu}{r:Bool}(h:vC x0=some r):
  FC Tryz.prog 150 [.pointer a2] [lQ a2 x0 Q] (λ_:Unit=>True) (λ_=> .bool r) (λ_=>[]):=
 by refine V.fI (T:=ck) Tryz.call150 Tryz.func150 U λ_=>?_;unfold vC at h;refine V.cM ab 7 0 h ob [0] U λa _ h=>?_;refine V.hg ab 3 0 h oI [0] U (λ_=>id) λb h=>?_;cases h;exact V.rt ab 4 0 () [] U
def hr(x0:ah)(a:Int):Option ah:=
 some (x0.1,x0.2.1,x0.2.2.1,x0.2.2.2.1,2,a,x0.2.2.2.2.2.2)
theorem px{x0:ah}{a:Int}{a3:bK}{Q:bu}{r:ah}(h:hr x0 a=some r):
  gN Tryz.prog 52 [.pointer a3,.int .i64 a] [] [lQ a3 x0 Q] (λ_:Unit=>True) (λ_=> .tuple #[]) (λ_=>[lQ a3 (r.1,r.2.1,r.2.2.1,x0.2.2.2.1,r.2.2.2.2.1,r.2.2.2.2.2.1,r.2.2.2.2.2.2.1,x0.2.2.2.2.2.2.2.1,r.2.2.2.2.2.2.2.2) Q]):=
 by refine V.jo (T:=ck) Tryz.call52 Tryz.func52 U λ_ _=>?_;unfold hr at h;cases h;exact V.jG ab 14 0 () [0] ⟨U,U,U,U,U,U,U⟩
def B0(x0:aa)(h:(aa×UInt8)->Option (aa×Bool))(f:(aa×UInt8×Int)->Option (aa×Bool)):(aa×UInt8×Int)->Option (aa×Bool):=λ(b,c,a)=>
 (bif(decide (a<(x0.length:Int))) then(aZ (0<=a/\a<(x0.length:Int))<|(a8 (λ(d:UInt8)=>(a8 (λ((i,j,k):aa×UInt8×Int)=>f (i,j,(W (k+1)))) λe=>(bif(decide ((c.toNat:Int)=(39:Int))) then(bif(decide (((at' x0 a).toNat:Int)=(39:Int))) then e (b,(0:UInt8),a) else(aZ (b.length+([(at' x0 a)]:aa).length<=536870912)<|e ((b++([(at' x0 a)]:aa)),c,a))) else(bif(bif(decide (((at' x0 a).toNat:Int)=(92:Int))) then(decide ((W (a+1))=(x0.length:Int))) else false) then some ([],false) else(bif(bif(decide (((at' x0 a).toNat:Int)=(92:Int))) then(decide ((d.toNat:Int)=(10:Int))) else false) then e (b,c,(W (a+1))) else(bif(bif(decide (((at' x0 a).toNat:Int)=(92:Int))) then(bif(bif(bif(bif(decide ((c.toNat:Int)=(0:Int))) then true else(decide ((d.toNat:Int)=(36:Int)))) then true else(decide ((d.toNat:Int)=(34:Int)))) then true else(decide ((d.toNat:Int)=(92:Int)))) then true else(decide ((d.toNat:Int)=(96:Int)))) else false) then(aZ (b.length+([d]:aa).length<=536870912)<|e ((b++([d]:aa)),c,(W (a+1)))) else(bif(bif(decide (((at' x0 a).toNat:Int)=(36:Int))) then true else(decide (((at' x0 a).toNat:Int)=(96:Int)))) then some ([],false) else(bif(bif(bif(decide (((at' x0 a).toNat:Int)=(34:Int))) then(decide ((c.toNat:Int)=(0:Int))) else false) then true else(bif(decide (((at' x0 a).toNat:Int)=(39:Int))) then(decide ((c.toNat:Int)=(0:Int))) else false)) then e (b,(at' x0 a),a) else(bif(decide (((at' x0 a).toNat:Int)=(34:Int))) then e (b,(0:UInt8),a) else(aZ (b.length+([(at' x0 a)]:aa).length<=536870912)<|e ((b++([(at' x0 a)]:aa)),c,a))))))))))) λg=>(bif(!(decide ((W (a+1))=(x0.length:Int)))) then(aZ (0<=(W (a+1))/\(W (a+1))<(x0.length:Int))<|g (at' x0 (W (a+1)))) else g (0:UInt8)))) else h (b,c))
def Ll(b:aa)(d:Unit->Option (aa×Bool))(c:Int->Option (aa×Bool)):Int->Option (aa×Bool):=λa=>
 (bif(decide (a<(b.length:Int))) then(aZ (0<=a/\a<(b.length:Int))<|(bif(decide (((at' b a).toNat:Int)=(10:Int))) then some ([],false) else c (W (a+1)))) else d ())
def Ep(x0:aa):Option (aa×Bool):=
 (a8 (λ((a,b):aa×UInt8)=>(bif(!(decide ((b.toNat:Int)=(0:Int)))) then some ([],false) else(a8 (λ(_:Unit)=>some (a,true)) λc=>(fixF (Ll a c) bC 0)))) λd=>(fixF (B0 x0 d) bC (([]:aa),(0:UInt8),0)))
theorem ahp{x0:aa}{r:aa×Bool}(h:Ep x0=some r):
  FC Tryz.prog 151 [.string (a9 x0)] [] (λ_:Unit=>True) (λ_=> .tuple #[.string (a9 r.1),.bool r.2]) (λ_=>[]):=
 by
  refine V.fI (T:=ck) Tryz.call151 Tryz.func151 U λ_=>?_;unfold Ep at h;refine V.go ab 7 0 U ?_;refine V.cl (aI.ky U (cL.buildSlice ab U U U U U U U U U U U [] U .byte [] ⟨U,U⟩ U U λa2=>aI.kz (V.cz ?_)));refine V.db ab 11 0 h (ρ:=bK×Nat) (λs q=>[(4,.v (.slice q.1 s.1.length q.2)),(5,.v (.int .u8 (s.2.toNat:Int)))]) .nil (λs q=>[lR q.1 s.1 q.2]) U ?_ ?_
  ·intro F _ h;refine V.e8 ab 0 0 h (ρ:=bK×Nat) (λs q=>[(0,.v (.string (a9 x0))),(4,.v (.slice q.1 s.1.length q.2)),(5,.v (.int .u8 (s.2.1.toNat:Int))),(6,.v (.int .i64 s.2.2))]) .nil (λs q=>[lR q.1 s.1 q.2]) (a2,([]:aa).length) [0] U ?_;rintro n ⟨k,o,d⟩ ⟨a,b⟩ h;rw[B0] at h;refine V.co ab 8 0 h U (λh=>?_) (λh=>?_)
   ·obtain⟨p,h⟩:=bB h;refine V.e6 ab 23 0 h (ρ:=Unit) (λs q=>[(0,.v (.string (a9 x0))),(4,.v (.slice a k.length b)),(5,.v (.int .u8 (o.toNat:Int))),(6,.v (.int .i64 d)),(7,.v (.int .u8 ((at' x0 d).toNat:Int))),(8,.v (.int .u8 (s.toNat:Int))),(9,.v (.bool (decide ((W (d+1))=(x0.length:Int)))))]) .nil (λs q=>[lR a k b]) ⟨p,U⟩ ?_ ?_
    ·intro G _ h;refine V.co ab 5 0 h U (λh=>?_) (λh=>?_)
     ·obtain⟨t,h⟩:=bB h;exact V.a6 ab 7 0 h () [0] ⟨t,U⟩
     exact V.a6 ab 1 0 h () [0] U
    rintro u _ h;refine V.db ab 0 0 h (ρ:=bK×Nat) (λs q=>[(0,.v (.string (a9 x0))),(4,.v (.slice q.1 s.1.length q.2)),(5,.v (.int .u8 (s.2.1.toNat:Int))),(6,.v (.int .i64 s.2.2))]) .nil (λs q=>[lR q.1 s.1 q.2]) U ?_ ?_
    ·intro H _ h;refine V.co ab 6 0 h U (λh=>?_) (λh=>?_)
     ·refine V.co ab 5 0 h U (λh=>?_) (λh=>?_)
      ·exact V.a6 ab 4 0 h (a,b) [0] U
      refine V.go ab 3 0 U ?_;refine V.cl (aI.ky U (cL.buildSlice ab U U U U U U U U U U U [] U .byte [(at' x0 d)] ⟨U,U⟩ U U λI=>aI.kz (V.cz ?_)));obtain⟨v,h⟩:=bB h;refine V.cl (aI.qF ab U U U U ⟨U,U,U,U,trivial,U,U,U,U⟩ U U U [1] U 0 U v U λw x=>V.cz ?_);exact V.a6 ab 3 0 h (w,x) [0] U
     refine V.co ab 9 0 h U (λh=>?_) (λh=>?_)
     ·cases h;exact V.rt ab 5 0 () [] U
     refine V.co ab 10 0 h U (λh=>?_) (λh=>?_)
     ·exact V.a6 ab 6 0 h (a,b) [0] U
     refine V.co ab 26 0 h U (λh=>?_) (λh=>?_)
     ·refine V.go ab 4 0 U ?_;refine V.cl (aI.ky U (cL.buildSlice ab U U U U U U U U U U U [] U .byte [u] ⟨U,U⟩ U U λJ=>aI.kz (V.cz ?_)));obtain⟨y,h⟩:=bB h;refine V.cl (aI.qF ab U U U U ⟨U,U,U,U,trivial,U,U,U,U⟩ U U U [1] U 0 U y U λz g=>V.cz ?_);exact V.a6 ab 8 0 h (z,g) [0] U
     refine V.co ab 10 0 h U (λh=>?_) (λh=>?_)
     ·cases h;exact V.rt ab 5 0 () [] U
     refine V.co ab 18 0 h U (λh=>?_) (λh=>?_)
     ·exact V.a6 ab 5 0 h (a,b) [0] U
     refine V.co ab 6 0 h U (λh=>?_) (λh=>?_)
     ·exact V.a6 ab 4 0 h (a,b) [0] U
     refine V.go ab 3 0 U ?_;refine V.cl (aI.ky U (cL.buildSlice ab U U U U U U U U U U U [] U .byte [(at' x0 d)] ⟨U,U⟩ U U λK=>aI.kz (V.cz ?_)));obtain⟨A,h⟩:=bB h;refine V.cl (aI.qF ab U U U U ⟨U,U,U,U,trivial,U,U,U,U⟩ U U U [1] U 0 U A U λB C=>V.cz ?_);exact V.a6 ab 3 0 h (B,C) [0] U
    rintro⟨L,M,N⟩ ⟨D,i⟩ h
    try dsimp only at h
    exact V.el ab 6 0 h (D,i) [0] U
   exact V.a6 ab 1 0 h (a,b) [0] U
  rintro⟨c,O⟩ ⟨e,f⟩ h;refine V.co ab 6 0 h U (λh=>?_) (λh=>?_)
  ·cases h;exact V.rt ab 5 0 () [] U
  refine V.db ab 8 0 h (ρ:=Unit) (λs q=>[(4,.v (.slice e c.length f))]) .nil (λs q=>[lR e c f]) U ?_ ?_
  ·intro P _ h;refine V.e8 ab 0 0 h (ρ:=Unit) (λs q=>[(4,.v (.slice e c.length f)),(118,.v (.slice e c.length f)),(119,.v (.int .i64 (c.length:Int))),(120,.v (.int .i64 s))]) .nil (λs q=>[lR e c f]) () [0] U ?_;rintro E l _ h;rw[Ll] at h;refine V.co ab 5 0 h U (λh=>?_) (λh=>?_)
   ·refine V.go ab 5 0 U ?_;refine V.cl (aI.jd 0 U λj=>V.cz ?_);obtain⟨m,h⟩:=bB h;refine V.go ab 1 0 ⟨j.ix m,U⟩ ?_;refine V.cl (aI.load ab U U U U U U U 0 U U (Int.toNat l) 0 (at' c l) ⟨mU m,U⟩ U U (V.cz ?_));refine V.co ab 7 0 h U (λh=>?_) (λh=>?_)
    ·cases h;exact V.rt ab 5 0 () [] U
    exact V.el ab 6 0 h () [0] U
   exact V.a6 ab 1 0 h () [0] U
  rintro _ _ h;refine V.go ab 3 0 U ?_;refine V.cl (aI.strOf ab U U U U U U U U 0 U U (V.cz ?_));cases h;exact V.rt ab 3 0 () [] U
def HO(x0:ah)(d:Int->Option ah)(b:Int->Option ah):Int->Option ah:=λa=>
 (au (ie (x0.1,a,x0.2.2)) λ(c:UInt8)=>(cP ((decide ((48:Int)<=(c.toNat:Int)))=true) (ie (x0.1,a,x0.2.2)) (0:UInt8) λ(e:UInt8)=>(bif(bif(decide ((48:Int)<=(c.toNat:Int))) then(decide ((e.toNat:Int)<=(57:Int))) else false) then b (W (a+1)) else d a)))
def B1(R:bg)(x0:ah):Option ah:=
 (a8 (λ(h:Int)=>(au (hH (x0.1,h,x0.2.2.1,x0.2.2.2.1,x0.2.2.2.2.1,x0.2.2.2.2.2.1,x0.2.2.2.2.2.2.1,x0.2.2.2.2.2.2.2.1,x0.2.2.2.2.2.2.2.2)) λ(c:aa)=>(au (g6 (x0.1,(W (h+(c.length:Int))),x0.2.2.1,x0.2.2.2.1,x0.2.2.2.2.1,x0.2.2.2.2.2.1,x0.2.2.2.2.2.2.1,x0.2.2.2.2.2.2.2.1,x0.2.2.2.2.2.2.2.2)) λ(a:ah)=>(au (gu (a.1,a.2.1,a.2.2.1,x0.2.2.2.1,a.2.2.2.2.1,a.2.2.2.2.2.1,a.2.2.2.2.2.2.1,x0.2.2.2.2.2.2.2.1,a.2.2.2.2.2.2.2.2)) λ(l:Bool)=>(bif l then(au (g7 (a.1,a.2.1,a.2.2.1,x0.2.2.2.1,a.2.2.2.2.1,a.2.2.2.2.2.1,a.2.2.2.2.2.2.1,x0.2.2.2.2.2.2.2.1,a.2.2.2.2.2.2.2.2) ([120]:aa)) λ(d:ah)=>(a8 (λ(m:ao)=>some (d.1,d.2.1,d.2.2.1,m,d.2.2.2.2.1,d.2.2.2.2.2.1,d.2.2.2.2.2.2.1,d.2.2.2.2.2.2.2.1,d.2.2.2.2.2.2.2.2)) λi=>(bif(bif(decide (c=([60,60]:aa))) then true else(decide (c=([60,60,45]:aa)))) then(aZ (d.2.2.2.1.length+([(([120]:aa),(decide (c=([60,60,45]:aa))))]:ao).length<=536870912)<|i (d.2.2.2.1++([(([120]:aa),(decide (c=([60,60,45]:aa))))]:ao))) else i d.2.2.2.1))) else(au (vC (a.1,a.2.1,a.2.2.1,x0.2.2.2.1,a.2.2.2.2.1,a.2.2.2.2.2.1,a.2.2.2.2.2.2.1,x0.2.2.2.2.2.2.2.1,a.2.2.2.2.2.2.2.2)) λ(n:Bool)=>(bif n then(au (hr (a.1,a.2.1,a.2.2.1,x0.2.2.2.1,a.2.2.2.2.1,a.2.2.2.2.2.1,a.2.2.2.2.2.2.1,x0.2.2.2.2.2.2.2.1,a.2.2.2.2.2.2.2.2) a.2.1) λ(e:ah)=>some (e.1,e.2.1,e.2.2.1,x0.2.2.2.1,e.2.2.2.2.1,e.2.2.2.2.2.1,e.2.2.2.2.2.2.1,x0.2.2.2.2.2.2.2.1,e.2.2.2.2.2.2.2.2)) else(au (p_ R (a.1,a.2.1,a.2.2.1,x0.2.2.2.1,a.2.2.2.2.1,a.2.2.2.2.2.1,a.2.2.2.2.2.2.1,x0.2.2.2.2.2.2.2.1,a.2.2.2.2.2.2.2.2)) λ(j,p,b)=>(bif(!(bif(decide (c=([60,60]:aa))) then true else(decide (c=([60,60,45]:aa))))) then some b else(aZ (0<=(a.2.2.2.2.2.2.1.length:Int)/\(a.2.2.2.2.2.2.1.length:Int)<=(b.2.2.2.2.2.2.1.length:Int)/\(b.2.2.2.2.2.2.1.length:Int)<=(b.2.2.2.2.2.2.1.length:Int))<|(aZ (((j.length+(cg b.2.2.2.2.2.2.1 (a.2.2.2.2.2.2.1.length:Int) (b.2.2.2.2.2.2.1.length:Int)).length:Nat):Int)<=9223372036854775807)<|(au (Ep (j++(cg b.2.2.2.2.2.2.1 (a.2.2.2.2.2.2.1.length:Int) (b.2.2.2.2.2.2.1.length:Int)))) λ(g,k)=>(aZ (((bif(decide (c=([60,60,45]:aa))) then(decide (0<(g.length:Int))) else false)=true)->((bif(decide (b.2.2.2.2.1=2)) then true else(!k))=false)->0<=(0:Int)/\0<(g.length:Int))<|(bif(bif(bif(decide (b.2.2.2.2.1=2)) then true else(!k)) then true else(bif(bif(decide (c=([60,60,45]:aa))) then(decide (0<(g.length:Int))) else false) then(decide (((at' g 0).toNat:Int)=(9:Int))) else false)) then(au (hr b a.2.1) λ(f:ah)=>some (f.1,f.2.1,f.2.2.1,b.2.2.2.1,f.2.2.2.2.1,f.2.2.2.2.2.1,f.2.2.2.2.2.2.1,b.2.2.2.2.2.2.2.1,f.2.2.2.2.2.2.2.2)) else(aZ (b.2.2.2.1.length+([(g,(decide (c=([60,60,45]:aa))))]:ao).length<=536870912)<|some (b.1,b.2.1,b.2.2.1,(b.2.2.2.1++([(g,(decide (c=([60,60,45]:aa))))]:ao)),b.2.2.2.2.1,b.2.2.2.2.2.1,b.2.2.2.2.2.2.1,b.2.2.2.2.2.2.2.1,b.2.2.2.2.2.2.2.2)))))))))))))))) λo=>(fixF (HO x0 o) bC x0.2.1))
theorem WK{R:bg}(p:h3 R){x0:ah}{a2:bK}{Q:bu}{r:ah}(h:B1 R x0=some r):
  gN Tryz.prog 131 [.pointer a2] [] (eR a2 x0 Q) (λ_:bu=>True) (λq=> .tuple #[]) (λq=>eR a2 r q):=
 by
  refine V.jo (T:=ck) Tryz.call131 Tryz.func131 U λ_ _=>?_;unfold B1 at h;refine V.db ab 1 0 h (ρ:=Unit) (λs q=>[(0,.bj ⟨a2,1,1⟩ 0)]) .nil (λs q=>eR a2 (x0.1,s,x0.2.2) Q) U ?_ ?_
  ·intro y _ h;refine V.e8 ab 0 0 h (ρ:=Unit) (λs q=>[(0,.bj ⟨a2,1,1⟩ 0)]) .nil (λs q=>eR a2 (x0.1,s,x0.2.2) Q) () [0,1,2] U ?_;rintro t z _ h;rw[HO] at h;refine V.cM ab 4 0 h ob [0] U λA _ h=>?_;refine V.hg ab 3 0 h ob [0] U (λ_=>id) λB h=>?_;refine V.co ab 3 0 h U (λh=>?_) (λh=>?_)
   ·exact V.el ab 13 0 h () [0,1,2] ⟨U,U,U,U,U,U,U⟩
   exact V.a6 ab 1 0 h () [0,1,2] U
  rintro C _ h;refine V.cM ab 3 0 h oI [0] U λo _ h=>?_;refine V.bH ab 29 0 h oa [0] [] ⟨U,U,U,U,U,U,U⟩ λD _ h=>?_;refine V.cM ab 5 0 h m6 [0] U λE _ h=>?_;refine V.co ab 1 0 h U (λh=>?_) (λh=>?_)
  ·refine V.bH ab 3 0 h pw [0,0,0] [] U λb a h=>?_;refine V.e6 ab 1 0 h (ρ:=bK×Nat) (λs q=>[]) .nil (λs q=>[r5 q.1 s q.2,lQ a2 (b.1,b.2.1,b.2.2.1,s,b.2.2.2.2) (q.1,q.2,a.2.2),h2 a.2.2.1 b.2.2.2.2.2.2.2.1 a.2.2.2]) U ?_ ?_
   ·intro F _ h;refine V.co ab 4 0 h U (λh=>?_) (λh=>?_)
    ·refine V.go ab 9 0 ⟨U,U,U,U⟩ ?_;refine V.cl (aI.ky U (cL.buildSlice ab U U U U U U U U U U U [] U (.pair .str .bool) [(([120]:aa),(decide (o=([60,60,45]:aa))))] ⟨U,U⟩ U U λu=>aI.kz (V.cz ?_)));obtain⟨v,h⟩:=bB h;refine V.cl (aI.qF ab U U U U ⟨U,U,U,U,trivial,U,U,U,U⟩ U U U [2] U 0 U v U λc d=>V.cz ?_);exact V.a6 ab 4 2 h (c,d) [1,0,3] ⟨U,U,U,U⟩
    exact V.a6 ab 1 0 h (a.1,a.2.1) [1,0,2] U
   rintro G ⟨e,f⟩ h;cases h;exact V.rx ab 0 0 (e,f,a.2.2) [1,0,0] U
  refine V.cM ab 5 0 h Lj [0] U λH _ h=>?_;refine V.co ab 1 0 h U (λh=>?_) (λh=>?_)
  ·refine V.bH ab 7 0 h px [0] [] ⟨U,U,U,U⟩ λI _ h=>?_;cases h;exact V.rx ab 1 0 Q [0,0,0] U
  refine V.bH ab 21 0 h (Eo p) [0,0,0] [] ⟨U,U,U,U,U,U,U⟩ ?_;rintro⟨J,K,L⟩ g h;refine V.co ab 12 0 h U (λh=>?_) (λh=>?_)
  ·cases h;exact V.rx ab 0 0 g [0,0,0] U
  obtain⟨i,h⟩:=bB h;obtain⟨j,h⟩:=bB h;refine V.cM ab 11 0 h ahp [] ⟨U,U,U,i,j,U⟩ ?_;rintro⟨w,M⟩ _ h;obtain⟨k,h⟩:=bB h;refine V.co ab 33 0 h ⟨U,U,U,k,U⟩ (λh=>?_) (λh=>?_)
  ·refine V.bH ab 4 0 h px [0] [] U λN _ h=>?_;cases h;exact V.rx ab 1 0 g [0,0,0] U
  refine V.go ab 11 0 ⟨U,U,U,U⟩ ?_;refine V.cl (aI.ky U (cL.buildSlice ab U U U U U U U U U U U [] U (.pair .str .bool) [(w,(decide (o=([60,60,45]:aa))))] ⟨U,U⟩ U U λx=>aI.kz (V.cz ?_)));obtain⟨l,h⟩:=bB h;refine V.cl (aI.qF ab U U U U ⟨U,U,U,U,trivial,U,U,U,U⟩ U U U [2] U 0 U l U λm n=>V.cz ?_);cases h;exact V.jG ab 4 2 (m,n,g.2.2) [0,0,1] ⟨U,U,U,U⟩
def yj(m:ah->Option ah)(n:ah->Option ah):ah->Option ah:=λ(d,e,f,g,b,h,i,j,k)=>
 (cP ((decide (b=0))=true) (ie (d,e,f,g,b,h,i,j,k)) (0:UInt8) λ(o:UInt8)=>(bif(bif(decide (b=0)) then(decide ((o.toNat:Int)=(10:Int))) else false) then(a8 (λ((p,q,r,s,t,u,v,w,x):ah)=>n (p,q,r,s,t,u,v,w,x)) λl=>(au (zX (d,e,f,g,b,h,i,j,k)) λ(c:ah)=>(bif(decide (c.2.2.2.2.1=0)) then(au (g6 c) λ(a:ah)=>l (a.1,a.2.1,a.2.2.1,c.2.2.2.1,a.2.2.2.2.1,a.2.2.2.2.2.1,a.2.2.2.2.2.2.1,c.2.2.2.2.2.2.2.1,a.2.2.2.2.2.2.2.2)) else l c))) else m (d,e,f,g,b,h,i,j,k)))
def oc(x0:ah):Option ah:=
 (au (g6 x0) λ(a:ah)=>(a8 (λ((b,c,d,e,f,g,h,i,j):ah)=>some (b,c,d,e,f,g,h,i,j)) λk=>(fixF (yj k) bC (a.1,a.2.1,a.2.2.1,x0.2.2.2.1,a.2.2.2.2.1,a.2.2.2.2.2.1,a.2.2.2.2.2.2.1,x0.2.2.2.2.2.2.2.1,a.2.2.2.2.2.2.2.2))))
theorem B2{x0:ah}{a2:bK}{Q:bu}{r:ah}(h:oc x0=some r):
  gN Tryz.prog 69 [.pointer a2] [] (eR a2 x0 Q) (λ_:bu=>True) (λq=> .tuple #[]) (λq=>eR a2 r q):=
 by
  refine V.jo (T:=ck) Tryz.call69 Tryz.func69 U λ_ _=>?_;unfold oc at h;refine V.bH ab 3 0 h oa [0] [] U λe _ h=>?_;refine V.db ab 1 0 h (ρ:=bu) (λs q=>[]) .nil (λs q=>gO a2 s q) U ?_ ?_
  ·intro f _ h;refine V.e8 ab 0 0 h (ρ:=bu) (λs q=>[(0,.bj ⟨a2,1,1⟩ 0)]) .nil (λs q=>gO a2 s q) Q [1,2,0] U ?_;rintro g ⟨i,j,k,l,m,n,o,p,t⟩ b h;rw[yj] at h;refine V.hg ab 10 2 h ob [2] ⟨U,U,U,U⟩ (λ_=>id) λu h=>?_;refine V.co ab 3 0 h U (λh=>?_) (λh=>?_)
   ·refine V.db ab 1 0 h (ρ:=bu) (λs q=>[(0,.bj ⟨a2,1,1⟩ 0)]) .nil (λs q=>gO a2 s q) U ?_ ?_
    ·intro v _ h;refine V.bH ab 3 0 h Wz [2,0,0] [] U λw a h=>?_;refine V.co ab 9 0 h ⟨U,U,U,U⟩ (λh=>?_) (λh=>?_)
     ·refine V.bH ab 2 0 h oa [0] [] U λx _ h=>?_;exact V.a6 ab 2 0 h a [1,2,0] U
     exact V.a6 ab 2 0 h a [1,2,0] U
    rintro⟨y,z,A,B,C,D,E,F,G⟩ c h
    try dsimp only at h
    exact V.el ab 0 0 h c [0,1,2] U
   exact V.a6 ab 1 0 h b [0,1,2] U
  rintro⟨H,I,J,K,L,M,N,O,P⟩ d h;cases h;exact V.jG ab 0 0 d [2,0,0] U
def yk(x0:ah)(b:Int):Option (Bool×ah):=
 (bif(decide (30<=x0.2.2.1)) then(au (hr x0 b) λ(a:ah)=>some (false,(a.1,a.2.1,a.2.2.1,x0.2.2.2.1,a.2.2.2.2.1,a.2.2.2.2.2.1,a.2.2.2.2.2.2.1,x0.2.2.2.2.2.2.2.1,a.2.2.2.2.2.2.2.2))) else some (true,(x0.1,x0.2.1,(W (x0.2.2.1+1)),x0.2.2.2)))
theorem QN{x0:ah}{a:Int}{a3:bK}{Q:bu}{r:Bool×ah}(h:yk x0 a=some r):
  gN Tryz.prog 126 [.pointer a3,.int .i64 a] [] [lQ a3 x0 Q] (λ_:Unit=>True) (λ_=> .bool r.1) (λ_=>[lQ a3 (r.2.1,r.2.2.1,r.2.2.2.1,x0.2.2.2.1,r.2.2.2.2.2.1,r.2.2.2.2.2.2.1,r.2.2.2.2.2.2.2.1,x0.2.2.2.2.2.2.2.1,r.2.2.2.2.2.2.2.2.2) Q]):=
 by
  refine V.jo (T:=ck) Tryz.call126 Tryz.func126 U λ_ _=>?_;unfold yk at h;refine V.co ab 13 0 h ⟨U,U,U,U⟩ (λh=>?_) (λh=>?_)
  ·refine V.bH ab 4 0 h px [0] [] U λb _ h=>?_;cases h;exact V.rx ab 5 0 () [0] U
  cases h;exact V.rx ab 16 0 () [0] ⟨U,U,U,U,U,U,U⟩
def z8(R:bg)(q:ah->Option ah)(o:ah->Option ah):ah->Option ah:=λ(i,f,j,g,k,l,m,h,n)=>
 (au (gu (i,f,j,g,k,l,m,h,n)) λ(r:Bool)=>(bif r then(au (g7 (i,f,j,g,k,l,m,h,n) ([120,41]:aa)) λ(s:ah)=>some s) else(au (vC (i,f,j,g,k,l,m,h,n)) λ(t:Bool)=>(bif t then(au (hr (i,f,j,g,k,l,m,h,n) f) λ(c:ah)=>some (c.1,c.2.1,c.2.2.1,g,c.2.2.2.2.1,c.2.2.2.2.2.1,c.2.2.2.2.2.2.1,h,c.2.2.2.2.2.2.2.2)) else(au (p_ R (i,f,j,g,k,l,m,h,n)) λ(x,y,b)=>(bif(!(decide (b.2.2.2.2.1=0))) then(au (gv b ([]) ([41]:aa)) λ(u:ah)=>some u) else(au (g6 b) λ(a:ah)=>(au (gu (a.1,a.2.1,a.2.2.1,b.2.2.2.1,a.2.2.2.2.1,a.2.2.2.2.2.1,a.2.2.2.2.2.2.1,b.2.2.2.2.2.2.2.1,a.2.2.2.2.2.2.2.2)) λ(v:Bool)=>(bif v then(au (g7 (a.1,a.2.1,a.2.2.1,b.2.2.2.1,a.2.2.2.2.1,a.2.2.2.2.2.1,a.2.2.2.2.2.2.1,b.2.2.2.2.2.2.2.1,a.2.2.2.2.2.2.2.2) ([41]:aa)) λ(w:ah)=>some w) else(au (hH (a.1,a.2.1,a.2.2.1,b.2.2.2.1,a.2.2.2.2.1,a.2.2.2.2.2.1,a.2.2.2.2.2.2.1,b.2.2.2.2.2.2.2.1,a.2.2.2.2.2.2.2.2)) λ(p:aa)=>(bif(bif(!(decide (p=([124]:aa)))) then(!(decide (p=([41]:aa)))) else false) then(au (hr (a.1,a.2.1,a.2.2.1,b.2.2.2.1,a.2.2.2.2.1,a.2.2.2.2.2.1,a.2.2.2.2.2.2.1,b.2.2.2.2.2.2.2.1,a.2.2.2.2.2.2.2.2) a.2.1) λ(d:ah)=>some (d.1,d.2.1,d.2.2.1,b.2.2.2.1,d.2.2.2.2.1,d.2.2.2.2.2.1,d.2.2.2.2.2.2.1,b.2.2.2.2.2.2.2.1,d.2.2.2.2.2.2.2.2)) else(bif(decide (p=([41]:aa))) then q (a.1,(W (a.2.1+1)),a.2.2.1,b.2.2.2.1,a.2.2.2.2.1,a.2.2.2.2.2.1,a.2.2.2.2.2.2.1,b.2.2.2.2.2.2.2.1,a.2.2.2.2.2.2.2.2) else(au (g6 (a.1,(W (a.2.1+1)),a.2.2.1,b.2.2.2.1,a.2.2.2.2.1,a.2.2.2.2.2.1,a.2.2.2.2.2.2.1,b.2.2.2.2.2.2.2.1,a.2.2.2.2.2.2.2.2)) λ(e:ah)=>o (e.1,e.2.1,e.2.2.1,b.2.2.2.1,e.2.2.2.2.1,e.2.2.2.2.2.1,e.2.2.2.2.2.2.1,b.2.2.2.2.2.2.2.1,e.2.2.2.2.2.2.2.2))))))))))))))
def Er(R:bg)(x0:ah):Option ah:=
 (a8 (λ((d,e,f,g,h,i,j):aa×Int×Int×Int×Int×aa×Bool)=>(a8 (λ((k,l,m,n,o,p,q,r,s):ah)=>(au (R.nI (k,l,m,n,o,p,q,r,s) ([59,59]:aa) ([]:bt) false) λ(w,a)=>(cP ((decide (a.2.2.2.2.1=0))=true) (hH a) [] λ(t:aa)=>(bif(bif(decide (a.2.2.2.2.1=0)) then(decide (t=([59,59]:aa))) else false) then some (a.1,(W (a.2.1+2)),a.2.2.1,a.2.2.2.1,a.2.2.2.2.1,a.2.2.2.2.2.1,a.2.2.2.2.2.2.1,a.2.2.2.2.2.2.2.1,a.2.2.2.2.2.2.2.2) else some a)))) λu=>(fixF (z8 R u) bC (d,e,f,x0.2.2.2.1,g,h,i,x0.2.2.2.2.2.2.2.1,j)))) λc=>(au (hH x0) λ(v:aa)=>(bif(decide (v=([40]:aa))) then(au (g6 (x0.1,(W (x0.2.1+1)),x0.2.2.1,x0.2.2.2.1,x0.2.2.2.2.1,x0.2.2.2.2.2.1,x0.2.2.2.2.2.2.1,x0.2.2.2.2.2.2.2.1,x0.2.2.2.2.2.2.2.2)) λ(b:ah)=>c (b.1,b.2.1,b.2.2.1,b.2.2.2.2.1,b.2.2.2.2.2.1,b.2.2.2.2.2.2.1,b.2.2.2.2.2.2.2.2)) else c (x0.1,x0.2.1,x0.2.2.1,x0.2.2.2.2.1,x0.2.2.2.2.2.1,x0.2.2.2.2.2.2.1,x0.2.2.2.2.2.2.2.2))))
theorem ahG{R:bg}(b:h3 R){x0:ah}{a2:bK}{Q:bu}{r:ah}(h:Er R x0=some r):
  gN Tryz.prog 167 [.pointer a2] [] (eR a2 x0 Q) (λ_:bu=>True) (λq=> .tuple #[]) (λq=>eR a2 r q):=
 by
  refine V.jo (T:=ck) Tryz.call167 Tryz.func167 U λ_ _=>?_;unfold Er at h;refine V.e6 ab 0 0 h (ρ:=Unit) (λs q=>[(0,.bj ⟨a2,1,1⟩ 0)]) .nil (λs q=>eR a2 (s.1,s.2.1,s.2.2.1,x0.2.2.2.1,s.2.2.2.1,s.2.2.2.2.1,s.2.2.2.2.2.1,x0.2.2.2.2.2.2.2.1,s.2.2.2.2.2.2) Q) U ?_ ?_
  ·intro j _ h;refine V.cM ab 3 0 h oI [0] U λk _ h=>?_;refine V.co ab 2 0 h U (λh=>?_) (λh=>?_)
   ·refine V.bH ab 13 0 h oa [0] [] ⟨U,U,U,U,U,U,U⟩ λl _ h=>?_;exact V.a6 ab 1 0 h () [0,1,2] U
   exact V.a6 ab 1 0 h () [0,1,2] U
  rintro⟨m,n,o,p,t,u,v⟩ _ h;refine V.db ab 1 0 h (ρ:=bu) (λs q=>[(0,.bj ⟨a2,1,1⟩ 0)]) .nil (λs q=>gO a2 s q) U ?_ ?_
  ·intro w _ h;refine V.e8 ab 0 0 h (ρ:=bu) (λs q=>[(0,.bj ⟨a2,1,1⟩ 0)]) .nil (λs q=>gO a2 s q) Q [1,2,0] U ?_;rintro d ⟨x,y,z,A,B,C,D,E,F⟩ e h;rw[z8] at h;refine V.cM ab 5 0 h m6 [2] U λG _ h=>?_;refine V.co ab 1 0 h U (λh=>?_) (λh=>?_)
   ·refine V.bH ab 3 0 h pw [2,0,0] [] U λH f h=>?_;cases h;exact V.rx ab 1 0 f [0,0,0] U
   refine V.cM ab 5 0 h Lj [2] U λI _ h=>?_;refine V.co ab 1 0 h U (λh=>?_) (λh=>?_)
   ·refine V.bH ab 7 2 h px [2] [] ⟨U,U,U,U⟩ λJ _ h=>?_;cases h;exact V.rx ab 1 0 e [0,0,0] U
   refine V.bH ab 4 0 h (Eo b) [2,0,0] [] U ?_;rintro⟨K,L,M⟩ a h;refine V.co ab 10 0 h ⟨U,U,U,U⟩ (λh=>?_) (λh=>?_)
   ·refine V.bH ab 3 0 h qP [0,0,0] [] U λN g h=>?_;cases h;exact V.rx ab 1 0 g [0,0,0] U
   refine V.bH ab 4 0 h oa [0] [] U λO _ h=>?_;refine V.cM ab 5 0 h m6 [0] U λP _ h=>?_;refine V.co ab 1 0 h U (λh=>?_) (λh=>?_)
   ·refine V.bH ab 3 0 h pw [0,0,0] [] U λS i h=>?_;cases h;exact V.rx ab 1 0 i [0,0,0] U
   refine V.cM ab 4 0 h oI [0] U λW _ h=>?_;refine V.co ab 12 0 h U (λh=>?_) (λh=>?_)
   ·refine V.bH ab 7 0 h px [0] [] ⟨U,U,U,U⟩ λX _ h=>?_;cases h;exact V.rx ab 1 0 a [0,0,0] U
   refine V.co ab 18 0 h ⟨U,U,U,U,U,U,U⟩ (λh=>?_) (λh=>?_)
   ·exact V.a6 ab 1 0 h a [1,2,0] U
   refine V.bH ab 3 0 h oa [0] [] U λY _ h=>?_;exact V.el ab 2 0 h a [1,2,0] U
  rintro⟨Z,pq,ps,p9,uv,po,qR,ym,sk⟩ KS h;refine V.go ab 3 0 U ?_;refine V.cl (aI.J4 .str bz.nil U U (V.cz ?_));refine V.bH ab 0 0 h b.nI [2,0,0] [0] U ?_;rintro⟨BH,hi⟩ c h;refine V.hg ab 10 1 h oI [1] ⟨U,U,U,U⟩ (λ_=>id) λLm h=>?_;refine V.co ab 3 0 h U (λh=>?_) (λh=>?_)
  ·cases h;exact V.jG ab 11 1 c [0,0,0] ⟨U,U,U,U,U,U,U⟩
  cases h;exact V.jG ab 1 0 c [0,0,0] U
def Es(R:bg)(v:ah->Option ah)(w:ah->Option ah):ah->Option ah:=λ(l,m,n,o,k,p,q,r,s)=>
 (bif(decide (k=0)) then(a8 (λ((x,y,z,A,B,C,D,E,F):ah)=>w (x,y,z,A,B,C,D,E,F)) λt=>(au (oc (l,m,n,o,k,p,q,r,s)) λ(b:ah)=>(a8 (λ((c,d,e,f,a,g,h,i,j):ah)=>(cP ((decide (a=0))=true) (lD (c,d,e,f,a,g,h,i,j)) [] λ(G:aa)=>(bif(bif(decide (a=0)) then(decide (G=([101,115,97,99]:aa))) else false) then some (c,(W (d+4)),e,f,a,g,h,i,j) else(bif(decide (a=0)) then(au (Er R (c,d,e,f,a,g,h,i,j)) λ(H:ah)=>t H) else t (c,d,e,f,a,g,h,i,j))))) λu=>(cP ((decide (b.2.2.2.2.1=0))=true) (gu b) false λ(I:Bool)=>(bif(bif(decide (b.2.2.2.2.1=0)) then I else false) then(au (g7 b ([])) λ(J:ah)=>u J) else u b))))) else v (l,m,n,o,k,p,q,r,s))
def Et(R:bg)(x0:ah):Option ah:=
 (au (g6 x0) λ(a:ah)=>(au (gu (a.1,a.2.1,a.2.2.1,x0.2.2.2.1,a.2.2.2.2.1,a.2.2.2.2.2.1,a.2.2.2.2.2.2.1,x0.2.2.2.2.2.2.2.1,a.2.2.2.2.2.2.2.2)) λ(q:Bool)=>(bif q then(au (g7 (a.1,a.2.1,a.2.2.1,x0.2.2.2.1,a.2.2.2.2.1,a.2.2.2.2.2.1,a.2.2.2.2.2.2.1,x0.2.2.2.2.2.2.2.1,a.2.2.2.2.2.2.2.2) ([120,32,105,110,10,101,115,97,99]:aa)) λ(r:ah)=>some r) else(au (vC (a.1,a.2.1,a.2.2.1,x0.2.2.2.1,a.2.2.2.2.1,a.2.2.2.2.2.1,a.2.2.2.2.2.2.1,x0.2.2.2.2.2.2.2.1,a.2.2.2.2.2.2.2.2)) λ(s:Bool)=>(bif s then(au (hr (a.1,a.2.1,a.2.2.1,x0.2.2.2.1,a.2.2.2.2.1,a.2.2.2.2.2.1,a.2.2.2.2.2.2.1,x0.2.2.2.2.2.2.2.1,a.2.2.2.2.2.2.2.2) a.2.1) λ(e:ah)=>some (e.1,e.2.1,e.2.2.1,x0.2.2.2.1,e.2.2.2.2.1,e.2.2.2.2.2.1,e.2.2.2.2.2.2.1,x0.2.2.2.2.2.2.2.1,e.2.2.2.2.2.2.2.2)) else(au (p_ R (a.1,a.2.1,a.2.2.1,x0.2.2.2.1,a.2.2.2.2.1,a.2.2.2.2.2.1,a.2.2.2.2.2.2.1,x0.2.2.2.2.2.2.2.1,a.2.2.2.2.2.2.2.2)) λ(H,I,c)=>(a8 (λ((k,g,l,h,i,m,n,j,o):ah)=>(bif(!(decide (i=0))) then(au (gv (k,g,l,h,i,m,n,j,o) ([]) ([32,105,110,10,101,115,97,99]:aa)) λ(t:ah)=>some t) else(au (lD (k,g,l,h,i,m,n,j,o)) λ(u:aa)=>(bif(!(decide (u=([105,110]:aa)))) then(au (hr (k,g,l,h,i,m,n,j,o) g) λ(f:ah)=>some (f.1,f.2.1,f.2.2.1,h,f.2.2.2.2.1,f.2.2.2.2.2.1,f.2.2.2.2.2.2.1,j,f.2.2.2.2.2.2.2.2)) else(a8 (λ((v,w,x,y,z,A,B,C,D):ah)=>(au (gv (v,w,x,y,z,A,B,C,D) ([]) ([10,101,115,97,99]:aa)) λ(E:ah)=>some E)) λF=>(fixF (Es R F) bC (k,(W (g+2)),l,h,i,m,n,j,o))))))) λp=>(bif(decide (c.2.2.2.2.1=0)) then(au (oc c) λ(b:ah)=>(cP ((decide (b.2.2.2.2.1=0))=true) (gu b) false λ(G:Bool)=>(bif(bif(decide (b.2.2.2.2.1=0)) then G else false) then(au (g7 b ([])) λ(d:ah)=>p (d.1,d.2.1,d.2.2.1,d.2.2.2.1,d.2.2.2.2.1,d.2.2.2.2.2.1,d.2.2.2.2.2.2.1,d.2.2.2.2.2.2.2.1,d.2.2.2.2.2.2.2.2)) else p (b.1,b.2.1,b.2.2.1,b.2.2.2.1,b.2.2.2.2.1,b.2.2.2.2.2.1,b.2.2.2.2.2.2.1,b.2.2.2.2.2.2.2.1,b.2.2.2.2.2.2.2.2)))) else p (c.1,c.2.1,c.2.2.1,c.2.2.2.1,c.2.2.2.2.1,c.2.2.2.2.2.1,c.2.2.2.2.2.2.1,c.2.2.2.2.2.2.2.1,c.2.2.2.2.2.2.2.2)))))))))
theorem ahH{R:bg}(d:h3 R){x0:ah}{a2:bK}{Q:bu}{r:ah}(h:Et R x0=some r):
  gN Tryz.prog 149 [.pointer a2] [] (eR a2 x0 Q) (λ_:bu=>True) (λq=> .tuple #[]) (λq=>eR a2 r q):=
 by
  refine V.jo (T:=ck) Tryz.call149 Tryz.func149 U λ_ _=>?_;unfold Et at h;refine V.bH ab 3 0 h oa [0] [] U λu _ h=>?_;refine V.cM ab 5 0 h m6 [0] U λv _ h=>?_;refine V.co ab 1 0 h U (λh=>?_) (λh=>?_)
  ·refine V.bH ab 3 0 h pw [0,0,0] [] U λw g h=>?_;cases h;exact V.rx ab 1 0 g [0,0,0] U
  refine V.cM ab 5 0 h Lj [0] U λx _ h=>?_;refine V.co ab 1 0 h U (λh=>?_) (λh=>?_)
  ·refine V.bH ab 7 0 h px [0] [] ⟨U,U,U,U⟩ λy _ h=>?_;cases h;exact V.rx ab 1 0 Q [0,0,0] U
  refine V.bH ab 4 0 h (Eo d) [0,0,0] [] U ?_;rintro⟨z,A,B⟩ i h;refine V.e6 ab 1 0 h (ρ:=bu) (λs q=>[(0,.bj ⟨a2,1,1⟩ 0)]) .nil (λs q=>gO a2 s q) U ?_ ?_
  ·intro C _ h;refine V.co ab 8 0 h ⟨U,U,U,U⟩ (λh=>?_) (λh=>?_)
   ·refine V.bH ab 3 0 h B2 [0,0,0] [] U λD j h=>?_;refine V.hg ab 10 0 h m6 [0] ⟨U,U,U,U⟩ (λ_=>id) λE h=>?_;refine V.co ab 2 0 h U (λh=>?_) (λh=>?_)
    ·refine V.bH ab 2 0 h pw [0,0,0] [] U λF k h=>?_;exact V.a6 ab 1 0 h k [1,2,0] U
    exact V.a6 ab 1 0 h j [1,2,0] U
   exact V.a6 ab 1 0 h i [1,2,0] U
  rintro⟨G,H,I,J,K,L,M,N,O⟩ e h;refine V.co ab 9 2 h ⟨U,U,U,U⟩ (λh=>?_) (λh=>?_)
  ·refine V.bH ab 3 0 h qP [2,0,0] [] U λP l h=>?_;cases h;exact V.rx ab 1 0 l [0,0,0] U
  refine V.cM ab 5 0 h wQ [2] U λS _ h=>?_;refine V.co ab 2 0 h U (λh=>?_) (λh=>?_)
  ·refine V.bH ab 7 2 h px [2] [] ⟨U,U,U,U⟩ λW _ h=>?_;cases h;exact V.rx ab 1 0 e [0,0,0] U
  refine V.db ab 14 2 h (ρ:=bu) (λs q=>[(0,.bj ⟨a2,1,1⟩ 0)]) .nil (λs q=>gO a2 s q) ⟨U,U,U,U,U,U,U⟩ ?_ ?_
  ·intro X _ h;refine V.e8 ab 0 0 h (ρ:=bu) (λs q=>[(0,.bj ⟨a2,1,1⟩ 0)]) .nil (λs q=>gO a2 s q) e [1,2,0] U ?_;rintro m ⟨Y,Z,rp,pt,nj,rq,yn,ud,ur⟩ a h;rw[Es] at h;refine V.co ab 9 2 h ⟨U,U,U,U⟩ (λh=>?_) (λh=>?_)
   ·refine V.db ab 1 0 h (ρ:=bu) (λs q=>[(0,.bj ⟨a2,1,1⟩ 0)]) .nil (λs q=>gO a2 s q) U ?_ ?_
    ·intro QO _ h;refine V.bH ab 3 0 h B2 [2,0,0] [] U λqa n h=>?_;refine V.e6 ab 1 0 h (ρ:=bu) (λs q=>[(0,.bj ⟨a2,1,1⟩ 0)]) .nil (λs q=>gO a2 s q) U ?_ ?_
     ·intro QP _ h;refine V.hg ab 9 0 h m6 [0] ⟨U,U,U,U⟩ (λ_=>id) λyp h=>?_;refine V.co ab 2 0 h U (λh=>?_) (λh=>?_)
      ·refine V.bH ab 2 0 h pw [0,0,0] [] U λLp o h=>?_;exact V.a6 ab 1 0 h o [1,2,0] U
      exact V.a6 ab 1 0 h n [1,2,0] U
     rintro⟨oB,sk,vx,qO,rz,zU,qN,rn,z9⟩ f h;refine V.hg ab 10 2 h wQ [2] ⟨U,U,U,U⟩ (λ_=>id) λkN h=>?_;refine V.co ab 3 0 h U (λh=>?_) (λh=>?_)
     ·cases h;exact V.rx ab 12 2 f [0,0,0] ⟨U,U,U,U,U,U,U⟩
     refine V.co ab 9 2 h ⟨U,U,U,U⟩ (λh=>?_) (λh=>?_)
     ·refine V.bH ab 2 0 h (ahG d) [2,0,0] [] U λLo b h=>?_;exact V.a6 ab 2 0 h b [1,2,0] U
     exact V.a6 ab 2 0 h f [0,1,2] U
    rintro⟨oF,En,yc,p7,td,ug,HP,HQ,yo⟩ c h
    try dsimp only at h
    exact V.el ab 0 0 h c [0,1,2] U
   exact V.a6 ab 1 0 h a [0,1,2] U
  rintro⟨WM,Hh,BI,WN,HR,HS,WO,WQ,HT⟩ p h;refine V.bH ab 2 0 h qP [2,0,0] [] U λLq t h=>?_;cases h;exact V.jG ab 1 0 t [0,0,0] U
def Lt(R:bg)(l:ah->Option ah)(m:ah->Option ah):ah->Option ah:=λ(f,g,h,b,e,i,j,c,k)=>
 (bif(decide (e=0)) then(au (g6 (f,g,h,b,e,i,j,c,k)) λ(a:ah)=>(au (gu (a.1,a.2.1,a.2.2.1,b,a.2.2.2.2.1,a.2.2.2.2.2.1,a.2.2.2.2.2.2.1,c,a.2.2.2.2.2.2.2.2)) λ(n:Bool)=>(bif n then(au (g7 (a.1,a.2.1,a.2.2.1,b,a.2.2.2.2.1,a.2.2.2.2.2.1,a.2.2.2.2.2.2.1,c,a.2.2.2.2.2.2.2.2) ([])) λ(o:ah)=>some o) else(au (ie (a.1,a.2.1,a.2.2.1,b,a.2.2.2.2.1,a.2.2.2.2.2.1,a.2.2.2.2.2.2.1,c,a.2.2.2.2.2.2.2.2)) λ(p:UInt8)=>(bif(decide ((p.toNat:Int)=(10:Int))) then some (a.1,a.2.1,a.2.2.1,b,a.2.2.2.2.1,a.2.2.2.2.2.1,a.2.2.2.2.2.2.1,c,a.2.2.2.2.2.2.2.2) else(au (hH (a.1,a.2.1,a.2.2.1,b,a.2.2.2.2.1,a.2.2.2.2.2.1,a.2.2.2.2.2.2.1,c,a.2.2.2.2.2.2.2.2)) λ(q:aa)=>(bif(decide (q=([59]:aa))) then some (a.1,(W (a.2.1+1)),a.2.2.1,b,a.2.2.2.2.1,a.2.2.2.2.2.1,a.2.2.2.2.2.2.1,c,a.2.2.2.2.2.2.2.2) else(au (hH (a.1,a.2.1,a.2.2.1,b,a.2.2.2.2.1,a.2.2.2.2.2.1,a.2.2.2.2.2.2.1,c,a.2.2.2.2.2.2.2.2)) λ(r:aa)=>(bif(!(decide (r=[]))) then(au (hr (a.1,a.2.1,a.2.2.1,b,a.2.2.2.2.1,a.2.2.2.2.2.1,a.2.2.2.2.2.2.1,c,a.2.2.2.2.2.2.2.2) a.2.1) λ(d:ah)=>some (d.1,d.2.1,d.2.2.1,b,d.2.2.2.2.1,d.2.2.2.2.2.1,d.2.2.2.2.2.2.1,c,d.2.2.2.2.2.2.2.2)) else(au (p_ R (a.1,a.2.1,a.2.2.1,b,a.2.2.2.2.1,a.2.2.2.2.2.1,a.2.2.2.2.2.2.1,c,a.2.2.2.2.2.2.2.2)) λ(t,u,s)=>m s)))))))))) else l (f,g,h,b,e,i,j,c,k))
def Eu(R:bg)(x0:ah):Option ah:=
 (a8 (λ((a,b,c,d,e,f,g,h,i):ah)=>some (a,b,c,d,e,f,g,h,i)) λj=>(fixF (Lt R j) bC (x0.1,x0.2.1,x0.2.2.1,x0.2.2.2.1,x0.2.2.2.2.1,x0.2.2.2.2.2.1,x0.2.2.2.2.2.2.1,x0.2.2.2.2.2.2.2.1,x0.2.2.2.2.2.2.2.2)))
theorem ahL{R:bg}(b:h3 R){x0:ah}{a2:bK}{Q:bu}{r:ah}(h:Eu R x0=some r):
  gN Tryz.prog 166 [.pointer a2] [] (eR a2 x0 Q) (λ_:bu=>True) (λq=> .tuple #[]) (λq=>eR a2 r q):=
 by
  refine V.jo (T:=ck) Tryz.call166 Tryz.func166 U λ_ _=>?_;unfold Eu at h;refine V.db ab 0 0 h (ρ:=bu) (λs q=>[]) .nil (λs q=>gO a2 s q) U ?_ ?_
  ·intro f _ h;refine V.e8 ab 0 0 h (ρ:=bu) (λs q=>[(0,.bj ⟨a2,1,1⟩ 0)]) .nil (λs q=>gO a2 s q) Q [1,2,0] U ?_;rintro g ⟨i,j,k,l,m,n,o,p,t⟩ a h;rw[Lt] at h;refine V.co ab 9 2 h ⟨U,U,U,U⟩ (λh=>?_) (λh=>?_)
   ·refine V.bH ab 5 0 h oa [2] [] U λu _ h=>?_;refine V.cM ab 5 0 h m6 [0] U λv _ h=>?_;refine V.co ab 1 0 h U (λh=>?_) (λh=>?_)
    ·refine V.bH ab 3 0 h pw [0,0,0] [] U λw c h=>?_;cases h;exact V.rx ab 1 0 c [0,0,0] U
    refine V.cM ab 5 0 h ob [0] U λx _ h=>?_;refine V.co ab 2 0 h U (λh=>?_) (λh=>?_)
    ·cases h;exact V.rx ab 0 0 a [0,0,0] U
    refine V.cM ab 5 0 h oI [0] U λy _ h=>?_;refine V.co ab 2 0 h U (λh=>?_) (λh=>?_)
    ·cases h;exact V.rx ab 11 0 a [0,0,0] ⟨U,U,U,U,U,U,U⟩
    refine V.cM ab 5 0 h oI [0] U λz _ h=>?_;refine V.co ab 2 0 h U (λh=>?_) (λh=>?_)
    ·refine V.bH ab 7 0 h px [0] [] ⟨U,U,U,U⟩ λA _ h=>?_;cases h;exact V.rx ab 1 0 a [0,0,0] U
    refine V.bH ab 3 0 h (Eo b) [0,0,0] [] U ?_;rintro⟨B,C,D⟩ d h
    try dsimp only at h
    exact V.el ab 2 0 h d [1,2,0] U
   exact V.a6 ab 1 0 h a [0,1,2] U
  rintro⟨E,F,G,H,I,J,K,L,M⟩ e h;cases h;exact V.jG ab 0 0 e [2,0,0] U
def py(R:bg)(x0:ah)(c:bt)(d:aa):Option (aa×ah):=
 (au (R.nI x0 ([119]:aa) c true) λ(f,a)=>(bif(!(decide (a.2.2.2.2.1=0))) then(au (gv a ([]) d) λ(e:ah)=>some ([],e)) else(au (lD a) λ(b:aa)=>some (b,(a.1,(W (a.2.1+(b.length:Int))),a.2.2)))))
theorem B6{R:bg}(g:h3 R){x0:ah}{a:bt}{d:aa}{b:bK}{Q:bu}{e:bK}{f:Nat}{r:aa×ah}(h:py R x0 a d=some r):
  gN Tryz.prog 147 [.pointer b,.slice e a.length f,.string (a9 d)] [h2 e a f] (eR b x0 Q) (λ_:bu=>True) (λq=> .string (a9 r.1)) (λq=>eR b r.2 q):=
 by
  refine V.jo (T:=ck) Tryz.call147 Tryz.func147 U λ_ _=>?_;unfold py at h;refine V.bH ab 8 0 h g.nI [0,0,0] [0] U ?_;rintro⟨j,k⟩ i h;refine V.co ab 10 1 h ⟨U,U,U,U⟩ (λh=>?_) (λh=>?_)
  ·refine V.bH ab 4 0 h qP [0,0,0] [] U λl c h=>?_;cases h;exact V.rx ab 5 0 c [0,0,0] U
  refine V.cM ab 4 0 h wQ [1] U λm _ h=>?_;cases h;exact V.rx ab 21 1 i [0,0,0] ⟨U,U,U,U,U,U,U⟩
def Ev(R:bg)(x0:ah):Option ah:=
 (au (g6 x0) λ(a:ah)=>(au (gu (a.1,a.2.1,a.2.2.1,x0.2.2.2.1,a.2.2.2.2.1,a.2.2.2.2.2.1,a.2.2.2.2.2.2.1,x0.2.2.2.2.2.2.2.1,a.2.2.2.2.2.2.2.2)) λ(E:Bool)=>(bif E then(au (g7 (a.1,a.2.1,a.2.2.1,x0.2.2.2.1,a.2.2.2.2.1,a.2.2.2.2.2.1,a.2.2.2.2.2.2.1,x0.2.2.2.2.2.2.2.1,a.2.2.2.2.2.2.2.2) ([120,10,100,111,32,120,10,100,111,110,101]:aa)) λ(F:ah)=>some F) else(au (vC (a.1,a.2.1,a.2.2.1,x0.2.2.2.1,a.2.2.2.2.1,a.2.2.2.2.2.1,a.2.2.2.2.2.2.1,x0.2.2.2.2.2.2.2.1,a.2.2.2.2.2.2.2.2)) λ(G:Bool)=>(bif G then(au (hr (a.1,a.2.1,a.2.2.1,x0.2.2.2.1,a.2.2.2.2.1,a.2.2.2.2.2.1,a.2.2.2.2.2.2.1,x0.2.2.2.2.2.2.2.1,a.2.2.2.2.2.2.2.2) a.2.1) λ(e:ah)=>some (e.1,e.2.1,e.2.2.1,x0.2.2.2.1,e.2.2.2.2.1,e.2.2.2.2.2.1,e.2.2.2.2.2.2.1,x0.2.2.2.2.2.2.2.1,e.2.2.2.2.2.2.2.2)) else(au (p_ R (a.1,a.2.1,a.2.2.1,x0.2.2.2.1,a.2.2.2.2.1,a.2.2.2.2.2.1,a.2.2.2.2.2.2.1,x0.2.2.2.2.2.2.2.1,a.2.2.2.2.2.2.2.2)) λ(H,l,d)=>(cP ((bif(!(decide (d.2.2.2.2.1=0))) then true else(!l))=false) (z6 H) false λ(I:Bool)=>(bif(bif(bif(!(decide (d.2.2.2.2.1=0))) then true else(!l)) then true else(!I)) then(au (hr d a.2.1) λ(f:ah)=>some (f.1,f.2.1,f.2.2.1,d.2.2.2.1,f.2.2.2.2.1,f.2.2.2.2.2.1,f.2.2.2.2.2.2.1,d.2.2.2.2.2.2.2.1,f.2.2.2.2.2.2.2.2)) else(au (g6 d) λ(b:ah)=>(a8 (λ((m,n,o,p,i,q,r,s,t):ah)=>(bif(!(decide (i=0))) then(au (gv (m,n,o,p,i,q,r,s,t) ([]) ([10,100,111,32,120,10,100,111,110,101]:aa)) λ(J:ah)=>some J) else(au (oc (m,n,o,p,i,q,r,s,t)) λ(c:ah)=>(cP ((decide (c.2.2.2.2.1=0))=true) (gu c) false λ(u:Bool)=>(cP ((bif(decide (c.2.2.2.2.1=0)) then(!u) else false)=true) (lD c) [] λ(K:aa)=>(bif(bif(bif(decide (c.2.2.2.2.1=0)) then(!u) else false) then(!(decide (K=([100,111]:aa)))) else false) then(au (hr c c.2.1) λ(g:ah)=>some (g.1,g.2.1,g.2.2.1,c.2.2.2.1,g.2.2.2.2.1,g.2.2.2.2.2.1,g.2.2.2.2.2.2.1,c.2.2.2.2.2.2.2.1,g.2.2.2.2.2.2.2.2)) else(a8 (λ((v,w,x,y,j,z,A,B,C):ah)=>(bif(!(decide (j=0))) then(au (gv (v,w,x,y,j,z,A,B,C) ([]) ([10,100,111,32,120,10,100,111,110,101]:aa)) λ(L:ah)=>some L) else(au (py R (v,(W (w+2)),x,y,j,z,A,B,C) ([([100,111,110,101]:aa)]:bt) ([10,100,111,110,101]:aa)) λ(T,M)=>some M))) λD=>(cP ((decide (c.2.2.2.2.1=0))=true) (gu c) false λ(N:Bool)=>(bif(bif(decide (c.2.2.2.2.1=0)) then N else false) then(au (g7 c ([])) λ(O:ah)=>D O) else D c))))))))) λk=>(au (hH (b.1,b.2.1,b.2.2.1,d.2.2.2.1,b.2.2.2.2.1,b.2.2.2.2.2.1,b.2.2.2.2.2.2.1,d.2.2.2.2.2.2.2.1,b.2.2.2.2.2.2.2.2)) λ(P:aa)=>(bif(decide (P=([59]:aa))) then k (b.1,(W (b.2.1+1)),b.2.2.1,d.2.2.2.1,b.2.2.2.2.1,b.2.2.2.2.2.1,b.2.2.2.2.2.2.1,d.2.2.2.2.2.2.2.1,b.2.2.2.2.2.2.2.2) else(au (oc (b.1,b.2.1,b.2.2.1,d.2.2.2.1,b.2.2.2.2.1,b.2.2.2.2.2.1,b.2.2.2.2.2.2.1,d.2.2.2.2.2.2.2.1,b.2.2.2.2.2.2.2.2)) λ(h:ah)=>(cP ((decide (h.2.2.2.2.1=0))=true) (lD h) [] λ(Q:aa)=>(bif(bif(decide (h.2.2.2.2.1=0)) then(decide (Q=([105,110]:aa))) else false) then(au (Eu R (h.1,(W (h.2.1+2)),h.2.2)) λ(S:ah)=>k S) else k h)))))))))))))))
theorem ahN{R:bg}(a:h3 R){x0:ah}{a2:bK}{Q:bu}{r:ah}(h:Ev R x0=some r):
  gN Tryz.prog 148 [.pointer a2] [] (eR a2 x0 Q) (λ_:bu=>True) (λq=> .tuple #[]) (λq=>eR a2 r q):=
 by
  refine V.jo (T:=ck) Tryz.call148 Tryz.func148 U λ_ _=>?_;unfold Ev at h;refine V.bH ab 3 0 h oa [0] [] U λn _ h=>?_;refine V.cM ab 5 0 h m6 [0] U λo _ h=>?_;refine V.co ab 1 0 h U (λh=>?_) (λh=>?_)
  ·refine V.bH ab 3 0 h pw [0,0,0] [] U λp f h=>?_;cases h;exact V.rx ab 1 0 f [0,0,0] U
  refine V.cM ab 13 0 h Lj [0] ⟨U,U,U,U⟩ λt _ h=>?_;refine V.co ab 1 0 h U (λh=>?_) (λh=>?_)
  ·refine V.bH ab 4 0 h px [0] [] U λu _ h=>?_;cases h;exact V.rx ab 1 0 Q [0,0,0] U
  refine V.bH ab 4 0 h (Eo a) [0,0,0] [] U ?_;rintro⟨v,w,x⟩ d h;refine V.hg ab 20 0 h WI [] ⟨U,U,U,U⟩ (λ_=>id) λy h=>?_;refine V.co ab 3 0 h U (λh=>?_) (λh=>?_)
  ·refine V.bH ab 4 0 h px [0] [] U λz _ h=>?_;cases h;exact V.rx ab 1 0 d [0,0,0] U
  refine V.bH ab 4 0 h oa [0] [] U λA _ h=>?_;refine V.e6 ab 1 0 h (ρ:=bu) (λs q=>[(0,.bj ⟨a2,1,1⟩ 0)]) .nil (λs q=>gO a2 s q) U ?_ ?_
  ·intro B _ h;refine V.cM ab 3 0 h oI [0] U λC _ h=>?_;refine V.co ab 2 0 h U (λh=>?_) (λh=>?_)
   ·exact V.a6 ab 10 0 h d [1,2,0] ⟨U,U,U,U,U,U,U⟩
   refine V.bH ab 3 0 h B2 [0,0,0] [] U λD g h=>?_;refine V.hg ab 10 0 h wQ [0] ⟨U,U,U,U⟩ (λ_=>id) λE h=>?_;refine V.co ab 3 0 h U (λh=>?_) (λh=>?_)
   ·refine V.bH ab 14 0 h (ahL a) [0,0,0] [] ⟨U,U,U,U,U,U,U⟩ λF i h=>?_;exact V.a6 ab 1 0 h i [1,2,0] U
   exact V.a6 ab 1 0 h g [1,2,0] U
  rintro⟨G,H,I,J,K,L,M,N,O⟩ P h;refine V.co ab 9 2 h ⟨U,U,U,U⟩ (λh=>?_) (λh=>?_)
  ·refine V.bH ab 3 0 h qP [2,0,0] [] U λS j h=>?_;cases h;exact V.rx ab 1 0 j [0,0,0] U
  refine V.bH ab 4 0 h B2 [2,0,0] [] U λW e h=>?_;refine V.hg ab 11 0 h m6 [0] ⟨U,U,U,U⟩ (λ_=>id) λX h=>?_;refine V.hg ab 4 0 h wQ [0] U (λ_=>id) λY h=>?_;refine V.co ab 3 0 h U (λh=>?_) (λh=>?_)
  ·refine V.bH ab 7 0 h px [0] [] ⟨U,U,U,U⟩ λZ _ h=>?_;cases h;exact V.rx ab 1 0 e [0,0,0] U
  refine V.e6 ab 1 0 h (ρ:=bu) (λs q=>[(0,.bj ⟨a2,1,1⟩ 0)]) .nil (λs q=>gO a2 s q) U ?_ ?_
  ·intro QT _ h;refine V.hg ab 9 0 h m6 [0] ⟨U,U,U,U⟩ (λ_=>id) λm2 h=>?_;refine V.co ab 2 0 h U (λh=>?_) (λh=>?_)
   ·refine V.bH ab 2 0 h pw [0,0,0] [] U λyp k h=>?_;exact V.a6 ab 1 0 h k [1,2,0] U
   exact V.a6 ab 1 0 h e [1,2,0] U
  rintro⟨qR,ym,QR,oB,qO,D9,QS,rz,rn⟩ l h;refine V.co ab 9 2 h ⟨U,U,U,U⟩ (λh=>?_) (λh=>?_)
  ·refine V.bH ab 3 0 h qP [2,0,0] [] U λLv b h=>?_;cases h;exact V.rx ab 1 0 b [0,0,0] U
  refine V.go ab 15 2 ⟨U,U,U,U,U,U,U⟩ ?_;refine V.cl (aI.ky U (cL.buildSlice ab U U U U U U U U U U U [] U .str [([100,111,110,101]:aa)] ⟨U,U⟩ U U λm=>aI.kz (V.cz ?_)));refine V.cl (aI.freeze [0] U (V.cz ?_));refine V.bH ab 0 0 h (B6 a) [0,0,0] [0] U ?_;rintro⟨WR,Lw⟩ c h;cases h;exact V.jG ab 1 0 c [0,0,0] U
def HU(R:bg)(m:(aa×ah)->Option ah)(n:(aa×ah)->Option ah):(aa×ah)->Option ah:=λ(a,d,e,f,g,b,h,i,j,k)=>
 (bif(bif(decide (b=0)) then(decide (a=([101,108,105,102]:aa))) else false) then(a8 (λ((o,p,q,r,s,t,u,v,w,x):aa×ah)=>n (o,p,q,r,s,t,u,v,w,x)) λl=>(au (py R (d,e,f,g,b,h,i,j,k) ([([116,104,101,110]:aa)]:bt) ([10,116,104,101,110,32,120,10,102,105]:aa)) λ(A,c)=>(bif(decide (c.2.2.2.2.1=0)) then(au (py R c ([([101,108,105,102]:aa),([101,108,115,101]:aa),([102,105]:aa)]:bt) ([10,102,105]:aa)) λ(y,z)=>l (y,z)) else l (a,c)))) else m (a,d,e,f,g,b,h,i,j,k))
def B8(R:bg)(x0:ah)(h:aa):Option ah:=
 (a8 (λ((s,t,u,v,w,x,y,z,A):ah)=>some (s,t,u,v,w,x,y,z,A)) λg=>(bif(decide (h=([123]:aa))) then(au (py R x0 ([([125]:aa)]:bt) ([10,125]:aa)) λ(E,b)=>g (b.1,b.2.1,b.2.2.1,b.2.2.2.1,b.2.2.2.2.1,b.2.2.2.2.2.1,b.2.2.2.2.2.2.1,b.2.2.2.2.2.2.2.1,b.2.2.2.2.2.2.2.2)) else(a8 (λ(B:Bool)=>(bif B then(au (py R x0 ([([100,111]:aa)]:bt) ([10,100,111,32,120,10,100,111,110,101]:aa)) λ(F,a)=>(bif(decide (a.2.2.2.2.1=0)) then(au (py R a ([([100,111,110,101]:aa)]:bt) ([10,100,111,110,101]:aa)) λ(G,c)=>g (c.1,c.2.1,c.2.2.1,c.2.2.2.1,c.2.2.2.2.1,c.2.2.2.2.2.1,c.2.2.2.2.2.2.1,c.2.2.2.2.2.2.2.1,c.2.2.2.2.2.2.2.2)) else g (a.1,a.2.1,a.2.2.1,a.2.2.2.1,a.2.2.2.2.1,a.2.2.2.2.2.1,a.2.2.2.2.2.2.1,a.2.2.2.2.2.2.2.1,a.2.2.2.2.2.2.2.2))) else(bif(decide (h=([105,102]:aa))) then(a8 (λ((C,j,k,l,m,i,n,o,p,q):aa×ah)=>(bif(bif(decide (i=0)) then(decide (C=([101,108,115,101]:aa))) else false) then(au (py R (j,k,l,m,i,n,o,p,q) ([([102,105]:aa)]:bt) ([10,102,105]:aa)) λ(H,d)=>g (d.1,d.2.1,d.2.2.1,d.2.2.2.1,d.2.2.2.2.1,d.2.2.2.2.2.1,d.2.2.2.2.2.2.1,d.2.2.2.2.2.2.2.1,d.2.2.2.2.2.2.2.2)) else g (j,k,l,m,i,n,o,p,q))) λD=>(fixF (HU R D) bC (([101,108,105,102]:aa),x0.1,x0.2.1,x0.2.2.1,x0.2.2.2.1,x0.2.2.2.2.1,x0.2.2.2.2.2.1,x0.2.2.2.2.2.2.1,x0.2.2.2.2.2.2.2.1,x0.2.2.2.2.2.2.2.2))) else(bif(decide (h=([102,111,114]:aa))) then(au (Ev R x0) λ(e:ah)=>g (e.1,e.2.1,e.2.2.1,e.2.2.2.1,e.2.2.2.2.1,e.2.2.2.2.2.1,e.2.2.2.2.2.2.1,e.2.2.2.2.2.2.2.1,e.2.2.2.2.2.2.2.2)) else(bif(decide (h=([99,97,115,101]:aa))) then(au (Et R x0) λ(f:ah)=>g (f.1,f.2.1,f.2.2.1,f.2.2.2.1,f.2.2.2.2.1,f.2.2.2.2.2.1,f.2.2.2.2.2.2.1,f.2.2.2.2.2.2.2.1,f.2.2.2.2.2.2.2.2)) else g (x0.1,x0.2.1,x0.2.2.1,x0.2.2.2.1,x0.2.2.2.2.1,x0.2.2.2.2.2.1,x0.2.2.2.2.2.2.1,x0.2.2.2.2.2.2.2.1,x0.2.2.2.2.2.2.2.2)))))) λr=>(bif(decide (h=([119,104,105,108,101]:aa))) then r (decide (h=([119,104,105,108,101]:aa))) else r (decide (h=([117,110,116,105,108]:aa)))))))
theorem ahQ{R:bg}(a:h3 R){x0:ah}{b:aa}{a3:bK}{Q:bu}{r:ah}(h:B8 R x0 b=some r):
  gN Tryz.prog 127 [.pointer a3,.string (a9 b)] [] (eR a3 x0 Q) (λ_:bu=>True) (λq=> .tuple #[]) (λq=>eR a3 r q):=
 by
  refine V.jo (T:=ck) Tryz.call127 Tryz.func127 U λ_ _=>?_;unfold B8 at h;refine V.db ab 4 0 h (ρ:=bu) (λs q=>[]) .nil (λs q=>gO a3 s q) U ?_ ?_
  ·intro y _ h;refine V.co ab 5 0 h U (λh=>?_) (λh=>?_)
   ·refine V.go ab 2 0 U ?_;refine V.cl (aI.ky U (cL.buildSlice ab U U U U U U U U U U U [] U .str [([125]:aa)] ⟨U,U⟩ U U λe=>aI.kz (V.cz ?_)));refine V.cl (aI.freeze [0] U (V.cz ?_));refine V.bH ab 0 0 h (B6 a) [0,0,0] [0] U ?_;rintro⟨z,A⟩ f h
    try dsimp only at h
    exact V.zu ab 2 0 h f [1,2,0] [] U
   refine V.e6 ab 0 0 h (ρ:=Unit) (λs q=>[(0,.bj ⟨a3,1,1⟩ 0),(5,.v (.string (a9 b))),(11,.v (.bool s))]) .nil (λs q=>eR a3 x0 Q) U ?_ ?_
   ·intro B _ h;refine V.co ab 5 0 h U (λh=>?_) (λh=>?_)
    ·exact V.a6 ab 1 0 h () [0,1,2] U
    exact V.a6 ab 4 0 h () [0,1,2] U
   rintro C _ h;refine V.co ab 0 0 h U (λh=>?_) (λh=>?_)
   ·refine V.go ab 3 0 U ?_;refine V.cl (aI.ky U (cL.buildSlice ab U U U U U U U U U U U [] U .str [([100,111]:aa)] ⟨U,U⟩ U U λD=>aI.kz (V.cz ?_)));refine V.cl (aI.freeze [0] U (V.cz ?_));refine V.bH ab 0 0 h (B6 a) [0,0,0] [0] U ?_;rintro⟨E,F⟩ g h;refine V.co ab 9 1 h ⟨U,U,U,U⟩ (λh=>?_) (λh=>?_)
    ·refine V.go ab 2 0 U ?_;refine V.cl (aI.ky U (cL.buildSlice ab U U U U U U U U U U U [] U .str [([100,111,110,101]:aa)] ⟨U,U⟩ U U λi=>aI.kz (V.cz ?_)));refine V.cl (aI.freeze [0] U (V.cz ?_));refine V.bH ab 0 0 h (B6 a) [0,0,0] [0] U ?_;rintro⟨G,H⟩ j h
     try dsimp only at h
     exact V.zu ab 2 0 h j [1,2,0] [] U
    exact V.zu ab 2 0 h g [1,2,0] [] U
   refine V.co ab 5 0 h U (λh=>?_) (λh=>?_)
   ·refine V.db ab 5 0 h (ρ:=bu) (λs q=>[(0,.bj ⟨a3,1,1⟩ 0),(4,.v (.string (a9 s.1)))]) .nil (λs q=>gO a3 s.2 q) U ?_ ?_
    ·intro I _ h;refine V.e8 ab 0 0 h (ρ:=bu) (λs q=>[(0,.bj ⟨a3,1,1⟩ 0),(4,.v (.string (a9 s.1)))]) .nil (λs q=>gO a3 s.2 q) Q [1,2,0] U ?_;rintro k ⟨J,K,L,M,N,O,P,S,W,X⟩ l h;rw[HU] at h;refine V.co ab 13 2 h ⟨U,U,U,U⟩ (λh=>?_) (λh=>?_)
     ·refine V.db ab 1 0 h (ρ:=bu) (λs q=>[(0,.bj ⟨a3,1,1⟩ 0),(4,.v (.string (a9 s.1)))]) .nil (λs q=>gO a3 s.2 q) U ?_ ?_
      ·intro Y _ h;refine V.go ab 3 0 U ?_;refine V.cl (aI.ky U (cL.buildSlice ab U U U U U U U U U U U [] U .str [([116,104,101,110]:aa)] ⟨U,U⟩ U U λm=>aI.kz (V.cz ?_)));refine V.cl (aI.freeze [0] U (V.cz ?_));refine V.bH ab 0 0 h (B6 a) [2,0,0] [0] U ?_;rintro⟨Z,hQ⟩ n h;refine V.co ab 9 1 h ⟨U,U,U,U⟩ (λh=>?_) (λh=>?_)
       ·refine V.go ab 2 0 U ?_;refine V.cl (aI.ky U (cL.buildSlice ab U U U U U U U U U U U [] U .str [([101,108,105,102]:aa),([101,108,115,101]:aa),([102,105]:aa)] ⟨U,U⟩ U U λo=>aI.kz (V.cz ?_)));refine V.cl (aI.freeze [0] U (V.cz ?_));refine V.bH ab 0 0 h (B6 a) [0,0,0] [0] U ?_;rintro⟨ue,mZ⟩ p h
        try dsimp only at h
        exact V.zu ab 3 0 h p [1,2,0] [] U
       exact V.zu ab 2 0 h n [1,2,0] [] U
      rintro⟨jq,me,jZ,m0,l1,lT,ru,rp,pt,nj⟩ t h
      try dsimp only at h
      exact V.el ab 0 0 h t [0,1,2] U
     exact V.a6 ab 1 0 h l [0,1,2] U
    rintro⟨p8,pn,m1,pq,ps,B9,uv,po,qR,oB⟩ u h;refine V.co ab 12 2 h ⟨U,U,U,U⟩ (λh=>?_) (λh=>?_)
    ·refine V.go ab 2 0 U ?_;refine V.cl (aI.ky U (cL.buildSlice ab U U U U U U U U U U U [] U .str [([102,105]:aa)] ⟨U,U⟩ U U λv=>aI.kz (V.cz ?_)));refine V.cl (aI.freeze [0] U (V.cz ?_));refine V.bH ab 0 0 h (B6 a) [2,0,0] [0] U ?_;rintro⟨WU,uw⟩ w h
     try dsimp only at h
     exact V.zu ab 2 0 h w [1,2,0] [] U
    exact V.a6 ab 2 0 h u [0,1,2] U
   refine V.co ab 5 0 h U (λh=>?_) (λh=>?_)
   ·refine V.bH ab 2 0 h (ahN a) [0,0,0] [] U λkN x h=>?_;exact V.a6 ab 2 0 h x [1,2,0] U
   refine V.co ab 5 0 h U (λh=>?_) (λh=>?_)
   ·refine V.bH ab 2 0 h (ahH a) [0,0,0] [] U λwV c h=>?_;exact V.a6 ab 2 0 h c [1,2,0] U
   exact V.a6 ab 2 0 h Q [1,2,0] U
  rintro⟨td,ug,HP,HQ,yo,Ew,WS,WT,G3⟩ d h;cases h;exact V.jG ab 0 0 d [2,0,0] U
def z_(R:bg)(o:ah->Option ah)(p:ah->Option ah):ah->Option ah:=λ(c,d,e,f,a,g,h,i,j)=>
 (cP ((decide (a=0))=true) (gu (c,d,e,f,a,g,h,i,j)) false λ(l:Bool)=>(cP ((bif(decide (a=0)) then(!l) else false)=true) (hH (c,d,e,f,a,g,h,i,j)) [] λ(q:aa)=>(cP ((bif(decide (a=0)) then(!l) else false)=true) (vA q) false λ(m:Bool)=>(cP (m=false/\(bif(decide (a=0)) then(!l) else false)=true) (zZ (c,d,e,f,a,g,h,i,j)) false λ(r:Bool)=>(bif(bif(bif(decide (a=0)) then(!l) else false) then(bif m then true else r) else false) then(a8 (λ((s,t,u,v,w,x,y,z,A):ah)=>p (s,t,u,v,w,x,y,z,A)) λn=>(au (B1 R (c,d,e,f,a,g,h,i,j)) λ(k:ah)=>(bif(decide (k.2.2.2.2.1=0)) then(au (g6 k) λ(b:ah)=>n (b.1,b.2.1,b.2.2.1,k.2.2.2.1,b.2.2.2.2.1,b.2.2.2.2.2.1,b.2.2.2.2.2.2.1,k.2.2.2.2.2.2.2.1,b.2.2.2.2.2.2.2.2)) else n k))) else o (c,d,e,f,a,g,h,i,j))))))
def B_(R:bg)(x0:ah):Option ah:=
 (au (g6 x0) λ(a:ah)=>(a8 (λ((b,c,d,e,f,g,h,i,j):ah)=>some (b,c,d,e,f,g,h,i,j)) λk=>(fixF (z_ R k) bC (a.1,a.2.1,a.2.2.1,x0.2.2.2.1,a.2.2.2.2.1,a.2.2.2.2.2.1,a.2.2.2.2.2.2.1,x0.2.2.2.2.2.2.2.1,a.2.2.2.2.2.2.2.2))))
theorem ahT{R:bg}(d:h3 R){x0:ah}{a2:bK}{Q:bu}{r:ah}(h:B_ R x0=some r):
  gN Tryz.prog 128 [.pointer a2] [] (eR a2 x0 Q) (λ_:bu=>True) (λq=> .tuple #[]) (λq=>eR a2 r q):=
 by
  refine V.jo (T:=ck) Tryz.call128 Tryz.func128 U λ_ _=>?_;unfold B_ at h;refine V.bH ab 3 0 h oa [0] [] U λi _ h=>?_;refine V.db ab 1 0 h (ρ:=bu) (λs q=>[]) .nil (λs q=>gO a2 s q) U ?_ ?_
  ·intro j _ h;refine V.e8 ab 0 0 h (ρ:=bu) (λs q=>[(0,.bj ⟨a2,1,1⟩ 0)]) .nil (λs q=>gO a2 s q) Q [1,2,0] U ?_;rintro k ⟨l,m,n,o,p,t,u,v,w⟩ e h;rw[z_] at h;refine V.hg ab 10 2 h m6 [2] ⟨U,U,U,U⟩ (λ_=>id) λx h=>?_;refine V.hg ab 4 0 h oI [2] U (λ_=>id) λy h=>?_;refine V.hg ab 0 0 h Lf [] U (λ_=>id) λz h=>?_;refine V.hg ab 2 0 h WC [2] U (λ_ F a f=>F ⟨a,f⟩) λA h=>?_;refine V.co ab 3 0 h U (λh=>?_) (λh=>?_)
   ·refine V.db ab 1 0 h (ρ:=bu) (λs q=>[(0,.bj ⟨a2,1,1⟩ 0)]) .nil (λs q=>gO a2 s q) U ?_ ?_
    ·intro B _ h;refine V.bH ab 3 0 h (WK d) [2,0,0] [] U λC c h=>?_;refine V.co ab 9 0 h ⟨U,U,U,U⟩ (λh=>?_) (λh=>?_)
     ·refine V.bH ab 2 0 h oa [0] [] U λD _ h=>?_;exact V.a6 ab 2 0 h c [1,2,0] U
     exact V.a6 ab 2 0 h c [1,2,0] U
    rintro⟨E,G,H,I,J,K,L,M,N⟩ g h
    try dsimp only at h
    exact V.el ab 0 0 h g [0,1,2] U
   exact V.a6 ab 1 0 h e [0,1,2] U
  rintro⟨O,P,S,W,X,Y,Z,vn,yn⟩ b h;cases h;exact V.jG ab 0 0 b [2,0,0] U
def yr(R:bg)(x0:ah):Option ah:=
 (au (yk x0 x0.2.1) λ(f,a)=>(bif(!f) then some (a.1,a.2.1,a.2.2.1,x0.2.2.2.1,a.2.2.2.2.1,a.2.2.2.2.2.1,a.2.2.2.2.2.2.1,x0.2.2.2.2.2.2.2.1,a.2.2.2.2.2.2.2.2) else(a8 (λ((g,h,i,j,k,l,m,n,o,p):aa×ah)=>(au (gv (h,i,j,k,l,m,n,o,p) g ([])) λ(b:ah)=>(bif(decide (b.2.2.2.2.1=0)) then(au (B_ R (b.1,b.2.1,(W (b.2.2.1-1)),b.2.2.2)) λ(q:ah)=>some q) else some (b.1,b.2.1,(W (b.2.2.1-1)),b.2.2.2)))) λe=>(au (hH (a.1,a.2.1,a.2.2.1,x0.2.2.2.1,a.2.2.2.2.1,a.2.2.2.2.2.1,a.2.2.2.2.2.2.1,x0.2.2.2.2.2.2.2.1,a.2.2.2.2.2.2.2.2)) λ(r:aa)=>(bif(decide (r=([40]:aa))) then(au (R.nI (a.1,(W (a.2.1+1)),a.2.2.1,x0.2.2.2.1,a.2.2.2.2.1,a.2.2.2.2.2.1,a.2.2.2.2.2.2.1,x0.2.2.2.2.2.2.2.1,a.2.2.2.2.2.2.2.2) ([41]:aa) ([]:bt) true) λ(u,s)=>(au (gv s ([]) ([41]:aa)) λ(c:ah)=>e (([40]:aa),c.1,(W (c.2.1+1)),c.2.2))) else(au (lD (a.1,a.2.1,a.2.2.1,x0.2.2.2.1,a.2.2.2.2.1,a.2.2.2.2.2.1,a.2.2.2.2.2.2.1,x0.2.2.2.2.2.2.2.1,a.2.2.2.2.2.2.2.2)) λ(d:aa)=>(au (B8 R (a.1,(W (a.2.1+(d.length:Int))),a.2.2.1,x0.2.2.2.1,a.2.2.2.2.1,a.2.2.2.2.2.1,a.2.2.2.2.2.2.1,x0.2.2.2.2.2.2.2.1,a.2.2.2.2.2.2.2.2) d) λ(t:ah)=>e (d,t))))))))
theorem WV{R:bg}(a:h3 R){x0:ah}{a2:bK}{Q:bu}{r:ah}(h:yr R x0=some r):
  gN Tryz.prog 98 [.pointer a2] [] (eR a2 x0 Q) (λ_:bu=>True) (λq=> .tuple #[]) (λq=>eR a2 r q):=
 by
  refine V.jo (T:=ck) Tryz.call98 Tryz.func98 U λ_ _=>?_;unfold yr at h;refine V.bH ab 8 0 h QN [0] [] ⟨U,U,U,U⟩ ?_;rintro⟨f,g⟩ _ h;refine V.co ab 2 0 h U (λh=>?_) (λh=>?_)
  ·cases h;exact V.rx ab 0 0 Q [0,0,0] U
  refine V.e6 ab 5 0 h (ρ:=bu) (λs q=>[(0,.bj ⟨a2,1,1⟩ 0),(2,.v (.string (a9 s.1)))]) .nil (λs q=>gO a2 s.2 q) U ?_ ?_
  ·intro i _ h;refine V.cM ab 3 0 h oI [0] U λj _ h=>?_;refine V.co ab 2 0 h U (λh=>?_) (λh=>?_)
   ·refine V.go ab 14 0 ⟨U,U,U,U,U,U,U⟩ ?_;refine V.cl (aI.J4 .str bz.nil U U (V.cz ?_));refine V.bH ab 0 0 h a.nI [0,0,0] [0] U ?_;rintro⟨k,l⟩ m h;refine V.bH ab 4 0 h qP [0,0,0] [] U λn b h=>?_;exact V.zu ab 11 1 h b [1,2,0] [] ⟨U,U,U,U,U,U,U⟩
   refine V.cM ab 3 0 h wQ [0] U λo _ h=>?_;refine V.bH ab 19 0 h (ahQ a) [0,0,0] [] ⟨U,U,U,U,U,U,U⟩ λp c h=>?_;exact V.a6 ab 1 0 h c [1,2,0] U
  rintro⟨t,u,v,w,x,y,z,A,B,C⟩ D h;refine V.bH ab 4 0 h qP [2,0,0] [] U λE d h=>?_;refine V.co ab 20 0 h ⟨U,U,U,U,U,U,U,U,U,U⟩ (λh=>?_) (λh=>?_)
  ·refine V.bH ab 2 0 h (ahT a) [0,0,0] [] U λF e h=>?_;cases h;exact V.jG ab 1 0 e [0,0,0] U
  cases h;exact V.jG ab 1 0 d [0,0,0] U
def Ex(R:bg)(x0:ah):Option ah:=
 (bif(decide (28<x0.2.2.1)) then(au (hr x0 x0.2.1) λ(c:ah)=>some (c.1,c.2.1,c.2.2.1,x0.2.2.2.1,c.2.2.2.2.1,c.2.2.2.2.2.1,c.2.2.2.2.2.2.1,x0.2.2.2.2.2.2.2.1,c.2.2.2.2.2.2.2.2)) else(au (g6 (x0.1,(W (x0.2.1+1)),(W (x0.2.2.1+1)),x0.2.2.2)) λ(a:ah)=>(a8 (λ((i,j,k,l,m,n,o,p,q):ah)=>(au (gv (i,j,k,l,m,n,o,p,q) ([102,40,41]:aa) ([])) λ(g:ah)=>some (g.1,g.2.1,(W (g.2.2.1-1)),g.2.2.2))) λf=>(au (gu (a.1,a.2.1,a.2.2.1,x0.2.2.2.1,a.2.2.2.2.1,a.2.2.2.2.2.1,a.2.2.2.2.2.2.1,x0.2.2.2.2.2.2.2.1,a.2.2.2.2.2.2.2.2)) λ(r:Bool)=>(bif r then(au (g7 (a.1,a.2.1,a.2.2.1,x0.2.2.2.1,a.2.2.2.2.1,a.2.2.2.2.2.1,a.2.2.2.2.2.2.1,x0.2.2.2.2.2.2.2.1,a.2.2.2.2.2.2.2.2) ([41,32,123,32,120,10,125]:aa)) λ(s:ah)=>f s) else(au (hH (a.1,a.2.1,a.2.2.1,x0.2.2.2.1,a.2.2.2.2.1,a.2.2.2.2.2.1,a.2.2.2.2.2.2.1,x0.2.2.2.2.2.2.2.1,a.2.2.2.2.2.2.2.2)) λ(t:aa)=>(bif(!(decide (t=([41]:aa)))) then(au (hr (a.1,a.2.1,a.2.2.1,x0.2.2.2.1,a.2.2.2.2.1,a.2.2.2.2.2.1,a.2.2.2.2.2.2.1,x0.2.2.2.2.2.2.2.1,a.2.2.2.2.2.2.2.2) a.2.1) λ(d:ah)=>f (d.1,d.2.1,d.2.2.1,x0.2.2.2.1,d.2.2.2.2.1,d.2.2.2.2.2.1,d.2.2.2.2.2.2.1,x0.2.2.2.2.2.2.2.1,d.2.2.2.2.2.2.2.2)) else(au (oc (a.1,(W (a.2.1+1)),a.2.2.1,x0.2.2.2.1,a.2.2.2.2.1,a.2.2.2.2.2.1,a.2.2.2.2.2.2.1,x0.2.2.2.2.2.2.2.1,a.2.2.2.2.2.2.2.2)) λ(b:ah)=>(bif(!(decide (b.2.2.2.2.1=0))) then(au (gv b ([]) ([123,32,120,10,125]:aa)) λ(u:ah)=>f u) else(au (gu b) λ(v:Bool)=>(bif v then(au (g7 b ([123,32,120,10,125]:aa)) λ(w:ah)=>f w) else(au (hH b) λ(h:aa)=>(cP ((decide (h=([40]:aa)))=false) (lD b) [] λ(x:aa)=>(cP ((decide (h=([40]:aa)))=false) (yi x) false λ(y:Bool)=>(bif(bif(decide (h=([40]:aa))) then true else y) then(au (yr R b) λ(z:ah)=>f z) else(au (hr b b.2.1) λ(e:ah)=>f (e.1,e.2.1,e.2.2.1,b.2.2.2.1,e.2.2.2.2.1,e.2.2.2.2.2.1,e.2.2.2.2.2.2.1,b.2.2.2.2.2.2.2.1,e.2.2.2.2.2.2.2.2)))))))))))))))))
theorem ahW{R:bg}(a:h3 R){x0:ah}{a2:bK}{Q:bu}{r:ah}(h:Ex R x0=some r):
  gN Tryz.prog 129 [.pointer a2] [] (eR a2 x0 Q) (λ_:bu=>True) (λq=> .tuple #[]) (λq=>eR a2 r q):=
 by
  refine V.jo (T:=ck) Tryz.call129 Tryz.func129 U λ_ _=>?_;unfold Ex at h;refine V.co ab 9 0 h ⟨U,U,U,U⟩ (λh=>?_) (λh=>?_)
  ·refine V.bH ab 7 0 h px [0] [] ⟨U,U,U,U⟩ λi _ h=>?_;cases h;exact V.rx ab 1 0 Q [0,0,0] U
  refine V.bH ab 26 0 h oa [0] [] ⟨U,U,U,U,U,U,U,U,U,U,U,U,U⟩ λj _ h=>?_;refine V.e6 ab 1 0 h (ρ:=bu) (λs q=>[(0,.bj ⟨a2,1,1⟩ 0)]) .nil (λs q=>gO a2 s q) U ?_ ?_
  ·intro k _ h;refine V.cM ab 3 0 h m6 [0] U λl _ h=>?_;refine V.co ab 1 0 h U (λh=>?_) (λh=>?_)
   ·refine V.bH ab 2 0 h pw [0,0,0] [] U λm b h=>?_;exact V.a6 ab 1 0 h b [1,2,0] U
   refine V.cM ab 3 0 h oI [0] U λn _ h=>?_;refine V.co ab 2 0 h U (λh=>?_) (λh=>?_)
   ·refine V.bH ab 6 0 h px [0] [] ⟨U,U,U,U⟩ λo _ h=>?_;exact V.a6 ab 1 0 h Q [1,2,0] U
   refine V.bH ab 14 0 h B2 [0,0,0] [] ⟨U,U,U,U,U,U,U⟩ λp c h=>?_;refine V.co ab 9 0 h ⟨U,U,U,U⟩ (λh=>?_) (λh=>?_)
   ·refine V.bH ab 2 0 h qP [0,0,0] [] U λt d h=>?_;exact V.a6 ab 1 0 h d [1,2,0] U
   refine V.cM ab 3 0 h m6 [0] U λu _ h=>?_;refine V.co ab 1 0 h U (λh=>?_) (λh=>?_)
   ·refine V.bH ab 2 0 h pw [0,0,0] [] U λv e h=>?_;exact V.a6 ab 1 0 h e [1,2,0] U
   refine V.cM ab 3 0 h oI [0] U λw _ h=>?_;refine V.hg ab 3 0 h wQ [0] U (λ_=>id) λx h=>?_;refine V.hg ab 0 0 h WB [] U (λ_=>id) λy h=>?_;refine V.co ab 2 0 h U (λh=>?_) (λh=>?_)
   ·refine V.bH ab 2 0 h (WV a) [0,0,0] [] U λz f h=>?_;exact V.a6 ab 1 0 h f [1,2,0] U
   refine V.bH ab 6 0 h px [0] [] ⟨U,U,U,U⟩ λA _ h=>?_;exact V.a6 ab 1 0 h c [1,2,0] U
  rintro⟨B,C,D,E,F,G,H,I,J⟩ K h;refine V.bH ab 3 0 h qP [2,0,0] [] U λL g h=>?_;cases h;exact V.jG ab 11 0 g [0,0,0] ⟨U,U,U,U,U,U,U⟩
def HV(R:bg)(v:ah->Option ah)(e:(Int×Int×Bool×ah)->Option ah):(Int×Int×Bool×ah)->Option ah:=λ(f,g,j,k,l,m,b,h,n,o,c,p)=>
 (bif(decide (h=0)) then(au (g6 (k,l,m,b,h,n,o,c,p)) λ(a:ah)=>(au (gu (a.1,a.2.1,a.2.2.1,b,a.2.2.2.2.1,a.2.2.2.2.2.1,a.2.2.2.2.2.2.1,c,a.2.2.2.2.2.2.2.2)) λ(q:Bool)=>(cP (q=false) (ie (a.1,a.2.1,a.2.2.1,b,a.2.2.2.2.1,a.2.2.2.2.2.1,a.2.2.2.2.2.2.1,c,a.2.2.2.2.2.2.2.2)) (0:UInt8) λ(w:UInt8)=>(bif(bif q then true else(decide ((w.toNat:Int)=(10:Int)))) then some (a.1,a.2.1,a.2.2.1,b,a.2.2.2.2.1,a.2.2.2.2.2.1,a.2.2.2.2.2.2.1,c,a.2.2.2.2.2.2.2.2) else(au (hH (a.1,a.2.1,a.2.2.1,b,a.2.2.2.2.1,a.2.2.2.2.2.1,a.2.2.2.2.2.2.1,c,a.2.2.2.2.2.2.2.2)) λ(i:aa)=>(a8 (λ((x,y,z,A,B,C,D,E,F,G,H,I):Int×Int×Bool×ah)=>e (x,y,z,A,B,C,D,E,F,G,H,I)) λr=>(bif(decide (i=([40]:aa))) then(a8 (λ((J,K,L,M,N,O,P,Q,S):ah)=>some (J,K,L,M,N,O,P,Q,S)) λs=>(bif(bif(bif(decide (f=1)) then(decide (g=0)) else false) then j else false) then(au (Ex R (a.1,a.2.1,a.2.2.1,b,a.2.2.2.2.1,a.2.2.2.2.2.1,a.2.2.2.2.2.2.1,c,a.2.2.2.2.2.2.2.2)) λ(T:ah)=>s T) else(au (hr (a.1,a.2.1,a.2.2.1,b,a.2.2.2.2.1,a.2.2.2.2.2.1,a.2.2.2.2.2.2.1,c,a.2.2.2.2.2.2.2.2) a.2.1) λ(d:ah)=>s (d.1,d.2.1,d.2.2.1,b,d.2.2.2.2.1,d.2.2.2.2.2.1,d.2.2.2.2.2.2.1,c,d.2.2.2.2.2.2.2.2)))) else(au (vA i) λ(t:Bool)=>(cP (t=false) (zZ (a.1,a.2.1,a.2.2.1,b,a.2.2.2.2.1,a.2.2.2.2.2.1,a.2.2.2.2.2.2.1,c,a.2.2.2.2.2.2.2.2)) false λ(U:Bool)=>(bif(bif t then true else U) then(au (B1 R (a.1,a.2.1,a.2.2.1,b,a.2.2.2.2.1,a.2.2.2.2.2.1,a.2.2.2.2.2.2.1,c,a.2.2.2.2.2.2.2.2)) λ(V:ah)=>r (f,(W (g+1)),j,V)) else(bif(!(decide (i=[]))) then some (a.1,a.2.1,a.2.2.1,b,a.2.2.2.2.1,a.2.2.2.2.2.1,a.2.2.2.2.2.2.1,c,a.2.2.2.2.2.2.2.2) else(au (p_ R (a.1,a.2.1,a.2.2.1,b,a.2.2.2.2.1,a.2.2.2.2.2.1,a.2.2.2.2.2.2.1,c,a.2.2.2.2.2.2.2.2)) λ(X,u,Y)=>(cP (u=true) (z6 X) false λ(Z:Bool)=>r ((W (f+1)),g,(bif u then Z else false),Y)))))))))))))) else v (k,l,m,b,h,n,o,c,p))
def QZ(R:bg)(x0:ah):Option ah:=
 (a8 (λ((a,b,c,d,e,f,g,h,i):ah)=>some (a,b,c,d,e,f,g,h,i)) λj=>(fixF (HV R j) bC (0,0,false,x0.1,x0.2.1,x0.2.2.1,x0.2.2.2.1,x0.2.2.2.2.1,x0.2.2.2.2.2.1,x0.2.2.2.2.2.2.1,x0.2.2.2.2.2.2.2.1,x0.2.2.2.2.2.2.2.2)))
theorem ahY{R:bg}(b:h3 R){x0:ah}{a2:bK}{Q:bu}{r:ah}(h:QZ R x0=some r):
  gN Tryz.prog 101 [.pointer a2] [] (eR a2 x0 Q) (λ_:bu=>True) (λq=> .tuple #[]) (λq=>eR a2 r q):=
 by
  refine V.jo (T:=ck) Tryz.call101 Tryz.func101 U λ_ _=>?_;unfold QZ at h;refine V.db ab 12 0 h (ρ:=bu) (λs q=>[]) .nil (λs q=>gO a2 s q) U ?_ ?_
  ·intro k _ h;refine V.e8 ab 0 0 h (ρ:=bu) (λs q=>[(0,.bj ⟨a2,1,1⟩ 0),(2,.v (.int .i64 s.1)),(3,.v (.int .i64 s.2.1)),(4,.v (.bool s.2.2.1))]) .nil (λs q=>gO a2 s.2.2.2 q) Q [1,2,0] U ?_;rintro e ⟨l,m,n,o,p,t,u,v,w,x,y,z⟩ a h;rw[HV] at h;refine V.co ab 9 2 h ⟨U,U,U,U⟩ (λh=>?_) (λh=>?_)
   ·refine V.bH ab 5 0 h oa [2] [] U λA _ h=>?_;refine V.cM ab 5 0 h m6 [0] U λB _ h=>?_;refine V.hg ab 2 0 h ob [0] U (λ_=>id) λC h=>?_;refine V.co ab 3 0 h U (λh=>?_) (λh=>?_)
    ·cases h;exact V.rx ab 0 0 a [0,0,0] U
    refine V.cM ab 4 0 h oI [0] U λD _ h=>?_;refine V.db ab 2 0 h (ρ:=bu) (λs q=>[(0,.bj ⟨a2,1,1⟩ 0),(2,.v (.int .i64 s.1)),(3,.v (.int .i64 s.2.1)),(4,.v (.bool s.2.2.1))]) .nil (λs q=>gO a2 s.2.2.2 q) U ?_ ?_
    ·intro E _ h;refine V.co ab 6 0 h U (λh=>?_) (λh=>?_)
     ·refine V.e6 ab 0 0 h (ρ:=bu) (λs q=>[]) .nil (λs q=>gO a2 s q) U ?_ ?_
      ·intro F _ h;refine V.co ab 12 0 h U (λh=>?_) (λh=>?_)
       ·refine V.bH ab 2 0 h (ahW b) [0,0,0] [] U λG f h=>?_;exact V.a6 ab 1 0 h f [1,2,0] U
       refine V.bH ab 6 0 h px [0] [] ⟨U,U,U,U⟩ λH _ h=>?_;exact V.a6 ab 1 0 h a [1,2,0] U
      rintro⟨I,J,K,L,M,N,O,P,S⟩ g h;cases h;exact V.rx ab 0 0 g [2,0,0] U
     refine V.cM ab 3 0 h Lf [] U λW _ h=>?_;refine V.hg ab 2 0 h WC [0] U (λ_=>id) λX h=>?_;refine V.co ab 3 0 h U (λh=>?_) (λh=>?_)
     ·refine V.bH ab 3 0 h (WK b) [0,0,0] [] U λY i h=>?_;exact V.a6 ab 7 0 h i [1,2,0] U
     refine V.co ab 6 0 h U (λh=>?_) (λh=>?_)
     ·cases h;exact V.rx ab 0 0 a [0,0,0] U
     refine V.bH ab 3 0 h (Eo b) [0,0,0] [] U ?_;rintro⟨Z,iK,nN⟩ j h;refine V.hg ab 11 0 h WI [] U (λ_=>id) λko h=>?_
     try dsimp only at h
     exact V.a6 ab 9 0 h j [1,2,0] U
    rintro⟨nj,rq,yn,ud,sb,vv,ur,iM,vB,p8,pn,ps⟩ c h
    try dsimp only at h
    exact V.el ab 1 0 h c [0,1,2] U
   exact V.a6 ab 1 0 h a [0,1,2] U
  rintro⟨zL,HW,WW,WX,qG,z3,Em,yd,oF⟩ d h;cases h;exact V.jG ab 0 0 d [2,0,0] U
def sm(R:bg)(x0:ah):Option ah:=
 (au (g6 x0) λ(a:ah)=>(au (gu (a.1,a.2.1,a.2.2.1,x0.2.2.2.1,a.2.2.2.2.1,a.2.2.2.2.2.1,a.2.2.2.2.2.2.1,x0.2.2.2.2.2.2.2.1,a.2.2.2.2.2.2.2.2)) λ(g:Bool)=>(bif g then(au (g7 (a.1,a.2.1,a.2.2.1,x0.2.2.2.1,a.2.2.2.2.1,a.2.2.2.2.2.1,a.2.2.2.2.2.2.1,x0.2.2.2.2.2.2.2.1,a.2.2.2.2.2.2.2.2) ([120]:aa)) λ(h:ah)=>some h) else(au (hH (a.1,a.2.1,a.2.2.1,x0.2.2.2.1,a.2.2.2.2.1,a.2.2.2.2.2.1,a.2.2.2.2.2.2.1,x0.2.2.2.2.2.2.2.1,a.2.2.2.2.2.2.2.2)) λ(c:aa)=>(au (lD (a.1,a.2.1,a.2.2.1,x0.2.2.2.1,a.2.2.2.2.1,a.2.2.2.2.2.1,a.2.2.2.2.2.2.1,x0.2.2.2.2.2.2.2.1,a.2.2.2.2.2.2.2.2)) λ(y23:aa)=>(a8 (λ((i,j,k,l,m,n,o,p,q):ah)=>some (i,j,k,l,m,n,o,p,q)) λd=>(cP ((decide (c=([40]:aa)))=false) (yi y23) false λ(r:Bool)=>(bif(bif(decide (c=([40]:aa))) then true else r) then(au (yr R (a.1,a.2.1,a.2.2.1,x0.2.2.2.1,a.2.2.2.2.1,a.2.2.2.2.2.1,a.2.2.2.2.2.2.1,x0.2.2.2.2.2.2.2.1,a.2.2.2.2.2.2.2.2)) λ(s:ah)=>d s) else(au (ie (a.1,a.2.1,a.2.2.1,x0.2.2.2.1,a.2.2.2.2.1,a.2.2.2.2.2.1,a.2.2.2.2.2.2.1,x0.2.2.2.2.2.2.2.1,a.2.2.2.2.2.2.2.2)) λ(e:UInt8)=>(cP ((!(decide (c=[])))=true/\(decide ((e.toNat:Int)=(10:Int)))=false) (vA c) false λ(f:Bool)=>(cP ((bif(decide ((e.toNat:Int)=(10:Int))) then true else(bif(!(decide (c=[]))) then(!f) else false))=false) (Eh y23) false λ(t:Bool)=>(bif(bif(bif(decide ((e.toNat:Int)=(10:Int))) then true else(bif(!(decide (c=[]))) then(!f) else false)) then true else t) then(au (hr (a.1,a.2.1,a.2.2.1,x0.2.2.2.1,a.2.2.2.2.1,a.2.2.2.2.2.1,a.2.2.2.2.2.2.1,x0.2.2.2.2.2.2.2.1,a.2.2.2.2.2.2.2.2) a.2.1) λ(b:ah)=>d (b.1,b.2.1,b.2.2.1,x0.2.2.2.1,b.2.2.2.2.1,b.2.2.2.2.2.1,b.2.2.2.2.2.2.1,x0.2.2.2.2.2.2.2.1,b.2.2.2.2.2.2.2.2)) else(au (QZ R (a.1,a.2.1,a.2.2.1,x0.2.2.2.1,a.2.2.2.2.1,a.2.2.2.2.2.1,a.2.2.2.2.2.2.1,x0.2.2.2.2.2.2.2.1,a.2.2.2.2.2.2.2.2)) λ(u:ah)=>d u)))))))))))))
theorem WY{R:bg}(a:h3 R){x0:ah}{a2:bK}{Q:bu}{r:ah}(h:sm R x0=some r):
  gN Tryz.prog 80 [.pointer a2] [] (eR a2 x0 Q) (λ_:bu=>True) (λq=> .tuple #[]) (λq=>eR a2 r q):=
 by
  refine V.jo (T:=ck) Tryz.call80 Tryz.func80 U λ_ _=>?_;unfold sm at h;refine V.bH ab 3 0 h oa [0] [] U λi _ h=>?_;refine V.cM ab 5 0 h m6 [0] U λj _ h=>?_;refine V.co ab 1 0 h U (λh=>?_) (λh=>?_)
  ·refine V.bH ab 3 0 h pw [0,0,0] [] U λk b h=>?_;cases h;exact V.rx ab 1 0 b [0,0,0] U
  refine V.cM ab 4 0 h oI [0] U λl _ h=>?_;refine V.cM ab 5 0 h wQ [0] U λy23 _ h=>?_;refine V.db ab 2 0 h (ρ:=bu) (λs q=>[]) .nil (λs q=>gO a2 s q) U ?_ ?_
  ·intro m _ h;refine V.hg ab 6 0 h WB [] U (λ_=>id) λn h=>?_;refine V.co ab 3 0 h U (λh=>?_) (λh=>?_)
   ·refine V.bH ab 2 0 h (WV a) [0,0,0] [] U λo c h=>?_;exact V.a6 ab 2 0 h c [1,2,0] U
   refine V.cM ab 3 0 h ob [0] U λp _ h=>?_;refine V.hg ab 6 0 h Lf [] U (λ_ F d e=>F ⟨d,e⟩) λt h=>?_;refine V.hg ab 5 0 h ag_ [] U (λ_=>id) λu h=>?_;refine V.co ab 3 0 h U (λh=>?_) (λh=>?_)
   ·refine V.bH ab 6 0 h px [0] [] ⟨U,U,U,U⟩ λv _ h=>?_;exact V.a6 ab 2 0 h Q [1,2,0] U
   refine V.bH ab 2 0 h (ahY a) [0,0,0] [] U λw f h=>?_;exact V.a6 ab 2 0 h f [1,2,0] U
  rintro⟨x,y,z,A,B,C,D,E,G⟩ g h;cases h;exact V.jG ab 0 0 g [2,0,0] U
def WZ(R:bg)(l:ah->Option ah)(m:ah->Option ah):ah->Option ah:=λ(f,g,h,b,d,i,j,c,k)=>
 (bif(decide (d=0)) then(au (g6 (f,g,h,b,d,i,j,c,k)) λ(a:ah)=>(au (hH (a.1,a.2.1,a.2.2.1,b,a.2.2.2.2.1,a.2.2.2.2.2.1,a.2.2.2.2.2.2.1,c,a.2.2.2.2.2.2.2.2)) λ(n:aa)=>(bif(!(decide (n=([124]:aa)))) then some (a.1,a.2.1,a.2.2.1,b,a.2.2.2.2.1,a.2.2.2.2.2.1,a.2.2.2.2.2.2.1,c,a.2.2.2.2.2.2.2.2) else(au (oc (a.1,(W (a.2.1+1)),a.2.2.1,b,a.2.2.2.2.1,a.2.2.2.2.2.1,a.2.2.2.2.2.2.1,c,a.2.2.2.2.2.2.2.2)) λ(e:ah)=>(bif(!(decide (e.2.2.2.2.1=0))) then(au (gv e ([]) ([120]:aa)) λ(o:ah)=>some o) else(au (sm R e) λ(p:ah)=>m p)))))) else l (f,g,h,b,d,i,j,c,k))
def wW(R:bg)(x0:ah):Option ah:=
 (au (g6 x0) λ(a:ah)=>(a8 (λ(d:Int)=>(au (sm R (a.1,d,a.2.2.1,x0.2.2.2.1,a.2.2.2.2.1,a.2.2.2.2.2.1,a.2.2.2.2.2.2.1,x0.2.2.2.2.2.2.2.1,a.2.2.2.2.2.2.2.2)) λ(b:ah)=>(a8 (λ((e,f,g,h,i,j,k,l,m):ah)=>some (e,f,g,h,i,j,k,l,m)) λn=>(fixF (WZ R n) bC (b.1,b.2.1,b.2.2.1,b.2.2.2.1,b.2.2.2.2.1,b.2.2.2.2.2.1,b.2.2.2.2.2.2.1,b.2.2.2.2.2.2.2.1,b.2.2.2.2.2.2.2.2))))) λc=>(au (lD (a.1,a.2.1,a.2.2.1,x0.2.2.2.1,a.2.2.2.2.1,a.2.2.2.2.2.1,a.2.2.2.2.2.2.1,x0.2.2.2.2.2.2.2.1,a.2.2.2.2.2.2.2.2)) λ(o:aa)=>(bif(decide (o=([33]:aa))) then c (W (a.2.1+1)) else c a.2.1))))
theorem W0{R:bg}(b:h3 R){x0:ah}{a2:bK}{Q:bu}{r:ah}(h:wW R x0=some r):
  gN Tryz.prog 68 [.pointer a2] [] (eR a2 x0 Q) (λ_:bu=>True) (λq=> .tuple #[]) (λq=>eR a2 r q):=
 by
  refine V.jo (T:=ck) Tryz.call68 Tryz.func68 U λ_ _=>?_;unfold wW at h;refine V.bH ab 3 0 h oa [0] [] U λa _ h=>?_;refine V.e6 ab 1 0 h (ρ:=Unit) (λs q=>[(0,.bj ⟨a2,1,1⟩ 0)]) .nil (λs q=>eR a2 (a.1,s,a.2.2.1,x0.2.2.2.1,a.2.2.2.2.1,a.2.2.2.2.2.1,a.2.2.2.2.2.2.1,x0.2.2.2.2.2.2.2.1,a.2.2.2.2.2.2.2.2) Q) U ?_ ?_
  ·intro i _ h;refine V.cM ab 3 0 h wQ [0] U λj _ h=>?_;refine V.co ab 2 0 h U (λh=>?_) (λh=>?_)
   ·exact V.a6 ab 10 0 h () [0,1,2] ⟨U,U,U,U,U,U,U⟩
   exact V.a6 ab 1 0 h () [0,1,2] U
  rintro k _ h;refine V.bH ab 3 0 h (WY b) [0,0,0] [] U λl d h=>?_;refine V.db ab 1 0 h (ρ:=bu) (λs q=>[]) .nil (λs q=>gO a2 s q) U ?_ ?_
  ·intro m _ h;refine V.e8 ab 0 0 h (ρ:=bu) (λs q=>[(0,.bj ⟨a2,1,1⟩ 0)]) .nil (λs q=>gO a2 s q) d [1,2,0] U ?_;rintro n ⟨o,p,t,u,v,w,x,y,z⟩ c h;rw[WZ] at h;refine V.co ab 9 2 h ⟨U,U,U,U⟩ (λh=>?_) (λh=>?_)
   ·refine V.bH ab 5 0 h oa [2] [] U λA _ h=>?_;refine V.cM ab 5 0 h oI [0] U λB _ h=>?_;refine V.co ab 2 0 h U (λh=>?_) (λh=>?_)
    ·cases h;exact V.rx ab 0 0 c [0,0,0] U
    refine V.bH ab 15 0 h B2 [0,0,0] [] ⟨U,U,U,U,U,U,U⟩ λC D h=>?_;refine V.co ab 10 0 h ⟨U,U,U,U⟩ (λh=>?_) (λh=>?_)
    ·refine V.bH ab 3 0 h qP [0,0,0] [] U λE e h=>?_;cases h;exact V.rx ab 1 0 e [0,0,0] U
    refine V.bH ab 3 0 h (WY b) [0,0,0] [] U λF f h=>?_;exact V.el ab 2 0 h f [1,2,0] U
   exact V.a6 ab 1 0 h c [0,1,2] U
  rintro⟨G,H,I,J,K,L,M,N,O⟩ g h;cases h;exact V.jG ab 0 0 g [2,0,0] U
def W1(R:bg)(m:ah->Option ah)(n:ah->Option ah):ah->Option ah:=λ(f,g,h,b,d,i,j,c,k)=>
 (bif(decide (d=0)) then(au (g6 (f,g,h,b,d,i,j,c,k)) λ(a:ah)=>(au (hH (a.1,a.2.1,a.2.2.1,b,a.2.2.2.2.1,a.2.2.2.2.2.1,a.2.2.2.2.2.2.1,c,a.2.2.2.2.2.2.2.2)) λ(l:aa)=>(bif(bif(!(decide (l=([38,38]:aa)))) then(!(decide (l=([124,124]:aa)))) else false) then some (a.1,a.2.1,a.2.2.1,b,a.2.2.2.2.1,a.2.2.2.2.2.1,a.2.2.2.2.2.2.1,c,a.2.2.2.2.2.2.2.2) else(au (oc (a.1,(W (a.2.1+2)),a.2.2.1,b,a.2.2.2.2.1,a.2.2.2.2.2.1,a.2.2.2.2.2.2.1,c,a.2.2.2.2.2.2.2.2)) λ(e:ah)=>(bif(!(decide (e.2.2.2.2.1=0))) then(au (gv e ([]) ([120]:aa)) λ(o:ah)=>some o) else(au (wW R e) λ(p:ah)=>n p)))))) else m (f,g,h,b,d,i,j,c,k))
def Ez(R:bg)(x0:ah):Option ah:=
 (au (wW R x0) λ(a:ah)=>(a8 (λ((b,c,d,e,f,g,h,i,j):ah)=>some (b,c,d,e,f,g,h,i,j)) λk=>(fixF (W1 R k) bC (a.1,a.2.1,a.2.2.1,a.2.2.2.1,a.2.2.2.2.1,a.2.2.2.2.2.1,a.2.2.2.2.2.2.1,a.2.2.2.2.2.2.2.1,a.2.2.2.2.2.2.2.2))))
theorem ah1{R:bg}(a:h3 R){x0:ah}{a2:bK}{Q:bu}{r:ah}(h:Ez R x0=some r):
  gN Tryz.prog 51 [.pointer a2] [] (eR a2 x0 Q) (λ_:bu=>True) (λq=> .tuple #[]) (λq=>eR a2 r q):=
 by
  refine V.jo (T:=ck) Tryz.call51 Tryz.func51 U λ_ _=>?_;unfold Ez at h;refine V.bH ab 3 0 h (W0 a) [0,0,0] [] U λg c h=>?_;refine V.db ab 1 0 h (ρ:=bu) (λs q=>[]) .nil (λs q=>gO a2 s q) U ?_ ?_
  ·intro i _ h;refine V.e8 ab 0 0 h (ρ:=bu) (λs q=>[(0,.bj ⟨a2,1,1⟩ 0)]) .nil (λs q=>gO a2 s q) c [1,2,0] U ?_;rintro j ⟨k,l,m,n,o,p,t,u,v⟩ b h;rw[W1] at h;refine V.co ab 9 2 h ⟨U,U,U,U⟩ (λh=>?_) (λh=>?_)
   ·refine V.bH ab 5 0 h oa [2] [] U λw _ h=>?_;refine V.cM ab 4 0 h oI [0] U λx _ h=>?_;refine V.co ab 12 0 h U (λh=>?_) (λh=>?_)
    ·cases h;exact V.rx ab 0 0 b [0,0,0] U
    refine V.bH ab 16 0 h B2 [0,0,0] [] ⟨U,U,U,U,U,U,U⟩ λy z h=>?_;refine V.co ab 10 0 h ⟨U,U,U,U⟩ (λh=>?_) (λh=>?_)
    ·refine V.bH ab 3 0 h qP [0,0,0] [] U λA d h=>?_;cases h;exact V.rx ab 1 0 d [0,0,0] U
    refine V.bH ab 3 0 h (W0 a) [0,0,0] [] U λB e h=>?_;exact V.el ab 2 0 h e [1,2,0] U
   exact V.a6 ab 1 0 h b [0,1,2] U
  rintro⟨C,D,E,F,G,H,I,J,K⟩ f h;cases h;exact V.jG ab 0 0 f [2,0,0] U
def Aa(R:bg)(g:aa)(x:bt)(l:Bool)(m:(Int×ah)->Option (Int×ah))(y:(Int×ah)->Option (Int×ah)):(Int×ah)->Option (Int×ah):=λ(d,n,o,p,e,i,q,r,f,s)=>
 (bif(decide (i=0)) then(a8 (λ((z,A,B,C,D,E,F,G,H,I):Int×ah)=>y (z,A,B,C,D,E,F,G,H,I)) λj=>(au (g6 (n,o,p,e,i,q,r,f,s)) λ(a:ah)=>(au (gu (a.1,a.2.1,a.2.2.1,e,a.2.2.2.2.1,a.2.2.2.2.2.1,a.2.2.2.2.2.2.1,f,a.2.2.2.2.2.2.2.2)) λ(J:Bool)=>(bif J then(a8 (λ((K,L,M,N,O,P,Q,S,T):ah)=>m (d,K,L,M,N,O,P,Q,S,T)) λt=>(bif(!(decide (g=[]))) then(au (g7 (a.1,a.2.1,a.2.2.1,e,a.2.2.2.2.1,a.2.2.2.2.2.1,a.2.2.2.2.2.2.1,f,a.2.2.2.2.2.2.2.2) ([])) λ(U:ah)=>t U) else t (a.1,a.2.1,a.2.2.1,e,a.2.2.2.2.1,a.2.2.2.2.2.1,a.2.2.2.2.2.2.1,f,a.2.2.2.2.2.2.2.2))) else(au (ie (a.1,a.2.1,a.2.2.1,e,a.2.2.2.2.1,a.2.2.2.2.2.1,a.2.2.2.2.2.2.1,f,a.2.2.2.2.2.2.2.2)) λ(V:UInt8)=>(bif(decide ((V.toNat:Int)=(10:Int))) then(au (zX (a.1,a.2.1,a.2.2.1,e,a.2.2.2.2.1,a.2.2.2.2.2.1,a.2.2.2.2.2.2.1,f,a.2.2.2.2.2.2.2.2)) λ(X:ah)=>j (d,X)) else(au (hH (a.1,a.2.1,a.2.2.1,e,a.2.2.2.2.1,a.2.2.2.2.2.1,a.2.2.2.2.2.2.1,f,a.2.2.2.2.2.2.2.2)) λ(u:aa)=>(au (lD (a.1,a.2.1,a.2.2.1,e,a.2.2.2.2.1,a.2.2.2.2.2.1,a.2.2.2.2.2.2.1,f,a.2.2.2.2.2.2.2.2)) λ(v:aa)=>(cP ((decide (0<d))=true/\(bif(bif(decide (u=g)) then(!(decide (g=[]))) else false) then(bif(decide (0<d)) then true else(!l)) else false)=false) (yh v x) false λ(Y:Bool)=>(bif(bif(bif(bif(bif(decide (u=g)) then(!(decide (g=[]))) else false) then(bif(decide (0<d)) then true else(!l)) else false) then true else(bif(decide (0<d)) then Y else false)) then true else(bif(decide (g=([59,59]:aa))) then(decide (v=([101,115,97,99]:aa))) else false)) then some (d,(a.1,a.2.1,a.2.2.1,e,a.2.2.2.2.1,a.2.2.2.2.2.1,a.2.2.2.2.2.2.1,f,a.2.2.2.2.2.2.2.2)) else(au (Ez R (a.1,a.2.1,a.2.2.1,e,a.2.2.2.2.1,a.2.2.2.2.2.1,a.2.2.2.2.2.2.1,f,a.2.2.2.2.2.2.2.2)) λ(c:ah)=>(bif(!(decide (c.2.2.2.2.1=0))) then some ((W (d+1)),c) else(au (g6 c) λ(b:ah)=>(au (hH (b.1,b.2.1,b.2.2.1,c.2.2.2.1,b.2.2.2.2.1,b.2.2.2.2.2.1,b.2.2.2.2.2.2.1,c.2.2.2.2.2.2.2.1,b.2.2.2.2.2.2.2.2)) λ(k:aa)=>(au (gu (b.1,b.2.1,b.2.2.1,c.2.2.2.1,b.2.2.2.2.1,b.2.2.2.2.2.1,b.2.2.2.2.2.2.1,c.2.2.2.2.2.2.2.1,b.2.2.2.2.2.2.2.2)) λ(w:Bool)=>(cP (w=false) (ie (b.1,b.2.1,b.2.2.1,c.2.2.2.1,b.2.2.2.2.1,b.2.2.2.2.2.1,b.2.2.2.2.2.2.1,c.2.2.2.2.2.2.2.1,b.2.2.2.2.2.2.2.2)) (0:UInt8) λ(Z:UInt8)=>(bif(bif(bif w then true else(decide ((Z.toNat:Int)=(10:Int)))) then true else(bif(decide (k=g)) then(!(decide (g=[]))) else false)) then j ((W (d+1)),b.1,b.2.1,b.2.2.1,c.2.2.2.1,b.2.2.2.2.1,b.2.2.2.2.2.1,b.2.2.2.2.2.2.1,c.2.2.2.2.2.2.2.1,b.2.2.2.2.2.2.2.2) else(bif(bif(!(decide (k=([59]:aa)))) then(!(decide (k=([38]:aa)))) else false) then(au (hr (b.1,b.2.1,b.2.2.1,c.2.2.2.1,b.2.2.2.2.1,b.2.2.2.2.2.1,b.2.2.2.2.2.2.1,c.2.2.2.2.2.2.2.1,b.2.2.2.2.2.2.2.2) b.2.1) λ(h:ah)=>some ((W (d+1)),(h.1,h.2.1,h.2.2.1,c.2.2.2.1,h.2.2.2.2.1,h.2.2.2.2.2.1,h.2.2.2.2.2.2.1,c.2.2.2.2.2.2.2.1,h.2.2.2.2.2.2.2.2))) else j ((W (d+1)),b.1,(W (b.2.1+1)),b.2.2.1,c.2.2.2.1,b.2.2.2.2.1,b.2.2.2.2.2.1,b.2.2.2.2.2.2.1,c.2.2.2.2.2.2.2.1,b.2.2.2.2.2.2.2.2))))))))))))))))))) else m (d,n,o,p,e,i,q,r,f,s))
def EA(R:bg)(x0:ah)(n:aa)(o:bt)(b:Bool):Option (Int×ah):=
 (a8 (λ((c,d,e,f,g,h,i,j,k,l):Int×ah)=>(a8 (λ((p,q,r,s,t,u,v,w,x):ah)=>some (c,(p,q,r,s,t,u,v,w,x))) λm=>(bif(bif b then(decide (c=0)) else false) then(au (gv (d,e,f,g,h,i,j,k,l) ([]) ([120]:aa)) λ(a:ah)=>m (a.1,a.2.1,a.2.2.1,a.2.2.2.1,a.2.2.2.2.1,a.2.2.2.2.2.1,a.2.2.2.2.2.2.1,a.2.2.2.2.2.2.2.1,a.2.2.2.2.2.2.2.2)) else m (d,e,f,g,h,i,j,k,l)))) λy=>(fixF (Aa R n o b y) bC (0,x0.1,x0.2.1,x0.2.2.1,x0.2.2.2.1,x0.2.2.2.2.1,x0.2.2.2.2.2.1,x0.2.2.2.2.2.2.1,x0.2.2.2.2.2.2.2.1,x0.2.2.2.2.2.2.2.2)))
theorem ah2{R:bg}(n:h3 R){x0:ah}{d:aa}{c:bt}{b:Bool}{a:bK}{Q:bu}{e:bK}{f:Nat}{r:Int×ah}(h:EA R x0 d c b=some r):
  gN Tryz.prog 32 [.pointer a,.string (a9 d),.slice e c.length f,.bool b] [h2 e c f] (eR a x0 Q) (λ_:bu=>True) (λq=> .int .i64 r.1) (λq=>eR a r.2 q):=
 by
  refine V.jo (T:=ck) Tryz.call32 Tryz.func32 U λ_ _=>?_;unfold EA at h;refine V.db ab 9 0 h (ρ:=bu) (λs q=>[(0,.bj ⟨a,1,1⟩ 0),(3,.v (.bool b)),(9,.v (.int .i64 s.1))]) .nil (λs q=>gO a s.2 q) U ?_ ?_
  ·intro z _ h;refine V.e8 ab 0 0 h (ρ:=bu) (λs q=>[(0,.bj ⟨a,1,1⟩ 0),(1,.v (.string (a9 d))),(2,.v (.slice e c.length f)),(3,.v (.bool b)),(9,.v (.int .i64 s.1))]) .nil (λs q=>gO a s.2 q) Q [1,2,0] U ?_;rintro o ⟨p,A,B,C,D,E,G,H,I,J⟩ i h;rw[Aa] at h;refine V.co ab 9 3 h ⟨U,U,U,U⟩ (λh=>?_) (λh=>?_)
   ·refine V.db ab 1 0 h (ρ:=bu) (λs q=>[(0,.bj ⟨a,1,1⟩ 0),(1,.v (.string (a9 d))),(2,.v (.slice e c.length f)),(3,.v (.bool b)),(9,.v (.int .i64 s.1))]) .nil (λs q=>gO a s.2 q) U ?_ ?_
    ·intro K _ h;refine V.bH ab 3 0 h oa [2] [] U λL _ h=>?_;refine V.cM ab 5 0 h m6 [1] U λM _ h=>?_;refine V.co ab 1 0 h U (λh=>?_) (λh=>?_)
     ·refine V.e6 ab 0 0 h (ρ:=bu) (λs q=>[(0,.bj ⟨a,1,1⟩ 0),(3,.v (.bool b)),(9,.v (.int .i64 p))]) .nil (λs q=>gO a s q) U ?_ ?_
      ·intro N _ h;refine V.co ab 5 0 h U (λh=>?_) (λh=>?_)
       ·refine V.bH ab 2 0 h pw [0,0,0] [] U λO t h=>?_;exact V.a6 ab 1 0 h t [1,2,0] U
       exact V.a6 ab 1 0 h i [1,2,0] U
      rintro⟨P,S,W,X,Y,Z,iT,kn,p6⟩ u h
      try dsimp only at h
      exact V.a6 ab 1 0 h u [0,1,2] U
     refine V.cM ab 5 0 h ob [1] U λlZ _ h=>?_;refine V.co ab 2 0 h U (λh=>?_) (λh=>?_)
     ·refine V.bH ab 3 0 h Wz [0,0,0] [] U λgB v h=>?_;exact V.a6 ab 2 0 h v [1,2,0] U
     refine V.cM ab 4 0 h oI [1] U λew _ h=>?_;refine V.cM ab 5 0 h wQ [1] U λjK _ h=>?_;refine V.hg ab 26 0 h Le [0] U (λ_ F j k=>F ⟨j,k⟩) λoH h=>?_;refine V.co ab 11 0 h U (λh=>?_) (λh=>?_)
     ·cases h;exact V.rx ab 5 0 i [0,0,0] U
     refine V.bH ab 4 0 h (ah1 n) [0,0,0] [] U λkP g h=>?_;refine V.co ab 16 1 h ⟨U,U,U,U⟩ (λh=>?_) (λh=>?_)
     ·cases h;exact V.rx ab 5 0 g [0,0,0] U
     refine V.bH ab 4 0 h oa [0] [] U λdc _ h=>?_;refine V.cM ab 4 0 h oI [1] U λgY _ h=>?_;refine V.cM ab 6 0 h m6 [1] U λuf _ h=>?_;refine V.hg ab 2 0 h ob [1] U (λ_=>id) λnO h=>?_;refine V.co ab 12 0 h U (λh=>?_) (λh=>?_)
     ·exact V.a6 ab 1 0 h g [1,2,0] U
     refine V.co ab 11 0 h U (λh=>?_) (λh=>?_)
     ·refine V.bH ab 7 1 h px [0] [] ⟨U,U,U,U⟩ λiC _ h=>?_;cases h;exact V.rx ab 6 0 g [0,0,0] U
     exact V.a6 ab 12 1 h g [1,2,0] ⟨U,U,U,U,U,U,U⟩
    rintro⟨pn,m1,pq,ps,p9,uv,po,qR,ym,sk⟩ w h
    try dsimp only at h
    exact V.el ab 0 0 h w [0,1,2] U
   exact V.a6 ab 1 0 h i [0,1,2] U
  rintro⟨x,DX,Q0,td,ug,Q1,Q2,yo,Ew,Q3⟩ l h;refine V.e6 ab 0 0 h (ρ:=bu) (λs q=>[(9,.v (.int .i64 x))]) .nil (λs q=>gO a s q) U ?_ ?_
  ·intro Q4 _ h;refine V.co ab 8 0 h U (λh=>?_) (λh=>?_)
   ·refine V.bH ab 2 0 h qP [2,0,0] [] U λux y h=>?_;exact V.a6 ab 1 0 h y [1,2,0] U
   exact V.a6 ab 1 0 h l [0,1,2] U
  rintro⟨W2,Hi,HR,HS,W3,W4,HT,W5,W6⟩ m h;cases h;exact V.rx ab 5 0 m [2,0,0] U
def LB(x0:aa)(i:Int->Option (Int×Int))(b:(Int×Int)->Option (Int×Int)):(Int×Int)->Option (Int×Int):=λ(c,a)=>
 (bif(decide (a<(x0.length:Int))) then(a8 (λ(j:Int)=>b (j,(W (a+1)))) λf=>(aZ (0<=a/\a<(x0.length:Int))<|(a8 (λ(d:UInt8)=>(bif(bif(bif(bif(bif(decide (((at' x0 a).toNat:Int)=(39:Int))) then true else(decide (((at' x0 a).toNat:Int)=(34:Int)))) then true else(decide (((at' x0 a).toNat:Int)=(92:Int)))) then true else(decide (((at' x0 a).toNat:Int)=(96:Int)))) then true else(bif(decide (((at' x0 a).toNat:Int)=(36:Int))) then(bif(decide ((d.toNat:Int)=(40:Int))) then true else(decide ((d.toNat:Int)=(123:Int)))) else false)) then some ((-2),a) else(a8 (λ(e:Int)=>(bif(bif(decide (((at' x0 a).toNat:Int)=(41:Int))) then(decide (0<e)) else false) then f (W (e-1)) else(bif(bif(decide (((at' x0 a).toNat:Int)=(41:Int))) then(decide ((W (a+1))=(x0.length:Int))) else false) then some ((-1),1) else(bif(bif(decide (((at' x0 a).toNat:Int)=(41:Int))) then(!(decide ((d.toNat:Int)=(41:Int)))) else false) then some ((-2),a) else(bif(decide (((at' x0 a).toNat:Int)=(41:Int))) then some ((W (a+2)),0) else f e))))) λg=>(bif(decide (((at' x0 a).toNat:Int)=(40:Int))) then g (W (c+1)) else g c)))) λh=>(bif(decide ((W (a+1))<(x0.length:Int))) then(aZ (0<=(W (a+1))/\(W (a+1))<(x0.length:Int))<|h (at' x0 (W (a+1)))) else h (0:UInt8))))) else i c)
def EB(x0:aa)(a:Int):Option (Int×Int):=
 (au (zW a (x0.length:Int)) λ(b:Int)=>(a8 (λ(c:Int)=>some ((-1),(W (c+2)))) λd=>(fixF (LB x0 d) bC (0,b))))
theorem ah8{x0:aa}{b:Int}{r:Int×Int}(h:EB x0 b=some r):
  FC Tryz.prog 168 [.string (a9 x0),.int .i64 b] [] (λ_:Unit=>True) (λ_=> .tuple #[.int .i64 r.1,.int .i64 r.2]) (λ_=>[]):=
 by
  refine V.fI (T:=ck) Tryz.call168 Tryz.func168 U λ_=>?_;unfold EB at h;refine V.cM ab 15 0 h K9 [] U λi _ h=>?_;refine V.db ab 2 0 h (ρ:=Unit) (λs q=>[(6,.v (.int .i64 s))]) .nil (λs q=>[]) U ?_ ?_
  ·intro j _ h;refine V.e8 ab 0 0 h (ρ:=Unit) (λs q=>[(0,.v (.string (a9 x0))),(6,.v (.int .i64 s.1)),(7,.v (.int .i64 s.2))]) .nil (λs q=>[]) () [] U ?_;rintro c ⟨d,a⟩ _ h;rw[LB] at h;refine V.co ab 8 0 h U (λh=>?_) (λh=>?_)
   ·refine V.db ab 2 0 h (ρ:=Unit) (λs q=>[(0,.v (.string (a9 x0))),(6,.v (.int .i64 s)),(7,.v (.int .i64 a))]) .nil (λs q=>[]) U ?_ ?_
    ·intro k _ h;obtain⟨e,h⟩:=bB h;refine V.e6 ab 11 0 h (ρ:=Unit) (λs q=>[(0,.v (.string (a9 x0))),(6,.v (.int .i64 d)),(7,.v (.int .i64 a)),(8,.v (.int .u8 ((at' x0 a).toNat:Int))),(9,.v (.int .u8 (s.toNat:Int)))]) .nil (λs q=>[]) ⟨e,U⟩ ?_ ?_
     ·intro l _ h;refine V.co ab 8 0 h U (λh=>?_) (λh=>?_)
      ·obtain⟨f,h⟩:=bB h;exact V.a6 ab 7 0 h () [] ⟨f,U⟩
      exact V.a6 ab 1 0 h () [] U
     rintro g _ h;refine V.co ab 30 0 h U (λh=>?_) (λh=>?_)
     ·cases h;exact V.rt ab 6 0 () [] U
     refine V.e6 ab 1 0 h (ρ:=Unit) (λs q=>[(0,.v (.string (a9 x0))),(6,.v (.int .i64 s)),(7,.v (.int .i64 a)),(8,.v (.int .u8 ((at' x0 a).toNat:Int))),(9,.v (.int .u8 (g.toNat:Int)))]) .nil (λs q=>[]) U ?_ ?_
     ·intro m _ h;refine V.co ab 5 0 h U (λh=>?_) (λh=>?_)
      ·exact V.a6 ab 5 0 h () [] U
      exact V.a6 ab 1 0 h () [] U
     rintro n _ h;refine V.co ab 10 0 h U (λh=>?_) (λh=>?_)
     ·exact V.a6 ab 7 0 h () [] U
     refine V.co ab 14 0 h U (λh=>?_) (λh=>?_)
     ·cases h;exact V.rt ab 5 0 () [] U
     refine V.co ab 11 0 h U (λh=>?_) (λh=>?_)
     ·cases h;exact V.rt ab 6 0 () [] U
     refine V.co ab 6 0 h U (λh=>?_) (λh=>?_)
     ·cases h;exact V.rt ab 7 0 () [] U
     exact V.a6 ab 2 0 h () [] U
    rintro o _ h
    try dsimp only at h
    exact V.el ab 5 0 h () [] U
   exact V.a6 ab 1 0 h () [] U
  rintro p _ h;cases h;exact V.rt ab 7 0 () [] U
def wX(R:bg)(m:ah->Option ah)(l:ah->Option ah):ah->Option ah:=λ(a,b,f,c,d,g,h,e,i)=>
 (bif(decide (d=0)) then(a8 (λ((n,o,p,q,r,s,t,u,v):ah)=>l (n,o,p,q,r,s,t,u,v)) λj=>(au (gu (a,b,f,c,d,g,h,e,i)) λ(w:Bool)=>(bif w then(au (g7 (a,b,f,c,d,g,h,e,i) ([])) λ(x:ah)=>j x) else(au (ie (a,b,f,c,d,g,h,e,i)) λ(y:UInt8)=>(bif(decide ((y.toNat:Int)=(125:Int))) then some (a,(W (b+1)),f,c,d,g,h,e,i) else(au (ie (a,b,f,c,d,g,h,e,i)) λ(z:UInt8)=>(bif(decide ((z.toNat:Int)=(92:Int))) then(au (wR (a,b,f,c,d,g,h,e,i)) λ(k:ah)=>j (k.1,k.2.1,k.2.2.1,c,k.2.2.2.2.1,k.2.2.2.2.2.1,k.2.2.2.2.2.2.1,e,k.2.2.2.2.2.2.2.2)) else(au (ie (a,b,f,c,d,g,h,e,i)) λ(A:UInt8)=>(bif(decide ((A.toNat:Int)=(39:Int))) then(au (BZ a (W (b+1))) λ(B:Int)=>(au (sj (a,b,f,c,d,g,h,e,i) B ([39]:aa) ([39]:aa)) λ(C:ah)=>j C)) else(au (ie (a,b,f,c,d,g,h,e,i)) λ(D:UInt8)=>(bif(decide ((D.toNat:Int)=(34:Int))) then(au (Ek R (a,b,f,c,d,g,h,e,i)) λ(E:ah)=>j E) else(au (ie (a,b,f,c,d,g,h,e,i)) λ(F:UInt8)=>(bif(decide ((F.toNat:Int)=(96:Int))) then(au (z1 a (W (b+1))) λ(G:Int)=>(au (sj (a,b,f,c,d,g,h,e,i) G ([96]:aa) ([96]:aa)) λ(H:ah)=>j H)) else(au (ie (a,b,f,c,d,g,h,e,i)) λ(I:UInt8)=>(bif(decide ((I.toNat:Int)=(36:Int))) then(au (R.ve (a,b,f,c,d,g,h,e,i)) λ(J:ah)=>j J) else j (a,(W (b+1)),f,c,d,g,h,e,i)))))))))))))))) else m (a,b,f,c,d,g,h,e,i))
def LD(R:bg)(x0:ah):Option ah:=
 (a8 (λ((a,b,c,d,e,f,g,h,i):ah)=>(au (gv (a,b,c,d,e,f,g,h,i) ([36,123]:aa) ([125]:aa)) λ(j:ah)=>some j)) λk=>(fixF (wX R k) bC (x0.1,(W (x0.2.1+2)),x0.2.2.1,x0.2.2.2.1,x0.2.2.2.2.1,x0.2.2.2.2.2.1,x0.2.2.2.2.2.2.1,x0.2.2.2.2.2.2.2.1,x0.2.2.2.2.2.2.2.2)))
theorem ah_{R:bg}(n:h3 R){x0:ah}{a2:bK}{Q:bu}{r:ah}(h:LD R x0=some r):
  gN Tryz.prog 169 [.pointer a2] [] (eR a2 x0 Q) (λ_:bu=>True) (λq=> .tuple #[]) (λq=>eR a2 r q):=
 by
  refine V.jo (T:=ck) Tryz.call169 Tryz.func169 U λ_ _=>?_;unfold LD at h;refine V.db ab 13 0 h (ρ:=bu) (λs q=>[(0,.bj ⟨a2,1,1⟩ 0)]) .nil (λs q=>gO a2 s q) ⟨U,U,U,U,U,U,U⟩ ?_ ?_
  ·intro F _ h;refine V.e8 ab 0 0 h (ρ:=bu) (λs q=>[(0,.bj ⟨a2,1,1⟩ 0)]) .nil (λs q=>gO a2 s q) Q [1,2,0] U ?_;rintro o ⟨d,b,e,f,g,i,j,k,l⟩ a h;rw[wX] at h;refine V.go ab 3 0 U ?_;refine V.cl (aI.jd 2 U λc=>V.cz ?_);refine V.co ab 6 2 h ⟨U,U,U,U⟩ (λh=>?_) (λh=>?_)
   ·refine V.db ab 2 0 h (ρ:=bu) (λs q=>[(0,.bj ⟨a2,1,1⟩ 0)]) .nil (λs q=>gO a2 s q) U ?_ ?_
    ·intro G _ h;refine V.cM ab 3 0 h m6 [2] U λH _ h=>?_;refine V.co ab 2 0 h U (λh=>?_) (λh=>?_)
     ·refine V.bH ab 2 0 h pw [2,0,0] [] U λI p h=>?_;exact V.a6 ab 2 0 h p [1,2,0] U
     refine V.cM ab 3 0 h ob [2] U λJ _ h=>?_;refine V.co ab 3 0 h U (λh=>?_) (λh=>?_)
     ·cases h;exact V.rx ab 11 2 a [0,0,0] ⟨U,U,U,U,U,U,U⟩
     refine V.cM ab 3 0 h ob [2] U λK _ h=>?_;refine V.co ab 3 0 h U (λh=>?_) (λh=>?_)
     ·refine V.bH ab 2 0 h QC [2] [] U λL _ h=>?_;exact V.a6 ab 2 0 h a [1,2,0] U
     refine V.cM ab 3 0 h ob [2] U λM _ h=>?_;refine V.co ab 3 0 h U (λh=>?_) (λh=>?_)
     ·obtain⟨N,t,h⟩:=jS h;obtain⟨O,u,h⟩:=jS h;refine V.jW (aT.r3 U .nil [2] [10,11] trivial U (λv=>?_));refine bE.pa ab gh 10 [0,5] U (by kernel_rfl) [] [(48,.bj ⟨a2,1,1⟩ 0),(53,.bj ⟨a2,1,1⟩ 0)] U (fE U) (bE.eD ab gh true 5 [1,2,3,6,7] U (by kernel_rfl) [] [(51,.bj ⟨a2,1,1⟩ 0),(55,.bj ⟨a2,1,1⟩ 1)] trivial [2] U U ⟨(c.fS fT).1,c.fS fT,(c.fS fT).1,c.fS fT,(fE U)⟩ (bE.kJ ab gh 4 U (by kernel_rfl) U U U U U 0 U U 0 0 (d,b,e,(bz.v ⟨a.1,f.length,a.2.1⟩),g,i,j,(bz.v ⟨a.2.2.1,k.length,a.2.2.2⟩),l) ⟨U,U⟩ U U U trivial [2] U (bE.kJ ab gh 8 U (by kernel_rfl) U U U U U 0 U U 0 1 (d,b,e,(bz.v ⟨a.1,f.length,a.2.1⟩),g,i,j,(bz.v ⟨a.2.2.1,k.length,a.2.2.2⟩),l) ⟨U,U⟩ U U U trivial [2] U (bE.eD ab gh true 2 [9] U (by kernel_rfl) [(W (b+1))] [(57,.v (.int .i64 (W (b+1))))] trivial [2] U U ⟨⟨trivial,U⟩,⟨U,trivial⟩⟩ (bE.one 10 (by kernel_rfl) (cL.call U U U U (WG t) U [] U U λ_ _=>bE.nG U (bE.one 11 (by kernel_rfl) (cL.pZ U U U U (Ej u) U [2,0,0] U [] U U ?_))))))));rintro w-;refine bE.nG U (bE.done (by kernel_rfl) (aT.boxes (B':= .nil) trivial (V.iJ ?_)));exact V.a6 ab 1 0 h w [1,2,0] U
     refine V.cM ab 3 0 h ob [2] U λP _ h=>?_;refine V.co ab 3 0 h U (λh=>?_) (λh=>?_)
     ·refine V.bH ab 2 0 h (WE n) [2,0,0] [] U λS x h=>?_;exact V.a6 ab 2 0 h x [1,2,0] U
     refine V.cM ab 3 0 h ob [2] U λX _ h=>?_;refine V.co ab 3 0 h U (λh=>?_) (λh=>?_)
     ·obtain⟨Y,y,h⟩:=jS h;obtain⟨Z,z,h⟩:=jS h;refine V.jW (aT.r3 U .nil [2] [10,11] trivial U (λA=>?_));refine bE.pa ab gh 10 [0,5] U (by kernel_rfl) [] [(70,.bj ⟨a2,1,1⟩ 0),(75,.bj ⟨a2,1,1⟩ 0)] U (fE U) (bE.eD ab gh true 5 [1,2,3,6,7] U (by kernel_rfl) [] [(73,.bj ⟨a2,1,1⟩ 0),(77,.bj ⟨a2,1,1⟩ 1)] trivial [2] U U ⟨(c.fS fT).1,c.fS fT,(c.fS fT).1,c.fS fT,(fE U)⟩ (bE.kJ ab gh 4 U (by kernel_rfl) U U U U U 0 U U 0 0 (d,b,e,(bz.v ⟨a.1,f.length,a.2.1⟩),g,i,j,(bz.v ⟨a.2.2.1,k.length,a.2.2.2⟩),l) ⟨U,U⟩ U U U trivial [2] U (bE.kJ ab gh 8 U (by kernel_rfl) U U U U U 0 U U 0 1 (d,b,e,(bz.v ⟨a.1,f.length,a.2.1⟩),g,i,j,(bz.v ⟨a.2.2.1,k.length,a.2.2.2⟩),l) ⟨U,U⟩ U U U trivial [2] U (bE.eD ab gh true 2 [9] U (by kernel_rfl) [(W (b+1))] [(79,.v (.int .i64 (W (b+1))))] trivial [2] U U ⟨⟨trivial,U⟩,⟨U,trivial⟩⟩ (bE.one 10 (by kernel_rfl) (cL.call U U U U (QB y) U [] U U λ_ _=>bE.nG U (bE.one 11 (by kernel_rfl) (cL.pZ U U U U (Ej z) U [2,0,0] U [] U U ?_))))))));rintro B-;refine bE.nG U (bE.done (by kernel_rfl) (aT.boxes (B':= .nil) trivial (V.iJ ?_)));exact V.a6 ab 1 0 h B [1,2,0] U
     refine V.cM ab 3 0 h ob [2] U λjK _ h=>?_;refine V.co ab 3 0 h U (λh=>?_) (λh=>?_)
     ·refine V.bH ab 2 0 h n.ve [2,0,0] [] U λoH C h=>?_;exact V.a6 ab 2 0 h C [1,2,0] U
     exact V.a6 ab 11 2 h a [1,2,0] ⟨U,U,U,U,U,U,U⟩
    rintro⟨mb,vn,nj,rq,sb,vv,ur,zB,vB⟩ D h
    try dsimp only at h
    exact V.el ab 1 0 h D [0,1,2] U
   exact V.a6 ab 1 0 h a [0,1,2] U
  rintro⟨rn,Hm,Hw,z9,W7,W8,zL,HW,W9⟩ E h;refine V.bH ab 2 0 h qP [2,0,0] [] U λW_ m h=>?_;cases h;exact V.jG ab 1 0 m [0,0,0] U
def EC(d:aa->Option ah)(a:(Int×aa)->Option ah):(Int×aa)->Option ah:=λ(c,b)=>
 (bif(decide (0<c)) then(aZ (((b.length+([41]:aa).length:Nat):Int)<=9223372036854775807)<|a ((W (c-1)),(b++([41]:aa)))) else d b)
def HZ(R:bg)(x0:ah):Option ah:=
 (au (tc x0 1) λ(f:UInt8)=>(cP ((decide ((f.toNat:Int)=(40:Int)))=true) (tc x0 2) (0:UInt8) λ(k:UInt8)=>(bif(bif(decide ((f.toNat:Int)=(40:Int))) then(decide ((k.toNat:Int)=(40:Int))) else false) then(au (EB x0.1 (W (x0.2.1+3))) λ(g,h)=>(bif(decide (g=(-2))) then(au (hr x0 h) λ(e:ah)=>some (e.1,e.2.1,e.2.2.1,x0.2.2.2.1,e.2.2.2.2.1,e.2.2.2.2.2.1,e.2.2.2.2.2.2.1,x0.2.2.2.2.2.2.2.1,e.2.2.2.2.2.2.2.2)) else(a8 (λ(l:aa)=>(au (sj x0 g ([36,40,40]:aa) l) λ(m:ah)=>some m)) λn=>(fixF (EC n) bC (h,[]))))) else(au (tc x0 1) λ(o:UInt8)=>(bif(decide ((o.toNat:Int)=(40:Int))) then(a8 (λ((p,q,r,s,t,u,v,w,x):ah)=>some (p,q,r,s,t,u,v,w,x)) λi=>(au (yk x0 x0.2.1) λ(y,a)=>(bif y then(au (R.nI (a.1,(W (a.2.1+2)),a.2.2.1,x0.2.2.2.1,a.2.2.2.2.1,a.2.2.2.2.2.1,a.2.2.2.2.2.2.1,x0.2.2.2.2.2.2.2.1,a.2.2.2.2.2.2.2.2) ([41]:aa) ([]:bt) false) λ(L,z)=>(au (gv z ([36,40]:aa) ([41]:aa)) λ(c:ah)=>i (c.1,(W (c.2.1+1)),(W (c.2.2.1-1)),c.2.2.2.1,c.2.2.2.2.1,c.2.2.2.2.2.1,c.2.2.2.2.2.2.1,c.2.2.2.2.2.2.2.1,c.2.2.2.2.2.2.2.2))) else i (a.1,a.2.1,a.2.2.1,x0.2.2.2.1,a.2.2.2.2.1,a.2.2.2.2.2.1,a.2.2.2.2.2.2.1,x0.2.2.2.2.2.2.2.1,a.2.2.2.2.2.2.2.2)))) else(au (tc x0 1) λ(A:UInt8)=>(bif(decide ((A.toNat:Int)=(123:Int))) then(a8 (λ((B,C,D,E,F,G,H,I,J):ah)=>some (B,C,D,E,F,G,H,I,J)) λj=>(au (yk x0 x0.2.1) λ(K,b)=>(bif K then(au (LD R (b.1,b.2.1,b.2.2.1,x0.2.2.2.1,b.2.2.2.2.1,b.2.2.2.2.2.1,b.2.2.2.2.2.2.1,x0.2.2.2.2.2.2.2.1,b.2.2.2.2.2.2.2.2)) λ(d:ah)=>j (d.1,d.2.1,(W (d.2.2.1-1)),d.2.2.2.1,d.2.2.2.2.1,d.2.2.2.2.2.1,d.2.2.2.2.2.2.1,d.2.2.2.2.2.2.2.1,d.2.2.2.2.2.2.2.2)) else j (b.1,b.2.1,b.2.2.1,x0.2.2.2.1,b.2.2.2.2.1,b.2.2.2.2.2.1,b.2.2.2.2.2.2.1,x0.2.2.2.2.2.2.2.1,b.2.2.2.2.2.2.2.2)))) else some (x0.1,(W (x0.2.1+1)),x0.2.2.1,x0.2.2.2.1,x0.2.2.2.2.1,x0.2.2.2.2.2.1,x0.2.2.2.2.2.2.1,x0.2.2.2.2.2.2.2.1,x0.2.2.2.2.2.2.2.2))))))))
theorem aic{R:bg}(d:h3 R){x0:ah}{a2:bK}{Q:bu}{r:ah}(h:HZ R x0=some r):
  gN Tryz.prog 158 [.pointer a2] [] (eR a2 x0 Q) (λ_:bu=>True) (λq=> .tuple #[]) (λq=>eR a2 r q):=
 by
  refine V.jo (T:=ck) Tryz.call158 Tryz.func158 U λ_ _=>?_;unfold HZ at h;refine V.cM ab 4 0 h Ei [0] U λl _ h=>?_;refine V.hg ab 3 0 h Ei [0] U (λ_=>id) λm h=>?_;refine V.co ab 3 0 h U (λh=>?_) (λh=>?_)
  ·refine V.jH ab 1 0 U (by kernel_rfl) ?_;refine V.go ab 9 0 ⟨U,U,U,U,U,U,U⟩ ?_;obtain⟨⟨e,n⟩,a,h⟩:=jS h;refine V.toQ (k1.call U U U U (ah8 a) U [] U U (V.s5 ?_));refine V.co ab 12 0 h U (λh=>?_) (λh=>?_)
   ·refine V.bH ab 4 0 h px [0] [] U λo _ h=>?_;cases h;exact V.rx ab 1 0 Q [0,0,0] U
   refine V.db ab 6 0 h (ρ:=Unit) (λs q=>[(0,.bj ⟨a2,1,1⟩ 0),(2,.v (.int .i64 e)),(4,.v (.string (a9 s)))]) .nil (λs q=>eR a2 x0 Q) U ?_ ?_
   ·intro p _ h;refine V.e8 ab 0 0 h (ρ:=Unit) (λs q=>[(0,.bj ⟨a2,1,1⟩ 0),(2,.v (.int .i64 e)),(3,.v (.int .i64 s.1)),(4,.v (.string (a9 s.2)))]) .nil (λs q=>eR a2 x0 Q) () [0,1,2] U ?_;rintro f ⟨t,u⟩ _ h;rw[EC] at h;refine V.co ab 6 0 h U (λh=>?_) (λh=>?_)
    ·obtain⟨g,h⟩:=bB h;exact V.el ab 14 0 h () [0,1,2] ⟨g,U⟩
    exact V.a6 ab 1 0 h () [0,1,2] U
   rintro v _ h;refine V.bH ab 5 0 h Ej [0,0,0] [] U λw i h=>?_;cases h;exact V.rx ab 1 0 i [0,0,0] U
  refine V.cM ab 5 0 h Ei [0] U λx _ h=>?_;refine V.co ab 2 0 h U (λh=>?_) (λh=>?_)
  ·refine V.e6 ab 0 0 h (ρ:=bu) (λs q=>[]) .nil (λs q=>gO a2 s q) U ?_ ?_
   ·intro y _ h;refine V.bH ab 7 0 h QN [0] [] ⟨U,U,U,U⟩ ?_;rintro⟨z,A⟩ _ h;refine V.co ab 1 0 h U (λh=>?_) (λh=>?_)
    ·refine V.go ab 15 0 ⟨U,U,U,U,U,U,U⟩ ?_;refine V.cl (aI.J4 .str bz.nil U U (V.cz ?_));refine V.bH ab 0 0 h d.nI [0,0,0] [0] U ?_;rintro⟨B,C⟩ D h;refine V.bH ab 4 0 h qP [0,0,0] [] U λE b h=>?_;exact V.zu ab 22 1 h b [1,2,0] [] ⟨U,U,U,U,U,U,U,U,U,U,U,U,U⟩
    exact V.a6 ab 1 0 h Q [1,2,0] U
   rintro⟨F,G,H,I,J,K,L,M,N⟩ j h;cases h;exact V.rx ab 0 0 j [2,0,0] U
  refine V.cM ab 5 0 h Ei [0] U λO _ h=>?_;refine V.co ab 2 0 h U (λh=>?_) (λh=>?_)
  ·refine V.e6 ab 0 0 h (ρ:=bu) (λs q=>[]) .nil (λs q=>gO a2 s q) U ?_ ?_
   ·intro P _ h;refine V.bH ab 7 0 h QN [0] [] ⟨U,U,U,U⟩ ?_;rintro⟨S,W⟩ _ h;refine V.co ab 1 0 h U (λh=>?_) (λh=>?_)
    ·refine V.bH ab 3 0 h (ah_ d) [0,0,0] [] U λX k h=>?_;exact V.a6 ab 11 0 h k [1,2,0] ⟨U,U,U,U,U,U,U⟩
    exact V.a6 ab 1 0 h Q [1,2,0] U
   rintro⟨Y,Z,po,qR,oB,sk,vx,qO,rz⟩ c h;cases h;exact V.rx ab 0 0 c [2,0,0] U
  cases h;exact V.jG ab 11 0 Q [0,0,0] ⟨U,U,U,U,U,U,U⟩
def yt(x0:aa×Int×Int):Option (Int×aa×Int×Int):=
 (a8 (λ((b,c):Int×Int)=>some (b,(x0.1,c,(W ((W (x0.2.2*6364136223846793005))+1442695040888963407))))) λa=>(bif(decide (x0.2.1<(x0.1.length:Int))) then(aZ (0<=x0.2.1/\x0.2.1<(x0.1.length:Int))<|a ((W (((BitVec.ofInt (IntKind.bits .i64) (W ((W (((BitVec.ofInt (IntKind.bits .i64) (W (((BitVec.ofInt (IntKind.bits .i64) (Int.fdiv (W ((W (x0.2.2*6364136223846793005))+1442695040888963407)) (2^(min (Int.toNat 33) (IntKind.bits .i64))))^^^BitVec.ofInt (IntKind.bits .i64) (Int.fdiv (W ((W (x0.2.2*6364136223846793005))+1442695040888963407)) (2^(min (Int.toNat 45) (IntKind.bits .i64))))).toNat:Int)))&&&BitVec.ofInt (IntKind.bits .i64) 255).toNat:Int)))+((at' x0.1 x0.2.1).toNat:Int)))&&&BitVec.ofInt (IntKind.bits .i64) 255).toNat:Int))),(W (x0.2.1+1)))) else a ((W (((BitVec.ofInt (IntKind.bits .i64) (W (((BitVec.ofInt (IntKind.bits .i64) (Int.fdiv (W ((W (x0.2.2*6364136223846793005))+1442695040888963407)) (2^(min (Int.toNat 33) (IntKind.bits .i64))))^^^BitVec.ofInt (IntKind.bits .i64) (Int.fdiv (W ((W (x0.2.2*6364136223846793005))+1442695040888963407)) (2^(min (Int.toNat 45) (IntKind.bits .i64))))).toNat:Int)))&&&BitVec.ofInt (IntKind.bits .i64) 255).toNat:Int))),x0.2.1)))
end
end Go.Eng
