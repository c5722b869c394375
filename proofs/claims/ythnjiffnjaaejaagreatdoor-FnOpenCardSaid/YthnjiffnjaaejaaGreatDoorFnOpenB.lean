/- Part 2 of what FnOpen needs. No condition. -/
import Derived.Test.YthnjiffnjaaejaaGreatDoorFnOpenA
set_option linter.all false
namespace Go.Proofs

set_option maxHeartbeats 1000000 in
/-- strings.HasPrefix: "HasPrefix reports whether the string s begins with prefix.": IT RETURNS 'Lib.hasPrefix s prefix'; the world is as it was. -/
theorem Tryz.strings_HasPrefix (s p : ByteArray) (w : World) :
    Calls Tryz.prog 75 #[.string s, .string p] w fun e w' => e = .returned (.bool (Lib.hasPrefix s.data.toList p.data.toList)) ∧ w' = w := by
  rw [← Lib.hasPrefix_of_take, ← Lib.size_eq, ← Lib.size_eq]
  go_enter Tryz.func75, Tryz.ntmps75
  go_wp2
  · rename_i h
    go_ret
    refine ⟨?_, rfl⟩
    show Ending.returned (Value.bool ((s.extract 0 p.size).toList == p.toList)) = _
    rw [Lib.extract_toList, Lib.toList_data]
    simp [h]
  · rename_i h
    go_ret
    refine ⟨?_, rfl⟩
    show Ending.returned (Value.bool false) = _
    simp [h]

end Go.Proofs

namespace Go.Proofs

set_option maxHeartbeats 1000000 in
/-- strings.IndexByte: "IndexByte returns the index of the first instance of c in s, or -1 if c is not present in s.": IT RETURNS 'Lib.indexByte s c'; the world is as it was. -/
theorem Tryz.strings_IndexByte (s : ByteArray) (c : Int) (w : World) :
    Calls Tryz.prog 71 #[.string s, .int .u8 c] w fun e w' => e = .returned (.int .i64 (Lib.indexByte s.data.toList c.toNat.toUInt8)) ∧ w' = w := by
  go_enter Tryz.func71, Tryz.ntmps71
  go_wp2_with (go_at_call 81; refine (Tryz.stringslite_IndexByte _ _ _).mono ?_; rintro e w' ⟨rfl, rfl⟩)
  go_ret
  exact ⟨rfl, rfl⟩

end Go.Proofs

namespace Go.Eng
open Go Go.Proofs
noncomputable section
abbrev an:=aa×Int×ao×Int×bl×Int
abbrev ah:=aa×Int×Int×ao×Int×Int×aa×bl×Bool
@[reducible] def DR:dn:= .pair .str (.pair (.int .i64) (.pair .val (.pair (.int .i64) (.pair .val (.int .i64)))))
abbrev bu:=bI×Nat×bI×Nat
@[reducible] def aeH:dn:=(.pair .str (.pair (.int .i64) (.pair (.int .i64) (.pair .val (.pair (.int .i64) (.pair (.int .i64) (.pair .str (.pair .val .bool))))))))
@[reducible] def aeI:dn:=(.pair .val (.pair (.int .i64) (.int .i64)))
@[reducible] def jf(a:bI)(x:an)(q:bu):Fact:=⟨DR,⟨a,1,1⟩,[(x.1,x.2.1,bw.v ⟨q.1,x.2.2.1.length,q.2.1⟩,x.2.2.2.1,bw.v ⟨q.2.2.1,x.2.2.2.2.1.length,q.2.2.2⟩,x.2.2.2.2.2)]⟩
@[reducible] def lP(a:bI)(x:ah)(q:bu):Fact:=⟨aeH,⟨a,1,1⟩,[(x.1,x.2.1,x.2.2.1,bw.v ⟨q.1,x.2.2.2.1.length,q.2.1⟩,x.2.2.2.2.1,x.2.2.2.2.2.1,x.2.2.2.2.2.2.1,bw.v ⟨q.2.2.1,x.2.2.2.2.2.2.2.1.length,q.2.2.2⟩,x.2.2.2.2.2.2.2.2)]⟩
@[reducible] def lC(a:bI)(x:aa×Int×Int)(b:bI)(c:Nat):Fact:=⟨aeI,⟨a,1,1⟩,[(bw.v ⟨b,x.1.length,c⟩,x.2.1,x.2.2)]⟩
@[reducible] def lQ(a:bI)(x:aa)(c:Nat):Fact:=⟨.byte,⟨a,x.length,c⟩,x⟩
@[reducible] def r9(a:bI)(x:ao)(c:Nat):Fact:=⟨.pair .str .bool,⟨a,x.length,c⟩,x⟩
@[reducible] def hr(a:bI)(x:bl)(c:Nat):Fact:=⟨.str,⟨a,x.length,c⟩,x⟩
@[reducible] def ei(a:bI)(x:an)(q:bu):ba:=[jf a x q,r9 q.1 x.2.2.1 q.2.1,hr q.2.2.1 x.2.2.2.2.1 q.2.2.2]
@[reducible] def kO(a:bI)(x:an)(q:bu):ba:=[r9 q.1 x.2.2.1 q.2.1,hr q.2.2.1 x.2.2.2.2.1 q.2.2.2,jf a x q]
@[reducible] def eV(a:bI)(x:ah)(q:bu):ba:=[lP a x q,r9 q.1 x.2.2.2.1 q.2.1,hr q.2.2.1 x.2.2.2.2.2.2.2.1 q.2.2.2]
@[reducible] def gM(a:bI)(x:ah)(q:bu):ba:=[r9 q.1 x.2.2.2.1 q.2.1,hr q.2.2.1 x.2.2.2.2.2.2.2.1 q.2.2.2,lP a x q]
@[reducible] def aeJ(x:ah)(b:bI)(eS:Nat)(a2:bI)(c:Nat):b9:=[.string (a9 x.1),.int .i64 x.2.1,.int .i64 x.2.2.1,.slice b x.2.2.2.1.length eS,.int .i64 x.2.2.2.2.1,.int .i64 x.2.2.2.2.2.1,.string (a9 x.2.2.2.2.2.2.1),.slice a2 x.2.2.2.2.2.2.2.1.length c,.bool x.2.2.2.2.2.2.2.2]
def cl:dQ:=[
 (2,⟨.int .i64,1,8,[.int .i64 0]⟩),
 (3,⟨.int .i64,1,8,[.int .i64 0]⟩),
 (4,⟨.bool,1,1,[.bool false]⟩),
 (5,⟨.int .u8,1,1,[.int .u8 0]⟩),
 (6,⟨.int .u8,1,1,[.int .u8 0]⟩),
 (7,⟨.struct [(0,2),(1,3),(2,4),(3,6)],4,24,[.int .i64 0,.int .i64 0,.bool false,.int .u8 0]⟩),
 (8,⟨.struct [(0,2),(1,3),(2,4),(3,6)],4,24,[.int .i64 0,.int .i64 0,.bool false,.int .u8 0]⟩),
 (9,⟨.str,1,16,[.string ByteArray.empty]⟩),
 (10,⟨.str,1,16,[.string ByteArray.empty]⟩),
 (11,⟨.str,1,16,[.string ByteArray.empty]⟩),
 (12,⟨.int .u64,1,8,[.int .u64 0]⟩),
 (13,⟨.struct [(0,9),(1,12)],2,24,[.string ByteArray.empty,.int .u64 0]⟩),
 (14,⟨.struct [(0,9),(1,12)],2,24,[.string ByteArray.empty,.int .u64 0]⟩),
 (18,⟨.struct [(0,17)],1,8,[.pointer none]⟩),
 (19,⟨.struct [(0,17)],1,8,[.pointer none]⟩),
 (21,⟨.int .i32,1,4,[.int .i32 0]⟩),
 (22,⟨.slice 5,1,24,[.slice none 0 0]⟩),
 (29,⟨.slice 9,1,24,[.slice none 0 0]⟩),
 (35,⟨.struct [(0,22),(1,3),(2,3)],3,40,[.slice none 0 0,.int .i64 0,.int .i64 0]⟩),
 (36,⟨.struct [(0,22),(1,3),(2,3)],3,40,[.slice none 0 0,.int .i64 0,.int .i64 0]⟩),
 (38,⟨.struct [(0,3),(1,3)],2,16,[.int .i64 0,.int .i64 0]⟩),
 (39,⟨.struct [(0,3),(1,3)],2,16,[.int .i64 0,.int .i64 0]⟩),
 (45,⟨.slice 75,1,24,[.slice none 0 0]⟩),
 (46,⟨.struct [(0,9),(1,3),(2,3),(3,45),(4,3),(5,3),(6,9),(7,29),(8,4)],9,120,[.string ByteArray.empty,.int .i64 0,.int .i64 0,.slice none 0 0,.int .i64 0,.int .i64 0,.string ByteArray.empty,.slice none 0 0,.bool false]⟩),
 (47,⟨.struct [(0,9),(1,3),(2,3),(3,45),(4,3),(5,3),(6,9),(7,29),(8,4)],9,120,[.string ByteArray.empty,.int .i64 0,.int .i64 0,.slice none 0 0,.int .i64 0,.int .i64 0,.string ByteArray.empty,.slice none 0 0,.bool false]⟩),
 (52,⟨.other,1,8,[.pointer none]⟩),
 (53,⟨.slice 78,1,24,[.slice none 0 0]⟩),
 (54,⟨.struct [(0,9),(1,3),(2,53),(3,3),(4,29),(5,3)],6,88,[.string ByteArray.empty,.int .i64 0,.slice none 0 0,.int .i64 0,.slice none 0 0,.int .i64 0]⟩),
 (55,⟨.struct [(0,9),(1,3),(2,53),(3,3),(4,29),(5,3)],6,88,[.string ByteArray.empty,.int .i64 0,.slice none 0 0,.int .i64 0,.slice none 0 0,.int .i64 0]⟩),
 (64,⟨.struct [(0,3),(1,9),(2,4)],3,32,[.int .i64 0,.string ByteArray.empty,.bool false]⟩),
 (65,⟨.struct [(0,3),(1,9),(2,4)],3,32,[.int .i64 0,.string ByteArray.empty,.bool false]⟩),
 (74,⟨.struct [(0,9),(1,4)],2,24,[.string ByteArray.empty,.bool false]⟩),
 (75,⟨.struct [(0,9),(1,4)],2,24,[.string ByteArray.empty,.bool false]⟩),
 (76,⟨.int .u64,1,8,[.int .u64 0]⟩),
 (77,⟨.struct [(0,9),(1,4)],2,24,[.string ByteArray.empty,.bool false]⟩),
 (78,⟨.struct [(0,9),(1,4)],2,24,[.string ByteArray.empty,.bool false]⟩),
 (119,⟨.struct [(0,5),(1,5)],2,2,[.int .u8 0,.int .u8 0]⟩),
 (120,⟨.struct [(0,5),(1,5)],2,2,[.int .u8 0,.int .u8 0]⟩),
 (126,⟨.int .u32,1,4,[.int .u32 0]⟩),
 (130,⟨.struct [(0,17),(1,17),(2,17),(3,9)],4,40,[.pointer none,.pointer none,.pointer none,.string ByteArray.empty]⟩),
 (131,⟨.struct [(0,17),(1,17),(2,17),(3,9)],4,40,[.pointer none,.pointer none,.pointer none,.string ByteArray.empty]⟩),
 (136,⟨.int .u8,1,1,[.int .u8 0]⟩),
 (137,⟨.int .u8,1,1,[.int .u8 0]⟩),
 (140,⟨.int .i32,1,4,[.int .i32 0]⟩),
 (141,⟨.int .i32,1,4,[.int .i32 0]⟩)]
set_option maxRecDepth 100000 in
theorem ab:c6 Tryz.prog cl:=c6.of (by
 simp only[cl,xK]
 exact⟨⟨⟨_,_,U,U,U,U,U⟩,U⟩,⟨⟨_,_,U,U,U,U,U⟩,U⟩,⟨⟨_,_,U,U,U,U,U⟩,U⟩,⟨⟨_,_,U,U,U,U,U⟩,U⟩,⟨⟨_,_,U,U,U,U,U⟩,U⟩,⟨⟨_,_,U,U,U,U,U⟩,⟨_,U,U⟩⟩,⟨⟨_,_,U,U,U,U,U⟩,⟨_,U,U⟩⟩,⟨⟨_,_,U,U,U,U,U⟩,U⟩,⟨⟨_,_,U,U,U,U,U⟩,U⟩,⟨⟨_,_,U,U,U,U,U⟩,U⟩,⟨⟨_,_,U,U,U,U,U⟩,U⟩,⟨⟨_,_,U,U,U,U,U⟩,⟨_,U,U⟩⟩,⟨⟨_,_,U,U,U,U,U⟩,⟨_,U,U⟩⟩,⟨⟨_,_,U,U,U,U,U⟩,⟨_,U,U⟩⟩,⟨⟨_,_,U,U,U,U,U⟩,⟨_,U,U⟩⟩,⟨⟨_,_,U,U,U,U,U⟩,U⟩,⟨⟨_,_,U,U,U,U,U⟩,U⟩,⟨⟨_,_,U,U,U,U,U⟩,U⟩,⟨⟨_,_,U,U,U,U,U⟩,⟨_,U,U⟩⟩,⟨⟨_,_,U,U,U,U,U⟩,⟨_,U,U⟩⟩,⟨⟨_,_,U,U,U,U,U⟩,⟨_,U,U⟩⟩,⟨⟨_,_,U,U,U,U,U⟩,⟨_,U,U⟩⟩,⟨⟨_,_,U,U,U,U,U⟩,U⟩,⟨⟨_,_,U,U,U,U,U⟩,⟨_,U,U⟩⟩,⟨⟨_,_,U,U,U,U,U⟩,⟨_,U,U⟩⟩,⟨⟨_,_,U,U,U,U,U⟩,⟨_,U,trivial⟩⟩,⟨⟨_,_,U,U,U,U,U⟩,U⟩,⟨⟨_,_,U,U,U,U,U⟩,⟨_,U,U⟩⟩,⟨⟨_,_,U,U,U,U,U⟩,⟨_,U,U⟩⟩,⟨⟨_,_,U,U,U,U,U⟩,⟨_,U,U⟩⟩,⟨⟨_,_,U,U,U,U,U⟩,⟨_,U,U⟩⟩,⟨⟨_,_,U,U,U,U,U⟩,⟨_,U,U⟩⟩,⟨⟨_,_,U,U,U,U,U⟩,⟨_,U,U⟩⟩,⟨⟨_,_,U,U,U,U,U⟩,U⟩,⟨⟨_,_,U,U,U,U,U⟩,⟨_,U,U⟩⟩,⟨⟨_,_,U,U,U,U,U⟩,⟨_,U,U⟩⟩,⟨⟨_,_,U,U,U,U,U⟩,⟨_,U,U⟩⟩,⟨⟨_,_,U,U,U,U,U⟩,⟨_,U,U⟩⟩,⟨⟨_,_,U,U,U,U,U⟩,U⟩,⟨⟨_,_,U,U,U,U,U⟩,⟨_,U,U⟩⟩,⟨⟨_,_,U,U,U,U,U⟩,⟨_,U,U⟩⟩,⟨⟨_,_,U,U,U,U,U⟩,U⟩,⟨⟨_,_,U,U,U,U,U⟩,U⟩,⟨⟨_,_,U,U,U,U,U⟩,U⟩,⟨⟨_,_,U,U,U,U,U⟩,U⟩,by simp⟩)
structure bg where
 kl:an->Int->Bool->Option (bp an (Int×an))
 x7:an->UInt8->Bool->Option (bp an an)
 nQ:ah->aa->bl->Bool->Option (Int×ah)
 vo:ah->Option ah
 hs:(aa×Int×Int)->Int->aa->Option (aa×aa×Int×Int)
 nR:(aa×Int×Int)->Int->Option (aa×aa×Int×Int)
structure h8(R:bg):Prop where
 kl:∀{x0:an}{al:Int}{bd:Bool}{bO:bI}{Q:bu}{r:bp an (Int×an)}(h:R.kl x0 al bd=some r),
  je Tryz.prog 30 [.pointer bO,.int .i64 al,.bool bd] [] (ei bO x0 Q) (λr (q:bu)=>jx 39 r λr=> .int .i64 r.1) (λr q=>ei bO (mg r) q) r
 x7:∀{x0:an}{al:UInt8}{bd:Bool}{bO:bI}{Q:bu}{r:bp an an}(h:R.x7 x0 al bd=some r),
  je Tryz.prog 163 [.pointer bO,.int .u8 (al.toNat:Int),.bool bd] [] (ei bO x0 Q) (λr (q:bu)=>jx 39 r λr=> .tuple #[]) (λr q=>ei bO (jV r) q) r
 nQ:∀{x0:ah}{al:aa}{bd:bl}{ck:Bool}{e3:bI}{Q:bu}{vp:bI}{x8:Nat}{r:Int×ah}(h:R.nQ x0 al bd ck=some r),
  gL Tryz.prog 32 [.pointer e3,.string (a9 al),.slice vp bd.length x8,.bool ck] [hr vp bd x8] (eV e3 x0 Q) (λ_:bu=>True) (λq=> .int .i64 r.1) (λq=>eV e3 r.2 q)
 vo:∀{x0:ah}{a2:bI}{Q:bu}{r:ah}(h:R.vo x0=some r),
  gL Tryz.prog 158 [.pointer a2] [] (eV a2 x0 Q) (λ_:bu=>True) (λq=> .tuple #[]) (λq=>eV a2 r q)
 hs:∀{x0:aa×Int×Int}{al:Int}{bd:aa}{bO:bI}{e3:bI}{nS:Nat}{r:aa×aa×Int×Int}(h:R.hs x0 al bd=some r),
  gL Tryz.prog 26 [.pointer bO,.int .i64 al,.string (a9 bd)] [lQ e3 x0.1 nS] [lC bO x0 e3 nS] (λ_:Unit=>True) (λ_=> .string (a9 r.1)) (λ_=>[lC bO (x0.1,r.2.2) e3 nS])
 nR:∀{x0:aa×Int×Int}{al:Int}{a3:bI}{bO:bI}{hX:Nat}{r:aa×aa×Int×Int}(h:R.nR x0 al=some r),
  gL Tryz.prog 54 [.pointer a3,.int .i64 al] [lQ bO x0.1 hX] [lC a3 x0 bO hX] (λ_:Unit=>True) (λ_=> .string (a9 r.1)) (λ_=>[lC a3 (x0.1,r.2.2) bO hX])
def rm(x0:an):Option (bp an Empty):=
 some (.inl (1,(x0.1.length:Int),x0))
theorem DS{x0:an}{a2:bI}{Q:bu}{r:bp an Empty}(h:rm x0=some r):
  je Tryz.prog 63 [.pointer a2] [] [jf a2 x0 Q] (λr (_:Unit)=>jx 39 r λr=> .tuple #[]) (λr _=>[jf a2 ((tb r).1,(tb r).2.1,x0.2.2.1,(tb r).2.2.2.1,x0.2.2.2.2.1,(tb r).2.2.2.2.2) Q]) r:=
 by refine V.jW (T:=cl) Tryz.call63 Tryz.func63 U λ_ _=>?_;unfold rm at h;refine V.go ab 7 0 ⟨U,U,U,U⟩ ?_;refine V.cj (aH.Vy ab U U U U U U U U (V.ct ?_));cases h;exact V.cj (aH.panic U U U (λa h w=>Vz U a h w) () trivial U [0] U)
def GZ(x0:an)(b:Int->Option (bp an an))(c:Int->Option (bp an an)):Int->Option (bp an an):=λa=>
 (a4 (((decide (a<(x0.1.length:Int)))=true)->0<=a/\a<(x0.1.length:Int))<|(bif(bif(decide (a<(x0.1.length:Int))) then(!(decide (((at' x0.1 a).toNat:Int)=(10:Int)))) else false) then c (W (a+1)) else b a))
def G0(x0:an)(d:Int->Option (bp an an))(b:Int->Option (bp an an)):Int->Option (bp an an):=λa=>
 (bif(decide (a<(x0.1.length:Int))) then(a8 (λ(e:Int)=>b e) λf=>(a4 (0<=a/\a<(x0.1.length:Int))<|(a8 (λ(g:Int)=>f g) λc=>(bif(bif(decide (((at' x0.1 a).toNat:Int)=(32:Int))) then true else(decide (((at' x0.1 a).toNat:Int)=(9:Int)))) then c (W (a+1)) else(a4 (((bif(decide (((at' x0.1 a).toNat:Int)=(92:Int))) then(decide ((W (a+1))<(x0.1.length:Int))) else false)=true)->0<=(W (a+1))/\(W (a+1))<(x0.1.length:Int))<|(bif(bif(bif(decide (((at' x0.1 a).toNat:Int)=(92:Int))) then(decide ((W (a+1))<(x0.1.length:Int))) else false) then(decide (((at' x0.1 (W (a+1))).toNat:Int)=(10:Int))) else false) then(bif(decide ((W (a+2))=(x0.1.length:Int))) then a_ (rm (x0.1,(W (a+2)),x0.2.2.1,x0.2.2.2.1,x0.2.2.2.2.1,x0.2.2.2.2.2)) (λx=>x) λy=>Empty.elim y else c (W (a+2))) else(bif(decide (((at' x0.1 a).toNat:Int)=(35:Int))) then(a8 (λ(h:Int)=>c h) λi=>(fixF (GZ x0 i) bB a)) else some (.inr (x0.1,a,x0.2.2.1,x0.2.2.2.1,x0.2.2.2.2.1,x0.2.2.2.2.2))))))))) else d a)
def Ky(x0:an):Option (bp an an):=
 (a8 (λ(a:Int)=>some (.inr (x0.1,a,x0.2.2.1,x0.2.2.2.1,x0.2.2.2.2.1,x0.2.2.2.2.2))) λb=>(fixF (G0 x0 b) bB x0.2.1))
theorem aeL{x0:an}{a2:bI}{Q:bu}{r:bp an an}(h:Ky x0=some r):
  je Tryz.prog 60 [.pointer a2] [] [jf a2 x0 Q] (λr (_:Unit)=>jx 39 r λr=> .tuple #[]) (λr _=>[jf a2 ((jV r).1,(jV r).2.1,x0.2.2.1,(jV r).2.2.2.1,x0.2.2.2.2.1,(jV r).2.2.2.2.2) Q]) r:=
 by
  refine V.jW (T:=cl) Tryz.call60 Tryz.func60 U λ_ _=>?_;unfold Ky at h;refine V.da ab 0 0 h (ρ:=Unit) (λs q=>[]) .nil (λs q=>[jf a2 (x0.1,s,x0.2.2) Q]) U ?_ ?_
  ·intro f _ h;refine V.e_ ab 0 0 h (ρ:=Unit) (λs q=>[(0,.bj ⟨a2,1,1⟩ 0)]) .nil (λs q=>[jf a2 (x0.1,s,x0.2.2) Q]) () [0] U ?_;rintro a g _ h;rw[G0] at h;refine V.jz ab 2 0 U (by kernel_rfl) ?_;refine V.co ab 11 0 h ⟨U,U,U,U,U,U,U⟩ (λh=>?_) (λh=>?_)
   ·refine V.da ab 1 0 h (ρ:=Unit) (λs q=>[(0,.bj ⟨a2,1,1⟩ 0)]) .nil (λs q=>[jf a2 (x0.1,s,x0.2.2) Q]) U ?_ ?_
    ·intro i _ h;obtain⟨b,h⟩:=bC h;refine V.jz ab 1 0 U (by kernel_rfl) ?_;refine V.da ab 11 0 h (ρ:=Unit) (λs q=>[(0,.bj ⟨a2,1,1⟩ 0)]) .nil (λs q=>[jf a2 (x0.1,s,x0.2.2) Q]) ⟨U,U,U,U,U,U,b,U⟩ ?_ ?_
     ·intro j _ h;refine V.co ab 10 0 h U (λh=>?_) (λh=>?_)
      ·exact V.a6 ab 11 0 h () [0] ⟨U,U,U,U,U,U,U⟩
      obtain⟨c,h⟩:=bC h;refine V.jz ab 1 0 U (by kernel_rfl) ?_;refine V.co ab 30 0 h ⟨U,U,U,U,U,U,U,U,U,U,U,U,c,U⟩ (λh=>?_) (λh=>?_)
      ·refine V.jz ab 12 0 ⟨U,U,U,U,U,U,U⟩ (by kernel_rfl) ?_;refine V.co ab 11 0 h ⟨U,U,U,U,U,U,U⟩ (λh=>?_) (λh=>?_)
       ·refine V.cp ab 2 0 h DS [0] [] (λ_=>()) [0] U a5 a5 λy _ _=>y.elim
       exact V.a6 ab 2 0 h () [0] U
      refine V.co ab 6 0 h U (λh=>?_) (λh=>?_)
      ·refine V.da ab 0 0 h (ρ:=Unit) (λs q=>[(0,.bj ⟨a2,1,1⟩ 0)]) .nil (λs q=>[jf a2 (x0.1,s,x0.2.2) Q]) U ?_ ?_
       ·intro k _ h;refine V.e_ ab 0 0 h (ρ:=Unit) (λs q=>[(0,.bj ⟨a2,1,1⟩ 0)]) .nil (λs q=>[jf a2 (x0.1,s,x0.2.2) Q]) () [0] U ?_;rintro d l _ h;rw[GZ] at h;obtain⟨e,h⟩:=bC h;refine V.jz ab 2 0 U (by kernel_rfl) ?_;refine V.co ab 23 0 h ⟨U,U,U,U,U,U,U,U,U,U,U,U,e,U⟩ (λh=>?_) (λh=>?_)
        ·exact V.el ab 13 0 h () [0] ⟨U,U,U,U,U,U,U⟩
        exact V.a6 ab 1 0 h () [0] U
       rintro m _ h
       try dsimp only at h
       exact V.a6 ab 1 0 h () [0] U
      cases h;exact V.jU ab 0 0 () [0] U
     rintro n _ h
     try dsimp only at h
     exact V.a6 ab 1 0 h () [0] U
    rintro o _ h
    try dsimp only at h
    exact V.el ab 0 0 h () [0] U
   exact V.a6 ab 1 0 h () [0] U
  rintro p _ h;cases h;exact V.oG ab 0 0 () [0] U
def Pc(x0:aa):Option Int:=
 none
theorem aeN{x0:aa}{r:Int}(h:Pc x0=some r):
  FC Tryz.prog 144 [.string (a9 x0)] [] (λ_:Unit=>True) (λ_=> .int .i64 r) (λ_=>[]):=
 by refine V.fM (T:=cl) Tryz.call144 Tryz.func144 U λ_=>?_;unfold Pc at h;cases h
def Pd(x0:aa):Option (Int×Int):=
 (bif(decide ((x0.length:Int)<1)) then some (65533,0) else(a4 (0<=(0:Int)/\0<(x0.length:Int))<|none))
theorem aeO{x0:aa}{r:Int×Int}(h:Pd x0=some r):
  FC Tryz.prog 134 [.string (a9 x0)] [] (λ_:Unit=>True) (λ_=> .tuple #[.int .i32 r.1,.int .i64 r.2]) (λ_=>[]):=
 by
  refine V.fM (T:=cl) Tryz.call134 Tryz.func134 U λ_=>?_;unfold Pd at h;refine V.co ab 17 0 h U (λh=>?_) (λh=>?_)
  ·cases h;exact V.rt ab 5 0 () [] U
  obtain⟨a,h⟩:=bC h;cases h
def Pe(x0:aa):Option (Int×Int):=
 (a4 (((!(decide (x0=[])))=true)->0<=(0:Int)/\0<(x0.length:Int))<|(bif(bif(!(decide (x0=[]))) then(decide (((at' x0 0).toNat:Int)<(128:Int))) else false) then(a4 (0<=(0:Int)/\0<(x0.length:Int))<|some ((IntKind.i32.wrap (((at' x0 0).toNat:Int))),1)) else(au (Pd x0) λ(a,b)=>some (a,b))))
theorem aeP{x0:aa}{r:Int×Int}(h:Pe x0=some r):
  FC Tryz.prog 104 [.string (a9 x0)] [] (λ_:Unit=>True) (λ_=> .tuple #[.int .i32 r.1,.int .i64 r.2]) (λ_=>[]):=
 by
  refine V.fM (T:=cl) Tryz.call104 Tryz.func104 U λ_=>?_;unfold Pe at h;obtain⟨a,h⟩:=bC h;refine V.co ab 16 0 h ⟨a,U⟩ (λh=>?_) (λh=>?_)
  ·obtain⟨b,h⟩:=bC h;cases h;exact V.rt ab 8 0 () [] ⟨b,U⟩
  refine V.cM ab 2 0 h aeO [] U ?_;rintro⟨c,d⟩ _ h;cases h;exact V.rt ab 6 0 () [] U
def Pf(e:Int)(f:(aa×bl)->Option bl)(g:(aa×bl×Int)->Option bl):(aa×bl×Int)->Option bl:=λ(a,d,c)=>
 (bif(decide (c<(W (e-1)))) then(au (Pe a) λ(h,b)=>(a4 (0<=(0:Int)/\(0:Int)<=b/\b<=(a.length:Int))<|(a4 (0<=c/\c<(d.length:Int))<|(a4 (0<=b/\b<=(a.length:Int)/\(a.length:Int)<=(a.length:Int))<|g ((ch a b (a.length:Int)),(List.set d (Int.toNat c) (ch a 0 b)),(W (c+1))))))) else f (a,d))
def Ph(x0:aa)(b:Int):Option bl:=
 (au (Pc x0) λ(d:Int)=>(a8 (λ(a:Int)=>(a4 (0<=a/\a<=536870912)<|(a8 (λ((g,c):aa×bl)=>(a8 (λ(h:bl)=>some h) λe=>(bif(decide (0<a)) then(a4 (0<=(W (a-1))/\(W (a-1))<(c.length:Int))<|e (List.set c (Int.toNat (W (a-1))) g)) else e c))) λi=>(fixF (Pf a i) bB (x0,(List.replicate (Int.toNat a) []),0))))) λf=>(bif(bif(decide (b<0)) then true else(decide (d<b))) then f d else f b)))
theorem aeQ{x0:aa}{e:Int}{r:bl}(h:Ph x0 e=some r):
  FC Tryz.prog 123 [.string (a9 x0),.int .i64 e] [] (λ_:bI×Nat=>True) (λq=> .slice q.1 r.length q.2) (λq=>[hr q.1 r q.2]):=
 by
  refine FC.of (T:=cl) Tryz.call123 Tryz.func123 U U λw0=>?_;unfold Ph at h;refine aT.ta ab 1 [] ⟨trivial,U⟩ U U (aT.seq (aT.region (aH.eI ab 1 [] [] [(10,.v (.string (a9 x0)))] _ U ⟨⟨U,trivial⟩,U⟩ ?_)));obtain⟨f,G,h⟩:=jH h;refine aH.call U U U U (aeN G) U [] U U λ_ _=>aH.eI ab 1 [] [] [(5,.v (.int .i64 f))] _ U ⟨⟨U,trivial⟩,U⟩ (aH.done U ?_);obtain⟨H,j,h⟩:=GK h;refine aT.Ka (ι:=Int) ⟨λz=>H z=some r,λz=>[(0,.v (.string (a9 x0))),(1,.v (.int .i64 z))],λz=> .nil,λz=>[],λz=>[],λz=>0⟩ ?_ ?_
  ·refine aT.ta ab 7 [(18,.v (.bool (bif(decide (e<0)) then true else(decide (f<e)))))] ⟨⟨U,trivial⟩,U⟩ U U ?_;refine aT.cond U (λk=>?_) (λk=>?_)
   ·have h:=x2 h k;refine aT.aeh ab 2 [(1,.v (.int .i64 f))] ⟨⟨U,trivial⟩,U⟩ U U (aT.wF f h (fL U) trivial [] U [] U)
   have h:=x3 h k;refine aT.skip (aT.wF e h (fL U) trivial [] U [] U)
  rintro a h;subst j;refine aT.seq (aT.region (aH.eI ab 1 [] [] [(20,.v (.int .i64 a))] _ U ⟨⟨U,trivial⟩,U⟩ ?_));obtain⟨I,h⟩:=bC h;refine aH.makeSlice ab U U U U U U U U (Int.toNat a) (Int.toNat_of_nonneg I.1).symm (by omega) .str U U U U U λy=>aH.eI ab 1 [] [] [(6,.v (.slice y (Int.toNat a) (Int.toNat a)))] _ U ⟨⟨U,trivial⟩,U⟩ (aH.done U (aT.seq (aT.ta ab 1 [(7,.v (.int .i64 0))] ⟨⟨U,trivial⟩,U⟩ U U ?_)));obtain⟨A,l,h⟩:=GK h;refine aT.OH (ι:=aa×bl×bI×Nat) ⟨λz=>A (z.1,z.2.1)=some r,λz=>[(0,.v (.string (a9 z.1))),(1,.v (.int .i64 a)),(6,.v (.slice z.2.2.1 z.2.1.length z.2.2.2))],λz=> .nil,λz=>[],λz=>[hr z.2.2.1 z.2.1 z.2.2.2],λz=>0⟩ ?_ ?_
  ·refine aT.loop (ι:=Nat×aa×bl×Int×bI×Nat) ⟨λz=>fixF (Pf a A) z.1 (z.2.1,z.2.2.1,z.2.2.2.1)=some r,λz=>[(0,.v (.string (a9 z.2.1))),(1,.v (.int .i64 a)),(6,.v (.slice z.2.2.2.2.1 z.2.2.1.length z.2.2.2.2.2)),(7,.v (.int .i64 z.2.2.2.1))],λz=> .nil,λz=>[],λz=>[hr z.2.2.2.2.1 z.2.2.1 z.2.2.2.2.2],λz=>z.1⟩ (bB,x0,(List.replicate (Int.toNat a) []),0,y,(Int.toNat a)) h ⟨U,U,(by simp only[u6,sT,eP,ft,hr];rfl),U,trivial⟩ trivial [] U [0] (by simp only[u6,sT,eP,ft,hr];rfl) ?_;rintro⟨B,b,g,c,m,n⟩ h;obtain⟨B,rfl,h⟩:=OT h;rw[Pf] at h;refine aT.seq (aT.rg ab 4 [(W (a-1))] [] [(25,.v (.bool (decide (c<(W (a-1))))))] _ ⟨⟨trivial,U⟩,⟨U,trivial⟩,U⟩ U U ?_);refine aT.cond U (λo=>?_) (λo=>?_)
   ·have h:=x2 h o;refine aT.skip (aT.seq (aT.block (aT.seq (aT.region (aH.eI ab 1 [] [] [(29,.v (.string (a9 b)))] _ U ⟨⟨U,trivial⟩,U⟩ ?_)))));obtain⟨⟨O,d⟩,J,h⟩:=jH h;refine aH.call U U U U (aeP J) U [] U U λ_ _=>aH.eI ab 5 [] [] [(9,.v (.int .i64 d))] _ U ⟨⟨U,trivial⟩,U⟩ (aH.done U (aT.seq (aT.region ?_)));obtain⟨K,h⟩:=bC h;refine aH.iG 0 U λp=>?_;obtain⟨C,h⟩:=bC h;refine aH.eI ab 6 [] [] [(37,.v (.string (a9 (ch b 0 d)))),(38,.bj ⟨m,g.length,n⟩ (Int.toNat c*1))] _ U ⟨K,p.ix C,(fL U),U⟩ (aH.qI ab U U U U U U U U U [0] (fs:=[]) U (Int.toNat c) 0 (at' g c) (ch b 0 d) ⟨me C,U⟩ ⟨U,U,U⟩ (aH.done U (aT.region ?_)));obtain⟨L,h⟩:=bC h;refine aH.eI ab 4 [] [] [(0,.v (.string (a9 (ch b d (b.length:Int)))))] _ U ⟨L,⟨U,trivial⟩,U⟩ (aH.done U (aT.dz (aT.jU ab 3 [(W (c+1))] [] [(7,.v (.int .i64 (W (c+1))))] _ ⟨⟨trivial,U⟩,⟨U,trivial⟩,U⟩ U U (aT.Ou (B,(ch b d (b.length:Int)),(List.set g (Int.toNat c) (ch b 0 d)),(W (c+1)),m,n) h (xN _) ⟨U,U,(by simp only[u6,sT,eP,ft,hr];rfl),U,trivial⟩ trivial [] U [0] (by simp only[u6,sT,eP,ft,hr];rfl)))))
   have h:=x3 h o;refine aT.exit U (aT.wF (b,g,m,n) h (fL U) trivial [] U [0] U)
  rintro⟨s,i,t,u⟩ h;subst l;obtain⟨M,v,h⟩:=GK h;refine aT.Ka (ι:=bl×bI×Nat) ⟨λz=>M z.1=some r,λz=>[(6,.v (.slice z.2.1 z.1.length z.2.2))],λz=> .nil,λz=>[],λz=>[hr z.2.1 z.1 z.2.2],λz=>0⟩ ?_ ?_
  ·refine aT.ta ab 2 [(43,.v (.bool (decide (0<a))))] ⟨⟨U,trivial⟩,U⟩ U U ?_;refine aT.cond U (λw=>?_) (λw=>?_)
   ·have h:=x2 h w;refine aT.region (aH.iG 0 U λx=>?_);obtain⟨D,h⟩:=bC h;refine aH.eI ab 5 [(W (a-1))] [] [(47,.v (.string (a9 s))),(48,.bj ⟨t,i.length,u⟩ (Int.toNat (W (a-1)) *1))] _ U ⟨⟨trivial,U⟩,x.ix D,(fL U),U⟩ (aH.qI ab U U U U U U U U U [0] (fs:=[]) U (Int.toNat (W (a-1))) 0 (at' i (W (a-1))) s ⟨me D,U⟩ ⟨U,U,U⟩ (aH.done U (aT.wF ((List.set i (Int.toNat (W (a-1))) s),t,u) h ⟨(by simp only[u6,sT,eP,ft,hr];rfl),trivial⟩ trivial [] U [0] (by simp only[u6,sT,eP,ft,hr];rfl))))
   have h:=x3 h w;refine aT.skip (aT.wF (i,t,u) h ⟨U,trivial⟩ trivial [] U [0] U)
  rintro⟨N,E,F⟩ h;subst v;refine aT.ta ab 2 [(4,.v (.slice E N.length F))] ⟨⟨U,trivial⟩,U⟩ U U ?_;cases h;exact aT.ret ab (E,F) trivial U U [0] U
def Pq(x0:aa)(a:aa):Option Int:=match a with
 |[c]=>some (Lib.indexByte x0 c)
 |_=>none
theorem aeW{x0:aa}{a:aa}{r:Int}(h:Pq x0 a=some r):p1 Tryz.prog 125 [.string (a9 x0),.string (a9 a)] [] (.int .i64 r):=by
 match a,h with
 |[c],h=>cases h;refine p1.GL Tryz.call125 λw=>?_;exact Tryz.strings_Index_one (a9 x0) c w
 |[],h=>cases h
 |_::_::_,h=>cases h
def Pr(x0:aa)(a:aa):Option Int:=match a with
 |[c]=>some (Lib.countByte x0 c:Int)
 |_=>none
theorem aeX{x0:aa}{a:aa}{r:Int}(h:Pr x0 a=some r):p1 Tryz.prog 124 [.string (a9 x0),.string (a9 a)] [] (.int .i64 r):=by
 match a,h with
 |[c],h=>cases h;refine p1.GL Tryz.call124 λw=>?_;exact Tryz.strings_Count_one (a9 x0) c w
 |[],h=>cases h
 |_::_::_,h=>cases h
def G3(x0:aa)(d:aa)(f:Int)(h:Int)(g:(aa×bl×Int)->Option bl)(i:(aa×bl×Int)->Option bl):(aa×bl×Int)->Option bl:=λ(a,e,b)=>
 (bif(decide (b<(W ((min h (W ((x0.length:Int)+1)))-1)))) then(au (Pq a d) λ(c:Int)=>(bif(decide (c<0)) then g (a,e,b) else(a4 (0<=(0:Int)/\(0:Int)<=(W (c+f))/\(W (c+f))<=(a.length:Int))<|(a4 (0<=b/\b<(e.length:Int))<|(a4 (0<=(W (c+(d.length:Int)))/\(W (c+(d.length:Int)))<=(a.length:Int)/\(a.length:Int)<=(a.length:Int))<|i ((ch a (W (c+(d.length:Int))) (a.length:Int)),(List.set e (Int.toNat b) (ch a 0 (W (c+f)))),(W (b+1)))))))) else g (a,e,b))
def G4(x0:aa)(d:aa)(h:Int)(b:Int):Option bl:=
 (bif(decide (b=0)) then some ([]) else(bif(decide (d=[])) then(au (Ph x0 b) λ(i:bl)=>some i) else(a8 (λ(c:Int)=>(a4 (0<=(min c (W ((x0.length:Int)+1)))/\(min c (W ((x0.length:Int)+1)))<=536870912)<|(a8 (λ((f,e,a):aa×bl×Int)=>(a4 (0<=a/\a<(e.length:Int))<|(a4 (0<=(0:Int)/\(0:Int)<=(W (a+1))/\(W (a+1))<=((List.set e (Int.toNat a) f).length:Int))<|some (ch (List.set e (Int.toNat a) f) 0 (W (a+1)))))) λj=>(fixF (G3 x0 d h c j) bB (x0,(List.replicate (Int.toNat (min c (W ((x0.length:Int)+1)))) []),0))))) λg=>(bif(decide (b<0)) then(au (Pr x0 d) λ(k:Int)=>g (W (k+1))) else g b))))
theorem aeY{x0:aa}{b:aa}{e:Int}{i:Int}{r:bl}(h:G4 x0 b e i=some r):
  FC Tryz.prog 95 [.string (a9 x0),.string (a9 b),.int .i64 e,.int .i64 i] [] (λ_:bI×Nat=>True) (λq=> .slice q.1 r.length q.2) (λq=>[hr q.1 r q.2]):=
 by
  refine FC.of (T:=cl) Tryz.call95 Tryz.func95 U U λw0=>?_;unfold G4 at h;refine aT.ta ab 1 [] ⟨trivial,U⟩ U U (aT.seq (aT.ta ab 2 [(13,.v (.bool (decide (i=0))))] ⟨⟨U,trivial⟩,U⟩ U U ?_));refine aT.cond U (λn=>?_) (λn=>?_)
  ·have h:=x2 h n;refine aT.ta ab 1 [(8,.v (.slice none 0 0))] ⟨⟨U,trivial⟩,U⟩ U U ?_;cases h;refine aT.oE .str bw.nil U U (aT.ret ab (none,0) trivial U U [0] U)
  have h:=x3 h n;refine aT.skip (aT.seq (aT.ta ab 2 [(15,.v (.bool (decide (b=[]))))] ⟨⟨U,trivial⟩,U⟩ U U ?_));refine aT.cond U (λo=>?_) (λo=>?_)
  ·have h:=x2 h o;refine aT.seq (aT.region (aH.eI ab 2 [] [] [(16,.v (.string (a9 x0))),(17,.v (.int .i64 i))] _ U ⟨(fL U),U⟩ ?_));obtain⟨P,p,h⟩:=jH h;refine aH.call U U U U (aeQ p) U [] U U ?_;rintro⟨E,F⟩-;refine aH.eI ab 1 [] [] [(8,.v (.slice E P.length F))] _ U ⟨⟨U,trivial⟩,U⟩ (aH.done U ?_);cases h;exact aT.ret ab (E,F) trivial U U [0] U
  have h:=x3 h o;refine aT.skip ?_;obtain⟨Q,s,h⟩:=GK h;refine aT.Ka (ι:=Int) ⟨λz=>Q z=some r,λz=>[(0,.v (.string (a9 x0))),(1,.v (.string (a9 b))),(2,.v (.int .i64 e)),(3,.v (.int .i64 z))],λz=> .nil,λz=>[],λz=>[],λz=>0⟩ ?_ ?_
  ·refine aT.ta ab 2 [(20,.v (.bool (decide (i<0))))] ⟨⟨U,trivial⟩,U⟩ U U ?_;refine aT.cond U (λt=>?_) (λt=>?_)
   ·have h:=x2 h t;refine aT.region (aH.eI ab 2 [] [] [(21,.v (.string (a9 x0))),(22,.v (.string (a9 b)))] _ U ⟨(fL U),U⟩ ?_);obtain⟨u,v,h⟩:=jH h;refine aH.call U U U U (aeX v) U [] U U λ_ _=>aH.eI ab 2 [(W (u+1))] [] [(3,.v (.int .i64 (W (u+1))))] _ U ⟨⟨trivial,U⟩,⟨U,trivial⟩,U⟩ (aH.done U (aT.wF (W (u+1)) h (fL U) trivial [] U [] U))
   have h:=x3 h t;refine aT.skip (aT.wF i h (fL U) trivial [] U [] U)
  rintro a h;subst s;refine aT.rg ab 6 [(W ((x0.length:Int)+1))] [] [(3,.v (.int .i64 (min a (W ((x0.length:Int)+1)))))] _ ⟨⟨trivial,U⟩,⟨U,trivial⟩,U⟩ U U (aT.seq (aT.region (aH.eI ab 1 [] [] [(30,.v (.int .i64 (min a (W ((x0.length:Int)+1)))))] _ U ⟨⟨U,trivial⟩,U⟩ ?_)));obtain⟨R,h⟩:=bC h;refine aH.makeSlice ab U U U U U U U U (Int.toNat (min a (W ((x0.length:Int)+1)))) (Int.toNat_of_nonneg R.1).symm (by omega) .str U U U U U λG=>aH.eI ab 1 [] [] [(9,.v (.slice G (Int.toNat (min a (W ((x0.length:Int)+1)))) (Int.toNat (min a (W ((x0.length:Int)+1))))))] _ U ⟨⟨U,trivial⟩,U⟩ (aH.done U (aT.rg ab 3 [(W ((min a (W ((x0.length:Int)+1)))-1))] [] [(3,.v (.int .i64 (W ((min a (W ((x0.length:Int)+1)))-1))))] _ ⟨⟨trivial,U⟩,⟨U,trivial⟩,U⟩ U U (aT.ta ab 1 [(10,.v (.int .i64 0))] ⟨⟨U,trivial⟩,U⟩ U U (aT.seq ?_))));obtain⟨H,w,h⟩:=GK h;refine aT.OH (ι:=aa×bl×Int×bI×Nat) ⟨λz=>H (z.1,z.2.1,z.2.2.1)=some r,λz=>[(0,.v (.string (a9 z.1))),(9,.v (.slice z.2.2.2.1 z.2.1.length z.2.2.2.2)),(10,.v (.int .i64 z.2.2.1))],λz=> .nil,λz=>[],λz=>[hr z.2.2.2.1 z.2.1 z.2.2.2.2],λz=>0⟩ ?_ ?_
  ·refine aT.loop (ι:=Nat×aa×bl×Int×bI×Nat) ⟨λz=>fixF (G3 x0 b e a H) z.1 (z.2.1,z.2.2.1,z.2.2.2.1)=some r,λz=>[(0,.v (.string (a9 z.2.1))),(1,.v (.string (a9 b))),(2,.v (.int .i64 e)),(3,.v (.int .i64 (W ((min a (W ((x0.length:Int)+1)))-1)))),(9,.v (.slice z.2.2.2.2.1 z.2.2.1.length z.2.2.2.2.2)),(10,.v (.int .i64 z.2.2.2.1))],λz=> .nil,λz=>[],λz=>[hr z.2.2.2.2.1 z.2.2.1 z.2.2.2.2.2],λz=>z.1⟩ (bB,x0,(List.replicate (Int.toNat (min a (W ((x0.length:Int)+1)))) []),0,G,(Int.toNat (min a (W ((x0.length:Int)+1))))) h ⟨U,U,U,U,(by simp only[u6,sT,eP,ft,hr];rfl),U,trivial⟩ trivial [] U [0] (by simp only[u6,sT,eP,ft,hr];rfl) ?_;rintro⟨I,c,j,d,k,l⟩ h;obtain⟨I,rfl,h⟩:=OT h;rw[G3] at h;refine aT.seq (aT.ta ab 3 [(36,.v (.bool (decide (d<(W ((min a (W ((x0.length:Int)+1)))-1))))))] ⟨⟨U,trivial⟩,U⟩ U U ?_);refine aT.cond U (λx=>?_) (λx=>?_)
   ·have h:=x2 h x;refine aT.skip (aT.block (aT.seq (aT.region (aH.eI ab 2 [] [] [(37,.v (.string (a9 c))),(38,.v (.string (a9 b)))] _ U ⟨(fL U),U⟩ ?_))));obtain⟨f,y,h⟩:=jH h;refine aH.call U U U U (aeW y) U [] U U λ_ _=>aH.eI ab 1 [] [] [(11,.v (.int .i64 f))] _ U ⟨⟨U,trivial⟩,U⟩ (aH.done U (aT.seq (aT.ta ab 2 [(41,.v (.bool (decide (f<0))))] ⟨⟨U,trivial⟩,U⟩ U U ?_)));refine aT.cond U (λA=>?_) (λA=>?_)
    ·have h:=x2 h A;refine aT.exit U (aT.wF (c,j,d,k,l) h (fL U) trivial [] U [0] U)
    have h:=x3 h A;refine aT.skip (aT.seq (aT.region ?_));obtain⟨S,h⟩:=bC h;refine aH.iG 0 U λB=>?_;obtain⟨J,h⟩:=bC h;refine aH.eI ab 8 [(W (f+e))] [] [(48,.v (.string (a9 (ch c 0 (W (f+e)))))),(49,.bj ⟨k,j.length,l⟩ (Int.toNat d*1))] _ U ⟨⟨trivial,U⟩,S,B.ix J,(fL U),U⟩ (aH.qI ab U U U U U U U U U [0] (fs:=[]) U (Int.toNat d) 0 (at' j d) (ch c 0 (W (f+e))) ⟨me J,U⟩ ⟨U,U,U⟩ (aH.done U (aT.seq (aT.region ?_))));obtain⟨V,h⟩:=bC h;refine aH.eI ab 7 [(W (f+(b.length:Int)))] [] [(0,.v (.string (a9 (ch c (W (f+(b.length:Int))) (c.length:Int)))))] _ U ⟨⟨trivial,U⟩,V,⟨U,trivial⟩,U⟩ (aH.done U (aT.jU ab 3 [(W (d+1))] [] [(10,.v (.int .i64 (W (d+1))))] _ ⟨⟨trivial,U⟩,⟨U,trivial⟩,U⟩ U U (aT.dz (aT.Ou (I,(ch c (W (f+(b.length:Int))) (c.length:Int)),(List.set j (Int.toNat d) (ch c 0 (W (f+e)))),(W (d+1)),k,l) h (xN _) ⟨U,U,U,U,(by simp only[u6,sT,eP,ft,hr];rfl),U,trivial⟩ trivial [] U [0] (by simp only[u6,sT,eP,ft,hr];rfl)))))
   have h:=x3 h x;refine aT.exit U (aT.wF (c,j,d,k,l) h (fL U) trivial [] U [0] U)
  rintro⟨C,m,g,K,L⟩ h;subst w;refine aT.seq (aT.region (aH.iG 0 U λD=>?_));obtain⟨M,h⟩:=bC h;refine aH.eI ab 4 [] [] [(60,.v (.string (a9 C))),(61,.bj ⟨K,m.length,L⟩ (Int.toNat g*1))] _ U ⟨D.ix M,(fL U),U⟩ (aH.qI ab U U U U U U U U U [0] (fs:=[]) U (Int.toNat g) 0 (at' m g) C ⟨me M,U⟩ ⟨U,U,U⟩ (aH.done U (aT.seq (aT.region (aH.eI ab 3 [(W (g+1))] [] [(62,.v (.slice K m.length L)),(64,.v (.int .i64 (W (g+1))))] _ U ⟨⟨trivial,U⟩,(fL U),U⟩ ?_)))));obtain⟨X,h⟩:=bC h;refine aH.GM ab U U U U U U U U [0] U (0:Int) (W (g+1)) U U X U λN O=>aH.eI ab 1 [] [] [(8,.v (.slice N (ch (List.set m (Int.toNat g) C) 0 (W (g+1))).length O))] _ U ⟨⟨U,trivial⟩,U⟩ (aH.done U ?_);cases h;exact aT.ret ab (N,O) trivial U U [0] U
def DY(x0:aa)(a:aa):Option bl:=
 (au (G4 x0 a 0 (-1)) λ(b:bl)=>some b)
theorem VQ{x0:aa}{a:aa}{r:bl}(h:DY x0 a=some r):
  FC Tryz.prog 74 [.string (a9 x0),.string (a9 a)] [] (λ_:bI×Nat=>True) (λq=> .slice q.1 r.length q.2) (λq=>[hr q.1 r q.2]):=
 by refine V.fM (T:=cl) Tryz.call74 Tryz.func74 U λ_=>?_;unfold DY at h;refine V.cM ab 8 0 h aeY [] U ?_;rintro d ⟨b,c⟩ h;cases h;exact V.rt ab 2 0 (b,c) [0] U
def PA(x0:aa)(a:aa):Option Bool:=some (Lib.hasPrefix x0 a)
theorem ae6{x0:aa}{a:aa}{r:Bool}(h:PA x0 a=some r):p1 Tryz.prog 75 [.string (a9 x0),.string (a9 a)] [] (.bool r):=by cases h;refine p1.GL Tryz.call75 λw=>?_;exact Tryz.strings_HasPrefix (a9 x0) (a9 a) w
def G7(x0:aa)(c:Int)(b:bl)(e:Unit->Option aa)(d:Int->Option aa):Int->Option aa:=λa=>
 (bif(decide (a<(b.length:Int))) then(a4 (0<=a/\a<(b.length:Int))<|(a4 (0<=c/\c<=(x0.length:Int)/\(x0.length:Int)<=(x0.length:Int))<|(au (PA (ch x0 c (x0.length:Int)) (at' b a)) λ(f:Bool)=>(bif f then some (at' b a) else d (W (a+1)))))) else e ())
def zM(x0:aa)(a:Int):Option aa:=
 (bif(bif(decide (a<0)) then true else(decide ((x0.length:Int)<=a))) then some ([]) else(au (DY ([60,60,45,32,38,38,32,124,124,32,59,59,32,60,60,32,60,38,32,60,62,32,62,62,32,62,38,32,62,124,32,38,32,124,32,59,32,60,32,62,32,40,32,41]:aa) ([32]:aa)) λ(b:bl)=>(a8 (λ(_:Unit)=>some ([])) λc=>(fixF (G7 x0 a b c) bB 0))))
theorem PB{x0:aa}{b:Int}{r:aa}(h:zM x0 b=some r):
  FC Tryz.prog 61 [.string (a9 x0),.int .i64 b] [] (λ_:Unit=>True) (λ_=> .string (a9 r)) (λ_=>[]):=
 by
  refine V.fM (T:=cl) Tryz.call61 Tryz.func61 U λ_=>?_;unfold zM at h;refine V.co ab 16 0 h U (λh=>?_) (λh=>?_)
  ·cases h;exact V.rt ab 4 0 () [] U
  refine V.cM ab 4 0 h VQ [] U ?_;rintro a ⟨c,d⟩ h;refine V.da ab 3 0 h (ρ:=Unit) (λs q=>[]) .nil (λs q=>[]) U ?_ ?_
  ·intro k _ h;refine V.e_ ab 0 0 h (ρ:=Unit) (λs q=>[(0,.v (.string (a9 x0))),(1,.v (.int .i64 b)),(15,.v (.slice c a.length d)),(16,.v (.int .i64 (a.length:Int))),(17,.v (.int .i64 s))]) .nil (λs q=>[hr c a d]) () [0] U ?_;rintro g e _ h;rw[G7] at h;refine V.co ab 5 0 h U (λh=>?_) (λh=>?_)
   ·refine V.go ab 5 0 U ?_;refine V.cj (aH.iG 0 U λi=>V.ct ?_);obtain⟨f,h⟩:=bC h;refine V.go ab 1 0 ⟨i.ix f,U⟩ ?_;refine V.cj (aH.load ab U U U U U U U 0 U U (Int.toNat e) 0 (at' a e) ⟨me f,U⟩ U U (V.ct ?_));obtain⟨j,h⟩:=bC h;refine V.cM ab 8 0 h ae6 [] ⟨j,U⟩ λl _ h=>?_;refine V.co ab 1 0 h U (λh=>?_) (λh=>?_)
    ·cases h;exact V.rt ab 5 0 () [] U
    exact V.el ab 6 0 h () [0] U
   exact V.a6 ab 1 0 h () [] U
  rintro _ _ h;cases h;exact V.rt ab 4 0 () [] U
def wL(x0:aa)(a:Int):Option Bool:=
 (a4 (((decide ((x0.length:Int)<=a))=false)->0<=a/\a<(x0.length:Int))<|(a4 (((bif(decide ((x0.length:Int)<=a)) then true else(decide (((at' x0 a).toNat:Int)=(32:Int))))=false)->0<=a/\a<(x0.length:Int))<|(a4 (((bif(bif(decide ((x0.length:Int)<=a)) then true else(decide (((at' x0 a).toNat:Int)=(32:Int)))) then true else(decide (((at' x0 a).toNat:Int)=(9:Int))))=false)->0<=a/\a<(x0.length:Int))<|(cY ((bif(bif(bif(decide ((x0.length:Int)<=a)) then true else(decide (((at' x0 a).toNat:Int)=(32:Int)))) then true else(decide (((at' x0 a).toNat:Int)=(9:Int)))) then true else(decide (((at' x0 a).toNat:Int)=(10:Int))))=false) (zM x0 a) [] λ(b:aa)=>some (bif(bif(bif(bif(decide ((x0.length:Int)<=a)) then true else(decide (((at' x0 a).toNat:Int)=(32:Int)))) then true else(decide (((at' x0 a).toNat:Int)=(9:Int)))) then true else(decide (((at' x0 a).toNat:Int)=(10:Int)))) then true else(!(decide (b=[]))))))))
theorem PC{x0:aa}{a:Int}{r:Bool}(h:wL x0 a=some r):
  FC Tryz.prog 76 [.string (a9 x0),.int .i64 a] [] (λ_:Unit=>True) (λ_=> .bool r) (λ_=>[]):=
 by refine V.fM (T:=cl) Tryz.call76 Tryz.func76 U λ_=>?_;unfold wL at h;obtain⟨b,h⟩:=bC h;obtain⟨c,h⟩:=bC h;obtain⟨d,h⟩:=bC h;refine V.ic ab 31 0 h PB [] ⟨b,c,d,U⟩ (λ_=>id) λe h=>?_;cases h;exact V.rt ab 4 0 () [] U
def BA(x0:aa)(a:Int):Option Bool:=
 (a4 (0<=a/\a<(x0.length:Int))<|(a4 (((bif(decide (((at' x0 a).toNat:Int)=(36:Int))) then(decide ((W (a+1))<(x0.length:Int))) else false)=true)->0<=(W (a+1))/\(W (a+1))<(x0.length:Int))<|(a4 (((decide (((at' x0 (W (a+1))).toNat:Int)=(40:Int)))=false)->((bif(decide (((at' x0 a).toNat:Int)=(36:Int))) then(decide ((W (a+1))<(x0.length:Int))) else false)=true)->0<=(W (a+1))/\(W (a+1))<(x0.length:Int))<|some (bif(bif(decide (((at' x0 a).toNat:Int)=(36:Int))) then(decide ((W (a+1))<(x0.length:Int))) else false) then(bif(decide (((at' x0 (W (a+1))).toNat:Int)=(40:Int))) then true else(decide (((at' x0 (W (a+1))).toNat:Int)=(123:Int)))) else false))))
theorem VR{x0:aa}{a:Int}{r:Bool}(h:BA x0 a=some r):
  FC Tryz.prog 77 [.string (a9 x0),.int .i64 a] [] (λ_:Unit=>True) (λ_=> .bool r) (λ_=>[]):=
 by refine V.fM (T:=cl) Tryz.call77 Tryz.func77 U λ_=>?_;unfold BA at h;obtain⟨b,h⟩:=bC h;obtain⟨c,h⟩:=bC h;obtain⟨d,h⟩:=bC h;cases h;exact V.rt ab 33 0 () [] ⟨b,c,d,U⟩
def D0(x0:aa)(b:Int->Option (aa×Bool))(c:Int->Option (aa×Bool)):Int->Option (aa×Bool):=λa=>
 (au (wL x0 a) λ(d:Bool)=>(bif(!d) then(a4 (0<=a/\a<(x0.length:Int))<|(cY ((bif(bif(bif(decide (((at' x0 a).toNat:Int)=(92:Int))) then true else(decide (((at' x0 a).toNat:Int)=(39:Int)))) then true else(decide (((at' x0 a).toNat:Int)=(34:Int)))) then true else(decide (((at' x0 a).toNat:Int)=(96:Int))))=false) (BA x0 a) false λ(e:Bool)=>(bif(bif(bif(bif(bif(decide (((at' x0 a).toNat:Int)=(92:Int))) then true else(decide (((at' x0 a).toNat:Int)=(39:Int)))) then true else(decide (((at' x0 a).toNat:Int)=(34:Int)))) then true else(decide (((at' x0 a).toNat:Int)=(96:Int)))) then true else e) then some ([],false) else c (W (a+1))))) else b a))
def G_(x0:aa)(a:Int):Option (aa×Bool):=
 (a8 (λ(b:Int)=>(a4 (0<=a/\a<=b/\b<=(x0.length:Int))<|some ((ch x0 a b),true))) λc=>(fixF (D0 x0 c) bB a))
theorem ae8{x0:aa}{a:Int}{r:aa×Bool}(h:G_ x0 a=some r):
  FC Tryz.prog 62 [.string (a9 x0),.int .i64 a] [] (λ_:Unit=>True) (λ_=> .tuple #[.string (a9 r.1),.bool r.2]) (λ_=>[]):=
 by
  refine V.fM (T:=cl) Tryz.call62 Tryz.func62 U λ_=>?_;unfold G_ at h;refine V.da ab 11 0 h (ρ:=Unit) (λs q=>[(0,.v (.string (a9 x0))),(1,.v (.int .i64 a)),(6,.v (.int .i64 s))]) .nil (λs q=>[]) U ?_ ?_
  ·intro d _ h;refine V.e_ ab 0 0 h (ρ:=Unit) (λs q=>[(0,.v (.string (a9 x0))),(1,.v (.int .i64 a)),(6,.v (.int .i64 s))]) .nil (λs q=>[]) () [] U ?_;rintro e f _ h;rw[D0] at h;refine V.cM ab 5 0 h PC [] U λg _ h=>?_;refine V.co ab 2 0 h U (λh=>?_) (λh=>?_)
   ·obtain⟨b,h⟩:=bC h;refine V.ic ab 29 0 h VR [] ⟨b,U⟩ (λ_=>id) λi h=>?_;refine V.co ab 2 0 h U (λh=>?_) (λh=>?_)
    ·cases h;exact V.rt ab 5 0 () [] U
    exact V.el ab 7 0 h () [] U
   exact V.a6 ab 1 0 h () [] U
  rintro j _ h;obtain⟨c,h⟩:=bC h;cases h;exact V.rt ab 9 0 () [] ⟨c,U⟩
def l2(x0:an):Option (bp an ((Int×aa×Bool)×an)):=
 (a_ (Ky x0) (λx=>x) λ(a:an)=>(bif(decide (a.2.1=(a.1.length:Int))) then some (.inr ((0,[],false),(a.1,a.2.1,x0.2.2.1,a.2.2.2.1,x0.2.2.2.2.1,a.2.2.2.2.2))) else(a4 (0<=a.2.1/\a.2.1<(a.1.length:Int))<|(bif(decide (((at' a.1 a.2.1).toNat:Int)=(10:Int))) then some (.inr ((1,[],false),(a.1,a.2.1,x0.2.2.1,a.2.2.2.1,x0.2.2.2.2.1,a.2.2.2.2.2))) else(au (zM a.1 a.2.1) λ(b:aa)=>(bif(!(decide (b=[]))) then some (.inr ((2,b,false),(a.1,a.2.1,x0.2.2.1,a.2.2.2.1,x0.2.2.2.2.1,a.2.2.2.2.2))) else(au (G_ a.1 a.2.1) λ(c,d)=>some (.inr ((3,c,d),(a.1,a.2.1,x0.2.2.1,a.2.2.2.1,x0.2.2.2.2.1,a.2.2.2.2.2))))))))))
theorem qL{x0:an}{a2:bI}{Q:bu}{r:bp an ((Int×aa×Bool)×an)}(h:l2 x0=some r):
  je Tryz.prog 42 [.pointer a2] [] [jf a2 x0 Q] (λr (_:Unit)=>jx 39 r λr=> .agg #[.int .i64 r.1.1,.string (a9 r.1.2.1),.bool r.1.2.2]) (λr _=>[jf a2 ((mg r).1,(mg r).2.1,x0.2.2.1,(mg r).2.2.2.1,x0.2.2.2.2.1,(mg r).2.2.2.2.2) Q]) r:=
 by
  refine V.jW (T:=cl) Tryz.call42 Tryz.func42 U λ_ _=>?_;unfold l2 at h;refine V.jm (aT.DL ab 1 [] [4] [(2,.e2 4 0)] (.new 4 65 [.int .i64 0,.string (a9 []),.bool false] .nil) ⟨⟨U,trivial⟩,(jw U U)⟩ U U (V.h7 ?_));refine V.cp ab 3 0 h aeL [0] [] (λ_=>()) [0] U a5 a5 λg _ h=>?_;refine V.jz ab 3 0 U (by kernel_rfl) ?_;refine V.co ab 11 0 h ⟨U,U,U,U,U,U,U⟩ (λh=>?_) (λh=>?_)
  ·refine V.jm (aT.DL ab 2 [] [] [] (.new 4 65 [.int .i64 0,.string (a9 []),.bool false] .nil) ⟨trivial,(jw U U)⟩ U U (V.h7 ?_));cases h;exact V.jU ab 0 0 () [0] U
  obtain⟨b,h⟩:=bC h;refine V.jz ab 3 0 U (by kernel_rfl) ?_;refine V.co ab 11 0 h ⟨U,U,U,U,U,U,b,U⟩ (λh=>?_) (λh=>?_)
  ·refine V.jm (aT.DL ab 2 [] [] [] (.new 4 65 [.int .i64 1,.string (a9 []),.bool false] .nil) ⟨trivial,(jw U U)⟩ U U (V.h7 ?_));cases h;exact V.jU ab 0 0 () [0] U
  refine V.jz ab 3 0 U (by kernel_rfl) ?_;refine V.go ab 8 0 ⟨U,U,U,U,U,U,U⟩ ?_;obtain⟨c,d,h⟩:=jH h;refine V.toQ (kz.call U U U U (PB d) U [] U U (V.rk ?_));refine V.co ab 7 0 h U (λh=>?_) (λh=>?_)
  ·refine V.jm (aT.DL ab 3 [] [] [] (.new 4 65 [.int .i64 2,.string (a9 c),.bool false] .nil) ⟨trivial,(jw U U)⟩ U U (V.h7 ?_));cases h;exact V.jU ab 0 0 () [0] U
  refine V.jz ab 2 0 U (by kernel_rfl) ?_;refine V.go ab 8 0 ⟨U,U,U,U,U,U,U⟩ ?_;obtain⟨⟨e,f⟩,a,h⟩:=jH h;refine V.toQ (kz.call U U U U (ae8 a) U [] U U (V.rk ?_));refine V.go ab 6 0 U ?_;refine V.jm (aT.DL ab 4 [] [] [] (.new 4 65 [.int .i64 3,.string (a9 e),.bool f] .nil) ⟨trivial,(jw U U)⟩ U U (V.h7 ?_));cases h;exact V.jU ab 0 0 () [0] U
def wM(x0:Int)(a:Int):Option Int:=
 some (max (0:Int) (min x0 a))
theorem KD{x0:Int}{a:Int}{r:Int}(h:wM x0 a=some r):
  FC Tryz.prog 70 [.int .i64 x0,.int .i64 a] [] (λ_:Unit=>True) (λ_=> .int .i64 r) (λ_=>[]):=
 by refine V.fM (T:=cl) Tryz.call70 Tryz.func70 U λ_=>?_;unfold wM at h;cases h;exact V.rt ab 12 0 () [] U
def D1(x0:aa)(a:UInt8):Option Int:=some (Lib.indexByte x0 a)
theorem VT{x0:aa}{a:UInt8}{r:Int}(h:D1 x0 a=some r):p1 Tryz.prog 71 [.string (a9 x0),.int .u8 (a.toNat:Int)] [] (.int .i64 r):=by cases h;refine p1.GL Tryz.call71 λw=>?_;have:=Tryz.strings_IndexByte (a9 x0) (a.toNat:Int) w;rw[adK] at this;exact this
def KE(b:UInt8)(c:aa->Option aa)(d:aa->Option aa):aa->Option aa:=λa=>
 (a4 (((decide (0<(a.length:Int)))=true)->0<=(0:Int)/\0<(a.length:Int))<|(bif(bif(decide (0<(a.length:Int))) then(decide (((at' a 0).toNat:Int)=(b.toNat:Int))) else false) then(a4 (0<=(1:Int)/\(1:Int)<=(a.length:Int)/\(a.length:Int)<=(a.length:Int))<|d (ch a 1 (a.length:Int))) else c a))
def Hb(x0:aa)(a:UInt8):Option aa:=
 (a8 (λ(b:aa)=>some b) λc=>(fixF (KE a c) bB x0))
theorem ae_{x0:aa}{a:UInt8}{r:aa}(h:Hb x0 a=some r):
  FC Tryz.prog 82 [.string (a9 x0),.int .u8 (a.toNat:Int)] [] (λ_:Unit=>True) (λ_=> .string (a9 r)) (λ_=>[]):=
 by
  refine V.fM (T:=cl) Tryz.call82 Tryz.func82 U λ_=>?_;unfold Hb at h;refine V.da ab 5 0 h (ρ:=Unit) (λs q=>[(0,.v (.string (a9 s)))]) .nil (λs q=>[]) U ?_ ?_
  ·intro e _ h;refine V.e_ ab 0 0 h (ρ:=Unit) (λs q=>[(0,.v (.string (a9 s))),(1,.v (.int .u8 (a.toNat:Int)))]) .nil (λs q=>[]) () [] U ?_;rintro b f _ h;rw[KE] at h;obtain⟨c,h⟩:=bC h;refine V.co ab 13 0 h ⟨c,U⟩ (λh=>?_) (λh=>?_)
   ·obtain⟨d,h⟩:=bC h;exact V.el ab 8 0 h () [] ⟨d,U⟩
   exact V.a6 ab 1 0 h () [] U
  rintro g _ h;cases h;exact V.rt ab 5 0 () [] U
def BB(x0:aa)(a:aa):Option aa:=
 (bif(bif(decide (x0=[])) then true else(decide (a=[]))) then some x0 else(a4 (((decide ((a.length:Int)=1))=true)->0<=(0:Int)/\0<(a.length:Int))<|(bif(bif(decide ((a.length:Int)=1)) then(decide (((at' a 0).toNat:Int)<(128:Int))) else false) then(a4 (0<=(0:Int)/\0<(a.length:Int))<|(au (Hb x0 (at' a 0)) λ(b:aa)=>some b)) else none)))
theorem afb{x0:aa}{a:aa}{r:aa}(h:BB x0 a=some r):
  FC Tryz.prog 72 [.string (a9 x0),.string (a9 a)] [] (λ_:Unit=>True) (λ_=> .string (a9 r)) (λ_=>[]):=
 by
  refine V.fM (T:=cl) Tryz.call72 Tryz.func72 U λ_=>?_;unfold BB at h;refine V.co ab 14 0 h U (λh=>?_) (λh=>?_)
  ·cases h;exact V.rt ab 5 0 () [] U
  obtain⟨b,h⟩:=bC h;refine V.co ab 13 0 h ⟨b,U⟩ (λh=>?_) (λh=>?_)
  ·obtain⟨c,h⟩:=bC h;refine V.cM ab 5 0 h ae_ [] ⟨c,U⟩ λd _ h=>?_;cases h;exact V.rt ab 2 0 () [] U
  cases h
def rq(x0:aa)(h:aa)(i:Bool)(j:Unit->Option Int)(c:Int->Option Int):Int->Option Int:=λa=>
 (bif(decide (a<(x0.length:Int))) then(a4 (0<=a/\a<=(x0.length:Int)/\(x0.length:Int)<=(x0.length:Int))<|(a8 (λ((d,e):aa×Int)=>(a8 (λ(k:aa)=>(bif(decide (k=h)) then some e else c e)) λf=>(bif i then(au (BB d ([9]:aa)) λ(l:aa)=>f l) else f d))) λg=>(au (D1 (ch x0 a (x0.length:Int)) (10:UInt8)) λ(b:Int)=>(bif(decide (0<=b)) then(a4 (0<=(0:Int)/\(0:Int)<=b/\b<=((ch x0 a (x0.length:Int)).length:Int))<|g ((ch (ch x0 a (x0.length:Int)) 0 b),(W ((W (a+b))+1)))) else g ((ch x0 a (x0.length:Int)),(x0.length:Int)))))) else j ())
def BC(x0:aa)(a:Int)(b:aa)(c:Bool):Option Int:=
 (au (wM a (x0.length:Int)) λ(d:Int)=>(a8 (λ(_:Unit)=>some (-1)) λe=>(fixF (rq x0 b c e) bB d)))
theorem afd{x0:aa}{c:Int}{a:aa}{b:Bool}{r:Int}(h:BC x0 c a b=some r):
  FC Tryz.prog 56 [.string (a9 x0),.int .i64 c,.string (a9 a),.bool b] [] (λ_:Unit=>True) (λ_=> .int .i64 r) (λ_=>[]):=
 by
  refine V.fM (T:=cl) Tryz.call56 Tryz.func56 U λ_=>?_;unfold BC at h;refine V.cM ab 9 0 h KD [] U λi _ h=>?_;refine V.da ab 3 0 h (ρ:=Unit) (λs q=>[]) .nil (λs q=>[]) U ?_ ?_
  ·intro j _ h;refine V.e_ ab 0 0 h (ρ:=Unit) (λs q=>[(0,.v (.string (a9 x0))),(1,.v (.int .i64 s)),(2,.v (.string (a9 a))),(3,.v (.bool b))]) .nil (λs q=>[]) () [] U ?_;rintro d k _ h;rw[rq] at h;refine V.co ab 8 0 h U (λh=>?_) (λh=>?_)
   ·obtain⟨e,h⟩:=bC h;refine V.e9 ab 12 0 h (ρ:=Unit) (λs q=>[(0,.v (.string (a9 x0))),(2,.v (.string (a9 a))),(3,.v (.bool b)),(9,.v (.string (a9 s.1))),(10,.v (.int .i64 s.2))]) .nil (λs q=>[]) ⟨e,U⟩ ?_ ?_
    ·intro l _ h;refine V.cM ab 3 0 h VT [] U λm _ h=>?_;refine V.co ab 7 0 h U (λh=>?_) (λh=>?_)
     ·obtain⟨f,h⟩:=bC h;exact V.a6 ab 11 0 h () [] ⟨f,U⟩
     exact V.a6 ab 1 0 h () [] U
    rintro⟨n,g⟩ _ h;refine V.e9 ab 0 0 h (ρ:=Unit) (λs q=>[(0,.v (.string (a9 x0))),(2,.v (.string (a9 a))),(3,.v (.bool b)),(9,.v (.string (a9 s))),(10,.v (.int .i64 g))]) .nil (λs q=>[]) U ?_ ?_
    ·intro o _ h;refine V.co ab 4 0 h U (λh=>?_) (λh=>?_)
     ·refine V.cM ab 2 0 h afb [] U λp _ h=>?_;exact V.a6 ab 2 0 h () [] U
     exact V.a6 ab 1 0 h () [] U
    rintro t _ h;refine V.co ab 7 0 h U (λh=>?_) (λh=>?_)
    ·cases h;exact V.rt ab 5 0 () [] U
    exact V.el ab 6 0 h () [] U
   exact V.a6 ab 1 0 h () [] U
  rintro _ _ h;cases h;exact V.rt ab 4 0 () [] U
def wP(x0:an)(a:aa):Option (bp an Empty):=
 (a4 (x0.2.2.2.2.1.length+([a]:bl).length<=536870912)<|a_ (rm (x0.1,x0.2.1,x0.2.2.1,x0.2.2.2.1,(x0.2.2.2.2.1++([a]:bl)),x0.2.2.2.2.2)) (λx=>(x.1,x.2.1,x0.2.2.1,x.2.2.2.1,(x0.2.2.2.2.1++([a]:bl)),x.2.2.2.2.2)) λy=>Empty.elim y)
theorem Hc{x0:an}{a:aa}{a3:bI}{Q:bu}{r:bp an Empty}(h:wP x0 a=some r):
  je Tryz.prog 57 [.pointer a3,.string (a9 a)] [] (ei a3 x0 Q) (λr (q:bu)=>jx 39 r λr=> .tuple #[]) (λr q=>ei a3 (tb r) q) r:=
 by refine V.jW (T:=cl) Tryz.call57 Tryz.func57 U λ_ _=>?_;unfold wP at h;refine V.go ab 8 0 ⟨U,U,U,U⟩ ?_;refine V.cj (aH.kj U (cL.buildSlice ab U U U U U U U U U U U [] U .str [a] ⟨U,U⟩ U U λe=>aH.kk (V.ct ?_)));obtain⟨d,h⟩:=bC h;refine V.cj (aH.p6 ab U U U U ⟨U,U,U,U,trivial,U,U,U,U⟩ U U U [3] U 0 U d U λb c=>V.ct ?_);refine V.cp ab 6 2 h (DS (Q:=(Q.1,Q.2.1,b,c))) [0] [] (λ_=>(Q.1,Q.2.1,b,c)) [0,2,0] ⟨U,U,U,U⟩ a5 a5 λy _ _=>y.elim
def BD(x0:an)(b:ao)(y23:an)(e:Int->Option (bp an (Bool×an)))(f:(Int×Int)->Option (bp an (Bool×an))):(Int×Int)->Option (bp an (Bool×an)):=λ(a,c)=>
 (bif(decide (a<(b.length:Int))) then(a4 (0<=a/\a<(b.length:Int))<|(au (BC y23.1 c ((at' b a).1) ((at' b a).2)) λ(d:Int)=>(a8 (λ(_:Unit)=>f ((W (a+1)),d)) λg=>(bif(decide (d<0)) then a_ (wP (y23.1,c,b,y23.2.2.2.1,x0.2.2.2.2.1,y23.2.2.2.2.2) ([60,60]:aa)) (λx=>x) λy=>Empty.elim y else g ())))) else e c)
def PF(x0:an)(c:(Bool×aa×Int×ao×Int×Int)->Option (bp an (Bool×an)))(b:(Bool×aa×Int×ao×Int×Int)->Option (bp an (Bool×an))):(Bool×aa×Int×ao×Int×Int)->Option (bp an (Bool×an)):=λ(d,e,f,a,g,h)=>
 (a_ (l2 (e,f,a,g,x0.2.2.2.2.1,h)) (λx=>(x.1,x.2.1,a,x.2.2.2.1,x0.2.2.2.2.1,x.2.2.2.2.2)) λ(i,y23)=>(bif(decide (i.1=1)) then(a8 (λ(j:Int)=>b (true,y23.1,j,([]:ao),y23.2.2.2.1,y23.2.2.2.2.2)) λk=>(a8 (λ(l:Int)=>k l) λm=>(fixF (BD x0 a y23 m) bB (0,(W (y23.2.1+1)))))) else c (d,y23.1,y23.2.1,a,y23.2.2.2.1,y23.2.2.2.2.2)))
def k7(x0:an):Option (bp an (Bool×an)):=
 (a8 (λ((a,b,c,d,e,f):Bool×aa×Int×ao×Int×Int)=>some (.inr (a,(b,c,d,e,x0.2.2.2.2.1,f)))) λg=>(fixF (PF x0 g) bB (false,x0.1,x0.2.1,x0.2.2.1,x0.2.2.2.1,x0.2.2.2.2.2)))
theorem ui{x0:an}{a2:bI}{Q:bu}{r:bp an (Bool×an)}(h:k7 x0=some r):
  je Tryz.prog 38 [.pointer a2] [] (ei a2 x0 Q) (λr (q:bu)=>jx 39 r λr=> .bool r.1) (λr q=>ei a2 (mg r) q) r:=
 by
  refine V.jW (T:=cl) Tryz.call38 Tryz.func38 U λ_ _=>?_;unfold k7 at h;refine V.da ab 9 0 h (ρ:=bI×Nat) (λs q=>[(3,.v (.bool s.1))]) .nil (λs q=>[r9 q.1 s.2.2.2.1 q.2,jf a2 (s.2.1,s.2.2.1,s.2.2.2.1,s.2.2.2.2.1,x0.2.2.2.2.1,s.2.2.2.2.2) (q.1,q.2,Q.2.2),hr Q.2.2.1 x0.2.2.2.2.1 Q.2.2.2]) U ?_ ?_
  ·intro o _ h;refine V.e_ ab 0 0 h (ρ:=bI×Nat) (λs q=>[(0,.bj ⟨a2,1,1⟩ 0),(3,.v (.bool s.1))]) .nil (λs q=>[r9 q.1 s.2.2.2.1 q.2,jf a2 (s.2.1,s.2.2.1,s.2.2.2.1,s.2.2.2.2.1,x0.2.2.2.2.1,s.2.2.2.2.2) (q.1,q.2,Q.2.2),hr Q.2.2.1 x0.2.2.2.2.1 Q.2.2.2]) (Q.1,Q.2.1) [1,0,2] U ?_;rintro k ⟨p,t,u,a,v,w⟩ ⟨b,c⟩ h;rw[PF] at h;refine V.cp ab 4 0 h (qL (Q:=(b,c,Q.2.2))) [1] [] (λ_=>(b,c,Q.2.2)) [0,0,0] U a5 a5 ?_;rintro⟨x,y23⟩ _ h;refine V.co ab 3 0 h U (λh=>?_) (λh=>?_)
   ·refine V.da ab 1 0 h (ρ:=Unit) (λs q=>[(0,.bj ⟨a2,1,1⟩ 0),(3,.v (.bool true))]) .nil (λs q=>[⟨(.pair .str (.pair (.int .i64) (.pair .val (.pair (.int .i64) (.pair .val (.int .i64)))))),⟨a2,1,1⟩,[(y23.1,s,(bw.v ⟨none,0,0⟩),y23.2.2.2.1,(bw.v ⟨Q.2.2.1,x0.2.2.2.2.1.length,Q.2.2.2⟩),y23.2.2.2.2.2)]⟩,hr Q.2.2.1 x0.2.2.2.2.1 Q.2.2.2]) U ?_ ?_
    ·intro z _ h;refine V.da ab 25 0 h (ρ:=Unit) (λs q=>[(0,.bj ⟨a2,1,1⟩ 0),(3,.v (.bool true))]) .nil (λs q=>ei a2 (y23.1,s,a,y23.2.2.2.1,x0.2.2.2.2.1,y23.2.2.2.2.2) (b,c,Q.2.2)) ⟨U,U,U,U,U,U,U,U,U,U⟩ ?_ ?_
     ·intro A _ h;refine V.e_ ab 0 0 h (ρ:=Unit) (λs q=>[(0,.bj ⟨a2,1,1⟩ 0),(3,.v (.bool true)),(21,.v (.slice b a.length c)),(22,.v (.int .i64 (a.length:Int))),(23,.v (.int .i64 s.1))]) .nil (λs q=>ei a2 (y23.1,s.2,a,y23.2.2.2.1,x0.2.2.2.2.1,y23.2.2.2.2.2) (b,c,Q.2.2)) () [0,1,2] U ?_;rintro l ⟨d,m⟩ _ h;rw[BD] at h;refine V.co ab 5 0 h U (λh=>?_) (λh=>?_)
      ·refine V.go ab 5 0 U ?_;refine V.cj (aH.iG 1 U λe=>V.ct ?_);obtain⟨j,h⟩:=bC h;refine V.go ab 1 0 ⟨e.ix j,U⟩ ?_;refine V.cj (aH.kN ab U U U U U U 1 U U (Int.toNat d) 0 (at' a d) ⟨me j,U⟩ U U U (V.ct ?_));refine V.cj (aH.pg ab 2 [] [35] [(5,.e2 35 0)] (.new 35 78 [.string (a9 (at' a d).1),.bool (at' a d).2] .nil) U ⟨⟨U,trivial⟩,(jw U U)⟩ (V.ct ?_));refine V.jz ab 2 0 U (by kernel_rfl) ?_;refine V.go ab 12 0 ⟨U,U,U,U,U,U,U⟩ ?_;obtain⟨n,f,h⟩:=jH h;refine V.toQ (kz.call U U U U (afd f) U [] U U (V.rk ?_));refine V.e9 ab 2 0 h (ρ:=Unit) (λs q=>[(0,.bj ⟨a2,1,1⟩ 0),(3,.v (.bool true)),(6,.v (.int .i64 n)),(21,.v (.slice b a.length c)),(22,.v (.int .i64 (a.length:Int))),(23,.v (.int .i64 d))]) .nil (λs q=>ei a2 (y23.1,m,a,y23.2.2.2.1,x0.2.2.2.2.1,y23.2.2.2.2.2) (b,c,Q.2.2)) U ?_ ?_
       ·intro B _ h;refine V.co ab 5 0 h U (λh=>?_) (λh=>?_)
        ·refine V.cp ab 2 0 h (Hc (Q:=(b,c,Q.2.2))) [0,0,0] [] id [0,0,0] U a5 a5 λy _ _=>y.elim
        exact V.a6 ab 1 0 h () [0,1,2] U
       rintro _ _ h
       try dsimp only at h
       exact V.el ab 12 0 h () [0,1,2] ⟨U,U,U,U⟩
      exact V.a6 ab 1 0 h () [0,1,2] U
     rintro C _ h
     try dsimp only at h
     exact V.a6 ab 7 0 h () [0,2] ⟨U,U,U,U⟩
    rintro D _ h;refine V.jm (aT.oE (.pair .str .bool) bw.nil U U (V.h7 ?_))
    try dsimp only at h
    exact V.el ab 0 0 h (none,0) [0,1,2] U
   exact V.a6 ab 1 0 h (b,c) [1,0,2] U
  rintro⟨E,F,G,H,I,J⟩ ⟨g,i⟩ h;cases h;exact V.jU ab 5 0 (g,i,Q.2.2) [1,0,0] U
def pk(x0:an)(c:aa):Option (bp an (Bool×an)):=
 (a_ (l2 x0) (λx=>x) λ(b,a)=>some (.inr ((bif(bif(decide (b.1=3)) then b.2.2 else false) then(decide (b.2.1=c)) else false),(a.1,a.2.1,x0.2.2.1,a.2.2.2.1,x0.2.2.2.2.1,a.2.2.2.2.2))))
theorem pn{x0:an}{b:aa}{a3:bI}{Q:bu}{r:bp an (Bool×an)}(h:pk x0 b=some r):
  je Tryz.prog 58 [.pointer a3,.string (a9 b)] [] [jf a3 x0 Q] (λr (_:Unit)=>jx 39 r λr=> .bool r.1) (λr _=>[jf a3 ((mg r).1,(mg r).2.1,x0.2.2.1,(mg r).2.2.2.1,x0.2.2.2.2.1,(mg r).2.2.2.2.2) Q]) r:=
 by refine V.jW (T:=cl) Tryz.call58 Tryz.func58 U λ_ _=>?_;unfold pk at h;refine V.cp ab 7 0 h qL [0] [] (λ_=>()) [0] U a5 a5 ?_;rintro⟨a,c⟩ _ h;refine V.cj (aH.pg ab 2 [] [8] [(5,.e2 8 0)] (.new 8 65 [.int .i64 a.1,.string (a9 a.2.1),.bool a.2.2] .nil) U ⟨⟨U,trivial⟩,(jw U U)⟩ (V.ct ?_));cases h;exact V.jU ab 18 0 () [0] U
def nr(x0:an)(c:aa):Option (bp an (Bool×an)):=
 (a_ (l2 x0) (λx=>x) λ(b,a)=>some (.inr ((bif(decide (b.1=2)) then(decide (b.2.1=c)) else false),(a.1,a.2.1,x0.2.2.1,a.2.2.2.1,x0.2.2.2.2.1,a.2.2.2.2.2))))
theorem p9{x0:an}{b:aa}{a3:bI}{Q:bu}{r:bp an (Bool×an)}(h:nr x0 b=some r):
  je Tryz.prog 41 [.pointer a3,.string (a9 b)] [] [jf a3 x0 Q] (λr (_:Unit)=>jx 39 r λr=> .bool r.1) (λr _=>[jf a3 ((mg r).1,(mg r).2.1,x0.2.2.1,(mg r).2.2.2.1,x0.2.2.2.2.1,(mg r).2.2.2.2.2) Q]) r:=
 by refine V.jW (T:=cl) Tryz.call41 Tryz.func41 U λ_ _=>?_;unfold nr at h;refine V.cp ab 7 0 h qL [0] [] (λ_=>()) [0] U a5 a5 ?_;rintro⟨a,c⟩ _ h;refine V.cj (aH.pg ab 2 [] [8] [(5,.e2 8 0)] (.new 8 65 [.int .i64 a.1,.string (a9 a.2.1),.bool a.2.2] .nil) U ⟨⟨U,trivial⟩,(jw U U)⟩ (V.ct ?_));cases h;exact V.jU ab 14 0 () [0] U
def D3(x0:an)(a:Int):Option (bp an (Bool×an)):=
 (bif(decide (a=0)) then(a_ (l2 x0) (λx=>x) λ(q,e)=>some (.inr ((decide (q.1=0)),(e.1,e.2.1,x0.2.2.1,e.2.2.2.1,x0.2.2.2.2.1,e.2.2.2.2.2)))) else(bif(decide (a=1)) then(a_ (nr x0 ([41]:aa)) (λx=>x) λ(r,f)=>some (.inr (r,(f.1,f.2.1,x0.2.2.1,f.2.2.2.1,x0.2.2.2.2.1,f.2.2.2.2.2)))) else(bif(decide (a=2)) then(a_ (pk x0 ([125]:aa)) (λx=>x) λ(s,g)=>some (.inr (s,(g.1,g.2.1,x0.2.2.1,g.2.2.2.1,x0.2.2.2.2.1,g.2.2.2.2.2)))) else(bif(decide (a=3)) then(a_ (pk x0 ([116,104,101,110]:aa)) (λx=>x) λ(t,h)=>some (.inr (t,(h.1,h.2.1,x0.2.2.1,h.2.2.2.1,x0.2.2.2.2.1,h.2.2.2.2.2)))) else(bif(decide (a=4)) then(a_ (pk x0 ([101,108,105,102]:aa)) (λx=>x) λ(n,b)=>(nj (n=false) (pk (b.1,b.2.1,x0.2.2.1,b.2.2.2.1,x0.2.2.2.2.1,b.2.2.2.2.2) ([101,108,115,101]:aa)) (λx=>x) (false,(b.1,b.2.1,x0.2.2.1,b.2.2.2.1,x0.2.2.2.2.1,b.2.2.2.2.2)) λ(o,c)=>(nj ((bif n then true else o)=false) (pk (c.1,c.2.1,x0.2.2.1,c.2.2.2.1,x0.2.2.2.2.1,c.2.2.2.2.2) ([102,105]:aa)) (λx=>x) (false,(c.1,c.2.1,x0.2.2.1,c.2.2.2.1,x0.2.2.2.2.1,c.2.2.2.2.2)) λ(u,i)=>some (.inr ((bif(bif n then true else o) then true else u),(i.1,i.2.1,x0.2.2.1,i.2.2.2.1,x0.2.2.2.2.1,i.2.2.2.2.2)))))) else(bif(decide (a=5)) then(a_ (pk x0 ([102,105]:aa)) (λx=>x) λ(v,j)=>some (.inr (v,(j.1,j.2.1,x0.2.2.1,j.2.2.2.1,x0.2.2.2.2.1,j.2.2.2.2.2)))) else(bif(decide (a=6)) then(a_ (pk x0 ([100,111]:aa)) (λx=>x) λ(w,k)=>some (.inr (w,(k.1,k.2.1,x0.2.2.1,k.2.2.2.1,x0.2.2.2.2.1,k.2.2.2.2.2)))) else(bif(decide (a=7)) then(a_ (pk x0 ([100,111,110,101]:aa)) (λx=>x) λ(y,l)=>some (.inr (y,(l.1,l.2.1,x0.2.2.1,l.2.2.2.1,x0.2.2.2.2.1,l.2.2.2.2.2)))) else(a_ (nr x0 ([59,59]:aa)) (λx=>x) λ(p,d)=>(nj (p=false) (pk (d.1,d.2.1,x0.2.2.1,d.2.2.2.1,x0.2.2.2.2.1,d.2.2.2.2.2) ([101,115,97,99]:aa)) (λx=>x) (false,(d.1,d.2.1,x0.2.2.1,d.2.2.2.1,x0.2.2.2.2.1,d.2.2.2.2.2)) λ(z,m)=>some (.inr ((bif p then true else z),(m.1,m.2.1,x0.2.2.1,m.2.2.2.1,x0.2.2.2.2.1,m.2.2.2.2.2)))))))))))))
theorem KG{x0:an}{l:Int}{a3:bI}{Q:bu}{r:bp an (Bool×an)}(h:D3 x0 l=some r):
  je Tryz.prog 39 [.pointer a3,.int .i64 l] [] [jf a3 x0 Q] (λr (_:Unit)=>jx 39 r λr=> .bool r.1) (λr _=>[jf a3 ((mg r).1,(mg r).2.1,x0.2.2.1,(mg r).2.2.2.1,x0.2.2.2.2.1,(mg r).2.2.2.2.2) Q]) r:=
 by
  refine V.jW (T:=cl) Tryz.call39 Tryz.func39 U λ_ _=>?_;unfold D3 at h;refine V.co ab 15 0 h U (λh=>?_) (λh=>?_)
  ·refine V.cp ab 3 0 h qL [0] [] (λ_=>()) [0] U a5 a5 ?_;rintro⟨y,z⟩ _ h;cases h;exact V.jU ab 4 0 () [0] U
  refine V.co ab 5 0 h U (λh=>?_) (λh=>?_)
  ·refine V.cp ab 3 0 h p9 [0] [] (λ_=>()) [0] U a5 a5 ?_;rintro⟨A,B⟩ _ h;cases h;exact V.jU ab 2 0 () [0] U
  refine V.co ab 5 0 h U (λh=>?_) (λh=>?_)
  ·refine V.cp ab 3 0 h pn [0] [] (λ_=>()) [0] U a5 a5 ?_;rintro⟨C,D⟩ _ h;cases h;exact V.jU ab 2 0 () [0] U
  refine V.co ab 5 0 h U (λh=>?_) (λh=>?_)
  ·refine V.cp ab 3 0 h pn [0] [] (λ_=>()) [0] U a5 a5 ?_;rintro⟨E,F⟩ _ h;cases h;exact V.jU ab 2 0 () [0] U
  refine V.co ab 5 0 h U (λh=>?_) (λh=>?_)
  ·refine V.cp ab 3 0 h pn [0] [] (λ_=>()) [0] U a5 a5 ?_;rintro⟨G,H⟩ _ h;refine V.go ab 2 0 U ?_;rcases zF h with⟨a,I,b,rfl⟩|⟨⟨J,K⟩,b,m,h⟩
   ·exact V.cj (aH.zG U U U ⟨a,trivial⟩ (pn b) U [0] U [] U (λ_=>U) (λs _=>⟨(),trivial,U,[0],_,U⟩))
   refine V.cj (aH.zE U U U U (λc=>pj.ret (pn (b c)) (λ_=>U)) U [0] U [] U U () (λn=>by cases m (λo=>n ⟨o,trivial⟩);rfl) λ_ _=>V.ct ?_);refine V.go ab 3 0 U ?_;rcases zF h with⟨d,p,e,rfl⟩|⟨⟨L,M⟩,e,f,h⟩
   ·exact V.cj (aH.zG U U U ⟨d,trivial⟩ (pn e) U [0] U [] U (λ_=>U) (λs _=>⟨(),trivial,U,[0],_,U⟩))
   refine V.cj (aH.zE U U U U (λq=>pj.ret (pn (e q)) (λ_=>U)) U [0] U [] U U () (λt=>by cases f (λu=>t ⟨u,trivial⟩);rfl) λ_ _=>V.ct ?_);cases h;exact V.jU ab 3 0 () [0] U
  refine V.co ab 5 0 h U (λh=>?_) (λh=>?_)
  ·refine V.cp ab 3 0 h pn [0] [] (λ_=>()) [0] U a5 a5 ?_;rintro⟨N,O⟩ _ h;cases h;exact V.jU ab 2 0 () [0] U
  refine V.co ab 5 0 h U (λh=>?_) (λh=>?_)
  ·refine V.cp ab 3 0 h pn [0] [] (λ_=>()) [0] U a5 a5 ?_;rintro⟨P,R⟩ _ h;cases h;exact V.jU ab 2 0 () [0] U
  refine V.co ab 5 0 h U (λh=>?_) (λh=>?_)
  ·refine V.cp ab 3 0 h pn [0] [] (λ_=>()) [0] U a5 a5 ?_;rintro⟨S,W⟩ _ h;cases h;exact V.jU ab 2 0 () [0] U
  refine V.cp ab 5 0 h p9 [0] [] (λ_=>()) [0] U a5 a5 ?_;rintro⟨X,Y⟩ _ h;refine V.go ab 2 0 U ?_;rcases zF h with⟨g,v,i,rfl⟩|⟨⟨Z,He⟩,i,j,h⟩
  ·exact V.cj (aH.zG U U U ⟨g,trivial⟩ (pn i) U [0] U [] U (λ_=>U) (λs _=>⟨(),trivial,U,[0],_,U⟩))
  refine V.cj (aH.zE U U U U (λw=>pj.ret (pn (i w)) (λ_=>U)) U [0] U [] U U () (λk=>by cases j (λx=>k ⟨x,trivial⟩);rfl) λ_ _=>V.ct ?_);cases h;exact V.jU ab 3 0 () [0] U
def KH(x0:aa)(b:bl)(c:Unit->Option Bool)(d:Int->Option Bool):Int->Option Bool:=λa=>
 (bif(decide (a<(b.length:Int))) then(a4 (0<=a/\a<(b.length:Int))<|(bif(decide ((at' b a)=x0)) then some true else d (W (a+1)))) else c ())
def BG(x0:aa)(a:aa):Option Bool:=
 (au (DY a ([32]:aa)) λ(b:bl)=>(a8 (λ(_:Unit)=>some false) λc=>(fixF (KH x0 b c) bB 0)))
theorem PN{x0:aa}{c:aa}{r:Bool}(h:BG x0 c=some r):
  FC Tryz.prog 115 [.string (a9 x0),.string (a9 c)] [] (λ_:Unit=>True) (λ_=> .bool r) (λ_=>[]):=
 by
  refine V.fM (T:=cl) Tryz.call115 Tryz.func115 U λ_=>?_;unfold BG at h;refine V.cM ab 8 0 h VQ [] U ?_;rintro a ⟨d,e⟩ h;refine V.da ab 3 0 h (ρ:=Unit) (λs q=>[]) .nil (λs q=>[]) U ?_ ?_
  ·intro j _ h;refine V.e_ ab 0 0 h (ρ:=Unit) (λs q=>[(0,.v (.string (a9 x0))),(8,.v (.slice d a.length e)),(9,.v (.int .i64 (a.length:Int))),(10,.v (.int .i64 s))]) .nil (λs q=>[hr d a e]) () [0] U ?_;rintro i f _ h;rw[KH] at h;refine V.co ab 5 0 h U (λh=>?_) (λh=>?_)
   ·refine V.go ab 5 0 U ?_;refine V.cj (aH.iG 0 U λb=>V.ct ?_);obtain⟨g,h⟩:=bC h;refine V.go ab 1 0 ⟨b.ix g,U⟩ ?_;refine V.cj (aH.load ab U U U U U U U 0 U U (Int.toNat f) 0 (at' a f) ⟨me g,U⟩ U U (V.ct ?_));refine V.co ab 8 0 h U (λh=>?_) (λh=>?_)
    ·cases h;exact V.rt ab 4 0 () [] U
    exact V.el ab 6 0 h () [0] U
   exact V.a6 ab 1 0 h () [] U
  rintro _ _ h;cases h;exact V.rt ab 4 0 () [] U
def Hj(x0:aa):Option Bool:=
 (au (BG x0 ([105,102,32,119,104,105,108,101,32,117,110,116,105,108,32,102,111,114,32,99,97,115,101,32,123]:aa)) λ(a:Bool)=>some a)
theorem aft{x0:aa}{r:Bool}(h:Hj x0=some r):
  FC Tryz.prog 106 [.string (a9 x0)] [] (λ_:Unit=>True) (λ_=> .bool r) (λ_=>[]):=
 by refine V.fM (T:=cl) Tryz.call106 Tryz.func106 U λ_=>?_;unfold Hj at h;refine V.cM ab 7 0 h PN [] U λa _ h=>?_;cases h;exact V.rt ab 2 0 () [] U
def D4(x0:an):Option (bp an (Bool×an)):=
 (a_ (l2 x0) (λx=>x) λ(a,b)=>(cY ((bif(decide (a.1=3)) then a.2.2 else false)=true/\(bif(decide (a.1=2)) then(decide (a.2.1=([40]:aa))) else false)=false) (Hj a.2.1) false λ(c:Bool)=>some (.inr ((bif(bif(decide (a.1=2)) then(decide (a.2.1=([40]:aa))) else false) then true else(bif(bif(decide (a.1=3)) then a.2.2 else false) then c else false)),(b.1,b.2.1,x0.2.2.1,b.2.2.2.1,x0.2.2.2.2.1,b.2.2.2.2.2)))))
theorem VX{x0:an}{a2:bI}{Q:bu}{r:bp an (Bool×an)}(h:D4 x0=some r):
  je Tryz.prog 86 [.pointer a2] [] [jf a2 x0 Q] (λr (_:Unit)=>jx 39 r λr=> .bool r.1) (λr _=>[jf a2 ((mg r).1,(mg r).2.1,x0.2.2.1,(mg r).2.2.2.1,x0.2.2.2.2.1,(mg r).2.2.2.2.2) Q]) r:=
 by refine V.jW (T:=cl) Tryz.call86 Tryz.func86 U λ_ _=>?_;unfold D4 at h;refine V.cp ab 7 0 h qL [0] [] (λ_=>()) [0] U a5 a5 ?_;rintro⟨a,d⟩ _ h;refine V.cj (aH.pg ab 2 [] [8] [(3,.e2 8 0)] (.new 8 65 [.int .i64 a.1,.string (a9 a.2.1),.bool a.2.2] .nil) U ⟨⟨U,trivial⟩,(jw U U)⟩ (V.ct ?_));refine V.ic ab 22 0 h aft [] U (λ_ F b c=>F ⟨b,c⟩) λe h=>?_;cases h;exact V.jU ab 4 0 () [0] U
def yd(x0:an)(a:Int):Option (bp an Empty):=
 some (.inl (2,a,x0))
theorem BH{x0:an}{b:Int}{a3:bI}{Q:bu}{r:bp an Empty}(h:yd x0 b=some r):
  je Tryz.prog 64 [.pointer a3,.int .i64 b] [] [jf a3 x0 Q] (λr (_:Unit)=>jx 39 r λr=> .tuple #[]) (λr _=>[jf a3 ((tb r).1,(tb r).2.1,x0.2.2.1,(tb r).2.2.2.1,x0.2.2.2.2.1,(tb r).2.2.2.2.2) Q]) r:=
 by refine V.jW (T:=cl) Tryz.call64 Tryz.func64 U λ_ _=>?_;unfold yd at h;refine V.go ab 3 0 U ?_;refine V.cj (aH.Vy ab U U U U U U U U (V.ct ?_));cases h;exact V.cj (aH.panic U U U (λa h w=>Vz U a h w) () trivial U [0] U)
def ye(x0:an)(b:Int)(a:aa):Option (bp an an):=
 (a8 (λ(_:Unit)=>(a4 (x0.2.2.2.2.1.length+([a]:bl).length<=536870912)<|some (.inr (x0.1,x0.2.1,x0.2.2.1,(W (x0.2.2.2.1+1)),(x0.2.2.2.2.1++([a]:bl)),x0.2.2.2.2.2)))) λc=>(bif(decide (x0.2.2.2.1=30)) then a_ (yd x0 b) (λx=>(x.1,x.2.1,x0.2.2.1,x.2.2.2.1,x0.2.2.2.2.1,x.2.2.2.2.2)) λy=>Empty.elim y else c ()))
theorem KI{x0:an}{c:Int}{b:aa}{a:bI}{Q:bu}{r:bp an an}(h:ye x0 c b=some r):
  je Tryz.prog 107 [.pointer a,.int .i64 c,.string (a9 b)] [] (ei a x0 Q) (λr (q:bu)=>jx 39 r λr=> .tuple #[]) (λr q=>ei a (jV r) q) r:=
 by
  refine V.jW (T:=cl) Tryz.call107 Tryz.func107 U λ_ _=>?_;unfold ye at h;refine V.e9 ab 0 0 h (ρ:=Unit) (λs q=>[(0,.bj ⟨a,1,1⟩ 0),(2,.v (.string (a9 b)))]) .nil (λs q=>ei a x0 Q) U ?_ ?_
  ·intro g _ h;refine V.co ab 8 0 h ⟨U,U,U,U⟩ (λh=>?_) (λh=>?_)
   ·refine V.cp ab 3 0 h BH [0] [] (λ_=>Q) [0,0,0] U a5 a5 λy _ _=>y.elim
   exact V.a6 ab 1 0 h () [0,1,2] U
  rintro _ _ h;refine V.go ab 18 0 ⟨U,U,U,U,U,U,U,U,U,U⟩ ?_;refine V.cj (aH.kj U (cL.buildSlice ab U U U U U U U U U U U [] U .str [b] ⟨U,U⟩ U U λi=>aH.kk (V.ct ?_)));obtain⟨d,h⟩:=bC h;refine V.cj (aH.p6 ab U U U U ⟨U,U,U,U,trivial,U,U,U,U⟩ U U U [3] U 0 U d U λe f=>V.ct ?_);cases h;exact V.oG ab 4 2 (Q.1,Q.2.1,e,f) [0,2,0] ⟨U,U,U,U⟩
def kD(x0:an):Option (bp an Empty):=
 (a8 (λ((c,b,d,e):aa×Int×Int×Int)=>a_ (yd (c,b,x0.2.2.1,d,x0.2.2.2.2.1,e) b) (λx=>x) λy=>Empty.elim y) λf=>(a_ (l2 x0) (λx=>x) λ(g,a)=>(bif(decide (g.1=0)) then a_ (rm (a.1,a.2.1,x0.2.2.1,a.2.2.2.1,x0.2.2.2.2.1,a.2.2.2.2.2)) (λx=>x) λy=>Empty.elim y else f (a.1,a.2.1,a.2.2.2.1,a.2.2.2.2.2))))
theorem wS{x0:an}{a2:bI}{Q:bu}{r:bp an Empty}(h:kD x0=some r):
  je Tryz.prog 43 [.pointer a2] [] [jf a2 x0 Q] (λr (_:Unit)=>jx 39 r λr=> .tuple #[]) (λr _=>[jf a2 ((tb r).1,(tb r).2.1,x0.2.2.1,(tb r).2.2.2.1,x0.2.2.2.2.1,(tb r).2.2.2.2.2) Q]) r:=
 by
  refine V.jW (T:=cl) Tryz.call43 Tryz.func43 U λ_ _=>?_;unfold kD at h;refine V.e9 ab 0 0 h (ρ:=Unit) (λs q=>[(0,.bj ⟨a2,1,1⟩ 0)]) .nil (λs q=>[jf a2 (s.1,s.2.1,x0.2.2.1,s.2.2.1,x0.2.2.2.2.1,s.2.2.2) Q]) U ?_ ?_
  ·intro a _ h;refine V.cp ab 3 0 h qL [0] [] (λ_=>()) [0] U a5 a5 ?_;rintro⟨b,c⟩ _ h;refine V.co ab 3 0 h U (λh=>?_) (λh=>?_)
   ·refine V.cp ab 2 0 h DS [0] [] (λ_=>()) [0] U a5 a5 λy _ _=>y.elim
   exact V.a6 ab 1 0 h () [0] U
  rintro⟨d,e,f,g⟩ _ h;refine V.cp ab 6 0 h BH [0] [] (λ_=>()) [0] ⟨U,U,U,U⟩ a5 a5 λy _ _=>y.elim
def ns(x0:an)(b:aa):Option (bp an an):=
 (a8 (λ((c,d,e,f):aa×Int×Int×Int)=>some (.inr (c,(W (d+(b.length:Int))),x0.2.2.1,e,x0.2.2.2.2.1,f))) λg=>(a_ (pk x0 b) (λx=>x) λ(h,a)=>(bif(!h) then a_ (kD (a.1,a.2.1,x0.2.2.1,a.2.2.2.1,x0.2.2.2.2.1,a.2.2.2.2.2)) (λx=>x) λy=>Empty.elim y else g (a.1,a.2.1,a.2.2.2.1,a.2.2.2.2.2))))
theorem wT{x0:an}{a:aa}{a3:bI}{Q:bu}{r:bp an an}(h:ns x0 a=some r):
  je Tryz.prog 109 [.pointer a3,.string (a9 a)] [] [jf a3 x0 Q] (λr (_:Unit)=>jx 39 r λr=> .tuple #[]) (λr _=>[jf a3 ((jV r).1,(jV r).2.1,x0.2.2.1,(jV r).2.2.2.1,x0.2.2.2.2.1,(jV r).2.2.2.2.2) Q]) r:=
 by
  refine V.jW (T:=cl) Tryz.call109 Tryz.func109 U λ_ _=>?_;unfold ns at h;refine V.e9 ab 0 0 h (ρ:=Unit) (λs q=>[(0,.bj ⟨a3,1,1⟩ 0),(1,.v (.string (a9 a)))]) .nil (λs q=>[jf a3 (s.1,s.2.1,x0.2.2.1,s.2.2.1,x0.2.2.2.2.1,s.2.2.2) Q]) U ?_ ?_
  ·intro b _ h;refine V.cp ab 4 0 h pn [0] [] (λ_=>()) [0] U a5 a5 ?_;rintro⟨c,d⟩ _ h;refine V.co ab 2 0 h U (λh=>?_) (λh=>?_)
   ·refine V.cp ab 2 0 h wS [0] [] (λ_=>()) [0] U a5 a5 λy _ _=>y.elim
   exact V.a6 ab 1 0 h () [0] U
  rintro⟨e,f,g,i⟩ _ h;cases h;exact V.oG ab 12 0 () [0] ⟨U,U,U,U,U,U,U⟩
def tf(R:bg)(x0:an):Option (bp an an):=
 (a_ (ns x0 ([100,111]:aa)) (λx=>(x.1,x.2.1,x0.2.2.1,x.2.2.2.1,x0.2.2.2.2.1,x.2.2.2.2.2)) λ(b:an)=>(a_ (R.kl (b.1,b.2.1,x0.2.2.1,b.2.2.2.1,x0.2.2.2.2.1,b.2.2.2.2.2) 7 false) (λx=>x) λ(d,a)=>(a_ (ns a ([100,111,110,101]:aa)) (λx=>(x.1,x.2.1,a.2.2.1,x.2.2.2.1,a.2.2.2.2.1,x.2.2.2.2.2)) λ(c:an)=>some (.inr (c.1,c.2.1,a.2.2.1,c.2.2.2.1,a.2.2.2.2.1,c.2.2.2.2.2)))))
theorem PO{R:bg}(b:h8 R){x0:an}{a2:bI}{Q:bu}{r:bp an an}(h:tf R x0=some r):
  je Tryz.prog 113 [.pointer a2] [] (ei a2 x0 Q) (λr (q:bu)=>jx 39 r λr=> .tuple #[]) (λr q=>ei a2 (jV r) q) r:=
 by refine V.jW (T:=cl) Tryz.call113 Tryz.func113 U λ_ _=>?_;unfold tf at h;refine V.cp ab 3 0 h wT [0] [] (λ_=>Q) [0,0,0] U a5 a5 λc _ h=>?_;refine V.cp ab 4 0 h b.kl [0,0,0] [] id [0,0,0] U a5 a5 ?_;rintro⟨d,e⟩ a h;refine V.cp ab 3 0 h wT [0] [] (λ_=>a) [0,0,0] U a5 a5 λf _ h=>?_;cases h;exact V.oG ab 1 0 a [0,0,0] U
def sc(x0:an)(b:aa):Option (bp an an):=
 (a8 (λ((c,d,e,f):aa×Int×Int×Int)=>some (.inr (c,(W (d+(b.length:Int))),x0.2.2.1,e,x0.2.2.2.2.1,f))) λg=>(a_ (nr x0 b) (λx=>x) λ(h,a)=>(bif(!h) then a_ (kD (a.1,a.2.1,x0.2.2.1,a.2.2.2.1,x0.2.2.2.2.1,a.2.2.2.2.2)) (λx=>x) λy=>Empty.elim y else g (a.1,a.2.1,a.2.2.2.1,a.2.2.2.2.2))))
theorem KK{x0:an}{a:aa}{a3:bI}{Q:bu}{r:bp an an}(h:sc x0 a=some r):
  je Tryz.prog 108 [.pointer a3,.string (a9 a)] [] [jf a3 x0 Q] (λr (_:Unit)=>jx 39 r λr=> .tuple #[]) (λr _=>[jf a3 ((jV r).1,(jV r).2.1,x0.2.2.1,(jV r).2.2.2.1,x0.2.2.2.2.1,(jV r).2.2.2.2.2) Q]) r:=
 by
  refine V.jW (T:=cl) Tryz.call108 Tryz.func108 U λ_ _=>?_;unfold sc at h;refine V.e9 ab 0 0 h (ρ:=Unit) (λs q=>[(0,.bj ⟨a3,1,1⟩ 0),(1,.v (.string (a9 a)))]) .nil (λs q=>[jf a3 (s.1,s.2.1,x0.2.2.1,s.2.2.1,x0.2.2.2.2.1,s.2.2.2) Q]) U ?_ ?_
  ·intro b _ h;refine V.cp ab 4 0 h p9 [0] [] (λ_=>()) [0] U a5 a5 ?_;rintro⟨c,d⟩ _ h;refine V.co ab 2 0 h U (λh=>?_) (λh=>?_)
   ·refine V.cp ab 2 0 h wS [0] [] (λ_=>()) [0] U a5 a5 λy _ _=>y.elim
   exact V.a6 ab 1 0 h () [0] U
  rintro⟨e,f,g,i⟩ _ h;cases h;exact V.oG ab 12 0 () [0] ⟨U,U,U,U,U,U,U⟩
def uk(x0:an):Option an:=
 (a4 (0<=(0:Int)/\(0:Int)<=(W ((x0.2.2.2.2.1.length:Int)-1))/\(W ((x0.2.2.2.2.1.length:Int)-1))<=(x0.2.2.2.2.1.length:Int))<|some (x0.1,x0.2.1,x0.2.2.1,(W (x0.2.2.2.1-1)),(ch x0.2.2.2.2.1 0 (W ((x0.2.2.2.2.1.length:Int)-1))),x0.2.2.2.2.2))
theorem KL{x0:an}{a2:bI}{Q:bu}{r:an}(h:uk x0=some r):
  gL Tryz.prog 114 [.pointer a2] [] (ei a2 x0 Q) (λ_:bu=>True) (λq=> .tuple #[]) (λq=>ei a2 r q):=
 by refine V.jn (T:=cl) Tryz.call114 Tryz.func114 U λ_ _=>?_;unfold uk at h;refine V.go ab 2 0 U ?_;refine V.cj (aH.iG 0 U λa=>V.ct ?_);obtain⟨d,h⟩:=bC h;refine V.go ab 9 0 ⟨U,U,U,U,U,U,U⟩ ?_;refine V.jm (aT.r7 U .nil [0] [11,12,13,14] trivial U (λe=>?_));refine bE.ph ab gn 13 [0,5] U (by kernel_rfl) [] [(9,.bj ⟨a2,1,1⟩ 0),(14,.bj ⟨a2,1,1⟩ 0)] U (fL U) (bE.eI ab gn true 8 [1,2,3,6,7] U (by kernel_rfl) [] [(12,.bj ⟨a2,1,1⟩ 4),(16,.bj ⟨a2,1,1⟩ 4)] trivial [0] U U ⟨(a.fW fX).1,a.fW fX,(a.fW fX).1,a.fW fX,(fL U)⟩ (bE.kN ab gn 4 U (by kernel_rfl) U U U U U 0 U U 0 4 (x0.1,x0.2.1,(bw.v ⟨Q.1,x0.2.2.1.length,Q.2.1⟩),(W (x0.2.2.2.1-1)),(bw.v ⟨Q.2.2.1,x0.2.2.2.2.1.length,Q.2.2.2⟩),x0.2.2.2.2.2) ⟨U,U⟩ U U U trivial [0] U (bE.kN ab gn 8 U (by kernel_rfl) U U U U U 0 U U 0 4 (x0.1,x0.2.1,(bw.v ⟨Q.1,x0.2.2.1.length,Q.2.1⟩),(W (x0.2.2.2.1-1)),(bw.v ⟨Q.2.2.1,x0.2.2.2.2.1.length,Q.2.2.2⟩),x0.2.2.2.2.2) ⟨U,U⟩ U U U trivial [0] U (bE.eI ab gn true 4 [9,10] U (by kernel_rfl) [(W ((x0.2.2.2.2.1.length:Int)-1))] [(19,.v (.int .i64 (W ((x0.2.2.2.2.1.length:Int)-1))))] trivial [0] U U ⟨⟨trivial,U⟩,⟨U,trivial⟩⟩ (bE.one 11 (by kernel_rfl) (cL.GM ab U U U U U U U U [2] U (0:Int) (W ((x0.2.2.2.2.1.length:Int)-1)) U U d U λb c=>bE.nO U (bE.ph ab gn 1 [12,13] U (by kernel_rfl) [] [(22,.bj ⟨a2,1,1⟩ 4)] U ⟨(a.fW fX).1,a.fW fX,⟨U,trivial⟩⟩ (bE.one 14 (by kernel_rfl) (cL.qI ab U U U U U U U U U [1] (fs:=[]) U 0 4 (x0.1,x0.2.1,(bw.v ⟨Q.1,x0.2.2.1.length,Q.2.1⟩),(W (x0.2.2.2.1-1)),(bw.v ⟨Q.2.2.1,x0.2.2.2.2.1.length,Q.2.2.2⟩),x0.2.2.2.2.2) (x0.1,x0.2.1,(bw.v ⟨Q.1,x0.2.2.1.length,Q.2.1⟩),(W (x0.2.2.2.1-1)),(bw.v ⟨b,(ch x0.2.2.2.2.1 0 (W ((x0.2.2.2.2.1.length:Int)-1))).length,c⟩),x0.2.2.2.2.2) ⟨U,U⟩ ⟨⟨⟨⟨⟨⟨U,U,U,U⟩,U⟩,U⟩,U⟩,U⟩,U⟩ (bE.nO U (bE.done (by kernel_rfl) (aT.boxes (B':= .nil) trivial (V.h7 ?_)))))))))))));cases h;exact V.jI ab 0 0 (Q.1,Q.2.1,b,c) [0,1,0] U
def BI(x0:aa)(e:Int->Option (Int×Int))(f:(Int×Int)->Option (Int×Int)):(Int×Int)->Option (Int×Int):=λ(b,a)=>
 (bif(decide (a<(x0.length:Int))) then(a4 (0<=a/\a<(x0.length:Int))<|(a8 (λ(g:Int)=>f (g,(W (a+1)))) λc=>(bif(decide (((at' x0 a).toNat:Int)=(40:Int))) then c (W (b+1)) else(bif(decide (((at' x0 a).toNat:Int)=(41:Int))) then(bif(decide (0<b)) then c (W (b-1)) else(bif(decide ((W (a+1))=(x0.length:Int))) then some ((-1),1) else(a4 (0<=(W (a+1))/\(W (a+1))<(x0.length:Int))<|(bif(decide (((at' x0 (W (a+1))).toNat:Int)=(41:Int))) then some ((W (a+2)),0) else some ((-2),a))))) else(a8 (λ(h:Bool)=>(bif h then some ((-2),a) else(bif(decide (((at' x0 a).toNat:Int)=(36:Int))) then(a4 (((decide ((W (a+1))<(x0.length:Int)))=true)->0<=(W (a+1))/\(W (a+1))<(x0.length:Int))<|(a4 (((decide (((at' x0 (W (a+1))).toNat:Int)=(40:Int)))=false)->((decide ((W (a+1))<(x0.length:Int)))=true)->0<=(W (a+1))/\(W (a+1))<(x0.length:Int))<|(bif(bif(decide ((W (a+1))<(x0.length:Int))) then(bif(decide (((at' x0 (W (a+1))).toNat:Int)=(40:Int))) then true else(decide (((at' x0 (W (a+1))).toNat:Int)=(123:Int)))) else false) then some ((-2),a) else c b))) else c b))) λd=>(bif(decide (((at' x0 a).toNat:Int)=(39:Int))) then d (decide (((at' x0 a).toNat:Int)=(39:Int))) else(bif(decide (((at' x0 a).toNat:Int)=(34:Int))) then d (decide (((at' x0 a).toNat:Int)=(34:Int))) else(bif(decide (((at' x0 a).toNat:Int)=(92:Int))) then d (decide (((at' x0 a).toNat:Int)=(92:Int))) else d (decide (((at' x0 a).toNat:Int)=(96:Int))))))))))) else e b)
def BJ(x0:aa)(a:Int):Option (Int×Int):=
 (au (wM a (x0.length:Int)) λ(b:Int)=>(a8 (λ(c:Int)=>some ((-1),(W (c+2)))) λd=>(fixF (BI x0 d) bB (0,b))))
theorem afv{x0:aa}{b:Int}{r:Int×Int}(h:BJ x0 b=some r):
  FC Tryz.prog 164 [.string (a9 x0),.int .i64 b] [] (λ_:Unit=>True) (λ_=> .tuple #[.int .i64 r.1,.int .i64 r.2]) (λ_=>[]):=
 by
  refine V.fM (T:=cl) Tryz.call164 Tryz.func164 U λ_=>?_;unfold BJ at h;refine V.cM ab 15 0 h KD [] U λi _ h=>?_;refine V.da ab 2 0 h (ρ:=Unit) (λs q=>[(6,.v (.int .i64 s))]) .nil (λs q=>[]) U ?_ ?_
  ·intro j _ h;refine V.e_ ab 0 0 h (ρ:=Unit) (λs q=>[(0,.v (.string (a9 x0))),(6,.v (.int .i64 s.1)),(7,.v (.int .i64 s.2))]) .nil (λs q=>[]) () [] U ?_;rintro k ⟨c,a⟩ _ h;rw[BI] at h;refine V.co ab 8 0 h U (λh=>?_) (λh=>?_)
   ·obtain⟨d,h⟩:=bC h;refine V.da ab 9 0 h (ρ:=Unit) (λs q=>[(0,.v (.string (a9 x0))),(6,.v (.int .i64 s)),(7,.v (.int .i64 a))]) .nil (λs q=>[]) ⟨d,U⟩ ?_ ?_
    ·intro l _ h;refine V.co ab 5 0 h U (λh=>?_) (λh=>?_)
     ·exact V.a6 ab 6 0 h () [] U
     refine V.co ab 5 0 h U (λh=>?_) (λh=>?_)
     ·refine V.co ab 7 0 h U (λh=>?_) (λh=>?_)
      ·exact V.a6 ab 7 0 h () [] U
      refine V.co ab 9 0 h U (λh=>?_) (λh=>?_)
      ·cases h;exact V.rt ab 5 0 () [] U
      obtain⟨e,h⟩:=bC h;refine V.co ab 9 0 h ⟨e,U⟩ (λh=>?_) (λh=>?_)
      ·cases h;exact V.rt ab 7 0 () [] U
      cases h;exact V.rt ab 6 0 () [] U
     refine V.e9 ab 0 0 h (ρ:=Unit) (λs q=>[(0,.v (.string (a9 x0))),(6,.v (.int .i64 c)),(7,.v (.int .i64 a)),(20,.v (.int .u8 ((at' x0 a).toNat:Int))),(47,.v (.bool s))]) .nil (λs q=>[]) U ?_ ?_
     ·intro m _ h;refine V.co ab 5 0 h U (λh=>?_) (λh=>?_)
      ·exact V.a6 ab 1 0 h () [] U
      refine V.co ab 5 0 h U (λh=>?_) (λh=>?_)
      ·exact V.a6 ab 1 0 h () [] U
      refine V.co ab 5 0 h U (λh=>?_) (λh=>?_)
      ·exact V.a6 ab 1 0 h () [] U
      exact V.a6 ab 4 0 h () [] U
     rintro n _ h;refine V.co ab 0 0 h U (λh=>?_) (λh=>?_)
     ·cases h;exact V.rt ab 6 0 () [] U
     refine V.co ab 5 0 h U (λh=>?_) (λh=>?_)
     ·obtain⟨f,h⟩:=bC h;obtain⟨g,h⟩:=bC h;refine V.co ab 22 0 h ⟨f,g,U⟩ (λh=>?_) (λh=>?_)
      ·cases h;exact V.rt ab 6 0 () [] U
      exact V.a6 ab 2 0 h () [] U
     exact V.a6 ab 2 0 h () [] U
    rintro o _ h
    try dsimp only at h
    exact V.el ab 6 0 h () [] U
   exact V.a6 ab 1 0 h () [] U
  rintro p _ h;cases h;exact V.rt ab 7 0 () [] U
def wU(R:bg)(x0:an):Option (bp an an):=
 (a8 (λ((g,h,i,j,k,l):an)=>some (.inr (g,h,i,j,k,l))) λc=>(a4 (0<=(W (x0.2.1+1))/\(W (x0.2.1+1))<(x0.1.length:Int))<|(bif(decide (((at' x0.1 (W (x0.2.1+1))).toNat:Int)=(123:Int))) then(a_ (ye x0 x0.2.1 ([36,123]:aa)) (λx=>x) λ(d:an)=>(a_ (R.x7 (d.1,(W (d.2.1+2)),d.2.2) (125:UInt8) true) (λx=>x) λ(m:an)=>(au (uk m) λ(n:an)=>c n))) else(a4 (((decide ((W (x0.2.1+2))<(x0.1.length:Int)))=true)->0<=(W (x0.2.1+2))/\(W (x0.2.1+2))<(x0.1.length:Int))<|(bif(bif(decide ((W (x0.2.1+2))<(x0.1.length:Int))) then(decide (((at' x0.1 (W (x0.2.1+2))).toNat:Int)=(40:Int))) else false) then(au (BJ x0.1 (W (x0.2.1+3))) λ(e,o)=>(a8 (λ(_:Unit)=>c (x0.1,e,x0.2.2)) λp=>(bif(decide (e=(-1))) then a_ (wP x0 ([36,40,40]:aa)) (λx=>x) λy=>Empty.elim y else(bif(decide (e=(-2))) then a_ (yd x0 o) (λx=>(x.1,x.2.1,x0.2.2.1,x.2.2.2.1,x0.2.2.2.2.1,x.2.2.2.2.2)) λy=>Empty.elim y else p ())))) else(a_ (ye x0 x0.2.1 ([36,40]:aa)) (λx=>x) λ(f:an)=>(a_ (R.kl (f.1,(W (f.2.1+2)),f.2.2) 1 true) (λx=>x) λ(r,a)=>(a_ (sc a ([41]:aa)) (λx=>(x.1,x.2.1,a.2.2.1,x.2.2.2.1,a.2.2.2.2.1,x.2.2.2.2.2)) λ(b:an)=>(au (uk (b.1,b.2.1,a.2.2.1,b.2.2.2.1,a.2.2.2.2.1,b.2.2.2.2.2)) λ(q:an)=>c q)))))))))
theorem afw{R:bg}(b:h8 R){x0:an}{a2:bI}{Q:bu}{r:bp an an}(h:wU R x0=some r):
  je Tryz.prog 142 [.pointer a2] [] (ei a2 x0 Q) (λr (q:bu)=>jx 39 r λr=> .tuple #[]) (λr q=>ei a2 (jV r) q) r:=
 by
  refine V.jW (T:=cl) Tryz.call142 Tryz.func142 U λ_ _=>?_;unfold wU at h;refine V.da ab 8 0 h (ρ:=bu) (λs q=>[]) .nil (λs q=>kO a2 s q) ⟨U,U,U,U⟩ ?_ ?_
  ·intro j _ h;obtain⟨c,h⟩:=bC h;refine V.co ab 12 0 h ⟨U,U,U,c,U⟩ (λh=>?_) (λh=>?_)
   ·refine V.cp ab 4 0 h KI [0,0,0] [] id [0,0,0] U a5 a5 λk l h=>?_;refine V.cp ab 15 0 h b.x7 [0,0,0] [] id [0,0,0] ⟨U,U,U,U,U,U,U⟩ a5 a5 λm n h=>?_;refine V.bH ab 3 0 h KL [0,0,0] [] U λo d h=>?_;exact V.a6 ab 2 0 h d [1,2,0] U
   obtain⟨a,h⟩:=bC h;refine V.co ab 22 0 h ⟨U,U,U,U,U,U,a,U⟩ (λh=>?_) (λh=>?_)
   ·refine V.cM ab 8 0 h afv [] ⟨U,U,U,U⟩ ?_;rintro⟨e,p⟩ _ h;refine V.da ab 11 0 h (ρ:=Unit) (λs q=>[(0,.bj ⟨a2,1,1⟩ 0),(3,.v (.int .i64 e))]) .nil (λs q=>ei a2 x0 Q) U ?_ ?_
    ·intro t _ h;refine V.co ab 5 0 h U (λh=>?_) (λh=>?_)
     ·refine V.cp ab 2 0 h Hc [0,0,0] [] id [0,0,0] U a5 a5 λy _ _=>y.elim
     refine V.co ab 5 0 h U (λh=>?_) (λh=>?_)
     ·refine V.cp ab 3 0 h BH [0] [] (λ_=>Q) [0,0,0] U a5 a5 λy _ _=>y.elim
     exact V.a6 ab 2 0 h () [0,1,2] U
    rintro _ _ h
    try dsimp only at h
    exact V.a6 ab 8 0 h Q [1,2,0] ⟨U,U,U,U⟩
   refine V.cp ab 4 0 h KI [0,0,0] [] id [0,0,0] U a5 a5 λu v h=>?_;refine V.cp ab 15 0 h b.kl [0,0,0] [] id [0,0,0] ⟨U,U,U,U,U,U,U⟩ a5 a5 ?_;rintro⟨w,x⟩ f h;refine V.cp ab 4 0 h KK [0] [] (λ_=>f) [0,0,0] U a5 a5 λz _ h=>?_;refine V.bH ab 3 0 h KL [0,0,0] [] U λA g h=>?_;exact V.a6 ab 2 0 h g [1,2,0] U
  rintro⟨B,C,D,E,F,G⟩ i h;cases h;exact V.oG ab 0 0 i [2,0,0] U
def Ho(R:bg)(x0:an):Option (bp an an):=
 (a4 (x0.2.2.2.2.1.length+([([34]:aa)]:bl).length<=536870912)<|(a_ (R.x7 (x0.1,(W (x0.2.1+1)),x0.2.2.1,x0.2.2.2.1,(x0.2.2.2.2.1++([([34]:aa)]:bl)),x0.2.2.2.2.2) (34:UInt8) false) (λx=>x) λ(a:an)=>(a4 (0<=(0:Int)/\(0:Int)<=(W ((a.2.2.2.2.1.length:Int)-1))/\(W ((a.2.2.2.2.1.length:Int)-1))<=(a.2.2.2.2.1.length:Int))<|some (.inr (a.1,a.2.1,a.2.2.1,a.2.2.2.1,(ch a.2.2.2.2.1 0 (W ((a.2.2.2.2.1.length:Int)-1))),a.2.2.2.2.2)))))
theorem afy{R:bg}(f:h8 R){x0:an}{a2:bI}{Q:bu}{r:bp an an}(h:Ho R x0=some r):
  je Tryz.prog 141 [.pointer a2] [] (ei a2 x0 Q) (λr (q:bu)=>jx 39 r λr=> .tuple #[]) (λr q=>ei a2 (jV r) q) r:=
 by refine V.jW (T:=cl) Tryz.call141 Tryz.func141 U λ_ _=>?_;unfold Ho at h;refine V.go ab 2 0 U ?_;refine V.cj (aH.iG 0 U λc=>V.ct ?_);refine V.go ab 5 0 ⟨U,U,U,U⟩ ?_;refine V.cj (aH.kj U (cL.buildSlice ab U U U U U U U U U U U [] U .str [([34]:aa)] ⟨U,U⟩ U U λm=>aH.kk (V.ct ?_)));obtain⟨g,h⟩:=bC h;refine V.cj (aH.p6 ab U U U U ⟨U,U,U,U,trivial,U,U,U,U⟩ U U U [3] U 0 U g U λi j=>V.ct ?_);refine V.go ab 3 2 ⟨U,U,U,U⟩ ?_;refine V.cp ab 15 0 h (f.x7 (Q:=(Q.1,Q.2.1,i,j))) [0,2,0] [] id [0,0,0] ⟨U,U,U,U,U,U,U⟩ a5 a5 λa b h=>?_;obtain⟨k,h⟩:=bC h;refine V.go ab 1 0 U ?_;refine V.jm (aT.r7 U .nil [0] [11,12,13,14] trivial U (λl=>?_));refine bE.ph ab rl 13 [0,5] U (by kernel_rfl) [] [(20,.bj ⟨a2,1,1⟩ 0),(25,.bj ⟨a2,1,1⟩ 0)] U (fL U) (bE.eI ab rl true 8 [1,2,3,6,7] U (by kernel_rfl) [] [(23,.bj ⟨a2,1,1⟩ 4),(27,.bj ⟨a2,1,1⟩ 4)] trivial [0] U U ⟨(c.fW fX).1,c.fW fX,(c.fW fX).1,c.fW fX,(fL U)⟩ (bE.kN ab rl 4 U (by kernel_rfl) U U U U U 0 U U 0 4 (a.1,a.2.1,(bw.v ⟨b.1,a.2.2.1.length,b.2.1⟩),a.2.2.2.1,(bw.v ⟨b.2.2.1,a.2.2.2.2.1.length,b.2.2.2⟩),a.2.2.2.2.2) ⟨U,U⟩ U U U trivial [0] U (bE.kN ab rl 8 U (by kernel_rfl) U U U U U 0 U U 0 4 (a.1,a.2.1,(bw.v ⟨b.1,a.2.2.1.length,b.2.1⟩),a.2.2.2.1,(bw.v ⟨b.2.2.1,a.2.2.2.2.1.length,b.2.2.2⟩),a.2.2.2.2.2) ⟨U,U⟩ U U U trivial [0] U (bE.eI ab rl true 4 [9,10] U (by kernel_rfl) [(W ((a.2.2.2.2.1.length:Int)-1))] [(30,.v (.int .i64 (W ((a.2.2.2.2.1.length:Int)-1))))] trivial [0] U U ⟨⟨trivial,U⟩,⟨U,trivial⟩⟩ (bE.one 11 (by kernel_rfl) (cL.GM ab U U U U U U U U [2] U (0:Int) (W ((a.2.2.2.2.1.length:Int)-1)) U U k U λd e=>bE.nO U (bE.ph ab rl 1 [12,13] U (by kernel_rfl) [] [(33,.bj ⟨a2,1,1⟩ 4)] U ⟨(c.fW fX).1,c.fW fX,⟨U,trivial⟩⟩ (bE.one 14 (by kernel_rfl) (cL.qI ab U U U U U U U U U [1] (fs:=[]) U 0 4 (a.1,a.2.1,(bw.v ⟨b.1,a.2.2.1.length,b.2.1⟩),a.2.2.2.1,(bw.v ⟨b.2.2.1,a.2.2.2.2.1.length,b.2.2.2⟩),a.2.2.2.2.2) (a.1,a.2.1,(bw.v ⟨b.1,a.2.2.1.length,b.2.1⟩),a.2.2.2.1,(bw.v ⟨d,(ch a.2.2.2.2.1 0 (W ((a.2.2.2.2.1.length:Int)-1))).length,e⟩),a.2.2.2.2.2) ⟨U,U⟩ ⟨⟨⟨⟨⟨⟨U,U,U,U⟩,U⟩,U⟩,U⟩,U⟩,U⟩ (bE.nO U (bE.done (by kernel_rfl) (aT.boxes (B':= .nil) trivial (V.h7 ?_)))))))))))));cases h;exact V.oG ab 0 0 (b.1,b.2.1,d,e) [0,1,0] U
def wV(x0:aa)(c:Unit->Option Int)(d:Int->Option Int):Int->Option Int:=λa=>
 (bif(decide (a<(x0.length:Int))) then(a4 (0<=a/\a<(x0.length:Int))<|(a8 (λ(e:Int)=>d (W (e+1))) λb=>(bif(decide (((at' x0 a).toNat:Int)=(92:Int))) then b (W (a+1)) else(bif(decide (((at' x0 a).toNat:Int)=(96:Int))) then some (W (a+1)) else b a)))) else c ())
def BM(x0:aa)(a:Int):Option Int:=
 (au (wM a (x0.length:Int)) λ(b:Int)=>(a8 (λ(_:Unit)=>some (-1)) λc=>(fixF (wV x0 c) bB b)))
theorem afz{x0:aa}{a:Int}{r:Int}(h:BM x0 a=some r):
  FC Tryz.prog 140 [.string (a9 x0),.int .i64 a] [] (λ_:Unit=>True) (λ_=> .int .i64 r) (λ_=>[]):=
 by
  refine V.fM (T:=cl) Tryz.call140 Tryz.func140 U λ_=>?_;unfold BM at h;refine V.cM ab 10 0 h KD [] U λd _ h=>?_;refine V.da ab 2 0 h (ρ:=Unit) (λs q=>[]) .nil (λs q=>[]) U ?_ ?_
  ·intro e _ h;refine V.e_ ab 0 0 h (ρ:=Unit) (λs q=>[(0,.v (.string (a9 x0))),(5,.v (.int .i64 s))]) .nil (λs q=>[]) () [] U ?_;rintro b f _ h;rw[wV] at h;refine V.co ab 8 0 h U (λh=>?_) (λh=>?_)
   ·obtain⟨c,h⟩:=bC h;refine V.da ab 9 0 h (ρ:=Unit) (λs q=>[(0,.v (.string (a9 x0))),(5,.v (.int .i64 s))]) .nil (λs q=>[]) ⟨c,U⟩ ?_ ?_
    ·intro g _ h;refine V.co ab 5 0 h U (λh=>?_) (λh=>?_)
     ·exact V.a6 ab 6 0 h () [] U
     refine V.co ab 5 0 h U (λh=>?_) (λh=>?_)
     ·cases h;exact V.rt ab 6 0 () [] U
     exact V.a6 ab 2 0 h () [] U
    rintro i _ h
    try dsimp only at h
    exact V.el ab 6 0 h () [] U
   exact V.a6 ab 1 0 h () [] U
  rintro _ _ h;cases h;exact V.rt ab 4 0 () [] U
def vz(x0:aa)(c:Int):Option Int:=
 (au (wM c (x0.length:Int)) λ(a:Int)=>(a4 (0<=a/\a<=(x0.length:Int)/\(x0.length:Int)<=(x0.length:Int))<|(au (D1 (ch x0 a (x0.length:Int)) (39:UInt8)) λ(b:Int)=>(bif(decide (b<0)) then some (-1) else some (W ((W (a+b))+1))))))
theorem PV{x0:aa}{a:Int}{r:Int}(h:vz x0 a=some r):
  FC Tryz.prog 137 [.string (a9 x0),.int .i64 a] [] (λ_:Unit=>True) (λ_=> .int .i64 r) (λ_=>[]):=
 by
  refine V.fM (T:=cl) Tryz.call137 Tryz.func137 U λ_=>?_;unfold vz at h;refine V.cM ab 9 0 h KD [] U λc _ h=>?_;obtain⟨b,h⟩:=bC h;refine V.cM ab 7 0 h VT [] ⟨b,U⟩ λd _ h=>?_;refine V.co ab 8 0 h U (λh=>?_) (λh=>?_)
  ·cases h;exact V.rt ab 4 0 () [] U
  cases h;exact V.rt ab 9 0 () [] U
def zQ(R:bg)(x0:an)(d:Bool):Option (bp an (Bool×an)):=
 (a4 (0<=x0.2.1/\x0.2.1<(x0.1.length:Int))<|(a8 (λ((e,f,g,h,i,j):an)=>some (.inr (true,(e,f,g,h,i,j)))) λa=>(bif(decide (((at' x0.1 x0.2.1).toNat:Int)=(92:Int))) then a (x0.1,(min (W (x0.2.1+2)) (x0.1.length:Int)),x0.2.2) else(bif(bif(decide (((at' x0.1 x0.2.1).toNat:Int)=(39:Int))) then d else false) then(au (vz x0.1 (W (x0.2.1+1))) λ(b:Int)=>(bif(decide (b<0)) then a_ (wP (x0.1,b,x0.2.2) ([39]:aa)) (λx=>x) λy=>Empty.elim y else a (x0.1,b,x0.2.2))) else(bif(decide (((at' x0.1 x0.2.1).toNat:Int)=(96:Int))) then(au (BM x0.1 (W (x0.2.1+1))) λ(c:Int)=>(bif(decide (c<0)) then a_ (wP (x0.1,c,x0.2.2) ([96]:aa)) (λx=>x) λy=>Empty.elim y else a (x0.1,c,x0.2.2))) else(bif(bif(decide (((at' x0.1 x0.2.1).toNat:Int)=(34:Int))) then d else false) then(a_ (Ho R x0) (λx=>x) λ(k:an)=>a k) else(au (BA x0.1 x0.2.1) λ(l:Bool)=>(bif l then(a_ (wU R x0) (λx=>x) λ(m:an)=>a m) else some (.inr (false,x0))))))))))
theorem VZ{R:bg}(a:h8 R){x0:an}{b:Bool}{a3:bI}{Q:bu}{r:bp an (Bool×an)}(h:zQ R x0 b=some r):
  je Tryz.prog 119 [.pointer a3,.bool b] [] (ei a3 x0 Q) (λr (q:bu)=>jx 39 r λr=> .bool r.1) (λr q=>ei a3 (mg r) q) r:=
 by
  refine V.jW (T:=cl) Tryz.call119 Tryz.func119 U λ_ _=>?_;unfold zQ at h;refine V.jz ab 5 0 U (by kernel_rfl) ?_;obtain⟨c,h⟩:=bC h;refine V.da ab 19 0 h (ρ:=bu) (λs q=>[]) .nil (λs q=>kO a3 s q) ⟨U,U,U,U,U,U,c,U⟩ ?_ ?_
  ·intro g _ h;refine V.co ab 6 0 h U (λh=>?_) (λh=>?_)
   ·exact V.a6 ab 12 0 h Q [1,2,0] ⟨U,U,U,U⟩
   refine V.co ab 9 0 h U (λh=>?_) (λh=>?_)
   ·refine V.cM ab 6 0 h PV [] U λi _ h=>?_;refine V.co ab 12 0 h ⟨U,U,U,U,U,U,U⟩ (λh=>?_) (λh=>?_)
    ·refine V.cp ab 2 0 h Hc [0,0,0] [] id [0,0,0] U a5 a5 λy _ _=>y.elim
    exact V.a6 ab 2 0 h Q [1,2,0] U
   refine V.co ab 6 0 h U (λh=>?_) (λh=>?_)
   ·refine V.cM ab 6 0 h afz [] U λj _ h=>?_;refine V.co ab 12 0 h ⟨U,U,U,U,U,U,U⟩ (λh=>?_) (λh=>?_)
    ·refine V.cp ab 2 0 h Hc [0,0,0] [] id [0,0,0] U a5 a5 λy _ _=>y.elim
    exact V.a6 ab 2 0 h Q [1,2,0] U
   refine V.co ab 9 0 h U (λh=>?_) (λh=>?_)
   ·refine V.cp ab 2 0 h (afy a) [0,0,0] [] id [0,0,0] U a5 a5 λk d h=>?_;exact V.a6 ab 2 0 h d [1,2,0] U
   refine V.cM ab 4 0 h VR [] U λl _ h=>?_;refine V.co ab 2 0 h U (λh=>?_) (λh=>?_)
   ·refine V.cp ab 2 0 h (afw a) [0,0,0] [] id [0,0,0] U a5 a5 λm e h=>?_;exact V.a6 ab 2 0 h e [1,2,0] U
   cases h;exact V.jU ab 4 0 Q [0,0,0] U
  rintro⟨n,o,p,t,u,v⟩ f h;cases h;exact V.jU ab 4 0 f [2,0,0] U
def KN(R:bg)(i:an->Option (bp an an))(j:an->Option (bp an an)):an->Option (bp an an):=λ(b,c,d,e,f,g)=>
 (au (wL b c) λ(k:Bool)=>(bif(!k) then(a8 (λ((l,m,n,o,p,q):an)=>j (l,m,n,o,p,q)) λh=>(a_ (zQ R (b,c,d,e,f,g) true) (λx=>x) λ(r,a)=>(bif(!r) then h (a.1,(W (a.2.1+1)),a.2.2) else h a))) else i (b,c,d,e,f,g)))
def k9(R:bg)(x0:an):Option (bp an an):=
 (a8 (λ((h,i,j,k):aa×Int×Int×Int)=>(a8 (λ((b,c,d,f,e,g):an)=>(bif(decide (c=(b.length:Int))) then a_ (rm (b,c,d,f,e,g)) (λx=>(x.1,x.2.1,d,x.2.2.2.1,e,x.2.2.2.2.2)) λy=>Empty.elim y else some (.inr (b,c,d,f,e,g)))) λl=>(fixF (KN R l) bB (h,i,x0.2.2.1,j,x0.2.2.2.2.1,k)))) λm=>(a_ (l2 x0) (λx=>(x.1,x.2.1,x0.2.2.1,x.2.2.2.1,x0.2.2.2.2.1,x.2.2.2.2.2)) λ(n,a)=>(bif(!(decide (n.1=3))) then a_ (kD (a.1,a.2.1,x0.2.2.1,a.2.2.2.1,x0.2.2.2.2.1,a.2.2.2.2.2)) (λx=>(x.1,x.2.1,x0.2.2.1,x.2.2.2.1,x0.2.2.2.2.1,x.2.2.2.2.2)) λy=>Empty.elim y else m (a.1,a.2.1,a.2.2.2.1,a.2.2.2.2.2))))
theorem BN{R:bg}(e:h8 R){x0:an}{a2:bI}{Q:bu}{r:bp an an}(h:k9 R x0=some r):
  je Tryz.prog 92 [.pointer a2] [] (ei a2 x0 Q) (λr (q:bu)=>jx 39 r λr=> .tuple #[]) (λr q=>ei a2 (jV r) q) r:=
 by
  refine V.jW (T:=cl) Tryz.call92 Tryz.func92 U λ_ _=>?_;unfold k9 at h;refine V.e9 ab 0 0 h (ρ:=Unit) (λs q=>[(0,.bj ⟨a2,1,1⟩ 0)]) .nil (λs q=>ei a2 (s.1,s.2.1,x0.2.2.1,s.2.2.1,x0.2.2.2.2.1,s.2.2.2) Q) U ?_ ?_
  ·intro i _ h;refine V.cp ab 3 0 h qL [0] [] (λ_=>Q) [0,0,0] U a5 a5 ?_;rintro⟨j,k⟩ _ h;refine V.co ab 3 0 h U (λh=>?_) (λh=>?_)
   ·refine V.cp ab 2 0 h wS [0] [] (λ_=>Q) [0,0,0] U a5 a5 λy _ _=>y.elim
   exact V.a6 ab 1 0 h () [0,1,2] U
  rintro⟨l,m,n,o⟩ _ h;refine V.da ab 1 0 h (ρ:=bu) (λs q=>[(0,.bj ⟨a2,1,1⟩ 0)]) .nil (λs q=>kO a2 s q) U ?_ ?_
  ·intro p _ h;refine V.e_ ab 0 0 h (ρ:=bu) (λs q=>[(0,.bj ⟨a2,1,1⟩ 0)]) .nil (λs q=>kO a2 s q) Q [1,2,0] U ?_;rintro f ⟨t,u,v,w,x,z⟩ g h;rw[KN] at h;refine V.jz ab 2 0 U (by kernel_rfl) ?_;refine V.go ab 8 2 ⟨U,U,U,U,U,U,U⟩ ?_;obtain⟨A,a,h⟩:=jH h;refine V.toQ (kz.call U U U U (PC a) U [] U U (V.rk ?_));refine V.co ab 2 0 h U (λh=>?_) (λh=>?_)
   ·refine V.da ab 1 0 h (ρ:=bu) (λs q=>[(0,.bj ⟨a2,1,1⟩ 0)]) .nil (λs q=>kO a2 s q) U ?_ ?_
    ·intro B _ h;refine V.cp ab 3 0 h (VZ e) [2,0,0] [] id [0,0,0] U a5 a5 ?_;rintro⟨C,D⟩ c h;refine V.co ab 2 0 h U (λh=>?_) (λh=>?_)
     ·exact V.a6 ab 11 0 h c [1,2,0] ⟨U,U,U,U,U,U,U⟩
     exact V.a6 ab 2 0 h c [1,2,0] U
    rintro⟨E,F,G,H,I,J⟩ b h
    try dsimp only at h
    exact V.el ab 0 0 h b [0,1,2] U
   exact V.a6 ab 1 0 h g [0,1,2] U
  rintro⟨K,L,M,N,O,P⟩ d h;refine V.jz ab 1 0 U (by kernel_rfl) ?_;refine V.co ab 11 2 h ⟨U,U,U,U,U,U,U⟩ (λh=>?_) (λh=>?_)
  ·refine V.cp ab 2 0 h DS [2] [] (λ_=>d) [0,0,0] U a5 a5 λy _ _=>y.elim
  cases h;exact V.oG ab 1 0 d [2,0,0] U
def vB(R:bg)(e:an->Option (bp an an))(d:an->Option (bp an an)):an->Option (bp an an):=λ(f,g,b,h,c,i)=>
 (a_ (nr (f,g,b,h,c,i) ([124]:aa)) (λx=>(x.1,x.2.1,b,x.2.2.2.1,c,x.2.2.2.2.2)) λ(j,a)=>(bif j then(a_ (k9 R (a.1,(W (a.2.1+1)),b,a.2.2.2.1,c,a.2.2.2.2.2)) (λx=>x) λ(k:an)=>d k) else e (a.1,a.2.1,b,a.2.2.2.1,c,a.2.2.2.2.2)))
def Hq(R:bg)(m:an->Option (bp an an))(j:an->Option (bp an an)):an->Option (bp an an):=λ(o,p,e,q,f,r)=>
 (a_ (pk (o,p,e,q,f,r) ([101,115,97,99]:aa)) (λx=>(x.1,x.2.1,e,x.2.2.2.1,f,x.2.2.2.2.2)) λ(s,a)=>(bif(!s) then(a8 (λ((t,u,v,w,y,z):an)=>j (t,u,v,w,y,z)) λA=>(a8 (λ((B,C,D,E):aa×Int×Int×Int)=>(a_ (k9 R (B,C,e,D,f,E)) (λx=>x) λ(g:an)=>(a8 (λ((F,G,k,H,l,I):an)=>(a_ (sc (F,G,k,H,l,I) ([41]:aa)) (λx=>(x.1,x.2.1,k,x.2.2.2.1,l,x.2.2.2.2.2)) λ(i:an)=>(a_ (R.kl (i.1,i.2.1,k,i.2.2.2.1,l,i.2.2.2.2.2) 8 true) (λx=>x) λ(M,d)=>(a_ (nr d ([59,59]:aa)) (λx=>(x.1,x.2.1,d.2.2.1,x.2.2.2.1,d.2.2.2.2.1,x.2.2.2.2.2)) λ(J,b)=>(bif(!J) then m (b.1,b.2.1,d.2.2.1,b.2.2.2.1,d.2.2.2.2.1,b.2.2.2.2.2) else(a_ (k7 (b.1,(W (b.2.1+2)),d.2.2.1,b.2.2.2.1,d.2.2.2.2.1,b.2.2.2.2.2)) (λx=>x) λ(N,h)=>A (h.1,h.2.1,h.2.2.1,h.2.2.2.1,h.2.2.2.2.1,h.2.2.2.2.2))))))) λK=>(fixF (vB R K) bB (g.1,g.2.1,g.2.2.1,g.2.2.2.1,g.2.2.2.2.1,g.2.2.2.2.2))))) λn=>(a_ (nr (a.1,a.2.1,e,a.2.2.2.1,f,a.2.2.2.2.2) ([40]:aa)) (λx=>(x.1,x.2.1,e,x.2.2.2.1,f,x.2.2.2.2.2)) λ(L,c)=>(bif L then n (c.1,(W (c.2.1+1)),c.2.2.2.1,c.2.2.2.2.2) else n (c.1,c.2.1,c.2.2.2.1,c.2.2.2.2.2))))) else m (a.1,a.2.1,e,a.2.2.2.1,f,a.2.2.2.2.2)))
def Ea(R:bg)(x0:an):Option (bp an an):=
 (a_ (k9 R x0) (λx=>x) λ(g:an)=>(a_ (k7 g) (λx=>x) λ(m,b)=>(a_ (ns b ([105,110]:aa)) (λx=>(x.1,x.2.1,b.2.2.1,x.2.2.2.1,b.2.2.2.2.1,x.2.2.2.2.2)) λ(c:an)=>(a_ (k7 (c.1,c.2.1,b.2.2.1,c.2.2.2.1,b.2.2.2.2.1,c.2.2.2.2.2)) (λx=>x) λ(n,a)=>(a8 (λ((h,i,e,j,f,k):an)=>(a_ (ns (h,i,e,j,f,k) ([101,115,97,99]:aa)) (λx=>(x.1,x.2.1,e,x.2.2.2.1,f,x.2.2.2.2.2)) λ(d:an)=>some (.inr (d.1,d.2.1,e,d.2.2.2.1,f,d.2.2.2.2.2)))) λl=>(fixF (Hq R l) bB (a.1,a.2.1,a.2.2.1,a.2.2.2.1,a.2.2.2.2.1,a.2.2.2.2.2)))))))
theorem afG{R:bg}(a:h8 R){x0:an}{a2:bI}{Q:bu}{r:bp an an}(h:Ea R x0=some r):
  je Tryz.prog 112 [.pointer a2] [] (ei a2 x0 Q) (λr (q:bu)=>jx 39 r λr=> .tuple #[]) (λr q=>ei a2 (jV r) q) r:=
 by
  refine V.jW (T:=cl) Tryz.call112 Tryz.func112 U λ_ _=>?_;unfold Ea at h;refine V.cp ab 3 0 h (BN a) [0,0,0] [] id [0,0,0] U a5 a5 λu v h=>?_;refine V.cp ab 4 0 h ui [0,0,0] [] id [0,0,0] U a5 a5 ?_;rintro⟨w,x⟩ i h;refine V.cp ab 4 0 h wT [0] [] (λ_=>i) [0,0,0] U a5 a5 λy _ h=>?_;refine V.cp ab 4 0 h ui [0,0,0] [] id [0,0,0] U a5 a5 ?_;rintro⟨z,A⟩ j h;refine V.da ab 2 0 h (ρ:=bu) (λs q=>[(0,.bj ⟨a2,1,1⟩ 0)]) .nil (λs q=>kO a2 s q) U ?_ ?_
  ·intro B _ h;refine V.e_ ab 0 0 h (ρ:=bu) (λs q=>[(0,.bj ⟨a2,1,1⟩ 0)]) .nil (λs q=>kO a2 s q) j [1,2,0] U ?_;rintro k ⟨C,D,l,E,m,F⟩ b h;rw[Hq] at h;refine V.cp ab 4 0 h pn [2] [] (λ_=>b) [0,0,0] U a5 a5 ?_;rintro⟨G,H⟩ _ h;refine V.co ab 2 0 h U (λh=>?_) (λh=>?_)
   ·refine V.da ab 1 0 h (ρ:=bu) (λs q=>[(0,.bj ⟨a2,1,1⟩ 0)]) .nil (λs q=>kO a2 s q) U ?_ ?_
    ·intro I _ h;refine V.e9 ab 0 0 h (ρ:=Unit) (λs q=>[(0,.bj ⟨a2,1,1⟩ 0)]) .nil (λs q=>ei a2 (s.1,s.2.1,l,s.2.2.1,m,s.2.2.2) b) U ?_ ?_
     ·intro J _ h;refine V.cp ab 3 0 h p9 [0] [] (λ_=>b) [0,0,0] U a5 a5 ?_;rintro⟨K,L⟩ _ h;refine V.co ab 1 0 h U (λh=>?_) (λh=>?_)
      ·exact V.a6 ab 10 0 h () [0,1,2] ⟨U,U,U,U,U,U,U⟩
      exact V.a6 ab 1 0 h () [0,1,2] U
     rintro⟨M,N,O,P⟩ _ h;refine V.cp ab 3 0 h (BN a) [0,0,0] [] id [0,0,0] U a5 a5 λS n h=>?_;refine V.da ab 2 0 h (ρ:=bu) (λs q=>[(0,.bj ⟨a2,1,1⟩ 0)]) .nil (λs q=>kO a2 s q) U ?_ ?_
     ·intro W _ h;refine V.e_ ab 0 0 h (ρ:=bu) (λs q=>[(0,.bj ⟨a2,1,1⟩ 0)]) .nil (λs q=>kO a2 s q) n [1,2,0] U ?_;rintro o ⟨X,Y,Z,jY,m3,mD⟩ e h;rw[vB] at h;refine V.cp ab 4 0 h p9 [2] [] (λ_=>e) [0,0,0] U a5 a5 ?_;rintro⟨ko,dg⟩ _ h;refine V.co ab 1 0 h U (λh=>?_) (λh=>?_)
      ·refine V.cp ab 15 0 h (BN a) [0,0,0] [] id [0,0,0] ⟨U,U,U,U,U,U,U⟩ a5 a5 λuq p h=>?_;exact V.el ab 2 0 h p [1,2,0] U
      exact V.a6 ab 1 0 h e [1,2,0] U
     rintro⟨qc,pv,m4,qd,BO,pw⟩ c h;refine V.cp ab 3 0 h KK [2] [] (λ_=>c) [0,0,0] U a5 a5 λBP _ h=>?_;refine V.cp ab 4 0 h a.kl [0,0,0] [] id [0,0,0] U a5 a5 ?_;rintro⟨V4,qO⟩ f h;refine V.cp ab 5 0 h p9 [0] [] (λ_=>f) [0,0,0] U a5 a5 ?_;rintro⟨BQ,hd⟩ _ h;refine V.co ab 2 0 h U (λh=>?_) (λh=>?_)
     ·exact V.a6 ab 1 0 h f [1,2,0] U
     refine V.cp ab 14 0 h ui [0,0,0] [] id [0,0,0] ⟨U,U,U,U,U,U,U⟩ a5 a5 ?_;rintro⟨V5,kR⟩ t h
     try dsimp only at h
     exact V.a6 ab 2 0 h t [1,2,0] U
    rintro⟨V1,V2,oL,qb,D_,ur⟩ d h
    try dsimp only at h
    exact V.el ab 0 0 h d [0,1,2] U
   exact V.a6 ab 1 0 h b [1,2,0] U
  rintro⟨V6,V7,KO,Hs,BR,Ht⟩ g h;refine V.cp ab 2 0 h wT [2] [] (λ_=>g) [0,0,0] U a5 a5 λHu _ h=>?_;cases h;exact V.oG ab 1 0 g [0,0,0] U
def zV(x0:Int)(a:Int)(b:Int):Option Bool:=
 some (bif(decide (a<=x0)) then(decide (x0<=b)) else false)
theorem P1{x0:Int}{a:Int}{b:Int}{r:Bool}(h:zV x0 a b=some r):
  FC Tryz.prog 143 [.int .i64 x0,.int .i64 a,.int .i64 b] [] (λ_:Unit=>True) (λ_=> .bool r) (λ_=>[]):=
 by refine V.fM (T:=cl) Tryz.call143 Tryz.func143 U λ_=>?_;unfold zV at h;cases h;exact V.rt ab 16 0 () [] U
def Hv(x0:Int):Option Bool:=
 (au (zV x0 97 122) λ(a:Bool)=>some a)
theorem afJ{x0:Int}{r:Bool}(h:Hv x0=some r):
  FC Tryz.prog 120 [.int .i64 x0] [] (λ_:Unit=>True) (λ_=> .bool r) (λ_=>[]):=
 by refine V.fM (T:=cl) Tryz.call120 Tryz.func120 U λ_=>?_;unfold Hv at h;refine V.cM ab 7 0 h P1 [] U λa _ h=>?_;cases h;exact V.rt ab 2 0 () [] U
def Hw(x0:Int):Option Bool:=
 (au (zV x0 65 90) λ(a:Bool)=>some a)
theorem afK{x0:Int}{r:Bool}(h:Hw x0=some r):
  FC Tryz.prog 121 [.int .i64 x0] [] (λ_:Unit=>True) (λ_=> .bool r) (λ_=>[]):=
 by refine V.fM (T:=cl) Tryz.call121 Tryz.func121 U λ_=>?_;unfold Hw at h;refine V.cM ab 7 0 h P1 [] U λa _ h=>?_;cases h;exact V.rt ab 2 0 () [] U
def Ec(x0:Int):Option Bool:=
 (au (zV x0 48 57) λ(a:Bool)=>some a)
theorem V9{x0:Int}{r:Bool}(h:Ec x0=some r):
  FC Tryz.prog 122 [.int .i64 x0] [] (λ_:Unit=>True) (λ_=> .bool r) (λ_=>[]):=
 by refine V.fM (T:=cl) Tryz.call122 Tryz.func122 U λ_=>?_;unfold Ec at h;refine V.cM ab 7 0 h P1 [] U λa _ h=>?_;cases h;exact V.rt ab 2 0 () [] U
def zW(x0:aa)(d:Unit->Option Bool)(e:Int->Option Bool):Int->Option Bool:=λa=>
 (bif(decide (a<(x0.length:Int))) then(a4 (0<=a/\a<(x0.length:Int))<|(au (Hv ((at' x0 a).toNat:Int)) λ(b:Bool)=>(cY ((!b)=true) (Hw ((at' x0 a).toNat:Int)) false λ(c:Bool)=>(cY ((decide (a=0))=false/\(bif(bif(!b) then(!c) else false) then(!(decide (((at' x0 a).toNat:Int)=95))) else false)=true) (Ec ((at' x0 a).toNat:Int)) false λ(f:Bool)=>(bif(bif(bif(bif(!b) then(!c) else false) then(!(decide (((at' x0 a).toNat:Int)=95))) else false) then(bif(decide (a=0)) then true else(!f)) else false) then some false else e (W (a+1))))))) else d ())
def zX(x0:aa):Option Bool:=
 (a8 (λ(_:Unit)=>some (!(decide (x0=[])))) λa=>(fixF (zW x0 a) bB 0))
theorem V_{x0:aa}{r:Bool}(h:zX x0=some r):
  FC Tryz.prog 93 [.string (a9 x0)] [] (λ_:Unit=>True) (λ_=> .bool r) (λ_=>[]):=
 by
  refine V.fM (T:=cl) Tryz.call93 Tryz.func93 U λ_=>?_;unfold zX at h;refine V.da ab 9 0 h (ρ:=Unit) (λs q=>[(0,.v (.string (a9 x0)))]) .nil (λs q=>[]) U ?_ ?_
  ·intro f _ h;refine V.e_ ab 0 0 h (ρ:=Unit) (λs q=>[(0,.v (.string (a9 x0))),(3,.v (.int .i64 s))]) .nil (λs q=>[]) () [] U ?_;rintro b a _ h;rw[zW] at h;refine V.co ab 8 0 h U (λh=>?_) (λh=>?_)
   ·obtain⟨c,h⟩:=bC h;refine V.go ab 5 0 U ?_;refine V.cj (aH.eI ab 5 [((at' x0 a).toNat:Int)] [] [(4,.v (.int .i64 ((at' x0 a).toNat:Int)))] _ U ⟨c,⟨trivial,Kc _⟩,⟨U,trivial⟩,U⟩ (V.ct ?_));refine V.cM ab 4 0 h afJ [] U λg _ h=>?_;refine V.ic ab 3 0 h afK [] U (λ_=>id) λi h=>?_;refine V.ic ab 11 0 h V9 [] U (λ_ F d e=>F ⟨d,e⟩) λj h=>?_;refine V.co ab 4 0 h U (λh=>?_) (λh=>?_)
    ·cases h;exact V.rt ab 4 0 () [] U
    exact V.el ab 7 0 h () [] U
   exact V.a6 ab 1 0 h () [] U
  rintro _ _ h;cases h;exact V.rt ab 6 0 () [] U
def sh(x0:an):Option (bp an an):=
 (a_ (l2 x0) (λx=>x) λ(b,a)=>(a8 (λ(_:Unit)=>some (.inr (a.1,(W (a.2.1+(b.2.1.length:Int))),x0.2.2.1,a.2.2.2.1,x0.2.2.2.2.1,a.2.2.2.2.2))) λc=>(cY ((bif(!(decide (b.1=3))) then true else(!b.2.2))=false) (zX b.2.1) false λ(d:Bool)=>(bif(bif(bif(!(decide (b.1=3))) then true else(!b.2.2)) then true else(!d)) then a_ (kD (a.1,a.2.1,x0.2.2.1,a.2.2.2.1,x0.2.2.2.2.1,a.2.2.2.2.2)) (λx=>x) λy=>Empty.elim y else c ()))))
theorem afL{x0:an}{a2:bI}{Q:bu}{r:bp an an}(h:sh x0=some r):
  je Tryz.prog 136 [.pointer a2] [] [jf a2 x0 Q] (λr (_:Unit)=>jx 39 r λr=> .tuple #[]) (λr _=>[jf a2 ((jV r).1,(jV r).2.1,x0.2.2.1,(jV r).2.2.2.1,x0.2.2.2.2.1,(jV r).2.2.2.2.2) Q]) r:=
 by
  refine V.jW (T:=cl) Tryz.call136 Tryz.func136 U λ_ _=>?_;unfold sh at h;refine V.cp ab 3 0 h qL [0] [] (λ_=>()) [0] U a5 a5 ?_;rintro⟨b,a⟩ _ h;refine V.cj (aH.pg ab 2 [] [8] [(2,.e2 8 0)] (.new 8 65 [.int .i64 b.1,.string (a9 b.2.1),.bool b.2.2] .nil) U ⟨⟨U,trivial⟩,(jw U U)⟩ (V.ct ?_));refine V.e9 ab 1 0 h (ρ:=Unit) (λs q=>[(0,.bj ⟨a2,1,1⟩ 0),(2,.e2 8 0)]) (.new 8 65 [.int .i64 b.1,.string (a9 b.2.1),.bool b.2.2] .nil) (λs q=>[jf a2 (a.1,a.2.1,x0.2.2.1,a.2.2.2.1,x0.2.2.2.2.1,a.2.2.2.2.2) Q]) U ?_ ?_
  ·intro e _ h;refine V.ic ab 13 0 h V_ [] U (λ_=>id) λf h=>?_;refine V.co ab 3 0 h U (λh=>?_) (λh=>?_)
   ·refine V.cp ab 2 0 h wS [0] [] (λ_=>()) [0] U a5 a5 λy _ _=>y.elim
   exact V.a6 ab 1 0 h () [0] U
  rintro _ _ h;refine V.jm (aT.iG 0 U λc=>V.h7 ?_);refine V.jm (aT.r7 U (.new 8 65 [.int .i64 b.1,.string (a9 b.2.1),.bool b.2.2] .nil) [0] [7,8,9,10] ⟨U,U,U,U,trivial⟩ U (λd=>?_));refine bE.eI ab rl true 5 [0,1,2,4,5,6] U (by kernel_rfl) [] [(21,.bj ⟨a2,1,1⟩ 0),(23,.bj ⟨a2,1,1⟩ 1),(27,.v (.int .i64 (b.2.1.length:Int)))] ⟨U,U,U,U,trivial⟩ [0] U U ⟨(c.fW fX).1,c.fW fX,(fL U)⟩ (bE.kN ab rl 3 U (by kernel_rfl) U U U U U 0 U U 0 1 (a.1,a.2.1,(bw.v ⟨Q.1,x0.2.2.1.length,Q.2.1⟩),a.2.2.2.1,(bw.v ⟨Q.2.2.1,x0.2.2.2.2.1.length,Q.2.2.2⟩),a.2.2.2.2.2) ⟨U,U⟩ U U U ⟨U,U,U,U,trivial⟩ [0] U (bE.ph ab rl 1 [7,8,9] U (by kernel_rfl) [(W (a.2.1+(b.2.1.length:Int)))] [(28,.v (.int .i64 (W (a.2.1+(b.2.1.length:Int))))),(30,.bj ⟨a2,1,1⟩ 1)] U ⟨⟨trivial,U⟩,(c.fW fX).1,c.fW fX,(fL U)⟩ (bE.one 10 (by kernel_rfl) (cL.qI ab U U U U U U U U U [0] (fs:=[]) U 0 1 (a.1,a.2.1,(bw.v ⟨Q.1,x0.2.2.1.length,Q.2.1⟩),a.2.2.2.1,(bw.v ⟨Q.2.2.1,x0.2.2.2.2.1.length,Q.2.2.2⟩),a.2.2.2.2.2) (a.1,(W (a.2.1+(b.2.1.length:Int))),(bw.v ⟨Q.1,x0.2.2.1.length,Q.2.1⟩),a.2.2.2.1,(bw.v ⟨Q.2.2.1,x0.2.2.2.2.1.length,Q.2.2.2⟩),a.2.2.2.2.2) ⟨U,U⟩ ⟨⟨⟨U,U,U⟩,U⟩,U⟩ (bE.nO U (bE.done (by kernel_rfl) (aT.boxes (B':= .nil) trivial (V.h7 ?_))))))));cases h;exact V.oG ab 0 0 () [0] U
def vC(R:bg)(e:an->Option (bp an an))(d:an->Option (bp an an)):an->Option (bp an an):=λ(f,g,b,h,c,i)=>
 (a_ (l2 (f,g,b,h,c,i)) (λx=>(x.1,x.2.1,b,x.2.2.2.1,c,x.2.2.2.2.2)) λ(j,a)=>(bif(decide (j.1=3)) then(a_ (k9 R (a.1,a.2.1,b,a.2.2.2.1,c,a.2.2.2.2.2)) (λx=>x) λ(k:an)=>d k) else e (a.1,a.2.1,b,a.2.2.2.1,c,a.2.2.2.2.2)))
def Ed(R:bg)(x0:an):Option (bp an an):=
 (a_ (sh x0) (λx=>(x.1,x.2.1,x0.2.2.1,x.2.2.2.1,x0.2.2.2.2.1,x.2.2.2.2.2)) λ(i:an)=>(a_ (nr (i.1,i.2.1,x0.2.2.1,i.2.2.2.1,x0.2.2.2.2.1,i.2.2.2.2.2) ([59]:aa)) (λx=>(x.1,x.2.1,x0.2.2.1,x.2.2.2.1,x0.2.2.2.2.1,x.2.2.2.2.2)) λ(m,b)=>(bif m then(a_ (k7 (b.1,(W (b.2.1+1)),x0.2.2.1,b.2.2.2.1,x0.2.2.2.2.1,b.2.2.2.2.2)) (λx=>x) λ(L,n)=>(a_ (tf R n) (λx=>x) λ(o:an)=>some (.inr o))) else(a_ (k7 (b.1,b.2.1,x0.2.2.1,b.2.2.2.1,x0.2.2.2.2.1,b.2.2.2.2.2)) (λx=>x) λ(M,a)=>(a8 (λ((p,q,r,s,t,u):an)=>(a_ (tf R (p,q,r,s,t,u)) (λx=>x) λ(v:an)=>some (.inr v))) λk=>(a_ (pk a ([105,110]:aa)) (λx=>(x.1,x.2.1,a.2.2.1,x.2.2.2.1,a.2.2.2.2.1,x.2.2.2.2.2)) λ(w,c)=>(bif w then(a_ (ns (c.1,c.2.1,a.2.2.1,c.2.2.2.1,a.2.2.2.2.1,c.2.2.2.2.2) ([105,110]:aa)) (λx=>(x.1,x.2.1,a.2.2.1,x.2.2.2.1,a.2.2.2.2.1,x.2.2.2.2.2)) λ(j:an)=>(a8 (λ((z,A,f,B,g,C):an)=>(a8 (λ((D,E,F,G):aa×Int×Int×Int)=>(a_ (k7 (D,E,f,F,g,G)) (λx=>x) λ(H,h)=>k (h.1,h.2.1,h.2.2.1,h.2.2.2.1,h.2.2.2.2.1,h.2.2.2.2.2))) λl=>(a_ (nr (z,A,f,B,g,C) ([59]:aa)) (λx=>(x.1,x.2.1,f,x.2.2.2.1,g,x.2.2.2.2.2)) λ(I,d)=>(bif I then l (d.1,(W (d.2.1+1)),d.2.2.2.1,d.2.2.2.2.2) else(a_ (l2 (d.1,d.2.1,f,d.2.2.2.1,g,d.2.2.2.2.2)) (λx=>(x.1,x.2.1,f,x.2.2.2.1,g,x.2.2.2.2.2)) λ(J,e)=>(bif(!(decide (J.1=1))) then a_ (kD (e.1,e.2.1,f,e.2.2.2.1,g,e.2.2.2.2.2)) (λx=>(x.1,x.2.1,f,x.2.2.2.1,g,x.2.2.2.2.2)) λy=>Empty.elim y else l (e.1,e.2.1,e.2.2.2.1,e.2.2.2.2.2))))))) λK=>(fixF (vC R K) bB (j.1,j.2.1,a.2.2.1,j.2.2.2.1,a.2.2.2.2.1,j.2.2.2.2.2)))) else k (c.1,c.2.1,a.2.2.1,c.2.2.2.1,a.2.2.2.2.1,c.2.2.2.2.2))))))))
theorem afO{R:bg}(c:h8 R){x0:an}{a2:bI}{Q:bu}{r:bp an an}(h:Ed R x0=some r):
  je Tryz.prog 111 [.pointer a2] [] (ei a2 x0 Q) (λr (q:bu)=>jx 39 r λr=> .tuple #[]) (λr q=>ei a2 (jV r) q) r:=
 by
  refine V.jW (T:=cl) Tryz.call111 Tryz.func111 U λ_ _=>?_;unfold Ed at h;refine V.cp ab 3 0 h afL [0] [] (λ_=>Q) [0,0,0] U a5 a5 λn _ h=>?_;refine V.cp ab 5 0 h p9 [0] [] (λ_=>Q) [0,0,0] U a5 a5 ?_;rintro⟨o,p⟩ _ h;refine V.co ab 1 0 h U (λh=>?_) (λh=>?_)
  ·refine V.cp ab 14 0 h ui [0,0,0] [] id [0,0,0] ⟨U,U,U,U,U,U,U⟩ a5 a5 ?_;rintro⟨t,u⟩ v h;refine V.cp ab 4 0 h (PO c) [0,0,0] [] id [0,0,0] U a5 a5 λw g h=>?_;cases h;exact V.jU ab 1 0 g [0,0,0] U
  refine V.cp ab 4 0 h ui [0,0,0] [] id [0,0,0] U a5 a5 ?_;rintro⟨x,z⟩ a h;refine V.e9 ab 1 0 h (ρ:=bu) (λs q=>[(0,.bj ⟨a2,1,1⟩ 0)]) .nil (λs q=>kO a2 s q) U ?_ ?_
  ·intro A _ h;refine V.cp ab 3 0 h pn [0] [] (λ_=>a) [0,0,0] U a5 a5 ?_;rintro⟨B,C⟩ _ h;refine V.co ab 1 0 h U (λh=>?_) (λh=>?_)
   ·refine V.cp ab 3 0 h wT [0] [] (λ_=>a) [0,0,0] U a5 a5 λD _ h=>?_;refine V.da ab 2 0 h (ρ:=bu) (λs q=>[(0,.bj ⟨a2,1,1⟩ 0)]) .nil (λs q=>kO a2 s q) U ?_ ?_
    ·intro E _ h;refine V.e_ ab 0 0 h (ρ:=bu) (λs q=>[(0,.bj ⟨a2,1,1⟩ 0)]) .nil (λs q=>kO a2 s q) a [1,2,0] U ?_;rintro i ⟨F,G,H,I,J,K⟩ f h;rw[vC] at h;refine V.cp ab 4 0 h qL [2] [] (λ_=>f) [0,0,0] U a5 a5 ?_;rintro⟨L,M⟩ _ h;refine V.co ab 3 0 h U (λh=>?_) (λh=>?_)
     ·refine V.cp ab 4 0 h (BN c) [0,0,0] [] id [0,0,0] U a5 a5 λN j h=>?_;exact V.el ab 2 0 h j [1,2,0] U
     exact V.a6 ab 1 0 h f [1,2,0] U
    rintro⟨O,P,k,S,l,W⟩ b h;refine V.e9 ab 0 0 h (ρ:=Unit) (λs q=>[(0,.bj ⟨a2,1,1⟩ 0)]) .nil (λs q=>ei a2 (s.1,s.2.1,k,s.2.2.1,l,s.2.2.2) b) U ?_ ?_
    ·intro X _ h;refine V.cp ab 3 0 h p9 [2] [] (λ_=>b) [0,0,0] U a5 a5 ?_;rintro⟨Y,Z⟩ _ h;refine V.co ab 1 0 h U (λh=>?_) (λh=>?_)
     ·exact V.a6 ab 10 0 h () [0,1,2] ⟨U,U,U,U,U,U,U⟩
     refine V.cp ab 3 0 h qL [0] [] (λ_=>b) [0,0,0] U a5 a5 ?_;rintro⟨iz,uw⟩ _ h;refine V.co ab 3 0 h U (λh=>?_) (λh=>?_)
     ·refine V.cp ab 2 0 h wS [0] [] (λ_=>b) [0,0,0] U a5 a5 λy _ _=>y.elim
     exact V.a6 ab 1 0 h () [0,1,2] U
    rintro⟨m4,px,py,qd⟩ _ h;refine V.cp ab 2 0 h ui [0,0,0] [] id [0,0,0] U a5 a5 ?_;rintro⟨m,BS⟩ d h
    try dsimp only at h
    exact V.a6 ab 1 0 h d [1,2,0] U
   exact V.a6 ab 1 0 h a [1,2,0] U
  rintro⟨qP,ru,Hx,Wa,Wb,zY⟩ We h;refine V.cp ab 2 0 h (PO c) [2,0,0] [] id [0,0,0] U a5 a5 λWc e h=>?_;cases h;exact V.oG ab 1 0 e [0,0,0] U
def P4(R:bg)(g:an->Option (bp an an))(f:an->Option (bp an an)):an->Option (bp an an):=λ(h,i,j,k,l,m)=>
 (a_ (R.kl (h,i,j,k,l,m) 3 false) (λx=>x) λ(o,c)=>(a_ (ns c ([116,104,101,110]:aa)) (λx=>(x.1,x.2.1,c.2.2.1,x.2.2.2.1,c.2.2.2.2.1,x.2.2.2.2.2)) λ(d:an)=>(a_ (R.kl (d.1,d.2.1,c.2.2.1,d.2.2.2.1,c.2.2.2.2.1,d.2.2.2.2.2) 4 false) (λx=>x) λ(p,a)=>(a_ (pk a ([101,108,105,102]:aa)) (λx=>(x.1,x.2.1,a.2.2.1,x.2.2.2.1,a.2.2.2.2.1,x.2.2.2.2.2)) λ(n,b)=>(bif(!n) then g (b.1,b.2.1,a.2.2.1,b.2.2.2.1,a.2.2.2.2.1,b.2.2.2.2.2) else(a_ (ns (b.1,b.2.1,a.2.2.1,b.2.2.2.1,a.2.2.2.2.1,b.2.2.2.2.2) ([101,108,105,102]:aa)) (λx=>(x.1,x.2.1,a.2.2.1,x.2.2.2.1,a.2.2.2.2.1,x.2.2.2.2.2)) λ(e:an)=>f (e.1,e.2.1,a.2.2.1,e.2.2.2.1,a.2.2.2.2.1,e.2.2.2.2.2)))))))
def Ef(R:bg)(x0:an):Option (bp an an):=
 (a8 (λ((j,k,b,l,c,m):an)=>(a8 (λ((n,o,g,p,h,q):an)=>(a_ (ns (n,o,g,p,h,q) ([102,105]:aa)) (λx=>(x.1,x.2.1,g,x.2.2.2.1,h,x.2.2.2.2.2)) λ(e:an)=>some (.inr (e.1,e.2.1,g,e.2.2.2.1,h,e.2.2.2.2.2)))) λi=>(a_ (pk (j,k,b,l,c,m) ([101,108,115,101]:aa)) (λx=>(x.1,x.2.1,b,x.2.2.2.1,c,x.2.2.2.2.2)) λ(r,a)=>(bif r then(a_ (ns (a.1,a.2.1,b,a.2.2.2.1,c,a.2.2.2.2.2) ([101,108,115,101]:aa)) (λx=>(x.1,x.2.1,b,x.2.2.2.1,c,x.2.2.2.2.2)) λ(f:an)=>(a_ (R.kl (f.1,f.2.1,b,f.2.2.2.1,c,f.2.2.2.2.2) 5 false) (λx=>x) λ(t,d)=>i (d.1,d.2.1,d.2.2.1,d.2.2.2.1,d.2.2.2.2.1,d.2.2.2.2.2))) else i (a.1,a.2.1,b,a.2.2.2.1,c,a.2.2.2.2.2))))) λs=>(fixF (P4 R s) bB (x0.1,x0.2.1,x0.2.2.1,x0.2.2.2.1,x0.2.2.2.2.1,x0.2.2.2.2.2)))
theorem afS{R:bg}(b:h8 R){x0:an}{a2:bI}{Q:bu}{r:bp an an}(h:Ef R x0=some r):
  je Tryz.prog 110 [.pointer a2] [] (ei a2 x0 Q) (λr (q:bu)=>jx 39 r λr=> .tuple #[]) (λr q=>ei a2 (jV r) q) r:=
 by
  refine V.jW (T:=cl) Tryz.call110 Tryz.func110 U λ_ _=>?_;unfold Ef at h;refine V.da ab 1 0 h (ρ:=bu) (λs q=>[(0,.bj ⟨a2,1,1⟩ 0)]) .nil (λs q=>kO a2 s q) U ?_ ?_
  ·intro i _ h;refine V.e_ ab 0 0 h (ρ:=bu) (λs q=>[(0,.bj ⟨a2,1,1⟩ 0)]) .nil (λs q=>kO a2 s q) Q [1,2,0] U ?_;rintro e ⟨j,k,l,m,n,o⟩ p h;rw[P4] at h;refine V.cp ab 4 0 h b.kl [2,0,0] [] id [0,0,0] U a5 a5 ?_;rintro⟨t,u⟩ f h;refine V.cp ab 4 0 h wT [0] [] (λ_=>f) [0,0,0] U a5 a5 λv _ h=>?_;refine V.cp ab 4 0 h b.kl [0,0,0] [] id [0,0,0] U a5 a5 ?_;rintro⟨w,x⟩ a h;refine V.cp ab 5 0 h pn [0] [] (λ_=>a) [0,0,0] U a5 a5 ?_;rintro⟨y,z⟩ _ h;refine V.co ab 2 0 h U (λh=>?_) (λh=>?_)
   ·exact V.a6 ab 1 0 h a [1,2,0] U
   refine V.cp ab 3 0 h wT [0] [] (λ_=>a) [0,0,0] U a5 a5 λA _ h=>?_;exact V.el ab 2 0 h a [1,2,0] U
  rintro⟨B,C,D,E,F,G⟩ c h;refine V.e9 ab 0 0 h (ρ:=bu) (λs q=>[(0,.bj ⟨a2,1,1⟩ 0)]) .nil (λs q=>kO a2 s q) U ?_ ?_
  ·intro H _ h;refine V.cp ab 3 0 h pn [2] [] (λ_=>c) [0,0,0] U a5 a5 ?_;rintro⟨I,J⟩ _ h;refine V.co ab 1 0 h U (λh=>?_) (λh=>?_)
   ·refine V.cp ab 3 0 h wT [0] [] (λ_=>c) [0,0,0] U a5 a5 λK _ h=>?_;refine V.cp ab 3 0 h b.kl [0,0,0] [] id [0,0,0] U a5 a5 ?_;rintro⟨L,M⟩ g h
    try dsimp only at h
    exact V.a6 ab 1 0 h g [1,2,0] U
   exact V.a6 ab 1 0 h c [1,2,0] U
  rintro⟨N,O,P,S,W,X⟩ d h;refine V.cp ab 2 0 h wT [2] [] (λ_=>d) [0,0,0] U a5 a5 λY _ h=>?_;cases h;exact V.oG ab 1 0 d [0,0,0] U
def BT(R:bg)(x0:an):Option (bp an an):=
 (a_ (l2 x0) (λx=>(x.1,x.2.1,x0.2.2.1,x.2.2.2.1,x0.2.2.2.2.1,x.2.2.2.2.2)) λ(b,d)=>(a_ (ye (d.1,d.2.1,x0.2.2.1,d.2.2.2.1,x0.2.2.2.2.1,d.2.2.2.2.2) d.2.1 b.2.1) (λx=>x) λ(a:an)=>(a8 (λ((i,j,k,l,m,n):an)=>(au (uk (i,j,k,l,m,n)) λ(o:an)=>some (.inr o))) λc=>(bif(decide (b.2.1=([40]:aa))) then(a_ (R.kl (a.1,(W (a.2.1+(b.2.1.length:Int))),a.2.2) 1 false) (λx=>x) λ(y23,e)=>(a_ (sc e ([41]:aa)) (λx=>(x.1,x.2.1,e.2.2.1,x.2.2.2.1,e.2.2.2.2.1,x.2.2.2.2.2)) λ(g:an)=>c (g.1,g.2.1,e.2.2.1,g.2.2.2.1,e.2.2.2.2.1,g.2.2.2.2.2))) else(bif(decide (b.2.1=([123]:aa))) then(a_ (R.kl (a.1,(W (a.2.1+(b.2.1.length:Int))),a.2.2) 2 false) (λx=>x) λ(u,f)=>(a_ (ns f ([125]:aa)) (λx=>(x.1,x.2.1,f.2.2.1,x.2.2.2.1,f.2.2.2.2.1,x.2.2.2.2.2)) λ(h:an)=>c (h.1,h.2.1,f.2.2.1,h.2.2.2.1,f.2.2.2.2.1,h.2.2.2.2.2))) else(bif(decide (b.2.1=([105,102]:aa))) then(a_ (Ef R (a.1,(W (a.2.1+(b.2.1.length:Int))),a.2.2)) (λx=>x) λ(p:an)=>c p) else(bif(decide (b.2.1=([102,111,114]:aa))) then(a_ (Ed R (a.1,(W (a.2.1+(b.2.1.length:Int))),a.2.2)) (λx=>x) λ(q:an)=>c q) else(bif(decide (b.2.1=([99,97,115,101]:aa))) then(a_ (Ea R (a.1,(W (a.2.1+(b.2.1.length:Int))),a.2.2)) (λx=>x) λ(r:an)=>c r) else(a_ (R.kl (a.1,(W (a.2.1+(b.2.1.length:Int))),a.2.2) 6 false) (λx=>x) λ(v,s)=>(a_ (tf R s) (λx=>x) λ(t:an)=>c t))))))))))
theorem Wi{R:bg}(a:h8 R){x0:an}{a2:bI}{Q:bu}{r:bp an an}(h:BT R x0=some r):
  je Tryz.prog 87 [.pointer a2] [] (ei a2 x0 Q) (λr (q:bu)=>jx 39 r λr=> .tuple #[]) (λr q=>ei a2 (jV r) q) r:=
 by
  refine V.jW (T:=cl) Tryz.call87 Tryz.func87 U λ_ _=>?_;unfold BT at h;refine V.cp ab 3 0 h qL [0] [] (λ_=>Q) [0,0,0] U a5 a5 ?_;rintro⟨j,k⟩ _ h;refine V.cp ab 11 0 h KI [0,0,0] [] id [0,0,0] ⟨U,U,U,U⟩ a5 a5 λl m h=>?_;refine V.da ab 19 0 h (ρ:=bu) (λs q=>[(0,.bj ⟨a2,1,1⟩ 0)]) .nil (λs q=>kO a2 s q) ⟨U,U,U,U,U,U,U⟩ ?_ ?_
  ·intro n _ h;refine V.co ab 5 0 h U (λh=>?_) (λh=>?_)
   ·refine V.cp ab 3 0 h a.kl [0,0,0] [] id [0,0,0] U a5 a5 ?_;rintro⟨y23,o⟩ b h;refine V.cp ab 3 0 h KK [0] [] (λ_=>b) [0,0,0] U a5 a5 λp _ h=>?_
    try dsimp only at h
    exact V.a6 ab 2 0 h b [1,2,0] U
   refine V.co ab 5 0 h U (λh=>?_) (λh=>?_)
   ·refine V.cp ab 3 0 h a.kl [0,0,0] [] id [0,0,0] U a5 a5 ?_;rintro⟨t,u⟩ c h;refine V.cp ab 3 0 h wT [0] [] (λ_=>c) [0,0,0] U a5 a5 λv _ h=>?_
    try dsimp only at h
    exact V.a6 ab 2 0 h c [1,2,0] U
   refine V.co ab 5 0 h U (λh=>?_) (λh=>?_)
   ·refine V.cp ab 2 0 h (afS a) [0,0,0] [] id [0,0,0] U a5 a5 λw d h=>?_;exact V.a6 ab 2 0 h d [1,2,0] U
   refine V.co ab 5 0 h U (λh=>?_) (λh=>?_)
   ·refine V.cp ab 2 0 h (afO a) [0,0,0] [] id [0,0,0] U a5 a5 λx e h=>?_;exact V.a6 ab 2 0 h e [1,2,0] U
   refine V.co ab 5 0 h U (λh=>?_) (λh=>?_)
   ·refine V.cp ab 2 0 h (afG a) [0,0,0] [] id [0,0,0] U a5 a5 λy f h=>?_;exact V.a6 ab 2 0 h f [1,2,0] U
   refine V.cp ab 3 0 h a.kl [0,0,0] [] id [0,0,0] U a5 a5 ?_;rintro⟨z,A⟩ B h;refine V.cp ab 3 0 h (PO a) [0,0,0] [] id [0,0,0] U a5 a5 λC g h=>?_;exact V.a6 ab 2 0 h g [1,2,0] U
  rintro⟨D,E,F,G,H,I⟩ J h;refine V.bH ab 2 0 h KL [2,0,0] [] U λK i h=>?_;cases h;exact V.oG ab 1 0 i [0,0,0] U
def Hz(x0:aa)(b:Unit->Option Bool)(c:Int->Option Bool):Int->Option Bool:=λa=>
 (bif(decide (a<(x0.length:Int))) then(a4 (0<=a/\a<(x0.length:Int))<|(au (Ec ((at' x0 a).toNat:Int)) λ(d:Bool)=>(bif(!d) then some false else c (W (a+1))))) else b ())
def Eh(x0:aa):Option Bool:=
 (a8 (λ(_:Unit)=>some (!(decide (x0=[])))) λa=>(fixF (Hz x0 a) bB 0))
theorem afT{x0:aa}{r:Bool}(h:Eh x0=some r):
  FC Tryz.prog 116 [.string (a9 x0)] [] (λ_:Unit=>True) (λ_=> .bool r) (λ_=>[]):=
 by
  refine V.fM (T:=cl) Tryz.call116 Tryz.func116 U λ_=>?_;unfold Eh at h;refine V.da ab 9 0 h (ρ:=Unit) (λs q=>[(0,.v (.string (a9 x0)))]) .nil (λs q=>[]) U ?_ ?_
  ·intro d _ h;refine V.e_ ab 0 0 h (ρ:=Unit) (λs q=>[(0,.v (.string (a9 x0))),(3,.v (.int .i64 s))]) .nil (λs q=>[]) () [] U ?_;rintro b a _ h;rw[Hz] at h;refine V.co ab 8 0 h U (λh=>?_) (λh=>?_)
   ·obtain⟨c,h⟩:=bC h;refine V.go ab 5 0 U ?_;refine V.cj (aH.eI ab 4 [((at' x0 a).toNat:Int)] [] [(13,.v (.int .i64 ((at' x0 a).toNat:Int)))] _ U ⟨c,⟨trivial,Kc _⟩,⟨U,trivial⟩,U⟩ (V.ct ?_));refine V.cM ab 0 0 h V9 [] U λe _ h=>?_;refine V.co ab 2 0 h U (λh=>?_) (λh=>?_)
    ·cases h;exact V.rt ab 4 0 () [] U
    exact V.el ab 7 0 h () [] U
   exact V.a6 ab 1 0 h () [] U
  rintro _ _ h;cases h;exact V.rt ab 6 0 () [] U
def Ei(x0:aa):Option Bool:=
 (au (BG x0 ([60,60,45,32,60,60,32,60,38,32,60,62,32,62,62,32,62,38,32,62,124,32,60,32,62]:aa)) λ(a:Bool)=>some a)
theorem afU{x0:aa}{r:Bool}(h:Ei x0=some r):
  FC Tryz.prog 117 [.string (a9 x0)] [] (λ_:Unit=>True) (λ_=> .bool r) (λ_=>[]):=
 by refine V.fM (T:=cl) Tryz.call117 Tryz.func117 U λ_=>?_;unfold Ei at h;refine V.cM ab 7 0 h PN [] U λa _ h=>?_;cases h;exact V.rt ab 2 0 () [] U
def si(x0:aa)(f:Unit->Option (aa×Int))(d:(aa×Int)->Option (aa×Int)):(aa×Int)->Option (aa×Int):=λ(b,a)=>
 (bif(decide (a<(x0.length:Int))) then(a4 (0<=a/\a<(x0.length:Int))<|(a8 (λ((g,h):aa×Int)=>d (g,(W (h+1)))) λc=>(bif(decide (((at' x0 a).toNat:Int)=(34:Int))) then some (b,(W (a+1))) else(a8 (λ(i:Bool)=>(bif i then some ([],(-1)) else(bif(decide (((at' x0 a).toNat:Int)=(92:Int))) then(bif(decide ((W (a+1))=(x0.length:Int))) then some ([],(-1)) else(a4 (0<=(W (a+1))/\(W (a+1))<(x0.length:Int))<|(bif(bif(bif(bif(decide (((at' x0 (W (a+1))).toNat:Int)=(36:Int))) then true else(decide (((at' x0 (W (a+1))).toNat:Int)=(34:Int)))) then true else(decide (((at' x0 (W (a+1))).toNat:Int)=(92:Int)))) then true else(decide (((at' x0 (W (a+1))).toNat:Int)=(96:Int)))) then(a4 (b.length+([(at' x0 (W (a+1)))]:aa).length<=536870912)<|c ((b++([(at' x0 (W (a+1)))]:aa)),(W (a+1)))) else(bif(!(decide (((at' x0 (W (a+1))).toNat:Int)=(10:Int)))) then(a4 (b.length+([(92:UInt8),(at' x0 (W (a+1)))]:aa).length<=536870912)<|c ((b++([(92:UInt8),(at' x0 (W (a+1)))]:aa)),(W (a+1)))) else c (b,(W (a+1))))))) else(a4 (0<=a/\a<(x0.length:Int))<|(a4 (b.length+([(at' x0 a)]:aa).length<=536870912)<|c ((b++([(at' x0 a)]:aa)),a)))))) λe=>(bif(decide (((at' x0 a).toNat:Int)=(36:Int))) then e (decide (((at' x0 a).toNat:Int)=(36:Int))) else e (decide (((at' x0 a).toNat:Int)=(96:Int)))))))) else f ())
def BW(x0:aa)(a:Int)(b:aa):Option (aa×Int):=
 (a8 (λ(_:Unit)=>some ([],(-1))) λc=>(fixF (si x0 c) bB (b,a)))
theorem Wk{x0:aa}{j:Int}{d:aa}{e:bI}{f:Nat}{r:aa×Int}(h:BW x0 j d=some r):
  gL Tryz.prog 138 [.string (a9 x0),.int .i64 j,.slice e d.length f] [] [lQ e d f] (λ_:bI×Nat=>True) (λq=> .tuple #[.slice q.1 r.1.length q.2,.int .i64 r.2]) (λq=>[lQ q.1 r.1 q.2]):=
 by
  refine V.jn (T:=cl) Tryz.call138 Tryz.func138 U λ_ _=>?_;unfold BW at h;refine V.da ab 11 0 h (ρ:=Unit) (λs q=>[]) .nil (λs q=>[]) U ?_ ?_
  ·intro C _ h;refine V.e_ ab 0 0 h (ρ:=bI×Nat) (λs q=>[(0,.v (.string (a9 x0))),(2,.v (.slice q.1 s.1.length q.2)),(8,.v (.int .i64 s.2))]) .nil (λs q=>[lQ q.1 s.1 q.2]) (e,f) [0] U ?_;rintro l ⟨k,a⟩ ⟨b,c⟩ h;rw[si] at h;refine V.co ab 8 0 h U (λh=>?_) (λh=>?_)
   ·obtain⟨m,h⟩:=bC h;refine V.da ab 9 0 h (ρ:=bI×Nat) (λs q=>[(0,.v (.string (a9 x0))),(2,.v (.slice q.1 s.1.length q.2)),(8,.v (.int .i64 s.2))]) .nil (λs q=>[lQ q.1 s.1 q.2]) ⟨m,U⟩ ?_ ?_
    ·intro D _ h;refine V.co ab 5 0 h U (λh=>?_) (λh=>?_)
     ·cases h;exact V.rx ab 8 0 (b,c) [0] U
     refine V.e9 ab 0 0 h (ρ:=Unit) (λs q=>[(0,.v (.string (a9 x0))),(2,.v (.slice b k.length c)),(8,.v (.int .i64 a)),(19,.v (.int .u8 ((at' x0 a).toNat:Int))),(31,.v (.bool s))]) .nil (λs q=>[lQ b k c]) U ?_ ?_
     ·intro E _ h;refine V.co ab 5 0 h U (λh=>?_) (λh=>?_)
      ·exact V.a6 ab 1 0 h () [0] U
      exact V.a6 ab 4 0 h () [0] U
     rintro F _ h;refine V.co ab 0 0 h U (λh=>?_) (λh=>?_)
     ·cases h;refine V.go ab 5 0 U ?_;refine V.jm (aT.oE .byte bw.nil U U (V.h7 ?_));exact V.rx ab 0 0 (none,0) [0] U
     refine V.co ab 5 0 h U (λh=>?_) (λh=>?_)
     ·refine V.co ab 14 0 h U (λh=>?_) (λh=>?_)
      ·cases h;refine V.go ab 5 0 U ?_;refine V.jm (aT.oE .byte bw.nil U U (V.h7 ?_));exact V.rx ab 0 0 (none,0) [0] U
      obtain⟨n,h⟩:=bC h;refine V.co ab 25 0 h ⟨n,U⟩ (λh=>?_) (λh=>?_)
      ·refine V.go ab 3 0 U ?_;refine V.cj (aH.kj U (cL.buildSlice ab U U U U U U U U U U U [] U .byte [(at' x0 (W (a+1)))] ⟨U,U⟩ U U λG=>aH.kk (V.ct ?_)));obtain⟨o,h⟩:=bC h;refine V.cj (aH.p6 ab U U U U ⟨U,U,U,U,trivial,U,U,U,U⟩ U U U [1] U 0 U o U λp t=>V.ct ?_);exact V.a6 ab 3 0 h (p,t) [0] U
      refine V.co ab 5 0 h U (λh=>?_) (λh=>?_)
      ·refine V.go ab 3 0 U ?_;refine V.cj (aH.kj U (cL.buildSlice ab U U U U U U U U U U U [] U .byte [(92:UInt8),(at' x0 (W (a+1)))] ⟨U,U⟩ U U λH=>aH.kk (V.ct ?_)));obtain⟨u,h⟩:=bC h;refine V.cj (aH.p6 ab U U U U ⟨U,U,U,U,trivial,U,U,U,U⟩ U U U [1] U 0 U u U λv w=>V.ct ?_);exact V.a6 ab 3 0 h (v,w) [0] U
      exact V.a6 ab 2 0 h (b,c) [0] U
     obtain⟨x,h⟩:=bC h;refine V.go ab 5 0 ⟨x,U⟩ ?_;refine V.cj (aH.kj U (cL.buildSlice ab U U U U U U U U U U U [] U .byte [(at' x0 a)] ⟨U,U⟩ U U λy=>aH.kk (V.ct ?_)));obtain⟨z,h⟩:=bC h;refine V.cj (aH.p6 ab U U U U ⟨U,U,U,U,trivial,U,U,U,U⟩ U U U [1] U 0 U z U λA B=>V.ct ?_);exact V.a6 ab 3 0 h (A,B) [0] U
    rintro⟨I,J⟩ ⟨g,i⟩ h
    try dsimp only at h
    exact V.el ab 6 0 h (g,i) [0] U
   exact V.a6 ab 1 0 h () [] U
  rintro _ _ h;cases h;refine V.go ab 5 0 U ?_;refine V.jm (aT.oE .byte bw.nil U U (V.h7 ?_));exact V.rx ab 0 0 (none,0) [0] U
def Qa(x0:aa)(a:aa):Option Bool:=match a with
 |[c]=>some (decide (0<=Lib.indexByte x0 c))
 |_=>none
theorem afY{x0:aa}{a:aa}{r:Bool}(h:Qa x0 a=some r):p1 Tryz.prog 162 [.string (a9 x0),.string (a9 a)] [] (.bool r):=by
 match a,h with
 |[c],h=>cases h;refine p1.GL Tryz.call162 λw=>?_;exact Tryz.strings_Contains_one (a9 x0) c w
 |[],h=>cases h
 |_::_::_,h=>cases h
def BX(x0:aa)(h:aa->Option (aa×Bool))(i:(aa×Int)->Option (aa×Bool)):(aa×Int)->Option (aa×Bool):=λ(b,a)=>
 (bif(decide (a<(x0.length:Int))) then(a4 (0<=a/\a<(x0.length:Int))<|(a8 (λ((j,k):aa×Int)=>i (j,k)) λd=>(bif(decide (((at' x0 a).toNat:Int)=(92:Int))) then(bif(decide ((W (a+1))=(x0.length:Int))) then some ([],false) else(a8 (λ(l:aa)=>d (l,(W (a+2)))) λe=>(a4 (0<=(W (a+1))/\(W (a+1))<(x0.length:Int))<|(bif(!(decide (((at' x0 (W (a+1))).toNat:Int)=(10:Int)))) then(a4 (0<=(W (a+1))/\(W (a+1))<(x0.length:Int))<|(a4 (b.length+([(at' x0 (W (a+1)))]:aa).length<=536870912)<|e (b++([(at' x0 (W (a+1)))]:aa)))) else e b)))) else(bif(decide (((at' x0 a).toNat:Int)=(39:Int))) then(au (vz x0 (W (a+1))) λ(c:Int)=>(bif(decide (c<0)) then some ([],false) else(a4 (0<=(W (a+1))/\(W (a+1))<=(W (c-1))/\(W (c-1))<=(x0.length:Int))<|(a4 (b.length+(ch x0 (W (a+1)) (W (c-1))).length<=536870912)<|d ((b++(ch x0 (W (a+1)) (W (c-1)))),c))))) else(bif(decide (((at' x0 a).toNat:Int)=(34:Int))) then(au (BW x0 (W (a+1)) b) λ(m,f)=>(bif(decide (f<0)) then some ([],false) else d (m,f))) else(a8 (λ(n:Bool)=>(bif n then some ([],false) else(a4 (0<=a/\a<(x0.length:Int))<|(a4 (b.length+([(at' x0 a)]:aa).length<=536870912)<|d ((b++([(at' x0 a)]:aa)),(W (a+1))))))) λg=>(bif(decide (((at' x0 a).toNat:Int)=(36:Int))) then g (decide (((at' x0 a).toNat:Int)=(36:Int))) else g (decide (((at' x0 a).toNat:Int)=(96:Int)))))))))) else h b)
def wW(x0:aa):Option (aa×Bool):=
 (a8 (λ(a:aa)=>(au (Qa a ([10]:aa)) λ(b:Bool)=>(bif b then some ([],false) else some (a,true)))) λc=>(fixF (BX x0 c) bB (([]:aa),0)))
theorem afZ{x0:aa}{r:aa×Bool}(h:wW x0=some r):
  FC Tryz.prog 139 [.string (a9 x0)] [] (λ_:Unit=>True) (λ_=> .tuple #[.string (a9 r.1),.bool r.2]) (λ_=>[]):=
 by
  refine V.fM (T:=cl) Tryz.call139 Tryz.func139 U λ_=>?_;unfold wW at h;refine V.da ab 14 0 h (ρ:=bI×Nat) (λs q=>[(4,.v (.slice q.1 s.length q.2))]) .nil (λs q=>[lQ q.1 s q.2]) U ?_ ?_
  ·intro D _ h;refine V.jm (aT.oE .byte bw.nil U U (V.h7 ?_));refine V.e_ ab 0 0 h (ρ:=bI×Nat) (λs q=>[(0,.v (.string (a9 x0))),(4,.v (.slice q.1 s.1.length q.2)),(5,.v (.int .i64 s.2))]) .nil (λs q=>[lQ q.1 s.1 q.2]) (none,0) [0] U ?_;rintro E ⟨k,a⟩ ⟨a3,b⟩ h;rw[BX] at h;refine V.co ab 8 0 h U (λh=>?_) (λh=>?_)
   ·obtain⟨l,h⟩:=bC h;refine V.da ab 8 0 h (ρ:=bI×Nat) (λs q=>[(0,.v (.string (a9 x0))),(4,.v (.slice q.1 s.1.length q.2)),(5,.v (.int .i64 s.2))]) .nil (λs q=>[lQ q.1 s.1 q.2]) ⟨l,U⟩ ?_ ?_
    ·intro F _ h;refine V.co ab 5 0 h U (λh=>?_) (λh=>?_)
     ·refine V.co ab 9 0 h U (λh=>?_) (λh=>?_)
      ·cases h;exact V.rt ab 5 0 () [] U
      refine V.e9 ab 1 0 h (ρ:=bI×Nat) (λs q=>[(0,.v (.string (a9 x0))),(4,.v (.slice q.1 s.length q.2)),(5,.v (.int .i64 a))]) .nil (λs q=>[lQ q.1 s q.2]) U ?_ ?_
      ·intro G _ h;obtain⟨m,h⟩:=bC h;refine V.co ab 8 0 h ⟨m,U⟩ (λh=>?_) (λh=>?_)
       ·obtain⟨n,h⟩:=bC h;refine V.go ab 6 0 ⟨n,U⟩ ?_;refine V.cj (aH.kj U (cL.buildSlice ab U U U U U U U U U U U [] U .byte [(at' x0 (W (a+1)))] ⟨U,U⟩ U U λH=>aH.kk (V.ct ?_)));obtain⟨o,h⟩:=bC h;refine V.cj (aH.p6 ab U U U U ⟨U,U,U,U,trivial,U,U,U,U⟩ U U U [1] U 0 U o U λc d=>V.ct ?_);exact V.a6 ab 2 0 h (c,d) [0] U
       exact V.a6 ab 1 0 h (a3,b) [0] U
      rintro I ⟨p,t⟩ h
      try dsimp only at h
      exact V.a6 ab 6 0 h (p,t) [0] U
     refine V.co ab 5 0 h U (λh=>?_) (λh=>?_)
     ·refine V.cM ab 5 0 h PV [] U λJ _ h=>?_;refine V.co ab 8 0 h U (λh=>?_) (λh=>?_)
      ·cases h;exact V.rt ab 5 0 () [] U
      obtain⟨u,h⟩:=bC h;obtain⟨v,h⟩:=bC h;refine V.go ab 10 0 ⟨u,U⟩ ?_;refine V.cj (aH.adL ab U U U U ⟨U,U,U,U,trivial,U,U,U,U⟩ U U [0] U v U λw x=>V.ct ?_);exact V.a6 ab 7 0 h (w,x) [0] U
     refine V.co ab 5 0 h U (λh=>?_) (λh=>?_)
     ·refine V.bH ab 6 0 h Wk [0] [] U ?_;rintro⟨K,L⟩ ⟨y,z⟩ h;refine V.co ab 12 0 h U (λh=>?_) (λh=>?_)
      ·cases h;exact V.rt ab 5 0 () [] U
      exact V.a6 ab 11 0 h (y,z) [0] U
     refine V.e9 ab 0 0 h (ρ:=Unit) (λs q=>[(0,.v (.string (a9 x0))),(4,.v (.slice a3 k.length b)),(5,.v (.int .i64 a)),(77,.v (.bool s))]) .nil (λs q=>[lQ a3 k b]) U ?_ ?_
     ·intro M _ h;refine V.co ab 5 0 h U (λh=>?_) (λh=>?_)
      ·exact V.a6 ab 1 0 h () [0] U
      exact V.a6 ab 4 0 h () [0] U
     rintro N _ h;refine V.co ab 0 0 h U (λh=>?_) (λh=>?_)
     ·cases h;exact V.rt ab 5 0 () [] U
     obtain⟨A,h⟩:=bC h;refine V.go ab 6 0 ⟨A,U⟩ ?_;refine V.cj (aH.kj U (cL.buildSlice ab U U U U U U U U U U U [] U .byte [(at' x0 a)] ⟨U,U⟩ U U λO=>aH.kk (V.ct ?_)));obtain⟨e,h⟩:=bC h;refine V.cj (aH.p6 ab U U U U ⟨U,U,U,U,trivial,U,U,U,U⟩ U U U [1] U 0 U e U λf g=>V.ct ?_);exact V.a6 ab 8 0 h (f,g) [0] U
    rintro⟨P,Q⟩ ⟨i,j⟩ h
    try dsimp only at h
    exact V.el ab 1 0 h (i,j) [0] U
   exact V.a6 ab 1 0 h (a3,b) [0] U
  rintro R ⟨B,C⟩ h;refine V.go ab 3 0 U ?_;refine V.cj (aH.strOf ab U U U U U U U U 0 U U (V.ct ?_));refine V.cM ab 6 0 h afY [] U λS _ h=>?_;refine V.co ab 1 0 h U (λh=>?_) (λh=>?_)
  ·cases h;exact V.rt ab 5 0 () [] U
  cases h;exact V.rt ab 7 0 () [] U
def yj(x0:an)(b:aa)(f:Int)(g:Int)(h:Int)(m:(aa×Int)->Option (bp an an))(e:(aa×Int)->Option (bp an an)):(aa×Int)->Option (bp an an):=λ(c,a)=>
 (au (wL b a) λ(n:Bool)=>(bif(bif(!n) then(decide (c=[])) else false) then(a4 (0<=a/\a<(b.length:Int))<|(a8 (λ((o,p):aa×Int)=>e (o,p)) λd=>(bif(decide (((at' b a).toNat:Int)=(92:Int))) then d (c,(W (a+2))) else(bif(decide (((at' b a).toNat:Int)=(39:Int))) then(au (vz b (W (a+1))) λ(i:Int)=>(a8 (λ(_:Unit)=>d (c,i)) λq=>(bif(decide (i<0)) then a_ (yd (b,a,x0.2.2.1,g,x0.2.2.2.2.1,h) f) (λx=>(x.1,x.2.1,x0.2.2.1,x.2.2.2.1,x0.2.2.2.2.1,x.2.2.2.2.2)) λy=>Empty.elim y else q ()))) else(a8 (λ(r:Bool)=>(bif r then a_ (yd (b,a,x0.2.2.1,g,x0.2.2.2.2.1,h) f) (λx=>(x.1,x.2.1,x0.2.2.1,x.2.2.2.1,x0.2.2.2.2.1,x.2.2.2.2.2)) λy=>Empty.elim y else(bif(decide (((at' b a).toNat:Int)=(34:Int))) then(au (BW b (W (a+1)) ([]:aa)) λ(u,j)=>(a8 (λ((s,t):aa×Int)=>d (s,t)) λk=>(bif(decide (j<0)) then k (([34]:aa),(b.length:Int)) else k (c,j)))) else d (c,(W (a+1)))))) λl=>(bif(decide (((at' b a).toNat:Int)=(36:Int))) then l (decide (((at' b a).toNat:Int)=(36:Int))) else l (decide (((at' b a).toNat:Int)=(96:Int))))))))) else m (c,a)))
def yk(x0:an)(h:Bool):Option (bp an an):=
 (a8 (λ((a,d,f,g):aa×Int×Int×Int)=>(a8 (λ((i,b):aa×Int)=>(a4 (0<=d/\d<=(min b (a.length:Int))/\(min b (a.length:Int))<=(a.length:Int))<|(a4 ((((ch a d (min b (a.length:Int))).length+i.length:Nat):Int)<=9223372036854775807)<|(au (wW ((ch a d (min b (a.length:Int)))++i)) λ(e,j)=>(a8 (λ(_:Unit)=>(a8 (λ(_:Unit)=>(a8 (λ(_:Unit)=>(a4 (x0.2.2.1.length+([(e,h)]:ao).length<=536870912)<|some (.inr (a,b,(x0.2.2.1++([(e,h)]:ao)),f,x0.2.2.2.2.1,g)))) λk=>(bif(decide ((a.length:Int)<=b)) then a_ (rm (a,b,x0.2.2.1,f,x0.2.2.2.2.1,g)) (λx=>(x.1,x.2.1,x0.2.2.1,x.2.2.2.1,x0.2.2.2.2.1,x.2.2.2.2.2)) λy=>Empty.elim y else k ()))) λl=>(bif(!(decide (i=[]))) then a_ (wP (a,b,x0.2.2.1,f,x0.2.2.2.2.1,g) i) (λx=>x) λy=>Empty.elim y else l ()))) λm=>(a4 (((bif h then(!(decide (e=[]))) else false)=true)->((!j)=false)->0<=(0:Int)/\0<(e.length:Int))<|(bif(bif(!j) then true else(bif(bif h then(!(decide (e=[]))) else false) then(decide (((at' e 0).toNat:Int)=(9:Int))) else false)) then a_ (yd (a,b,x0.2.2.1,f,x0.2.2.2.2.1,g) d) (λx=>(x.1,x.2.1,x0.2.2.1,x.2.2.2.1,x0.2.2.2.2.1,x.2.2.2.2.2)) λy=>Empty.elim y else m ()))))))) λn=>(fixF (yj x0 a d f g n) bB ([],d)))) λo=>(a_ (l2 x0) (λx=>(x.1,x.2.1,x0.2.2.1,x.2.2.2.1,x0.2.2.2.2.1,x.2.2.2.2.2)) λ(p,c)=>(bif(!(decide (p.1=3))) then a_ (kD (c.1,c.2.1,x0.2.2.1,c.2.2.2.1,x0.2.2.2.2.1,c.2.2.2.2.2)) (λx=>(x.1,x.2.1,x0.2.2.1,x.2.2.2.1,x0.2.2.2.2.1,x.2.2.2.2.2)) λy=>Empty.elim y else o (c.1,c.2.1,c.2.2.2.1,c.2.2.2.2.2))))
theorem af8{x0:an}{a:Bool}{a3:bI}{Q:bu}{r:bp an an}(h:yk x0 a=some r):
  je Tryz.prog 118 [.pointer a3,.bool a] [] (ei a3 x0 Q) (λr (q:bu)=>jx 39 r λr=> .tuple #[]) (λr q=>ei a3 (jV r) q) r:=
 by
  refine V.jW (T:=cl) Tryz.call118 Tryz.func118 U λ_ _=>?_;unfold yk at h;refine V.e9 ab 0 0 h (ρ:=Unit) (λs q=>[(0,.bj ⟨a3,1,1⟩ 0),(1,.v (.bool a))]) .nil (λs q=>ei a3 (s.1,s.2.1,x0.2.2.1,s.2.2.1,x0.2.2.2.2.1,s.2.2.2) Q) U ?_ ?_
  ·intro I _ h;refine V.cp ab 3 0 h qL [0] [] (λ_=>Q) [0,0,0] U a5 a5 ?_;rintro⟨J,K⟩ _ h;refine V.co ab 3 0 h U (λh=>?_) (λh=>?_)
   ·refine V.cp ab 2 0 h wS [0] [] (λ_=>Q) [0,0,0] U a5 a5 λy _ _=>y.elim
   exact V.a6 ab 1 0 h () [0,1,2] U
  rintro⟨b,f,c,d⟩ _ h;refine V.da ab 13 0 h (ρ:=Unit) (λs q=>[(0,.bj ⟨a3,1,1⟩ 0),(1,.v (.bool a)),(4,.v (.int .i64 f)),(5,.v (.string (a9 s.1)))]) .nil (λs q=>ei a3 (b,s.2,x0.2.2.1,c,x0.2.2.2.2.1,d) Q) ⟨U,U,U,U⟩ ?_ ?_
  ·intro L _ h;refine V.e_ ab 0 0 h (ρ:=Unit) (λs q=>[(0,.bj ⟨a3,1,1⟩ 0),(1,.v (.bool a)),(4,.v (.int .i64 f)),(5,.v (.string (a9 s.1)))]) .nil (λs q=>ei a3 (b,s.2,x0.2.2.1,c,x0.2.2.2.2.1,d) Q) () [0,1,2] U ?_;rintro x ⟨w,e⟩ _ h;rw[yj] at h;refine V.jz ab 2 0 U (by kernel_rfl) ?_;refine V.go ab 8 0 ⟨U,U,U,U,U,U,U⟩ ?_;obtain⟨M,j,h⟩:=jH h;refine V.toQ (kz.call U U U U (PC j) U [] U U (V.rk ?_));refine V.co ab 6 0 h U (λh=>?_) (λh=>?_)
   ·obtain⟨z,h⟩:=bC h;refine V.jz ab 3 0 U (by kernel_rfl) ?_;refine V.da ab 10 0 h (ρ:=Unit) (λs q=>[(0,.bj ⟨a3,1,1⟩ 0),(1,.v (.bool a)),(4,.v (.int .i64 f)),(5,.v (.string (a9 s.1)))]) .nil (λs q=>ei a3 (b,s.2,x0.2.2.1,c,x0.2.2.2.2.1,d) Q) ⟨U,U,U,U,U,U,z,U⟩ ?_ ?_
    ·intro N _ h;refine V.co ab 5 0 h U (λh=>?_) (λh=>?_)
     ·exact V.a6 ab 11 0 h () [0,1,2] ⟨U,U,U,U,U,U,U⟩
     refine V.co ab 5 0 h U (λh=>?_) (λh=>?_)
     ·refine V.jz ab 1 0 U (by kernel_rfl) ?_;refine V.go ab 9 0 ⟨U,U,U,U,U,U,U⟩ ?_;obtain⟨A,B,h⟩:=jH h;refine V.toQ (kz.call U U U U (PV B) U [] U U (V.rk ?_));refine V.e9 ab 2 0 h (ρ:=Unit) (λs q=>[(0,.bj ⟨a3,1,1⟩ 0),(1,.v (.bool a)),(4,.v (.int .i64 f)),(5,.v (.string (a9 w))),(6,.v (.int .i64 A))]) .nil (λs q=>ei a3 (b,e,x0.2.2.1,c,x0.2.2.2.2.1,d) Q) U ?_ ?_
      ·intro O _ h;refine V.co ab 5 0 h U (λh=>?_) (λh=>?_)
       ·refine V.cp ab 3 0 h BH [0] [] (λ_=>Q) [0,0,0] U a5 a5 λy _ _=>y.elim
       exact V.a6 ab 1 0 h () [0,1,2] U
      rintro _ _ h
      try dsimp only at h
      exact V.a6 ab 8 0 h () [0,1,2] ⟨U,U,U,U⟩
     refine V.e9 ab 0 0 h (ρ:=Unit) (λs q=>[(0,.bj ⟨a3,1,1⟩ 0),(1,.v (.bool a)),(4,.v (.int .i64 f)),(5,.v (.string (a9 w))),(43,.v (.int .u8 ((at' b e).toNat:Int))),(81,.v (.bool s))]) .nil (λs q=>ei a3 (b,e,x0.2.2.1,c,x0.2.2.2.2.1,d) Q) U ?_ ?_
     ·intro P _ h;refine V.co ab 5 0 h U (λh=>?_) (λh=>?_)
      ·exact V.a6 ab 1 0 h () [0,1,2] U
      exact V.a6 ab 4 0 h () [0,1,2] U
     rintro R _ h;refine V.co ab 0 0 h U (λh=>?_) (λh=>?_)
     ·refine V.cp ab 3 0 h BH [0] [] (λ_=>Q) [0,0,0] U a5 a5 λy _ _=>y.elim
     refine V.co ab 5 0 h U (λh=>?_) (λh=>?_)
     ·refine V.go ab 1 0 U ?_;refine V.jm (aT.iG 0 U λg=>V.h7 ?_);obtain⟨⟨S,C⟩,k,h⟩:=jH h;refine V.jm (aT.r7 U .nil [0] [9,10,11,12,13,14] trivial U (λD=>?_));refine bE.ph ab rl 12 [0,4,5] U (by kernel_rfl) [] [(90,.bj ⟨a3,1,1⟩ 0),(95,.bj ⟨a3,1,1⟩ 0)] U ⟨(g.fW fX).1,(fL U)⟩ (bE.eI ab rl true 9 [1,2,6] U (by kernel_rfl) [] [(92,.bj ⟨a3,1,1⟩ 0),(96,.bj ⟨a3,1,1⟩ 1)] trivial [0] U U ⟨(g.fW fX).1,g.fW fX,g.fW fX,(fL U)⟩ (bE.kN ab rl 3 U (by kernel_rfl) U U U U U 0 U U 0 0 (b,e,(bw.v ⟨Q.1,x0.2.2.1.length,Q.2.1⟩),c,(bw.v ⟨Q.2.2.1,x0.2.2.2.2.1.length,Q.2.2.2⟩),d) ⟨U,U⟩ U U U trivial [0] U (bE.kN ab rl 7 U (by kernel_rfl) U U U U U 0 U U 0 1 (b,e,(bw.v ⟨Q.1,x0.2.2.1.length,Q.2.1⟩),c,(bw.v ⟨Q.2.2.1,x0.2.2.2.2.1.length,Q.2.2.2⟩),d) ⟨U,U⟩ U U U trivial [0] U (bE.eI ab rl true 6 [8] U (by kernel_rfl) [(W (e+1))] [(98,.v (.int .i64 (W (e+1))))] trivial [0] U U ⟨⟨trivial,U⟩,⟨U,trivial⟩⟩ (bE.one 9 (by kernel_rfl) (cL.oE .byte bw.nil U U (cL.p4 U U U U (Wk k) U [0] U [] U U ?_)))))));rintro⟨E,F⟩-;refine bE.nO U (bE.ph ab rl 0 [10,11,12,13,14] U (by kernel_rfl) [] [(8,.v (.int .i64 C))] U ⟨U,trivial⟩ (bE.done (by kernel_rfl) (aT.boxes (B':= .nil) trivial (V.h7 ?_))));refine V.e9 ab 0 0 h (ρ:=Unit) (λs q=>[(0,.bj ⟨a3,1,1⟩ 0),(1,.v (.bool a)),(4,.v (.int .i64 f)),(5,.v (.string (a9 s.1))),(8,.v (.int .i64 s.2))]) .nil (λs q=>ei a3 (b,e,x0.2.2.1,c,x0.2.2.2.2.1,d) Q) U ?_ ?_
      ·intro X _ h;refine V.co ab 5 0 h U (λh=>?_) (λh=>?_)
       ·exact V.a6 ab 12 1 h () [1,2,3] ⟨U,U,U,U⟩
       exact V.a6 ab 1 0 h () [1,2,3] U
      rintro⟨Y,Z⟩ _ h
      try dsimp only at h
      exact V.a6 ab 8 0 h () [0,1,2] ⟨U,U,U,U⟩
     exact V.a6 ab 11 0 h () [0,1,2] ⟨U,U,U,U,U,U,U⟩
    rintro⟨lS,rA⟩ _ h
    try dsimp only at h
    exact V.el ab 1 0 h () [0,1,2] U
   exact V.a6 ab 1 0 h () [0,1,2] U
  rintro⟨G,l⟩ _ h;obtain⟨m,h⟩:=bC h;obtain⟨n,h⟩:=bC h;refine V.jz ab 1 0 U (by kernel_rfl) ?_;refine V.go ab 18 0 ⟨U,U,U,U,U,U,U,U,U,m,n,U⟩ ?_;obtain⟨⟨i,Qg⟩,o,h⟩:=jH h;refine V.toQ (kz.call U U U U (afZ o) U [] U U (V.rk ?_));refine V.e9 ab 6 0 h (ρ:=Unit) (λs q=>[(0,.bj ⟨a3,1,1⟩ 0),(1,.v (.bool a)),(5,.v (.string (a9 G))),(9,.v (.string (a9 i)))]) .nil (λs q=>ei a3 (b,l,x0.2.2.1,c,x0.2.2.2.2.1,d) Q) U ?_ ?_
  ·intro Wq _ h;obtain⟨p,h⟩:=bC h;refine V.co ab 17 0 h ⟨p,U⟩ (λh=>?_) (λh=>?_)
   ·refine V.cp ab 3 0 h BH [0] [] (λ_=>Q) [0,0,0] U a5 a5 λy _ _=>y.elim
   exact V.a6 ab 1 0 h () [0,1,2] U
  rintro _ _ h;refine V.e9 ab 0 0 h (ρ:=Unit) (λs q=>[(0,.bj ⟨a3,1,1⟩ 0),(1,.v (.bool a)),(9,.v (.string (a9 i)))]) .nil (λs q=>ei a3 (b,l,x0.2.2.1,c,x0.2.2.2.2.1,d) Q) U ?_ ?_
  ·intro Wp _ h;refine V.co ab 5 0 h U (λh=>?_) (λh=>?_)
   ·refine V.cp ab 3 0 h Hc [0,0,0] [] id [0,0,0] U a5 a5 λy _ _=>y.elim
   exact V.a6 ab 1 0 h () [0,1,2] U
  rintro _ _ h;refine V.e9 ab 0 0 h (ρ:=Unit) (λs q=>[(0,.bj ⟨a3,1,1⟩ 0),(1,.v (.bool a)),(9,.v (.string (a9 i)))]) .nil (λs q=>ei a3 (b,l,x0.2.2.1,c,x0.2.2.2.2.1,d) Q) U ?_ ?_
  ·intro Wo _ h;refine V.jz ab 1 0 U (by kernel_rfl) ?_;refine V.co ab 11 0 h ⟨U,U,U,U,U,U,U⟩ (λh=>?_) (λh=>?_)
   ·refine V.cp ab 2 0 h DS [0] [] (λ_=>Q) [0,0,0] U a5 a5 λy _ _=>y.elim
   exact V.a6 ab 1 0 h () [0,1,2] U
  rintro _ _ h;refine V.go ab 9 0 ⟨U,U,U,U⟩ ?_;refine V.cj (aH.kj U (cL.buildSlice ab U U U U U U U U U U U [] U (.pair .str .bool) [(i,a)] ⟨U,U⟩ U U λH=>aH.kk (V.ct ?_)));obtain⟨t,h⟩:=bC h;refine V.cj (aH.p6 ab U U U U ⟨U,U,U,U,trivial,U,U,U,U⟩ U U U [2] U 0 U t U λu v=>V.ct ?_);cases h;exact V.oG ab 4 2 (u,v,Q.2.2) [0,0,1] ⟨U,U,U,U⟩
def yl(R:bg)(x0:an):Option (bp an (Bool×an)):=
 (a_ (l2 x0) (λx=>(x.1,x.2.1,x0.2.2.1,x.2.2.2.1,x0.2.2.2.2.1,x.2.2.2.2.2)) λ(b,a)=>(a8 (λ(d:Int)=>(au (zM a.1 d) λ(c:aa)=>(au (Ei c) λ(g:Bool)=>(bif(!g) then some (.inr (false,(a.1,a.2.1,x0.2.2.1,a.2.2.2.1,x0.2.2.2.2.1,a.2.2.2.2.2))) else(a8 (λ((h,i,j,k,l,m):an)=>some (.inr (true,(h,i,j,k,l,m)))) λe=>(bif(bif(decide (c=([60,60]:aa))) then true else(decide (c=([60,60,45]:aa)))) then(a_ (yk (a.1,(W (d+(c.length:Int))),x0.2.2.1,a.2.2.2.1,x0.2.2.2.2.1,a.2.2.2.2.2) (decide (c=([60,60,45]:aa)))) (λx=>x) λ(n:an)=>e n) else(a_ (k9 R (a.1,(W (d+(c.length:Int))),x0.2.2.1,a.2.2.2.1,x0.2.2.2.2.1,a.2.2.2.2.2)) (λx=>x) λ(o:an)=>e o))))))) λf=>(cY ((bif(decide (b.1=3)) then b.2.2 else false)=true) (Eh b.2.1) false λ(p:Bool)=>(bif(bif(bif(decide (b.1=3)) then b.2.2 else false) then p else false) then f (W (a.2.1+(b.2.1.length:Int))) else f a.2.1))))
theorem Qi{R:bg}(d:h8 R){x0:an}{a2:bI}{Q:bu}{r:bp an (Bool×an)}(h:yl R x0=some r):
  je Tryz.prog 90 [.pointer a2] [] (ei a2 x0 Q) (λr (q:bu)=>jx 39 r λr=> .bool r.1) (λr q=>ei a2 (mg r) q) r:=
 by
  refine V.jW (T:=cl) Tryz.call90 Tryz.func90 U λ_ _=>?_;unfold yl at h;refine V.cp ab 7 0 h qL [0] [] (λ_=>Q) [0,0,0] U a5 a5 ?_;rintro⟨b,a⟩ _ h;refine V.cj (aH.pg ab 2 [] [8] [(3,.e2 8 0)] (.new 8 65 [.int .i64 b.1,.string (a9 b.2.1),.bool b.2.2] .nil) U ⟨⟨U,trivial⟩,(jw U U)⟩ (V.ct ?_));refine V.e9 ab 9 0 h (ρ:=Unit) (λs q=>[(0,.bj ⟨a2,1,1⟩ 0),(4,.v (.int .i64 s))]) .nil (λs q=>ei a2 (a.1,a.2.1,x0.2.2.1,a.2.2.2.1,x0.2.2.2.2.1,a.2.2.2.2.2) Q) ⟨U,U,U,U⟩ ?_ ?_
  ·intro g _ h;refine V.ic ab 12 0 h afT [] U (λ_=>id) λi h=>?_;refine V.co ab 2 0 h U (λh=>?_) (λh=>?_)
   ·exact V.a6 ab 8 0 h () [0,1,2] U
   exact V.a6 ab 1 0 h () [0,1,2] U
  rintro j _ h;refine V.cM ab 7 0 h PB [] ⟨U,U,U,U⟩ λk _ h=>?_;refine V.cM ab 6 0 h afU [] U λl _ h=>?_;refine V.co ab 2 0 h U (λh=>?_) (λh=>?_)
  ·cases h;exact V.jU ab 4 0 Q [0,0,0] U
  refine V.e9 ab 12 0 h (ρ:=bu) (λs q=>[]) .nil (λs q=>kO a2 s q) ⟨U,U,U,U⟩ ?_ ?_
  ·intro m _ h;refine V.co ab 9 0 h U (λh=>?_) (λh=>?_)
   ·refine V.cp ab 4 0 h af8 [0,0,0] [] id [0,0,0] U a5 a5 λn e h=>?_;exact V.a6 ab 1 0 h e [1,2,0] U
   refine V.cp ab 2 0 h (BN d) [0,0,0] [] id [0,0,0] U a5 a5 λo c h=>?_;exact V.a6 ab 1 0 h c [1,2,0] U
  rintro⟨p,t,u,v,w,x⟩ f h;cases h;exact V.jU ab 4 0 f [2,0,0] U
def Qj(R:bg)(b:an->Option (bp an an))(c:an->Option (bp an an)):an->Option (bp an an):=λ(d,e,f,g,h,i)=>
 (a_ (yl R (d,e,f,g,h,i)) (λx=>x) λ(j,a)=>(bif j then c a else b a))
def Ej(R:bg)(x0:an):Option (bp an an):=
 (a8 (λ((a,b,c,d,e,f):an)=>some (.inr (a,b,c,d,e,f))) λg=>(fixF (Qj R g) bB (x0.1,x0.2.1,x0.2.2.1,x0.2.2.2.1,x0.2.2.2.2.1,x0.2.2.2.2.2)))
theorem Wr{R:bg}(b:h8 R){x0:an}{a2:bI}{Q:bu}{r:bp an an}(h:Ej R x0=some r):
  je Tryz.prog 88 [.pointer a2] [] (ei a2 x0 Q) (λr (q:bu)=>jx 39 r λr=> .tuple #[]) (λr q=>ei a2 (jV r) q) r:=
 by
  refine V.jW (T:=cl) Tryz.call88 Tryz.func88 U λ_ _=>?_;unfold Ej at h;refine V.da ab 0 0 h (ρ:=bu) (λs q=>[]) .nil (λs q=>kO a2 s q) U ?_ ?_
  ·intro d _ h;refine V.e_ ab 0 0 h (ρ:=bu) (λs q=>[(0,.bj ⟨a2,1,1⟩ 0)]) .nil (λs q=>kO a2 s q) Q [1,2,0] U ?_;rintro e ⟨f,g,i,j,k,l⟩ m h;rw[Qj] at h;refine V.cp ab 4 0 h (Qi b) [2,0,0] [] id [0,0,0] U a5 a5 ?_;rintro⟨n,o⟩ a h;refine V.co ab 1 0 h U (λh=>?_) (λh=>?_)
   ·exact V.el ab 4 0 h a [1,2,0] U
   exact V.a6 ab 1 0 h a [1,2,0] U
  rintro⟨p,t,u,v,w,x⟩ c h;cases h;exact V.oG ab 0 0 c [2,0,0] U
def HD(x0:aa):Option Bool:=
 (au (BG x0 ([105,102,32,116,104,101,110,32,101,108,105,102,32,101,108,115,101,32,102,105,32,100,111,32,100,111,110,101,32,119,104,105,108,101,32,117,110,116,105,108,32,102,111,114,32,99,97,115,101,32,101,115,97,99,32,123,32,125,32,33]:aa)) λ(a:Bool)=>some a)
theorem agk{x0:aa}{r:Bool}(h:HD x0=some r):
  FC Tryz.prog 89 [.string (a9 x0)] [] (λ_:Unit=>True) (λ_=> .bool r) (λ_=>[]):=
 by refine V.fM (T:=cl) Tryz.call89 Tryz.func89 U λ_=>?_;unfold HD at h;refine V.cM ab 7 0 h PN [] U λa _ h=>?_;cases h;exact V.rt ab 2 0 () [] U
def Ql(R:bg)(d:an->Option (bp an an)):an->Option (bp an an):=λ(e,f,g,h,i,j)=>
 (a8 (λ((k,l,m,n,o,p):an)=>d (k,l,m,n,o,p)) λc=>(a_ (yl R (e,f,g,h,i,j)) (λx=>x) λ(q,a)=>(bif q then c a else(a_ (l2 a) (λx=>(x.1,x.2.1,a.2.2.1,x.2.2.2.1,a.2.2.2.2.1,x.2.2.2.2.2)) λ(r,b)=>(bif(!(decide (r.1=3))) then some (.inr (b.1,b.2.1,a.2.2.1,b.2.2.2.1,a.2.2.2.2.1,b.2.2.2.2.2)) else(a_ (k9 R (b.1,b.2.1,a.2.2.1,b.2.2.2.1,a.2.2.2.2.1,b.2.2.2.2.2)) (λx=>x) λ(s:an)=>c s))))))
def z5(R:bg)(x0:an):Option (bp an an):=
 (fixF (Ql R) bB (x0.1,x0.2.1,x0.2.2.1,x0.2.2.2.1,x0.2.2.2.2.1,x0.2.2.2.2.2))
theorem Ws{R:bg}(b:h8 R){x0:an}{a2:bI}{Q:bu}{r:bp an an}(h:z5 R x0=some r):
  je Tryz.prog 91 [.pointer a2] [] (ei a2 x0 Q) (λr (q:bu)=>jx 39 r λr=> .tuple #[]) (λr q=>ei a2 (jV r) q) r:=
 by
  refine V.jW (T:=cl) Tryz.call91 Tryz.func91 U λ_ _=>?_;unfold z5 at h;refine V.e_ ab 1 0 h (ρ:=bu) (λs q=>[(0,.bj ⟨a2,1,1⟩ 0)]) .nil (λs q=>kO a2 s q) Q [1,2,0] U ?_;rintro e ⟨f,g,i,j,k,l⟩ m h;rw[Ql] at h;refine V.da ab 0 0 h (ρ:=bu) (λs q=>[(0,.bj ⟨a2,1,1⟩ 0)]) .nil (λs q=>kO a2 s q) U ?_ ?_
  ·intro n _ h;refine V.cp ab 4 0 h (Qi b) [2,0,0] [] id [0,0,0] U a5 a5 ?_;rintro⟨o,p⟩ a h;refine V.co ab 1 0 h U (λh=>?_) (λh=>?_)
   ·exact V.a6 ab 1 0 h a [1,2,0] U
   refine V.cp ab 5 0 h qL [0] [] (λ_=>a) [0,0,0] U a5 a5 ?_;rintro⟨t,u⟩ _ h;refine V.co ab 3 0 h U (λh=>?_) (λh=>?_)
   ·cases h;exact V.jU ab 0 0 a [0,0,0] U
   refine V.cp ab 3 0 h (BN b) [0,0,0] [] id [0,0,0] U a5 a5 λv c h=>?_;exact V.a6 ab 2 0 h c [1,2,0] U
  rintro⟨w,x,y,z,A,B⟩ d h
  try dsimp only at h
  exact V.el ab 0 0 h d [0,1,2] U
def HE(R:bg)(x0:an):Option (bp an an):=
 (a8 (λ(_:Unit)=>(a_ (ye x0 x0.2.1 ([102,40,41]:aa)) (λx=>x) λ(c:an)=>(a_ (sc (c.1,(W (c.2.1+1)),c.2.2) ([41]:aa)) (λx=>(x.1,x.2.1,c.2.2.1,x.2.2.2.1,c.2.2.2.2.1,x.2.2.2.2.2)) λ(d:an)=>(a_ (k7 (d.1,d.2.1,c.2.2.1,d.2.2.2.1,c.2.2.2.2.1,d.2.2.2.2.2)) (λx=>x) λ(n,a)=>(a8 (λ((e,f,g,h):aa×Int×Int×Int)=>(a_ (BT R (e,f,a.2.2.1,g,a.2.2.2.2.1,h)) (λx=>x) λ(i:an)=>(au (uk i) λ(j:an)=>some (.inr j)))) λk=>(a_ (D4 a) (λx=>(x.1,x.2.1,a.2.2.1,x.2.2.2.1,a.2.2.2.2.1,x.2.2.2.2.2)) λ(l,b)=>(bif(!l) then a_ (kD (b.1,b.2.1,a.2.2.1,b.2.2.2.1,a.2.2.2.2.1,b.2.2.2.2.2)) (λx=>(x.1,x.2.1,a.2.2.1,x.2.2.2.1,a.2.2.2.2.1,x.2.2.2.2.2)) λy=>Empty.elim y else k (b.1,b.2.1,b.2.2.2.1,b.2.2.2.2.2)))))))) λm=>(bif(decide (30<(W (x0.2.2.2.1+2)))) then a_ (yd x0 x0.2.1) (λx=>(x.1,x.2.1,x0.2.2.1,x.2.2.2.1,x0.2.2.2.2.1,x.2.2.2.2.2)) λy=>Empty.elim y else m ()))
theorem agl{R:bg}(c:h8 R){x0:an}{a2:bI}{Q:bu}{r:bp an an}(h:HE R x0=some r):
  je Tryz.prog 94 [.pointer a2] [] (ei a2 x0 Q) (λr (q:bu)=>jx 39 r λr=> .tuple #[]) (λr q=>ei a2 (jV r) q) r:=
 by
  refine V.jW (T:=cl) Tryz.call94 Tryz.func94 U λ_ _=>?_;unfold HE at h;refine V.e9 ab 0 0 h (ρ:=Unit) (λs q=>[(0,.bj ⟨a2,1,1⟩ 0)]) .nil (λs q=>ei a2 x0 Q) U ?_ ?_
  ·intro f _ h;refine V.co ab 9 0 h ⟨U,U,U,U⟩ (λh=>?_) (λh=>?_)
   ·refine V.cp ab 6 0 h BH [0] [] (λ_=>Q) [0,0,0] ⟨U,U,U,U⟩ a5 a5 λy _ _=>y.elim
   exact V.a6 ab 1 0 h () [0,1,2] U
  rintro _ _ h;refine V.cp ab 7 0 h KI [0,0,0] [] id [0,0,0] ⟨U,U,U,U⟩ a5 a5 λg d h=>?_;refine V.cp ab 15 0 h KK [0] [] (λ_=>d) [0,0,0] ⟨U,U,U,U,U,U,U⟩ a5 a5 λi _ h=>?_;refine V.cp ab 4 0 h ui [0,0,0] [] id [0,0,0] U a5 a5 ?_;rintro⟨j,b⟩ a h;refine V.e9 ab 1 0 h (ρ:=Unit) (λs q=>[(0,.bj ⟨a2,1,1⟩ 0)]) .nil (λs q=>ei a2 (s.1,s.2.1,b.2.2.1,s.2.2.1,b.2.2.2.2.1,s.2.2.2) a) U ?_ ?_
  ·intro k _ h;refine V.cp ab 3 0 h VX [0] [] (λ_=>a) [0,0,0] U a5 a5 ?_;rintro⟨l,m⟩ _ h;refine V.co ab 2 0 h U (λh=>?_) (λh=>?_)
   ·refine V.cp ab 2 0 h wS [0] [] (λ_=>a) [0,0,0] U a5 a5 λy _ _=>y.elim
   exact V.a6 ab 1 0 h () [0,1,2] U
  rintro⟨n,o,p,t⟩ _ h;refine V.cp ab 3 0 h (Wi c) [0,0,0] [] id [0,0,0] U a5 a5 λu v h=>?_;refine V.bH ab 3 0 h KL [0,0,0] [] U λw e h=>?_;cases h;exact V.oG ab 1 0 e [0,0,0] U
def z6(R:bg)(x0:an):Option (bp an an):=
 (a_ (D4 x0) (λx=>(x.1,x.2.1,x0.2.2.1,x.2.2.2.1,x0.2.2.2.2.1,x.2.2.2.2.2)) λ(h,b)=>(bif h then(a_ (BT R (b.1,b.2.1,x0.2.2.1,b.2.2.2.1,x0.2.2.2.2.1,b.2.2.2.2.2)) (λx=>x) λ(i:an)=>(a_ (Ej R i) (λx=>x) λ(j:an)=>some (.inr j))) else(a_ (l2 (b.1,b.2.1,x0.2.2.1,b.2.2.2.1,x0.2.2.2.2.1,b.2.2.2.2.2)) (λx=>(x.1,x.2.1,x0.2.2.1,x.2.2.2.1,x0.2.2.2.2.1,x.2.2.2.2.2)) λ(a,c)=>(a8 (λ(_:Unit)=>(a_ (yl R (c.1,c.2.1,x0.2.2.1,c.2.2.2.1,x0.2.2.2.2.1,c.2.2.2.2.2)) (λx=>x) λ(k,f)=>(bif k then(a_ (z5 R f) (λx=>x) λ(l:an)=>some (.inr l)) else(a8 (λ(_:Unit)=>(a_ (k9 R f) (λx=>x) λ(d:an)=>(cY (a.2.2=true) (zX a.2.1) false λ(g:Bool)=>(nj ((bif a.2.2 then g else false)=true) (nr d ([40]:aa)) (λx=>(x.1,x.2.1,d.2.2.1,x.2.2.2.1,d.2.2.2.2.1,x.2.2.2.2.2)) (false,d) λ(m,e)=>(bif(bif(bif a.2.2 then g else false) then m else false) then(a_ (HE R (e.1,e.2.1,d.2.2.1,e.2.2.2.1,d.2.2.2.2.1,e.2.2.2.2.2)) (λx=>x) λ(n:an)=>(a_ (Ej R n) (λx=>x) λ(o:an)=>some (.inr o))) else(a_ (z5 R (e.1,e.2.1,d.2.2.1,e.2.2.2.1,d.2.2.2.2.1,e.2.2.2.2.2)) (λx=>x) λ(p:an)=>some (.inr p))))))) λq=>(bif(!(decide (a.1=3))) then a_ (kD f) (λx=>(x.1,x.2.1,f.2.2.1,x.2.2.2.1,f.2.2.2.2.1,x.2.2.2.2.2)) λy=>Empty.elim y else q ()))))) λr=>(cY ((bif(decide (a.1=3)) then a.2.2 else false)=true) (HD a.2.1) false λ(s:Bool)=>(bif(bif(bif(decide (a.1=3)) then a.2.2 else false) then s else false) then a_ (kD (c.1,c.2.1,x0.2.2.1,c.2.2.2.1,x0.2.2.2.2.1,c.2.2.2.2.2)) (λx=>(x.1,x.2.1,x0.2.2.1,x.2.2.2.1,x0.2.2.2.2.1,x.2.2.2.2.2)) λy=>Empty.elim y else r ()))))))
theorem Wu{R:bg}(b:h8 R){x0:an}{a2:bI}{Q:bu}{r:bp an an}(h:z6 R x0=some r):
  je Tryz.prog 73 [.pointer a2] [] (ei a2 x0 Q) (λr (q:bu)=>jx 39 r λr=> .tuple #[]) (λr q=>ei a2 (jV r) q) r:=
 by
  refine V.jW (T:=cl) Tryz.call73 Tryz.func73 U λ_ _=>?_;unfold z6 at h;refine V.cp ab 4 0 h VX [0] [] (λ_=>Q) [0,0,0] U a5 a5 ?_;rintro⟨v,w⟩ _ h;refine V.co ab 1 0 h U (λh=>?_) (λh=>?_)
  ·refine V.cp ab 3 0 h (Wi b) [0,0,0] [] id [0,0,0] U a5 a5 λx z h=>?_;refine V.cp ab 4 0 h (Wr b) [0,0,0] [] id [0,0,0] U a5 a5 λA l h=>?_;cases h;exact V.jU ab 1 0 l [0,0,0] U
  refine V.cp ab 4 0 h qL [0] [] (λ_=>Q) [0,0,0] U a5 a5 ?_;rintro⟨a,c⟩ _ h;refine V.cj (aH.pg ab 2 [] [30] [(2,.e2 30 0)] (.new 30 65 [.int .i64 a.1,.string (a9 a.2.1),.bool a.2.2] .nil) U ⟨⟨U,trivial⟩,(jw U U)⟩ (V.ct ?_));refine V.e9 ab 1 0 h (ρ:=Unit) (λs q=>[(0,.bj ⟨a2,1,1⟩ 0),(2,.e2 30 0)]) (.new 30 65 [.int .i64 a.1,.string (a9 a.2.1),.bool a.2.2] .nil) (λs q=>ei a2 (c.1,c.2.1,x0.2.2.1,c.2.2.2.1,x0.2.2.2.2.1,c.2.2.2.2.2) Q) U ?_ ?_
  ·intro B _ h;refine V.ic ab 12 0 h agk [] U (λ_=>id) λC h=>?_;refine V.co ab 2 0 h U (λh=>?_) (λh=>?_)
   ·refine V.cp ab 2 0 h wS [0] [] (λ_=>Q) [0,0,0] U a5 a5 λy _ _=>y.elim
   exact V.a6 ab 1 0 h () [0,1,2] U
  rintro _ _ h;refine V.cp ab 4 0 h (Qi b) [0,0,0] [] id [0,0,0] U a5 a5 ?_;rintro⟨D,m⟩ k h;refine V.co ab 1 0 h U (λh=>?_) (λh=>?_)
  ·refine V.cp ab 3 0 h (Ws b) [0,0,0] [] id [0,0,0] U a5 a5 λE n h=>?_;cases h;exact V.jU ab 1 0 n [0,0,0] U
  refine V.e9 ab 1 0 h (ρ:=Unit) (λs q=>[(0,.bj ⟨a2,1,1⟩ 0),(2,.e2 30 0)]) (.new 30 65 [.int .i64 a.1,.string (a9 a.2.1),.bool a.2.2] .nil) (λs q=>ei a2 m k) U ?_ ?_
  ·intro F _ h;refine V.co ab 6 0 h U (λh=>?_) (λh=>?_)
   ·refine V.cp ab 2 0 h wS [0] [] (λ_=>k) [0,0,0] U a5 a5 λy _ _=>y.elim
   exact V.a6 ab 1 0 h () [0,1,2] U
  rintro _ _ h;refine V.cp ab 3 0 h (BN b) [0,0,0] [] id [0,0,0] U a5 a5 λG o h=>?_;refine V.ic ab 9 0 h V_ [] U (λ_=>id) λH h=>?_;refine V.go ab 3 0 U ?_;rcases zF h with⟨d,p,e,rfl⟩|⟨⟨I,J⟩,e,f,h⟩
  ·exact V.cj (aH.zG U U U ⟨d,trivial⟩ (p9 e) U [0] U [] U (λ_=>U) (λs _=>⟨o,trivial,U,[0,0,0],_,U⟩))
  refine V.cj (aH.zE U U U U (λg=>pj.ret (p9 (e g)) (λ_=>U)) U [0] U [] U U () (λi=>by cases f (λt=>i ⟨t,trivial⟩);rfl) λ_ _=>V.ct ?_);refine V.co ab 2 0 h U (λh=>?_) (λh=>?_)
  ·refine V.cp ab 3 0 h (agl b) [0,0,0] [] id [0,0,0] U a5 a5 λK L h=>?_;refine V.cp ab 4 0 h (Wr b) [0,0,0] [] id [0,0,0] U a5 a5 λM j h=>?_;cases h;exact V.jU ab 1 0 j [0,0,0] U
  refine V.cp ab 3 0 h (Ws b) [0,0,0] [] id [0,0,0] U a5 a5 λN u h=>?_;cases h;exact V.oG ab 1 0 u [0,0,0] U
def K2(R:bg)(d:an->Option (bp an an))(e:an->Option (bp an an)):an->Option (bp an an):=λ(f,g,b,h,c,i)=>
 (a_ (nr (f,g,b,h,c,i) ([124]:aa)) (λx=>(x.1,x.2.1,b,x.2.2.2.1,c,x.2.2.2.2.2)) λ(j,a)=>(bif j then(a_ (k7 (a.1,(W (a.2.1+1)),b,a.2.2.2.1,c,a.2.2.2.2.2)) (λx=>x) λ(m,k)=>(a_ (z6 R k) (λx=>x) λ(l:an)=>e l)) else d (a.1,a.2.1,b,a.2.2.2.1,c,a.2.2.2.2.2)))
def BZ(R:bg)(x0:an):Option (bp an an):=
 (a8 (λ((d,e,f,g):aa×Int×Int×Int)=>(a_ (z6 R (d,e,x0.2.2.1,f,x0.2.2.2.2.1,g)) (λx=>x) λ(b:an)=>(a8 (λ((h,i,j,k,l,m):an)=>some (.inr (h,i,j,k,l,m))) λn=>(fixF (K2 R n) bB (b.1,b.2.1,b.2.2.1,b.2.2.2.1,b.2.2.2.2.1,b.2.2.2.2.2))))) λc=>(a_ (pk x0 ([33]:aa)) (λx=>(x.1,x.2.1,x0.2.2.1,x.2.2.2.1,x0.2.2.2.2.1,x.2.2.2.2.2)) λ(o,a)=>(bif o then c (a.1,(W (a.2.1+1)),a.2.2.2.1,a.2.2.2.2.2) else c (a.1,a.2.1,a.2.2.2.1,a.2.2.2.2.2))))
theorem Wv{R:bg}(a:h8 R){x0:an}{a2:bI}{Q:bu}{r:bp an an}(h:BZ R x0=some r):
  je Tryz.prog 59 [.pointer a2] [] (ei a2 x0 Q) (λr (q:bu)=>jx 39 r λr=> .tuple #[]) (λr q=>ei a2 (jV r) q) r:=
 by
  refine V.jW (T:=cl) Tryz.call59 Tryz.func59 U λ_ _=>?_;unfold BZ at h;refine V.e9 ab 0 0 h (ρ:=Unit) (λs q=>[(0,.bj ⟨a2,1,1⟩ 0)]) .nil (λs q=>ei a2 (s.1,s.2.1,x0.2.2.1,s.2.2.1,x0.2.2.2.2.1,s.2.2.2) Q) U ?_ ?_
  ·intro g _ h;refine V.cp ab 3 0 h pn [0] [] (λ_=>Q) [0,0,0] U a5 a5 ?_;rintro⟨i,j⟩ _ h;refine V.co ab 1 0 h U (λh=>?_) (λh=>?_)
   ·exact V.a6 ab 10 0 h () [0,1,2] ⟨U,U,U,U,U,U,U⟩
   exact V.a6 ab 1 0 h () [0,1,2] U
  rintro⟨k,l,m,n⟩ _ h;refine V.cp ab 3 0 h (Wu a) [0,0,0] [] id [0,0,0] U a5 a5 λo c h=>?_;refine V.da ab 1 0 h (ρ:=bu) (λs q=>[]) .nil (λs q=>kO a2 s q) U ?_ ?_
  ·intro p _ h;refine V.e_ ab 0 0 h (ρ:=bu) (λs q=>[(0,.bj ⟨a2,1,1⟩ 0)]) .nil (λs q=>kO a2 s q) c [1,2,0] U ?_;rintro d ⟨t,u,v,w,x,y⟩ b h;rw[K2] at h;refine V.cp ab 4 0 h p9 [2] [] (λ_=>b) [0,0,0] U a5 a5 ?_;rintro⟨z,A⟩ _ h;refine V.co ab 1 0 h U (λh=>?_) (λh=>?_)
   ·refine V.cp ab 16 0 h ui [0,0,0] [] id [0,0,0] ⟨U,U,U,U,U,U,U⟩ a5 a5 ?_;rintro⟨B,C⟩ D h;refine V.cp ab 3 0 h (Wu a) [0,0,0] [] id [0,0,0] U a5 a5 λE e h=>?_;exact V.el ab 2 0 h e [1,2,0] U
   exact V.a6 ab 1 0 h b [1,2,0] U
  rintro⟨F,G,H,I,J,K⟩ f h;cases h;exact V.oG ab 0 0 f [2,0,0] U
def Qo(R:bg)(g:an->Option (bp an an))(e:an->Option (bp an an)):an->Option (bp an an):=λ(h,i,c,j,d,k)=>
 (a_ (nr (h,i,c,j,d,k) ([38,38]:aa)) (λx=>(x.1,x.2.1,c,x.2.2.2.1,d,x.2.2.2.2.2)) λ(f,a)=>(nj (f=false) (nr (a.1,a.2.1,c,a.2.2.2.1,d,a.2.2.2.2.2) ([124,124]:aa)) (λx=>(x.1,x.2.1,c,x.2.2.2.1,d,x.2.2.2.2.2)) (false,(a.1,a.2.1,c,a.2.2.2.1,d,a.2.2.2.2.2)) λ(l,b)=>(bif(bif f then true else l) then(a_ (k7 (b.1,(W (b.2.1+2)),c,b.2.2.2.1,d,b.2.2.2.2.2)) (λx=>x) λ(o,m)=>(a_ (BZ R m) (λx=>x) λ(n:an)=>e n)) else g (b.1,b.2.1,c,b.2.2.2.1,d,b.2.2.2.2.2))))
def z7(R:bg)(x0:an):Option (bp an an):=
 (a_ (BZ R x0) (λx=>x) λ(a:an)=>(a8 (λ((b,c,d,e,f,g):an)=>some (.inr (b,c,d,e,f,g))) λh=>(fixF (Qo R h) bB (a.1,a.2.1,a.2.2.1,a.2.2.2.1,a.2.2.2.2.1,a.2.2.2.2.2))))
theorem ags{R:bg}(e:h8 R){x0:an}{a2:bI}{Q:bu}{r:bp an an}(h:z7 R x0=some r):
  je Tryz.prog 40 [.pointer a2] [] (ei a2 x0 Q) (λr (q:bu)=>jx 39 r λr=> .tuple #[]) (λr q=>ei a2 (jV r) q) r:=
 by
  refine V.jW (T:=cl) Tryz.call40 Tryz.func40 U λ_ _=>?_;unfold z7 at h;refine V.cp ab 3 0 h (Wv e) [0,0,0] [] id [0,0,0] U a5 a5 λn f h=>?_;refine V.da ab 1 0 h (ρ:=bu) (λs q=>[]) .nil (λs q=>kO a2 s q) U ?_ ?_
  ·intro o _ h;refine V.e_ ab 0 0 h (ρ:=bu) (λs q=>[(0,.bj ⟨a2,1,1⟩ 0)]) .nil (λs q=>kO a2 s q) f [1,2,0] U ?_;rintro g ⟨p,t,u,v,w,x⟩ a h;rw[Qo] at h;refine V.cp ab 4 0 h p9 [2] [] (λ_=>a) [0,0,0] U a5 a5 ?_;rintro⟨y,z⟩ _ h;refine V.go ab 2 0 U ?_;rcases zF h with⟨b,A,c,rfl⟩|⟨⟨B,C⟩,c,i,h⟩
   ·exact V.cj (aH.zG U U U ⟨b,trivial⟩ (p9 c) U [0] U [] U (λ_=>U) (λs _=>⟨a,trivial,U,[0,0,0],_,U⟩))
   refine V.cj (aH.zE U U U U (λj=>pj.ret (p9 (c j)) (λ_=>U)) U [0] U [] U U () (λk=>by cases i (λl=>k ⟨l,trivial⟩);rfl) λ_ _=>V.ct ?_);refine V.co ab 2 0 h U (λh=>?_) (λh=>?_)
   ·refine V.cp ab 16 0 h ui [0,0,0] [] id [0,0,0] ⟨U,U,U,U,U,U,U⟩ a5 a5 ?_;rintro⟨D,E⟩ F h;refine V.cp ab 3 0 h (Wv e) [0,0,0] [] id [0,0,0] U a5 a5 λG m h=>?_;exact V.el ab 2 0 h m [1,2,0] U
   exact V.a6 ab 1 0 h a [1,2,0] U
  rintro⟨H,I,J,K,L,M⟩ d h;cases h;exact V.oG ab 0 0 d [2,0,0] U
def HG(R:bg)(l:Int)(m:Bool)(k:(Int×an)->Option (bp an (Int×an))):(Int×an)->Option (bp an (Int×an)):=λ(h,n,o,i,p,j,q)=>
 (a8 (λ((u,v,w,z,A,B):an)=>k ((W (h+1)),u,v,w,z,A,B)) λr=>(nj ((bif m then true else(decide (0<h)))=true) (D3 (n,o,i,p,j,q) l) (λx=>(x.1,x.2.1,i,x.2.2.2.1,j,x.2.2.2.2.2)) (false,(n,o,i,p,j,q)) λ(C,c)=>(bif(bif(bif m then true else(decide (0<h))) then C else false) then some (.inr (h,(c.1,c.2.1,i,c.2.2.2.1,j,c.2.2.2.2.2))) else(a_ (z7 R (c.1,c.2.1,i,c.2.2.2.1,j,c.2.2.2.2.2)) (λx=>x) λ(b:an)=>(a_ (nr b ([59]:aa)) (λx=>(x.1,x.2.1,b.2.2.1,x.2.2.2.1,b.2.2.2.2.1,x.2.2.2.2.2)) λ(s,d)=>(nj (s=false) (nr (d.1,d.2.1,b.2.2.1,d.2.2.2.1,b.2.2.2.2.1,d.2.2.2.2.2) ([38]:aa)) (λx=>(x.1,x.2.1,b.2.2.1,x.2.2.2.1,b.2.2.2.2.1,x.2.2.2.2.2)) (false,(d.1,d.2.1,b.2.2.1,d.2.2.2.1,b.2.2.2.2.1,d.2.2.2.2.2)) λ(D,e)=>(bif(bif s then true else D) then(a_ (k7 (e.1,(W (e.2.1+1)),b.2.2.1,e.2.2.2.1,b.2.2.2.2.1,e.2.2.2.2.2)) (λx=>x) λ(M,E)=>r E) else(a_ (k7 (e.1,e.2.1,b.2.2.1,e.2.2.2.1,b.2.2.2.2.1,e.2.2.2.2.2)) (λx=>x) λ(F,a)=>(bif F then r a else(a_ (l2 a) (λx=>(x.1,x.2.1,a.2.2.1,x.2.2.2.1,a.2.2.2.2.1,x.2.2.2.2.2)) λ(t,f)=>(a8 (λ((G,H,I,J):aa×Int×Int×Int)=>some (.inr ((W (h+1)),(G,H,a.2.2.1,I,a.2.2.2.2.1,J)))) λK=>(nj ((decide (t.1=3))=false) (D3 (f.1,f.2.1,a.2.2.1,f.2.2.2.1,a.2.2.2.2.1,f.2.2.2.2.2) l) (λx=>(x.1,x.2.1,a.2.2.1,x.2.2.2.1,a.2.2.2.2.1,x.2.2.2.2.2)) (false,(f.1,f.2.1,a.2.2.1,f.2.2.2.1,a.2.2.2.2.1,f.2.2.2.2.2)) λ(L,g)=>(bif(bif(decide (t.1=3)) then true else(!L)) then a_ (kD (g.1,g.2.1,a.2.2.1,g.2.2.2.1,a.2.2.2.2.1,g.2.2.2.2.2)) (λx=>(x.1,x.2.1,a.2.2.1,x.2.2.2.1,a.2.2.2.2.1,x.2.2.2.2.2)) λy=>Empty.elim y else K (g.1,g.2.1,g.2.2.2.1,g.2.2.2.2.2))))))))))))))
def Em(R:bg)(x0:an)(b:Int)(c:Bool):Option (bp an (Int×an)):=
 (a_ (k7 x0) (λx=>x) λ(d,a)=>(fixF (HG R b c) bB (0,a.1,a.2.1,a.2.2.1,a.2.2.2.1,a.2.2.2.2.1,a.2.2.2.2.2)))
theorem agw{R:bg}(F:h8 R){x0:an}{c:Int}{d:Bool}{a:bI}{Q:bu}{r:bp an (Int×an)}(h:Em R x0 c d=some r):
  je Tryz.prog 30 [.pointer a,.int .i64 c,.bool d] [] (ei a x0 Q) (λr (q:bu)=>jx 39 r λr=> .int .i64 r.1) (λr q=>ei a (mg r) q) r:=
 by
  refine V.jW (T:=cl) Tryz.call30 Tryz.func30 U λ_ _=>?_;unfold Em at h;refine V.cp ab 7 0 h ui [0,0,0] [] id [0,0,0] U a5 a5 ?_;rintro⟨N,O⟩ G h;refine V.e_ ab 6 0 h (ρ:=bu) (λs q=>[(0,.bj ⟨a,1,1⟩ 0),(1,.v (.int .i64 c)),(2,.v (.bool d)),(7,.v (.int .i64 s.1))]) .nil (λs q=>kO a s.2 q) G [1,2,0] U ?_;rintro H ⟨B,P,S,X,Y,Z,pq⟩ C h;rw[HG] at h;refine V.da ab 0 0 h (ρ:=bu) (λs q=>[(0,.bj ⟨a,1,1⟩ 0),(1,.v (.int .i64 c)),(2,.v (.bool d)),(7,.v (.int .i64 (W (B+1))))]) .nil (λs q=>kO a s q) U ?_ ?_
  ·intro Qp _ h;refine V.go ab 11 0 U ?_;rcases zF h with⟨e,VW,f,rfl⟩|⟨⟨kC,cu⟩,f,I,h⟩
   ·exact V.cj (aH.zG U U U ⟨e,trivial⟩ (KG f) U [2] U [] U (λ_=>U) (λs _=>⟨C,trivial,U,[0,0,0],_,U⟩))
   refine V.cj (aH.zE U U U U (λg=>pj.ret (KG (f g)) (λ_=>U)) U [2] U [] U U () (λi=>by cases I (λj=>i ⟨j,trivial⟩);rfl) λ_ _=>V.ct ?_);refine V.co ab 2 0 h U (λh=>?_) (λh=>?_)
   ·cases h;exact V.jU ab 5 0 C [0,0,0] U
   refine V.cp ab 4 0 h (ags F) [0,0,0] [] id [0,0,0] U a5 a5 λek D h=>?_;refine V.cp ab 11 0 h p9 [0] [] (λ_=>D) [0,0,0] U a5 a5 ?_;rintro⟨sl,jZ⟩ _ h;refine V.go ab 2 0 U ?_;rcases zF h with⟨k,J,l,rfl⟩|⟨⟨kb,m7⟩,l,m,h⟩
   ·exact V.cj (aH.zG U U U ⟨k,trivial⟩ (p9 l) U [0] U [] U (λ_=>U) (λs _=>⟨D,trivial,U,[0,0,0],_,U⟩))
   refine V.cj (aH.zE U U U U (λK=>pj.ret (p9 (l K)) (λ_=>U)) U [0] U [] U U () (λn=>by cases m (λo=>n ⟨o,trivial⟩);rfl) λ_ _=>V.ct ?_);refine V.co ab 2 0 h U (λh=>?_) (λh=>?_)
   ·refine V.cp ab 14 0 h ui [0,0,0] [] id [0,0,0] ⟨U,U,U,U,U,U,U⟩ a5 a5 ?_;rintro⟨iI,jX⟩ L h
    try dsimp only at h
    exact V.a6 ab 2 0 h L [1,2,0] U
   refine V.cp ab 5 0 h ui [0,0,0] [] id [0,0,0] U a5 a5 ?_;rintro⟨oN,E⟩ b h;refine V.co ab 1 0 h U (λh=>?_) (λh=>?_)
   ·exact V.a6 ab 1 0 h b [1,2,0] U
   refine V.cp ab 4 0 h qL [0] [] (λ_=>b) [0,0,0] U a5 a5 ?_;rintro⟨p,ko⟩ _ h;refine V.cj (aH.pg ab 2 [] [74] [(8,.e2 74 0)] (.new 74 65 [.int .i64 p.1,.string (a9 p.2.1),.bool p.2.2] .nil) U ⟨⟨U,trivial⟩,(jw U U)⟩ (V.ct ?_));refine V.e9 ab 1 0 h (ρ:=Unit) (λs q=>[(7,.v (.int .i64 (W (B+1))))]) .nil (λs q=>ei a (s.1,s.2.1,E.2.2.1,s.2.2.1,E.2.2.2.2.1,s.2.2.2) b) U ?_ ?_
   ·intro Ww _ h;refine V.go ab 8 0 U ?_;rcases zF h with⟨t,M,u,rfl⟩|⟨⟨gV,pA⟩,u,v,h⟩
    ·exact V.cj (aH.zG U U U ⟨t,trivial⟩ (KG u) U [0] U [] U (λ_=>U) (λs _=>⟨b,trivial,U,[0,0,0],_,U⟩))
    refine V.cj (aH.zE U U U U (λw=>pj.ret (KG (u w)) (λ_=>U)) U [0] U [] U U () (λx=>by cases v (λz=>x ⟨z,trivial⟩);rfl) λ_ _=>V.ct ?_);refine V.co ab 3 0 h U (λh=>?_) (λh=>?_)
    ·refine V.cp ab 2 0 h wS [0] [] (λ_=>b) [0,0,0] U a5 a5 λy _ _=>y.elim
    exact V.a6 ab 1 0 h () [0,1,2] U
   rintro⟨qc,pv,m4,px⟩ _ h;cases h;exact V.jU ab 5 0 b [0,0,0] U
  rintro⟨vH,qQ,El,z8,qP,HH⟩ A h
  try dsimp only at h
  exact V.el ab 0 0 h A [0,1,2] U
def Qu(R:bg)(j:UInt8)(k:Bool)(f:an->Option (bp an an)):an->Option (bp an an):=λ(b,a,c,g,d,h)=>
 (a8 (λ((l,m,n,o,p,q):an)=>f (l,m,n,o,p,q)) λi=>(a8 (λ(_:Unit)=>(a4 (0<=a/\a<(b.length:Int))<|(bif(decide (((at' b a).toNat:Int)=(j.toNat:Int))) then some (.inr (b,(W (a+1)),c,g,d,h)) else(a_ (zQ R (b,a,c,g,d,h) k) (λx=>x) λ(r,e)=>(bif(!r) then i (e.1,(W (e.2.1+1)),e.2.2) else i e))))) λs=>(bif(decide ((b.length:Int)<=a)) then a_ (rm (b,a,c,g,d,h)) (λx=>(x.1,x.2.1,c,x.2.2.2.1,d,x.2.2.2.2.2)) λy=>Empty.elim y else s ())))
def HI(R:bg)(x0:an)(a:UInt8)(b:Bool):Option (bp an an):=
 (fixF (Qu R a b) bB (x0.1,x0.2.1,x0.2.2.1,x0.2.2.2.1,x0.2.2.2.2.1,x0.2.2.2.2.2))
theorem agM{R:bg}(f:h8 R){x0:an}{b:UInt8}{c:Bool}{a:bI}{Q:bu}{r:bp an an}(h:HI R x0 b c=some r):
  je Tryz.prog 163 [.pointer a,.int .u8 (b.toNat:Int),.bool c] [] (ei a x0 Q) (λr (q:bu)=>jx 39 r λr=> .tuple #[]) (λr q=>ei a (jV r) q) r:=
 by
  refine V.jW (T:=cl) Tryz.call163 Tryz.func163 U λ_ _=>?_;unfold HI at h;refine V.e_ ab 1 0 h (ρ:=bu) (λs q=>[(0,.bj ⟨a,1,1⟩ 0),(1,.v (.int .u8 (b.toNat:Int))),(2,.v (.bool c))]) .nil (λs q=>kO a s q) Q [1,2,0] U ?_;rintro g ⟨i,j,k,l,m,n⟩ d h;rw[Qu] at h;refine V.da ab 0 0 h (ρ:=bu) (λs q=>[(0,.bj ⟨a,1,1⟩ 0),(1,.v (.int .u8 (b.toNat:Int))),(2,.v (.bool c))]) .nil (λs q=>kO a s q) U ?_ ?_
  ·intro t _ h;refine V.e9 ab 0 0 h (ρ:=Unit) (λs q=>[(0,.bj ⟨a,1,1⟩ 0),(1,.v (.int .u8 (b.toNat:Int))),(2,.v (.bool c))]) .nil (λs q=>ei a (i,j,k,l,m,n) d) U ?_ ?_
   ·intro u _ h;refine V.jz ab 1 0 U (by kernel_rfl) ?_;refine V.co ab 11 2 h ⟨U,U,U,U,U,U,U⟩ (λh=>?_) (λh=>?_)
    ·refine V.cp ab 2 0 h DS [2] [] (λ_=>d) [0,0,0] U a5 a5 λy _ _=>y.elim
    exact V.a6 ab 1 0 h () [2,0,1] U
   rintro _ _ h;obtain⟨o,h⟩:=bC h;refine V.jz ab 2 0 U (by kernel_rfl) ?_;refine V.co ab 12 0 h ⟨U,U,U,U,U,U,o,U⟩ (λh=>?_) (λh=>?_)
   ·cases h;exact V.jU ab 11 0 d [0,0,0] ⟨U,U,U,U,U,U,U⟩
   refine V.cp ab 5 0 h (VZ f) [0,0,0] [] id [0,0,0] U a5 a5 ?_;rintro⟨v,w⟩ e h;refine V.co ab 2 0 h U (λh=>?_) (λh=>?_)
   ·exact V.a6 ab 11 0 h e [1,2,0] ⟨U,U,U,U,U,U,U⟩
   exact V.a6 ab 2 0 h e [1,2,0] U
  rintro⟨x,z,A,B,C,D⟩ p h
  try dsimp only at h
  exact V.el ab 0 0 h p [0,1,2] U
def gz(x0:ah):Option Bool:=
 some (decide ((x0.1.length:Int)<=x0.2.1))
theorem m9{x0:ah}{a2:bI}{Q:bu}{r:Bool}(h:gz x0=some r):
  FC Tryz.prog 45 [.pointer a2] [lP a2 x0 Q] (λ_:Unit=>True) (λ_=> .bool r) (λ_=>[]):=
 by refine V.fM (T:=cl) Tryz.call45 Tryz.func45 U λ_=>?_;unfold gz at h;refine V.jz ab 5 0 U (by kernel_rfl) ?_;cases h;exact V.rt ab 12 0 () [] ⟨U,U,U,U,U,U,U⟩
def z9(x0:UInt8):Option Bool:=
 some (bif(decide ((x0.toNat:Int)=(32:Int))) then true else(decide ((x0.toNat:Int)=(9:Int))))
theorem Qw{x0:UInt8}{r:Bool}(h:z9 x0=some r):
  FC Tryz.prog 65 [.int .u8 (x0.toNat:Int)] [] (λ_:Unit=>True) (λ_=> .bool r) (λ_=>[]):=
 by refine V.fM (T:=cl) Tryz.call65 Tryz.func65 U λ_=>?_;unfold z9 at h;cases h;exact V.rt ab 14 0 () [] U
def Ep(x0:ah)(d:Bool)(e:Int->Option ah)(b:Int->Option ah):Int->Option ah:=λa=>
 (au (gz (x0.1,a,x0.2.2.1,x0.2.2.2.1,x0.2.2.2.2.1,x0.2.2.2.2.2.1,x0.2.2.2.2.2.2.1,x0.2.2.2.2.2.2.2.1,d)) λ(c:Bool)=>(a4 (((!c)=true)->0<=a/\a<(x0.1.length:Int))<|(bif(bif(!c) then(!(decide (((at' x0.1 a).toNat:Int)=(10:Int)))) else false) then b (W (a+1)) else e a)))
def B3(x0:ah)(e:(Int×Bool)->Option ah)(c:(Int×Bool)->Option ah):(Int×Bool)->Option ah:=λ(a,b)=>
 (au (gz (x0.1,a,x0.2.2.1,x0.2.2.2.1,x0.2.2.2.2.1,x0.2.2.2.2.2.1,x0.2.2.2.2.2.2.1,x0.2.2.2.2.2.2.2.1,b)) λ(f:Bool)=>(bif(!f) then(a8 (λ((g,h):Int×Bool)=>c (g,h)) λd=>(a4 (0<=a/\a<(x0.1.length:Int))<|(au (z9 (at' x0.1 a)) λ(y23:Bool)=>(bif y23 then d ((W (a+1)),b) else(a4 (((bif(decide (((at' x0.1 a).toNat:Int)=(92:Int))) then(decide ((W (a+1))<(x0.1.length:Int))) else false)=true)->0<=(W (a+1))/\(W (a+1))<(x0.1.length:Int))<|(bif(bif(bif(decide (((at' x0.1 a).toNat:Int)=(92:Int))) then(decide ((W (a+1))<(x0.1.length:Int))) else false) then(decide (((at' x0.1 (W (a+1))).toNat:Int)=(10:Int))) else false) then d ((W (a+2)),true) else(bif(decide (((at' x0.1 a).toNat:Int)=(35:Int))) then(a8 (λ(i:Int)=>d (i,b)) λj=>(fixF (Ep x0 b j) bB a)) else some (x0.1,a,x0.2.2.1,x0.2.2.2.1,x0.2.2.2.2.1,x0.2.2.2.2.2.1,x0.2.2.2.2.2.2.1,x0.2.2.2.2.2.2.2.1,b)))))))) else e (a,b)))
def g4(x0:ah):Option ah:=
 (a8 (λ((a,b):Int×Bool)=>some (x0.1,a,x0.2.2.1,x0.2.2.2.1,x0.2.2.2.2.1,x0.2.2.2.2.2.1,x0.2.2.2.2.2.2.1,x0.2.2.2.2.2.2.2.1,b)) λc=>(fixF (B3 x0 c) bB (x0.2.1,x0.2.2.2.2.2.2.2.2)))
theorem og{x0:ah}{a2:bI}{Q:bu}{r:ah}(h:g4 x0=some r):
  gL Tryz.prog 44 [.pointer a2] [] [lP a2 x0 Q] (λ_:Unit=>True) (λ_=> .tuple #[]) (λ_=>[lP a2 (r.1,r.2.1,r.2.2.1,x0.2.2.2.1,r.2.2.2.2.1,r.2.2.2.2.2.1,r.2.2.2.2.2.2.1,x0.2.2.2.2.2.2.2.1,r.2.2.2.2.2.2.2.2) Q]):=
 by
  refine V.jn (T:=cl) Tryz.call44 Tryz.func44 U λ_ _=>?_;unfold g4 at h;refine V.da ab 0 0 h (ρ:=Unit) (λs q=>[]) .nil (λs q=>[lP a2 (x0.1,s.1,x0.2.2.1,x0.2.2.2.1,x0.2.2.2.2.1,x0.2.2.2.2.2.1,x0.2.2.2.2.2.2.1,x0.2.2.2.2.2.2.2.1,s.2) Q]) U ?_ ?_
  ·intro i _ h;refine V.e_ ab 0 0 h (ρ:=Unit) (λs q=>[(0,.bj ⟨a2,1,1⟩ 0)]) .nil (λs q=>[lP a2 (x0.1,s.1,x0.2.2.1,x0.2.2.2.1,x0.2.2.2.2.1,x0.2.2.2.2.2.1,x0.2.2.2.2.2.2.1,x0.2.2.2.2.2.2.2.1,s.2) Q]) () [0] U ?_;rintro c ⟨j,b⟩ _ h;rw[B3] at h;refine V.cM ab 4 0 h m9 [0] U λk _ h=>?_;refine V.co ab 2 0 h U (λh=>?_) (λh=>?_)
   ·refine V.da ab 1 0 h (ρ:=Unit) (λs q=>[(0,.bj ⟨a2,1,1⟩ 0)]) .nil (λs q=>[lP a2 (x0.1,s.1,x0.2.2.1,x0.2.2.2.1,x0.2.2.2.2.1,x0.2.2.2.2.2.1,x0.2.2.2.2.2.2.1,x0.2.2.2.2.2.2.2.1,s.2) Q]) U ?_ ?_
    ·intro l _ h;obtain⟨d,h⟩:=bC h;refine V.jz ab 1 0 U (by kernel_rfl) ?_;refine V.cM ab 14 0 h Qw [] ⟨U,U,U,U,U,U,d,U⟩ λy23 _ h=>?_;refine V.co ab 1 0 h U (λh=>?_) (λh=>?_)
     ·exact V.a6 ab 11 0 h () [0] ⟨U,U,U,U,U,U,U⟩
     obtain⟨e,h⟩:=bC h;refine V.jz ab 1 0 U (by kernel_rfl) ?_;refine V.co ab 29 0 h ⟨U,U,U,U,U,U,U,U,U,U,U,U,e,U⟩ (λh=>?_) (λh=>?_)
     ·exact V.a6 ab 19 0 h () [0] ⟨U,U,U,U,U,U,U,U,U,U⟩
     refine V.co ab 5 0 h U (λh=>?_) (λh=>?_)
     ·refine V.da ab 0 0 h (ρ:=Unit) (λs q=>[(0,.bj ⟨a2,1,1⟩ 0)]) .nil (λs q=>[lP a2 (x0.1,s,x0.2.2.1,x0.2.2.2.1,x0.2.2.2.2.1,x0.2.2.2.2.2.1,x0.2.2.2.2.2.2.1,x0.2.2.2.2.2.2.2.1,b) Q]) U ?_ ?_
      ·intro m _ h;refine V.e_ ab 0 0 h (ρ:=Unit) (λs q=>[(0,.bj ⟨a2,1,1⟩ 0)]) .nil (λs q=>[lP a2 (x0.1,s,x0.2.2.1,x0.2.2.2.1,x0.2.2.2.2.1,x0.2.2.2.2.2.1,x0.2.2.2.2.2.2.1,x0.2.2.2.2.2.2.2.1,b) Q]) () [0] U ?_;rintro f n _ h;rw[Ep] at h;refine V.jz ab 2 0 U (by kernel_rfl) ?_;refine V.go ab 1 0 U ?_;obtain⟨o,g,h⟩:=jH h;obtain⟨a,h⟩:=bC h;refine V.toQ (kz.call U U U U (m9 g) U [0] U U (V.rk ?_));refine V.co ab 14 0 h ⟨U,U,U,U,U,U,a,U⟩ (λh=>?_) (λh=>?_)
       ·exact V.el ab 13 0 h () [0] ⟨U,U,U,U,U,U,U⟩
       exact V.a6 ab 1 0 h () [0] U
      rintro p _ h
      try dsimp only at h
      exact V.a6 ab 1 0 h () [0] U
     cases h;exact V.rx ab 0 0 () [0] U
    rintro⟨t,u⟩ _ h
    try dsimp only at h
    exact V.el ab 0 0 h () [0] U
   exact V.a6 ab 1 0 h () [0] U
  rintro⟨v,w⟩ _ h;cases h;exact V.jI ab 0 0 () [0] U
def HK(b:ao)(e:aa->Option ah)(d:(Int×aa)->Option ah):(Int×aa)->Option ah:=λ(a,c)=>
 (bif(decide (a<(b.length:Int))) then(a4 (0<=a/\a<(b.length:Int))<|(a4 (((c.length+((at' b a).1).length:Nat):Int)<=9223372036854775807)<|(a4 ((((c++(at' b a).1).length+([10]:aa).length:Nat):Int)<=9223372036854775807)<|d ((W (a+1)),((c++(at' b a).1)++([10]:aa)))))) else e c)
def HL(b:aa)(g:(ao×aa)->Option ah)(d:(Int×ao×aa)->Option ah):(Int×ao×aa)->Option ah:=λ(a,e,c)=>
 (bif(decide (a<(b.length:Int))) then(a8 (λ((h,i):ao×aa)=>d ((W (a+1)),h,i)) λf=>(a4 (0<=a/\a<=(W (a+1))/\(W (a+1))<=(b.length:Int))<|(a4 (((c.length+(ch b a (W (a+1))).length:Nat):Int)<=9223372036854775807)<|(a4 (0<=a/\a<(b.length:Int))<|(bif(decide (((at' b a).toNat:Int)=(10:Int))) then(a8 (λ(j:aa)=>f (([]:ao),j)) λk=>(fixF (HK e k) bB (0,(c++(ch b a (W (a+1))))))) else f (e,(c++(ch b a (W (a+1)))))))))) else g (e,c))
def vI(x0:ah)(a:aa):Option ah:=
 (a8 (λ((b,c):ao×aa)=>some (x0.1,x0.2.1,x0.2.2.1,b,x0.2.2.2.2.1,x0.2.2.2.2.2.1,c,x0.2.2.2.2.2.2.2.1,x0.2.2.2.2.2.2.2.2)) λd=>(fixF (HL a d) bB (0,x0.2.2.2.1,x0.2.2.2.2.2.2.1)))
theorem Qy{x0:ah}{e:aa}{a3:bI}{Q:bu}{r:ah}(h:vI x0 e=some r):
  gL Tryz.prog 34 [.pointer a3,.string (a9 e)] [] (eV a3 x0 Q) (λ_:bu=>True) (λq=> .tuple #[]) (λq=>eV a3 r q):=
 by
  refine V.jn (T:=cl) Tryz.call34 Tryz.func34 U λ_ _=>?_;unfold vI at h;refine V.da ab 4 0 h (ρ:=bI×Nat) (λs q=>[]) .nil (λs q=>[r9 q.1 s.1 q.2,lP a3 (x0.1,x0.2.1,x0.2.2.1,s.1,x0.2.2.2.2.1,x0.2.2.2.2.2.1,s.2,x0.2.2.2.2.2.2.2) (q.1,q.2,Q.2.2),hr Q.2.2.1 x0.2.2.2.2.2.2.2.1 Q.2.2.2]) U ?_ ?_
  ·intro D _ h;refine V.e_ ab 0 0 h (ρ:=bI×Nat) (λs q=>[(0,.bj ⟨a3,1,1⟩ 0),(1,.v (.string (a9 e))),(4,.v (.int .i64 s.1))]) .nil (λs q=>[r9 q.1 s.2.1 q.2,lP a3 (x0.1,x0.2.1,x0.2.2.1,s.2.1,x0.2.2.2.2.1,x0.2.2.2.2.2.1,s.2.2,x0.2.2.2.2.2.2.2) (q.1,q.2,Q.2.2),hr Q.2.2.1 x0.2.2.2.2.2.2.2.1 Q.2.2.2]) (Q.1,Q.2.1) [1,0,2] U ?_;rintro w ⟨d,a,g⟩ ⟨b,c⟩ h;rw[HL] at h;refine V.co ab 8 0 h U (λh=>?_) (λh=>?_)
   ·refine V.da ab 2 0 h (ρ:=bI×Nat) (λs q=>[(0,.bj ⟨a3,1,1⟩ 0),(1,.v (.string (a9 e))),(4,.v (.int .i64 d))]) .nil (λs q=>[r9 q.1 s.1 q.2,lP a3 (x0.1,x0.2.1,x0.2.2.1,s.1,x0.2.2.2.2.1,x0.2.2.2.2.2.1,s.2,x0.2.2.2.2.2.2.2) (q.1,q.2,Q.2.2),hr Q.2.2.1 x0.2.2.2.2.2.2.2.1 Q.2.2.2]) U ?_ ?_
    ·intro E _ h;obtain⟨x,h⟩:=bC h;obtain⟨y,h⟩:=bC h;refine V.go ab 1 0 U ?_;refine V.jm (aT.iG 1 U λi=>V.h7 ?_);refine V.jm (aT.r7 U .nil [1] [10,11,12,13] trivial U (λz=>?_));refine bE.ph ab gn 13 [0] U (by kernel_rfl) [] [(13,.bj ⟨a3,1,1⟩ 0)] U ⟨U,trivial⟩ (bE.eI ab gn true 5 [1,2,3,5,6,7,8,9] U (by kernel_rfl) [(W (d+1))] [(16,.bj ⟨a3,1,1⟩ 6),(22,.v (.string (a9 (ch e d (W (d+1))))))] trivial [1] U U ⟨(i.fW fX).1,i.fW fX,⟨trivial,U⟩,x,(fL U)⟩ (bE.kN ab gn 4 U (by kernel_rfl) U U U U U 0 U U 0 6 (x0.1,x0.2.1,x0.2.2.1,(bw.v ⟨b,a.length,c⟩),x0.2.2.2.2.1,x0.2.2.2.2.2.1,g,(bw.v ⟨Q.2.2.1,x0.2.2.2.2.2.2.2.1.length,Q.2.2.2⟩),x0.2.2.2.2.2.2.2.2) ⟨U,U⟩ U U U trivial [1] U (bE.ph ab gn 1 [10,11,12] U (by kernel_rfl) [] [(23,.v (.string (a9 (g++(ch e d (W (d+1))))))),(25,.bj ⟨a3,1,1⟩ 6)] U ⟨y,(i.fW fX).1,i.fW fX,(fL U)⟩ (bE.one 13 (by kernel_rfl) (cL.qI ab U U U U U U U U U [1] (fs:=[]) U 0 6 (x0.1,x0.2.1,x0.2.2.1,(bw.v ⟨b,a.length,c⟩),x0.2.2.2.2.1,x0.2.2.2.2.2.1,g,(bw.v ⟨Q.2.2.1,x0.2.2.2.2.2.2.2.1.length,Q.2.2.2⟩),x0.2.2.2.2.2.2.2.2) (x0.1,x0.2.1,x0.2.2.1,(bw.v ⟨b,a.length,c⟩),x0.2.2.2.2.1,x0.2.2.2.2.2.1,(g++(ch e d (W (d+1)))),(bw.v ⟨Q.2.2.1,x0.2.2.2.2.2.2.2.1.length,Q.2.2.2⟩),x0.2.2.2.2.2.2.2.2) ⟨U,U⟩ ⟨⟨⟨⟨⟨⟨⟨⟨U,U,U⟩,U⟩,U⟩,U⟩,U⟩,U⟩,U⟩,U⟩ (bE.nO U (bE.done (by kernel_rfl) (aT.boxes (B':= .nil) trivial (V.h7 ?_)))))))));obtain⟨l,h⟩:=bC h;refine V.co ab 7 0 h ⟨l,U⟩ (λh=>?_) (λh=>?_)
     ·refine V.da ab 10 0 h (ρ:=Unit) (λs q=>[(0,.bj ⟨a3,1,1⟩ 0),(1,.v (.string (a9 e))),(4,.v (.int .i64 d))]) .nil (λs q=>eV a3 (x0.1,x0.2.1,x0.2.2.1,a,x0.2.2.2.2.1,x0.2.2.2.2.2.1,s,x0.2.2.2.2.2.2.2) (b,c,Q.2.2)) ⟨U,U,U,U⟩ ?_ ?_
      ·intro F _ h;refine V.e_ ab 0 0 h (ρ:=Unit) (λs q=>[(0,.bj ⟨a3,1,1⟩ 0),(1,.v (.string (a9 e))),(4,.v (.int .i64 d)),(33,.v (.slice b a.length c)),(34,.v (.int .i64 (a.length:Int))),(35,.v (.int .i64 s.1))]) .nil (λs q=>eV a3 (x0.1,x0.2.1,x0.2.2.1,a,x0.2.2.2.2.1,x0.2.2.2.2.2.1,s.2,x0.2.2.2.2.2.2.2) (b,c,Q.2.2)) () [0,1,2] U ?_;rintro A ⟨f,j⟩ _ h;rw[HK] at h;refine V.co ab 5 0 h U (λh=>?_) (λh=>?_)
       ·refine V.go ab 5 0 U ?_;refine V.cj (aH.iG 1 U λm=>V.ct ?_);obtain⟨v,h⟩:=bC h;refine V.go ab 1 0 ⟨m.ix v,U⟩ ?_;refine V.cj (aH.kN ab U U U U U U 1 U U (Int.toNat f) 0 (at' a f) ⟨me v,U⟩ U U U (V.ct ?_));refine V.cj (aH.pg ab 2 [] [41] [(6,.e2 41 0)] (.new 41 75 [.string (a9 (at' a f).1),.bool (at' a f).2] .nil) U ⟨⟨U,trivial⟩,(jw U U)⟩ (V.ct ?_));obtain⟨B,h⟩:=bC h;obtain⟨n,h⟩:=bC h;refine V.go ab 1 0 U ?_;refine V.jm (aT.iG 0 U λk=>V.h7 ?_);refine V.jm (aT.r7 U (.new 41 75 [.string (a9 (at' a f).1),.bool (at' a f).2] .nil) [0] [7,8,9,10,11] ⟨U,U,U,U,trivial⟩ U (λC=>?_));refine bE.ph ab gn 11 [0] U (by kernel_rfl) [] [(39,.bj ⟨a3,1,1⟩ 0)] U ⟨U,trivial⟩ (bE.eI ab gn true 6 [1,2,3,5,6] U (by kernel_rfl) [] [(42,.bj ⟨a3,1,1⟩ 6),(45,.v (.string (a9 (at' a f).1)))] ⟨U,U,U,U,trivial⟩ [0] U U ⟨(k.fW fX).1,k.fW fX,(fL U)⟩ (bE.kN ab gn 4 U (by kernel_rfl) U U U U U 0 U U 0 6 (x0.1,x0.2.1,x0.2.2.1,(bw.v ⟨b,a.length,c⟩),x0.2.2.2.2.1,x0.2.2.2.2.2.1,j,(bw.v ⟨Q.2.2.1,x0.2.2.2.2.2.2.2.1.length,Q.2.2.2⟩),x0.2.2.2.2.2.2.2.2) ⟨U,U⟩ U U U ⟨U,U,U,U,trivial⟩ [0] U (bE.ph ab gn 1 [7,8,9,10] U (by kernel_rfl) [] [(47,.v (.string (a9 ((j++(at' a f).1)++([10]:aa))))),(49,.bj ⟨a3,1,1⟩ 6)] U ⟨B,n,(k.fW fX).1,k.fW fX,(fL U)⟩ (bE.one 11 (by kernel_rfl) (cL.qI ab U U U U U U U U U [0] (fs:=[]) U 0 6 (x0.1,x0.2.1,x0.2.2.1,(bw.v ⟨b,a.length,c⟩),x0.2.2.2.2.1,x0.2.2.2.2.2.1,j,(bw.v ⟨Q.2.2.1,x0.2.2.2.2.2.2.2.1.length,Q.2.2.2⟩),x0.2.2.2.2.2.2.2.2) (x0.1,x0.2.1,x0.2.2.1,(bw.v ⟨b,a.length,c⟩),x0.2.2.2.2.1,x0.2.2.2.2.2.1,((j++(at' a f).1)++([10]:aa)),(bw.v ⟨Q.2.2.1,x0.2.2.2.2.2.2.2.1.length,Q.2.2.2⟩),x0.2.2.2.2.2.2.2.2) ⟨U,U⟩ ⟨⟨⟨⟨⟨⟨⟨⟨U,U,U⟩,U⟩,U⟩,U⟩,U⟩,U⟩,U⟩,U⟩ (bE.nO U (bE.done (by kernel_rfl) (aT.boxes (B':= .nil) trivial (V.h7 ?_)))))))));exact V.el ab 5 0 h () [0,1,2] U
       exact V.a6 ab 1 0 h () [0,1,2] U
      rintro G _ h;refine V.go ab 7 0 ⟨U,U,U,U⟩ ?_;refine V.jm (aT.oE (.pair .str .bool) bw.nil U U (V.h7 ?_))
      try dsimp only at h
      exact V.a6 ab 0 0 h (none,0) [0,1,3] U
     exact V.a6 ab 2 0 h (b,c) [1,0,2] U
    rintro⟨H,I⟩ ⟨o,p⟩ h
    try dsimp only at h
    exact V.el ab 5 0 h (o,p) [0,1,2] U
   exact V.a6 ab 1 0 h (b,c) [0,1,2] U
  rintro⟨J,K⟩ ⟨t,u⟩ h;cases h;exact V.jI ab 0 0 (t,u,Q.2.2) [1,0,0] U
def g5(x0:ah)(b:aa):Option ah:=
 (a8 (λ(c:Int)=>(au (vI (x0.1,x0.2.1,x0.2.2.1,x0.2.2.2.1,c,x0.2.2.2.2.2) b) λ(d:ah)=>some d)) λa=>(bif(decide (x0.2.2.2.2.1=0)) then a 1 else a x0.2.2.2.2.1))
theorem pB{x0:ah}{a:aa}{a3:bI}{Q:bu}{r:ah}(h:g5 x0 a=some r):
  gL Tryz.prog 33 [.pointer a3,.string (a9 a)] [] (eV a3 x0 Q) (λ_:bu=>True) (λq=> .tuple #[]) (λq=>eV a3 r q):=
 by
  refine V.jn (T:=cl) Tryz.call33 Tryz.func33 U λ_ _=>?_;unfold g5 at h;refine V.e9 ab 0 0 h (ρ:=Unit) (λs q=>[(0,.bj ⟨a3,1,1⟩ 0),(1,.v (.string (a9 a)))]) .nil (λs q=>eV a3 (x0.1,x0.2.1,x0.2.2.1,x0.2.2.2.1,s,x0.2.2.2.2.2) Q) U ?_ ?_
  ·intro c _ h;refine V.co ab 8 0 h ⟨U,U,U,U⟩ (λh=>?_) (λh=>?_)
   ·exact V.a6 ab 6 0 h () [0,1,2] ⟨U,U,U,U⟩
   exact V.a6 ab 1 0 h () [0,1,2] U
  rintro d _ h;refine V.bH ab 3 0 h Qy [0,0,0] [] U λe b h=>?_;cases h;exact V.jI ab 1 0 b [0,0,0] U
def ig(x0:ah):Option UInt8:=
 (au (gz x0) λ(a:Bool)=>(bif a then some (0:UInt8) else(a4 (0<=x0.2.1/\x0.2.1<(x0.1.length:Int))<|some (at' x0.1 x0.2.1))))
theorem oh{x0:ah}{a2:bI}{Q:bu}{r:UInt8}(h:ig x0=some r):
  FC Tryz.prog 46 [.pointer a2] [lP a2 x0 Q] (λ_:Unit=>True) (λ_=> .int .u8 (r.toNat:Int)) (λ_=>[]):=
 by
  refine V.fM (T:=cl) Tryz.call46 Tryz.func46 U λ_=>?_;unfold ig at h;refine V.cM ab 8 0 h m9 [0] U λb _ h=>?_;refine V.co ab 1 0 h U (λh=>?_) (λh=>?_)
  ·cases h;exact V.rt ab 4 0 () [] U
  obtain⟨a,h⟩:=bC h;refine V.jz ab 2 0 U (by kernel_rfl) ?_;cases h;exact V.rt ab 11 0 () [] ⟨U,U,U,U,U,U,a,U⟩
def z_(x0:Int)(a:Int):Option Int:=
 (bif(decide (x0<0)) then some 0 else(bif(decide (a<x0)) then some a else some x0))
theorem La{x0:Int}{a:Int}{r:Int}(h:z_ x0 a=some r):
  FC Tryz.prog 78 [.int .i64 x0,.int .i64 a] [] (λ_:Unit=>True) (λ_=> .int .i64 r) (λ_=>[]):=
 by
  refine V.fM (T:=cl) Tryz.call78 Tryz.func78 U λ_=>?_;unfold z_ at h;refine V.co ab 10 0 h U (λh=>?_) (λh=>?_)
  ·cases h;exact V.rt ab 4 0 () [] U
  refine V.co ab 8 0 h U (λh=>?_) (λh=>?_)
  ·cases h;exact V.rt ab 5 0 () [] U
  cases h;exact V.rt ab 6 0 () [] U
def HM(x0:aa)(b:Int->Option Int)(c:Int->Option Int):Int->Option Int:=λa=>
 (a4 (((decide (a<(x0.length:Int)))=true)->0<=a/\a<(x0.length:Int))<|(bif(bif(decide (a<(x0.length:Int))) then(!(decide (((at' x0 a).toNat:Int)=(10:Int)))) else false) then c (W (a+1)) else b a))
def Es(x0:aa)(b:Bool)(c:Int)(d:Int->Option Int)(e:Int->Option Int):Int->Option Int:=λa=>
 (a4 (((bif b then(decide (a<c)) else false)=true)->0<=a/\a<(x0.length:Int))<|(bif(bif(bif b then(decide (a<c)) else false) then(decide (((at' x0 a).toNat:Int)=(9:Int))) else false) then e (W (a+1)) else d a))
def wX(x0:aa)(g:aa)(h:Bool)(i:Unit->Option Int)(b:Int->Option Int):Int->Option Int:=λc=>
 (bif(decide (c<(x0.length:Int))) then(a8 (λ(j:Int)=>b j) λk=>(a8 (λ(a:Int)=>(a8 (λ(d:Int)=>(a8 (λ(e:Int)=>(a4 (0<=d/\d<=a/\a<=(x0.length:Int))<|(bif(decide ((ch x0 d a)=g)) then some e else k e))) λf=>(bif(decide (a<(x0.length:Int))) then f (W (a+1)) else f a))) λl=>(fixF (Es x0 h a l) bB c))) λm=>(fixF (HM x0 m) bB c))) else i ())
def Eu(x0:aa)(a:Int)(b:aa)(c:Bool):Option Int:=
 (au (z_ a (x0.length:Int)) λ(d:Int)=>(a8 (λ(_:Unit)=>some (-1)) λe=>(fixF (wX x0 b c e) bB d)))
theorem ag1{x0:aa}{d:Int}{a:aa}{b:Bool}{r:Int}(h:Eu x0 d a b=some r):
  FC Tryz.prog 66 [.string (a9 x0),.int .i64 d,.string (a9 a),.bool b] [] (λ_:Unit=>True) (λ_=> .int .i64 r) (λ_=>[]):=
 by
  refine V.fM (T:=cl) Tryz.call66 Tryz.func66 U λ_=>?_;unfold Eu at h;refine V.cM ab 9 0 h La [] U λl _ h=>?_;refine V.da ab 3 0 h (ρ:=Unit) (λs q=>[]) .nil (λs q=>[]) U ?_ ?_
  ·intro m _ h;refine V.e_ ab 0 0 h (ρ:=Unit) (λs q=>[(0,.v (.string (a9 x0))),(2,.v (.string (a9 a))),(3,.v (.bool b)),(9,.v (.int .i64 s))]) .nil (λs q=>[]) () [] U ?_;rintro f e _ h;rw[wX] at h;refine V.co ab 8 0 h U (λh=>?_) (λh=>?_)
   ·refine V.da ab 1 0 h (ρ:=Unit) (λs q=>[(0,.v (.string (a9 x0))),(2,.v (.string (a9 a))),(3,.v (.bool b)),(9,.v (.int .i64 s))]) .nil (λs q=>[]) U ?_ ?_
    ·intro n _ h;refine V.da ab 6 0 h (ρ:=Unit) (λs q=>[(0,.v (.string (a9 x0))),(2,.v (.string (a9 a))),(3,.v (.bool b)),(9,.v (.int .i64 e)),(10,.v (.int .i64 s))]) .nil (λs q=>[]) U ?_ ?_
     ·intro o _ h;refine V.e_ ab 0 0 h (ρ:=Unit) (λs q=>[(0,.v (.string (a9 x0))),(2,.v (.string (a9 a))),(3,.v (.bool b)),(9,.v (.int .i64 e)),(10,.v (.int .i64 s))]) .nil (λs q=>[]) () [] U ?_;rintro p t _ h;rw[HM] at h;obtain⟨g,h⟩:=bC h;refine V.co ab 14 0 h ⟨g,U⟩ (λh=>?_) (λh=>?_)
      ·exact V.el ab 8 0 h () [] U
      exact V.a6 ab 1 0 h () [] U
     rintro c _ h;refine V.da ab 6 0 h (ρ:=Unit) (λs q=>[(0,.v (.string (a9 x0))),(2,.v (.string (a9 a))),(3,.v (.bool b)),(10,.v (.int .i64 c)),(11,.v (.int .i64 s))]) .nil (λs q=>[]) U ?_ ?_
     ·intro u _ h;refine V.e_ ab 0 0 h (ρ:=Unit) (λs q=>[(0,.v (.string (a9 x0))),(2,.v (.string (a9 a))),(3,.v (.bool b)),(10,.v (.int .i64 c)),(11,.v (.int .i64 s))]) .nil (λs q=>[]) () [] U ?_;rintro v w _ h;rw[Es] at h;obtain⟨i,h⟩:=bC h;refine V.co ab 16 0 h ⟨i,U⟩ (λh=>?_) (λh=>?_)
      ·exact V.el ab 8 0 h () [] U
      exact V.a6 ab 1 0 h () [] U
     rintro j _ h;refine V.e9 ab 5 0 h (ρ:=Unit) (λs q=>[(0,.v (.string (a9 x0))),(2,.v (.string (a9 a))),(3,.v (.bool b)),(10,.v (.int .i64 c)),(11,.v (.int .i64 j)),(12,.v (.int .i64 s))]) .nil (λs q=>[]) U ?_ ?_
     ·intro x _ h;refine V.co ab 7 0 h U (λh=>?_) (λh=>?_)
      ·exact V.a6 ab 5 0 h () [] U
      exact V.a6 ab 1 0 h () [] U
     rintro y _ h;obtain⟨k,h⟩:=bC h;refine V.co ab 10 0 h ⟨k,U⟩ (λh=>?_) (λh=>?_)
     ·cases h;exact V.rt ab 5 0 () [] U
     exact V.a6 ab 6 0 h () [] U
    rintro z _ h
    try dsimp only at h
    exact V.el ab 0 0 h () [] U
   exact V.a6 ab 1 0 h () [] U
  rintro _ _ h;cases h;exact V.rt ab 4 0 () [] U
def HN(x0:ah)(b:Int)(e:aa->Option ah)(d:(Int×aa)->Option ah):(Int×aa)->Option ah:=λ(a,c)=>
 (bif(decide (a<((ch x0.2.2.2.1 b (x0.2.2.2.1.length:Int)).length:Int))) then(a4 (0<=a/\a<((ch x0.2.2.2.1 b (x0.2.2.2.1.length:Int)).length:Int))<|(a4 (((c.length+((at' (ch x0.2.2.2.1 b (x0.2.2.2.1.length:Int)) a).1).length:Nat):Int)<=9223372036854775807)<|(a4 ((((c++(at' (ch x0.2.2.2.1 b (x0.2.2.2.1.length:Int)) a).1).length+([10]:aa).length:Nat):Int)<=9223372036854775807)<|d ((W (a+1)),((c++(at' (ch x0.2.2.2.1 b (x0.2.2.2.1.length:Int)) a).1)++([10]:aa)))))) else e c)
def B4(x0:ah)(d:Int->Option ah)(e:(Int×Int)->Option ah):(Int×Int)->Option ah:=λ(a,b)=>
 (bif(decide (a<(x0.2.2.2.1.length:Int))) then(a8 (λ(f:Int)=>e ((W (a+1)),f)) λg=>(a4 (0<=a/\a<(x0.2.2.2.1.length:Int))<|(au (Eu x0.1 b ((at' x0.2.2.2.1 a).1) ((at' x0.2.2.2.1 a).2)) λ(c:Int)=>(bif(decide (c<0)) then(a4 (0<=a/\a<=(x0.2.2.2.1.length:Int)/\(x0.2.2.2.1.length:Int)<=(x0.2.2.2.1.length:Int))<|(a8 (λ(h:aa)=>some (x0.1,(x0.1.length:Int),x0.2.2.1,[],1,x0.2.2.2.2.2.1,h,([([60,60]:aa)]:bl),false)) λi=>(fixF (HN x0 a i) bB (0,x0.2.2.2.2.2.2.1)))) else g c)))) else d b)
def Aa(x0:ah):Option ah:=
 (a8 (λ(a:Int)=>some (x0.1,a,x0.2.2.1,[],x0.2.2.2.2.1,x0.2.2.2.2.2.1,x0.2.2.2.2.2.2.1,x0.2.2.2.2.2.2.2.1,false)) λb=>(fixF (B4 x0 b) bB (0,(W (x0.2.1+1)))))
theorem WB{x0:ah}{a2:bI}{Q:bu}{r:ah}(h:Aa x0=some r):
  gL Tryz.prog 47 [.pointer a2] [] (eV a2 x0 Q) (λ_:bu=>True) (λq=> .tuple #[]) (λq=>eV a2 r q):=
 by
  refine V.jn (T:=cl) Tryz.call47 Tryz.func47 U λ_ _=>?_;unfold Aa at h;refine V.da ab 39 0 h (ρ:=Unit) (λs q=>[]) .nil (λs q=>[⟨(.pair .str (.pair (.int .i64) (.pair (.int .i64) (.pair .val (.pair (.int .i64) (.pair (.int .i64) (.pair .str (.pair .val .bool)))))))),⟨a2,1,1⟩,[(x0.1,s,x0.2.2.1,(bw.v ⟨none,0,0⟩),x0.2.2.2.2.1,x0.2.2.2.2.2.1,x0.2.2.2.2.2.2.1,(bw.v ⟨Q.2.2.1,x0.2.2.2.2.2.2.2.1.length,Q.2.2.2⟩),false)]⟩,hr Q.2.2.1 x0.2.2.2.2.2.2.2.1 Q.2.2.2]) ⟨U,U,U,U,U,U,U,U,U,U,U,U,U,U,U,U⟩ ?_ ?_
  ·intro w _ h;refine V.e_ ab 0 0 h (ρ:=Unit) (λs q=>[(0,.bj ⟨a2,1,1⟩ 0),(2,.v (.slice Q.1 x0.2.2.2.1.length Q.2.1)),(25,.v (.slice Q.1 x0.2.2.2.1.length Q.2.1)),(26,.v (.int .i64 (x0.2.2.2.1.length:Int))),(27,.v (.int .i64 s.1))]) .nil (λs q=>[⟨(.pair .str (.pair (.int .i64) (.pair (.int .i64) (.pair .val (.pair (.int .i64) (.pair (.int .i64) (.pair .str (.pair .val .bool)))))))),⟨a2,1,1⟩,[(x0.1,s.2,x0.2.2.1,(bw.v ⟨none,0,0⟩),x0.2.2.2.2.1,x0.2.2.2.2.2.1,x0.2.2.2.2.2.2.1,(bw.v ⟨Q.2.2.1,x0.2.2.2.2.2.2.2.1.length,Q.2.2.2⟩),false)]⟩,r9 Q.1 x0.2.2.2.1 Q.2.1,hr Q.2.2.1 x0.2.2.2.2.2.2.2.1 Q.2.2.2]) () [0,1,2] U ?_;rintro n ⟨a,x⟩ _ h;rw[B4] at h;refine V.co ab 5 0 h U (λh=>?_) (λh=>?_)
   ·refine V.da ab 2 0 h (ρ:=Unit) (λs q=>[(0,.bj ⟨a2,1,1⟩ 0),(2,.v (.slice Q.1 x0.2.2.2.1.length Q.2.1)),(25,.v (.slice Q.1 x0.2.2.2.1.length Q.2.1)),(26,.v (.int .i64 (x0.2.2.2.1.length:Int))),(27,.v (.int .i64 a))]) .nil (λs q=>[⟨(.pair .str (.pair (.int .i64) (.pair (.int .i64) (.pair .val (.pair (.int .i64) (.pair (.int .i64) (.pair .str (.pair .val .bool)))))))),⟨a2,1,1⟩,[(x0.1,s,x0.2.2.1,(bw.v ⟨none,0,0⟩),x0.2.2.2.2.1,x0.2.2.2.2.2.1,x0.2.2.2.2.2.2.1,(bw.v ⟨Q.2.2.1,x0.2.2.2.2.2.2.2.1.length,Q.2.2.2⟩),false)]⟩,r9 Q.1 x0.2.2.2.1 Q.2.1,hr Q.2.2.1 x0.2.2.2.2.2.2.2.1 Q.2.2.2]) U ?_ ?_
    ·intro y _ h;refine V.go ab 2 0 U ?_;refine V.cj (aH.iG 1 U λo=>V.ct ?_);obtain⟨j,h⟩:=bC h;refine V.go ab 2 0 ⟨o.ix j,U⟩ ?_;refine V.cj (aH.kN ab U U U U U U 1 U U (Int.toNat a) 0 (at' x0.2.2.2.1 a) ⟨me j,U⟩ U U U (V.ct ?_));refine V.cj (aH.pg ab 3 [] [25] [(3,.v (.int .i64 a)),(4,.e2 25 0)] (.new 25 75 [.string (a9 (at' x0.2.2.2.1 a).1),.bool (at' x0.2.2.2.1 a).2] .nil) U ⟨(fL U),(jw U U)⟩ (V.ct ?_));refine V.jz ab 2 0 U (by kernel_rfl) ?_;refine V.go ab 12 0 ⟨U,U,U,U,U,U,U⟩ ?_;obtain⟨z,f,h⟩:=jH h;refine V.toQ (kz.call U U U U (ag1 f) U [] U U (V.rk ?_));refine V.co ab 8 0 h U (λh=>?_) (λh=>?_)
     ·refine V.go ab 22 0 ⟨U,U,U,U,U,U,U,U,U,U⟩ ?_;refine V.cj (aH.kj U (cL.buildSlice ab U U U U U U U U U U U [] U .str [([60,60]:aa)] ⟨U,U⟩ U U λc=>aH.kk (V.ct ?_)));obtain⟨p,h⟩:=bC h;refine V.go ab 9 1 ⟨U,U,U,U⟩ ?_;refine V.cj (aH.GM ab U U U U U U U U [2] U a (x0.2.2.2.1.length:Int) U U p U λk l=>V.ct ?_);refine V.da ab 3 0 h (ρ:=Unit) (λs q=>[]) .nil (λs q=>[⟨(.pair .str (.pair (.int .i64) (.pair (.int .i64) (.pair .val (.pair (.int .i64) (.pair (.int .i64) (.pair .str (.pair .val .bool)))))))),⟨a2,1,1⟩,[(x0.1,(x0.1.length:Int),x0.2.2.1,(bw.v ⟨none,0,0⟩),1,x0.2.2.2.2.2.1,s,(bw.v ⟨c,([([60,60]:aa)]:bl).length,([([60,60]:aa)]:bl).length⟩),false)]⟩,hr c ([([60,60]:aa)]:bl) ([([60,60]:aa)]:bl).length]) U ?_ ?_
      ·intro A _ h;refine V.e_ ab 0 0 h (ρ:=Unit) (λs q=>[(0,.bj ⟨a2,1,1⟩ 0),(64,.v (.slice k (ch x0.2.2.2.1 a (x0.2.2.2.1.length:Int)).length l)),(65,.v (.int .i64 ((ch x0.2.2.2.1 a (x0.2.2.2.1.length:Int)).length:Int))),(66,.v (.int .i64 s.1))]) .nil (λs q=>[⟨(.pair .str (.pair (.int .i64) (.pair (.int .i64) (.pair .val (.pair (.int .i64) (.pair (.int .i64) (.pair .str (.pair .val .bool)))))))),⟨a2,1,1⟩,[(x0.1,(x0.1.length:Int),x0.2.2.1,(bw.v ⟨none,0,0⟩),1,x0.2.2.2.2.2.1,s.2,(bw.v ⟨c,([([60,60]:aa)]:bl).length,([([60,60]:aa)]:bl).length⟩),false)]⟩,r9 k (ch x0.2.2.2.1 a (x0.2.2.2.1.length:Int)) l,hr c ([([60,60]:aa)]:bl) ([([60,60]:aa)]:bl).length]) () [1,0,2] U ?_;rintro t ⟨b,d⟩ _ h;rw[HN] at h;refine V.co ab 5 0 h U (λh=>?_) (λh=>?_)
       ·refine V.go ab 5 0 U ?_;refine V.cj (aH.iG 1 U λg=>V.ct ?_);obtain⟨m,h⟩:=bC h;refine V.go ab 1 0 ⟨g.ix m,U⟩ ?_;refine V.cj (aH.kN ab U U U U U U 1 U U (Int.toNat b) 0 (at' (ch x0.2.2.2.1 a (x0.2.2.2.1.length:Int)) b) ⟨me m,U⟩ U U U (V.ct ?_));refine V.cj (aH.pg ab 2 [] [55] [(7,.e2 55 0)] (.new 55 75 [.string (a9 (at' (ch x0.2.2.2.1 a (x0.2.2.2.1.length:Int)) b).1),.bool (at' (ch x0.2.2.2.1 a (x0.2.2.2.1.length:Int)) b).2] .nil) U ⟨⟨U,trivial⟩,(jw U U)⟩ (V.ct ?_));obtain⟨u,h⟩:=bC h;obtain⟨i,h⟩:=bC h;refine V.go ab 1 0 U ?_;refine V.jm (aT.iG 0 U λe=>V.h7 ?_);refine V.jm (aT.r7 U (.new 55 75 [.string (a9 (at' (ch x0.2.2.2.1 a (x0.2.2.2.1.length:Int)) b).1),.bool (at' (ch x0.2.2.2.1 a (x0.2.2.2.1.length:Int)) b).2] .nil) [0] [7,8,9,10,11] ⟨U,U,U,U,trivial⟩ U (λv=>?_));refine bE.ph ab gn 11 [0] U (by kernel_rfl) [] [(70,.bj ⟨a2,1,1⟩ 0)] U ⟨U,trivial⟩ (bE.eI ab gn true 6 [1,2,3,5,6] U (by kernel_rfl) [] [(73,.bj ⟨a2,1,1⟩ 6),(76,.v (.string (a9 (at' (ch x0.2.2.2.1 a (x0.2.2.2.1.length:Int)) b).1)))] ⟨U,U,U,U,trivial⟩ [0] U U ⟨(e.fW fX).1,e.fW fX,(fL U)⟩ (bE.kN ab gn 4 U (by kernel_rfl) U U U U U 0 U U 0 6 (x0.1,(x0.1.length:Int),x0.2.2.1,(bw.v ⟨none,0,0⟩),1,x0.2.2.2.2.2.1,d,(bw.v ⟨c,([([60,60]:aa)]:bl).length,([([60,60]:aa)]:bl).length⟩),false) ⟨U,U⟩ U U U ⟨U,U,U,U,trivial⟩ [0] U (bE.ph ab gn 1 [7,8,9,10] U (by kernel_rfl) [] [(78,.v (.string (a9 ((d++(at' (ch x0.2.2.2.1 a (x0.2.2.2.1.length:Int)) b).1)++([10]:aa))))),(80,.bj ⟨a2,1,1⟩ 6)] U ⟨u,i,(e.fW fX).1,e.fW fX,(fL U)⟩ (bE.one 11 (by kernel_rfl) (cL.qI ab U U U U U U U U U [0] (fs:=[]) U 0 6 (x0.1,(x0.1.length:Int),x0.2.2.1,(bw.v ⟨none,0,0⟩),1,x0.2.2.2.2.2.1,d,(bw.v ⟨c,([([60,60]:aa)]:bl).length,([([60,60]:aa)]:bl).length⟩),false) (x0.1,(x0.1.length:Int),x0.2.2.1,(bw.v ⟨none,0,0⟩),1,x0.2.2.2.2.2.1,((d++(at' (ch x0.2.2.2.1 a (x0.2.2.2.1.length:Int)) b).1)++([10]:aa)),(bw.v ⟨c,([([60,60]:aa)]:bl).length,([([60,60]:aa)]:bl).length⟩),false) ⟨U,U⟩ ⟨⟨⟨⟨⟨⟨⟨⟨U,U,U⟩,U⟩,U⟩,U⟩,U⟩,U⟩,U⟩,U⟩ (bE.nO U (bE.done (by kernel_rfl) (aT.boxes (B':= .nil) trivial (V.h7 ?_)))))))));exact V.el ab 5 0 h () [0,1,2] U
       exact V.a6 ab 1 0 h () [0,2] U
      rintro B _ h;cases h;refine V.jm (aT.oE (.pair .str .bool) bw.nil U U (V.h7 ?_));exact V.rx ab 0 0 (none,0,c,([([60,60]:aa)]:bl).length) [1,0,0] U
     try dsimp only at h
     exact V.a6 ab 9 0 h () [0,1,2] ⟨U,U,U,U⟩
    rintro C _ h
    try dsimp only at h
    exact V.el ab 4 0 h () [0,1,2] U
   exact V.a6 ab 1 0 h () [0,2] U
  rintro D _ h;cases h;refine V.jm (aT.oE (.pair .str .bool) bw.nil U U (V.h7 ?_));exact V.jI ab 0 0 (none,0,Q.2.2) [1,0,0] U
def Lc:Option bl:=
 some ([([60,60,45]:aa),([38,38]:aa),([124,124]:aa),([59,59]:aa),([60,60]:aa),([60,38]:aa),([60,62]:aa),([62,62]:aa),([62,38]:aa),([62,124]:aa),([38]:aa),([124]:aa),([59]:aa),([60]:aa),([62]:aa),([40]:aa),([41]:aa)]:bl)
theorem ag7{r:bl}(h:Lc=some r):
  FC Tryz.prog 79 [] [] (λ_:bI×Nat=>True) (λq=> .slice q.1 r.length q.2) (λq=>[hr q.1 r q.2]):=
 by refine V.fM (T:=cl) Tryz.call79 Tryz.func79 U λ_=>?_;unfold Lc at h;refine V.go ab 6 0 U ?_;refine V.cj (aH.kj U (cL.buildSlice ab U U U U U U U U U U U [] U .str [([60,60,45]:aa),([38,38]:aa),([124,124]:aa),([59,59]:aa),([60,60]:aa),([60,38]:aa),([60,62]:aa),([62,62]:aa),([62,38]:aa),([62,124]:aa),([38]:aa),([124]:aa),([59]:aa),([60]:aa),([62]:aa),([40]:aa),([41]:aa)] ⟨U,U⟩ U U λa=>aH.kk (V.ct ?_)));cases h;exact V.rt ab 2 0 (a,([([60,60,45]:aa),([38,38]:aa),([124,124]:aa),([59,59]:aa),([60,60]:aa),([60,38]:aa),([60,62]:aa),([62,62]:aa),([62,38]:aa),([62,124]:aa),([38]:aa),([124]:aa),([59]:aa),([60]:aa),([62]:aa),([40]:aa),([41]:aa)]:bl).length) [0] U
def HO(x0:aa)(c:Int)(b:bl)(e:Unit->Option aa)(d:Int->Option aa):Int->Option aa:=λa=>
 (bif(decide (a<(b.length:Int))) then(a4 (0<=a/\a<(b.length:Int))<|(a4 (((decide (((at' b a).length:Int)<=(W ((x0.length:Int)-c))))=true)->0<=c/\c<=(W (c+((at' b a).length:Int)))/\(W (c+((at' b a).length:Int)))<=(x0.length:Int))<|(bif(bif(decide (((at' b a).length:Int)<=(W ((x0.length:Int)-c)))) then(decide ((ch x0 c (W (c+((at' b a).length:Int))))=(at' b a))) else false) then some (at' b a) else d (W (a+1))))) else e ())
def yr(x0:aa)(a:Int):Option aa:=
 (bif(bif(decide (a<0)) then true else(decide ((x0.length:Int)<=a))) then some ([]) else(au (Lc) λ(b:bl)=>(a8 (λ(_:Unit)=>some ([])) λc=>(fixF (HO x0 a b c) bB 0))))
theorem QD{x0:aa}{b:Int}{r:aa}(h:yr x0 b=some r):
  FC Tryz.prog 67 [.string (a9 x0),.int .i64 b] [] (λ_:Unit=>True) (λ_=> .string (a9 r)) (λ_=>[]):=
 by
  refine V.fM (T:=cl) Tryz.call67 Tryz.func67 U λ_=>?_;unfold yr at h;refine V.co ab 16 0 h U (λh=>?_) (λh=>?_)
  ·cases h;exact V.rt ab 4 0 () [] U
  refine V.cM ab 4 0 h ag7 [] U ?_;rintro a ⟨d,e⟩ h;refine V.da ab 3 0 h (ρ:=Unit) (λs q=>[]) .nil (λs q=>[]) U ?_ ?_
  ·intro k _ h;refine V.e_ ab 0 0 h (ρ:=Unit) (λs q=>[(0,.v (.string (a9 x0))),(1,.v (.int .i64 b)),(15,.v (.slice d a.length e)),(16,.v (.int .i64 (a.length:Int))),(17,.v (.int .i64 s))]) .nil (λs q=>[hr d a e]) () [0] U ?_;rintro i f _ h;rw[HO] at h;refine V.co ab 5 0 h U (λh=>?_) (λh=>?_)
   ·refine V.go ab 5 0 U ?_;refine V.cj (aH.iG 0 U λc=>V.ct ?_);obtain⟨g,h⟩:=bC h;refine V.go ab 1 0 ⟨c.ix g,U⟩ ?_;refine V.cj (aH.load ab U U U U U U U 0 U U (Int.toNat f) 0 (at' a f) ⟨me g,U⟩ U U (V.ct ?_));obtain⟨j,h⟩:=bC h;refine V.co ab 23 0 h ⟨j,U⟩ (λh=>?_) (λh=>?_)
    ·cases h;exact V.rt ab 5 0 () [] U
    exact V.el ab 6 0 h () [0] U
   exact V.a6 ab 1 0 h () [] U
  rintro _ _ h;cases h;exact V.rt ab 4 0 () [] U
def hH(x0:ah):Option aa:=
 (au (yr x0.1 x0.2.1) λ(a:aa)=>some a)
theorem oO{x0:ah}{a2:bI}{Q:bu}{r:aa}(h:hH x0=some r):
  FC Tryz.prog 48 [.pointer a2] [lP a2 x0 Q] (λ_:Unit=>True) (λ_=> .string (a9 r)) (λ_=>[]):=
 by refine V.fM (T:=cl) Tryz.call48 Tryz.func48 U λ_=>?_;unfold hH at h;refine V.jz ab 5 0 U (by kernel_rfl) ?_;refine V.go ab 8 0 ⟨U,U,U,U,U,U,U⟩ ?_;obtain⟨b,a,h⟩:=jH h;refine V.toQ (kz.call U U U U (QD a) U [] U U (V.rk ?_));cases h;exact V.rt ab 2 0 () [] U
def HP(x0:ah)(b:Int->Option aa)(c:Int->Option aa):Int->Option aa:=λa=>
 (a4 (((decide (a<(x0.1.length:Int)))=true)->0<=a/\a<(x0.1.length:Int))<|(a4 (((decide ((97:Int)<=((at' x0.1 a).toNat:Int)))=true)->((decide (a<(x0.1.length:Int)))=true)->0<=a/\a<(x0.1.length:Int))<|(a4 (((bif(decide ((97:Int)<=((at' x0.1 a).toNat:Int))) then(decide (((at' x0.1 a).toNat:Int)<=(122:Int))) else false)=false)->((decide (a<(x0.1.length:Int)))=true)->0<=a/\a<(x0.1.length:Int))<|(a4 (((bif(bif(decide ((97:Int)<=((at' x0.1 a).toNat:Int))) then(decide (((at' x0.1 a).toNat:Int)<=(122:Int))) else false) then true else(decide (((at' x0.1 a).toNat:Int)=(123:Int))))=false)->((decide (a<(x0.1.length:Int)))=true)->0<=a/\a<(x0.1.length:Int))<|(a4 (((bif(bif(bif(decide ((97:Int)<=((at' x0.1 a).toNat:Int))) then(decide (((at' x0.1 a).toNat:Int)<=(122:Int))) else false) then true else(decide (((at' x0.1 a).toNat:Int)=(123:Int)))) then true else(decide (((at' x0.1 a).toNat:Int)=(125:Int))))=false)->((decide (a<(x0.1.length:Int)))=true)->0<=a/\a<(x0.1.length:Int))<|(bif(bif(decide (a<(x0.1.length:Int))) then(bif(bif(bif(bif(decide ((97:Int)<=((at' x0.1 a).toNat:Int))) then(decide (((at' x0.1 a).toNat:Int)<=(122:Int))) else false) then true else(decide (((at' x0.1 a).toNat:Int)=(123:Int)))) then true else(decide (((at' x0.1 a).toNat:Int)=(125:Int)))) then true else(decide (((at' x0.1 a).toNat:Int)=(33:Int)))) else false) then c (W (a+1)) else b a))))))
def lF(x0:ah):Option aa:=
 (a8 (λ(a:Int)=>(a4 (((decide (a<(x0.1.length:Int)))=true)->0<=a/\a<(x0.1.length:Int))<|(cY ((decide (a<(x0.1.length:Int)))=true) (z9 (at' x0.1 a)) false λ(b:Bool)=>(a4 ((b=false)->((decide (a<(x0.1.length:Int)))=true)->0<=a/\a<(x0.1.length:Int))<|(cY ((bif b then true else(decide (((at' x0.1 a).toNat:Int)=(10:Int))))=false/\(decide (a<(x0.1.length:Int)))=true) (yr x0.1 a) [] λ(c:aa)=>(bif(bif(decide (a<(x0.1.length:Int))) then(bif(bif b then true else(decide (((at' x0.1 a).toNat:Int)=(10:Int)))) then true else(!(decide (c=[])))) else false) then(a4 (0<=x0.2.1/\x0.2.1<=a/\a<=(x0.1.length:Int))<|some (ch x0.1 x0.2.1 a)) else some ([]))))))) λd=>(fixF (HP x0 d) bB x0.2.1))
theorem wZ{x0:ah}{a2:bI}{Q:bu}{r:aa}(h:lF x0=some r):
  FC Tryz.prog 49 [.pointer a2] [lP a2 x0 Q] (λ_:Unit=>True) (λ_=> .string (a9 r)) (λ_=>[]):=
 by
  refine V.fM (T:=cl) Tryz.call49 Tryz.func49 U λ_=>?_;unfold lF at h;refine V.da ab 13 0 h (ρ:=Unit) (λs q=>[(0,.bj ⟨a2,1,1⟩ 0),(3,.v (.int .i64 s))]) .nil (λs q=>[]) ⟨U,U,U,U⟩ ?_ ?_
  ·intro l _ h;refine V.e_ ab 0 0 h (ρ:=Unit) (λs q=>[(0,.bj ⟨a2,1,1⟩ 0),(3,.v (.int .i64 s))]) .nil (λs q=>[]) () [] U ?_;rintro m n _ h;rw[HP] at h;obtain⟨g,h⟩:=bC h;obtain⟨i,h⟩:=bC h;obtain⟨j,h⟩:=bC h;obtain⟨k,h⟩:=bC h;obtain⟨a,h⟩:=bC h;refine V.co ab 56 0 h ⟨U,U,U,U,U,U,g,U,U,U,i,U,U,U,j,U,U,U,k,U,U,U,a,U⟩ (λh=>?_) (λh=>?_)
   ·exact V.el ab 8 0 h () [] U
   exact V.a6 ab 1 0 h () [] U
  rintro o _ h;obtain⟨b,h⟩:=bC h;refine V.ic ab 17 0 h Qw [] ⟨U,U,U,U,U,U,b,U⟩ (λ_=>id) λp h=>?_;obtain⟨c,h⟩:=bC h;refine V.ic ab 15 0 h QD [] ⟨U,U,U,c,U,U,U,U⟩ (λ_ F d e=>F ⟨d,e⟩) λt h=>?_;refine V.co ab 4 0 h U (λh=>?_) (λh=>?_)
  ·obtain⟨f,h⟩:=bC h;refine V.jz ab 1 0 U (by kernel_rfl) ?_;cases h;exact V.rt ab 12 0 () [] ⟨U,U,U,U,U,U,f,U⟩
  cases h;exact V.rt ab 5 0 () [] U
def HQ(x0:aa)(b:bl)(c:Unit->Option Bool)(d:Int->Option Bool):Int->Option Bool:=λa=>
 (bif(decide (a<(b.length:Int))) then(a4 (0<=a/\a<(b.length:Int))<|(bif(decide ((at' b a)=x0)) then some true else d (W (a+1)))) else c ())
def yt(x0:aa)(a:bl):Option Bool:=
 (a8 (λ(_:Unit)=>some false) λb=>(fixF (HQ x0 a b) bB 0))
theorem Lg{x0:aa}{a:bl}{a3:bI}{b:Nat}{r:Bool}(h:yt x0 a=some r):
  FC Tryz.prog 50 [.string (a9 x0),.slice a3 a.length b] [hr a3 a b] (λ_:Unit=>True) (λ_=> .bool r) (λ_=>[]):=
 by
  refine V.fM (T:=cl) Tryz.call50 Tryz.func50 U λ_=>?_;unfold yt at h;refine V.da ab 11 0 h (ρ:=Unit) (λs q=>[]) .nil (λs q=>[]) U ?_ ?_
  ·intro f _ h;refine V.e_ ab 0 0 h (ρ:=Unit) (λs q=>[(0,.v (.string (a9 x0))),(7,.v (.slice a3 a.length b)),(8,.v (.int .i64 (a.length:Int))),(9,.v (.int .i64 s))]) .nil (λs q=>[]) () [] U ?_;rintro g d _ h;rw[HQ] at h;refine V.co ab 5 0 h U (λh=>?_) (λh=>?_)
   ·refine V.go ab 5 0 U ?_;refine V.cj (aH.iG 0 U λc=>V.ct ?_);obtain⟨e,h⟩:=bC h;refine V.go ab 1 0 ⟨c.ix e,U⟩ ?_;refine V.cj (aH.load ab U U U U U U U 0 U U (Int.toNat d) 0 (at' a d) ⟨me e,U⟩ U U (V.ct ?_));refine V.co ab 8 0 h U (λh=>?_) (λh=>?_)
    ·cases h;exact V.rt ab 4 0 () [] U
    exact V.el ab 6 0 h () [] U
   exact V.a6 ab 1 0 h () [] U
  rintro _ _ h;cases h;exact V.rt ab 4 0 () [] U
def yu(x0:aa):Option Bool:=
 (au (yt x0 ([([105,102]:aa),([119,104,105,108,101]:aa),([117,110,116,105,108]:aa),([102,111,114]:aa),([99,97,115,101]:aa),([123]:aa)]:bl)) λ(a:Bool)=>some a)
theorem WD{x0:aa}{r:Bool}(h:yu x0=some r):
  FC Tryz.prog 97 [.string (a9 x0)] [] (λ_:Unit=>True) (λ_=> .bool r) (λ_=>[]):=
 by refine V.fM (T:=cl) Tryz.call97 Tryz.func97 U λ_=>?_;unfold yu at h;refine V.go ab 7 0 U ?_;refine V.cj (aH.kj U (cL.buildSlice ab U U U U U U U U U U U [] U .str [([105,102]:aa),([119,104,105,108,101]:aa),([117,110,116,105,108]:aa),([102,111,114]:aa),([99,97,115,101]:aa),([123]:aa)] ⟨U,U⟩ U U λa2=>aH.kk (V.ct ?_)));refine V.cM ab 0 0 h Lg [0] U λa _ h=>?_;cases h;exact V.rt ab 2 0 () [] U
def vK(x0:aa):Option Bool:=
 (au (yt x0 ([([60,60,45]:aa),([60,60]:aa),([60,38]:aa),([60,62]:aa),([62,62]:aa),([62,38]:aa),([62,124]:aa),([60]:aa),([62]:aa)]:bl)) λ(a:Bool)=>some a)
theorem Lh{x0:aa}{r:Bool}(h:vK x0=some r):
  FC Tryz.prog 99 [.string (a9 x0)] [] (λ_:Unit=>True) (λ_=> .bool r) (λ_=>[]):=
 by refine V.fM (T:=cl) Tryz.call99 Tryz.func99 U λ_=>?_;unfold vK at h;refine V.go ab 7 0 U ?_;refine V.cj (aH.kj U (cL.buildSlice ab U U U U U U U U U U U [] U .str [([60,60,45]:aa),([60,60]:aa),([60,38]:aa),([60,62]:aa),([62,62]:aa),([62,38]:aa),([62,124]:aa),([60]:aa),([62]:aa)] ⟨U,U⟩ U U λa2=>aH.kk (V.ct ?_)));refine V.cM ab 0 0 h Lg [0] U λa _ h=>?_;cases h;exact V.rt ab 2 0 () [] U
def Ev(x0:aa):Option Bool:=
 (au (yt x0 ([([105,102]:aa),([116,104,101,110]:aa),([101,108,105,102]:aa),([101,108,115,101]:aa),([102,105]:aa),([100,111]:aa),([100,111,110,101]:aa),([119,104,105,108,101]:aa),([117,110,116,105,108]:aa),([102,111,114]:aa),([99,97,115,101]:aa),([101,115,97,99]:aa),([123]:aa),([125]:aa),([33]:aa)]:bl)) λ(a:Bool)=>some a)
theorem ahh{x0:aa}{r:Bool}(h:Ev x0=some r):
  FC Tryz.prog 100 [.string (a9 x0)] [] (λ_:Unit=>True) (λ_=> .bool r) (λ_=>[]):=
 by refine V.fM (T:=cl) Tryz.call100 Tryz.func100 U λ_=>?_;unfold Ev at h;refine V.go ab 7 0 U ?_;refine V.cj (aH.kj U (cL.buildSlice ab U U U U U U U U U U U [] U .str [([105,102]:aa),([116,104,101,110]:aa),([101,108,105,102]:aa),([101,108,115,101]:aa),([102,105]:aa),([100,111]:aa),([100,111,110,101]:aa),([119,104,105,108,101]:aa),([117,110,116,105,108]:aa),([102,111,114]:aa),([99,97,115,101]:aa),([101,115,97,99]:aa),([123]:aa),([125]:aa),([33]:aa)] ⟨U,U⟩ U U λa2=>aH.kk (V.ct ?_)));refine V.cM ab 0 0 h Lg [0] U λa _ h=>?_;cases h;exact V.rt ab 2 0 () [] U
def HR(x0:ah)(c:Int->Option Bool)(b:Int->Option Bool):Int->Option Bool:=λa=>
 (a4 (((decide (a<(x0.1.length:Int)))=true)->0<=a/\a<(x0.1.length:Int))<|(a4 (((bif(decide (a<(x0.1.length:Int))) then(decide ((48:Int)<=((at' x0.1 a).toNat:Int))) else false)=true)->0<=a/\a<(x0.1.length:Int))<|(bif(bif(bif(decide (a<(x0.1.length:Int))) then(decide ((48:Int)<=((at' x0.1 a).toNat:Int))) else false) then(decide (((at' x0.1 a).toNat:Int)<=(57:Int))) else false) then b (W (a+1)) else c a)))
def Ac(x0:ah):Option Bool:=
 (a8 (λ(a:Int)=>(cY ((decide (x0.2.1<a))=true) (yr x0.1 a) [] λ(b:aa)=>(cY ((decide (x0.2.1<a))=true) (vK b) false λ(c:Bool)=>some (bif(decide (x0.2.1<a)) then c else false)))) λd=>(fixF (HR x0 d) bB x0.2.1))
theorem WE{x0:ah}{a2:bI}{Q:bu}{r:Bool}(h:Ac x0=some r):
  FC Tryz.prog 130 [.pointer a2] [lP a2 x0 Q] (λ_:Unit=>True) (λ_=> .bool r) (λ_=>[]):=
 by
  refine V.fM (T:=cl) Tryz.call130 Tryz.func130 U λ_=>?_;unfold Ac at h;refine V.da ab 13 0 h (ρ:=Unit) (λs q=>[(0,.bj ⟨a2,1,1⟩ 0),(3,.v (.int .i64 s))]) .nil (λs q=>[]) ⟨U,U,U,U⟩ ?_ ?_
  ·intro d _ h;refine V.e_ ab 0 0 h (ρ:=Unit) (λs q=>[(0,.bj ⟨a2,1,1⟩ 0),(3,.v (.int .i64 s))]) .nil (λs q=>[]) () [] U ?_;rintro a e _ h;rw[HR] at h;obtain⟨b,h⟩:=bC h;obtain⟨c,h⟩:=bC h;refine V.co ab 29 0 h ⟨U,U,U,U,U,U,b,U,U,U,c,U⟩ (λh=>?_) (λh=>?_)
   ·exact V.el ab 8 0 h () [] U
   exact V.a6 ab 1 0 h () [] U
  rintro f _ h;refine V.ic ab 14 0 h QD [] ⟨U,U,U,U,U,U,U⟩ (λ_=>id) λg h=>?_;refine V.ic ab 0 0 h Lh [] U (λ_=>id) λi h=>?_;cases h;exact V.rt ab 3 0 () [] U
def tj(x0:ah)(a:Int):Option UInt8:=
 (bif(decide ((W (x0.2.1+a))<(x0.1.length:Int))) then(a4 (0<=(W (x0.2.1+a))/\(W (x0.2.1+a))<(x0.1.length:Int))<|some (at' x0.1 (W (x0.2.1+a)))) else some (0:UInt8))
theorem Ew{x0:ah}{a:Int}{a3:bI}{Q:bu}{r:UInt8}(h:tj x0 a=some r):
  FC Tryz.prog 157 [.pointer a3,.int .i64 a] [lP a3 x0 Q] (λ_:Unit=>True) (λ_=> .int .u8 (r.toNat:Int)) (λ_=>[]):=
 by
  refine V.fM (T:=cl) Tryz.call157 Tryz.func157 U λ_=>?_;unfold tj at h;refine V.jz ab 6 0 U (by kernel_rfl) ?_;refine V.co ab 13 0 h ⟨U,U,U,U,U,U,U⟩ (λh=>?_) (λh=>?_)
  ·obtain⟨b,h⟩:=bC h;refine V.jz ab 1 0 U (by kernel_rfl) ?_;cases h;exact V.rt ab 13 0 () [] ⟨U,U,U,U,U,U,b,U⟩
  cases h;exact V.rt ab 5 0 () [] U
def B5(x0:aa)(d:Unit->Option Int)(b:Int->Option Int):Int->Option Int:=λa=>
 (bif(decide (a<(x0.length:Int))) then(a8 (λ(e:Int)=>b (W (e+1))) λc=>(a4 (0<=a/\a<(x0.length:Int))<|(bif(decide (((at' x0 a).toNat:Int)=(96:Int))) then some (W (a+1)) else(a4 (0<=a/\a<(x0.length:Int))<|(bif(decide (((at' x0 a).toNat:Int)=(92:Int))) then c (W (a+1)) else c a))))) else d ())
def Ad(x0:aa)(a:Int):Option Int:=
 (au (z_ a (x0.length:Int)) λ(b:Int)=>(a8 (λ(_:Unit)=>some (-1)) λc=>(fixF (B5 x0 c) bB b)))
theorem QF{x0:aa}{a:Int}{r:Int}(h:Ad x0 a=some r):
  FC Tryz.prog 156 [.string (a9 x0),.int .i64 a] [] (λ_:Unit=>True) (λ_=> .int .i64 r) (λ_=>[]):=
 by
  refine V.fM (T:=cl) Tryz.call156 Tryz.func156 U λ_=>?_;unfold Ad at h;refine V.cM ab 10 0 h La [] U λe _ h=>?_;refine V.da ab 2 0 h (ρ:=Unit) (λs q=>[]) .nil (λs q=>[]) U ?_ ?_
  ·intro f _ h;refine V.e_ ab 0 0 h (ρ:=Unit) (λs q=>[(0,.v (.string (a9 x0))),(5,.v (.int .i64 s))]) .nil (λs q=>[]) () [] U ?_;rintro b g _ h;rw[B5] at h;refine V.co ab 8 0 h U (λh=>?_) (λh=>?_)
   ·refine V.da ab 2 0 h (ρ:=Unit) (λs q=>[(0,.v (.string (a9 x0))),(5,.v (.int .i64 s))]) .nil (λs q=>[]) U ?_ ?_
    ·intro i _ h;obtain⟨c,h⟩:=bC h;refine V.co ab 8 0 h ⟨c,U⟩ (λh=>?_) (λh=>?_)
     ·cases h;exact V.rt ab 6 0 () [] U
     obtain⟨d,h⟩:=bC h;refine V.co ab 8 0 h ⟨d,U⟩ (λh=>?_) (λh=>?_)
     ·exact V.a6 ab 6 0 h () [] U
     exact V.a6 ab 2 0 h () [] U
    rintro j _ h
    try dsimp only at h
    exact V.el ab 5 0 h () [] U
   exact V.a6 ab 1 0 h () [] U
  rintro _ _ h;cases h;exact V.rt ab 4 0 () [] U
def sm(x0:ah)(b:Int)(c:aa)(d:aa):Option ah:=
 (bif(decide (b<0)) then(au (g5 (x0.1,(x0.1.length:Int),x0.2.2) d) λ(a:ah)=>(a4 (([c]:bl).length+a.2.2.2.2.2.2.2.1.length<=536870912)<|some (a.1,a.2.1,a.2.2.1,a.2.2.2.1,a.2.2.2.2.1,a.2.2.2.2.2.1,a.2.2.2.2.2.2.1,(([c]:bl)++a.2.2.2.2.2.2.2.1),a.2.2.2.2.2.2.2.2))) else some (x0.1,b,x0.2.2))
theorem Ex{x0:ah}{c:Int}{a:aa}{d:aa}{b:bI}{Q:bu}{r:ah}(h:sm x0 c a d=some r):
  gL Tryz.prog 153 [.pointer b,.int .i64 c,.string (a9 a),.string (a9 d)] [] (eV b x0 Q) (λ_:bu=>True) (λq=> .tuple #[]) (λq=>eV b r q):=
 by
  refine V.jn (T:=cl) Tryz.call153 Tryz.func153 U λ_ _=>?_;unfold sm at h;refine V.co ab 13 0 h ⟨U,U,U,U⟩ (λh=>?_) (λh=>?_)
  ·refine V.bH ab 16 0 h pB [0,0,0] [] ⟨U,U,U,U,U,U,U⟩ λj e h=>?_;refine V.go ab 4 0 U ?_;refine V.cj (aH.kj U (cL.buildSlice ab U U U U U U U U U U U [] U .str [a] ⟨U,U⟩ U U λk=>aH.kk (V.ct ?_)));obtain⟨f,h⟩:=bC h;refine V.go ab 4 1 ⟨U,U,U,U⟩ ?_;refine V.cj (aH.p6 ab U U U U ⟨U,U,U,U,trivial,U,U,U,U⟩ U U U [0] U 3 U f U λg i=>V.ct ?_);cases h;exact V.jI ab 4 1 (e.1,e.2.1,g,i) [0,1,0] ⟨U,U,U,U⟩
  cases h;exact V.jI ab 1 0 Q [0,0,0] U
def w1(x0:ah):Option ah:=
 (bif(decide ((x0.1.length:Int)<(W (x0.2.1+2)))) then some (x0.1,(x0.1.length:Int),x0.2.2) else some (x0.1,(W (x0.2.1+2)),x0.2.2))
theorem QG{x0:ah}{a2:bI}{Q:bu}{r:ah}(h:w1 x0=some r):
  gL Tryz.prog 152 [.pointer a2] [] [lP a2 x0 Q] (λ_:Unit=>True) (λ_=> .tuple #[]) (λ_=>[lP a2 (r.1,r.2.1,r.2.2.1,x0.2.2.2.1,r.2.2.2.2.1,r.2.2.2.2.2.1,r.2.2.2.2.2.2.1,x0.2.2.2.2.2.2.2.1,r.2.2.2.2.2.2.2.2) Q]):=
 by
  refine V.jn (T:=cl) Tryz.call152 Tryz.func152 U λ_ _=>?_;unfold w1 at h;refine V.jz ab 13 0 ⟨U,U,U,U,U,U,U⟩ (by kernel_rfl) ?_;refine V.co ab 11 0 h ⟨U,U,U,U,U,U,U⟩ (λh=>?_) (λh=>?_)
  ·cases h;exact V.jI ab 11 0 () [0] ⟨U,U,U,U,U,U,U⟩
  cases h;exact V.jI ab 1 0 () [0] U
def gA(x0:ah)(a:aa)(c:aa):Option ah:=
 (bif(decide (x0.2.2.2.2.1=1)) then(a8 (λ(d:bl)=>(au (vI (x0.1,x0.2.1,x0.2.2.1,x0.2.2.2.1,x0.2.2.2.2.1,x0.2.2.2.2.2.1,x0.2.2.2.2.2.2.1,d,x0.2.2.2.2.2.2.2.2) c) λ(e:ah)=>some e)) λb=>(bif(!(decide (a=[]))) then(a4 (([a]:bl).length+x0.2.2.2.2.2.2.2.1.length<=536870912)<|b (([a]:bl)++x0.2.2.2.2.2.2.2.1)) else b x0.2.2.2.2.2.2.2.1)) else some x0)
theorem qR{x0:ah}{b:aa}{c:aa}{a:bI}{Q:bu}{r:ah}(h:gA x0 b c=some r):
  gL Tryz.prog 53 [.pointer a,.string (a9 b),.string (a9 c)] [] (eV a x0 Q) (λ_:bu=>True) (λq=> .tuple #[]) (λq=>eV a r q):=
 by
  refine V.jn (T:=cl) Tryz.call53 Tryz.func53 U λ_ _=>?_;unfold gA at h;refine V.co ab 8 0 h ⟨U,U,U,U⟩ (λh=>?_) (λh=>?_)
  ·refine V.e9 ab 0 0 h (ρ:=bI×Nat) (λs q=>[(0,.bj ⟨a,1,1⟩ 0),(2,.v (.string (a9 c)))]) .nil (λs q=>[hr q.1 s q.2,lP a (x0.1,x0.2.1,x0.2.2.1,x0.2.2.2.1,x0.2.2.2.2.1,x0.2.2.2.2.2.1,x0.2.2.2.2.2.2.1,s,x0.2.2.2.2.2.2.2.2) (Q.1,Q.2.1,q),r9 Q.1 x0.2.2.2.1 Q.2.1]) U ?_ ?_
   ·intro k _ h;refine V.co ab 5 0 h U (λh=>?_) (λh=>?_)
    ·refine V.go ab 3 0 U ?_;refine V.cj (aH.kj U (cL.buildSlice ab U U U U U U U U U U U [] U .str [b] ⟨U,U⟩ U U λl=>aH.kk (V.ct ?_)));obtain⟨f,h⟩:=bC h;refine V.go ab 4 1 ⟨U,U,U,U⟩ ?_;refine V.cj (aH.p6 ab U U U U ⟨U,U,U,U,trivial,U,U,U,U⟩ U U U [0] U 3 U f U λg i=>V.ct ?_);exact V.a6 ab 4 1 h (g,i) [1,0,2] ⟨U,U,U,U⟩
    exact V.a6 ab 1 0 h Q.2.2 [2,0,1] U
   rintro m ⟨d,e⟩ h;refine V.bH ab 3 0 h (Qy (Q:=(Q.1,Q.2.1,d,e))) [1,1,0] [] U λn j h=>?_;cases h;exact V.jI ab 1 0 j [0,0,0] U
  cases h;exact V.jI ab 1 0 Q [0,0,0] U
def w2(R:bg)(m:ah->Option ah)(l:ah->Option ah):ah->Option ah:=λ(a,b,f,c,d,g,h,e,i)=>
 (bif(decide (d=0)) then(a8 (λ((n,o,p,q,r,s,t,u,v):ah)=>l (n,o,p,q,r,s,t,u,v)) λk=>(au (gz (a,b,f,c,d,g,h,e,i)) λ(w:Bool)=>(bif w then(au (g5 (a,b,f,c,d,g,h,e,i) ([])) λ(x:ah)=>k x) else(au (ig (a,b,f,c,d,g,h,e,i)) λ(y:UInt8)=>(bif(decide ((y.toNat:Int)=(34:Int))) then some (a,(W (b+1)),f,c,d,g,h,e,i) else(au (ig (a,b,f,c,d,g,h,e,i)) λ(z:UInt8)=>(bif(decide ((z.toNat:Int)=(92:Int))) then(au (w1 (a,b,f,c,d,g,h,e,i)) λ(j:ah)=>k (j.1,j.2.1,j.2.2.1,c,j.2.2.2.2.1,j.2.2.2.2.2.1,j.2.2.2.2.2.2.1,e,j.2.2.2.2.2.2.2.2)) else(au (ig (a,b,f,c,d,g,h,e,i)) λ(A:UInt8)=>(bif(decide ((A.toNat:Int)=(96:Int))) then(au (Ad a (W (b+1))) λ(B:Int)=>(au (sm (a,b,f,c,d,g,h,e,i) B ([96]:aa) ([96]:aa)) λ(C:ah)=>k C)) else(au (ig (a,b,f,c,d,g,h,e,i)) λ(D:UInt8)=>(bif(decide ((D.toNat:Int)=(36:Int))) then(au (R.vo (a,b,f,c,d,g,h,e,i)) λ(E:ah)=>k E) else k (a,(W (b+1)),f,c,d,g,h,e,i)))))))))))) else m (a,b,f,c,d,g,h,e,i))
def Ey(R:bg)(x0:ah):Option ah:=
 (a8 (λ((a,b,c,d,e,f,g,h,i):ah)=>(au (gA (a,b,c,d,e,f,g,h,i) ([34]:aa) ([34]:aa)) λ(j:ah)=>some j)) λk=>(fixF (w2 R k) bB (x0.1,(W (x0.2.1+1)),x0.2.2.1,x0.2.2.2.1,x0.2.2.2.2.1,x0.2.2.2.2.2.1,x0.2.2.2.2.2.2.1,x0.2.2.2.2.2.2.2.1,x0.2.2.2.2.2.2.2.2)))
theorem WH{R:bg}(n:h8 R){x0:ah}{a2:bI}{Q:bu}{r:ah}(h:Ey R x0=some r):
  gL Tryz.prog 155 [.pointer a2] [] (eV a2 x0 Q) (λ_:bu=>True) (λq=> .tuple #[]) (λq=>eV a2 r q):=
 by
  refine V.jn (T:=cl) Tryz.call155 Tryz.func155 U λ_ _=>?_;unfold Ey at h;refine V.da ab 12 0 h (ρ:=bu) (λs q=>[(0,.bj ⟨a2,1,1⟩ 0)]) .nil (λs q=>gM a2 s q) ⟨U,U,U,U,U,U,U⟩ ?_ ?_
  ·intro A _ h;refine V.e_ ab 0 0 h (ρ:=bu) (λs q=>[(0,.bj ⟨a2,1,1⟩ 0)]) .nil (λs q=>gM a2 s q) Q [1,2,0] U ?_;rintro o ⟨e,b,f,g,i,j,k,l,m⟩ a h;rw[w2] at h;refine V.go ab 3 0 U ?_;refine V.cj (aH.iG 2 U λc=>V.ct ?_);refine V.co ab 6 2 h ⟨U,U,U,U⟩ (λh=>?_) (λh=>?_)
   ·refine V.da ab 2 0 h (ρ:=bu) (λs q=>[(0,.bj ⟨a2,1,1⟩ 0)]) .nil (λs q=>gM a2 s q) U ?_ ?_
    ·intro B _ h;refine V.cM ab 3 0 h m9 [2] U λC _ h=>?_;refine V.co ab 2 0 h U (λh=>?_) (λh=>?_)
     ·refine V.bH ab 2 0 h pB [2,0,0] [] U λD p h=>?_;exact V.a6 ab 2 0 h p [1,2,0] U
     refine V.cM ab 3 0 h oh [2] U λE _ h=>?_;refine V.co ab 3 0 h U (λh=>?_) (λh=>?_)
     ·cases h;exact V.rx ab 11 2 a [0,0,0] ⟨U,U,U,U,U,U,U⟩
     refine V.cM ab 3 0 h oh [2] U λF _ h=>?_;refine V.co ab 3 0 h U (λh=>?_) (λh=>?_)
     ·refine V.bH ab 2 0 h QG [2] [] U λG _ h=>?_;exact V.a6 ab 2 0 h a [1,2,0] U
     refine V.cM ab 3 0 h oh [2] U λH _ h=>?_;refine V.co ab 3 0 h U (λh=>?_) (λh=>?_)
     ·obtain⟨I,t,h⟩:=jH h;obtain⟨J,u,h⟩:=jH h;refine V.jm (aT.r7 U .nil [2] [10,11] trivial U (λv=>?_));refine bE.ph ab gn 10 [0,5] U (by kernel_rfl) [] [(47,.bj ⟨a2,1,1⟩ 0),(52,.bj ⟨a2,1,1⟩ 0)] U (fL U) (bE.eI ab gn true 5 [1,2,3,6,7] U (by kernel_rfl) [] [(50,.bj ⟨a2,1,1⟩ 0),(54,.bj ⟨a2,1,1⟩ 1)] trivial [2] U U ⟨(c.fW fX).1,c.fW fX,(c.fW fX).1,c.fW fX,(fL U)⟩ (bE.kN ab gn 4 U (by kernel_rfl) U U U U U 0 U U 0 0 (e,b,f,(bw.v ⟨a.1,g.length,a.2.1⟩),i,j,k,(bw.v ⟨a.2.2.1,l.length,a.2.2.2⟩),m) ⟨U,U⟩ U U U trivial [2] U (bE.kN ab gn 8 U (by kernel_rfl) U U U U U 0 U U 0 1 (e,b,f,(bw.v ⟨a.1,g.length,a.2.1⟩),i,j,k,(bw.v ⟨a.2.2.1,l.length,a.2.2.2⟩),m) ⟨U,U⟩ U U U trivial [2] U (bE.eI ab gn true 2 [9] U (by kernel_rfl) [(W (b+1))] [(56,.v (.int .i64 (W (b+1))))] trivial [2] U U ⟨⟨trivial,U⟩,⟨U,trivial⟩⟩ (bE.one 10 (by kernel_rfl) (cL.call U U U U (QF t) U [] U U λ_ _=>bE.nO U (bE.one 11 (by kernel_rfl) (cL.p4 U U U U (Ex u) U [2,0,0] U [] U U ?_))))))));rintro w-;refine bE.nO U (bE.done (by kernel_rfl) (aT.boxes (B':= .nil) trivial (V.h7 ?_)));exact V.a6 ab 1 0 h w [1,2,0] U
     refine V.cM ab 3 0 h oh [2] U λK _ h=>?_;refine V.co ab 3 0 h U (λh=>?_) (λh=>?_)
     ·refine V.bH ab 2 0 h n.vo [2,0,0] [] U λL x h=>?_;exact V.a6 ab 2 0 h x [1,2,0] U
     exact V.a6 ab 11 2 h a [1,2,0] ⟨U,U,U,U,U,U,U⟩
    rintro⟨M,N,O,P,S,X,Y,Z,jY⟩ y h
    try dsimp only at h
    exact V.el ab 1 0 h y [0,1,2] U
   exact V.a6 ab 1 0 h a [0,1,2] U
  rintro⟨Hy,iL,vL,qc,px,py,qd,BO,pw⟩ z h;refine V.bH ab 2 0 h qR [2,0,0] [] U λWG d h=>?_;cases h;exact V.jI ab 1 0 d [0,0,0] U
def HU(x0:aa)(c:Unit->Option Int)(b:Int->Option Int):Int->Option Int:=λa=>
 (bif(decide (a<(x0.length:Int))) then(a4 (0<=a/\a<(x0.length:Int))<|(bif(decide (((at' x0 a).toNat:Int)=(39:Int))) then some (W (a+1)) else b (W (a+1)))) else c ())
def B7(x0:aa)(a:Int):Option Int:=
 (au (z_ a (x0.length:Int)) λ(b:Int)=>(a8 (λ(_:Unit)=>some (-1)) λc=>(fixF (HU x0 c) bB b)))
theorem WI{x0:aa}{a:Int}{r:Int}(h:B7 x0 a=some r):
  FC Tryz.prog 154 [.string (a9 x0),.int .i64 a] [] (λ_:Unit=>True) (λ_=> .int .i64 r) (λ_=>[]):=
 by
  refine V.fM (T:=cl) Tryz.call154 Tryz.func154 U λ_=>?_;unfold B7 at h;refine V.cM ab 10 0 h La [] U λc _ h=>?_;refine V.da ab 2 0 h (ρ:=Unit) (λs q=>[]) .nil (λs q=>[]) U ?_ ?_
  ·intro d _ h;refine V.e_ ab 0 0 h (ρ:=Unit) (λs q=>[(0,.v (.string (a9 x0))),(5,.v (.int .i64 s))]) .nil (λs q=>[]) () [] U ?_;rintro e f _ h;rw[HU] at h;refine V.co ab 8 0 h U (λh=>?_) (λh=>?_)
   ·obtain⟨b,h⟩:=bC h;refine V.co ab 10 0 h ⟨b,U⟩ (λh=>?_) (λh=>?_)
    ·cases h;exact V.rt ab 6 0 () [] U
    exact V.el ab 7 0 h () [] U
   exact V.a6 ab 1 0 h () [] U
  rintro _ _ h;cases h;exact V.rt ab 4 0 () [] U
def w3(R:bg)(n:(Bool×ah)->Option (aa×Bool×ah))(o:(Bool×ah)->Option (aa×Bool×ah)):(Bool×ah)->Option (aa×Bool×ah):=λ(m,a,b,f,c,d,g,h,e,i)=>
 (bif(decide (d=0)) then(au (gz (a,b,f,c,d,g,h,e,i)) λ(s:Bool)=>(bif s then(au (g5 (a,b,f,c,d,g,h,e,i) ([])) λ(t:ah)=>n (m,t)) else(au (ig (a,b,f,c,d,g,h,e,i)) λ(j:UInt8)=>(au (z9 j) λ(p:Bool)=>(cY ((bif p then true else(decide ((j.toNat:Int)=(10:Int))))=false) (hH (a,b,f,c,d,g,h,e,i)) [] λ(u:aa)=>(bif(bif(bif p then true else(decide ((j.toNat:Int)=(10:Int)))) then true else(!(decide (u=[])))) then n (m,a,b,f,c,d,g,h,e,i) else(a8 (λ((v,w,x,y,z,A,B,C,D,E):Bool×ah)=>o (v,w,x,y,z,A,B,C,D,E)) λl=>(bif(decide ((j.toNat:Int)=(92:Int))) then(au (w1 (a,b,f,c,d,g,h,e,i)) λ(k:ah)=>l (false,k.1,k.2.1,k.2.2.1,c,k.2.2.2.2.1,k.2.2.2.2.2.1,k.2.2.2.2.2.2.1,e,k.2.2.2.2.2.2.2.2)) else(bif(decide ((j.toNat:Int)=(39:Int))) then(au (B7 a (W (b+1))) λ(F:Int)=>(au (sm (a,b,f,c,d,g,h,e,i) F ([39]:aa) ([39]:aa)) λ(G:ah)=>l (false,G))) else(bif(decide ((j.toNat:Int)=(34:Int))) then(au (Ey R (a,b,f,c,d,g,h,e,i)) λ(H:ah)=>l (false,H)) else(bif(decide ((j.toNat:Int)=(96:Int))) then(au (Ad a (W (b+1))) λ(I:Int)=>(au (sm (a,b,f,c,d,g,h,e,i) I ([96]:aa) ([96]:aa)) λ(J:ah)=>l (false,J))) else(bif(decide ((j.toNat:Int)=(36:Int))) then(a8 (λ(K:Bool)=>(au (R.vo (a,b,f,c,d,g,h,e,i)) λ(L:ah)=>l (K,L))) λq=>(au (tj (a,b,f,c,d,g,h,e,i) 1) λ(r:UInt8)=>(cY ((decide ((r.toNat:Int)=(40:Int)))=false) (tj (a,b,f,c,d,g,h,e,i) 1) (0:UInt8) λ(M:UInt8)=>(bif(bif(decide ((r.toNat:Int)=(40:Int))) then true else(decide ((M.toNat:Int)=(123:Int)))) then q false else q m)))) else l (m,a,(W (b+1)),f,c,d,g,h,e,i))))))))))))) else n (m,a,b,f,c,d,g,h,e,i))
def qe(R:bg)(x0:ah):Option (aa×Bool×ah):=
 (a8 (λ((e,a,b,f,g,h,i,j,k,l):Bool×ah)=>(a8 (λ(c:Int)=>(a4 (0<=x0.2.1/\x0.2.1<=c/\c<=(a.length:Int))<|some ((ch a x0.2.1 c),e,(a,b,f,g,h,i,j,k,l)))) λd=>(bif(decide ((a.length:Int)<b)) then d (a.length:Int) else d b))) λm=>(fixF (w3 R m) bB (true,x0.1,x0.2.1,x0.2.2.1,x0.2.2.2.1,x0.2.2.2.2.1,x0.2.2.2.2.2.1,x0.2.2.2.2.2.2.1,x0.2.2.2.2.2.2.2.1,x0.2.2.2.2.2.2.2.2)))
theorem EC{R:bg}(t:h8 R){x0:ah}{a2:bI}{Q:bu}{r:aa×Bool×ah}(h:qe R x0=some r):
  gL Tryz.prog 132 [.pointer a2] [] (eV a2 x0 Q) (λ_:bu=>True) (λq=> .tuple #[.string (a9 r.1),.bool r.2.1]) (λq=>eV a2 r.2.2 q):=
 by
  refine V.jn (T:=cl) Tryz.call132 Tryz.func132 U λ_ _=>?_;unfold qe at h;refine V.da ab 18 0 h (ρ:=bu) (λs q=>[(0,.bj ⟨a2,1,1⟩ 0),(4,.v (.int .i64 x0.2.1)),(5,.v (.bool s.1))]) .nil (λs q=>gM a2 s.2 q) ⟨U,U,U,U⟩ ?_ ?_
  ·intro P _ h;refine V.e_ ab 0 0 h (ρ:=bu) (λs q=>[(0,.bj ⟨a2,1,1⟩ 0),(4,.v (.int .i64 x0.2.1)),(5,.v (.bool s.1))]) .nil (λs q=>gM a2 s.2 q) Q [1,2,0] U ?_;rintro v ⟨S,d,b,e,f,g,i,j,k,l⟩ a h;rw[w3] at h;refine V.go ab 3 0 U ?_;refine V.cj (aH.iG 2 U λc=>V.ct ?_);refine V.co ab 6 2 h ⟨U,U,U,U⟩ (λh=>?_) (λh=>?_)
   ·refine V.cM ab 6 0 h m9 [2] U λX _ h=>?_;refine V.co ab 1 0 h U (λh=>?_) (λh=>?_)
    ·refine V.bH ab 3 0 h pB [2,0,0] [] U λY w h=>?_;exact V.a6 ab 2 0 h w [1,2,0] U
    refine V.cM ab 4 0 h oh [2] U λZ _ h=>?_;refine V.cM ab 6 0 h Qw [] U λiV _ h=>?_;refine V.ic ab 6 0 h oO [2] U (λ_=>id) λfk h=>?_;refine V.co ab 3 0 h U (λh=>?_) (λh=>?_)
    ·exact V.a6 ab 1 0 h a [0,1,2] U
    refine V.da ab 1 0 h (ρ:=bu) (λs q=>[(0,.bj ⟨a2,1,1⟩ 0),(4,.v (.int .i64 x0.2.1)),(5,.v (.bool s.1))]) .nil (λs q=>gM a2 s.2 q) U ?_ ?_
    ·intro vE _ h;refine V.co ab 6 0 h U (λh=>?_) (λh=>?_)
     ·refine V.bH ab 6 0 h QG [2] [] U λek _ h=>?_;exact V.a6 ab 2 0 h a [1,2,0] U
     refine V.co ab 6 0 h U (λh=>?_) (λh=>?_)
     ·refine V.go ab 4 0 U ?_;obtain⟨dI,x,h⟩:=jH h;obtain⟨kT,m,h⟩:=jH h;refine V.jm (aT.r7 U .nil [2] [10,11] trivial U (λy=>?_));refine bE.ph ab gn 10 [0,5] U (by kernel_rfl) [] [(49,.bj ⟨a2,1,1⟩ 0),(54,.bj ⟨a2,1,1⟩ 0)] U (fL U) (bE.eI ab gn true 5 [1,2,3,6,7] U (by kernel_rfl) [] [(52,.bj ⟨a2,1,1⟩ 0),(56,.bj ⟨a2,1,1⟩ 1)] trivial [2] U U ⟨(c.fW fX).1,c.fW fX,(c.fW fX).1,c.fW fX,(fL U)⟩ (bE.kN ab gn 4 U (by kernel_rfl) U U U U U 0 U U 0 0 (d,b,e,(bw.v ⟨a.1,f.length,a.2.1⟩),g,i,j,(bw.v ⟨a.2.2.1,k.length,a.2.2.2⟩),l) ⟨U,U⟩ U U U trivial [2] U (bE.kN ab gn 8 U (by kernel_rfl) U U U U U 0 U U 0 1 (d,b,e,(bw.v ⟨a.1,f.length,a.2.1⟩),g,i,j,(bw.v ⟨a.2.2.1,k.length,a.2.2.2⟩),l) ⟨U,U⟩ U U U trivial [2] U (bE.eI ab gn true 2 [9] U (by kernel_rfl) [(W (b+1))] [(58,.v (.int .i64 (W (b+1))))] trivial [2] U U ⟨⟨trivial,U⟩,⟨U,trivial⟩⟩ (bE.one 10 (by kernel_rfl) (cL.call U U U U (WI x) U [] U U λ_ _=>bE.nO U (bE.one 11 (by kernel_rfl) (cL.p4 U U U U (Ex m) U [2,0,0] U [] U U ?_))))))));rintro z-;refine bE.nO U (bE.done (by kernel_rfl) (aT.boxes (B':= .nil) trivial (V.h7 ?_)));exact V.a6 ab 1 0 h z [1,2,0] U
     refine V.co ab 6 0 h U (λh=>?_) (λh=>?_)
     ·refine V.bH ab 6 0 h (WH t) [2,0,0] [] U λkb A h=>?_;exact V.a6 ab 2 0 h A [1,2,0] U
     refine V.co ab 6 0 h U (λh=>?_) (λh=>?_)
     ·refine V.go ab 4 0 U ?_;obtain⟨hZ,n,h⟩:=jH h;obtain⟨nT,B,h⟩:=jH h;refine V.jm (aT.r7 U .nil [2] [10,11] trivial U (λC=>?_));refine bE.ph ab gn 10 [0,5] U (by kernel_rfl) [] [(69,.bj ⟨a2,1,1⟩ 0),(74,.bj ⟨a2,1,1⟩ 0)] U (fL U) (bE.eI ab gn true 5 [1,2,3,6,7] U (by kernel_rfl) [] [(72,.bj ⟨a2,1,1⟩ 0),(76,.bj ⟨a2,1,1⟩ 1)] trivial [2] U U ⟨(c.fW fX).1,c.fW fX,(c.fW fX).1,c.fW fX,(fL U)⟩ (bE.kN ab gn 4 U (by kernel_rfl) U U U U U 0 U U 0 0 (d,b,e,(bw.v ⟨a.1,f.length,a.2.1⟩),g,i,j,(bw.v ⟨a.2.2.1,k.length,a.2.2.2⟩),l) ⟨U,U⟩ U U U trivial [2] U (bE.kN ab gn 8 U (by kernel_rfl) U U U U U 0 U U 0 1 (d,b,e,(bw.v ⟨a.1,f.length,a.2.1⟩),g,i,j,(bw.v ⟨a.2.2.1,k.length,a.2.2.2⟩),l) ⟨U,U⟩ U U U trivial [2] U (bE.eI ab gn true 2 [9] U (by kernel_rfl) [(W (b+1))] [(78,.v (.int .i64 (W (b+1))))] trivial [2] U U ⟨⟨trivial,U⟩,⟨U,trivial⟩⟩ (bE.one 10 (by kernel_rfl) (cL.call U U U U (QF n) U [] U U λ_ _=>bE.nO U (bE.one 11 (by kernel_rfl) (cL.p4 U U U U (Ex B) U [2,0,0] U [] U U ?_))))))));rintro o-;refine bE.nO U (bE.done (by kernel_rfl) (aT.boxes (B':= .nil) trivial (V.h7 ?_)));exact V.a6 ab 1 0 h o [1,2,0] U
     refine V.co ab 6 0 h U (λh=>?_) (λh=>?_)
     ·refine V.e9 ab 0 0 h (ρ:=Unit) (λs q=>[(0,.bj ⟨a2,1,1⟩ 0),(4,.v (.int .i64 x0.2.1)),(5,.v (.bool s))]) .nil (λs q=>eV a2 (d,b,e,f,g,i,j,k,l) a) U ?_ ?_
      ·intro nq _ h;refine V.cM ab 3 0 h Ew [2] U λeE _ h=>?_;refine V.ic ab 3 0 h Ew [2] U (λ_=>id) λjL h=>?_;refine V.co ab 3 0 h U (λh=>?_) (λh=>?_)
       ·exact V.a6 ab 3 0 h () [2,0,1] U
       exact V.a6 ab 1 0 h () [2,0,1] U
      rintro jo _ h;refine V.bH ab 2 0 h t.vo [0,0,0] [] U λuC D h=>?_;exact V.a6 ab 2 0 h D [1,2,0] U
     exact V.a6 ab 11 2 h a [1,2,0] ⟨U,U,U,U,U,U,U⟩
    rintro⟨um,se,vF,uB,zO,vL,qc,pv,m4,qd⟩ E h
    try dsimp only at h
    exact V.el ab 1 0 h E [0,1,2] U
   exact V.a6 ab 1 0 h a [0,1,2] U
  rintro⟨F,G,H,I,J,K,L,M,N,O⟩ u h;refine V.e9 ab 8 2 h (ρ:=Unit) (λs q=>[(0,.bj ⟨a2,1,1⟩ 0),(4,.v (.int .i64 x0.2.1)),(5,.v (.bool F)),(7,.v (.int .i64 s))]) .nil (λs q=>eV a2 (G,H,I,J,K,L,M,N,O) u) ⟨U,U,U,U⟩ ?_ ?_
  ·intro QL _ h;refine V.co ab 10 2 h ⟨U,U,U,U⟩ (λh=>?_) (λh=>?_)
   ·exact V.a6 ab 8 2 h () [2,0,1] ⟨U,U,U,U⟩
   exact V.a6 ab 1 0 h () [2,0,1] U
  rintro BF _ h;obtain⟨p,h⟩:=bC h;cases h;exact V.rx ab 13 0 u [0,0,0] ⟨U,U,U,p,U⟩
def Ah(x0:aa)(b:Unit->Option Bool)(c:Int->Option Bool):Int->Option Bool:=λa=>
 (bif(decide (a<(x0.length:Int))) then(a4 (0<=a/\a<(x0.length:Int))<|(a4 (((decide ((97:Int)<=((at' x0 a).toNat:Int)))=true)->0<=a/\a<(x0.length:Int))<|(a4 (((bif(decide ((97:Int)<=((at' x0 a).toNat:Int))) then(decide (((at' x0 a).toNat:Int)<=(122:Int))) else false)=false)->0<=a/\a<(x0.length:Int))<|(a4 (((decide ((65:Int)<=((at' x0 a).toNat:Int)))=true)->((bif(decide ((97:Int)<=((at' x0 a).toNat:Int))) then(decide (((at' x0 a).toNat:Int)<=(122:Int))) else false)=false)->0<=a/\a<(x0.length:Int))<|(a4 (((bif(bif(decide ((97:Int)<=((at' x0 a).toNat:Int))) then(decide (((at' x0 a).toNat:Int)<=(122:Int))) else false) then true else(bif(decide ((65:Int)<=((at' x0 a).toNat:Int))) then(decide (((at' x0 a).toNat:Int)<=(90:Int))) else false))=false)->0<=a/\a<(x0.length:Int))<|(a4 (0<=a/\a<(x0.length:Int))<|(a4 (((decide ((48:Int)<=((at' x0 a).toNat:Int)))=true)->0<=a/\a<(x0.length:Int))<|(bif(bif(!(bif(bif(bif(decide ((97:Int)<=((at' x0 a).toNat:Int))) then(decide (((at' x0 a).toNat:Int)<=(122:Int))) else false) then true else(bif(decide ((65:Int)<=((at' x0 a).toNat:Int))) then(decide (((at' x0 a).toNat:Int)<=(90:Int))) else false)) then true else(decide (((at' x0 a).toNat:Int)=(95:Int))))) then(bif(!(bif(decide ((48:Int)<=((at' x0 a).toNat:Int))) then(decide (((at' x0 a).toNat:Int)<=(57:Int))) else false)) then true else(decide (a=0))) else false) then some false else c (W (a+1)))))))))) else b ())
def Ai(x0:aa):Option Bool:=
 (a8 (λ(_:Unit)=>some (decide (0<(x0.length:Int)))) λa=>(fixF (Ah x0 a) bB 0))
theorem WK{x0:aa}{r:Bool}(h:Ai x0=some r):
  FC Tryz.prog 133 [.string (a9 x0)] [] (λ_:Unit=>True) (λ_=> .bool r) (λ_=>[]):=
 by
  refine V.fM (T:=cl) Tryz.call133 Tryz.func133 U λ_=>?_;unfold Ai at h;refine V.da ab 9 0 h (ρ:=Unit) (λs q=>[(0,.v (.string (a9 x0)))]) .nil (λs q=>[]) U ?_ ?_
  ·intro j _ h;refine V.e_ ab 0 0 h (ρ:=Unit) (λs q=>[(0,.v (.string (a9 x0))),(3,.v (.int .i64 s))]) .nil (λs q=>[]) () [] U ?_;rintro a k _ h;rw[Ah] at h;refine V.co ab 8 0 h U (λh=>?_) (λh=>?_)
   ·obtain⟨b,h⟩:=bC h;obtain⟨c,h⟩:=bC h;obtain⟨d,h⟩:=bC h;obtain⟨e,h⟩:=bC h;obtain⟨f,h⟩:=bC h;obtain⟨g,h⟩:=bC h;obtain⟨i,h⟩:=bC h;refine V.co ab 62 0 h ⟨b,c,d,e,f,g,i,U⟩ (λh=>?_) (λh=>?_)
    ·cases h;exact V.rt ab 4 0 () [] U
    exact V.el ab 7 0 h () [] U
   exact V.a6 ab 1 0 h () [] U
  rintro _ _ h;cases h;exact V.rt ab 7 0 () [] U
def vM(x0:ah):Option Bool:=
 (au (ig x0) λ(a:UInt8)=>(cY ((decide ((a.toNat:Int)=(10:Int)))=false) (hH x0) [] λ(b:aa)=>some (bif(decide ((a.toNat:Int)=(10:Int))) then true else(!(decide (b=[]))))))
theorem Lk{x0:ah}{a2:bI}{Q:bu}{r:Bool}(h:vM x0=some r):
  FC Tryz.prog 150 [.pointer a2] [lP a2 x0 Q] (λ_:Unit=>True) (λ_=> .bool r) (λ_=>[]):=
 by refine V.fM (T:=cl) Tryz.call150 Tryz.func150 U λ_=>?_;unfold vM at h;refine V.cM ab 7 0 h oh [0] U λa _ h=>?_;refine V.ic ab 3 0 h oO [0] U (λ_=>id) λb h=>?_;cases h;exact V.rt ab 4 0 () [] U
def hy(x0:ah)(a:Int):Option ah:=
 some (x0.1,x0.2.1,x0.2.2.1,x0.2.2.2.1,2,a,x0.2.2.2.2.2.2)
theorem pC{x0:ah}{a:Int}{a3:bI}{Q:bu}{r:ah}(h:hy x0 a=some r):
  gL Tryz.prog 52 [.pointer a3,.int .i64 a] [] [lP a3 x0 Q] (λ_:Unit=>True) (λ_=> .tuple #[]) (λ_=>[lP a3 (r.1,r.2.1,r.2.2.1,x0.2.2.2.1,r.2.2.2.2.1,r.2.2.2.2.2.1,r.2.2.2.2.2.2.1,x0.2.2.2.2.2.2.2.1,r.2.2.2.2.2.2.2.2) Q]):=
 by refine V.jn (T:=cl) Tryz.call52 Tryz.func52 U λ_ _=>?_;unfold hy at h;cases h;exact V.jI ab 14 0 () [0] ⟨U,U,U,U,U,U,U⟩
def B8(x0:aa)(h:(aa×UInt8)->Option (aa×Bool))(f:(aa×UInt8×Int)->Option (aa×Bool)):(aa×UInt8×Int)->Option (aa×Bool):=λ(b,c,a)=>
 (bif(decide (a<(x0.length:Int))) then(a4 (0<=a/\a<(x0.length:Int))<|(a8 (λ(d:UInt8)=>(a8 (λ((i,j,k):aa×UInt8×Int)=>f (i,j,(W (k+1)))) λe=>(bif(decide ((c.toNat:Int)=(39:Int))) then(bif(decide (((at' x0 a).toNat:Int)=(39:Int))) then e (b,(0:UInt8),a) else(a4 (b.length+([(at' x0 a)]:aa).length<=536870912)<|e ((b++([(at' x0 a)]:aa)),c,a))) else(bif(bif(decide (((at' x0 a).toNat:Int)=(92:Int))) then(decide ((W (a+1))=(x0.length:Int))) else false) then some ([],false) else(bif(bif(decide (((at' x0 a).toNat:Int)=(92:Int))) then(decide ((d.toNat:Int)=(10:Int))) else false) then e (b,c,(W (a+1))) else(bif(bif(decide (((at' x0 a).toNat:Int)=(92:Int))) then(bif(bif(bif(bif(decide ((c.toNat:Int)=(0:Int))) then true else(decide ((d.toNat:Int)=(36:Int)))) then true else(decide ((d.toNat:Int)=(34:Int)))) then true else(decide ((d.toNat:Int)=(92:Int)))) then true else(decide ((d.toNat:Int)=(96:Int)))) else false) then(a4 (b.length+([d]:aa).length<=536870912)<|e ((b++([d]:aa)),c,(W (a+1)))) else(bif(bif(decide (((at' x0 a).toNat:Int)=(36:Int))) then true else(decide (((at' x0 a).toNat:Int)=(96:Int)))) then some ([],false) else(bif(bif(bif(decide (((at' x0 a).toNat:Int)=(34:Int))) then(decide ((c.toNat:Int)=(0:Int))) else false) then true else(bif(decide (((at' x0 a).toNat:Int)=(39:Int))) then(decide ((c.toNat:Int)=(0:Int))) else false)) then e (b,(at' x0 a),a) else(bif(decide (((at' x0 a).toNat:Int)=(34:Int))) then e (b,(0:UInt8),a) else(a4 (b.length+([(at' x0 a)]:aa).length<=536870912)<|e ((b++([(at' x0 a)]:aa)),c,a))))))))))) λg=>(bif(!(decide ((W (a+1))=(x0.length:Int)))) then(a4 (0<=(W (a+1))/\(W (a+1))<(x0.length:Int))<|g (at' x0 (W (a+1)))) else g (0:UInt8)))) else h (b,c))
def Lm(b:aa)(d:Unit->Option (aa×Bool))(c:Int->Option (aa×Bool)):Int->Option (aa×Bool):=λa=>
 (bif(decide (a<(b.length:Int))) then(a4 (0<=a/\a<(b.length:Int))<|(bif(decide (((at' b a).toNat:Int)=(10:Int))) then some ([],false) else c (W (a+1)))) else d ())
def ED(x0:aa):Option (aa×Bool):=
 (a8 (λ((a,b):aa×UInt8)=>(bif(!(decide ((b.toNat:Int)=(0:Int)))) then some ([],false) else(a8 (λ(_:Unit)=>some (a,true)) λc=>(fixF (Lm a c) bB 0)))) λd=>(fixF (B8 x0 d) bB (([]:aa),(0:UInt8),0)))
theorem ahx{x0:aa}{r:aa×Bool}(h:ED x0=some r):
  FC Tryz.prog 151 [.string (a9 x0)] [] (λ_:Unit=>True) (λ_=> .tuple #[.string (a9 r.1),.bool r.2]) (λ_=>[]):=
 by
  refine V.fM (T:=cl) Tryz.call151 Tryz.func151 U λ_=>?_;unfold ED at h;refine V.go ab 7 0 U ?_;refine V.cj (aH.kj U (cL.buildSlice ab U U U U U U U U U U U [] U .byte [] ⟨U,U⟩ U U λa2=>aH.kk (V.ct ?_)));refine V.da ab 11 0 h (ρ:=bI×Nat) (λs q=>[(4,.v (.slice q.1 s.1.length q.2)),(5,.v (.int .u8 (s.2.toNat:Int)))]) .nil (λs q=>[lQ q.1 s.1 q.2]) U ?_ ?_
  ·intro F _ h;refine V.e_ ab 0 0 h (ρ:=bI×Nat) (λs q=>[(0,.v (.string (a9 x0))),(4,.v (.slice q.1 s.1.length q.2)),(5,.v (.int .u8 (s.2.1.toNat:Int))),(6,.v (.int .i64 s.2.2))]) .nil (λs q=>[lQ q.1 s.1 q.2]) (a2,([]:aa).length) [0] U ?_;rintro o ⟨l,p,d⟩ ⟨a,b⟩ h;rw[B8] at h;refine V.co ab 8 0 h U (λh=>?_) (λh=>?_)
   ·obtain⟨t,h⟩:=bC h;refine V.e9 ab 23 0 h (ρ:=Unit) (λs q=>[(0,.v (.string (a9 x0))),(4,.v (.slice a l.length b)),(5,.v (.int .u8 (p.toNat:Int))),(6,.v (.int .i64 d)),(7,.v (.int .u8 ((at' x0 d).toNat:Int))),(8,.v (.int .u8 (s.toNat:Int))),(9,.v (.bool (decide ((W (d+1))=(x0.length:Int)))))]) .nil (λs q=>[lQ a l b]) ⟨t,U⟩ ?_ ?_
    ·intro G _ h;refine V.co ab 5 0 h U (λh=>?_) (λh=>?_)
     ·obtain⟨u,h⟩:=bC h;exact V.a6 ab 7 0 h () [0] ⟨u,U⟩
     exact V.a6 ab 1 0 h () [0] U
    rintro v _ h;refine V.da ab 0 0 h (ρ:=bI×Nat) (λs q=>[(0,.v (.string (a9 x0))),(4,.v (.slice q.1 s.1.length q.2)),(5,.v (.int .u8 (s.2.1.toNat:Int))),(6,.v (.int .i64 s.2.2))]) .nil (λs q=>[lQ q.1 s.1 q.2]) U ?_ ?_
    ·intro H _ h;refine V.co ab 6 0 h U (λh=>?_) (λh=>?_)
     ·refine V.co ab 5 0 h U (λh=>?_) (λh=>?_)
      ·exact V.a6 ab 4 0 h (a,b) [0] U
      refine V.go ab 3 0 U ?_;refine V.cj (aH.kj U (cL.buildSlice ab U U U U U U U U U U U [] U .byte [(at' x0 d)] ⟨U,U⟩ U U λI=>aH.kk (V.ct ?_)));obtain⟨w,h⟩:=bC h;refine V.cj (aH.p6 ab U U U U ⟨U,U,U,U,trivial,U,U,U,U⟩ U U U [1] U 0 U w U λx y=>V.ct ?_);exact V.a6 ab 3 0 h (x,y) [0] U
     refine V.co ab 9 0 h U (λh=>?_) (λh=>?_)
     ·cases h;exact V.rt ab 5 0 () [] U
     refine V.co ab 10 0 h U (λh=>?_) (λh=>?_)
     ·exact V.a6 ab 6 0 h (a,b) [0] U
     refine V.co ab 26 0 h U (λh=>?_) (λh=>?_)
     ·refine V.go ab 4 0 U ?_;refine V.cj (aH.kj U (cL.buildSlice ab U U U U U U U U U U U [] U .byte [v] ⟨U,U⟩ U U λJ=>aH.kk (V.ct ?_)));obtain⟨g,h⟩:=bC h;refine V.cj (aH.p6 ab U U U U ⟨U,U,U,U,trivial,U,U,U,U⟩ U U U [1] U 0 U g U λz i=>V.ct ?_);exact V.a6 ab 8 0 h (z,i) [0] U
     refine V.co ab 10 0 h U (λh=>?_) (λh=>?_)
     ·cases h;exact V.rt ab 5 0 () [] U
     refine V.co ab 18 0 h U (λh=>?_) (λh=>?_)
     ·exact V.a6 ab 5 0 h (a,b) [0] U
     refine V.co ab 6 0 h U (λh=>?_) (λh=>?_)
     ·exact V.a6 ab 4 0 h (a,b) [0] U
     refine V.go ab 3 0 U ?_;refine V.cj (aH.kj U (cL.buildSlice ab U U U U U U U U U U U [] U .byte [(at' x0 d)] ⟨U,U⟩ U U λK=>aH.kk (V.ct ?_)));obtain⟨A,h⟩:=bC h;refine V.cj (aH.p6 ab U U U U ⟨U,U,U,U,trivial,U,U,U,U⟩ U U U [1] U 0 U A U λB C=>V.ct ?_);exact V.a6 ab 3 0 h (B,C) [0] U
    rintro⟨L,M,N⟩ ⟨D,j⟩ h
    try dsimp only at h
    exact V.el ab 6 0 h (D,j) [0] U
   exact V.a6 ab 1 0 h (a,b) [0] U
  rintro⟨c,O⟩ ⟨e,f⟩ h;refine V.co ab 6 0 h U (λh=>?_) (λh=>?_)
  ·cases h;exact V.rt ab 5 0 () [] U
  refine V.da ab 8 0 h (ρ:=Unit) (λs q=>[(4,.v (.slice e c.length f))]) .nil (λs q=>[lQ e c f]) U ?_ ?_
  ·intro P _ h;refine V.e_ ab 0 0 h (ρ:=Unit) (λs q=>[(4,.v (.slice e c.length f)),(118,.v (.slice e c.length f)),(119,.v (.int .i64 (c.length:Int))),(120,.v (.int .i64 s))]) .nil (λs q=>[lQ e c f]) () [0] U ?_;rintro E m _ h;rw[Lm] at h;refine V.co ab 5 0 h U (λh=>?_) (λh=>?_)
   ·refine V.go ab 5 0 U ?_;refine V.cj (aH.iG 0 U λk=>V.ct ?_);obtain⟨n,h⟩:=bC h;refine V.go ab 1 0 ⟨k.ix n,U⟩ ?_;refine V.cj (aH.load ab U U U U U U U 0 U U (Int.toNat m) 0 (at' c m) ⟨me n,U⟩ U U (V.ct ?_));refine V.co ab 7 0 h U (λh=>?_) (λh=>?_)
    ·cases h;exact V.rt ab 5 0 () [] U
    exact V.el ab 6 0 h () [0] U
   exact V.a6 ab 1 0 h () [0] U
  rintro _ _ h;refine V.go ab 3 0 U ?_;refine V.cj (aH.strOf ab U U U U U U U U 0 U U (V.ct ?_));cases h;exact V.rt ab 3 0 () [] U
def HY(x0:ah)(d:Int->Option ah)(b:Int->Option ah):Int->Option ah:=λa=>
 (au (ig (x0.1,a,x0.2.2)) λ(c:UInt8)=>(cY ((decide ((48:Int)<=(c.toNat:Int)))=true) (ig (x0.1,a,x0.2.2)) (0:UInt8) λ(e:UInt8)=>(bif(bif(decide ((48:Int)<=(c.toNat:Int))) then(decide ((e.toNat:Int)<=(57:Int))) else false) then b (W (a+1)) else d a)))
def B9(R:bg)(x0:ah):Option ah:=
 (a8 (λ(h:Int)=>(au (hH (x0.1,h,x0.2.2.1,x0.2.2.2.1,x0.2.2.2.2.1,x0.2.2.2.2.2.1,x0.2.2.2.2.2.2.1,x0.2.2.2.2.2.2.2.1,x0.2.2.2.2.2.2.2.2)) λ(c:aa)=>(au (g4 (x0.1,(W (h+(c.length:Int))),x0.2.2.1,x0.2.2.2.1,x0.2.2.2.2.1,x0.2.2.2.2.2.1,x0.2.2.2.2.2.2.1,x0.2.2.2.2.2.2.2.1,x0.2.2.2.2.2.2.2.2)) λ(a:ah)=>(au (gz (a.1,a.2.1,a.2.2.1,x0.2.2.2.1,a.2.2.2.2.1,a.2.2.2.2.2.1,a.2.2.2.2.2.2.1,x0.2.2.2.2.2.2.2.1,a.2.2.2.2.2.2.2.2)) λ(l:Bool)=>(bif l then(au (g5 (a.1,a.2.1,a.2.2.1,x0.2.2.2.1,a.2.2.2.2.1,a.2.2.2.2.2.1,a.2.2.2.2.2.2.1,x0.2.2.2.2.2.2.2.1,a.2.2.2.2.2.2.2.2) ([120]:aa)) λ(d:ah)=>(a8 (λ(m:ao)=>some (d.1,d.2.1,d.2.2.1,m,d.2.2.2.2.1,d.2.2.2.2.2.1,d.2.2.2.2.2.2.1,d.2.2.2.2.2.2.2.1,d.2.2.2.2.2.2.2.2)) λi=>(bif(bif(decide (c=([60,60]:aa))) then true else(decide (c=([60,60,45]:aa)))) then(a4 (d.2.2.2.1.length+([(([120]:aa),(decide (c=([60,60,45]:aa))))]:ao).length<=536870912)<|i (d.2.2.2.1++([(([120]:aa),(decide (c=([60,60,45]:aa))))]:ao))) else i d.2.2.2.1))) else(au (vM (a.1,a.2.1,a.2.2.1,x0.2.2.2.1,a.2.2.2.2.1,a.2.2.2.2.2.1,a.2.2.2.2.2.2.1,x0.2.2.2.2.2.2.2.1,a.2.2.2.2.2.2.2.2)) λ(n:Bool)=>(bif n then(au (hy (a.1,a.2.1,a.2.2.1,x0.2.2.2.1,a.2.2.2.2.1,a.2.2.2.2.2.1,a.2.2.2.2.2.2.1,x0.2.2.2.2.2.2.2.1,a.2.2.2.2.2.2.2.2) a.2.1) λ(e:ah)=>some (e.1,e.2.1,e.2.2.1,x0.2.2.2.1,e.2.2.2.2.1,e.2.2.2.2.2.1,e.2.2.2.2.2.2.1,x0.2.2.2.2.2.2.2.1,e.2.2.2.2.2.2.2.2)) else(au (qe R (a.1,a.2.1,a.2.2.1,x0.2.2.2.1,a.2.2.2.2.1,a.2.2.2.2.2.1,a.2.2.2.2.2.2.1,x0.2.2.2.2.2.2.2.1,a.2.2.2.2.2.2.2.2)) λ(j,p,b)=>(bif(!(bif(decide (c=([60,60]:aa))) then true else(decide (c=([60,60,45]:aa))))) then some b else(a4 (0<=(a.2.2.2.2.2.2.1.length:Int)/\(a.2.2.2.2.2.2.1.length:Int)<=(b.2.2.2.2.2.2.1.length:Int)/\(b.2.2.2.2.2.2.1.length:Int)<=(b.2.2.2.2.2.2.1.length:Int))<|(a4 (((j.length+(ch b.2.2.2.2.2.2.1 (a.2.2.2.2.2.2.1.length:Int) (b.2.2.2.2.2.2.1.length:Int)).length:Nat):Int)<=9223372036854775807)<|(au (ED (j++(ch b.2.2.2.2.2.2.1 (a.2.2.2.2.2.2.1.length:Int) (b.2.2.2.2.2.2.1.length:Int)))) λ(g,k)=>(a4 (((bif(decide (c=([60,60,45]:aa))) then(decide (0<(g.length:Int))) else false)=true)->((bif(decide (b.2.2.2.2.1=2)) then true else(!k))=false)->0<=(0:Int)/\0<(g.length:Int))<|(bif(bif(bif(decide (b.2.2.2.2.1=2)) then true else(!k)) then true else(bif(bif(decide (c=([60,60,45]:aa))) then(decide (0<(g.length:Int))) else false) then(decide (((at' g 0).toNat:Int)=(9:Int))) else false)) then(au (hy b a.2.1) λ(f:ah)=>some (f.1,f.2.1,f.2.2.1,b.2.2.2.1,f.2.2.2.2.1,f.2.2.2.2.2.1,f.2.2.2.2.2.2.1,b.2.2.2.2.2.2.2.1,f.2.2.2.2.2.2.2.2)) else(a4 (b.2.2.2.1.length+([(g,(decide (c=([60,60,45]:aa))))]:ao).length<=536870912)<|some (b.1,b.2.1,b.2.2.1,(b.2.2.2.1++([(g,(decide (c=([60,60,45]:aa))))]:ao)),b.2.2.2.2.1,b.2.2.2.2.2.1,b.2.2.2.2.2.2.1,b.2.2.2.2.2.2.2.1,b.2.2.2.2.2.2.2.2)))))))))))))))) λo=>(fixF (HY x0 o) bB x0.2.1))
theorem WM{R:bg}(p:h8 R){x0:ah}{a2:bI}{Q:bu}{r:ah}(h:B9 R x0=some r):
  gL Tryz.prog 131 [.pointer a2] [] (eV a2 x0 Q) (λ_:bu=>True) (λq=> .tuple #[]) (λq=>eV a2 r q):=
 by
  refine V.jn (T:=cl) Tryz.call131 Tryz.func131 U λ_ _=>?_;unfold B9 at h;refine V.da ab 1 0 h (ρ:=Unit) (λs q=>[(0,.bj ⟨a2,1,1⟩ 0)]) .nil (λs q=>eV a2 (x0.1,s,x0.2.2) Q) U ?_ ?_
  ·intro y _ h;refine V.e_ ab 0 0 h (ρ:=Unit) (λs q=>[(0,.bj ⟨a2,1,1⟩ 0)]) .nil (λs q=>eV a2 (x0.1,s,x0.2.2) Q) () [0,1,2] U ?_;rintro t z _ h;rw[HY] at h;refine V.cM ab 4 0 h oh [0] U λA _ h=>?_;refine V.ic ab 3 0 h oh [0] U (λ_=>id) λB h=>?_;refine V.co ab 3 0 h U (λh=>?_) (λh=>?_)
   ·exact V.el ab 13 0 h () [0,1,2] ⟨U,U,U,U,U,U,U⟩
   exact V.a6 ab 1 0 h () [0,1,2] U
  rintro C _ h;refine V.cM ab 3 0 h oO [0] U λo _ h=>?_;refine V.bH ab 29 0 h og [0] [] ⟨U,U,U,U,U,U,U⟩ λD _ h=>?_;refine V.cM ab 5 0 h m9 [0] U λE _ h=>?_;refine V.co ab 1 0 h U (λh=>?_) (λh=>?_)
  ·refine V.bH ab 3 0 h pB [0,0,0] [] U λb a h=>?_;refine V.e9 ab 1 0 h (ρ:=bI×Nat) (λs q=>[]) .nil (λs q=>[r9 q.1 s q.2,lP a2 (b.1,b.2.1,b.2.2.1,s,b.2.2.2.2) (q.1,q.2,a.2.2),hr a.2.2.1 b.2.2.2.2.2.2.2.1 a.2.2.2]) U ?_ ?_
   ·intro F _ h;refine V.co ab 4 0 h U (λh=>?_) (λh=>?_)
    ·refine V.go ab 9 0 ⟨U,U,U,U⟩ ?_;refine V.cj (aH.kj U (cL.buildSlice ab U U U U U U U U U U U [] U (.pair .str .bool) [(([120]:aa),(decide (o=([60,60,45]:aa))))] ⟨U,U⟩ U U λu=>aH.kk (V.ct ?_)));obtain⟨v,h⟩:=bC h;refine V.cj (aH.p6 ab U U U U ⟨U,U,U,U,trivial,U,U,U,U⟩ U U U [2] U 0 U v U λc d=>V.ct ?_);exact V.a6 ab 4 2 h (c,d) [1,0,3] ⟨U,U,U,U⟩
    exact V.a6 ab 1 0 h (a.1,a.2.1) [1,0,2] U
   rintro G ⟨e,f⟩ h;cases h;exact V.rx ab 0 0 (e,f,a.2.2) [1,0,0] U
  refine V.cM ab 5 0 h Lk [0] U λH _ h=>?_;refine V.co ab 1 0 h U (λh=>?_) (λh=>?_)
  ·refine V.bH ab 7 0 h pC [0] [] ⟨U,U,U,U⟩ λI _ h=>?_;cases h;exact V.rx ab 1 0 Q [0,0,0] U
  refine V.bH ab 21 0 h (EC p) [0,0,0] [] ⟨U,U,U,U,U,U,U⟩ ?_;rintro⟨J,K,L⟩ g h;refine V.co ab 12 0 h U (λh=>?_) (λh=>?_)
  ·cases h;exact V.rx ab 0 0 g [0,0,0] U
  obtain⟨i,h⟩:=bC h;obtain⟨j,h⟩:=bC h;refine V.cM ab 11 0 h ahx [] ⟨U,U,U,i,j,U⟩ ?_;rintro⟨w,M⟩ _ h;obtain⟨k,h⟩:=bC h;refine V.co ab 33 0 h ⟨U,U,U,k,U⟩ (λh=>?_) (λh=>?_)
  ·refine V.bH ab 4 0 h pC [0] [] U λN _ h=>?_;cases h;exact V.rx ab 1 0 g [0,0,0] U
  refine V.go ab 11 0 ⟨U,U,U,U⟩ ?_;refine V.cj (aH.kj U (cL.buildSlice ab U U U U U U U U U U U [] U (.pair .str .bool) [(w,(decide (o=([60,60,45]:aa))))] ⟨U,U⟩ U U λx=>aH.kk (V.ct ?_)));obtain⟨l,h⟩:=bC h;refine V.cj (aH.p6 ab U U U U ⟨U,U,U,U,trivial,U,U,U,U⟩ U U U [2] U 0 U l U λm n=>V.ct ?_);cases h;exact V.jI ab 4 2 (m,n,g.2.2) [0,0,1] ⟨U,U,U,U⟩
def yx(m:ah->Option ah)(n:ah->Option ah):ah->Option ah:=λ(d,e,f,g,b,h,i,j,k)=>
 (cY ((decide (b=0))=true) (ig (d,e,f,g,b,h,i,j,k)) (0:UInt8) λ(o:UInt8)=>(bif(bif(decide (b=0)) then(decide ((o.toNat:Int)=(10:Int))) else false) then(a8 (λ((p,q,r,s,t,u,v,w,x):ah)=>n (p,q,r,s,t,u,v,w,x)) λl=>(au (Aa (d,e,f,g,b,h,i,j,k)) λ(c:ah)=>(bif(decide (c.2.2.2.2.1=0)) then(au (g4 c) λ(a:ah)=>l (a.1,a.2.1,a.2.2.1,c.2.2.2.1,a.2.2.2.2.1,a.2.2.2.2.2.1,a.2.2.2.2.2.2.1,c.2.2.2.2.2.2.2.1,a.2.2.2.2.2.2.2.2)) else l c))) else m (d,e,f,g,b,h,i,j,k)))
def oi(x0:ah):Option ah:=
 (au (g4 x0) λ(a:ah)=>(a8 (λ((b,c,d,e,f,g,h,i,j):ah)=>some (b,c,d,e,f,g,h,i,j)) λk=>(fixF (yx k) bB (a.1,a.2.1,a.2.2.1,x0.2.2.2.1,a.2.2.2.2.1,a.2.2.2.2.2.1,a.2.2.2.2.2.2.1,x0.2.2.2.2.2.2.2.1,a.2.2.2.2.2.2.2.2))))
theorem B_{x0:ah}{a2:bI}{Q:bu}{r:ah}(h:oi x0=some r):
  gL Tryz.prog 69 [.pointer a2] [] (eV a2 x0 Q) (λ_:bu=>True) (λq=> .tuple #[]) (λq=>eV a2 r q):=
 by
  refine V.jn (T:=cl) Tryz.call69 Tryz.func69 U λ_ _=>?_;unfold oi at h;refine V.bH ab 3 0 h og [0] [] U λe _ h=>?_;refine V.da ab 1 0 h (ρ:=bu) (λs q=>[]) .nil (λs q=>gM a2 s q) U ?_ ?_
  ·intro f _ h;refine V.e_ ab 0 0 h (ρ:=bu) (λs q=>[(0,.bj ⟨a2,1,1⟩ 0)]) .nil (λs q=>gM a2 s q) Q [1,2,0] U ?_;rintro g ⟨i,j,k,l,m,n,o,p,t⟩ b h;rw[yx] at h;refine V.ic ab 10 2 h oh [2] ⟨U,U,U,U⟩ (λ_=>id) λu h=>?_;refine V.co ab 3 0 h U (λh=>?_) (λh=>?_)
   ·refine V.da ab 1 0 h (ρ:=bu) (λs q=>[(0,.bj ⟨a2,1,1⟩ 0)]) .nil (λs q=>gM a2 s q) U ?_ ?_
    ·intro v _ h;refine V.bH ab 3 0 h WB [2,0,0] [] U λw a h=>?_;refine V.co ab 9 0 h ⟨U,U,U,U⟩ (λh=>?_) (λh=>?_)
     ·refine V.bH ab 2 0 h og [0] [] U λx _ h=>?_;exact V.a6 ab 2 0 h a [1,2,0] U
     exact V.a6 ab 2 0 h a [1,2,0] U
    rintro⟨y,z,A,B,C,D,E,F,G⟩ c h
    try dsimp only at h
    exact V.el ab 0 0 h c [0,1,2] U
   exact V.a6 ab 1 0 h b [0,1,2] U
  rintro⟨H,I,J,K,L,M,N,O,P⟩ d h;cases h;exact V.jI ab 0 0 d [2,0,0] U
def yy(x0:ah)(b:Int):Option (Bool×ah):=
 (bif(decide (30<=x0.2.2.1)) then(au (hy x0 b) λ(a:ah)=>some (false,(a.1,a.2.1,a.2.2.1,x0.2.2.2.1,a.2.2.2.2.1,a.2.2.2.2.2.1,a.2.2.2.2.2.2.1,x0.2.2.2.2.2.2.2.1,a.2.2.2.2.2.2.2.2))) else some (true,(x0.1,x0.2.1,(W (x0.2.2.1+1)),x0.2.2.2)))
theorem QQ{x0:ah}{a:Int}{a3:bI}{Q:bu}{r:Bool×ah}(h:yy x0 a=some r):
  gL Tryz.prog 126 [.pointer a3,.int .i64 a] [] [lP a3 x0 Q] (λ_:Unit=>True) (λ_=> .bool r.1) (λ_=>[lP a3 (r.2.1,r.2.2.1,r.2.2.2.1,x0.2.2.2.1,r.2.2.2.2.2.1,r.2.2.2.2.2.2.1,r.2.2.2.2.2.2.2.1,x0.2.2.2.2.2.2.2.1,r.2.2.2.2.2.2.2.2.2) Q]):=
 by
  refine V.jn (T:=cl) Tryz.call126 Tryz.func126 U λ_ _=>?_;unfold yy at h;refine V.co ab 13 0 h ⟨U,U,U,U⟩ (λh=>?_) (λh=>?_)
  ·refine V.bH ab 4 0 h pC [0] [] U λb _ h=>?_;cases h;exact V.rx ab 5 0 () [0] U
  cases h;exact V.rx ab 16 0 () [0] ⟨U,U,U,U,U,U,U⟩
def Ak(R:bg)(q:ah->Option ah)(o:ah->Option ah):ah->Option ah:=λ(i,f,j,g,k,l,m,h,n)=>
 (au (gz (i,f,j,g,k,l,m,h,n)) λ(r:Bool)=>(bif r then(au (g5 (i,f,j,g,k,l,m,h,n) ([120,41]:aa)) λ(s:ah)=>some s) else(au (vM (i,f,j,g,k,l,m,h,n)) λ(t:Bool)=>(bif t then(au (hy (i,f,j,g,k,l,m,h,n) f) λ(c:ah)=>some (c.1,c.2.1,c.2.2.1,g,c.2.2.2.2.1,c.2.2.2.2.2.1,c.2.2.2.2.2.2.1,h,c.2.2.2.2.2.2.2.2)) else(au (qe R (i,f,j,g,k,l,m,h,n)) λ(x,y,b)=>(bif(!(decide (b.2.2.2.2.1=0))) then(au (gA b ([]) ([41]:aa)) λ(u:ah)=>some u) else(au (g4 b) λ(a:ah)=>(au (gz (a.1,a.2.1,a.2.2.1,b.2.2.2.1,a.2.2.2.2.1,a.2.2.2.2.2.1,a.2.2.2.2.2.2.1,b.2.2.2.2.2.2.2.1,a.2.2.2.2.2.2.2.2)) λ(v:Bool)=>(bif v then(au (g5 (a.1,a.2.1,a.2.2.1,b.2.2.2.1,a.2.2.2.2.1,a.2.2.2.2.2.1,a.2.2.2.2.2.2.1,b.2.2.2.2.2.2.2.1,a.2.2.2.2.2.2.2.2) ([41]:aa)) λ(w:ah)=>some w) else(au (hH (a.1,a.2.1,a.2.2.1,b.2.2.2.1,a.2.2.2.2.1,a.2.2.2.2.2.1,a.2.2.2.2.2.2.1,b.2.2.2.2.2.2.2.1,a.2.2.2.2.2.2.2.2)) λ(p:aa)=>(bif(bif(!(decide (p=([124]:aa)))) then(!(decide (p=([41]:aa)))) else false) then(au (hy (a.1,a.2.1,a.2.2.1,b.2.2.2.1,a.2.2.2.2.1,a.2.2.2.2.2.1,a.2.2.2.2.2.2.1,b.2.2.2.2.2.2.2.1,a.2.2.2.2.2.2.2.2) a.2.1) λ(d:ah)=>some (d.1,d.2.1,d.2.2.1,b.2.2.2.1,d.2.2.2.2.1,d.2.2.2.2.2.1,d.2.2.2.2.2.2.1,b.2.2.2.2.2.2.2.1,d.2.2.2.2.2.2.2.2)) else(bif(decide (p=([41]:aa))) then q (a.1,(W (a.2.1+1)),a.2.2.1,b.2.2.2.1,a.2.2.2.2.1,a.2.2.2.2.2.1,a.2.2.2.2.2.2.1,b.2.2.2.2.2.2.2.1,a.2.2.2.2.2.2.2.2) else(au (g4 (a.1,(W (a.2.1+1)),a.2.2.1,b.2.2.2.1,a.2.2.2.2.1,a.2.2.2.2.2.1,a.2.2.2.2.2.2.1,b.2.2.2.2.2.2.2.1,a.2.2.2.2.2.2.2.2)) λ(e:ah)=>o (e.1,e.2.1,e.2.2.1,b.2.2.2.1,e.2.2.2.2.1,e.2.2.2.2.2.1,e.2.2.2.2.2.2.1,b.2.2.2.2.2.2.2.1,e.2.2.2.2.2.2.2.2))))))))))))))
def EE(R:bg)(x0:ah):Option ah:=
 (a8 (λ((d,e,f,g,h,i,j):aa×Int×Int×Int×Int×aa×Bool)=>(a8 (λ((k,l,m,n,o,p,q,r,s):ah)=>(au (R.nQ (k,l,m,n,o,p,q,r,s) ([59,59]:aa) ([]:bl) false) λ(w,a)=>(cY ((decide (a.2.2.2.2.1=0))=true) (hH a) [] λ(t:aa)=>(bif(bif(decide (a.2.2.2.2.1=0)) then(decide (t=([59,59]:aa))) else false) then some (a.1,(W (a.2.1+2)),a.2.2.1,a.2.2.2.1,a.2.2.2.2.1,a.2.2.2.2.2.1,a.2.2.2.2.2.2.1,a.2.2.2.2.2.2.2.1,a.2.2.2.2.2.2.2.2) else some a)))) λu=>(fixF (Ak R u) bB (d,e,f,x0.2.2.2.1,g,h,i,x0.2.2.2.2.2.2.2.1,j)))) λc=>(au (hH x0) λ(v:aa)=>(bif(decide (v=([40]:aa))) then(au (g4 (x0.1,(W (x0.2.1+1)),x0.2.2.1,x0.2.2.2.1,x0.2.2.2.2.1,x0.2.2.2.2.2.1,x0.2.2.2.2.2.2.1,x0.2.2.2.2.2.2.2.1,x0.2.2.2.2.2.2.2.2)) λ(b:ah)=>c (b.1,b.2.1,b.2.2.1,b.2.2.2.2.1,b.2.2.2.2.2.1,b.2.2.2.2.2.2.1,b.2.2.2.2.2.2.2.2)) else c (x0.1,x0.2.1,x0.2.2.1,x0.2.2.2.2.1,x0.2.2.2.2.2.1,x0.2.2.2.2.2.2.1,x0.2.2.2.2.2.2.2.2))))
theorem ahP{R:bg}(b:h8 R){x0:ah}{a2:bI}{Q:bu}{r:ah}(h:EE R x0=some r):
  gL Tryz.prog 167 [.pointer a2] [] (eV a2 x0 Q) (λ_:bu=>True) (λq=> .tuple #[]) (λq=>eV a2 r q):=
 by
  refine V.jn (T:=cl) Tryz.call167 Tryz.func167 U λ_ _=>?_;unfold EE at h;refine V.e9 ab 0 0 h (ρ:=Unit) (λs q=>[(0,.bj ⟨a2,1,1⟩ 0)]) .nil (λs q=>eV a2 (s.1,s.2.1,s.2.2.1,x0.2.2.2.1,s.2.2.2.1,s.2.2.2.2.1,s.2.2.2.2.2.1,x0.2.2.2.2.2.2.2.1,s.2.2.2.2.2.2) Q) U ?_ ?_
  ·intro j _ h;refine V.cM ab 3 0 h oO [0] U λk _ h=>?_;refine V.co ab 2 0 h U (λh=>?_) (λh=>?_)
   ·refine V.bH ab 13 0 h og [0] [] ⟨U,U,U,U,U,U,U⟩ λl _ h=>?_;exact V.a6 ab 1 0 h () [0,1,2] U
   exact V.a6 ab 1 0 h () [0,1,2] U
  rintro⟨m,n,o,p,t,u,v⟩ _ h;refine V.da ab 1 0 h (ρ:=bu) (λs q=>[(0,.bj ⟨a2,1,1⟩ 0)]) .nil (λs q=>gM a2 s q) U ?_ ?_
  ·intro w _ h;refine V.e_ ab 0 0 h (ρ:=bu) (λs q=>[(0,.bj ⟨a2,1,1⟩ 0)]) .nil (λs q=>gM a2 s q) Q [1,2,0] U ?_;rintro d ⟨x,y,z,A,B,C,D,E,F⟩ e h;rw[Ak] at h;refine V.cM ab 5 0 h m9 [2] U λG _ h=>?_;refine V.co ab 1 0 h U (λh=>?_) (λh=>?_)
   ·refine V.bH ab 3 0 h pB [2,0,0] [] U λH f h=>?_;cases h;exact V.rx ab 1 0 f [0,0,0] U
   refine V.cM ab 5 0 h Lk [2] U λI _ h=>?_;refine V.co ab 1 0 h U (λh=>?_) (λh=>?_)
   ·refine V.bH ab 7 2 h pC [2] [] ⟨U,U,U,U⟩ λJ _ h=>?_;cases h;exact V.rx ab 1 0 e [0,0,0] U
   refine V.bH ab 4 0 h (EC b) [2,0,0] [] U ?_;rintro⟨K,L,M⟩ a h;refine V.co ab 10 0 h ⟨U,U,U,U⟩ (λh=>?_) (λh=>?_)
   ·refine V.bH ab 3 0 h qR [0,0,0] [] U λN g h=>?_;cases h;exact V.rx ab 1 0 g [0,0,0] U
   refine V.bH ab 4 0 h og [0] [] U λO _ h=>?_;refine V.cM ab 5 0 h m9 [0] U λP _ h=>?_;refine V.co ab 1 0 h U (λh=>?_) (λh=>?_)
   ·refine V.bH ab 3 0 h pB [0,0,0] [] U λS i h=>?_;cases h;exact V.rx ab 1 0 i [0,0,0] U
   refine V.cM ab 4 0 h oO [0] U λW _ h=>?_;refine V.co ab 12 0 h U (λh=>?_) (λh=>?_)
   ·refine V.bH ab 7 0 h pC [0] [] ⟨U,U,U,U⟩ λX _ h=>?_;cases h;exact V.rx ab 1 0 a [0,0,0] U
   refine V.co ab 18 0 h ⟨U,U,U,U,U,U,U⟩ (λh=>?_) (λh=>?_)
   ·exact V.a6 ab 1 0 h a [1,2,0] U
   refine V.bH ab 3 0 h og [0] [] U λY _ h=>?_;exact V.el ab 2 0 h a [1,2,0] U
  rintro⟨Z,px,py,qd,uD,pw,qT,yA,sn⟩ KU h;refine V.go ab 3 0 U ?_;refine V.cj (aH.J9 .str bw.nil U U (V.ct ?_));refine V.bH ab 0 0 h b.nQ [2,0,0] [0] U ?_;rintro⟨BQ,hd⟩ c h;refine V.ic ab 10 1 h oO [1] ⟨U,U,U,U⟩ (λ_=>id) λLn h=>?_;refine V.co ab 3 0 h U (λh=>?_) (λh=>?_)
  ·cases h;exact V.jI ab 11 1 c [0,0,0] ⟨U,U,U,U,U,U,U⟩
  cases h;exact V.jI ab 1 0 c [0,0,0] U
def EF(R:bg)(v:ah->Option ah)(w:ah->Option ah):ah->Option ah:=λ(l,m,n,o,k,p,q,r,s)=>
 (bif(decide (k=0)) then(a8 (λ((x,y,z,A,B,C,D,E,F):ah)=>w (x,y,z,A,B,C,D,E,F)) λt=>(au (oi (l,m,n,o,k,p,q,r,s)) λ(b:ah)=>(a8 (λ((c,d,e,f,a,g,h,i,j):ah)=>(cY ((decide (a=0))=true) (lF (c,d,e,f,a,g,h,i,j)) [] λ(G:aa)=>(bif(bif(decide (a=0)) then(decide (G=([101,115,97,99]:aa))) else false) then some (c,(W (d+4)),e,f,a,g,h,i,j) else(bif(decide (a=0)) then(au (EE R (c,d,e,f,a,g,h,i,j)) λ(H:ah)=>t H) else t (c,d,e,f,a,g,h,i,j))))) λu=>(cY ((decide (b.2.2.2.2.1=0))=true) (gz b) false λ(I:Bool)=>(bif(bif(decide (b.2.2.2.2.1=0)) then I else false) then(au (g5 b ([])) λ(J:ah)=>u J) else u b))))) else v (l,m,n,o,k,p,q,r,s))
def EG(R:bg)(x0:ah):Option ah:=
 (au (g4 x0) λ(a:ah)=>(au (gz (a.1,a.2.1,a.2.2.1,x0.2.2.2.1,a.2.2.2.2.1,a.2.2.2.2.2.1,a.2.2.2.2.2.2.1,x0.2.2.2.2.2.2.2.1,a.2.2.2.2.2.2.2.2)) λ(q:Bool)=>(bif q then(au (g5 (a.1,a.2.1,a.2.2.1,x0.2.2.2.1,a.2.2.2.2.1,a.2.2.2.2.2.1,a.2.2.2.2.2.2.1,x0.2.2.2.2.2.2.2.1,a.2.2.2.2.2.2.2.2) ([120,32,105,110,10,101,115,97,99]:aa)) λ(r:ah)=>some r) else(au (vM (a.1,a.2.1,a.2.2.1,x0.2.2.2.1,a.2.2.2.2.1,a.2.2.2.2.2.1,a.2.2.2.2.2.2.1,x0.2.2.2.2.2.2.2.1,a.2.2.2.2.2.2.2.2)) λ(s:Bool)=>(bif s then(au (hy (a.1,a.2.1,a.2.2.1,x0.2.2.2.1,a.2.2.2.2.1,a.2.2.2.2.2.1,a.2.2.2.2.2.2.1,x0.2.2.2.2.2.2.2.1,a.2.2.2.2.2.2.2.2) a.2.1) λ(e:ah)=>some (e.1,e.2.1,e.2.2.1,x0.2.2.2.1,e.2.2.2.2.1,e.2.2.2.2.2.1,e.2.2.2.2.2.2.1,x0.2.2.2.2.2.2.2.1,e.2.2.2.2.2.2.2.2)) else(au (qe R (a.1,a.2.1,a.2.2.1,x0.2.2.2.1,a.2.2.2.2.1,a.2.2.2.2.2.1,a.2.2.2.2.2.2.1,x0.2.2.2.2.2.2.2.1,a.2.2.2.2.2.2.2.2)) λ(H,I,c)=>(a8 (λ((k,g,l,h,i,m,n,j,o):ah)=>(bif(!(decide (i=0))) then(au (gA (k,g,l,h,i,m,n,j,o) ([]) ([32,105,110,10,101,115,97,99]:aa)) λ(t:ah)=>some t) else(au (lF (k,g,l,h,i,m,n,j,o)) λ(u:aa)=>(bif(!(decide (u=([105,110]:aa)))) then(au (hy (k,g,l,h,i,m,n,j,o) g) λ(f:ah)=>some (f.1,f.2.1,f.2.2.1,h,f.2.2.2.2.1,f.2.2.2.2.2.1,f.2.2.2.2.2.2.1,j,f.2.2.2.2.2.2.2.2)) else(a8 (λ((v,w,x,y,z,A,B,C,D):ah)=>(au (gA (v,w,x,y,z,A,B,C,D) ([]) ([10,101,115,97,99]:aa)) λ(E:ah)=>some E)) λF=>(fixF (EF R F) bB (k,(W (g+2)),l,h,i,m,n,j,o))))))) λp=>(bif(decide (c.2.2.2.2.1=0)) then(au (oi c) λ(b:ah)=>(cY ((decide (b.2.2.2.2.1=0))=true) (gz b) false λ(G:Bool)=>(bif(bif(decide (b.2.2.2.2.1=0)) then G else false) then(au (g5 b ([])) λ(d:ah)=>p (d.1,d.2.1,d.2.2.1,d.2.2.2.1,d.2.2.2.2.1,d.2.2.2.2.2.1,d.2.2.2.2.2.2.1,d.2.2.2.2.2.2.2.1,d.2.2.2.2.2.2.2.2)) else p (b.1,b.2.1,b.2.2.1,b.2.2.2.1,b.2.2.2.2.1,b.2.2.2.2.2.1,b.2.2.2.2.2.2.1,b.2.2.2.2.2.2.2.1,b.2.2.2.2.2.2.2.2)))) else p (c.1,c.2.1,c.2.2.1,c.2.2.2.1,c.2.2.2.2.1,c.2.2.2.2.2.1,c.2.2.2.2.2.2.1,c.2.2.2.2.2.2.2.1,c.2.2.2.2.2.2.2.2)))))))))
theorem ahQ{R:bg}(d:h8 R){x0:ah}{a2:bI}{Q:bu}{r:ah}(h:EG R x0=some r):
  gL Tryz.prog 149 [.pointer a2] [] (eV a2 x0 Q) (λ_:bu=>True) (λq=> .tuple #[]) (λq=>eV a2 r q):=
 by
  refine V.jn (T:=cl) Tryz.call149 Tryz.func149 U λ_ _=>?_;unfold EG at h;refine V.bH ab 3 0 h og [0] [] U λu _ h=>?_;refine V.cM ab 5 0 h m9 [0] U λv _ h=>?_;refine V.co ab 1 0 h U (λh=>?_) (λh=>?_)
  ·refine V.bH ab 3 0 h pB [0,0,0] [] U λw g h=>?_;cases h;exact V.rx ab 1 0 g [0,0,0] U
  refine V.cM ab 5 0 h Lk [0] U λx _ h=>?_;refine V.co ab 1 0 h U (λh=>?_) (λh=>?_)
  ·refine V.bH ab 7 0 h pC [0] [] ⟨U,U,U,U⟩ λy _ h=>?_;cases h;exact V.rx ab 1 0 Q [0,0,0] U
  refine V.bH ab 4 0 h (EC d) [0,0,0] [] U ?_;rintro⟨z,A,B⟩ i h;refine V.e9 ab 1 0 h (ρ:=bu) (λs q=>[(0,.bj ⟨a2,1,1⟩ 0)]) .nil (λs q=>gM a2 s q) U ?_ ?_
  ·intro C _ h;refine V.co ab 8 0 h ⟨U,U,U,U⟩ (λh=>?_) (λh=>?_)
   ·refine V.bH ab 3 0 h B_ [0,0,0] [] U λD j h=>?_;refine V.ic ab 10 0 h m9 [0] ⟨U,U,U,U⟩ (λ_=>id) λE h=>?_;refine V.co ab 2 0 h U (λh=>?_) (λh=>?_)
    ·refine V.bH ab 2 0 h pB [0,0,0] [] U λF k h=>?_;exact V.a6 ab 1 0 h k [1,2,0] U
    exact V.a6 ab 1 0 h j [1,2,0] U
   exact V.a6 ab 1 0 h i [1,2,0] U
  rintro⟨G,H,I,J,K,L,M,N,O⟩ e h;refine V.co ab 9 2 h ⟨U,U,U,U⟩ (λh=>?_) (λh=>?_)
  ·refine V.bH ab 3 0 h qR [2,0,0] [] U λP l h=>?_;cases h;exact V.rx ab 1 0 l [0,0,0] U
  refine V.cM ab 5 0 h wZ [2] U λS _ h=>?_;refine V.co ab 2 0 h U (λh=>?_) (λh=>?_)
  ·refine V.bH ab 7 2 h pC [2] [] ⟨U,U,U,U⟩ λW _ h=>?_;cases h;exact V.rx ab 1 0 e [0,0,0] U
  refine V.da ab 14 2 h (ρ:=bu) (λs q=>[(0,.bj ⟨a2,1,1⟩ 0)]) .nil (λs q=>gM a2 s q) ⟨U,U,U,U,U,U,U⟩ ?_ ?_
  ·intro X _ h;refine V.e_ ab 0 0 h (ρ:=bu) (λs q=>[(0,.bj ⟨a2,1,1⟩ 0)]) .nil (λs q=>gM a2 s q) e [1,2,0] U ?_;rintro m ⟨Y,Z,rv,pz,nu,ry,yB,um,uB⟩ a h;rw[EF] at h;refine V.co ab 9 2 h ⟨U,U,U,U⟩ (λh=>?_) (λh=>?_)
   ·refine V.da ab 1 0 h (ρ:=bu) (λs q=>[(0,.bj ⟨a2,1,1⟩ 0)]) .nil (λs q=>gM a2 s q) U ?_ ?_
    ·intro QR _ h;refine V.bH ab 3 0 h B_ [2,0,0] [] U λqf n h=>?_;refine V.e9 ab 1 0 h (ρ:=bu) (λs q=>[(0,.bj ⟨a2,1,1⟩ 0)]) .nil (λs q=>gM a2 s q) U ?_ ?_
     ·intro QS _ h;refine V.ic ab 9 0 h m9 [0] ⟨U,U,U,U⟩ (λ_=>id) λyD h=>?_;refine V.co ab 2 0 h U (λh=>?_) (λh=>?_)
      ·refine V.bH ab 2 0 h pB [0,0,0] [] U λLq o h=>?_;exact V.a6 ab 1 0 h o [1,2,0] U
      exact V.a6 ab 1 0 h n [1,2,0] U
     rintro⟨oH,sn,vH,qQ,rD,z8,qP,ru,Al⟩ f h;refine V.ic ab 10 2 h wZ [2] ⟨U,U,U,U⟩ (λ_=>id) λkR h=>?_;refine V.co ab 3 0 h U (λh=>?_) (λh=>?_)
     ·cases h;exact V.rx ab 12 2 f [0,0,0] ⟨U,U,U,U,U,U,U⟩
     refine V.co ab 9 2 h ⟨U,U,U,U⟩ (λh=>?_) (λh=>?_)
     ·refine V.bH ab 2 0 h (ahP d) [2,0,0] [] U λLp b h=>?_;exact V.a6 ab 2 0 h b [1,2,0] U
     exact V.a6 ab 2 0 h f [0,1,2] U
    rintro⟨oL,EB,yn,qb,tk,ur,HZ,H0,yC⟩ c h
    try dsimp only at h
    exact V.el ab 0 0 h c [0,1,2] U
   exact V.a6 ab 1 0 h a [0,1,2] U
  rintro⟨WO,Hs,BR,WQ,H2,H3,WR,WS,H4⟩ p h;refine V.bH ab 2 0 h qR [2,0,0] [] U λLt t h=>?_;cases h;exact V.jI ab 1 0 t [0,0,0] U
def Lu(R:bg)(l:ah->Option ah)(m:ah->Option ah):ah->Option ah:=λ(f,g,h,b,e,i,j,c,k)=>
 (bif(decide (e=0)) then(au (g4 (f,g,h,b,e,i,j,c,k)) λ(a:ah)=>(au (gz (a.1,a.2.1,a.2.2.1,b,a.2.2.2.2.1,a.2.2.2.2.2.1,a.2.2.2.2.2.2.1,c,a.2.2.2.2.2.2.2.2)) λ(n:Bool)=>(bif n then(au (g5 (a.1,a.2.1,a.2.2.1,b,a.2.2.2.2.1,a.2.2.2.2.2.1,a.2.2.2.2.2.2.1,c,a.2.2.2.2.2.2.2.2) ([])) λ(o:ah)=>some o) else(au (ig (a.1,a.2.1,a.2.2.1,b,a.2.2.2.2.1,a.2.2.2.2.2.1,a.2.2.2.2.2.2.1,c,a.2.2.2.2.2.2.2.2)) λ(p:UInt8)=>(bif(decide ((p.toNat:Int)=(10:Int))) then some (a.1,a.2.1,a.2.2.1,b,a.2.2.2.2.1,a.2.2.2.2.2.1,a.2.2.2.2.2.2.1,c,a.2.2.2.2.2.2.2.2) else(au (hH (a.1,a.2.1,a.2.2.1,b,a.2.2.2.2.1,a.2.2.2.2.2.1,a.2.2.2.2.2.2.1,c,a.2.2.2.2.2.2.2.2)) λ(q:aa)=>(bif(decide (q=([59]:aa))) then some (a.1,(W (a.2.1+1)),a.2.2.1,b,a.2.2.2.2.1,a.2.2.2.2.2.1,a.2.2.2.2.2.2.1,c,a.2.2.2.2.2.2.2.2) else(au (hH (a.1,a.2.1,a.2.2.1,b,a.2.2.2.2.1,a.2.2.2.2.2.1,a.2.2.2.2.2.2.1,c,a.2.2.2.2.2.2.2.2)) λ(r:aa)=>(bif(!(decide (r=[]))) then(au (hy (a.1,a.2.1,a.2.2.1,b,a.2.2.2.2.1,a.2.2.2.2.2.1,a.2.2.2.2.2.2.1,c,a.2.2.2.2.2.2.2.2) a.2.1) λ(d:ah)=>some (d.1,d.2.1,d.2.2.1,b,d.2.2.2.2.1,d.2.2.2.2.2.1,d.2.2.2.2.2.2.1,c,d.2.2.2.2.2.2.2.2)) else(au (qe R (a.1,a.2.1,a.2.2.1,b,a.2.2.2.2.1,a.2.2.2.2.2.1,a.2.2.2.2.2.2.1,c,a.2.2.2.2.2.2.2.2)) λ(t,u,s)=>m s)))))))))) else l (f,g,h,b,e,i,j,c,k))
def EH(R:bg)(x0:ah):Option ah:=
 (a8 (λ((a,b,c,d,e,f,g,h,i):ah)=>some (a,b,c,d,e,f,g,h,i)) λj=>(fixF (Lu R j) bB (x0.1,x0.2.1,x0.2.2.1,x0.2.2.2.1,x0.2.2.2.2.1,x0.2.2.2.2.2.1,x0.2.2.2.2.2.2.1,x0.2.2.2.2.2.2.2.1,x0.2.2.2.2.2.2.2.2)))
theorem ahU{R:bg}(b:h8 R){x0:ah}{a2:bI}{Q:bu}{r:ah}(h:EH R x0=some r):
  gL Tryz.prog 166 [.pointer a2] [] (eV a2 x0 Q) (λ_:bu=>True) (λq=> .tuple #[]) (λq=>eV a2 r q):=
 by
  refine V.jn (T:=cl) Tryz.call166 Tryz.func166 U λ_ _=>?_;unfold EH at h;refine V.da ab 0 0 h (ρ:=bu) (λs q=>[]) .nil (λs q=>gM a2 s q) U ?_ ?_
  ·intro f _ h;refine V.e_ ab 0 0 h (ρ:=bu) (λs q=>[(0,.bj ⟨a2,1,1⟩ 0)]) .nil (λs q=>gM a2 s q) Q [1,2,0] U ?_;rintro g ⟨i,j,k,l,m,n,o,p,t⟩ a h;rw[Lu] at h;refine V.co ab 9 2 h ⟨U,U,U,U⟩ (λh=>?_) (λh=>?_)
   ·refine V.bH ab 5 0 h og [2] [] U λu _ h=>?_;refine V.cM ab 5 0 h m9 [0] U λv _ h=>?_;refine V.co ab 1 0 h U (λh=>?_) (λh=>?_)
    ·refine V.bH ab 3 0 h pB [0,0,0] [] U λw c h=>?_;cases h;exact V.rx ab 1 0 c [0,0,0] U
    refine V.cM ab 5 0 h oh [0] U λx _ h=>?_;refine V.co ab 2 0 h U (λh=>?_) (λh=>?_)
    ·cases h;exact V.rx ab 0 0 a [0,0,0] U
    refine V.cM ab 5 0 h oO [0] U λy _ h=>?_;refine V.co ab 2 0 h U (λh=>?_) (λh=>?_)
    ·cases h;exact V.rx ab 11 0 a [0,0,0] ⟨U,U,U,U,U,U,U⟩
    refine V.cM ab 5 0 h oO [0] U λz _ h=>?_;refine V.co ab 2 0 h U (λh=>?_) (λh=>?_)
    ·refine V.bH ab 7 0 h pC [0] [] ⟨U,U,U,U⟩ λA _ h=>?_;cases h;exact V.rx ab 1 0 a [0,0,0] U
    refine V.bH ab 3 0 h (EC b) [0,0,0] [] U ?_;rintro⟨B,C,D⟩ d h
    try dsimp only at h
    exact V.el ab 2 0 h d [1,2,0] U
   exact V.a6 ab 1 0 h a [0,1,2] U
  rintro⟨E,F,G,H,I,J,K,L,M⟩ e h;cases h;exact V.jI ab 0 0 e [2,0,0] U
def pD(R:bg)(x0:ah)(c:bl)(d:aa):Option (aa×ah):=
 (au (R.nQ x0 ([119]:aa) c true) λ(f,a)=>(bif(!(decide (a.2.2.2.2.1=0))) then(au (gA a ([]) d) λ(e:ah)=>some ([],e)) else(au (lF a) λ(b:aa)=>some (b,(a.1,(W (a.2.1+(b.length:Int))),a.2.2)))))
theorem Cd{R:bg}(g:h8 R){x0:ah}{a:bl}{d:aa}{b:bI}{Q:bu}{e:bI}{f:Nat}{r:aa×ah}(h:pD R x0 a d=some r):
  gL Tryz.prog 147 [.pointer b,.slice e a.length f,.string (a9 d)] [hr e a f] (eV b x0 Q) (λ_:bu=>True) (λq=> .string (a9 r.1)) (λq=>eV b r.2 q):=
 by
  refine V.jn (T:=cl) Tryz.call147 Tryz.func147 U λ_ _=>?_;unfold pD at h;refine V.bH ab 8 0 h g.nQ [0,0,0] [0] U ?_;rintro⟨j,k⟩ i h;refine V.co ab 10 1 h ⟨U,U,U,U⟩ (λh=>?_) (λh=>?_)
  ·refine V.bH ab 4 0 h qR [0,0,0] [] U λl c h=>?_;cases h;exact V.rx ab 5 0 c [0,0,0] U
  refine V.cM ab 4 0 h wZ [1] U λm _ h=>?_;cases h;exact V.rx ab 21 1 i [0,0,0] ⟨U,U,U,U,U,U,U⟩
def EI(R:bg)(x0:ah):Option ah:=
 (au (g4 x0) λ(a:ah)=>(au (gz (a.1,a.2.1,a.2.2.1,x0.2.2.2.1,a.2.2.2.2.1,a.2.2.2.2.2.1,a.2.2.2.2.2.2.1,x0.2.2.2.2.2.2.2.1,a.2.2.2.2.2.2.2.2)) λ(E:Bool)=>(bif E then(au (g5 (a.1,a.2.1,a.2.2.1,x0.2.2.2.1,a.2.2.2.2.1,a.2.2.2.2.2.1,a.2.2.2.2.2.2.1,x0.2.2.2.2.2.2.2.1,a.2.2.2.2.2.2.2.2) ([120,10,100,111,32,120,10,100,111,110,101]:aa)) λ(F:ah)=>some F) else(au (vM (a.1,a.2.1,a.2.2.1,x0.2.2.2.1,a.2.2.2.2.1,a.2.2.2.2.2.1,a.2.2.2.2.2.2.1,x0.2.2.2.2.2.2.2.1,a.2.2.2.2.2.2.2.2)) λ(G:Bool)=>(bif G then(au (hy (a.1,a.2.1,a.2.2.1,x0.2.2.2.1,a.2.2.2.2.1,a.2.2.2.2.2.1,a.2.2.2.2.2.2.1,x0.2.2.2.2.2.2.2.1,a.2.2.2.2.2.2.2.2) a.2.1) λ(e:ah)=>some (e.1,e.2.1,e.2.2.1,x0.2.2.2.1,e.2.2.2.2.1,e.2.2.2.2.2.1,e.2.2.2.2.2.2.1,x0.2.2.2.2.2.2.2.1,e.2.2.2.2.2.2.2.2)) else(au (qe R (a.1,a.2.1,a.2.2.1,x0.2.2.2.1,a.2.2.2.2.1,a.2.2.2.2.2.1,a.2.2.2.2.2.2.1,x0.2.2.2.2.2.2.2.1,a.2.2.2.2.2.2.2.2)) λ(H,l,d)=>(cY ((bif(!(decide (d.2.2.2.2.1=0))) then true else(!l))=false) (Ai H) false λ(I:Bool)=>(bif(bif(bif(!(decide (d.2.2.2.2.1=0))) then true else(!l)) then true else(!I)) then(au (hy d a.2.1) λ(f:ah)=>some (f.1,f.2.1,f.2.2.1,d.2.2.2.1,f.2.2.2.2.1,f.2.2.2.2.2.1,f.2.2.2.2.2.2.1,d.2.2.2.2.2.2.2.1,f.2.2.2.2.2.2.2.2)) else(au (g4 d) λ(b:ah)=>(a8 (λ((m,n,o,p,i,q,r,s,t):ah)=>(bif(!(decide (i=0))) then(au (gA (m,n,o,p,i,q,r,s,t) ([]) ([10,100,111,32,120,10,100,111,110,101]:aa)) λ(J:ah)=>some J) else(au (oi (m,n,o,p,i,q,r,s,t)) λ(c:ah)=>(cY ((decide (c.2.2.2.2.1=0))=true) (gz c) false λ(u:Bool)=>(cY ((bif(decide (c.2.2.2.2.1=0)) then(!u) else false)=true) (lF c) [] λ(K:aa)=>(bif(bif(bif(decide (c.2.2.2.2.1=0)) then(!u) else false) then(!(decide (K=([100,111]:aa)))) else false) then(au (hy c c.2.1) λ(g:ah)=>some (g.1,g.2.1,g.2.2.1,c.2.2.2.1,g.2.2.2.2.1,g.2.2.2.2.2.1,g.2.2.2.2.2.2.1,c.2.2.2.2.2.2.2.1,g.2.2.2.2.2.2.2.2)) else(a8 (λ((v,w,x,y,j,z,A,B,C):ah)=>(bif(!(decide (j=0))) then(au (gA (v,w,x,y,j,z,A,B,C) ([]) ([10,100,111,32,120,10,100,111,110,101]:aa)) λ(L:ah)=>some L) else(au (pD R (v,(W (w+2)),x,y,j,z,A,B,C) ([([100,111,110,101]:aa)]:bl) ([10,100,111,110,101]:aa)) λ(T,M)=>some M))) λD=>(cY ((decide (c.2.2.2.2.1=0))=true) (gz c) false λ(N:Bool)=>(bif(bif(decide (c.2.2.2.2.1=0)) then N else false) then(au (g5 c ([])) λ(O:ah)=>D O) else D c))))))))) λk=>(au (hH (b.1,b.2.1,b.2.2.1,d.2.2.2.1,b.2.2.2.2.1,b.2.2.2.2.2.1,b.2.2.2.2.2.2.1,d.2.2.2.2.2.2.2.1,b.2.2.2.2.2.2.2.2)) λ(P:aa)=>(bif(decide (P=([59]:aa))) then k (b.1,(W (b.2.1+1)),b.2.2.1,d.2.2.2.1,b.2.2.2.2.1,b.2.2.2.2.2.1,b.2.2.2.2.2.2.1,d.2.2.2.2.2.2.2.1,b.2.2.2.2.2.2.2.2) else(au (oi (b.1,b.2.1,b.2.2.1,d.2.2.2.1,b.2.2.2.2.1,b.2.2.2.2.2.1,b.2.2.2.2.2.2.1,d.2.2.2.2.2.2.2.1,b.2.2.2.2.2.2.2.2)) λ(h:ah)=>(cY ((decide (h.2.2.2.2.1=0))=true) (lF h) [] λ(Q:aa)=>(bif(bif(decide (h.2.2.2.2.1=0)) then(decide (Q=([105,110]:aa))) else false) then(au (EH R (h.1,(W (h.2.1+2)),h.2.2)) λ(S:ah)=>k S) else k h)))))))))))))))
theorem ahW{R:bg}(a:h8 R){x0:ah}{a2:bI}{Q:bu}{r:ah}(h:EI R x0=some r):
  gL Tryz.prog 148 [.pointer a2] [] (eV a2 x0 Q) (λ_:bu=>True) (λq=> .tuple #[]) (λq=>eV a2 r q):=
 by
  refine V.jn (T:=cl) Tryz.call148 Tryz.func148 U λ_ _=>?_;unfold EI at h;refine V.bH ab 3 0 h og [0] [] U λn _ h=>?_;refine V.cM ab 5 0 h m9 [0] U λo _ h=>?_;refine V.co ab 1 0 h U (λh=>?_) (λh=>?_)
  ·refine V.bH ab 3 0 h pB [0,0,0] [] U λp f h=>?_;cases h;exact V.rx ab 1 0 f [0,0,0] U
  refine V.cM ab 13 0 h Lk [0] ⟨U,U,U,U⟩ λt _ h=>?_;refine V.co ab 1 0 h U (λh=>?_) (λh=>?_)
  ·refine V.bH ab 4 0 h pC [0] [] U λu _ h=>?_;cases h;exact V.rx ab 1 0 Q [0,0,0] U
  refine V.bH ab 4 0 h (EC a) [0,0,0] [] U ?_;rintro⟨v,w,x⟩ d h;refine V.ic ab 20 0 h WK [] ⟨U,U,U,U⟩ (λ_=>id) λy h=>?_;refine V.co ab 3 0 h U (λh=>?_) (λh=>?_)
  ·refine V.bH ab 4 0 h pC [0] [] U λz _ h=>?_;cases h;exact V.rx ab 1 0 d [0,0,0] U
  refine V.bH ab 4 0 h og [0] [] U λA _ h=>?_;refine V.e9 ab 1 0 h (ρ:=bu) (λs q=>[(0,.bj ⟨a2,1,1⟩ 0)]) .nil (λs q=>gM a2 s q) U ?_ ?_
  ·intro B _ h;refine V.cM ab 3 0 h oO [0] U λC _ h=>?_;refine V.co ab 2 0 h U (λh=>?_) (λh=>?_)
   ·exact V.a6 ab 10 0 h d [1,2,0] ⟨U,U,U,U,U,U,U⟩
   refine V.bH ab 3 0 h B_ [0,0,0] [] U λD g h=>?_;refine V.ic ab 10 0 h wZ [0] ⟨U,U,U,U⟩ (λ_=>id) λE h=>?_;refine V.co ab 3 0 h U (λh=>?_) (λh=>?_)
   ·refine V.bH ab 14 0 h (ahU a) [0,0,0] [] ⟨U,U,U,U,U,U,U⟩ λF i h=>?_;exact V.a6 ab 1 0 h i [1,2,0] U
   exact V.a6 ab 1 0 h g [1,2,0] U
  rintro⟨G,H,I,J,K,L,M,N,O⟩ P h;refine V.co ab 9 2 h ⟨U,U,U,U⟩ (λh=>?_) (λh=>?_)
  ·refine V.bH ab 3 0 h qR [2,0,0] [] U λS j h=>?_;cases h;exact V.rx ab 1 0 j [0,0,0] U
  refine V.bH ab 4 0 h B_ [2,0,0] [] U λW e h=>?_;refine V.ic ab 11 0 h m9 [0] ⟨U,U,U,U⟩ (λ_=>id) λX h=>?_;refine V.ic ab 4 0 h wZ [0] U (λ_=>id) λY h=>?_;refine V.co ab 3 0 h U (λh=>?_) (λh=>?_)
  ·refine V.bH ab 7 0 h pC [0] [] ⟨U,U,U,U⟩ λZ _ h=>?_;cases h;exact V.rx ab 1 0 e [0,0,0] U
  refine V.e9 ab 1 0 h (ρ:=bu) (λs q=>[(0,.bj ⟨a2,1,1⟩ 0)]) .nil (λs q=>gM a2 s q) U ?_ ?_
  ·intro QW _ h;refine V.ic ab 9 0 h m9 [0] ⟨U,U,U,U⟩ (λ_=>id) λm5 h=>?_;refine V.co ab 2 0 h U (λh=>?_) (λh=>?_)
   ·refine V.bH ab 2 0 h pB [0,0,0] [] U λyD k h=>?_;exact V.a6 ab 1 0 h k [1,2,0] U
   exact V.a6 ab 1 0 h e [1,2,0] U
  rintro⟨qT,yA,QU,oH,qQ,El,QV,rD,ru⟩ l h;refine V.co ab 9 2 h ⟨U,U,U,U⟩ (λh=>?_) (λh=>?_)
  ·refine V.bH ab 3 0 h qR [2,0,0] [] U λLw b h=>?_;cases h;exact V.rx ab 1 0 b [0,0,0] U
  refine V.go ab 15 2 ⟨U,U,U,U,U,U,U⟩ ?_;refine V.cj (aH.kj U (cL.buildSlice ab U U U U U U U U U U U [] U .str [([100,111,110,101]:aa)] ⟨U,U⟩ U U λm=>aH.kk (V.ct ?_)));refine V.cj (aH.freeze [0] U (V.ct ?_));refine V.bH ab 0 0 h (Cd a) [0,0,0] [0] U ?_;rintro⟨WT,Lx⟩ c h;cases h;exact V.jI ab 1 0 c [0,0,0] U
def H5(R:bg)(m:(aa×ah)->Option ah)(n:(aa×ah)->Option ah):(aa×ah)->Option ah:=λ(a,d,e,f,g,b,h,i,j,k)=>
 (bif(bif(decide (b=0)) then(decide (a=([101,108,105,102]:aa))) else false) then(a8 (λ((o,p,q,r,s,t,u,v,w,x):aa×ah)=>n (o,p,q,r,s,t,u,v,w,x)) λl=>(au (pD R (d,e,f,g,b,h,i,j,k) ([([116,104,101,110]:aa)]:bl) ([10,116,104,101,110,32,120,10,102,105]:aa)) λ(A,c)=>(bif(decide (c.2.2.2.2.1=0)) then(au (pD R c ([([101,108,105,102]:aa),([101,108,115,101]:aa),([102,105]:aa)]:bl) ([10,102,105]:aa)) λ(y,z)=>l (y,z)) else l (a,c)))) else m (a,d,e,f,g,b,h,i,j,k))
def Cf(R:bg)(x0:ah)(h:aa):Option ah:=
 (a8 (λ((s,t,u,v,w,x,y,z,A):ah)=>some (s,t,u,v,w,x,y,z,A)) λg=>(bif(decide (h=([123]:aa))) then(au (pD R x0 ([([125]:aa)]:bl) ([10,125]:aa)) λ(E,b)=>g (b.1,b.2.1,b.2.2.1,b.2.2.2.1,b.2.2.2.2.1,b.2.2.2.2.2.1,b.2.2.2.2.2.2.1,b.2.2.2.2.2.2.2.1,b.2.2.2.2.2.2.2.2)) else(a8 (λ(B:Bool)=>(bif B then(au (pD R x0 ([([100,111]:aa)]:bl) ([10,100,111,32,120,10,100,111,110,101]:aa)) λ(F,a)=>(bif(decide (a.2.2.2.2.1=0)) then(au (pD R a ([([100,111,110,101]:aa)]:bl) ([10,100,111,110,101]:aa)) λ(G,c)=>g (c.1,c.2.1,c.2.2.1,c.2.2.2.1,c.2.2.2.2.1,c.2.2.2.2.2.1,c.2.2.2.2.2.2.1,c.2.2.2.2.2.2.2.1,c.2.2.2.2.2.2.2.2)) else g (a.1,a.2.1,a.2.2.1,a.2.2.2.1,a.2.2.2.2.1,a.2.2.2.2.2.1,a.2.2.2.2.2.2.1,a.2.2.2.2.2.2.2.1,a.2.2.2.2.2.2.2.2))) else(bif(decide (h=([105,102]:aa))) then(a8 (λ((C,j,k,l,m,i,n,o,p,q):aa×ah)=>(bif(bif(decide (i=0)) then(decide (C=([101,108,115,101]:aa))) else false) then(au (pD R (j,k,l,m,i,n,o,p,q) ([([102,105]:aa)]:bl) ([10,102,105]:aa)) λ(H,d)=>g (d.1,d.2.1,d.2.2.1,d.2.2.2.1,d.2.2.2.2.1,d.2.2.2.2.2.1,d.2.2.2.2.2.2.1,d.2.2.2.2.2.2.2.1,d.2.2.2.2.2.2.2.2)) else g (j,k,l,m,i,n,o,p,q))) λD=>(fixF (H5 R D) bB (([101,108,105,102]:aa),x0.1,x0.2.1,x0.2.2.1,x0.2.2.2.1,x0.2.2.2.2.1,x0.2.2.2.2.2.1,x0.2.2.2.2.2.2.1,x0.2.2.2.2.2.2.2.1,x0.2.2.2.2.2.2.2.2))) else(bif(decide (h=([102,111,114]:aa))) then(au (EI R x0) λ(e:ah)=>g (e.1,e.2.1,e.2.2.1,e.2.2.2.1,e.2.2.2.2.1,e.2.2.2.2.2.1,e.2.2.2.2.2.2.1,e.2.2.2.2.2.2.2.1,e.2.2.2.2.2.2.2.2)) else(bif(decide (h=([99,97,115,101]:aa))) then(au (EG R x0) λ(f:ah)=>g (f.1,f.2.1,f.2.2.1,f.2.2.2.1,f.2.2.2.2.1,f.2.2.2.2.2.1,f.2.2.2.2.2.2.1,f.2.2.2.2.2.2.2.1,f.2.2.2.2.2.2.2.2)) else g (x0.1,x0.2.1,x0.2.2.1,x0.2.2.2.1,x0.2.2.2.2.1,x0.2.2.2.2.2.1,x0.2.2.2.2.2.2.1,x0.2.2.2.2.2.2.2.1,x0.2.2.2.2.2.2.2.2)))))) λr=>(bif(decide (h=([119,104,105,108,101]:aa))) then r (decide (h=([119,104,105,108,101]:aa))) else r (decide (h=([117,110,116,105,108]:aa)))))))
theorem ahZ{R:bg}(a:h8 R){x0:ah}{b:aa}{a3:bI}{Q:bu}{r:ah}(h:Cf R x0 b=some r):
  gL Tryz.prog 127 [.pointer a3,.string (a9 b)] [] (eV a3 x0 Q) (λ_:bu=>True) (λq=> .tuple #[]) (λq=>eV a3 r q):=
 by
  refine V.jn (T:=cl) Tryz.call127 Tryz.func127 U λ_ _=>?_;unfold Cf at h;refine V.da ab 4 0 h (ρ:=bu) (λs q=>[]) .nil (λs q=>gM a3 s q) U ?_ ?_
  ·intro x _ h;refine V.co ab 5 0 h U (λh=>?_) (λh=>?_)
   ·refine V.go ab 2 0 U ?_;refine V.cj (aH.kj U (cL.buildSlice ab U U U U U U U U U U U [] U .str [([125]:aa)] ⟨U,U⟩ U U λy=>aH.kk (V.ct ?_)));refine V.cj (aH.freeze [0] U (V.ct ?_));refine V.bH ab 0 0 h (Cd a) [0,0,0] [0] U ?_;rintro⟨z,A⟩ e h
    try dsimp only at h
    exact V.zH ab 2 0 h e [1,2,0] [] U
   refine V.e9 ab 0 0 h (ρ:=Unit) (λs q=>[(0,.bj ⟨a3,1,1⟩ 0),(5,.v (.string (a9 b))),(11,.v (.bool s))]) .nil (λs q=>eV a3 x0 Q) U ?_ ?_
   ·intro B _ h;refine V.co ab 5 0 h U (λh=>?_) (λh=>?_)
    ·exact V.a6 ab 1 0 h () [0,1,2] U
    exact V.a6 ab 4 0 h () [0,1,2] U
   rintro C _ h;refine V.co ab 0 0 h U (λh=>?_) (λh=>?_)
   ·refine V.go ab 3 0 U ?_;refine V.cj (aH.kj U (cL.buildSlice ab U U U U U U U U U U U [] U .str [([100,111]:aa)] ⟨U,U⟩ U U λD=>aH.kk (V.ct ?_)));refine V.cj (aH.freeze [0] U (V.ct ?_));refine V.bH ab 0 0 h (Cd a) [0,0,0] [0] U ?_;rintro⟨E,F⟩ f h;refine V.co ab 9 1 h ⟨U,U,U,U⟩ (λh=>?_) (λh=>?_)
    ·refine V.go ab 2 0 U ?_;refine V.cj (aH.kj U (cL.buildSlice ab U U U U U U U U U U U [] U .str [([100,111,110,101]:aa)] ⟨U,U⟩ U U λg=>aH.kk (V.ct ?_)));refine V.cj (aH.freeze [0] U (V.ct ?_));refine V.bH ab 0 0 h (Cd a) [0,0,0] [0] U ?_;rintro⟨G,H⟩ i h
     try dsimp only at h
     exact V.zH ab 2 0 h i [1,2,0] [] U
    exact V.zH ab 2 0 h f [1,2,0] [] U
   refine V.co ab 5 0 h U (λh=>?_) (λh=>?_)
   ·refine V.da ab 5 0 h (ρ:=bu) (λs q=>[(0,.bj ⟨a3,1,1⟩ 0),(4,.v (.string (a9 s.1)))]) .nil (λs q=>gM a3 s.2 q) U ?_ ?_
    ·intro I _ h;refine V.e_ ab 0 0 h (ρ:=bu) (λs q=>[(0,.bj ⟨a3,1,1⟩ 0),(4,.v (.string (a9 s.1)))]) .nil (λs q=>gM a3 s.2 q) Q [1,2,0] U ?_;rintro j ⟨J,K,L,M,N,O,P,S,W,X⟩ k h;rw[H5] at h;refine V.co ab 13 2 h ⟨U,U,U,U⟩ (λh=>?_) (λh=>?_)
     ·refine V.da ab 1 0 h (ρ:=bu) (λs q=>[(0,.bj ⟨a3,1,1⟩ 0),(4,.v (.string (a9 s.1)))]) .nil (λs q=>gM a3 s.2 q) U ?_ ?_
      ·intro Y _ h;refine V.go ab 3 0 U ?_;refine V.cj (aH.kj U (cL.buildSlice ab U U U U U U U U U U U [] U .str [([116,104,101,110]:aa)] ⟨U,U⟩ U U λl=>aH.kk (V.ct ?_)));refine V.cj (aH.freeze [0] U (V.ct ?_));refine V.bH ab 0 0 h (Cd a) [2,0,0] [0] U ?_;rintro⟨Z,hZ⟩ m h;refine V.co ab 9 1 h ⟨U,U,U,U⟩ (λh=>?_) (λh=>?_)
       ·refine V.go ab 2 0 U ?_;refine V.cj (aH.kj U (cL.buildSlice ab U U U U U U U U U U U [] U .str [([101,108,105,102]:aa),([101,108,115,101]:aa),([102,105]:aa)] ⟨U,U⟩ U U λn=>aH.kk (V.ct ?_)));refine V.cj (aH.freeze [0] U (V.ct ?_));refine V.bH ab 0 0 h (Cd a) [0,0,0] [0] U ?_;rintro⟨uo,m2⟩ o h
        try dsimp only at h
        exact V.zH ab 3 0 h o [1,2,0] [] U
       exact V.zH ab 2 0 h m [1,2,0] [] U
      rintro⟨jo,mj,jY,m3,l4,lS,rA,rv,pz,nu⟩ p h
      try dsimp only at h
      exact V.el ab 0 0 h p [0,1,2] U
     exact V.a6 ab 1 0 h k [0,1,2] U
    rintro⟨qc,pv,m4,px,py,Cg,uD,pw,qT,oH⟩ t h;refine V.co ab 12 2 h ⟨U,U,U,U⟩ (λh=>?_) (λh=>?_)
    ·refine V.go ab 2 0 U ?_;refine V.cj (aH.kj U (cL.buildSlice ab U U U U U U U U U U U [] U .str [([102,105]:aa)] ⟨U,U⟩ U U λu=>aH.kk (V.ct ?_)));refine V.cj (aH.freeze [0] U (V.ct ?_));refine V.bH ab 0 0 h (Cd a) [2,0,0] [0] U ?_;rintro⟨WW,uE⟩ v h
     try dsimp only at h
     exact V.zH ab 2 0 h v [1,2,0] [] U
    exact V.a6 ab 2 0 h t [0,1,2] U
   refine V.co ab 5 0 h U (λh=>?_) (λh=>?_)
   ·refine V.bH ab 2 0 h (ahW a) [0,0,0] [] U λkR w h=>?_;exact V.a6 ab 2 0 h w [1,2,0] U
   refine V.co ab 5 0 h U (λh=>?_) (λh=>?_)
   ·refine V.bH ab 2 0 h (ahQ a) [0,0,0] [] U λw5 c h=>?_;exact V.a6 ab 2 0 h c [1,2,0] U
   exact V.a6 ab 2 0 h Q [1,2,0] U
  rintro⟨tk,ur,HZ,H0,yC,EJ,WU,WV,Hd⟩ d h;cases h;exact V.jI ab 0 0 d [2,0,0] U
def Am(R:bg)(o:ah->Option ah)(p:ah->Option ah):ah->Option ah:=λ(c,d,e,f,a,g,h,i,j)=>
 (cY ((decide (a=0))=true) (gz (c,d,e,f,a,g,h,i,j)) false λ(l:Bool)=>(cY ((bif(decide (a=0)) then(!l) else false)=true) (hH (c,d,e,f,a,g,h,i,j)) [] λ(q:aa)=>(cY ((bif(decide (a=0)) then(!l) else false)=true) (vK q) false λ(m:Bool)=>(cY (m=false/\(bif(decide (a=0)) then(!l) else false)=true) (Ac (c,d,e,f,a,g,h,i,j)) false λ(r:Bool)=>(bif(bif(bif(decide (a=0)) then(!l) else false) then(bif m then true else r) else false) then(a8 (λ((s,t,u,v,w,x,y,z,A):ah)=>p (s,t,u,v,w,x,y,z,A)) λn=>(au (B9 R (c,d,e,f,a,g,h,i,j)) λ(k:ah)=>(bif(decide (k.2.2.2.2.1=0)) then(au (g4 k) λ(b:ah)=>n (b.1,b.2.1,b.2.2.1,k.2.2.2.1,b.2.2.2.2.1,b.2.2.2.2.2.1,b.2.2.2.2.2.2.1,k.2.2.2.2.2.2.2.1,b.2.2.2.2.2.2.2.2)) else n k))) else o (c,d,e,f,a,g,h,i,j))))))
def Ch(R:bg)(x0:ah):Option ah:=
 (au (g4 x0) λ(a:ah)=>(a8 (λ((b,c,d,e,f,g,h,i,j):ah)=>some (b,c,d,e,f,g,h,i,j)) λk=>(fixF (Am R k) bB (a.1,a.2.1,a.2.2.1,x0.2.2.2.1,a.2.2.2.2.1,a.2.2.2.2.2.1,a.2.2.2.2.2.2.1,x0.2.2.2.2.2.2.2.1,a.2.2.2.2.2.2.2.2))))
theorem ah2{R:bg}(d:h8 R){x0:ah}{a2:bI}{Q:bu}{r:ah}(h:Ch R x0=some r):
  gL Tryz.prog 128 [.pointer a2] [] (eV a2 x0 Q) (λ_:bu=>True) (λq=> .tuple #[]) (λq=>eV a2 r q):=
 by
  refine V.jn (T:=cl) Tryz.call128 Tryz.func128 U λ_ _=>?_;unfold Ch at h;refine V.bH ab 3 0 h og [0] [] U λi _ h=>?_;refine V.da ab 1 0 h (ρ:=bu) (λs q=>[]) .nil (λs q=>gM a2 s q) U ?_ ?_
  ·intro j _ h;refine V.e_ ab 0 0 h (ρ:=bu) (λs q=>[(0,.bj ⟨a2,1,1⟩ 0)]) .nil (λs q=>gM a2 s q) Q [1,2,0] U ?_;rintro k ⟨l,m,n,o,p,t,u,v,w⟩ e h;rw[Am] at h;refine V.ic ab 10 2 h m9 [2] ⟨U,U,U,U⟩ (λ_=>id) λx h=>?_;refine V.ic ab 4 0 h oO [2] U (λ_=>id) λy h=>?_;refine V.ic ab 0 0 h Lh [] U (λ_=>id) λz h=>?_;refine V.ic ab 2 0 h WE [2] U (λ_ F a f=>F ⟨a,f⟩) λA h=>?_;refine V.co ab 3 0 h U (λh=>?_) (λh=>?_)
   ·refine V.da ab 1 0 h (ρ:=bu) (λs q=>[(0,.bj ⟨a2,1,1⟩ 0)]) .nil (λs q=>gM a2 s q) U ?_ ?_
    ·intro B _ h;refine V.bH ab 3 0 h (WM d) [2,0,0] [] U λC c h=>?_;refine V.co ab 9 0 h ⟨U,U,U,U⟩ (λh=>?_) (λh=>?_)
     ·refine V.bH ab 2 0 h og [0] [] U λD _ h=>?_;exact V.a6 ab 2 0 h c [1,2,0] U
     exact V.a6 ab 2 0 h c [1,2,0] U
    rintro⟨E,G,H,I,J,K,L,M,N⟩ g h
    try dsimp only at h
    exact V.el ab 0 0 h g [0,1,2] U
   exact V.a6 ab 1 0 h e [0,1,2] U
  rintro⟨O,P,S,W,X,Y,Z,vx,yB⟩ b h;cases h;exact V.jI ab 0 0 b [2,0,0] U
def yF(R:bg)(x0:ah):Option ah:=
 (au (yy x0 x0.2.1) λ(f,a)=>(bif(!f) then some (a.1,a.2.1,a.2.2.1,x0.2.2.2.1,a.2.2.2.2.1,a.2.2.2.2.2.1,a.2.2.2.2.2.2.1,x0.2.2.2.2.2.2.2.1,a.2.2.2.2.2.2.2.2) else(a8 (λ((g,h,i,j,k,l,m,n,o,p):aa×ah)=>(au (gA (h,i,j,k,l,m,n,o,p) g ([])) λ(b:ah)=>(bif(decide (b.2.2.2.2.1=0)) then(au (Ch R (b.1,b.2.1,(W (b.2.2.1-1)),b.2.2.2)) λ(q:ah)=>some q) else some (b.1,b.2.1,(W (b.2.2.1-1)),b.2.2.2)))) λe=>(au (hH (a.1,a.2.1,a.2.2.1,x0.2.2.2.1,a.2.2.2.2.1,a.2.2.2.2.2.1,a.2.2.2.2.2.2.1,x0.2.2.2.2.2.2.2.1,a.2.2.2.2.2.2.2.2)) λ(r:aa)=>(bif(decide (r=([40]:aa))) then(au (R.nQ (a.1,(W (a.2.1+1)),a.2.2.1,x0.2.2.2.1,a.2.2.2.2.1,a.2.2.2.2.2.1,a.2.2.2.2.2.2.1,x0.2.2.2.2.2.2.2.1,a.2.2.2.2.2.2.2.2) ([41]:aa) ([]:bl) true) λ(u,s)=>(au (gA s ([]) ([41]:aa)) λ(c:ah)=>e (([40]:aa),c.1,(W (c.2.1+1)),c.2.2))) else(au (lF (a.1,a.2.1,a.2.2.1,x0.2.2.2.1,a.2.2.2.2.1,a.2.2.2.2.2.1,a.2.2.2.2.2.2.1,x0.2.2.2.2.2.2.2.1,a.2.2.2.2.2.2.2.2)) λ(d:aa)=>(au (Cf R (a.1,(W (a.2.1+(d.length:Int))),a.2.2.1,x0.2.2.2.1,a.2.2.2.2.1,a.2.2.2.2.2.1,a.2.2.2.2.2.2.1,x0.2.2.2.2.2.2.2.1,a.2.2.2.2.2.2.2.2) d) λ(t:ah)=>e (d,t))))))))
theorem WX{R:bg}(a:h8 R){x0:ah}{a2:bI}{Q:bu}{r:ah}(h:yF R x0=some r):
  gL Tryz.prog 98 [.pointer a2] [] (eV a2 x0 Q) (λ_:bu=>True) (λq=> .tuple #[]) (λq=>eV a2 r q):=
 by
  refine V.jn (T:=cl) Tryz.call98 Tryz.func98 U λ_ _=>?_;unfold yF at h;refine V.bH ab 8 0 h QQ [0] [] ⟨U,U,U,U⟩ ?_;rintro⟨f,g⟩ _ h;refine V.co ab 2 0 h U (λh=>?_) (λh=>?_)
  ·cases h;exact V.rx ab 0 0 Q [0,0,0] U
  refine V.e9 ab 5 0 h (ρ:=bu) (λs q=>[(0,.bj ⟨a2,1,1⟩ 0),(2,.v (.string (a9 s.1)))]) .nil (λs q=>gM a2 s.2 q) U ?_ ?_
  ·intro i _ h;refine V.cM ab 3 0 h oO [0] U λj _ h=>?_;refine V.co ab 2 0 h U (λh=>?_) (λh=>?_)
   ·refine V.go ab 14 0 ⟨U,U,U,U,U,U,U⟩ ?_;refine V.cj (aH.J9 .str bw.nil U U (V.ct ?_));refine V.bH ab 0 0 h a.nQ [0,0,0] [0] U ?_;rintro⟨k,l⟩ m h;refine V.bH ab 4 0 h qR [0,0,0] [] U λn b h=>?_;exact V.zH ab 11 1 h b [1,2,0] [] ⟨U,U,U,U,U,U,U⟩
   refine V.cM ab 3 0 h wZ [0] U λo _ h=>?_;refine V.bH ab 19 0 h (ahZ a) [0,0,0] [] ⟨U,U,U,U,U,U,U⟩ λp c h=>?_;exact V.a6 ab 1 0 h c [1,2,0] U
  rintro⟨t,u,v,w,x,y,z,A,B,C⟩ D h;refine V.bH ab 4 0 h qR [2,0,0] [] U λE d h=>?_;refine V.co ab 20 0 h ⟨U,U,U,U,U,U,U,U,U,U⟩ (λh=>?_) (λh=>?_)
  ·refine V.bH ab 2 0 h (ah2 a) [0,0,0] [] U λF e h=>?_;cases h;exact V.jI ab 1 0 e [0,0,0] U
  cases h;exact V.jI ab 1 0 d [0,0,0] U
def EK(R:bg)(x0:ah):Option ah:=
 (bif(decide (28<x0.2.2.1)) then(au (hy x0 x0.2.1) λ(c:ah)=>some (c.1,c.2.1,c.2.2.1,x0.2.2.2.1,c.2.2.2.2.1,c.2.2.2.2.2.1,c.2.2.2.2.2.2.1,x0.2.2.2.2.2.2.2.1,c.2.2.2.2.2.2.2.2)) else(au (g4 (x0.1,(W (x0.2.1+1)),(W (x0.2.2.1+1)),x0.2.2.2)) λ(a:ah)=>(a8 (λ((i,j,k,l,m,n,o,p,q):ah)=>(au (gA (i,j,k,l,m,n,o,p,q) ([102,40,41]:aa) ([])) λ(g:ah)=>some (g.1,g.2.1,(W (g.2.2.1-1)),g.2.2.2))) λf=>(au (gz (a.1,a.2.1,a.2.2.1,x0.2.2.2.1,a.2.2.2.2.1,a.2.2.2.2.2.1,a.2.2.2.2.2.2.1,x0.2.2.2.2.2.2.2.1,a.2.2.2.2.2.2.2.2)) λ(r:Bool)=>(bif r then(au (g5 (a.1,a.2.1,a.2.2.1,x0.2.2.2.1,a.2.2.2.2.1,a.2.2.2.2.2.1,a.2.2.2.2.2.2.1,x0.2.2.2.2.2.2.2.1,a.2.2.2.2.2.2.2.2) ([41,32,123,32,120,10,125]:aa)) λ(s:ah)=>f s) else(au (hH (a.1,a.2.1,a.2.2.1,x0.2.2.2.1,a.2.2.2.2.1,a.2.2.2.2.2.1,a.2.2.2.2.2.2.1,x0.2.2.2.2.2.2.2.1,a.2.2.2.2.2.2.2.2)) λ(t:aa)=>(bif(!(decide (t=([41]:aa)))) then(au (hy (a.1,a.2.1,a.2.2.1,x0.2.2.2.1,a.2.2.2.2.1,a.2.2.2.2.2.1,a.2.2.2.2.2.2.1,x0.2.2.2.2.2.2.2.1,a.2.2.2.2.2.2.2.2) a.2.1) λ(d:ah)=>f (d.1,d.2.1,d.2.2.1,x0.2.2.2.1,d.2.2.2.2.1,d.2.2.2.2.2.1,d.2.2.2.2.2.2.1,x0.2.2.2.2.2.2.2.1,d.2.2.2.2.2.2.2.2)) else(au (oi (a.1,(W (a.2.1+1)),a.2.2.1,x0.2.2.2.1,a.2.2.2.2.1,a.2.2.2.2.2.1,a.2.2.2.2.2.2.1,x0.2.2.2.2.2.2.2.1,a.2.2.2.2.2.2.2.2)) λ(b:ah)=>(bif(!(decide (b.2.2.2.2.1=0))) then(au (gA b ([]) ([123,32,120,10,125]:aa)) λ(u:ah)=>f u) else(au (gz b) λ(v:Bool)=>(bif v then(au (g5 b ([123,32,120,10,125]:aa)) λ(w:ah)=>f w) else(au (hH b) λ(h:aa)=>(cY ((decide (h=([40]:aa)))=false) (lF b) [] λ(x:aa)=>(cY ((decide (h=([40]:aa)))=false) (yu x) false λ(y:Bool)=>(bif(bif(decide (h=([40]:aa))) then true else y) then(au (yF R b) λ(z:ah)=>f z) else(au (hy b b.2.1) λ(e:ah)=>f (e.1,e.2.1,e.2.2.1,b.2.2.2.1,e.2.2.2.2.1,e.2.2.2.2.2.1,e.2.2.2.2.2.2.1,b.2.2.2.2.2.2.2.1,e.2.2.2.2.2.2.2.2)))))))))))))))))
theorem ah5{R:bg}(a:h8 R){x0:ah}{a2:bI}{Q:bu}{r:ah}(h:EK R x0=some r):
  gL Tryz.prog 129 [.pointer a2] [] (eV a2 x0 Q) (λ_:bu=>True) (λq=> .tuple #[]) (λq=>eV a2 r q):=
 by
  refine V.jn (T:=cl) Tryz.call129 Tryz.func129 U λ_ _=>?_;unfold EK at h;refine V.co ab 9 0 h ⟨U,U,U,U⟩ (λh=>?_) (λh=>?_)
  ·refine V.bH ab 7 0 h pC [0] [] ⟨U,U,U,U⟩ λi _ h=>?_;cases h;exact V.rx ab 1 0 Q [0,0,0] U
  refine V.bH ab 26 0 h og [0] [] ⟨U,U,U,U,U,U,U,U,U,U,U,U,U⟩ λj _ h=>?_;refine V.e9 ab 1 0 h (ρ:=bu) (λs q=>[(0,.bj ⟨a2,1,1⟩ 0)]) .nil (λs q=>gM a2 s q) U ?_ ?_
  ·intro k _ h;refine V.cM ab 3 0 h m9 [0] U λl _ h=>?_;refine V.co ab 1 0 h U (λh=>?_) (λh=>?_)
   ·refine V.bH ab 2 0 h pB [0,0,0] [] U λm b h=>?_;exact V.a6 ab 1 0 h b [1,2,0] U
   refine V.cM ab 3 0 h oO [0] U λn _ h=>?_;refine V.co ab 2 0 h U (λh=>?_) (λh=>?_)
   ·refine V.bH ab 6 0 h pC [0] [] ⟨U,U,U,U⟩ λo _ h=>?_;exact V.a6 ab 1 0 h Q [1,2,0] U
   refine V.bH ab 14 0 h B_ [0,0,0] [] ⟨U,U,U,U,U,U,U⟩ λp c h=>?_;refine V.co ab 9 0 h ⟨U,U,U,U⟩ (λh=>?_) (λh=>?_)
   ·refine V.bH ab 2 0 h qR [0,0,0] [] U λt d h=>?_;exact V.a6 ab 1 0 h d [1,2,0] U
   refine V.cM ab 3 0 h m9 [0] U λu _ h=>?_;refine V.co ab 1 0 h U (λh=>?_) (λh=>?_)
   ·refine V.bH ab 2 0 h pB [0,0,0] [] U λv e h=>?_;exact V.a6 ab 1 0 h e [1,2,0] U
   refine V.cM ab 3 0 h oO [0] U λw _ h=>?_;refine V.ic ab 3 0 h wZ [0] U (λ_=>id) λx h=>?_;refine V.ic ab 0 0 h WD [] U (λ_=>id) λy h=>?_;refine V.co ab 2 0 h U (λh=>?_) (λh=>?_)
   ·refine V.bH ab 2 0 h (WX a) [0,0,0] [] U λz f h=>?_;exact V.a6 ab 1 0 h f [1,2,0] U
   refine V.bH ab 6 0 h pC [0] [] ⟨U,U,U,U⟩ λA _ h=>?_;exact V.a6 ab 1 0 h c [1,2,0] U
  rintro⟨B,C,D,E,F,G,H,I,J⟩ K h;refine V.bH ab 3 0 h qR [2,0,0] [] U λL g h=>?_;cases h;exact V.jI ab 11 0 g [0,0,0] ⟨U,U,U,U,U,U,U⟩
def H6(R:bg)(v:ah->Option ah)(e:(Int×Int×Bool×ah)->Option ah):(Int×Int×Bool×ah)->Option ah:=λ(f,g,j,k,l,m,b,h,n,o,c,p)=>
 (bif(decide (h=0)) then(au (g4 (k,l,m,b,h,n,o,c,p)) λ(a:ah)=>(au (gz (a.1,a.2.1,a.2.2.1,b,a.2.2.2.2.1,a.2.2.2.2.2.1,a.2.2.2.2.2.2.1,c,a.2.2.2.2.2.2.2.2)) λ(q:Bool)=>(cY (q=false) (ig (a.1,a.2.1,a.2.2.1,b,a.2.2.2.2.1,a.2.2.2.2.2.1,a.2.2.2.2.2.2.1,c,a.2.2.2.2.2.2.2.2)) (0:UInt8) λ(w:UInt8)=>(bif(bif q then true else(decide ((w.toNat:Int)=(10:Int)))) then some (a.1,a.2.1,a.2.2.1,b,a.2.2.2.2.1,a.2.2.2.2.2.1,a.2.2.2.2.2.2.1,c,a.2.2.2.2.2.2.2.2) else(au (hH (a.1,a.2.1,a.2.2.1,b,a.2.2.2.2.1,a.2.2.2.2.2.1,a.2.2.2.2.2.2.1,c,a.2.2.2.2.2.2.2.2)) λ(i:aa)=>(a8 (λ((x,y,z,A,B,C,D,E,F,G,H,I):Int×Int×Bool×ah)=>e (x,y,z,A,B,C,D,E,F,G,H,I)) λr=>(bif(decide (i=([40]:aa))) then(a8 (λ((J,K,L,M,N,O,P,Q,S):ah)=>some (J,K,L,M,N,O,P,Q,S)) λs=>(bif(bif(bif(decide (f=1)) then(decide (g=0)) else false) then j else false) then(au (EK R (a.1,a.2.1,a.2.2.1,b,a.2.2.2.2.1,a.2.2.2.2.2.1,a.2.2.2.2.2.2.1,c,a.2.2.2.2.2.2.2.2)) λ(T:ah)=>s T) else(au (hy (a.1,a.2.1,a.2.2.1,b,a.2.2.2.2.1,a.2.2.2.2.2.1,a.2.2.2.2.2.2.1,c,a.2.2.2.2.2.2.2.2) a.2.1) λ(d:ah)=>s (d.1,d.2.1,d.2.2.1,b,d.2.2.2.2.1,d.2.2.2.2.2.1,d.2.2.2.2.2.2.1,c,d.2.2.2.2.2.2.2.2)))) else(au (vK i) λ(t:Bool)=>(cY (t=false) (Ac (a.1,a.2.1,a.2.2.1,b,a.2.2.2.2.1,a.2.2.2.2.2.1,a.2.2.2.2.2.2.1,c,a.2.2.2.2.2.2.2.2)) false λ(U:Bool)=>(bif(bif t then true else U) then(au (B9 R (a.1,a.2.1,a.2.2.1,b,a.2.2.2.2.1,a.2.2.2.2.2.1,a.2.2.2.2.2.2.1,c,a.2.2.2.2.2.2.2.2)) λ(V:ah)=>r (f,(W (g+1)),j,V)) else(bif(!(decide (i=[]))) then some (a.1,a.2.1,a.2.2.1,b,a.2.2.2.2.1,a.2.2.2.2.2.1,a.2.2.2.2.2.2.1,c,a.2.2.2.2.2.2.2.2) else(au (qe R (a.1,a.2.1,a.2.2.1,b,a.2.2.2.2.1,a.2.2.2.2.2.1,a.2.2.2.2.2.2.1,c,a.2.2.2.2.2.2.2.2)) λ(X,u,Y)=>(cY (u=true) (Ai X) false λ(Z:Bool)=>r ((W (f+1)),g,(bif u then Z else false),Y)))))))))))))) else v (k,l,m,b,h,n,o,c,p))
def Q2(R:bg)(x0:ah):Option ah:=
 (a8 (λ((a,b,c,d,e,f,g,h,i):ah)=>some (a,b,c,d,e,f,g,h,i)) λj=>(fixF (H6 R j) bB (0,0,false,x0.1,x0.2.1,x0.2.2.1,x0.2.2.2.1,x0.2.2.2.2.1,x0.2.2.2.2.2.1,x0.2.2.2.2.2.2.1,x0.2.2.2.2.2.2.2.1,x0.2.2.2.2.2.2.2.2)))
theorem ah7{R:bg}(b:h8 R){x0:ah}{a2:bI}{Q:bu}{r:ah}(h:Q2 R x0=some r):
  gL Tryz.prog 101 [.pointer a2] [] (eV a2 x0 Q) (λ_:bu=>True) (λq=> .tuple #[]) (λq=>eV a2 r q):=
 by
  refine V.jn (T:=cl) Tryz.call101 Tryz.func101 U λ_ _=>?_;unfold Q2 at h;refine V.da ab 12 0 h (ρ:=bu) (λs q=>[]) .nil (λs q=>gM a2 s q) U ?_ ?_
  ·intro k _ h;refine V.e_ ab 0 0 h (ρ:=bu) (λs q=>[(0,.bj ⟨a2,1,1⟩ 0),(2,.v (.int .i64 s.1)),(3,.v (.int .i64 s.2.1)),(4,.v (.bool s.2.2.1))]) .nil (λs q=>gM a2 s.2.2.2 q) Q [1,2,0] U ?_;rintro e ⟨l,m,n,o,p,t,u,v,w,x,y,z⟩ a h;rw[H6] at h;refine V.co ab 9 2 h ⟨U,U,U,U⟩ (λh=>?_) (λh=>?_)
   ·refine V.bH ab 5 0 h og [2] [] U λA _ h=>?_;refine V.cM ab 5 0 h m9 [0] U λB _ h=>?_;refine V.ic ab 2 0 h oh [0] U (λ_=>id) λC h=>?_;refine V.co ab 3 0 h U (λh=>?_) (λh=>?_)
    ·cases h;exact V.rx ab 0 0 a [0,0,0] U
    refine V.cM ab 4 0 h oO [0] U λD _ h=>?_;refine V.da ab 2 0 h (ρ:=bu) (λs q=>[(0,.bj ⟨a2,1,1⟩ 0),(2,.v (.int .i64 s.1)),(3,.v (.int .i64 s.2.1)),(4,.v (.bool s.2.2.1))]) .nil (λs q=>gM a2 s.2.2.2 q) U ?_ ?_
    ·intro E _ h;refine V.co ab 6 0 h U (λh=>?_) (λh=>?_)
     ·refine V.e9 ab 0 0 h (ρ:=bu) (λs q=>[]) .nil (λs q=>gM a2 s q) U ?_ ?_
      ·intro F _ h;refine V.co ab 12 0 h U (λh=>?_) (λh=>?_)
       ·refine V.bH ab 2 0 h (ah5 b) [0,0,0] [] U λG f h=>?_;exact V.a6 ab 1 0 h f [1,2,0] U
       refine V.bH ab 6 0 h pC [0] [] ⟨U,U,U,U⟩ λH _ h=>?_;exact V.a6 ab 1 0 h a [1,2,0] U
      rintro⟨I,J,K,L,M,N,O,P,S⟩ g h;cases h;exact V.rx ab 0 0 g [2,0,0] U
     refine V.cM ab 3 0 h Lh [] U λW _ h=>?_;refine V.ic ab 2 0 h WE [0] U (λ_=>id) λX h=>?_;refine V.co ab 3 0 h U (λh=>?_) (λh=>?_)
     ·refine V.bH ab 3 0 h (WM b) [0,0,0] [] U λY i h=>?_;exact V.a6 ab 7 0 h i [1,2,0] U
     refine V.co ab 6 0 h U (λh=>?_) (λh=>?_)
     ·cases h;exact V.rx ab 0 0 a [0,0,0] U
     refine V.bH ab 3 0 h (EC b) [0,0,0] [] U ?_;rintro⟨Z,iJ,nV⟩ j h;refine V.ic ab 11 0 h WK [] U (λ_=>id) λko h=>?_
     try dsimp only at h
     exact V.a6 ab 9 0 h j [1,2,0] U
    rintro⟨nu,ry,yB,um,se,vF,uB,iL,vL,qc,pv,py⟩ c h
    try dsimp only at h
    exact V.el ab 1 0 h c [0,1,2] U
   exact V.a6 ab 1 0 h a [0,1,2] U
  rintro⟨zY,H7,WY,WZ,qJ,Af,EA,yo,oL⟩ d h;cases h;exact V.jI ab 0 0 d [2,0,0] U
def sq(R:bg)(x0:ah):Option ah:=
 (au (g4 x0) λ(a:ah)=>(au (gz (a.1,a.2.1,a.2.2.1,x0.2.2.2.1,a.2.2.2.2.1,a.2.2.2.2.2.1,a.2.2.2.2.2.2.1,x0.2.2.2.2.2.2.2.1,a.2.2.2.2.2.2.2.2)) λ(g:Bool)=>(bif g then(au (g5 (a.1,a.2.1,a.2.2.1,x0.2.2.2.1,a.2.2.2.2.1,a.2.2.2.2.2.1,a.2.2.2.2.2.2.1,x0.2.2.2.2.2.2.2.1,a.2.2.2.2.2.2.2.2) ([120]:aa)) λ(h:ah)=>some h) else(au (hH (a.1,a.2.1,a.2.2.1,x0.2.2.2.1,a.2.2.2.2.1,a.2.2.2.2.2.1,a.2.2.2.2.2.2.1,x0.2.2.2.2.2.2.2.1,a.2.2.2.2.2.2.2.2)) λ(c:aa)=>(au (lF (a.1,a.2.1,a.2.2.1,x0.2.2.2.1,a.2.2.2.2.1,a.2.2.2.2.2.1,a.2.2.2.2.2.2.1,x0.2.2.2.2.2.2.2.1,a.2.2.2.2.2.2.2.2)) λ(y23:aa)=>(a8 (λ((i,j,k,l,m,n,o,p,q):ah)=>some (i,j,k,l,m,n,o,p,q)) λd=>(cY ((decide (c=([40]:aa)))=false) (yu y23) false λ(r:Bool)=>(bif(bif(decide (c=([40]:aa))) then true else r) then(au (yF R (a.1,a.2.1,a.2.2.1,x0.2.2.2.1,a.2.2.2.2.1,a.2.2.2.2.2.1,a.2.2.2.2.2.2.1,x0.2.2.2.2.2.2.2.1,a.2.2.2.2.2.2.2.2)) λ(s:ah)=>d s) else(au (ig (a.1,a.2.1,a.2.2.1,x0.2.2.2.1,a.2.2.2.2.1,a.2.2.2.2.2.1,a.2.2.2.2.2.2.1,x0.2.2.2.2.2.2.2.1,a.2.2.2.2.2.2.2.2)) λ(e:UInt8)=>(cY ((!(decide (c=[])))=true/\(decide ((e.toNat:Int)=(10:Int)))=false) (vK c) false λ(f:Bool)=>(cY ((bif(decide ((e.toNat:Int)=(10:Int))) then true else(bif(!(decide (c=[]))) then(!f) else false))=false) (Ev y23) false λ(t:Bool)=>(bif(bif(bif(decide ((e.toNat:Int)=(10:Int))) then true else(bif(!(decide (c=[]))) then(!f) else false)) then true else t) then(au (hy (a.1,a.2.1,a.2.2.1,x0.2.2.2.1,a.2.2.2.2.1,a.2.2.2.2.2.1,a.2.2.2.2.2.2.1,x0.2.2.2.2.2.2.2.1,a.2.2.2.2.2.2.2.2) a.2.1) λ(b:ah)=>d (b.1,b.2.1,b.2.2.1,x0.2.2.2.1,b.2.2.2.2.1,b.2.2.2.2.2.1,b.2.2.2.2.2.2.1,x0.2.2.2.2.2.2.2.1,b.2.2.2.2.2.2.2.2)) else(au (Q2 R (a.1,a.2.1,a.2.2.1,x0.2.2.2.1,a.2.2.2.2.1,a.2.2.2.2.2.1,a.2.2.2.2.2.2.1,x0.2.2.2.2.2.2.2.1,a.2.2.2.2.2.2.2.2)) λ(u:ah)=>d u)))))))))))))
theorem W0{R:bg}(a:h8 R){x0:ah}{a2:bI}{Q:bu}{r:ah}(h:sq R x0=some r):
  gL Tryz.prog 80 [.pointer a2] [] (eV a2 x0 Q) (λ_:bu=>True) (λq=> .tuple #[]) (λq=>eV a2 r q):=
 by
  refine V.jn (T:=cl) Tryz.call80 Tryz.func80 U λ_ _=>?_;unfold sq at h;refine V.bH ab 3 0 h og [0] [] U λi _ h=>?_;refine V.cM ab 5 0 h m9 [0] U λj _ h=>?_;refine V.co ab 1 0 h U (λh=>?_) (λh=>?_)
  ·refine V.bH ab 3 0 h pB [0,0,0] [] U λk b h=>?_;cases h;exact V.rx ab 1 0 b [0,0,0] U
  refine V.cM ab 4 0 h oO [0] U λl _ h=>?_;refine V.cM ab 5 0 h wZ [0] U λy23 _ h=>?_;refine V.da ab 2 0 h (ρ:=bu) (λs q=>[]) .nil (λs q=>gM a2 s q) U ?_ ?_
  ·intro m _ h;refine V.ic ab 6 0 h WD [] U (λ_=>id) λn h=>?_;refine V.co ab 3 0 h U (λh=>?_) (λh=>?_)
   ·refine V.bH ab 2 0 h (WX a) [0,0,0] [] U λo c h=>?_;exact V.a6 ab 2 0 h c [1,2,0] U
   refine V.cM ab 3 0 h oh [0] U λp _ h=>?_;refine V.ic ab 6 0 h Lh [] U (λ_ F d e=>F ⟨d,e⟩) λt h=>?_;refine V.ic ab 5 0 h ahh [] U (λ_=>id) λu h=>?_;refine V.co ab 3 0 h U (λh=>?_) (λh=>?_)
   ·refine V.bH ab 6 0 h pC [0] [] ⟨U,U,U,U⟩ λv _ h=>?_;exact V.a6 ab 2 0 h Q [1,2,0] U
   refine V.bH ab 2 0 h (ah7 a) [0,0,0] [] U λw f h=>?_;exact V.a6 ab 2 0 h f [1,2,0] U
  rintro⟨x,y,z,A,B,C,D,E,G⟩ g h;cases h;exact V.jI ab 0 0 g [2,0,0] U
def W1(R:bg)(l:ah->Option ah)(m:ah->Option ah):ah->Option ah:=λ(f,g,h,b,d,i,j,c,k)=>
 (bif(decide (d=0)) then(au (g4 (f,g,h,b,d,i,j,c,k)) λ(a:ah)=>(au (hH (a.1,a.2.1,a.2.2.1,b,a.2.2.2.2.1,a.2.2.2.2.2.1,a.2.2.2.2.2.2.1,c,a.2.2.2.2.2.2.2.2)) λ(n:aa)=>(bif(!(decide (n=([124]:aa)))) then some (a.1,a.2.1,a.2.2.1,b,a.2.2.2.2.1,a.2.2.2.2.2.1,a.2.2.2.2.2.2.1,c,a.2.2.2.2.2.2.2.2) else(au (oi (a.1,(W (a.2.1+1)),a.2.2.1,b,a.2.2.2.2.1,a.2.2.2.2.2.1,a.2.2.2.2.2.2.1,c,a.2.2.2.2.2.2.2.2)) λ(e:ah)=>(bif(!(decide (e.2.2.2.2.1=0))) then(au (gA e ([]) ([120]:aa)) λ(o:ah)=>some o) else(au (sq R e) λ(p:ah)=>m p)))))) else l (f,g,h,b,d,i,j,c,k))
def w6(R:bg)(x0:ah):Option ah:=
 (au (g4 x0) λ(a:ah)=>(a8 (λ(d:Int)=>(au (sq R (a.1,d,a.2.2.1,x0.2.2.2.1,a.2.2.2.2.1,a.2.2.2.2.2.1,a.2.2.2.2.2.2.1,x0.2.2.2.2.2.2.2.1,a.2.2.2.2.2.2.2.2)) λ(b:ah)=>(a8 (λ((e,f,g,h,i,j,k,l,m):ah)=>some (e,f,g,h,i,j,k,l,m)) λn=>(fixF (W1 R n) bB (b.1,b.2.1,b.2.2.1,b.2.2.2.1,b.2.2.2.2.1,b.2.2.2.2.2.1,b.2.2.2.2.2.2.1,b.2.2.2.2.2.2.2.1,b.2.2.2.2.2.2.2.2))))) λc=>(au (lF (a.1,a.2.1,a.2.2.1,x0.2.2.2.1,a.2.2.2.2.1,a.2.2.2.2.2.1,a.2.2.2.2.2.2.1,x0.2.2.2.2.2.2.2.1,a.2.2.2.2.2.2.2.2)) λ(o:aa)=>(bif(decide (o=([33]:aa))) then c (W (a.2.1+1)) else c a.2.1))))
theorem W2{R:bg}(b:h8 R){x0:ah}{a2:bI}{Q:bu}{r:ah}(h:w6 R x0=some r):
  gL Tryz.prog 68 [.pointer a2] [] (eV a2 x0 Q) (λ_:bu=>True) (λq=> .tuple #[]) (λq=>eV a2 r q):=
 by
  refine V.jn (T:=cl) Tryz.call68 Tryz.func68 U λ_ _=>?_;unfold w6 at h;refine V.bH ab 3 0 h og [0] [] U λa _ h=>?_;refine V.e9 ab 1 0 h (ρ:=Unit) (λs q=>[(0,.bj ⟨a2,1,1⟩ 0)]) .nil (λs q=>eV a2 (a.1,s,a.2.2.1,x0.2.2.2.1,a.2.2.2.2.1,a.2.2.2.2.2.1,a.2.2.2.2.2.2.1,x0.2.2.2.2.2.2.2.1,a.2.2.2.2.2.2.2.2) Q) U ?_ ?_
  ·intro i _ h;refine V.cM ab 3 0 h wZ [0] U λj _ h=>?_;refine V.co ab 2 0 h U (λh=>?_) (λh=>?_)
   ·exact V.a6 ab 10 0 h () [0,1,2] ⟨U,U,U,U,U,U,U⟩
   exact V.a6 ab 1 0 h () [0,1,2] U
  rintro k _ h;refine V.bH ab 3 0 h (W0 b) [0,0,0] [] U λl d h=>?_;refine V.da ab 1 0 h (ρ:=bu) (λs q=>[]) .nil (λs q=>gM a2 s q) U ?_ ?_
  ·intro m _ h;refine V.e_ ab 0 0 h (ρ:=bu) (λs q=>[(0,.bj ⟨a2,1,1⟩ 0)]) .nil (λs q=>gM a2 s q) d [1,2,0] U ?_;rintro n ⟨o,p,t,u,v,w,x,y,z⟩ c h;rw[W1] at h;refine V.co ab 9 2 h ⟨U,U,U,U⟩ (λh=>?_) (λh=>?_)
   ·refine V.bH ab 5 0 h og [2] [] U λA _ h=>?_;refine V.cM ab 5 0 h oO [0] U λB _ h=>?_;refine V.co ab 2 0 h U (λh=>?_) (λh=>?_)
    ·cases h;exact V.rx ab 0 0 c [0,0,0] U
    refine V.bH ab 15 0 h B_ [0,0,0] [] ⟨U,U,U,U,U,U,U⟩ λC D h=>?_;refine V.co ab 10 0 h ⟨U,U,U,U⟩ (λh=>?_) (λh=>?_)
    ·refine V.bH ab 3 0 h qR [0,0,0] [] U λE e h=>?_;cases h;exact V.rx ab 1 0 e [0,0,0] U
    refine V.bH ab 3 0 h (W0 b) [0,0,0] [] U λF f h=>?_;exact V.el ab 2 0 h f [1,2,0] U
   exact V.a6 ab 1 0 h c [0,1,2] U
  rintro⟨G,H,I,J,K,L,M,N,O⟩ g h;cases h;exact V.jI ab 0 0 g [2,0,0] U
def W3(R:bg)(m:ah->Option ah)(n:ah->Option ah):ah->Option ah:=λ(f,g,h,b,d,i,j,c,k)=>
 (bif(decide (d=0)) then(au (g4 (f,g,h,b,d,i,j,c,k)) λ(a:ah)=>(au (hH (a.1,a.2.1,a.2.2.1,b,a.2.2.2.2.1,a.2.2.2.2.2.1,a.2.2.2.2.2.2.1,c,a.2.2.2.2.2.2.2.2)) λ(l:aa)=>(bif(bif(!(decide (l=([38,38]:aa)))) then(!(decide (l=([124,124]:aa)))) else false) then some (a.1,a.2.1,a.2.2.1,b,a.2.2.2.2.1,a.2.2.2.2.2.1,a.2.2.2.2.2.2.1,c,a.2.2.2.2.2.2.2.2) else(au (oi (a.1,(W (a.2.1+2)),a.2.2.1,b,a.2.2.2.2.1,a.2.2.2.2.2.1,a.2.2.2.2.2.2.1,c,a.2.2.2.2.2.2.2.2)) λ(e:ah)=>(bif(!(decide (e.2.2.2.2.1=0))) then(au (gA e ([]) ([120]:aa)) λ(o:ah)=>some o) else(au (w6 R e) λ(p:ah)=>n p)))))) else m (f,g,h,b,d,i,j,c,k))
def EM(R:bg)(x0:ah):Option ah:=
 (au (w6 R x0) λ(a:ah)=>(a8 (λ((b,c,d,e,f,g,h,i,j):ah)=>some (b,c,d,e,f,g,h,i,j)) λk=>(fixF (W3 R k) bB (a.1,a.2.1,a.2.2.1,a.2.2.2.1,a.2.2.2.2.1,a.2.2.2.2.2.1,a.2.2.2.2.2.2.1,a.2.2.2.2.2.2.2.1,a.2.2.2.2.2.2.2.2))))
theorem ah_{R:bg}(a:h8 R){x0:ah}{a2:bI}{Q:bu}{r:ah}(h:EM R x0=some r):
  gL Tryz.prog 51 [.pointer a2] [] (eV a2 x0 Q) (λ_:bu=>True) (λq=> .tuple #[]) (λq=>eV a2 r q):=
 by
  refine V.jn (T:=cl) Tryz.call51 Tryz.func51 U λ_ _=>?_;unfold EM at h;refine V.bH ab 3 0 h (W2 a) [0,0,0] [] U λg c h=>?_;refine V.da ab 1 0 h (ρ:=bu) (λs q=>[]) .nil (λs q=>gM a2 s q) U ?_ ?_
  ·intro i _ h;refine V.e_ ab 0 0 h (ρ:=bu) (λs q=>[(0,.bj ⟨a2,1,1⟩ 0)]) .nil (λs q=>gM a2 s q) c [1,2,0] U ?_;rintro j ⟨k,l,m,n,o,p,t,u,v⟩ b h;rw[W3] at h;refine V.co ab 9 2 h ⟨U,U,U,U⟩ (λh=>?_) (λh=>?_)
   ·refine V.bH ab 5 0 h og [2] [] U λw _ h=>?_;refine V.cM ab 4 0 h oO [0] U λx _ h=>?_;refine V.co ab 12 0 h U (λh=>?_) (λh=>?_)
    ·cases h;exact V.rx ab 0 0 b [0,0,0] U
    refine V.bH ab 16 0 h B_ [0,0,0] [] ⟨U,U,U,U,U,U,U⟩ λy z h=>?_;refine V.co ab 10 0 h ⟨U,U,U,U⟩ (λh=>?_) (λh=>?_)
    ·refine V.bH ab 3 0 h qR [0,0,0] [] U λA d h=>?_;cases h;exact V.rx ab 1 0 d [0,0,0] U
    refine V.bH ab 3 0 h (W2 a) [0,0,0] [] U λB e h=>?_;exact V.el ab 2 0 h e [1,2,0] U
   exact V.a6 ab 1 0 h b [0,1,2] U
  rintro⟨C,D,E,F,G,H,I,J,K⟩ f h;cases h;exact V.jI ab 0 0 f [2,0,0] U
def An(R:bg)(g:aa)(x:bl)(l:Bool)(m:(Int×ah)->Option (Int×ah))(y:(Int×ah)->Option (Int×ah)):(Int×ah)->Option (Int×ah):=λ(d,n,o,p,e,i,q,r,f,s)=>
 (bif(decide (i=0)) then(a8 (λ((z,A,B,C,D,E,F,G,H,I):Int×ah)=>y (z,A,B,C,D,E,F,G,H,I)) λj=>(au (g4 (n,o,p,e,i,q,r,f,s)) λ(a:ah)=>(au (gz (a.1,a.2.1,a.2.2.1,e,a.2.2.2.2.1,a.2.2.2.2.2.1,a.2.2.2.2.2.2.1,f,a.2.2.2.2.2.2.2.2)) λ(J:Bool)=>(bif J then(a8 (λ((K,L,M,N,O,P,Q,S,T):ah)=>m (d,K,L,M,N,O,P,Q,S,T)) λt=>(bif(!(decide (g=[]))) then(au (g5 (a.1,a.2.1,a.2.2.1,e,a.2.2.2.2.1,a.2.2.2.2.2.1,a.2.2.2.2.2.2.1,f,a.2.2.2.2.2.2.2.2) ([])) λ(U:ah)=>t U) else t (a.1,a.2.1,a.2.2.1,e,a.2.2.2.2.1,a.2.2.2.2.2.1,a.2.2.2.2.2.2.1,f,a.2.2.2.2.2.2.2.2))) else(au (ig (a.1,a.2.1,a.2.2.1,e,a.2.2.2.2.1,a.2.2.2.2.2.1,a.2.2.2.2.2.2.1,f,a.2.2.2.2.2.2.2.2)) λ(V:UInt8)=>(bif(decide ((V.toNat:Int)=(10:Int))) then(au (Aa (a.1,a.2.1,a.2.2.1,e,a.2.2.2.2.1,a.2.2.2.2.2.1,a.2.2.2.2.2.2.1,f,a.2.2.2.2.2.2.2.2)) λ(X:ah)=>j (d,X)) else(au (hH (a.1,a.2.1,a.2.2.1,e,a.2.2.2.2.1,a.2.2.2.2.2.1,a.2.2.2.2.2.2.1,f,a.2.2.2.2.2.2.2.2)) λ(u:aa)=>(au (lF (a.1,a.2.1,a.2.2.1,e,a.2.2.2.2.1,a.2.2.2.2.2.1,a.2.2.2.2.2.2.1,f,a.2.2.2.2.2.2.2.2)) λ(v:aa)=>(cY ((decide (0<d))=true/\(bif(bif(decide (u=g)) then(!(decide (g=[]))) else false) then(bif(decide (0<d)) then true else(!l)) else false)=false) (yt v x) false λ(Y:Bool)=>(bif(bif(bif(bif(bif(decide (u=g)) then(!(decide (g=[]))) else false) then(bif(decide (0<d)) then true else(!l)) else false) then true else(bif(decide (0<d)) then Y else false)) then true else(bif(decide (g=([59,59]:aa))) then(decide (v=([101,115,97,99]:aa))) else false)) then some (d,(a.1,a.2.1,a.2.2.1,e,a.2.2.2.2.1,a.2.2.2.2.2.1,a.2.2.2.2.2.2.1,f,a.2.2.2.2.2.2.2.2)) else(au (EM R (a.1,a.2.1,a.2.2.1,e,a.2.2.2.2.1,a.2.2.2.2.2.1,a.2.2.2.2.2.2.1,f,a.2.2.2.2.2.2.2.2)) λ(c:ah)=>(bif(!(decide (c.2.2.2.2.1=0))) then some ((W (d+1)),c) else(au (g4 c) λ(b:ah)=>(au (hH (b.1,b.2.1,b.2.2.1,c.2.2.2.1,b.2.2.2.2.1,b.2.2.2.2.2.1,b.2.2.2.2.2.2.1,c.2.2.2.2.2.2.2.1,b.2.2.2.2.2.2.2.2)) λ(k:aa)=>(au (gz (b.1,b.2.1,b.2.2.1,c.2.2.2.1,b.2.2.2.2.1,b.2.2.2.2.2.1,b.2.2.2.2.2.2.1,c.2.2.2.2.2.2.2.1,b.2.2.2.2.2.2.2.2)) λ(w:Bool)=>(cY (w=false) (ig (b.1,b.2.1,b.2.2.1,c.2.2.2.1,b.2.2.2.2.1,b.2.2.2.2.2.1,b.2.2.2.2.2.2.1,c.2.2.2.2.2.2.2.1,b.2.2.2.2.2.2.2.2)) (0:UInt8) λ(Z:UInt8)=>(bif(bif(bif w then true else(decide ((Z.toNat:Int)=(10:Int)))) then true else(bif(decide (k=g)) then(!(decide (g=[]))) else false)) then j ((W (d+1)),b.1,b.2.1,b.2.2.1,c.2.2.2.1,b.2.2.2.2.1,b.2.2.2.2.2.1,b.2.2.2.2.2.2.1,c.2.2.2.2.2.2.2.1,b.2.2.2.2.2.2.2.2) else(bif(bif(!(decide (k=([59]:aa)))) then(!(decide (k=([38]:aa)))) else false) then(au (hy (b.1,b.2.1,b.2.2.1,c.2.2.2.1,b.2.2.2.2.1,b.2.2.2.2.2.1,b.2.2.2.2.2.2.1,c.2.2.2.2.2.2.2.1,b.2.2.2.2.2.2.2.2) b.2.1) λ(h:ah)=>some ((W (d+1)),(h.1,h.2.1,h.2.2.1,c.2.2.2.1,h.2.2.2.2.1,h.2.2.2.2.2.1,h.2.2.2.2.2.2.1,c.2.2.2.2.2.2.2.1,h.2.2.2.2.2.2.2.2))) else j ((W (d+1)),b.1,(W (b.2.1+1)),b.2.2.1,c.2.2.2.1,b.2.2.2.2.1,b.2.2.2.2.2.1,b.2.2.2.2.2.2.1,c.2.2.2.2.2.2.2.1,b.2.2.2.2.2.2.2.2))))))))))))))))))) else m (d,n,o,p,e,i,q,r,f,s))
def EN(R:bg)(x0:ah)(n:aa)(o:bl)(b:Bool):Option (Int×ah):=
 (a8 (λ((c,d,e,f,g,h,i,j,k,l):Int×ah)=>(a8 (λ((p,q,r,s,t,u,v,w,x):ah)=>some (c,(p,q,r,s,t,u,v,w,x))) λm=>(bif(bif b then(decide (c=0)) else false) then(au (gA (d,e,f,g,h,i,j,k,l) ([]) ([120]:aa)) λ(a:ah)=>m (a.1,a.2.1,a.2.2.1,a.2.2.2.1,a.2.2.2.2.1,a.2.2.2.2.2.1,a.2.2.2.2.2.2.1,a.2.2.2.2.2.2.2.1,a.2.2.2.2.2.2.2.2)) else m (d,e,f,g,h,i,j,k,l)))) λy=>(fixF (An R n o b y) bB (0,x0.1,x0.2.1,x0.2.2.1,x0.2.2.2.1,x0.2.2.2.2.1,x0.2.2.2.2.2.1,x0.2.2.2.2.2.2.1,x0.2.2.2.2.2.2.2.1,x0.2.2.2.2.2.2.2.2)))
theorem aia{R:bg}(n:h8 R){x0:ah}{d:aa}{c:bl}{b:Bool}{a:bI}{Q:bu}{e:bI}{f:Nat}{r:Int×ah}(h:EN R x0 d c b=some r):
  gL Tryz.prog 32 [.pointer a,.string (a9 d),.slice e c.length f,.bool b] [hr e c f] (eV a x0 Q) (λ_:bu=>True) (λq=> .int .i64 r.1) (λq=>eV a r.2 q):=
 by
  refine V.jn (T:=cl) Tryz.call32 Tryz.func32 U λ_ _=>?_;unfold EN at h;refine V.da ab 9 0 h (ρ:=bu) (λs q=>[(0,.bj ⟨a,1,1⟩ 0),(3,.v (.bool b)),(9,.v (.int .i64 s.1))]) .nil (λs q=>gM a s.2 q) U ?_ ?_
  ·intro z _ h;refine V.e_ ab 0 0 h (ρ:=bu) (λs q=>[(0,.bj ⟨a,1,1⟩ 0),(1,.v (.string (a9 d))),(2,.v (.slice e c.length f)),(3,.v (.bool b)),(9,.v (.int .i64 s.1))]) .nil (λs q=>gM a s.2 q) Q [1,2,0] U ?_;rintro o ⟨p,A,B,C,D,E,G,H,I,J⟩ i h;rw[An] at h;refine V.co ab 9 3 h ⟨U,U,U,U⟩ (λh=>?_) (λh=>?_)
   ·refine V.da ab 1 0 h (ρ:=bu) (λs q=>[(0,.bj ⟨a,1,1⟩ 0),(1,.v (.string (a9 d))),(2,.v (.slice e c.length f)),(3,.v (.bool b)),(9,.v (.int .i64 s.1))]) .nil (λs q=>gM a s.2 q) U ?_ ?_
    ·intro K _ h;refine V.bH ab 3 0 h og [2] [] U λL _ h=>?_;refine V.cM ab 5 0 h m9 [1] U λM _ h=>?_;refine V.co ab 1 0 h U (λh=>?_) (λh=>?_)
     ·refine V.e9 ab 0 0 h (ρ:=bu) (λs q=>[(0,.bj ⟨a,1,1⟩ 0),(3,.v (.bool b)),(9,.v (.int .i64 p))]) .nil (λs q=>gM a s q) U ?_ ?_
      ·intro N _ h;refine V.co ab 5 0 h U (λh=>?_) (λh=>?_)
       ·refine V.bH ab 2 0 h pB [0,0,0] [] U λO t h=>?_;exact V.a6 ab 1 0 h t [1,2,0] U
       exact V.a6 ab 1 0 h i [1,2,0] U
      rintro⟨P,S,W,X,Y,Z,iU,kn,qa⟩ u h
      try dsimp only at h
      exact V.a6 ab 1 0 h u [0,1,2] U
     refine V.cM ab 5 0 h oh [1] U λl3 _ h=>?_;refine V.co ab 2 0 h U (λh=>?_) (λh=>?_)
     ·refine V.bH ab 3 0 h WB [0,0,0] [] U λgE v h=>?_;exact V.a6 ab 2 0 h v [1,2,0] U
     refine V.cM ab 4 0 h oO [1] U λeE _ h=>?_;refine V.cM ab 5 0 h wZ [1] U λjL _ h=>?_;refine V.ic ab 26 0 h Lg [0] U (λ_ F j k=>F ⟨j,k⟩) λoN h=>?_;refine V.co ab 11 0 h U (λh=>?_) (λh=>?_)
     ·cases h;exact V.rx ab 5 0 i [0,0,0] U
     refine V.bH ab 4 0 h (ah_ n) [0,0,0] [] U λkU g h=>?_;refine V.co ab 16 1 h ⟨U,U,U,U⟩ (λh=>?_) (λh=>?_)
     ·cases h;exact V.rx ab 5 0 g [0,0,0] U
     refine V.bH ab 4 0 h og [0] [] U λdg _ h=>?_;refine V.cM ab 4 0 h oO [1] U λgV _ h=>?_;refine V.cM ab 6 0 h m9 [1] U λuq _ h=>?_;refine V.ic ab 2 0 h oh [1] U (λ_=>id) λnW h=>?_;refine V.co ab 12 0 h U (λh=>?_) (λh=>?_)
     ·exact V.a6 ab 1 0 h g [1,2,0] U
     refine V.co ab 11 0 h U (λh=>?_) (λh=>?_)
     ·refine V.bH ab 7 1 h pC [0] [] ⟨U,U,U,U⟩ λiz _ h=>?_;cases h;exact V.rx ab 6 0 g [0,0,0] U
     exact V.a6 ab 12 1 h g [1,2,0] ⟨U,U,U,U,U,U,U⟩
    rintro⟨pv,m4,px,py,qd,uD,pw,qT,yA,sn⟩ w h
    try dsimp only at h
    exact V.el ab 0 0 h w [0,1,2] U
   exact V.a6 ab 1 0 h i [0,1,2] U
  rintro⟨x,D_,Q3,tk,ur,Q4,Q5,yC,EJ,Q6⟩ l h;refine V.e9 ab 0 0 h (ρ:=bu) (λs q=>[(9,.v (.int .i64 x))]) .nil (λs q=>gM a s q) U ?_ ?_
  ·intro Q7 _ h;refine V.co ab 8 0 h U (λh=>?_) (λh=>?_)
   ·refine V.bH ab 2 0 h qR [2,0,0] [] U λuF y h=>?_;exact V.a6 ab 1 0 h y [1,2,0] U
   exact V.a6 ab 1 0 h l [0,1,2] U
  rintro⟨W4,Ht,H2,H3,W5,W6,H4,W7,W8⟩ m h;cases h;exact V.rx ab 5 0 m [2,0,0] U
def LC(x0:aa)(i:Int->Option (Int×Int))(b:(Int×Int)->Option (Int×Int)):(Int×Int)->Option (Int×Int):=λ(c,a)=>
 (bif(decide (a<(x0.length:Int))) then(a8 (λ(j:Int)=>b (j,(W (a+1)))) λf=>(a4 (0<=a/\a<(x0.length:Int))<|(a8 (λ(d:UInt8)=>(bif(bif(bif(bif(bif(decide (((at' x0 a).toNat:Int)=(39:Int))) then true else(decide (((at' x0 a).toNat:Int)=(34:Int)))) then true else(decide (((at' x0 a).toNat:Int)=(92:Int)))) then true else(decide (((at' x0 a).toNat:Int)=(96:Int)))) then true else(bif(decide (((at' x0 a).toNat:Int)=(36:Int))) then(bif(decide ((d.toNat:Int)=(40:Int))) then true else(decide ((d.toNat:Int)=(123:Int)))) else false)) then some ((-2),a) else(a8 (λ(e:Int)=>(bif(bif(decide (((at' x0 a).toNat:Int)=(41:Int))) then(decide (0<e)) else false) then f (W (e-1)) else(bif(bif(decide (((at' x0 a).toNat:Int)=(41:Int))) then(decide ((W (a+1))=(x0.length:Int))) else false) then some ((-1),1) else(bif(bif(decide (((at' x0 a).toNat:Int)=(41:Int))) then(!(decide ((d.toNat:Int)=(41:Int)))) else false) then some ((-2),a) else(bif(decide (((at' x0 a).toNat:Int)=(41:Int))) then some ((W (a+2)),0) else f e))))) λg=>(bif(decide (((at' x0 a).toNat:Int)=(40:Int))) then g (W (c+1)) else g c)))) λh=>(bif(decide ((W (a+1))<(x0.length:Int))) then(a4 (0<=(W (a+1))/\(W (a+1))<(x0.length:Int))<|h (at' x0 (W (a+1)))) else h (0:UInt8))))) else i c)
def EO(x0:aa)(a:Int):Option (Int×Int):=
 (au (z_ a (x0.length:Int)) λ(b:Int)=>(a8 (λ(c:Int)=>some ((-1),(W (c+2)))) λd=>(fixF (LC x0 d) bB (0,b))))
theorem aih{x0:aa}{b:Int}{r:Int×Int}(h:EO x0 b=some r):
  FC Tryz.prog 168 [.string (a9 x0),.int .i64 b] [] (λ_:Unit=>True) (λ_=> .tuple #[.int .i64 r.1,.int .i64 r.2]) (λ_=>[]):=
 by
  refine V.fM (T:=cl) Tryz.call168 Tryz.func168 U λ_=>?_;unfold EO at h;refine V.cM ab 15 0 h La [] U λi _ h=>?_;refine V.da ab 2 0 h (ρ:=Unit) (λs q=>[(6,.v (.int .i64 s))]) .nil (λs q=>[]) U ?_ ?_
  ·intro j _ h;refine V.e_ ab 0 0 h (ρ:=Unit) (λs q=>[(0,.v (.string (a9 x0))),(6,.v (.int .i64 s.1)),(7,.v (.int .i64 s.2))]) .nil (λs q=>[]) () [] U ?_;rintro c ⟨d,a⟩ _ h;rw[LC] at h;refine V.co ab 8 0 h U (λh=>?_) (λh=>?_)
   ·refine V.da ab 2 0 h (ρ:=Unit) (λs q=>[(0,.v (.string (a9 x0))),(6,.v (.int .i64 s)),(7,.v (.int .i64 a))]) .nil (λs q=>[]) U ?_ ?_
    ·intro k _ h;obtain⟨e,h⟩:=bC h;refine V.e9 ab 11 0 h (ρ:=Unit) (λs q=>[(0,.v (.string (a9 x0))),(6,.v (.int .i64 d)),(7,.v (.int .i64 a)),(8,.v (.int .u8 ((at' x0 a).toNat:Int))),(9,.v (.int .u8 (s.toNat:Int)))]) .nil (λs q=>[]) ⟨e,U⟩ ?_ ?_
     ·intro l _ h;refine V.co ab 8 0 h U (λh=>?_) (λh=>?_)
      ·obtain⟨f,h⟩:=bC h;exact V.a6 ab 7 0 h () [] ⟨f,U⟩
      exact V.a6 ab 1 0 h () [] U
     rintro g _ h;refine V.co ab 30 0 h U (λh=>?_) (λh=>?_)
     ·cases h;exact V.rt ab 6 0 () [] U
     refine V.e9 ab 1 0 h (ρ:=Unit) (λs q=>[(0,.v (.string (a9 x0))),(6,.v (.int .i64 s)),(7,.v (.int .i64 a)),(8,.v (.int .u8 ((at' x0 a).toNat:Int))),(9,.v (.int .u8 (g.toNat:Int)))]) .nil (λs q=>[]) U ?_ ?_
     ·intro m _ h;refine V.co ab 5 0 h U (λh=>?_) (λh=>?_)
      ·exact V.a6 ab 5 0 h () [] U
      exact V.a6 ab 1 0 h () [] U
     rintro n _ h;refine V.co ab 10 0 h U (λh=>?_) (λh=>?_)
     ·exact V.a6 ab 7 0 h () [] U
     refine V.co ab 14 0 h U (λh=>?_) (λh=>?_)
     ·cases h;exact V.rt ab 5 0 () [] U
     refine V.co ab 11 0 h U (λh=>?_) (λh=>?_)
     ·cases h;exact V.rt ab 6 0 () [] U
     refine V.co ab 6 0 h U (λh=>?_) (λh=>?_)
     ·cases h;exact V.rt ab 7 0 () [] U
     exact V.a6 ab 2 0 h () [] U
    rintro o _ h
    try dsimp only at h
    exact V.el ab 5 0 h () [] U
   exact V.a6 ab 1 0 h () [] U
  rintro p _ h;cases h;exact V.rt ab 7 0 () [] U
def w7(R:bg)(m:ah->Option ah)(l:ah->Option ah):ah->Option ah:=λ(a,b,f,c,d,g,h,e,i)=>
 (bif(decide (d=0)) then(a8 (λ((n,o,p,q,r,s,t,u,v):ah)=>l (n,o,p,q,r,s,t,u,v)) λj=>(au (gz (a,b,f,c,d,g,h,e,i)) λ(w:Bool)=>(bif w then(au (g5 (a,b,f,c,d,g,h,e,i) ([])) λ(x:ah)=>j x) else(au (ig (a,b,f,c,d,g,h,e,i)) λ(y:UInt8)=>(bif(decide ((y.toNat:Int)=(125:Int))) then some (a,(W (b+1)),f,c,d,g,h,e,i) else(au (ig (a,b,f,c,d,g,h,e,i)) λ(z:UInt8)=>(bif(decide ((z.toNat:Int)=(92:Int))) then(au (w1 (a,b,f,c,d,g,h,e,i)) λ(k:ah)=>j (k.1,k.2.1,k.2.2.1,c,k.2.2.2.2.1,k.2.2.2.2.2.1,k.2.2.2.2.2.2.1,e,k.2.2.2.2.2.2.2.2)) else(au (ig (a,b,f,c,d,g,h,e,i)) λ(A:UInt8)=>(bif(decide ((A.toNat:Int)=(39:Int))) then(au (B7 a (W (b+1))) λ(B:Int)=>(au (sm (a,b,f,c,d,g,h,e,i) B ([39]:aa) ([39]:aa)) λ(C:ah)=>j C)) else(au (ig (a,b,f,c,d,g,h,e,i)) λ(D:UInt8)=>(bif(decide ((D.toNat:Int)=(34:Int))) then(au (Ey R (a,b,f,c,d,g,h,e,i)) λ(E:ah)=>j E) else(au (ig (a,b,f,c,d,g,h,e,i)) λ(F:UInt8)=>(bif(decide ((F.toNat:Int)=(96:Int))) then(au (Ad a (W (b+1))) λ(G:Int)=>(au (sm (a,b,f,c,d,g,h,e,i) G ([96]:aa) ([96]:aa)) λ(H:ah)=>j H)) else(au (ig (a,b,f,c,d,g,h,e,i)) λ(I:UInt8)=>(bif(decide ((I.toNat:Int)=(36:Int))) then(au (R.vo (a,b,f,c,d,g,h,e,i)) λ(J:ah)=>j J) else j (a,(W (b+1)),f,c,d,g,h,e,i)))))))))))))))) else m (a,b,f,c,d,g,h,e,i))
def LF(R:bg)(x0:ah):Option ah:=
 (a8 (λ((a,b,c,d,e,f,g,h,i):ah)=>(au (gA (a,b,c,d,e,f,g,h,i) ([36,123]:aa) ([125]:aa)) λ(j:ah)=>some j)) λk=>(fixF (w7 R k) bB (x0.1,(W (x0.2.1+2)),x0.2.2.1,x0.2.2.2.1,x0.2.2.2.2.1,x0.2.2.2.2.2.1,x0.2.2.2.2.2.2.1,x0.2.2.2.2.2.2.2.1,x0.2.2.2.2.2.2.2.2)))
theorem aij{R:bg}(n:h8 R){x0:ah}{a2:bI}{Q:bu}{r:ah}(h:LF R x0=some r):
  gL Tryz.prog 169 [.pointer a2] [] (eV a2 x0 Q) (λ_:bu=>True) (λq=> .tuple #[]) (λq=>eV a2 r q):=
 by
  refine V.jn (T:=cl) Tryz.call169 Tryz.func169 U λ_ _=>?_;unfold LF at h;refine V.da ab 13 0 h (ρ:=bu) (λs q=>[(0,.bj ⟨a2,1,1⟩ 0)]) .nil (λs q=>gM a2 s q) ⟨U,U,U,U,U,U,U⟩ ?_ ?_
  ·intro F _ h;refine V.e_ ab 0 0 h (ρ:=bu) (λs q=>[(0,.bj ⟨a2,1,1⟩ 0)]) .nil (λs q=>gM a2 s q) Q [1,2,0] U ?_;rintro o ⟨d,b,e,f,g,i,j,k,l⟩ a h;rw[w7] at h;refine V.go ab 3 0 U ?_;refine V.cj (aH.iG 2 U λc=>V.ct ?_);refine V.co ab 6 2 h ⟨U,U,U,U⟩ (λh=>?_) (λh=>?_)
   ·refine V.da ab 2 0 h (ρ:=bu) (λs q=>[(0,.bj ⟨a2,1,1⟩ 0)]) .nil (λs q=>gM a2 s q) U ?_ ?_
    ·intro G _ h;refine V.cM ab 3 0 h m9 [2] U λH _ h=>?_;refine V.co ab 2 0 h U (λh=>?_) (λh=>?_)
     ·refine V.bH ab 2 0 h pB [2,0,0] [] U λI p h=>?_;exact V.a6 ab 2 0 h p [1,2,0] U
     refine V.cM ab 3 0 h oh [2] U λJ _ h=>?_;refine V.co ab 3 0 h U (λh=>?_) (λh=>?_)
     ·cases h;exact V.rx ab 11 2 a [0,0,0] ⟨U,U,U,U,U,U,U⟩
     refine V.cM ab 3 0 h oh [2] U λK _ h=>?_;refine V.co ab 3 0 h U (λh=>?_) (λh=>?_)
     ·refine V.bH ab 2 0 h QG [2] [] U λL _ h=>?_;exact V.a6 ab 2 0 h a [1,2,0] U
     refine V.cM ab 3 0 h oh [2] U λM _ h=>?_;refine V.co ab 3 0 h U (λh=>?_) (λh=>?_)
     ·obtain⟨N,t,h⟩:=jH h;obtain⟨O,u,h⟩:=jH h;refine V.jm (aT.r7 U .nil [2] [10,11] trivial U (λv=>?_));refine bE.ph ab gn 10 [0,5] U (by kernel_rfl) [] [(48,.bj ⟨a2,1,1⟩ 0),(53,.bj ⟨a2,1,1⟩ 0)] U (fL U) (bE.eI ab gn true 5 [1,2,3,6,7] U (by kernel_rfl) [] [(51,.bj ⟨a2,1,1⟩ 0),(55,.bj ⟨a2,1,1⟩ 1)] trivial [2] U U ⟨(c.fW fX).1,c.fW fX,(c.fW fX).1,c.fW fX,(fL U)⟩ (bE.kN ab gn 4 U (by kernel_rfl) U U U U U 0 U U 0 0 (d,b,e,(bw.v ⟨a.1,f.length,a.2.1⟩),g,i,j,(bw.v ⟨a.2.2.1,k.length,a.2.2.2⟩),l) ⟨U,U⟩ U U U trivial [2] U (bE.kN ab gn 8 U (by kernel_rfl) U U U U U 0 U U 0 1 (d,b,e,(bw.v ⟨a.1,f.length,a.2.1⟩),g,i,j,(bw.v ⟨a.2.2.1,k.length,a.2.2.2⟩),l) ⟨U,U⟩ U U U trivial [2] U (bE.eI ab gn true 2 [9] U (by kernel_rfl) [(W (b+1))] [(57,.v (.int .i64 (W (b+1))))] trivial [2] U U ⟨⟨trivial,U⟩,⟨U,trivial⟩⟩ (bE.one 10 (by kernel_rfl) (cL.call U U U U (WI t) U [] U U λ_ _=>bE.nO U (bE.one 11 (by kernel_rfl) (cL.p4 U U U U (Ex u) U [2,0,0] U [] U U ?_))))))));rintro w-;refine bE.nO U (bE.done (by kernel_rfl) (aT.boxes (B':= .nil) trivial (V.h7 ?_)));exact V.a6 ab 1 0 h w [1,2,0] U
     refine V.cM ab 3 0 h oh [2] U λP _ h=>?_;refine V.co ab 3 0 h U (λh=>?_) (λh=>?_)
     ·refine V.bH ab 2 0 h (WH n) [2,0,0] [] U λS x h=>?_;exact V.a6 ab 2 0 h x [1,2,0] U
     refine V.cM ab 3 0 h oh [2] U λX _ h=>?_;refine V.co ab 3 0 h U (λh=>?_) (λh=>?_)
     ·obtain⟨Y,y,h⟩:=jH h;obtain⟨Z,z,h⟩:=jH h;refine V.jm (aT.r7 U .nil [2] [10,11] trivial U (λA=>?_));refine bE.ph ab gn 10 [0,5] U (by kernel_rfl) [] [(70,.bj ⟨a2,1,1⟩ 0),(75,.bj ⟨a2,1,1⟩ 0)] U (fL U) (bE.eI ab gn true 5 [1,2,3,6,7] U (by kernel_rfl) [] [(73,.bj ⟨a2,1,1⟩ 0),(77,.bj ⟨a2,1,1⟩ 1)] trivial [2] U U ⟨(c.fW fX).1,c.fW fX,(c.fW fX).1,c.fW fX,(fL U)⟩ (bE.kN ab gn 4 U (by kernel_rfl) U U U U U 0 U U 0 0 (d,b,e,(bw.v ⟨a.1,f.length,a.2.1⟩),g,i,j,(bw.v ⟨a.2.2.1,k.length,a.2.2.2⟩),l) ⟨U,U⟩ U U U trivial [2] U (bE.kN ab gn 8 U (by kernel_rfl) U U U U U 0 U U 0 1 (d,b,e,(bw.v ⟨a.1,f.length,a.2.1⟩),g,i,j,(bw.v ⟨a.2.2.1,k.length,a.2.2.2⟩),l) ⟨U,U⟩ U U U trivial [2] U (bE.eI ab gn true 2 [9] U (by kernel_rfl) [(W (b+1))] [(79,.v (.int .i64 (W (b+1))))] trivial [2] U U ⟨⟨trivial,U⟩,⟨U,trivial⟩⟩ (bE.one 10 (by kernel_rfl) (cL.call U U U U (QF y) U [] U U λ_ _=>bE.nO U (bE.one 11 (by kernel_rfl) (cL.p4 U U U U (Ex z) U [2,0,0] U [] U U ?_))))))));rintro B-;refine bE.nO U (bE.done (by kernel_rfl) (aT.boxes (B':= .nil) trivial (V.h7 ?_)));exact V.a6 ab 1 0 h B [1,2,0] U
     refine V.cM ab 3 0 h oh [2] U λjL _ h=>?_;refine V.co ab 3 0 h U (λh=>?_) (λh=>?_)
     ·refine V.bH ab 2 0 h n.vo [2,0,0] [] U λoN C h=>?_;exact V.a6 ab 2 0 h C [1,2,0] U
     exact V.a6 ab 11 2 h a [1,2,0] ⟨U,U,U,U,U,U,U⟩
    rintro⟨mh,vx,nu,ry,se,vF,uB,zO,vL⟩ D h
    try dsimp only at h
    exact V.el ab 1 0 h D [0,1,2] U
   exact V.a6 ab 1 0 h a [0,1,2] U
  rintro⟨ru,Hx,HH,Al,W9,W_,zY,H7,Xa⟩ E h;refine V.bH ab 2 0 h qR [2,0,0] [] U λXb m h=>?_;cases h;exact V.jI ab 1 0 m [0,0,0] U
def EP(d:aa->Option ah)(a:(Int×aa)->Option ah):(Int×aa)->Option ah:=λ(c,b)=>
 (bif(decide (0<c)) then(a4 (((b.length+([41]:aa).length:Nat):Int)<=9223372036854775807)<|a ((W (c-1)),(b++([41]:aa)))) else d b)
def H_(R:bg)(x0:ah):Option ah:=
 (au (tj x0 1) λ(f:UInt8)=>(cY ((decide ((f.toNat:Int)=(40:Int)))=true) (tj x0 2) (0:UInt8) λ(k:UInt8)=>(bif(bif(decide ((f.toNat:Int)=(40:Int))) then(decide ((k.toNat:Int)=(40:Int))) else false) then(au (EO x0.1 (W (x0.2.1+3))) λ(g,h)=>(bif(decide (g=(-2))) then(au (hy x0 h) λ(e:ah)=>some (e.1,e.2.1,e.2.2.1,x0.2.2.2.1,e.2.2.2.2.1,e.2.2.2.2.2.1,e.2.2.2.2.2.2.1,x0.2.2.2.2.2.2.2.1,e.2.2.2.2.2.2.2.2)) else(a8 (λ(l:aa)=>(au (sm x0 g ([36,40,40]:aa) l) λ(m:ah)=>some m)) λn=>(fixF (EP n) bB (h,[]))))) else(au (tj x0 1) λ(o:UInt8)=>(bif(decide ((o.toNat:Int)=(40:Int))) then(a8 (λ((p,q,r,s,t,u,v,w,x):ah)=>some (p,q,r,s,t,u,v,w,x)) λi=>(au (yy x0 x0.2.1) λ(y,a)=>(bif y then(au (R.nQ (a.1,(W (a.2.1+2)),a.2.2.1,x0.2.2.2.1,a.2.2.2.2.1,a.2.2.2.2.2.1,a.2.2.2.2.2.2.1,x0.2.2.2.2.2.2.2.1,a.2.2.2.2.2.2.2.2) ([41]:aa) ([]:bl) false) λ(L,z)=>(au (gA z ([36,40]:aa) ([41]:aa)) λ(c:ah)=>i (c.1,(W (c.2.1+1)),(W (c.2.2.1-1)),c.2.2.2.1,c.2.2.2.2.1,c.2.2.2.2.2.1,c.2.2.2.2.2.2.1,c.2.2.2.2.2.2.2.1,c.2.2.2.2.2.2.2.2))) else i (a.1,a.2.1,a.2.2.1,x0.2.2.2.1,a.2.2.2.2.1,a.2.2.2.2.2.1,a.2.2.2.2.2.2.1,x0.2.2.2.2.2.2.2.1,a.2.2.2.2.2.2.2.2)))) else(au (tj x0 1) λ(A:UInt8)=>(bif(decide ((A.toNat:Int)=(123:Int))) then(a8 (λ((B,C,D,E,F,G,H,I,J):ah)=>some (B,C,D,E,F,G,H,I,J)) λj=>(au (yy x0 x0.2.1) λ(K,b)=>(bif K then(au (LF R (b.1,b.2.1,b.2.2.1,x0.2.2.2.1,b.2.2.2.2.1,b.2.2.2.2.2.1,b.2.2.2.2.2.2.1,x0.2.2.2.2.2.2.2.1,b.2.2.2.2.2.2.2.2)) λ(d:ah)=>j (d.1,d.2.1,(W (d.2.2.1-1)),d.2.2.2.1,d.2.2.2.2.1,d.2.2.2.2.2.1,d.2.2.2.2.2.2.1,d.2.2.2.2.2.2.2.1,d.2.2.2.2.2.2.2.2)) else j (b.1,b.2.1,b.2.2.1,x0.2.2.2.1,b.2.2.2.2.1,b.2.2.2.2.2.1,b.2.2.2.2.2.2.1,x0.2.2.2.2.2.2.2.1,b.2.2.2.2.2.2.2.2)))) else some (x0.1,(W (x0.2.1+1)),x0.2.2.1,x0.2.2.2.1,x0.2.2.2.2.1,x0.2.2.2.2.2.1,x0.2.2.2.2.2.2.1,x0.2.2.2.2.2.2.2.1,x0.2.2.2.2.2.2.2.2))))))))
end
end Go.Eng
