/- Part 3 of what FnOpen needs. No condition. -/
import Derived.Test.YthnjiffnjaaejaaGreatDoorFnOpenB
set_option linter.all false
namespace Go.Eng
open Go Go.Proofs
noncomputable section
theorem aim{R:bg}(d:h8 R){x0:ah}{a2:bI}{Q:bu}{r:ah}(h:H_ R x0=some r):
  gL Tryz.prog 158 [.pointer a2] [] (eV a2 x0 Q) (λ_:bu=>True) (λq=> .tuple #[]) (λq=>eV a2 r q):=
 by
  refine V.jn (T:=cl) Tryz.call158 Tryz.func158 U λ_ _=>?_;unfold H_ at h;refine V.cM ab 4 0 h Ew [0] U λl _ h=>?_;refine V.ic ab 3 0 h Ew [0] U (λ_=>id) λm h=>?_;refine V.co ab 3 0 h U (λh=>?_) (λh=>?_)
  ·refine V.jz ab 1 0 U (by kernel_rfl) ?_;refine V.go ab 9 0 ⟨U,U,U,U,U,U,U⟩ ?_;obtain⟨⟨e,n⟩,a,h⟩:=jH h;refine V.toQ (kz.call U U U U (aih a) U [] U U (V.rk ?_));refine V.co ab 12 0 h U (λh=>?_) (λh=>?_)
   ·refine V.bH ab 4 0 h pC [0] [] U λo _ h=>?_;cases h;exact V.rx ab 1 0 Q [0,0,0] U
   refine V.da ab 6 0 h (ρ:=Unit) (λs q=>[(0,.bj ⟨a2,1,1⟩ 0),(2,.v (.int .i64 e)),(4,.v (.string (a9 s)))]) .nil (λs q=>eV a2 x0 Q) U ?_ ?_
   ·intro p _ h;refine V.e_ ab 0 0 h (ρ:=Unit) (λs q=>[(0,.bj ⟨a2,1,1⟩ 0),(2,.v (.int .i64 e)),(3,.v (.int .i64 s.1)),(4,.v (.string (a9 s.2)))]) .nil (λs q=>eV a2 x0 Q) () [0,1,2] U ?_;rintro f ⟨t,u⟩ _ h;rw[EP] at h;refine V.co ab 6 0 h U (λh=>?_) (λh=>?_)
    ·obtain⟨g,h⟩:=bC h;exact V.el ab 14 0 h () [0,1,2] ⟨g,U⟩
    exact V.a6 ab 1 0 h () [0,1,2] U
   rintro v _ h;refine V.bH ab 5 0 h Ex [0,0,0] [] U λw i h=>?_;cases h;exact V.rx ab 1 0 i [0,0,0] U
  refine V.cM ab 5 0 h Ew [0] U λx _ h=>?_;refine V.co ab 2 0 h U (λh=>?_) (λh=>?_)
  ·refine V.e9 ab 0 0 h (ρ:=bu) (λs q=>[]) .nil (λs q=>gM a2 s q) U ?_ ?_
   ·intro y _ h;refine V.bH ab 7 0 h QQ [0] [] ⟨U,U,U,U⟩ ?_;rintro⟨z,A⟩ _ h;refine V.co ab 1 0 h U (λh=>?_) (λh=>?_)
    ·refine V.go ab 15 0 ⟨U,U,U,U,U,U,U⟩ ?_;refine V.cj (aH.J9 .str bw.nil U U (V.ct ?_));refine V.bH ab 0 0 h d.nQ [0,0,0] [0] U ?_;rintro⟨B,C⟩ D h;refine V.bH ab 4 0 h qR [0,0,0] [] U λE b h=>?_;exact V.zH ab 22 1 h b [1,2,0] [] ⟨U,U,U,U,U,U,U,U,U,U,U,U,U⟩
    exact V.a6 ab 1 0 h Q [1,2,0] U
   rintro⟨F,G,H,I,J,K,L,M,N⟩ j h;cases h;exact V.rx ab 0 0 j [2,0,0] U
  refine V.cM ab 5 0 h Ew [0] U λO _ h=>?_;refine V.co ab 2 0 h U (λh=>?_) (λh=>?_)
  ·refine V.e9 ab 0 0 h (ρ:=bu) (λs q=>[]) .nil (λs q=>gM a2 s q) U ?_ ?_
   ·intro P _ h;refine V.bH ab 7 0 h QQ [0] [] ⟨U,U,U,U⟩ ?_;rintro⟨S,W⟩ _ h;refine V.co ab 1 0 h U (λh=>?_) (λh=>?_)
    ·refine V.bH ab 3 0 h (aij d) [0,0,0] [] U λX k h=>?_;exact V.a6 ab 11 0 h k [1,2,0] ⟨U,U,U,U,U,U,U⟩
    exact V.a6 ab 1 0 h Q [1,2,0] U
   rintro⟨Y,Z,pw,qT,oH,sn,vH,qQ,rD⟩ c h;cases h;exact V.rx ab 0 0 c [2,0,0] U
  cases h;exact V.jI ab 11 0 Q [0,0,0] ⟨U,U,U,U,U,U,U⟩
def yG(x0:aa×Int×Int):Option (Int×aa×Int×Int):=
 (a8 (λ((b,c):Int×Int)=>some (b,(x0.1,c,(W ((W (x0.2.2*6364136223846793005))+1442695040888963407))))) λa=>(bif(decide (x0.2.1<(x0.1.length:Int))) then(a4 (0<=x0.2.1/\x0.2.1<(x0.1.length:Int))<|a ((W (((BitVec.ofInt (IntKind.bits .i64) (W ((W (((BitVec.ofInt (IntKind.bits .i64) (W (((BitVec.ofInt (IntKind.bits .i64) (Int.fdiv (W ((W (x0.2.2*6364136223846793005))+1442695040888963407)) (2^(min (Int.toNat 33) (IntKind.bits .i64))))^^^BitVec.ofInt (IntKind.bits .i64) (Int.fdiv (W ((W (x0.2.2*6364136223846793005))+1442695040888963407)) (2^(min (Int.toNat 45) (IntKind.bits .i64))))).toNat:Int)))&&&BitVec.ofInt (IntKind.bits .i64) 255).toNat:Int)))+((at' x0.1 x0.2.1).toNat:Int)))&&&BitVec.ofInt (IntKind.bits .i64) 255).toNat:Int))),(W (x0.2.1+1)))) else a ((W (((BitVec.ofInt (IntKind.bits .i64) (W (((BitVec.ofInt (IntKind.bits .i64) (Int.fdiv (W ((W (x0.2.2*6364136223846793005))+1442695040888963407)) (2^(min (Int.toNat 33) (IntKind.bits .i64))))^^^BitVec.ofInt (IntKind.bits .i64) (Int.fdiv (W ((W (x0.2.2*6364136223846793005))+1442695040888963407)) (2^(min (Int.toNat 45) (IntKind.bits .i64))))).toNat:Int)))&&&BitVec.ofInt (IntKind.bits .i64) 255).toNat:Int))),x0.2.1)))
theorem Ia{x0:aa×Int×Int}{a2:bI}{a3:bI}{a:Nat}{r:Int×aa×Int×Int}(h:yG x0=some r):
  gL Tryz.prog 37 [.pointer a2] [lQ a3 x0.1 a] [lC a2 x0 a3 a] (λ_:Unit=>True) (λ_=> .int .i64 r.1) (λ_=>[lC a2 (x0.1,r.2.2) a3 a]):=
 by
  refine V.jn (T:=cl) Tryz.call37 Tryz.func37 U λ_ _=>?_;unfold yG at h;have d:(0:Int)<=33:=by decide
  have e:(0:Int)<=45:=by decide
  refine V.jz ab 18 1 ⟨U,U,U,U,U,U,U⟩ (by kernel_rfl) ?_;refine V.e9 ab 14 1 h (ρ:=Unit) (λs q=>[(3,.v (.int .i64 s.1))]) .nil (λs q=>[lC a2 (x0.1,s.2,(W ((W (x0.2.2*6364136223846793005))+1442695040888963407))) a3 a]) ⟨U,U,U,d,U,U,U,e,U⟩ ?_ ?_
  ·intro f _ h;refine V.jz ab 1 0 U (by kernel_rfl) ?_;refine V.co ab 11 1 h ⟨U,U,U,U,U,U,U⟩ (λh=>?_) (λh=>?_)
   ·obtain⟨c,h⟩:=bC h;refine V.go ab 1 0 U ?_;refine V.jm (aT.iG 0 U λb=>V.h7 ?_);refine V.jz ab 0 0 U (by kernel_rfl) ?_;refine V.go ab 10 1 ⟨U,U,U,U,U,U,b.ix c,U⟩ ?_;refine V.toQ (kz.load ab U U U U U U U 0 U U (Int.toNat x0.2.1) 0 (at' x0.1 x0.2.1) ⟨me c,U⟩ U U (V.rk ?_));refine V.toQ (kz.eI ab 4 [((at' x0.1 x0.2.1).toNat:Int),(W ((W (((BitVec.ofInt (IntKind.bits .i64) (W (((BitVec.ofInt (IntKind.bits .i64) (Int.fdiv (W ((W (x0.2.2*6364136223846793005))+1442695040888963407)) (2^(min (Int.toNat 33) (IntKind.bits .i64))))^^^BitVec.ofInt (IntKind.bits .i64) (Int.fdiv (W ((W (x0.2.2*6364136223846793005))+1442695040888963407)) (2^(min (Int.toNat 45) (IntKind.bits .i64))))).toNat:Int)))&&&BitVec.ofInt (IntKind.bits .i64) 255).toNat:Int)))+((at' x0.1 x0.2.1).toNat:Int))),(W (((BitVec.ofInt (IntKind.bits .i64) (W ((W (((BitVec.ofInt (IntKind.bits .i64) (W (((BitVec.ofInt (IntKind.bits .i64) (Int.fdiv (W ((W (x0.2.2*6364136223846793005))+1442695040888963407)) (2^(min (Int.toNat 33) (IntKind.bits .i64))))^^^BitVec.ofInt (IntKind.bits .i64) (Int.fdiv (W ((W (x0.2.2*6364136223846793005))+1442695040888963407)) (2^(min (Int.toNat 45) (IntKind.bits .i64))))).toNat:Int)))&&&BitVec.ofInt (IntKind.bits .i64) 255).toNat:Int)))+((at' x0.1 x0.2.1).toNat:Int)))&&&BitVec.ofInt (IntKind.bits .i64) 255).toNat:Int)))] [(3,.v (.int .i64 (W (((BitVec.ofInt (IntKind.bits .i64) (W ((W (((BitVec.ofInt (IntKind.bits .i64) (W (((BitVec.ofInt (IntKind.bits .i64) (Int.fdiv (W ((W (x0.2.2*6364136223846793005))+1442695040888963407)) (2^(min (Int.toNat 33) (IntKind.bits .i64))))^^^BitVec.ofInt (IntKind.bits .i64) (Int.fdiv (W ((W (x0.2.2*6364136223846793005))+1442695040888963407)) (2^(min (Int.toNat 45) (IntKind.bits .i64))))).toNat:Int)))&&&BitVec.ofInt (IntKind.bits .i64) 255).toNat:Int)))+((at' x0.1 x0.2.1).toNat:Int)))&&&BitVec.ofInt (IntKind.bits .i64) 255).toNat:Int)))))] U ⟨⟨trivial,Kc _⟩,⟨trivial,U⟩,⟨trivial,U⟩,⟨U,trivial⟩⟩ (V.rk ?_));exact V.a6 ab 12 1 h () [0] ⟨U,U,U,U,U,U,U⟩
   exact V.a6 ab 1 0 h () [0] U
  rintro⟨g,i⟩ _ h;cases h;exact V.rx ab 5 0 () [0] U
def lf(x0:aa×Int×Int)(a:Int):Option (Int×aa×Int×Int):=
 (bif(decide (a<=0)) then some (0,x0) else(bif(decide (a<=256)) then(au (yG x0) λ(b,c)=>(a4 (a≠0)<|some ((Int.tmod b a),(x0.1,c.2)))) else(au (yG x0) λ(d,e)=>(au (yG (x0.1,e.2)) λ(f,g)=>(au (yG (x0.1,g.2)) λ(h,i)=>(au (yG (x0.1,i.2)) λ(j,k)=>(a4 (a≠0)<|some ((Int.tmod (W ((W ((W ((W (d*16777216))+(W (f*65536))))+(W (h*256))))+j)) a),(x0.1,k.2)))))))))
theorem w8{x0:aa×Int×Int}{c:Int}{a3:bI}{a:bI}{b:Nat}{r:Int×aa×Int×Int}(h:lf x0 c=some r):
  gL Tryz.prog 27 [.pointer a3,.int .i64 c] [lQ a x0.1 b] [lC a3 x0 a b] (λ_:Unit=>True) (λ_=> .int .i64 r.1) (λ_=>[lC a3 (x0.1,r.2.2) a b]):=
 by
  refine V.jn (T:=cl) Tryz.call27 Tryz.func27 U λ_ _=>?_;unfold lf at h;refine V.co ab 10 0 h U (λh=>?_) (λh=>?_)
  ·cases h;exact V.rx ab 4 0 () [0] U
  refine V.co ab 7 0 h U (λh=>?_) (λh=>?_)
  ·refine V.bH ab 3 0 h Ia [0] [0] U ?_;rintro⟨f,g⟩ _ h;obtain⟨d,h⟩:=bC h;cases h;exact V.rx ab 4 0 () [0] ⟨d,U⟩
  refine V.bH ab 4 0 h Ia [0] [0] U ?_;rintro⟨i,j⟩ _ h;refine V.bH ab 5 0 h Ia [0] [0] U ?_;rintro⟨k,l⟩ _ h;refine V.bH ab 5 0 h Ia [0] [0] U ?_;rintro⟨m,n⟩ _ h;refine V.bH ab 5 0 h Ia [0] [0] U ?_;rintro⟨o,p⟩ _ h;obtain⟨e,h⟩:=bC h;cases h;exact V.rx ab 18 0 () [0] ⟨e,U⟩
def Cj(R:bg)(x0:aa×Int×Int)(g:Int)(h:(aa×Int×Int)->Option (aa×aa×Int×Int))(b:(aa×Int×Int×Int)->Option (aa×aa×Int×Int)):(aa×Int×Int×Int)->Option (aa×aa×Int×Int):=λ(a,c,d,e)=>
 (bif(decide (0<c)) then(a4 (((a.length+([32]:aa).length:Nat):Int)<=9223372036854775807)<|(au (R.nR (x0.1,d,e) g) λ(f,i)=>(a4 ((((a++([32]:aa)).length+f.length:Nat):Int)<=9223372036854775807)<|b (((a++([32]:aa))++f),(W (c-1)),i.2)))) else h (a,d,e))
def Ck(R:bg)(x0:aa×Int×Int)(l:Int):Option (aa×aa×Int×Int):=
 (au (lf x0 4) λ(c,e)=>(a4 (0<=c/\c<(([([108,115]:aa),([101,99,104,111]:aa),([99,97,116]:aa),([120,61,49]:aa)]:bl).length:Int))<|(au (lf (x0.1,e.2.1,e.2.2) 3) λ(m,f)=>(a8 (λ((a,n,o):aa×Int×Int)=>(au (lf (x0.1,n,o) 8) λ(g,b)=>(a8 (λ((d,p,q):aa×Int×Int)=>(a8 (λ(r:aa)=>some (r,(x0.1,p,q))) λh=>(bif(decide (g=1)) then(a4 (((d.length+([32,50,62,38,49]:aa).length:Nat):Int)<=9223372036854775807)<|h (d++([32,50,62,38,49]:aa))) else h d))) λi=>(bif(decide (g=0)) then(a4 (((a.length+([32,62]:aa).length:Nat):Int)<=9223372036854775807)<|(au (R.nR (x0.1,b.2.1,b.2.2) 0) λ(j,k)=>(a4 ((((a++([32,62]:aa)).length+j.length:Nat):Int)<=9223372036854775807)<|i (((a++([32,62]:aa))++j),k.2.1,k.2.2)))) else i (a,b.2.1,b.2.2))))) λs=>(fixF (Cj R x0 l s) bB ((at' ([([108,115]:aa),([101,99,104,111]:aa),([99,97,116]:aa),([120,61,49]:aa)]:bl) c),m,f.2.1,f.2.2))))))
theorem ais{R:bg}(e:h8 R){x0:aa×Int×Int}{c:Int}{a3:bI}{a:bI}{b:Nat}{r:aa×aa×Int×Int}(h:Ck R x0 c=some r):
  gL Tryz.prog 55 [.pointer a3,.int .i64 c] [lQ a x0.1 b] [lC a3 x0 a b] (λ_:Unit=>True) (λ_=> .string (a9 r.1)) (λ_=>[lC a3 (x0.1,r.2.2) a b]):=
 by
  refine V.jn (T:=cl) Tryz.call55 Tryz.func55 U λ_ _=>?_;unfold Ck at h;refine V.go ab 6 0 U ?_;refine V.cj (aH.kj U (cL.buildSlice ab U U U U U U U U U U U [] U .str [([108,115]:aa),([101,99,104,111]:aa),([99,97,116]:aa),([120,61,49]:aa)] ⟨U,U⟩ U U λu=>aH.kk (V.ct ?_)));refine V.bH ab 1 0 h w8 [1] [0] U ?_;rintro⟨f,v⟩ _ h;refine V.cj (aH.iG 2 U λd=>V.ct ?_);obtain⟨g,h⟩:=bC h;refine V.go ab 1 0 ⟨d.ix g,U⟩ ?_;refine V.cj (aH.load ab U U U U U U U 2 U U (Int.toNat f) 0 (at' ([([108,115]:aa),([101,99,104,111]:aa),([99,97,116]:aa),([120,61,49]:aa)]:bl) f) ⟨me g,U⟩ U U (V.ct ?_));refine V.bH ab 6 0 h w8 [0] [0] U ?_;rintro⟨w,x⟩ _ h;refine V.da ab 2 0 h (ρ:=Unit) (λs q=>[(0,.bj ⟨a3,1,1⟩ 0),(5,.v (.string (a9 s.1)))]) .nil (λs q=>[lC a3 (x0.1,s.2) a b]) U ?_ ?_
  ·intro y _ h;refine V.e_ ab 0 0 h (ρ:=Unit) (λs q=>[(0,.bj ⟨a3,1,1⟩ 0),(1,.v (.int .i64 c)),(5,.v (.string (a9 s.1))),(6,.v (.int .i64 s.2.1))]) .nil (λs q=>[lC a3 (x0.1,s.2.2) a b]) () [0] U ?_;rintro i ⟨z,A,B,C⟩ _ h;rw[Cj] at h;refine V.co ab 6 0 h U (λh=>?_) (λh=>?_)
   ·obtain⟨j,h⟩:=bC h;refine V.bH ab 8 0 h e.nR [0] [0] ⟨j,U⟩ ?_;rintro⟨D,E⟩ _ h;obtain⟨k,h⟩:=bC h
    try dsimp only at h
    exact V.el ab 9 0 h () [0] ⟨k,U⟩
   exact V.a6 ab 1 0 h () [0] U
  rintro⟨F,G,H⟩ _ h;refine V.bH ab 3 0 h w8 [0] [0] U ?_;rintro⟨l,I⟩ _ h;refine V.e9 ab 2 0 h (ρ:=Unit) (λs q=>[(5,.v (.string (a9 s.1))),(7,.v (.int .i64 l))]) .nil (λs q=>[lC a3 (x0.1,s.2) a b]) U ?_ ?_
  ·intro J _ h;refine V.co ab 5 0 h U (λh=>?_) (λh=>?_)
   ·obtain⟨m,h⟩:=bC h;refine V.bH ab 4 0 h e.nR [0] [0] ⟨m,U⟩ ?_;rintro⟨K,L⟩ _ h;obtain⟨n,h⟩:=bC h
    try dsimp only at h
    exact V.a6 ab 3 0 h () [0] ⟨n,U⟩
   exact V.a6 ab 1 0 h () [0] U
  rintro⟨M,o,p⟩ _ h;refine V.e9 ab 0 0 h (ρ:=Unit) (λs q=>[(5,.v (.string (a9 s)))]) .nil (λs q=>[lC a3 (x0.1,o,p) a b]) U ?_ ?_
  ·intro N _ h;refine V.co ab 5 0 h U (λh=>?_) (λh=>?_)
   ·obtain⟨t,h⟩:=bC h;exact V.a6 ab 5 0 h () [0] ⟨t,U⟩
   exact V.a6 ab 1 0 h () [0] U
  rintro O _ h;cases h;exact V.rx ab 5 0 () [0] U
def vN(R:bg)(x0:aa×Int×Int)(a:Int):Option (aa×aa×Int×Int):=
 (au (lf x0 16) λ(r,b)=>(a8 (λ(c:Int)=>(bif(decide (c=1)) then(au (R.hs (x0.1,b.2) (W (a-1)) ([])) λ(i,s)=>(a4 (((([40]:aa).length+i.length:Nat):Int)<=9223372036854775807)<|(a4 ((((([40]:aa)++i).length+([41]:aa).length:Nat):Int)<=9223372036854775807)<|some (((([40]:aa)++i)++([41]:aa)),(x0.1,s.2))))) else(bif(decide (c=2)) then(au (R.hs (x0.1,b.2) (W (a-1)) ([10]:aa)) λ(j,t)=>(a4 (((([123,32]:aa).length+j.length:Nat):Int)<=9223372036854775807)<|(a4 ((((([123,32]:aa)++j).length+([125]:aa).length:Nat):Int)<=9223372036854775807)<|some (((([123,32]:aa)++j)++([125]:aa)),(x0.1,t.2))))) else(bif(decide (c=3)) then(au (R.hs (x0.1,b.2) (W (a-1)) ([59]:aa)) λ(d,u)=>(a4 (((([105,102,32]:aa).length+d.length:Nat):Int)<=9223372036854775807)<|(a4 ((((([105,102,32]:aa)++d).length+([32,116,104,101,110,32]:aa).length:Nat):Int)<=9223372036854775807)<|(au (R.hs (x0.1,u.2) (W (a-1)) ([10]:aa)) λ(k,v)=>(a4 (((((([105,102,32]:aa)++d)++([32,116,104,101,110,32]:aa)).length+k.length:Nat):Int)<=9223372036854775807)<|(a4 ((((((([105,102,32]:aa)++d)++([32,116,104,101,110,32]:aa))++k).length+([102,105]:aa).length:Nat):Int)<=9223372036854775807)<|some (((((([105,102,32]:aa)++d)++([32,116,104,101,110,32]:aa))++k)++([102,105]:aa)),(x0.1,v.2)))))))) else(bif(decide (c=4)) then(au (R.hs (x0.1,b.2) (W (a-1)) ([10]:aa)) λ(e,w)=>(a4 (((([105,102,32,97,59,32,116,104,101,110,10]:aa).length+e.length:Nat):Int)<=9223372036854775807)<|(a4 ((((([105,102,32,97,59,32,116,104,101,110,10]:aa)++e).length+([101,108,105,102,32,98,10,116,104,101,110,32,99,10,101,108,115,101,32]:aa).length:Nat):Int)<=9223372036854775807)<|(au (R.hs (x0.1,w.2) (W (a-1)) ([59]:aa)) λ(l,x)=>(a4 (((((([105,102,32,97,59,32,116,104,101,110,10]:aa)++e)++([101,108,105,102,32,98,10,116,104,101,110,32,99,10,101,108,115,101,32]:aa)).length+l.length:Nat):Int)<=9223372036854775807)<|(a4 ((((((([105,102,32,97,59,32,116,104,101,110,10]:aa)++e)++([101,108,105,102,32,98,10,116,104,101,110,32,99,10,101,108,115,101,32]:aa))++l).length+([102,105,32,50,62,102]:aa).length:Nat):Int)<=9223372036854775807)<|some (((((([105,102,32,97,59,32,116,104,101,110,10]:aa)++e)++([101,108,105,102,32,98,10,116,104,101,110,32,99,10,101,108,115,101,32]:aa))++l)++([102,105,32,50,62,102]:aa)),(x0.1,x.2)))))))) else(bif(decide (c=5)) then(au (R.hs (x0.1,b.2) (W (a-1)) ([10]:aa)) λ(f,y)=>(a4 (((([119,104,105,108,101,32]:aa).length+f.length:Nat):Int)<=9223372036854775807)<|(a4 ((((([119,104,105,108,101,32]:aa)++f).length+([100,111,32]:aa).length:Nat):Int)<=9223372036854775807)<|(au (R.hs (x0.1,y.2) (W (a-1)) ([59]:aa)) λ(m,z)=>(a4 (((((([119,104,105,108,101,32]:aa)++f)++([100,111,32]:aa)).length+m.length:Nat):Int)<=9223372036854775807)<|(a4 ((((((([119,104,105,108,101,32]:aa)++f)++([100,111,32]:aa))++m).length+([32,100,111,110,101]:aa).length:Nat):Int)<=9223372036854775807)<|some (((((([119,104,105,108,101,32]:aa)++f)++([100,111,32]:aa))++m)++([32,100,111,110,101]:aa)),(x0.1,z.2)))))))) else(bif(decide (c=6)) then(au (R.nR (x0.1,b.2) (W (a-1))) λ(g,A)=>(a4 (((([102,111,114,32,120,32,105,110,32,97,32]:aa).length+g.length:Nat):Int)<=9223372036854775807)<|(a4 ((((([102,111,114,32,120,32,105,110,32,97,32]:aa)++g).length+([59,32,100,111,32]:aa).length:Nat):Int)<=9223372036854775807)<|(au (R.hs (x0.1,A.2) (W (a-1)) ([59]:aa)) λ(n,B)=>(a4 (((((([102,111,114,32,120,32,105,110,32,97,32]:aa)++g)++([59,32,100,111,32]:aa)).length+n.length:Nat):Int)<=9223372036854775807)<|(a4 ((((((([102,111,114,32,120,32,105,110,32,97,32]:aa)++g)++([59,32,100,111,32]:aa))++n).length+([100,111,110,101]:aa).length:Nat):Int)<=9223372036854775807)<|some (((((([102,111,114,32,120,32,105,110,32,97,32]:aa)++g)++([59,32,100,111,32]:aa))++n)++([100,111,110,101]:aa)),(x0.1,B.2)))))))) else(bif(decide (c=7)) then some (([102,111,114,32,120,10,100,111,32,97,10,100,111,110,101]:aa),(x0.1,b.2)) else(bif(decide (c=8)) then(au (R.nR (x0.1,b.2) (W (a-1))) λ(h,C)=>(a4 (((([99,97,115,101,32]:aa).length+h.length:Nat):Int)<=9223372036854775807)<|(a4 ((((([99,97,115,101,32]:aa)++h).length+([32,105,110,32,97,124,98,41,32]:aa).length:Nat):Int)<=9223372036854775807)<|(au (R.hs (x0.1,C.2) (W (a-1)) ([])) λ(o,D)=>(a4 (((((([99,97,115,101,32]:aa)++h)++([32,105,110,32,97,124,98,41,32]:aa)).length+o.length:Nat):Int)<=9223372036854775807)<|(a4 ((((((([99,97,115,101,32]:aa)++h)++([32,105,110,32,97,124,98,41,32]:aa))++o).length+([59,59,10,40,99,41,32,59,59,32,100,41,32,101,115,97,99]:aa).length:Nat):Int)<=9223372036854775807)<|some (((((([99,97,115,101,32]:aa)++h)++([32,105,110,32,97,124,98,41,32]:aa))++o)++([59,59,10,40,99,41,32,59,59,32,100,41,32,101,115,97,99]:aa)),(x0.1,D.2)))))))) else(bif(decide (c=9)) then(au (R.hs (x0.1,b.2) (W (a-1)) ([10]:aa)) λ(p,E)=>(a4 (((([102,40,41,32,123,10]:aa).length+p.length:Nat):Int)<=9223372036854775807)<|(a4 ((((([102,40,41,32,123,10]:aa)++p).length+([125,32,62,102]:aa).length:Nat):Int)<=9223372036854775807)<|some (((([102,40,41,32,123,10]:aa)++p)++([125,32,62,102]:aa)),(x0.1,E.2))))) else(au (Ck R (x0.1,b.2) a) λ(F,G)=>some (F,(x0.1,G.2))))))))))))) λq=>(bif(decide (a<=0)) then q 0 else q r)))
theorem ER{R:bg}(a:h8 R){x0:aa×Int×Int}{d:Int}{a3:bI}{b:bI}{c:Nat}{r:aa×aa×Int×Int}(h:vN R x0 d=some r):
  gL Tryz.prog 36 [.pointer a3,.int .i64 d] [lQ b x0.1 c] [lC a3 x0 b c] (λ_:Unit=>True) (λ_=> .string (a9 r.1)) (λ_=>[lC a3 (x0.1,r.2.2) b c]):=
 by
  refine V.jn (T:=cl) Tryz.call36 Tryz.func36 U λ_ _=>?_;unfold vN at h;refine V.bH ab 7 0 h w8 [0] [0] U ?_;rintro⟨J,t⟩ _ h;refine V.e9 ab 2 0 h (ρ:=Unit) (λs q=>[(0,.bj ⟨a3,1,1⟩ 0),(1,.v (.int .i64 d)),(5,.v (.int .i64 s))]) .nil (λs q=>[lC a3 (x0.1,t.2) b c]) U ?_ ?_
  ·intro K _ h;refine V.co ab 5 0 h U (λh=>?_) (λh=>?_)
   ·exact V.a6 ab 3 0 h () [0] U
   exact V.a6 ab 1 0 h () [0] U
  rintro L _ h;refine V.co ab 11 0 h U (λh=>?_) (λh=>?_)
  ·refine V.bH ab 5 0 h a.hs [0] [0] U ?_;rintro⟨M,N⟩ _ h;obtain⟨u,h⟩:=bC h;obtain⟨v,h⟩:=bC h;cases h;exact V.rx ab 4 0 () [0] ⟨u,v,U⟩
  refine V.co ab 5 0 h U (λh=>?_) (λh=>?_)
  ·refine V.bH ab 5 0 h a.hs [0] [0] U ?_;rintro⟨O,P⟩ _ h;obtain⟨w,h⟩:=bC h;obtain⟨x,h⟩:=bC h;cases h;exact V.rx ab 4 0 () [0] ⟨w,x,U⟩
  refine V.co ab 5 0 h U (λh=>?_) (λh=>?_)
  ·refine V.bH ab 5 0 h a.hs [0] [0] U ?_;rintro⟨Q,S⟩ _ h;obtain⟨y,h⟩:=bC h;obtain⟨z,h⟩:=bC h;refine V.bH ab 5 0 h a.hs [0] [0] ⟨y,z,U⟩ ?_;rintro⟨W,X⟩ _ h;obtain⟨e,h⟩:=bC h;obtain⟨A,h⟩:=bC h;cases h;exact V.rx ab 4 0 () [0] ⟨e,A,U⟩
  refine V.co ab 5 0 h U (λh=>?_) (λh=>?_)
  ·refine V.bH ab 5 0 h a.hs [0] [0] U ?_;rintro⟨Y,Z⟩ _ h;obtain⟨B,h⟩:=bC h;obtain⟨C,h⟩:=bC h;refine V.bH ab 5 0 h a.hs [0] [0] ⟨B,C,U⟩ ?_;rintro⟨gp,ej⟩ _ h;obtain⟨D,h⟩:=bC h;obtain⟨f,h⟩:=bC h;cases h;exact V.rx ab 4 0 () [0] ⟨D,f,U⟩
  refine V.co ab 5 0 h U (λh=>?_) (λh=>?_)
  ·refine V.bH ab 5 0 h a.hs [0] [0] U ?_;rintro⟨lT,kT⟩ _ h;obtain⟨g,h⟩:=bC h;obtain⟨E,h⟩:=bC h;refine V.bH ab 5 0 h a.hs [0] [0] ⟨g,E,U⟩ ?_;rintro⟨jZ,f_⟩ _ h;obtain⟨F,h⟩:=bC h;obtain⟨i,h⟩:=bC h;cases h;exact V.rx ab 4 0 () [0] ⟨F,i,U⟩
  refine V.co ab 5 0 h U (λh=>?_) (λh=>?_)
  ·refine V.bH ab 5 0 h a.nR [0] [0] U ?_;rintro⟨ga,po⟩ _ h;obtain⟨G,h⟩:=bC h;obtain⟨H,h⟩:=bC h;refine V.bH ab 5 0 h a.hs [0] [0] ⟨G,H,U⟩ ?_;rintro⟨l3,nT⟩ _ h;obtain⟨j,h⟩:=bC h;obtain⟨I,h⟩:=bC h;cases h;exact V.rx ab 4 0 () [0] ⟨j,I,U⟩
  refine V.co ab 5 0 h U (λh=>?_) (λh=>?_)
  ·cases h;exact V.rx ab 4 0 () [0] U
  refine V.co ab 5 0 h U (λh=>?_) (λh=>?_)
  ·refine V.bH ab 5 0 h a.nR [0] [0] U ?_;rintro⟨jX,uo⟩ _ h;obtain⟨k,h⟩:=bC h;obtain⟨l,h⟩:=bC h;refine V.bH ab 5 0 h a.hs [0] [0] ⟨k,l,U⟩ ?_;rintro⟨jL,nx⟩ _ h;obtain⟨m,h⟩:=bC h;obtain⟨n,h⟩:=bC h;cases h;exact V.rx ab 4 0 () [0] ⟨m,n,U⟩
  refine V.co ab 5 0 h U (λh=>?_) (λh=>?_)
  ·refine V.bH ab 5 0 h a.hs [0] [0] U ?_;rintro⟨nV,kU⟩ _ h;obtain⟨o,h⟩:=bC h;obtain⟨p,h⟩:=bC h;cases h;exact V.rx ab 4 0 () [0] ⟨o,p,U⟩
  refine V.bH ab 6 0 h (ais a) [0] [0] U ?_;rintro⟨m8,ko⟩ _ h;cases h;exact V.rx ab 2 0 () [0] U
def Cl(R:bg)(x0:aa×Int×Int)(f:Int)(g:(aa×Int×Int)->Option (aa×aa×Int×Int))(h:(aa×Int×Int×Int)->Option (aa×aa×Int×Int)):(aa×Int×Int×Int)->Option (aa×aa×Int×Int):=λ(a,b,c,d)=>
 (bif(decide (0<b)) then(a8 (λ((i,j,k):aa×Int×Int)=>h (i,(W (b-1)),j,k)) λl=>(au (lf (x0.1,c,d) 8) λ(y23,m)=>(a4 (0<=y23/\y23<(([([32,38,38,32]:aa),([32,124,124,32]:aa),([32,124,32]:aa),([59,32]:aa),([32,38,32]:aa),([10]:aa),([32,124,10]:aa),([59,32,35,32,114,10]:aa)]:bl).length:Int))<|(a4 (((a.length+(at' ([([32,38,38,32]:aa),([32,124,124,32]:aa),([32,124,32]:aa),([59,32]:aa),([32,38,32]:aa),([10]:aa),([32,124,10]:aa),([59,32,35,32,114,10]:aa)]:bl) y23).length:Nat):Int)<=9223372036854775807)<|(au (vN R (x0.1,m.2) f) λ(e,n)=>(a4 ((((a++(at' ([([32,38,38,32]:aa),([32,124,124,32]:aa),([32,124,32]:aa),([59,32]:aa),([32,38,32]:aa),([10]:aa),([32,124,10]:aa),([59,32,35,32,114,10]:aa)]:bl) y23)).length+e.length:Nat):Int)<=9223372036854775807)<|l (((a++(at' ([([32,38,38,32]:aa),([32,124,124,32]:aa),([32,124,32]:aa),([59,32]:aa),([32,38,32]:aa),([10]:aa),([32,124,10]:aa),([59,32,35,32,114,10]:aa)]:bl) y23))++e),n.2))))))) else g (a,c,d))
def Ib(R:bg)(x0:aa×Int×Int)(a:Int)(b:aa):Option (aa×aa×Int×Int):=
 (au (vN R x0 a) λ(f,c)=>(au (lf (x0.1,c.2.1,c.2.2) 3) λ(g,d)=>(a8 (λ((e,h,i):aa×Int×Int)=>(a4 (((e.length+b.length:Nat):Int)<=9223372036854775807)<|some ((e++b),(x0.1,h,i)))) λj=>(fixF (Cl R x0 a j) bB (f,g,d.2.1,d.2.2)))))
theorem aiF{R:bg}(e:h8 R){x0:aa×Int×Int}{i:Int}{j:aa}{a:bI}{f:bI}{g:Nat}{r:aa×aa×Int×Int}(h:Ib R x0 i j=some r):
  gL Tryz.prog 26 [.pointer a,.int .i64 i,.string (a9 j)] [lQ f x0.1 g] [lC a x0 f g] (λ_:Unit=>True) (λ_=> .string (a9 r.1)) (λ_=>[lC a (x0.1,r.2.2) f g]):=
 by
  refine V.jn (T:=cl) Tryz.call26 Tryz.func26 U λ_ _=>?_;unfold Ib at h;refine V.bH ab 8 0 h (ER e) [0] [0] U ?_;rintro⟨A,B⟩ _ h;refine V.bH ab 6 0 h w8 [0] [0] U ?_;rintro⟨C,D⟩ _ h;refine V.da ab 2 0 h (ρ:=Unit) (λs q=>[(2,.v (.string (a9 j))),(7,.v (.string (a9 s.1)))]) .nil (λs q=>[lC a (x0.1,s.2) f g]) U ?_ ?_
  ·intro E _ h;refine V.e_ ab 0 0 h (ρ:=Unit) (λs q=>[(0,.bj ⟨a,1,1⟩ 0),(1,.v (.int .i64 i)),(2,.v (.string (a9 j))),(7,.v (.string (a9 s.1))),(8,.v (.int .i64 s.2.1))]) .nil (λs q=>[lC a (x0.1,s.2.2) f g]) () [0] U ?_;rintro x ⟨b,y,F,G⟩ _ h;rw[Cl] at h;refine V.co ab 6 0 h U (λh=>?_) (λh=>?_)
   ·refine V.aeF ab 3 0 h (ρ:=Unit) (λs q=>[(0,.bj ⟨a,1,1⟩ 0),(1,.v (.int .i64 i)),(2,.v (.string (a9 j))),(7,.v (.string (a9 s.1))),(8,.v (.int .i64 y))]) .nil (λs q=>[lC a (x0.1,s.2) f g]) U ?_ ?_
    ·intro H _ h;obtain⟨⟨y23,I⟩,w,h⟩:=jH h;obtain⟨c,h⟩:=bC h;obtain⟨k,h⟩:=bC h;obtain⟨⟨l,J⟩,m,h⟩:=jH h;obtain⟨n,h⟩:=bC h;refine V.jm (aT.r7 U .nil [] [] trivial U (λz=>?_));refine bE.eI ab gn true 8 [0,2,7,8] U (by kernel_rfl) [] [(18,.v (.string (a9 b))),(20,.bj ⟨a,1,1⟩ 0),(25,.bj ⟨a,1,1⟩ 0),(26,.v (.int .i64 i))] trivial [] U U (fL U) ?_;refine bE.all (rs:=[1,3]) (by kernel_rfl) U (xK.2 ⟨?_,xK.2 ⟨?_,(λ_ d=>absurd d qD)⟩⟩)
     ·refine cL.buildSlice ab U U U U U U U U U U U [] U .str [([32,38,38,32]:aa),([32,124,124,32]:aa),([32,124,32]:aa),([59,32]:aa),([32,38,32]:aa),([10]:aa),([32,124,10]:aa),([59,32,35,32,114,10]:aa)] ⟨U,U⟩ U U λo=>bE.next trivial [] U (bE.one 3 (by kernel_rfl) (cL.p4 U U U U (w8 w) U [1] U [0] U U λ_ _=>bE.next trivial [] U (cL.iG 2 U λp=>bE.eI ab gn true 5 [4] U (by kernel_rfl) [] [(22,.bj ⟨o,([([32,38,38,32]:aa),([32,124,124,32]:aa),([32,124,32]:aa),([59,32]:aa),([32,38,32]:aa),([10]:aa),([32,124,10]:aa),([59,32,35,32,114,10]:aa)]:bl).length,([([32,38,38,32]:aa),([32,124,124,32]:aa),([32,124,32]:aa),([59,32]:aa),([32,38,32]:aa),([10]:aa),([32,124,10]:aa),([59,32,35,32,114,10]:aa)]:bl).length⟩ (Int.toNat y23*1))] trivial [] U U ⟨p.ix c,⟨U,trivial⟩⟩ ?_)));refine bE.all (rs:=[5,9]) (by kernel_rfl) U (xK.2 ⟨?_,xK.2 ⟨?_,(λ_ d=>absurd d qD)⟩⟩)
      ·refine cL.load ab U U U U U U U 2 U U (Int.toNat y23) 0 (at' ([([32,38,38,32]:aa),([32,124,124,32]:aa),([32,124,32]:aa),([59,32]:aa),([32,38,32]:aa),([10]:aa),([32,124,10]:aa),([59,32,35,32,114,10]:aa)]:bl) y23) ⟨me c,U⟩ U U (bE.next trivial [] U (bE.eI ab gn true 3 [6] U (by kernel_rfl) [] [(24,.v (.string (a9 (b++(at' ([([32,38,38,32]:aa),([32,124,124,32]:aa),([32,124,32]:aa),([59,32]:aa),([32,38,32]:aa),([10]:aa),([32,124,10]:aa),([59,32,35,32,114,10]:aa)]:bl) y23)))))] trivial [] U U ⟨k,⟨U,trivial⟩⟩ (bE.one 9 (by kernel_rfl) (cL.p4 U U U U (ER e m) U [0] U [0] U U λ_ _=>bE.next trivial [] U (bE.eI ab gn true 0 [10,11] U (by kernel_rfl) [] [(7,.v (.string (a9 ((b++(at' ([([32,38,38,32]:aa),([32,124,124,32]:aa),([32,124,32]:aa),([59,32]:aa),([32,38,32]:aa),([10]:aa),([32,124,10]:aa),([59,32,35,32,114,10]:aa)]:bl) y23))++l))))] trivial [] U U ⟨n,⟨U,trivial⟩⟩ (bE.done (by kernel_rfl) (aT.boxes (B':= .nil) trivial (V.h7 ?_))))))));exact V.a6 ab 0 0 h () [0] U
      refine cL.p4 U U U U (ER e m) U [0] U [0] U U λ_ _=>bE.next trivial [] U (bE.one 5 (by kernel_rfl) (cL.load ab U U U U U U U 2 U U (Int.toNat y23) 0 (at' ([([32,38,38,32]:aa),([32,124,124,32]:aa),([32,124,32]:aa),([59,32]:aa),([32,38,32]:aa),([10]:aa),([32,124,10]:aa),([59,32,35,32,114,10]:aa)]:bl) y23) ⟨me c,U⟩ U U (bE.next trivial [] U (bE.eI ab gn true 0 [6,10,11] U (by kernel_rfl) [] [(7,.v (.string (a9 ((b++(at' ([([32,38,38,32]:aa),([32,124,124,32]:aa),([32,124,32]:aa),([59,32]:aa),([32,38,32]:aa),([10]:aa),([32,124,10]:aa),([59,32,35,32,114,10]:aa)]:bl) y23))++l))))] trivial [] U U ⟨k,n,⟨U,trivial⟩⟩ (bE.done (by kernel_rfl) (aT.boxes (B':= .nil) trivial (V.h7 ?_)))))));exact V.a6 ab 0 0 h () [0] U
     refine cL.p4 U U U U (w8 w) U [0] U [0] U U λ_ _=>bE.next trivial [] U ?_;refine bE.all (rs:=[1,9]) (by kernel_rfl) U (xK.2 ⟨?_,xK.2 ⟨?_,(λ_ d=>absurd d qD)⟩⟩)
     ·refine cL.buildSlice ab U U U U U U U U U U U [] U .str [([32,38,38,32]:aa),([32,124,124,32]:aa),([32,124,32]:aa),([59,32]:aa),([32,38,32]:aa),([10]:aa),([32,124,10]:aa),([59,32,35,32,114,10]:aa)] ⟨U,U⟩ U U λo=>bE.next trivial [] U (cL.iG 1 U λt=>bE.eI ab gn true 5 [4] U (by kernel_rfl) [] [(22,.bj ⟨o,([([32,38,38,32]:aa),([32,124,124,32]:aa),([32,124,32]:aa),([59,32]:aa),([32,38,32]:aa),([10]:aa),([32,124,10]:aa),([59,32,35,32,114,10]:aa)]:bl).length,([([32,38,38,32]:aa),([32,124,124,32]:aa),([32,124,32]:aa),([59,32]:aa),([32,38,32]:aa),([10]:aa),([32,124,10]:aa),([59,32,35,32,114,10]:aa)]:bl).length⟩ (Int.toNat y23*1))] trivial [] U U ⟨t.ix c,⟨U,trivial⟩⟩ ?_);refine bE.all (rs:=[5,9]) (by kernel_rfl) U (xK.2 ⟨?_,xK.2 ⟨?_,(λ_ d=>absurd d qD)⟩⟩)
      ·refine cL.load ab U U U U U U U 1 U U (Int.toNat y23) 0 (at' ([([32,38,38,32]:aa),([32,124,124,32]:aa),([32,124,32]:aa),([59,32]:aa),([32,38,32]:aa),([10]:aa),([32,124,10]:aa),([59,32,35,32,114,10]:aa)]:bl) y23) ⟨me c,U⟩ U U (bE.next trivial [] U (bE.eI ab gn true 3 [6] U (by kernel_rfl) [] [(24,.v (.string (a9 (b++(at' ([([32,38,38,32]:aa),([32,124,124,32]:aa),([32,124,32]:aa),([59,32]:aa),([32,38,32]:aa),([10]:aa),([32,124,10]:aa),([59,32,35,32,114,10]:aa)]:bl) y23)))))] trivial [] U U ⟨k,⟨U,trivial⟩⟩ (bE.one 9 (by kernel_rfl) (cL.p4 U U U U (ER e m) U [1] U [0] U U λ_ _=>bE.next trivial [] U (bE.eI ab gn true 0 [10,11] U (by kernel_rfl) [] [(7,.v (.string (a9 ((b++(at' ([([32,38,38,32]:aa),([32,124,124,32]:aa),([32,124,32]:aa),([59,32]:aa),([32,38,32]:aa),([10]:aa),([32,124,10]:aa),([59,32,35,32,114,10]:aa)]:bl) y23))++l))))] trivial [] U U ⟨n,⟨U,trivial⟩⟩ (bE.done (by kernel_rfl) (aT.boxes (B':= .nil) trivial (V.h7 ?_))))))));exact V.a6 ab 0 0 h () [0] U
      refine cL.p4 U U U U (ER e m) U [1] U [0] U U λ_ _=>bE.next trivial [] U (bE.one 5 (by kernel_rfl) (cL.load ab U U U U U U U 2 U U (Int.toNat y23) 0 (at' ([([32,38,38,32]:aa),([32,124,124,32]:aa),([32,124,32]:aa),([59,32]:aa),([32,38,32]:aa),([10]:aa),([32,124,10]:aa),([59,32,35,32,114,10]:aa)]:bl) y23) ⟨me c,U⟩ U U (bE.next trivial [] U (bE.eI ab gn true 0 [6,10,11] U (by kernel_rfl) [] [(7,.v (.string (a9 ((b++(at' ([([32,38,38,32]:aa),([32,124,124,32]:aa),([32,124,32]:aa),([59,32]:aa),([32,38,32]:aa),([10]:aa),([32,124,10]:aa),([59,32,35,32,114,10]:aa)]:bl) y23))++l))))] trivial [] U U ⟨k,n,⟨U,trivial⟩⟩ (bE.done (by kernel_rfl) (aT.boxes (B':= .nil) trivial (V.h7 ?_)))))));exact V.a6 ab 0 0 h () [0] U
     refine cL.p4 U U U U (ER e m) U [0] U [0] U U λ_ _=>bE.next trivial [] U (bE.one 1 (by kernel_rfl) (cL.buildSlice ab U U U U U U U U U U U [] U .str [([32,38,38,32]:aa),([32,124,124,32]:aa),([32,124,32]:aa),([59,32]:aa),([32,38,32]:aa),([10]:aa),([32,124,10]:aa),([59,32,35,32,114,10]:aa)] ⟨U,U⟩ U U λo=>bE.next trivial [] U (cL.iG 1 U λu=>bE.eI ab gn true 4 [4] U (by kernel_rfl) [] [(22,.bj ⟨o,([([32,38,38,32]:aa),([32,124,124,32]:aa),([32,124,32]:aa),([59,32]:aa),([32,38,32]:aa),([10]:aa),([32,124,10]:aa),([59,32,35,32,114,10]:aa)]:bl).length,([([32,38,38,32]:aa),([32,124,124,32]:aa),([32,124,32]:aa),([59,32]:aa),([32,38,32]:aa),([10]:aa),([32,124,10]:aa),([59,32,35,32,114,10]:aa)]:bl).length⟩ (Int.toNat y23*1))] trivial [] U U ⟨u.ix c,⟨U,trivial⟩⟩ (bE.one 5 (by kernel_rfl) (cL.load ab U U U U U U U 1 U U (Int.toNat y23) 0 (at' ([([32,38,38,32]:aa),([32,124,124,32]:aa),([32,124,32]:aa),([59,32]:aa),([32,38,32]:aa),([10]:aa),([32,124,10]:aa),([59,32,35,32,114,10]:aa)]:bl) y23) ⟨me c,U⟩ U U (bE.next trivial [] U (bE.eI ab gn true 0 [6,10,11] U (by kernel_rfl) [] [(7,.v (.string (a9 ((b++(at' ([([32,38,38,32]:aa),([32,124,124,32]:aa),([32,124,32]:aa),([59,32]:aa),([32,38,32]:aa),([10]:aa),([32,124,10]:aa),([59,32,35,32,114,10]:aa)]:bl) y23))++l))))] trivial [] U U ⟨k,n,⟨U,trivial⟩⟩ (bE.done (by kernel_rfl) (aT.boxes (B':= .nil) trivial (V.h7 ?_))))))))));exact V.a6 ab 0 0 h () [1] U
    rintro⟨K,L,M⟩ _ h
    try dsimp only at h
    exact V.el ab 6 0 h () [0] U
   exact V.a6 ab 1 0 h () [0] U
  rintro⟨N,O,P⟩ _ h;obtain⟨v,h⟩:=bC h;cases h;exact V.rx ab 7 0 () [0] ⟨v,U⟩
def Ie(R:bg)(x0:aa×Int×Int)(c:Int):Option (aa×aa×Int×Int):=
 (au (lf x0 14) λ(h,a)=>(a8 (λ(b:Int)=>(bif(decide (b=1)) then some (([39,113,32,114,39]:aa),(x0.1,a.2)) else(bif(decide (b=2)) then some (([34,97,32,98,34]:aa),(x0.1,a.2)) else(bif(decide (b=3)) then some (([97,92,32,98]:aa),(x0.1,a.2)) else(bif(decide (b=4)) then some (([36,120]:aa),(x0.1,a.2)) else(bif(decide (b=5)) then some (([36,40,40,49,43,40,50,41,41,41]:aa),(x0.1,a.2)) else(bif(decide (b=6)) then some (([96,99,32,100,96]:aa),(x0.1,a.2)) else(bif(decide (b=7)) then some (([45,108]:aa),(x0.1,a.2)) else(bif(decide (b=8)) then(au (R.hs (x0.1,a.2) (W (c-1)) ([])) λ(d,j)=>(a4 (((([36,40]:aa).length+d.length:Nat):Int)<=9223372036854775807)<|(a4 ((((([36,40]:aa)++d).length+([41]:aa).length:Nat):Int)<=9223372036854775807)<|some (((([36,40]:aa)++d)++([41]:aa)),(x0.1,j.2))))) else(bif(decide (b=9)) then(au (R.hs (x0.1,a.2) (W (c-1)) ([])) λ(e,k)=>(a4 (((([34,120,36,40]:aa).length+e.length:Nat):Int)<=9223372036854775807)<|(a4 ((((([34,120,36,40]:aa)++e).length+([41,34]:aa).length:Nat):Int)<=9223372036854775807)<|some (((([34,120,36,40]:aa)++e)++([41,34]:aa)),(x0.1,k.2))))) else(bif(decide (b=10)) then(au (R.nR (x0.1,a.2) (W (c-1))) λ(f,l)=>(a4 (((([36,123,120,58,45]:aa).length+f.length:Nat):Int)<=9223372036854775807)<|(a4 ((((([36,123,120,58,45]:aa)++f).length+([125]:aa).length:Nat):Int)<=9223372036854775807)<|some (((([36,123,120,58,45]:aa)++f)++([125]:aa)),(x0.1,l.2))))) else(bif(decide (b=11)) then some (([97,92,10,98]:aa),(x0.1,a.2)) else(au (lf (x0.1,a.2) 7) λ(g,m)=>(a4 (0<=g/\g<(([([97]:aa),([98,49]:aa),([120,61,49]:aa),([102,105,108,101]:aa),([195,169]:aa),([105,110]:aa),([97,35,98]:aa)]:bl).length:Int))<|some ((at' ([([97]:aa),([98,49]:aa),([120,61,49]:aa),([102,105,108,101]:aa),([195,169]:aa),([105,110]:aa),([97,35,98]:aa)]:bl) g),(x0.1,m.2)))))))))))))))) λi=>(bif(bif(decide (c<=0)) then(decide (8<=h)) else false) then i 0 else i h)))
theorem aiK{R:bg}(c:h8 R){x0:aa×Int×Int}{d:Int}{a3:bI}{a:bI}{b:Nat}{r:aa×aa×Int×Int}(h:Ie R x0 d=some r):
  gL Tryz.prog 54 [.pointer a3,.int .i64 d] [lQ a x0.1 b] [lC a3 x0 a b] (λ_:Unit=>True) (λ_=> .string (a9 r.1)) (λ_=>[lC a3 (x0.1,r.2.2) a b]):=
 by
  refine V.jn (T:=cl) Tryz.call54 Tryz.func54 U λ_ _=>?_;unfold Ie at h;refine V.bH ab 7 0 h w8 [0] [0] U ?_;rintro⟨p,i⟩ _ h;refine V.e9 ab 2 0 h (ρ:=Unit) (λs q=>[(0,.bj ⟨a3,1,1⟩ 0),(1,.v (.int .i64 d)),(5,.v (.int .i64 s))]) .nil (λs q=>[lC a3 (x0.1,i.2) a b]) U ?_ ?_
  ·intro t _ h;refine V.co ab 9 0 h U (λh=>?_) (λh=>?_)
   ·exact V.a6 ab 3 0 h () [0] U
   exact V.a6 ab 1 0 h () [0] U
  rintro u _ h;refine V.co ab 11 0 h U (λh=>?_) (λh=>?_)
  ·cases h;exact V.rx ab 4 0 () [0] U
  refine V.co ab 5 0 h U (λh=>?_) (λh=>?_)
  ·cases h;exact V.rx ab 4 0 () [0] U
  refine V.co ab 5 0 h U (λh=>?_) (λh=>?_)
  ·cases h;exact V.rx ab 4 0 () [0] U
  refine V.co ab 5 0 h U (λh=>?_) (λh=>?_)
  ·cases h;exact V.rx ab 4 0 () [0] U
  refine V.co ab 5 0 h U (λh=>?_) (λh=>?_)
  ·cases h;exact V.rx ab 4 0 () [0] U
  refine V.co ab 5 0 h U (λh=>?_) (λh=>?_)
  ·cases h;exact V.rx ab 4 0 () [0] U
  refine V.co ab 5 0 h U (λh=>?_) (λh=>?_)
  ·cases h;exact V.rx ab 4 0 () [0] U
  refine V.co ab 5 0 h U (λh=>?_) (λh=>?_)
  ·refine V.bH ab 5 0 h c.hs [0] [0] U ?_;rintro⟨v,w⟩ _ h;obtain⟨j,h⟩:=bC h;obtain⟨k,h⟩:=bC h;cases h;exact V.rx ab 4 0 () [0] ⟨j,k,U⟩
  refine V.co ab 5 0 h U (λh=>?_) (λh=>?_)
  ·refine V.bH ab 5 0 h c.hs [0] [0] U ?_;rintro⟨x,y⟩ _ h;obtain⟨l,h⟩:=bC h;obtain⟨m,h⟩:=bC h;cases h;exact V.rx ab 4 0 () [0] ⟨l,m,U⟩
  refine V.co ab 5 0 h U (λh=>?_) (λh=>?_)
  ·refine V.bH ab 5 0 h c.nR [0] [0] U ?_;rintro⟨z,A⟩ _ h;obtain⟨n,h⟩:=bC h;obtain⟨o,h⟩:=bC h;cases h;exact V.rx ab 4 0 () [0] ⟨n,o,U⟩
  refine V.co ab 5 0 h U (λh=>?_) (λh=>?_)
  ·cases h;exact V.rx ab 4 0 () [0] U
  refine V.go ab 4 0 U ?_;refine V.cj (aH.kj U (cL.buildSlice ab U U U U U U U U U U U [] U .str [([97]:aa),([98,49]:aa),([120,61,49]:aa),([102,105,108,101]:aa),([195,169]:aa),([105,110]:aa),([97,35,98]:aa)] ⟨U,U⟩ U U λB=>aH.kk (V.ct ?_)));refine V.bH ab 1 0 h w8 [1] [0] U ?_;rintro⟨f,C⟩ _ h;refine V.cj (aH.iG 2 U λe=>V.ct ?_);obtain⟨g,h⟩:=bC h;refine V.go ab 1 0 ⟨e.ix g,U⟩ ?_;refine V.cj (aH.load ab U U U U U U U 2 U U (Int.toNat f) 0 (at' ([([97]:aa),([98,49]:aa),([120,61,49]:aa),([102,105,108,101]:aa),([195,169]:aa),([105,110]:aa),([97,35,98]:aa)]:bl) f) ⟨me g,U⟩ U U (V.ct ?_));cases h;exact V.rx ab 2 0 () [0] U
def kF:Nat->bg
 |0=>⟨λ_ _ _=>none,λ_ _ _=>none,λ_ _ _ _=>none,λ_=>none,λ_ _ _=>none,λ_ _=>none⟩
 |n+1=>⟨Em (kF n),HI (kF n),EN (kF n),H_ (kF n),Ib (kF n),Ie (kF n)⟩
theorem Cm:∀n,h8 (kF n)
 |0=>⟨λh=>(Dl _ (Eq.symm (show none=some _ from h))).elim,λh=>(Dl _ (Eq.symm (show none=some _ from h))).elim,λh=>(Dl _ (Eq.symm (show none=some _ from h))).elim,λh=>(Dl _ (Eq.symm (show none=some _ from h))).elim,λh=>(Dl _ (Eq.symm (show none=some _ from h))).elim,λh=>(Dl _ (Eq.symm (show none=some _ from h))).elim⟩
 |n+1=>⟨agw (Cm n),agM (Cm n),aia (Cm n),aim (Cm n),aiF (Cm n),aiK (Cm n)⟩
def ss:bg:=kF bB
theorem LJ:h8 ss:=Cm bB
def LK(x0:aa)(d:Int->Option (aa×Int×Int))(b:(Int×Int)->Option (aa×Int×Int)):(Int×Int)->Option (aa×Int×Int):=λ(c,a)=>
 (bif(bif(decide (a<(x0.length:Int))) then(decide (a<4000)) else false) then(a4 (0<=a/\a<(x0.length:Int))<|b ((W (((BitVec.ofInt (IntKind.bits .i64) (W ((W ((W (c*137))+((at' x0 a).toNat:Int)))+7))&&&BitVec.ofInt (IntKind.bits .i64) 1073741823).toNat:Int))),(W (a+1)))) else d c)
def ES(x0:aa):Option (aa×Int×Int):=
 (a8 (λ(a:Int)=>some (x0,0,a)) λb=>(fixF (LK x0 b) bB ((W (600128+(x0.length:Int))),0)))
theorem aiN{x0:aa}{a2:bI}{a:Nat}{r:aa×Int×Int}(h:ES x0=some r):
  FC Tryz.prog 20 [.slice a2 x0.length a] [lQ a2 x0 a] (λ_:bI=>True) (λq=> .pointer q) (λq=>[lC q (x0,r.2) a2 a]):=
 by
  refine V.fM (T:=cl) Tryz.call20 Tryz.func20 U λ_=>?_;unfold ES at h;refine V.da ab 16 0 h (ρ:=Unit) (λs q=>[(0,.v (.slice a2 x0.length a)),(3,.v (.int .i64 s))]) .nil (λs q=>[]) U ?_ ?_
  ·intro j _ h;refine V.e_ ab 0 0 h (ρ:=Unit) (λs q=>[(0,.v (.slice a2 x0.length a)),(3,.v (.int .i64 s.1)),(4,.v (.int .i64 s.2))]) .nil (λs q=>[]) () [] U ?_;rintro i ⟨c,b⟩ _ h;rw[LK] at h;refine V.co ab 12 0 h U (λh=>?_) (λh=>?_)
   ·refine V.go ab 4 0 U ?_;refine V.cj (aH.iG 0 U λe=>V.ct ?_);obtain⟨g,h⟩:=bC h;refine V.go ab 5 0 ⟨e.ix g,U⟩ ?_;refine V.cj (aH.load ab U U U U U U U 0 U U (Int.toNat b) 0 (at' x0 b) ⟨me g,U⟩ U U (V.ct ?_));refine V.cj (aH.eI ab 5 [((at' x0 b).toNat:Int),(W ((W (c*137))+((at' x0 b).toNat:Int))),(W ((W ((W (c*137))+((at' x0 b).toNat:Int)))+7)),(W (((BitVec.ofInt (IntKind.bits .i64) (W ((W ((W (c*137))+((at' x0 b).toNat:Int)))+7))&&&BitVec.ofInt (IntKind.bits .i64) 1073741823).toNat:Int)))] [] [(3,.v (.int .i64 (W (((BitVec.ofInt (IntKind.bits .i64) (W ((W ((W (c*137))+((at' x0 b).toNat:Int)))+7))&&&BitVec.ofInt (IntKind.bits .i64) 1073741823).toNat:Int)))))] _ U ⟨⟨trivial,Kc _⟩,⟨trivial,U⟩,⟨trivial,U⟩,⟨trivial,U⟩,⟨U,trivial⟩,U⟩ (V.ct ?_));exact V.el ab 7 0 h () [] U
   exact V.a6 ab 1 0 h () [] U
  rintro f _ h;refine V.jm (aT.DL ab 5 [] [9] [(2,.e2 9 0),(31,.e2 9 0)] (.new 9 36 [.slice a2 x0.length a,.int .i64 0,.int .i64 f] .nil) ⟨(fL U),(jw U U)⟩ U U (V.h7 ?_));refine V.jm (aT.unbox 9 U (B':= .nil) trivial U (.pair .val (.pair (.int .i64) (.int .i64))) ((bw.v ⟨a2,x0.length,a⟩),0,f) ⟨U,U,U⟩ (λd=>[(0,.v (.slice a2 x0.length a)),(2,.bj ⟨d,1,1⟩ 0),(3,.v (.int .i64 f)),(31,.bj ⟨d,1,1⟩ 0)]) (λ_=>(fL U)) λd=>V.h7 ?_);cases h;exact V.rt ab 0 0 d [0] U
def Cn(x0:aa):Option aa:=
 (au (ES x0) λ(d:aa×Int×Int)=>(au (ss.hs (x0,d.2) 3 ([])) λ(a,e)=>(a8 (λ((f,h,i):aa×Int×Int)=>some f) λb=>(au (lf (x0,e.2) 4) λ(g,c)=>(bif(decide (g=0)) then(a4 (((([99,97,116,32,60,60,69,59,32]:aa).length+a.length:Nat):Int)<=9223372036854775807)<|(a4 ((((([99,97,116,32,60,60,69,59,32]:aa)++a).length+([10,98,111,100,121,10,69,10]:aa).length:Nat):Int)<=9223372036854775807)<|b (((([99,97,116,32,60,60,69,59,32]:aa)++a)++([10,98,111,100,121,10,69,10]:aa)),c.2))) else b (a,c.2))))))
theorem Xe{x0:aa}{a2:bI}{a:Nat}{r:aa}(h:Cn x0=some r):
  FC Tryz.prog 17 [.slice a2 x0.length a] [lQ a2 x0 a] (λ_:Unit=>True) (λ_=> .string (a9 r)) (λ_=>[]):=
 by
  refine V.fM (T:=cl) Tryz.call17 Tryz.func17 U λ_=>?_;unfold Cn at h;refine V.cM ab 7 0 h aiN [0] U λe b h=>?_;refine V.cj (aH.ptr 6 b U (V.ct ?_));refine V.bH ab 5 0 h LJ.hs [0] [0] U ?_;rintro⟨f,g⟩ _ h;refine V.e9 ab 2 0 h (ρ:=Unit) (λs q=>[(4,.v (.string (a9 s.1)))]) .nil (λs q=>[lC b (x0,s.2) a2 a]) U ?_ ?_
  ·intro i _ h;refine V.bH ab 3 0 h w8 [0] [0] U ?_;rintro⟨j,k⟩ _ h;refine V.co ab 2 0 h U (λh=>?_) (λh=>?_)
   ·obtain⟨c,h⟩:=bC h;obtain⟨d,h⟩:=bC h;exact V.a6 ab 6 0 h () [0] ⟨c,d,U⟩
   exact V.a6 ab 1 0 h () [0] U
  rintro⟨l,m,n⟩ _ h;cases h;exact V.rt ab 5 0 () [] U
def Ig(x0:aa)(a:aa):Option Bool:=
 (a4 (((decide ((a.length:Int)<=(x0.length:Int)))=true)->0<=(W ((x0.length:Int)- (a.length:Int)))/\(W ((x0.length:Int)- (a.length:Int)))<=(x0.length:Int)/\(x0.length:Int)<=(x0.length:Int))<|some (bif(decide ((a.length:Int)<=(x0.length:Int))) then(decide ((ch x0 (W ((x0.length:Int)- (a.length:Int))) (x0.length:Int))=a)) else false))
theorem aiP{x0:aa}{a:aa}{r:Bool}(h:Ig x0 a=some r):
  FC Tryz.prog 35 [.string (a9 x0),.string (a9 a)] [] (λ_:Unit=>True) (λ_=> .bool r) (λ_=>[]):=
 by refine V.fM (T:=cl) Tryz.call35 Tryz.func35 U λ_=>?_;unfold Ig at h;obtain⟨b,h⟩:=bC h;cases h;exact V.rt ab 24 0 () [] ⟨b,U⟩
def LL(x0:aa)(a:aa):Option Bool:=
 (au (Ig x0 a) λ(b:Bool)=>some b)
theorem aiQ{x0:aa}{a:aa}{r:Bool}(h:LL x0 a=some r):
  FC Tryz.prog 25 [.string (a9 x0),.string (a9 a)] [] (λ_:Unit=>True) (λ_=> .bool r) (λ_=>[]):=
 by refine V.fM (T:=cl) Tryz.call25 Tryz.func25 U λ_=>?_;unfold LL at h;refine V.cM ab 8 0 h aiP [] U λb _ h=>?_;cases h;exact V.rt ab 2 0 () [] U
def ET(x0:aa):Option aa:=
 (au (LL x0 ([10]:aa)) λ(a:Bool)=>(bif a then some x0 else(a4 (((x0.length+([10]:aa).length:Nat):Int)<=9223372036854775807)<|some (x0++([10]:aa)))))
theorem Xf{x0:aa}{r:aa}(h:ET x0=some r):
  FC Tryz.prog 13 [.string (a9 x0)] [] (λ_:Unit=>True) (λ_=> .string (a9 r)) (λ_=>[]):=
 by
  refine V.fM (T:=cl) Tryz.call13 Tryz.func13 U λ_=>?_;unfold ET at h;refine V.cM ab 8 0 h aiQ [] U λb _ h=>?_;refine V.co ab 1 0 h U (λh=>?_) (λh=>?_)
  ·cases h;exact V.rt ab 5 0 () [] U
  obtain⟨a,h⟩:=bC h;cases h;exact V.rt ab 7 0 () [] ⟨a,U⟩
theorem aiR(aA a b:bI)(w:World):CallsD Tryz.prog 29 #[.pointer aA,.pointer a,.pointer b] .returning w λe c w'=>e= .returned (.tuple #[])/\c= .returning/\w'=w:=by refine callsD_of_wpS Tryz.func29 U λd cs hu=>?_;apply wpS_seq;apply wpS_region;simp[wpOpsS,go_sem,recoverD,hu,Tryz.ntmps29,Exit.thenS];apply wpS_seq;apply wpS_region;simp[wpOpsS,go_sem,recoverD,hu,Tryz.ntmps29,Exit.thenS,Op.equal];refine wpS_cond (t:=false) (by simp[Act.eval,Array.replicate]) ?_;simp only[eB,cr];refine wpS_of_wp (wp_skip ?_);cases d;simp_all [bodyPostS,results,Tryz.results29]
theorem Rc:∀{e:Env}{t:Nat}{x:eT},c2 e t=some x->(t,x)∈e
 |[],t,x,h=>by simp[c2] at h
 |(k,y)::r,t,x,h=>by
  simp only[c2] at h;cases hk:Nat.beq k t with
  |true=>rw[hk,aK] at h;have:=wo hk;cases h;subst this;exact List.mem_cons_self
  |false=>rw[hk,aU] at h;exact NJ _ (Rc h)
theorem aT.enter{P:Program}{T:dQ}{X:bo}{w0:World}{nt:Nat}{x:Code}{Q:Exit->Act->World->Prop}{a:Act}{w:World}(β:Nat->Nat)(e:Env){O:ba}
  (he:∀p∈e,p.1<a.tmps.size/\p.2.is β a (a.tmps.getD p.1 undef)) (hf:e.all (λp=>flat p.2)=true) (aw:a.tmps.size=nt) (aG:a.defers=[])
  (hk:Keep X w0 w) {L:bo} (g:gC w O L) (c:L.Nodup) (bn:∀b∈L,w0.heap.size<=b\/b∈X)
  (h:∀fin,fin=Q->aT {P,T,X,w0,nt,fin} [.c x] e .nil [] O):x.wp P Q a w:=by
 have:=h Q U a w β ⟨λt y d=>he _ (Rc d),λt y d=>o4.1 hf _ (Rc d),aw,aG,⟨hk,?_,L,g,by simpa[bL.ids] using c,λb i=>bn b (by simpa[bL.ids] using i),λf hf=>by cases hf⟩⟩
 ·refine wp_mono (show x.wp P (hQ {P,T,X,w0,nt,fin:=Q} []) a w from this) ?_;intro e a w h;exact h
 ·intro k hk;simp[bL.ids] at hk
theorem aiS(code c:Int)(s:aa)(p:Int)(o:Value)(n:Int)(cV:bI)(lo g:Nat)(k:Int)(u x:Int)(y:Value)(aA i j f:bI)(w:World)(L:bo)
  (D:gC w [⟨.val,⟨aA,1,1⟩,[.pointer f]⟩,⟨.pair (.int .i64) (.int .i64),⟨i,1,1⟩,[(u,x)]⟩,⟨.val,⟨j,1,1⟩,[y]⟩,⟨DR,⟨f,1,1⟩,[(s,p,o,n,(bw.v ⟨cV,lo,g⟩),k)]⟩] L) (q:L.Nodup):
  CallsD Tryz.prog 29 #[.pointer aA,.pointer i,.pointer j] (.panicking [{v:= .iface 39 (.agg #[.int .i64 code,.int .i64 c]),recovered:=false}]) w λe E w'=>
   E= .panicking [{v:= .iface 39 (.agg #[.int .i64 code,.int .i64 c]),recovered:=true}]/\e= .returned (.tuple #[])/\Keep L w w'/\
   ∃L',gC w' [⟨.val,⟨aA,1,1⟩,[.pointer f]⟩,⟨.pair (.int .i64) (.int .i64),⟨i,1,1⟩,[(code,c)]⟩,⟨.val,⟨j,1,1⟩,[bw.v ⟨cV,lo,g⟩]⟩,⟨DR,⟨f,1,1⟩,[(s,p,o,n,(bw.v ⟨cV,lo,g⟩),k)]⟩] L'/\L'.Nodup/\∀b∈L',b∈L\/w.heap.size<=b:=by
 refine callsD_of_wpS Tryz.func29 U λH cs hu=>?_;apply wpS_seq;apply wpS_region;simp[wpOpsS,go_sem,recoverD,hu,Tryz.ntmps29,Exit.thenS];refine wpS_of_wp ?_;refine aT.enter (T:=cl) (X:=L) (w0:=w) (nt:=22) (λ_=>0) [(3,.v (.iface 39 (.agg #[.int .i64 code,.int .i64 c]))),(0,.v (.pointer aA)),(1,.v (.pointer i)),(2,.v (.pointer j))] ?_ U (by simp) U (Keep.refl _ _) D q (λb r=> .inr r) ?_
 ·simp[eT.is]
 intro fin z;have m:wG {P:=Tryz.prog,T:=cl,X:=L,w0:=w,nt:=22,fin:=fin}:=by subst z;intro I d v a w h;obtain⟨ad,F⟩:=h;exact⟨by rw[put_defers] at ad;exact ad,F⟩
 refine aT.ptr 0 aA U (aT.ptr 1 i U (aT.ptr 2 j U ?_));refine aT.seq (aT.region (aH.eI ab 1 [] [] [(7,.v (.iface 39 (.agg #[.int .i64 code,.int .i64 c])))] _ U ⟨⟨U,trivial⟩,U⟩ (aH.aer U U ⟨_,U⟩ U U Tryz.underlying20 ⟨_,U⟩ U (aH.done U ?_))));refine aT.cond U (λl=>?_) (λl=>absurd l (by decide));refine aT.seq (aT.region (aH.eI ab 1 [] [] [(10,.v (.iface 39 (.agg #[.int .i64 code,.int .i64 c])))] _ U ⟨⟨U,trivial⟩,U⟩ (aH.aes ab U U U U U U U U ?_)));refine aH.pg ab 6 [] [1] [(4,.e2 1 0),(5,.v (.bool true))] (.new 1 39 [.int .i64 code,.int .i64 c] .nil) U ⟨fL U,jw U U⟩ (aH.done U ?_);refine aT.seq (aT.seq (aT.region (aH.eI ab 2 [] [] [(15,.v (.bool false))] _ U ⟨⟨U,trivial⟩,U⟩ (aH.done U ?_))));refine aT.cond U (λl=>absurd l (by decide)) (λl=>aT.skip ?_);refine aT.iG 3 U λhk=>?_;refine aT.r7 U (.new 1 39 [.int .i64 code,.int .i64 c] .nil) [0,3] [5,6] (jw U U) U (λJ=>?_);refine bE.eI ab m true 6 [0] U (by kernel_rfl) [] [(17,.v (.agg #[.int .i64 code,.int .i64 c]))] (jw U U) [0,3] U U ⟨U,trivial⟩ ?_;refine bE.kN ab m 1 U (by kernel_rfl) U U U U U 0 U U 0 0 (.pointer f) ⟨U,U⟩ U U U (jw U U) [0,3] U ?_;refine cL.ptr 18 f U ?_;refine bE.eI ab m true 3 [2,3] U (by kernel_rfl) [] [(20,.bj ⟨f,1,1⟩ 4)] (jw U U) [0,3] U U ⟨(hk.fW fX).1,hk.fW fX,⟨U,trivial⟩⟩ ?_;refine bE.kN ab m 4 U (by kernel_rfl) U U U U U 1 U U 0 4 (s,p,o,n,(bw.v ⟨cV,lo,g⟩),k) ⟨U,U⟩ U U U (jw U U) [0,3] U ?_;refine bE.one 5 (by kernel_rfl) (cL.qI ab U U U U U U U U U [1] (fs:=[]) U 0 0 (u,x) (code,c) ⟨U,U⟩ ⟨U,U,U⟩ (bE.nO U ?_));refine bE.one 6 (by kernel_rfl) (cL.qI ab U U U U U U U U U [2] (fs:=[]) U 0 0 y (bw.v ⟨cV,lo,g⟩) ⟨U,U⟩ ⟨U,U,U,U⟩ (bE.nO U ?_));refine bE.done (by kernel_rfl) (aT.boxes (B':= .nil) trivial ?_);intro a w' β t;subst z;obtain⟨_,_,G,A,B,C,_⟩:=t.inv.pick (idx:=[2,1,0,0]) rfl;simp only[bL.ids,List.map_nil,sV,rS] at A B C;exact⟨t.ho,_,U,_,by simp[results,Tryz.results29],U,U,t.inv.xQ,G,A,B,λb r=>(C b r).symm⟩
def LM(w0:World)(r:(Int×Int)×bl×Int):Ending->World->Prop:=
 J0 w0 (λ_:bI×Nat=>True) (λq=> .tuple #[.agg #[.int .i64 r.1.1,.int .i64 r.1.2],.slice q.1 r.2.1.length q.2,.int .i64 r.2.2]) (λq=>[⟨.str,⟨q.1,r.2.1.length,q.2⟩,r.2.1⟩])
theorem Xh{w:World}{O:ba}{L:bo}(h:gC w O L){f:Fact}(hf:f∈O):∃M,f.rep false w M:=by obtain⟨M,a,_⟩:=h.mem hf;exact⟨M,Fact.pW a⟩
theorem Xi{tmps:Array Value}{w:World}{L:bo}{a2 a3:bI}{eS a n:Int}{O:ba}(d:tmps.getD 2 undef= .pointer a2)(e:tmps.getD 3 undef= .pointer a3)(f:tmps.getD 4 undef= .int .i64 n)
  (c:gC w O L) (g:⟨.pair (.int .i64) (.int .i64),⟨a2,1,1⟩,[(eS,a)]⟩∈O) {cV:bI} {lo b:Nat} (h:⟨.val,⟨a3,1,1⟩,[bw.v ⟨cV,lo,b⟩]⟩∈O):
  (results Tryz.f23 tmps).run Tryz.prog w= .ok (.tuple #[.agg #[.int .i64 eS,.int .i64 a],.slice cV lo b,.int .i64 n]) w:=by
 obtain⟨r,i⟩:=Xh c g;obtain⟨j,k⟩:=Xh c h;have l:=VC (P:=Tryz.prog) ab (q:=2) (t:=39) U d i U U U (v:= .agg #[.int .i64 eS,.int .i64 a]) U;have m:=VC (P:=Tryz.prog) ab (q:=3) (t:=29) U e k U U U (v:= .slice cV lo b) U;have o:(xY tmps (.tmp 4)).run Tryz.prog w= .ok (.int .i64 n) w:=by simp only[xY,f];rfl
 have p:Tryz.f23.results= #[.cell 2 39,.cell 3 29,.tmp 4]:=U;rw[UC,p,Array.mapM_eq_mapM_toList];simp only[nI,Sem.run_map,List.mapM_cons,List.mapM_nil,l,m,o,wu];rfl
theorem aiT{a:Act}{w0 w:World}{L:bo}{aA a2 a3:bI}{eS b n:Int}{O:ba}(aG:a.defers=[{target:= .fn (.func 29) #[.pointer aA,.pointer a2,.pointer a3],args:= #[]}])
  (c:a.tmps.getD 2 undef= .pointer a2) (d:a.tmps.getD 3 undef= .pointer a3) (g:a.tmps.getD 4 undef= .int .i64 n) (hk:Keep [] w0 w)
  (h:gC w O L) (i:⟨.pair (.int .i64) (.int .i64),⟨a2,1,1⟩,[(eS,b)]⟩∈O) (j:⟨.val,⟨a3,1,1⟩,[bw.v ⟨none,0,0⟩]⟩∈O):
  Leaves Tryz.prog Tryz.f23 a.tmps (LM w0 ((eS,b),[],n)) a.defers .returning w:=by
 rw[aG];refine leaves_cons (f:=29) (args:= #[.pointer aA,.pointer a2,.pointer a3]) (by simp) (by simp[go_sem,invoke]) ?_;refine(aiR aA a2 a3 w).mono ?_;rintro e k w' ⟨rfl,rfl,rfl⟩;show Leaves Tryz.prog Tryz.f23 a.tmps (LM w0 ((eS,b),[],n)) [] .returning w';refine⟨_,Xi c d g h i j,(none,0),trivial,U,hk,[],⟨[],[],⟨U,.inl ⟨U,U,U⟩⟩,U,U⟩,List.nodup_nil,by simp⟩
theorem aiU{a b c:World}{L:bo}(h:Keep [] a b)(k:Keep L b c)(bn:∀x∈L,a.heap.size<=x):Keep [] a c:=
 ⟨k.os.trans h.os,k.tape.trans h.tape,k.output.trans h.output,lL h.size k.size,λx d _=>(k.block x (Nat.lt_of_lt_of_le d h.size) λhm=>Nat.lt_irrefl _ (Nat.lt_of_lt_of_le d (bn x hm))).trans (h.block x d (by simp))⟩
theorem aiV{a:Act}{w0 w:World}{L:bo}{aA a2 a3 h:bI}{code c n:Int}{s:aa}{p:Int}{i:Value}{j:Int}{cV:bI}{d:Nat}{op:bl}{k:Int}
  (aG:a.defers=[{target:= .fn (.func 29) #[.pointer aA,.pointer a2,.pointer a3],args:= #[]}])
  (y:a.tmps.getD 2 undef= .pointer a2) (z:a.tmps.getD 3 undef= .pointer a3) (A:a.tmps.getD 4 undef= .int .i64 n) (hk:Keep [] w0 w)
  {l m:Int} {o:Value} (B:gC w [⟨.val,⟨aA,1,1⟩,[.pointer h]⟩,⟨.pair (.int .i64) (.int .i64),⟨a2,1,1⟩,[(l,m)]⟩,⟨.val,⟨a3,1,1⟩,[o]⟩,⟨DR,⟨h,1,1⟩,[(s,p,i,j,(bw.v ⟨cV,op.length,d⟩),k)]⟩,⟨.str,⟨cV,op.length,d⟩,op⟩] L)
  (q:L.Nodup) (r:∀b∈L,w0.heap.size<=b):
  Leaves Tryz.prog Tryz.f23 a.tmps (LM w0 ((code,c),op,n)) a.defers (.panicking [{v:= .iface 39 (.agg #[.int .i64 code,.int .i64 c]),recovered:=false}]) w:=by
 rw[aG];refine leaves_cons (f:=29) (args:= #[.pointer aA,.pointer a2,.pointer a3]) (by simp) (by simp[go_sem,invoke]) ?_;obtain⟨C,t,cm,u,rfl⟩:=gC.split (fs:=[⟨.val,⟨aA,1,1⟩,[.pointer h]⟩,⟨.pair (.int .i64) (.int .i64),⟨a2,1,1⟩,[(l,m)]⟩,⟨.val,⟨a3,1,1⟩,[o]⟩,⟨DR,⟨h,1,1⟩,[(s,p,i,j,(bw.v ⟨cV,op.length,d⟩),k)]⟩]) (gs:=[⟨.str,⟨cV,op.length,d⟩,op⟩]) B;obtain⟨D,E,F⟩:=hO.1 q;refine(aiS code c s p i j cV op.length d k l m o aA a2 a3 h w C cm D).mono ?_;rintro e K w' ⟨rfl,rfl,x,L',G,M,H⟩;have I:gC w' [⟨.str,⟨cV,op.length,d⟩,op⟩] t:=u.frame λb g=>x.block b (u.lt b g) λJ=>F b J b g U;show Leaves Tryz.prog Tryz.f23 a.tmps (LM w0 ((code,c),op,n)) [] .returning w';refine⟨_,Xi y z A G (by simp) (by simp),(cV,d),trivial,U,aiU hk x (λb g=>r b (by simp[g])),t,I,E,λb g=>r b (by simp[g])⟩
theorem LN(a:bI):a.map (·.add 0)=a:=by cases a<;>simp[Addr.add]
def Ao(x0:aa):Option ((Int×Int)×bl×Int):=
 (au (ET x0) λy=>match ss.kl (y,0,[],0,[],0) 0 true with
  |none=>none
  |some (.inl e)=>some ((e.1,e.2.1),e.2.2.2.2.2.2.1,0)
  |some (.inr r)=>some ((0,(r.2.1.length:Int)),[],r.1))
set_option maxHeartbeats 1000000 in
theorem aiW{x0:aa}{r:(Int×Int)×bl×Int}(h:Ao x0=some r):
  FC Tryz.prog 23 [.string (a9 x0)] [] (λ_:bI×Nat=>True) (λq=> .tuple #[.agg #[.int .i64 r.1.1,.int .i64 r.1.2],.slice q.1 r.2.1.length q.2,.int .i64 r.2.2]) (λq=>[⟨.str,⟨q.1,r.2.1.length,q.2⟩,r.2.1⟩]):=by
 refine⟨Tryz.call23,λw _=>calls_of_wp_defers Tryz.func23 U ?_⟩;unfold Ao at h;obtain⟨y,k,h⟩:=jH h;rw[Tryz.ntmps23];refine aT.enter (T:=cl) (X:=[]) (w0:=w) (nt:=20) (λ_=>0) [(0,.v (.string (a9 x0)))] (O:=[]) ?_ U (by simp) U (Keep.refl _ _) (L:=[]) U List.nodup_nil (by simp) ?_
 ·simp[eT.is]
 intro fin j;refine aT.seq (aT.region (aH.pg ab 3 [] [1,2] [(2,.e2 1 0),(3,.e2 2 0),(4,.v (.int .i64 0))] (.new 1 39 [.int .i64 0,.int .i64 0] (.new 2 29 [.slice none 0 0] .nil)) U ⟨fL U,jw U U⟩ (aH.done U ?_)));refine aT.seq (aT.region (aH.eI ab 1 [] [] [(6,.v (.string (a9 x0)))] _ U ⟨⟨U,trivial⟩,U⟩ (aH.call U U U U (Xf k) U [] U U λ_ _=>?_)));refine aH.pg ab 2 [] [3] [(9,.e2 3 0)] (.new 1 39 [.int .i64 0,.int .i64 0] (.new 2 29 [.slice none 0 0] (.new 3 55 [.string (a9 y),.int .i64 0,.slice none 0 0,.int .i64 0,.slice none 0 0,.int .i64 0] .nil))) U ⟨⟨U,trivial⟩,jw U U⟩ ?_;refine aH.unbox 3 U (B':= .new 1 39 [.int .i64 0,.int .i64 0] (.new 2 29 [.slice none 0 0] .nil)) (jw U U) U DR (y,0,(bw.v ⟨none,0,0⟩),0,(bw.v ⟨none,0,0⟩),0) ⟨U,U,U,U⟩ (λa=>[(2,.e2 1 0),(3,.e2 2 0),(4,.v (.int .i64 0)),(9,.bj ⟨a,1,1⟩ 0)]) (λ_=>fL U) λd=>?_;refine aH.pg ab 2 [] [4] [(5,.e2 4 0)] (.new 1 39 [.int .i64 0,.int .i64 0] (.new 2 29 [.slice none 0 0] (.new 4 52 [.pointer d] .nil))) U ⟨⟨U,trivial⟩,jw U U⟩ (aH.done U ?_);refine aT.unbox 1 U (B':= .new 2 29 [.slice none 0 0] (.new 4 52 [.pointer d] .nil)) (jw U U) U (.pair (.int .i64) (.int .i64)) (0,0) ⟨U,U⟩ (λa=>[(2,.bj ⟨a,1,1⟩ 0),(3,.e2 2 0),(4,.v (.int .i64 0)),(5,.e2 4 0)]) (λ_=>fL U) λa2=>?_;refine aT.unbox 2 U (B':= .new 4 52 [.pointer d] .nil) (jw U U) U .val (bw.v ⟨none,0,0⟩) ⟨U,U,U⟩ (λa=>[(2,.bj ⟨a2,1,1⟩ 0),(3,.bj ⟨a,1,1⟩ 0),(4,.v (.int .i64 0)),(5,.e2 4 0)]) (λ_=>fL U) λa3=>?_;refine aT.unbox 4 U (B':= .nil) trivial U .val (.pointer d) ⟨U,U,U⟩ (λa=>[(2,.bj ⟨a2,1,1⟩ 0),(3,.bj ⟨a3,1,1⟩ 0),(4,.v (.int .i64 0)),(5,.bj ⟨a,1,1⟩ 0)]) (λ_=>fL U) λaA=>?_;refine aT.oE (.pair .str .bool) bw.nil U U (aT.oE .str bw.nil U U ?_);refine aT.seq (aT.region (aH.aeb U U U U U U (aH.defer U U U U U (aH.done U ?_))));refine aT.seq (aT.region (aH.kN ab U U U U U U 2 U U 0 0 (.pointer d) ⟨U,U⟩ U U U (aH.ptr 11 d U ?_)));rcases hm:ss.kl (y,0,[],0,[],0) 0 true with _|⟨e|az⟩
 ·rw[hm] at h;cases h
 ·rw[hm] at h;cases h;refine aH.VB U U U U (LJ.kl (Q:=(none,0,none,0)) hm) U [5,1,0] U [] U U (λ_=>by simp) (λs v _ he _=>?_) (λs l _ he a w' β c=>?_)
  ·simp at he
  ·simp only[Ending.panicked.injEq] at he;subst he;subst j;obtain⟨_,_,m,f,g,i,_⟩:=(c.inv.pick (idx:=[3,4,3,0,1]) rfl).drop;simp only[bL.ids,List.map_nil,sV,rS] at f g i;refine Bw (aiV (aA:=aA) (a2:=a2) (a3:=a3) c.ho ?_ ?_ ?_ c.inv.xQ f g λb n=>(i b n).resolve_right (by simp))
   ·exact(c.env 2 _ U).2.trans (by rw[LN])
   ·exact(c.env 3 _ U).2.trans (by rw[LN])
   ·exact(c.env 4 _ U).2
 ·rw[hm] at h;cases h;refine aH.VB U U U U (LJ.kl (Q:=(none,0,none,0)) hm) U [5,1,0] U [] U U (λ_=>by simp) (λs v _ he o=>?_) (λs l _ he=>?_)
  ·simp only[zj] at he;subst he;refine aH.eI ab 1 [] [] [(4,.v (.int .i64 az.1))] _ U ⟨⟨U,trivial⟩,U⟩ (aH.done U ?_);refine aT.iG 0 U λhk=>?_;refine aT.seq (aT.region (aH.kN ab U U U U U U 3 U U 0 0 (.pointer d) ⟨U,U⟩ U U U (aH.ptr 13 d U ?_)));refine aH.eI ab 2 [] [] [(15,.bj ⟨d,1,1⟩ 0)] _ U ⟨(hk.fW fX).1,hk.fW fX,⟨U,trivial⟩,U⟩ ?_;refine aH.kN ab U U U U U U 0 U U 0 0 _ ⟨U,U⟩ U U U ?_;refine aH.eI ab 3 [] [] [(18,.v (.agg #[.int .i64 0,.int .i64 (az.2.1.length:Int)])),(19,.v (.int .i64 az.1))] _ U ⟨fL U,U⟩ ?_;refine aH.qI ab U U U U U U U U U [5] (fs:=[]) U 0 0 (0,0) (0,(az.2.1.length:Int)) ⟨U,U⟩ ⟨U,U,U⟩ ?_;refine aH.qI ab U U U U U U U U U [5] (fs:=[]) U 0 0 (bw.v ⟨none,0,0⟩) (bw.v ⟨none,0,0⟩) ⟨U,U⟩ ⟨U,U,U,U⟩ ?_;refine aH.eI ab 1 [] [] [(4,.v (.int .i64 az.1))] _ U ⟨⟨U,trivial⟩,U⟩ (aH.done U ?_);intro a w' β c;subst j;obtain⟨_,_,m,f,g,i,_⟩:=c.inv;refine wp_ret (Bf (aiT (aA:=aA) (a2:=a2) (a3:=a3) c.ho ?_ ?_ ?_ c.inv.xQ f (by simp) (by simp)))
   ·exact(c.env 2 _ U).2.trans (by rw[LN])
   ·exact(c.env 3 _ U).2.trans (by rw[LN])
   ·exact(c.env 4 _ U).2
  ·simp at he
def Xj(x0:aa):Option Int:=
 (au (Ao x0) λ(a,c,b)=>(bif(!(decide (a.1=0))) then some (-1) else some b))
def EU(x0:aa):Option aa:=
 (a4 (((decide (0<(x0.length:Int)))=true)->0<=(W ((x0.length:Int)-1))/\(W ((x0.length:Int)-1))<(x0.length:Int))<|(bif(bif(decide (0<(x0.length:Int))) then(decide (((at' x0 (W ((x0.length:Int)-1))).toNat:Int)=(10:Int))) else false) then some x0 else(a4 (((x0.length+([10]:aa).length:Nat):Int)<=9223372036854775807)<|some (x0++([10]:aa)))))
theorem aiX{x0:aa}{r:aa}(h:EU x0=some r):
  FC Tryz.prog 31 [.string (a9 x0)] [] (λ_:Unit=>True) (λ_=> .string (a9 r)) (λ_=>[]):=
 by
  refine V.fM (T:=cl) Tryz.call31 Tryz.func31 U λ_=>?_;unfold EU at h;obtain⟨a,h⟩:=bC h;refine V.co ab 19 0 h ⟨a,U⟩ (λh=>?_) (λh=>?_)
  ·cases h;exact V.rt ab 5 0 () [] U
  obtain⟨b,h⟩:=bC h;cases h;exact V.rt ab 7 0 () [] ⟨b,U⟩
def Cr(x0:aa):Option (ah×Int):=
 (au (EU x0) λ(p:aa)=>(au (ss.nQ (p,0,0,([]:ao),0,0,[],([]:bl),false) ([]) ([]:bl) false) λ(q,a)=>(a8 (λ((c,d,e,f,b,g,h,i,j):ah)=>(a8 (λ((k,r,s,t,l,u,v,w,x):ah)=>(a8 (λ(y:Int)=>some ((k,r,s,t,l,y,v,w,x),q)) λm=>(bif(!(decide (l=2))) then m (k.length:Int) else m u))) λn=>(bif(decide (b=1)) then(au (vI (c,d,e,f,b,g,h,i,j) ([10]:aa)) λ(z:ah)=>n z) else n (c,d,e,f,b,g,h,i,j)))) λo=>(bif(bif(decide (a.2.2.2.2.1=0)) then(bif a.2.2.2.2.2.2.2.2 then true else(decide (0<(a.2.2.2.1.length:Int)))) else false) then(au (g5 a ([])) λ(A:ah)=>o A) else o a))))
theorem aiY{x0:aa}{r:ah×Int}(h:Cr x0=some r):
  FC Tryz.prog 24 [.string (a9 x0)] [] (λ_:bI×bu=>True) (λq=> .tuple #[.pointer q.1,.int .i64 r.2]) (λq=>eV q.1 r.1 q.2):=
 by
  refine V.fM (T:=cl) Tryz.call24 Tryz.func24 U λ_=>?_;unfold Cr at h;refine V.cM ab 8 0 h aiX [] U λb _ h=>?_;refine V.cj (aH.pg ab 3 [] [3] [(4,.e2 3 0),(9,.e2 3 0)] (.new 3 47 (aeJ (b,0,0,[],0,0,[],[],false) none 0 none 0) .nil) U ⟨(fL U),(jw U U)⟩ (V.ct ?_));refine V.go ab 4 0 U ?_;obtain⟨⟨c,v⟩,d,h⟩:=jH h;refine V.cj (aH.unbox 3 U (B':= .nil) trivial U (.pair .str (.pair (.int .i64) (.pair (.int .i64) (.pair .val (.pair (.int .i64) (.pair (.int .i64) (.pair .str (.pair .val .bool)))))))) (b,0,0,(bw.v ⟨none,0,0⟩),0,0,[],(bw.v ⟨none,0,0⟩),false) ⟨U,U,U,U⟩ (λa=>[(0,.v (.string (a9 x0))),(4,.bj ⟨a,1,1⟩ 0),(6,.v (.string (a9 x0))),(7,.v (.string (a9 b))),(9,.bj ⟨a,1,1⟩ 0),(10,.bj ⟨a,1,1⟩ 0)]) (λ_=>(fL U)) λa=>V.ct ?_);refine V.cj (aH.oE (.pair .str .bool) bw.nil U U (V.ct ?_));refine V.cj (aH.oE .str bw.nil U U (V.ct ?_));refine V.cj (aH.J9 .str bw.nil U U (V.ct ?_));refine V.cj (aH.p4 U U U U (LJ.nQ (Q:=(none,0,none,0)) d) U [2,1,0] U [0] U U ?_);rintro e-;refine V.ct ?_;refine V.e9 ab 2 0 h (ρ:=bu) (λs q=>[(4,.bj ⟨a,1,1⟩ 0),(5,.v (.int .i64 c))]) .nil (λs q=>gM a s q) U ?_ ?_
  ·intro w _ h;refine V.co ab 22 1 h ⟨U,U,U,U,U,U,U,U,U,U⟩ (λh=>?_) (λh=>?_)
   ·refine V.bH ab 2 0 h pB [0,0,0] [] U λx g h=>?_;exact V.a6 ab 1 0 h g [1,2,0] U
   exact V.a6 ab 1 0 h e [1,2,0] U
  rintro⟨y,z,A,B,C,D,E,F,G⟩ i h;refine V.e9 ab 0 0 h (ρ:=bu) (λs q=>[(4,.bj ⟨a,1,1⟩ 0),(5,.v (.int .i64 c))]) .nil (λs q=>gM a s q) U ?_ ?_
  ·intro H _ h;refine V.co ab 8 3 h ⟨U,U,U,U⟩ (λh=>?_) (λh=>?_)
   ·refine V.bH ab 2 0 h Qy [2,0,0] [] U λI j h=>?_;exact V.a6 ab 1 0 h j [1,2,0] U
   exact V.a6 ab 1 0 h i [0,1,2] U
  rintro⟨k,l,m,n,o,J,p,t,u⟩ f h;refine V.e9 ab 0 0 h (ρ:=Unit) (λs q=>[(4,.bj ⟨a,1,1⟩ 0),(5,.v (.int .i64 c))]) .nil (λs q=>eV a (k,l,m,n,o,s,p,t,u) f) U ?_ ?_
  ·intro K _ h;refine V.co ab 8 3 h ⟨U,U,U,U⟩ (λh=>?_) (λh=>?_)
   ·exact V.a6 ab 11 3 h () [0,1,2] ⟨U,U,U,U,U,U,U⟩
   exact V.a6 ab 1 0 h () [2,0,1] U
  rintro L _ h;cases h;exact V.rt ab 7 0 (a,f) [0,0,0] U
def EV(x0:aa):Option Int:=
 (au (Cr x0) λ(a,b)=>(bif(!(decide (a.2.2.2.2.1=0))) then some (-1) else some b))
theorem ai1{x0:aa}{r:Int}(h:EV x0=some r):
  FC Tryz.prog 18 [.string (a9 x0)] [] (λ_:Unit=>True) (λ_=> .int .i64 r) (λ_=>[]):=
 by
  refine V.fM (T:=cl) Tryz.call18 Tryz.func18 U λ_=>?_;unfold EV at h;refine V.cM ab 7 0 h aiY [] U ?_;rintro⟨b,c⟩ ⟨a,d,e,f,g⟩ h;refine V.go ab 2 0 U ?_;refine V.cj (aH.ptr 8 a U (V.ct ?_));refine V.co ab 13 0 h ⟨U,U,U,U⟩ (λh=>?_) (λh=>?_)
  ·cases h;exact V.rt ab 4 0 () [] U
  cases h;exact V.rt ab 6 0 () [] U
def rE(x0:aa):Option bl:=
 (au (Ao x0) λ(b,a,c)=>(bif(!(decide (b.1=1))) then some ([]) else(a4 (([]:bl).length+a.length<=536870912)<|some (([]:bl)++a))))
theorem Ii{x0:aa}{r:bl}(h:rE x0=some r):
  FC Tryz.prog 15 [.string (a9 x0)] [] (λ_:bI×Nat=>True) (λq=> .slice q.1 r.length q.2) (λq=>[hr q.1 r q.2]):=
 by
  refine V.fM (T:=cl) Tryz.call15 Tryz.func15 U λ_=>?_;unfold rE at h;refine V.cM ab 7 0 h aiW [] U ?_;rintro⟨a,b,i⟩ ⟨c,d⟩ h;refine V.cj (aH.pg ab 8 [] [8] [(3,.e2 8 0),(4,.v (.slice c b.length d))] (.new 8 39 [.int .i64 a.1,.int .i64 a.2] .nil) U ⟨(fL U),(jw U U)⟩ (V.ct ?_));refine V.co ab 8 0 h U (λh=>?_) (λh=>?_)
  ·cases h;refine V.go ab 4 0 U ?_;refine V.jm (aT.oE .str bw.nil U U (V.h7 ?_));exact V.rt ab 0 0 (none,0) [0] U
  obtain⟨e,h⟩:=bC h;refine V.go ab 4 0 U ?_;refine V.cj (aH.oE .str bw.nil U U (V.ct ?_));refine V.cj (aH.p6 ab U U U U ⟨U,U,U,U,trivial,U,U,U,U⟩ U U U [0] U 1 U e U λf g=>V.ct ?_);cases h;exact V.rt ab 2 0 (f,g) [0] U
def LO(x0:bl)(c:bl)(d:Unit->Option Bool)(b:Int->Option Bool):Int->Option Bool:=λa=>
 (bif(decide (a<(x0.length:Int))) then(a4 (0<=a/\a<(x0.length:Int))<|(a4 (0<=a/\a<(c.length:Int))<|(bif(!(decide ((at' x0 a)=(at' c a)))) then some false else b (W (a+1))))) else d ())
def Cs(x0:bl)(a:bl):Option Bool:=
 (bif(!(decide ((x0.length:Int)=(a.length:Int)))) then some false else(a8 (λ(_:Unit)=>some true) λb=>(fixF (LO x0 a b) bB 0)))
theorem Rf{x0:bl}{a:bl}{a3:bI}{c:Nat}{d:bI}{e:Nat}{r:Bool}(h:Cs x0 a=some r):
  FC Tryz.prog 19 [.slice a3 x0.length c,.slice d a.length e] [hr a3 x0 c,hr d a e] (λ_:Unit=>True) (λ_=> .bool r) (λ_=>[]):=
 by
  refine V.fM (T:=cl) Tryz.call19 Tryz.func19 U λ_=>?_;unfold Cs at h;refine V.co ab 13 0 h U (λh=>?_) (λh=>?_)
  ·cases h;exact V.rt ab 4 0 () [] U
  refine V.da ab 8 0 h (ρ:=Unit) (λs q=>[]) .nil (λs q=>[]) U ?_ ?_
  ·intro l _ h;refine V.e_ ab 0 0 h (ρ:=Unit) (λs q=>[(0,.v (.slice a3 x0.length c)),(1,.v (.slice d a.length e)),(12,.v (.int .i64 (x0.length:Int))),(13,.v (.int .i64 s))]) .nil (λs q=>[]) () [] U ?_;rintro k b _ h;rw[LO] at h;refine V.co ab 5 0 h U (λh=>?_) (λh=>?_)
   ·obtain⟨i,h⟩:=bC h;obtain⟨j,h⟩:=bC h;refine V.go ab 9 0 U ?_;refine V.jm (aT.iG 0 U λf=>V.h7 ?_);refine V.jm (aT.iG 1 U λg=>V.h7 ?_);refine V.jz ab 0 0 U (by kernel_rfl) ?_;refine V.go ab 3 0 ⟨f.ix i,U⟩ ?_;refine V.toQ (kz.load ab U U U U U U U 0 U U (Int.toNat b) 0 (at' x0 b) ⟨me i,U⟩ U U (V.rk ?_));refine V.go ab 3 0 ⟨g.ix j,U⟩ ?_;refine V.toQ (kz.load ab U U U U U U U 1 U U (Int.toNat b) 0 (at' a b) ⟨me j,U⟩ U U (V.rk ?_));refine V.co ab 2 0 h U (λh=>?_) (λh=>?_)
    ·cases h;exact V.rt ab 4 0 () [] U
    exact V.el ab 6 0 h () [] U
   exact V.a6 ab 1 0 h () [] U
  rintro _ _ h;cases h;exact V.rt ab 4 0 () [] U
def M_l_FnOpen(x0:aa):Option Bool:=
 (bif(decide (1048576<(x0.length:Int))) then some true else(au (Cn x0) λ(b:aa)=>(au (ET b) λ(a:aa)=>(au (Cn x0) λ(c:aa)=>(au (EV c) λ(d:Int)=>(bif(decide (d<1)) then(au (rE [40]) λ(e:bl)=>(bif(decide ((e.length:Int)=1)) then(au (rE [97]) λ(f:bl)=>some (decide ((f.length:Int)=0))) else some false)) else(a4 (((([40]:aa).length+a.length:Nat):Int)<=9223372036854775807)<|(au (rE (([40]:aa)++a)) λ(g:bl)=>(au (Cs g [[40]]) λ(h:Bool)=>(bif h then(a4 (((([105,102,32]:aa).length+a.length:Nat):Int)<=9223372036854775807)<|(a4 ((((([105,102,32]:aa)++a).length+([116,104,101,110,32,123,10]:aa).length:Nat):Int)<=9223372036854775807)<|(a4 (((((([105,102,32]:aa)++a)++([116,104,101,110,32,123,10]:aa)).length+a.length:Nat):Int)<=9223372036854775807)<|(au (rE ((([105,102,32]++a)++[116,104,101,110,32,123,10])++a)) λ(i:bl)=>(au (Cs i [[105,102],[123]]) λ(j:Bool)=>(bif j then(a4 (((([99,97,115,101,32,120,32,105,110,32,97,41,10]:aa).length+a.length:Nat):Int)<=9223372036854775807)<|(a4 ((((([99,97,115,101,32,120,32,105,110,32,97,41,10]:aa)++a).length+([101,99,104,111,32,34,36,40,32]:aa).length:Nat):Int)<=9223372036854775807)<|(a4 (((((([99,97,115,101,32,120,32,105,110,32,97,41,10]:aa)++a)++([101,99,104,111,32,34,36,40,32]:aa)).length+a.length:Nat):Int)<=9223372036854775807)<|(au (rE ((([99,97,115,101,32,120,32,105,110,32,97,41,10]++a)++[101,99,104,111,32,34,36,40,32])++a)) λ(k:bl)=>(au (Cs k [[99,97,115,101],[34],[36,40]]) λ(l:Bool)=>some l))))) else some false)))))) else some false))))))))))
theorem ok_l_FnOpen{x0:aa}{a2:bI}{a:Nat}{r:Bool}(h:M_l_FnOpen x0=some r):
  FC Tryz.prog 7 [.slice a2 x0.length a] [lQ a2 x0 a] (λ_:Unit=>True) (λ_=> .bool r) (λ_=>[]):=
 by
  refine V.fM (T:=cl) Tryz.call7 Tryz.func7 U λ_=>?_;unfold M_l_FnOpen at h;refine V.co ab 11 0 h U (λh=>?_) (λh=>?_)
  ·cases h;exact V.rt ab 4 0 () [] U
  refine V.cM ab 4 0 h Xe [0] U λi _ h=>?_;refine V.cM ab 0 0 h Xf [] U λj _ h=>?_;refine V.cM ab 6 0 h Xe [0] U λk _ h=>?_;refine V.cM ab 0 0 h ai1 [] U λl _ h=>?_;refine V.co ab 2 0 h U (λh=>?_) (λh=>?_)
  ·refine V.cM ab 2 0 h Ii [] U ?_;rintro m ⟨e,eS⟩ h;refine V.sp ab 3 0 h U (λh=>?_) (λh=>?_)
   ·refine V.iH ab 0 0 h Ii [] U ⟨U,trivial⟩ ?_;rintro n ⟨e,eS⟩ h;cases h;exact V.rt ab 5 0 () [] U
   ·cases h;refine V.of ab 0 0 (.slice none 0 0) U ?_;exact V.rt ab 5 0 () [] U
  obtain⟨f,h⟩:=bC h;refine V.cM ab 5 0 h Ii [] ⟨f,U⟩ ?_;rintro o ⟨e,eS⟩ h;refine V.cj (aH.kj U (cL.buildSlice ab U U U U U U U U U U U [] U .str [([40]:aa)] ⟨U,U⟩ U U λp=>aH.kk (V.ct ?_)));refine V.cM ab 0 0 h Rf [2,1] U ?_;rintro q _ h;refine V.sp ab 1 0 h U (λh=>?_) (λh=>?_)
  ·obtain⟨b,h⟩:=bC h;obtain⟨c,h⟩:=bC h;obtain⟨d,h⟩:=bC h;refine V.iH ab 5 0 h Ii [] ⟨λ_=>b,λ_=>c,λ_=>d,U⟩ ⟨U,trivial⟩ ?_;rintro s ⟨a3,a⟩ h;refine V.cj (aH.Vq ab U U U U U U U U U U U U .str [([105,102]:aa),([123]:aa)] ⟨U,U⟩ U true ⟨λ_=>U,λ_=>U⟩ U λg=>V.ct ?_);refine V.iH ab 0 0 h Rf [2,1] U ⟨U,trivial⟩ ?_;rintro t _ h;refine V.sp ab 2 0 h U (λh=>?_) (λh=>?_)
   ·obtain⟨b,h⟩:=bC h;obtain⟨c,h⟩:=bC h;obtain⟨d,h⟩:=bC h;refine V.iH ab 5 0 h Ii [] ⟨λ_=>b,λ_=>c,λ_=>d,U⟩ ⟨U,trivial⟩ ?_;rintro u ⟨a3,a⟩ h;refine V.cj (aH.Vq ab U U U U U U U U U U U U .str [([99,97,115,101]:aa),([34]:aa),([36,40]:aa)] ⟨U,U⟩ U true ⟨λ_=>U,λ_=>U⟩ U λg=>V.ct ?_);refine V.iH ab 0 0 h Rf [2,1] U ⟨U,trivial⟩ ?_;rintro v _ h;cases h;exact V.rt ab 3 0 () [] U
   ·cases h;refine V.of ab 5 0 (.slice none 0 0) ⟨nofun,nofun,nofun,U⟩ ?_;refine V.of ab 0 0 (.slice none 0 0) U ?_;refine V.of ab 0 0 (.bool true) U ?_;exact V.rt ab 3 0 () [] U
  ·cases h;refine V.of ab 5 0 (.slice none 0 0) ⟨nofun,nofun,nofun,U⟩ ?_;refine V.of ab 0 0 (.slice none 0 0) U ?_;refine V.of ab 0 0 (.bool true) U ?_;refine V.of ab 7 0 (.slice none 0 0) ⟨nofun,nofun,nofun,U⟩ ?_;refine V.of ab 0 0 (.slice none 0 0) U ?_;refine V.of ab 0 0 (.bool true) U ?_;exact V.rt ab 3 0 () [] U
end
end Go.Eng
namespace Go.Eng
inductive dD(α:Type) where
 |ok (a:α) (r:aa) (pd:ao)
 |more (op:bl) (nd:aa) (pd:ao)
 |bad (r:aa)
 |deep (r:aa)
abbrev ak(α:Type):=aa->ao->dD α
def aY{α:Type}(a:α):ak α:=λr pd=> .ok a r pd
def ae{α β:Type}(m:ak α)(k:α->ak β):ak β:=λr pd=>match m r pd with
 | .ok a r pd=>k a r pd
 | .more op nd ds=> .more op nd ds
 | .bad r=> .bad r
 | .deep r=> .deep r
def lG:ao->aa
 |[]=>[]
 |d::ds=>d.1++10::lG ds
def cQ(nd:aa)(ds:ao):aa->aa×ao
 |[]=>(nd,ds)
 |b::x=>if b=10 then cQ (nd++10::lG ds) [] x else cQ (nd++[b]) ds x
def ak.aJ{α:Type}(m:ak α)(x:aa):ak α:=λr pd=>match m r pd with
 | .more op nd ds=> .more op (cQ nd ds x).1 (cQ nd ds x).2
 |y=>y
def ak.named{α:Type}(m:ak α)(n:aa):ak α:=λr pd=>match m r pd with
 | .more op nd ds=> .more (n::op) nd ds
 |y=>y
def b3{α:Type}(x:aa):ak α:=λ_ pd=> .more [] (cQ [] pd x).1 (cQ [] pd x).2
def bK{α:Type}:ak α:=λr _=> .bad r
def uH{α:Type}:ak α:=λr _=> .deep r
def b7{σ α:Type}(f:σ->ak (σ⊕α))(s:σ):ak α:=λr pd=>match f s r pd with
 | .ok (.inl s') r' b=>if r'.length<r.length then b7 f s' r' b else .bad r'
 | .ok (.inr a) r' b=> .ok a r' b
 | .more op nd ds=> .more op nd ds
 | .bad r=> .bad r
 | .deep r=> .deep r
termination_by r=>r.length
def gb(b:UInt8):Bool:=b==32||b==9
def lg:aa->aa
 |[]=>[]
 |b::t=>if b=10 then b::t else lg t
theorem Aq:∀(r:aa),(lg r).length<=r.length
 |[]=>cX _
 |b::t=>by
  unfold lg;split
  ·omega
  ·exact lL (Aq t) (Nat.le_succ _)
def bq:aa->Option aa
 |[]=>some []
 |b::t=>if gb b then bq t else if b=35 then bq (lg t) else
  if b=92 then match t with
   |10::u=>if u=[] then none else bq u
   |_=>some (b::t)
  else some (b::t)
termination_by r=>r.length
decreasing_by
 all_goals simp_wf
 ·grind[Aq]
 ·omega
def lh:bl:=[[60,60,45],[38,38],[124,124],[59,59],[60,60],[60,38],[60,62],[62,62],[62,38],[62,124],[38],[124],[59],[60],[62],[40],[41]]
def bt(r:aa):aa:=(lh.find? (λo=>o.isPrefixOf r)).getD []
def cW:aa->Bool
 |[]=>true
 |b::t=>gb b||b==10||bt (b::t)!=[]
def fQ:aa->Bool
 |36::40::_=>true
 |36::123::_=>true
 |_=>false
def c5:aa->aa×Bool
 |[]=>([],true)
 |b::t=>if cW (b::t) then([],true) else
  if b=92\/b=39\/b=34\/b=96\/fQ (b::t) then([],false) else
  match c5 t with
  |(w,true)=>(b::w,true)
  |(_,false)=>([],false)
inductive Tok where
 |eof
 |line
 |op (o:aa)
 |word (t:aa) (plain:Bool)
deriving DecidableEq
def ar:aa->Tok
 |[]=> .eof
 |b::t=>if b=10 then .line else if bt (b::t)≠[] then .op (bt (b::t)) else .word (c5 (b::t)).1 (c5 (b::t)).2
def bN(x:aa):ak Tok:=λr pd=>match bq r with
 |none=>b3 x r pd
 |some r'=> .ok (ar r') r' pd
def bV(n:Nat):ak Unit:=λr pd=> .ok () (r.drop n) pd
def gk:aa->Option aa
 |[]=>none
 |b::t=>if b=39 then some t else gk t
def gW:aa->Option aa
 |[]=>none
 |b::t=>if b=96 then some t else if b=92 then(match t with|[]=>none|_::u=>gW u) else gW t
inductive Xl where
 |ok (r:aa)
 |more (n:Nat)
 |bad (r:aa)
def h1:Nat->aa->Xl
 |d,[]=> .more (d+2)
 |d,b::t=>if b=39\/b=34\/b=92\/b=96\/fQ (b::t) then .bad (b::t) else
  if b=40 then h1 (d+1) t else
  if b=41 then match d with
   |eC+1=>h1 eC t
   |0=>match t with
    |[]=> .more 1
    |c::u=>if c=41 then .ok u else .bad (b::t)
  else h1 d t
def iM:aa->aa×aa
 |[]=>([],[])
 |b::t=>if b=10 then([],t) else((b::(iM t).1),(iM t).2)
theorem LP:∀(r:aa),r≠[]->(iM r).2.length<r.length
 |[],h=>absurd rfl h
 |b::t,_=>by
  unfold iM;split
  ·simp
  ·rcases t with _|⟨c,u⟩
   ·exact xN _
   ·exact Nat.lt_trans (LP (c::u) (by simp)) (xN _)
def ny(d:aa)(tabs:Bool):aa->Option aa
 |[]=>none
 |b::t=>if(if tabs then(iM (b::t)).1.dropWhile (· ==9) else(iM (b::t)).1)=d then some (iM (b::t)).2 else ny d tabs (iM (b::t)).2
termination_by r=>r.length
decreasing_by grind[LP]
def l6:ao->aa->aa⊕aa
 |[],r=> .inl r
 |d::ds,r=>match ny d.1 d.2 r with
  |some r'=>l6 ds r'
  |none=> .inr (lG (d::ds))
def iW:ak Unit:=λr pd=>match r with
 |[]=> .ok () [] pd
 |_::t=>match l6 pd t with
  | .inl r'=> .ok () r' []
  | .inr nd=> .more [[60,60]] nd []
def cR:ak Bool:=b7 (λsome=>ae (bN []) λt=>if t= .line then ae iW λ_=>aY (.inl true) else aY (.inr some)) false
def jr(f:aa->Option aa)(n:aa):ak Unit:=λr pd=>match f r with
 |some r'=> .ok () r' pd
 |none=> .more [n] n pd
def cA(D:ak Unit)(dq:Option (ak Unit)):ak Unit:=λr pd=>match r with
 |[]=> .ok () [] pd
 |b::t=>
  if b=92 then .ok () (t.drop 1) pd
  else if b=96 then jr gW [96] t pd
  else if fQ (b::t) then D (b::t) pd
  else match dq with
   |none=> .ok () t pd
   |some q=>if b=39 then jr gk [39] t pd else if b=34 then q t pd else .ok () t pd
def iX(c:UInt8)(part:ak Unit):ak Unit:=b7 (λ_ r pd=>match r with
 |[]=>b3 [] r pd
 |b::t=>if b=c then .ok (.inr ()) t pd else(ae part λ_=>aY (.inl ())) r pd) ()
def eF(D:ak Unit):ak Unit:=((iX 34 (cA D none)).aJ [34]).named [34]
def qV(D:ak Unit):ak Unit:=(iX 125 (cA D (some (eF D)))).aJ [125]
def cI(D:ak Unit):ak Unit:=b7 (λ_ r pd=>match r with
 |[]=>b3 [] r pd
 |_::_=>if cW r then .ok (.inr ()) r pd else(ae (cA D (some (eF D))) λ_=>aY (.inl ())) r pd) ()
def jM(D:ak Unit)(x:aa):ak Unit:=ae (bN x) λt=>match t with
 | .eof=>b3 x
 | .word _ _=>cI D
 |_=>bK
def yH(b:UInt8):Bool:=(97<=b&&b<=122)||(65<=b&&b<=90)||b==95
def ca(b:UInt8):Bool:=48<=b&&b<=57
def l7:aa->Bool
 |[]=>false
 |b::t=>yH b&&t.all λc=>yH c||ca c
def lV:aa:=[105,102]
def ih:aa:=[116,104,101,110]
def ij:aa:=[101,108,105,102]
def h2:aa:=[101,108,115,101]
def fa:aa:=[102,105]
def gO:aa:=[100,111]
def iN:aa:=[100,111,110,101]
def w9:aa:=[119,104,105,108,101]
def Ij:aa:=[117,110,116,105,108]
def nz:aa:=[102,111,114]
def nA:aa:=[99,97,115,101]
def ew:aa:=[101,115,97,99]
def fb:aa:=[105,110]
def rF(w:aa):Bool:=[lV,ih,ij,h2,fa,gO,iN,w9,Ij,nz,nA,ew,[123],[125],[33]].contains w
def qg(w:aa):Bool:=[lV,w9,Ij,nz,nA,[123]].contains w
def eZ(o:aa):Bool:=[[60,60,45],[60,60],[60,38],[60,62],[62,62],[62,38],[62,124],[60],[62]].contains o
theorem yI:∀(r q:aa),gk r=some q->q.length<r.length
 |[],q,h=>by grind[gk]
 |b::t,q,h=>by
  unfold gk at h;split at h
  ·grind
  ·exact Nat.lt_trans (yI t q h) (xN _)
inductive jh where
 |closed (o r:aa)
 |part
 |open_ (o:aa)
def jh.add(x:aa):jh->jh
 | .closed o r=> .closed (x++o) r
 | .part=> .part
 | .open_ o=> .open_ (x++o)
def Ar(c:UInt8):aa:=if c=36\/c=34\/c=92\/c=96 then [c] else if c=10 then [] else [92,c]
def eG:aa->jh
 |[]=> .open_ []
 |b::t=>if b=34 then .closed [] t else if b=36\/b=96 then .part else
  if b=92 then match t with
   |[]=> .part
   |c::u=>(eG u).add (Ar c)
  else(eG t).add [b]
theorem jh.Rg{x:aa}{q:jh}{o r:aa}(h:q.add x= .closed o r):∃a,q= .closed a r:=by cases q<;>simp[jh.add] at h;simp_all
theorem EX:∀(r:aa)(o q:aa),eG r= .closed o q->q.length<r.length
 |[],o,q,h=>by grind[eG]
 |b::t,o,q,h=>by
  unfold eG at h;split at h
  ·grind
  ·split at h
   ·cases h
   ·split at h
    ·match t,h with
     |[],h=>cases h
     |c::u,h=>obtain⟨a,ad⟩:=jh.Rg h;have:=EX u a q ad;grind
    ·obtain⟨a,ad⟩:=jh.Rg h;have:=EX t a q ad;grind
def du:aa->Option (aa×aa×aa)
 |[]=>some ([],[],[])
 |b::t=>if cW (b::t) then some ([],b::t,[]) else
  if b=92 then match t with
   |[]=>none
   |c::u=>(du u).map λq=>((if c=10 then [] else [c])++q.1,q.2)
  else if b=39 then match h:gk t with
   |none=>none
   |some r=>(du r).map λq=>(t.take (t.length-r.length-1)++q.1,q.2)
  else if b=36\/b=96 then none else
  if b=34 then match h:eG t with
   | .part=>none
   | .open_ o=>some (o,[],[34])
   | .closed o r=>(du r).map λq=>(o++q.1,q.2)
  else(du t).map λq=>(b::q.1,q.2)
termination_by r=>r.length
decreasing_by
 all_goals simp_wf
 ·omega
 ·have:=yI t r h;omega
 ·have:=EX t o r h;omega
def hB(tabs:Bool):ak Unit:=(λr pd=>match bq r with
 |none=> .more [] [120] (pd++[([120],tabs)])
 |some r'=>match ar r' with
  | .eof=> .more [] [120] (pd++[([120],tabs)])
  | .word _ _=>match du r' with
    |none=> .bad r'
    |some (d,q,a)=>if d.contains 10 then .bad r' else
     if tabs/\d.head?=some 9 then .bad r' else
     if a≠[] then .more [a] a (pd++[(d,tabs)]) else
     if q=[] then .more [] [] (pd++[(d,tabs)]) else .ok () q (pd++[(d,tabs)])
  |_=> .bad r')
def fN:ak (Option aa):=λr pd=>match bq r with
 |none=>b3 [] r pd
 |some r'=>let q:=r'.dropWhile ca
  if eZ (bt q) then .ok (some (bt q)) (q.drop (bt q).length) pd else .ok none r' pd
def dv(D:ak Unit):ak Bool:=ae fN λo=>match o with
 |none=>aY false
 |some o=>ae (if o=[60,60] then hB false else if o=[60,60,45] then hB true else jM D [120]) λ_=>aY true
def gI(D:ak Unit):ak Unit:=b7 (λ_=>ae (dv D) λb=>aY (if b then .inl () else .inr ())) ()
inductive Ctx where
 |text|paren|qh|rG|qi|kh|pE|done|item
deriving DecidableEq
def cB(t:Tok)(w:aa):Bool:=t== .word w true
def dE(c:Ctx)(t:Tok):Bool:=match c with
 | .text=>t== .eof
 | .paren=>t== .op [41]
 | .qh=>cB t [125]
 | .rG=>cB t ih
 | .qi=>cB t ij||cB t h2||cB t fa
 | .kh=>cB t fa
 | .pE=>cB t gO
 | .done=>cB t iN
 | .item=>t== .op [59,59]||cB t ew
def nb(b:Tok->Bool)(n:Nat):ak Unit:=ae (bN []) λt=>if t= .eof then b3 [] else if b t then bV n else bK
def jA(o:aa):ak Unit:=nb (· == .op o) o.length
def cZ(w:aa):ak Unit:=nb (cB · w) w.length
structure dT where
 ls:Ctx->Bool->ak Nat
 pm:ak Unit
 cp:Tok->ak Unit
 rd:ak Unit
 dl:ak Unit
 has:Bool
def nB:ak Unit:=λt pd=>match h1 0 t with
 | .ok r'=> .ok () r' pd
 | .more n=> .more [[36,40,40]] (List.replicate n 41) pd
 | .bad r'=> .bad r'
def su(lo:Option dT)(n:Nat)(f:dT->ak Unit):ak Unit:=match lo with
 |none=>uH
 |some l=>ae (bV n) λ_=>f l
def sv(l:dT):ak Unit:=ae (((l.ls .paren true).aJ [41]).named [36,40]) λ_=>jA [41]
def dw(lo:Option dT):ak Unit:=λr pd=>
 if [36,40,40].isPrefixOf r then ae (bV 3) (λ_=>nB) r pd
 else if [36,40].isPrefixOf r then su lo 2 sv r pd
 else if [36,123].isPrefixOf r then su lo 2 (λl=>l.pm.named [36,123]) r pd
 else .ok () (r.drop 1) pd
def gX(t:Tok):Bool:=t== .op [40]||(match t with| .word w true=>qg w|_=>false)
def hg(fr:Bool)(D:ak Unit):ak Unit:=b7 (λ_=>ae (dv D) λb=>if b then aY (.inl ()) else ae (bN []) λt=>match t with
 | .word _ _=>ae (cI D) λ_=>aY (.inl ())
 | .op o=>if fr/\o=[40] then bK else aY (.inr ())
 |_=>aY (.inr ())) ()
def lW(fr:Bool)(lo:Option dT):ak Unit:=match lo with
 |none=>uH
 |some l=>if l.has then
   (ae (bV 1) λ_=>ae (bN [41,32,123,32,120,10,125]) λt=>if t= .eof then b3 [41,32,123,32,120,10,125] else if t= .op [41] then
    ae (bV 1) λ_=>ae (cR.aJ [123,32,120,10,125]) λ_=>ae (bN [123,32,120,10,125]) λt=>if t= .eof then b3 [123,32,120,10,125] else
     if gX t then ae (l.cp t) λ_=>if fr then l.rd else aY () else bK
    else bK).named [102,40,41]
  else uH
def iO(l:dT)(x:aa):ak Unit:=ae ((cZ gO).aJ x) λ_=>ae ((l.ls .done false).aJ (10::iN)) λ_=>cZ iN
def qj(l:dT):ak Unit:=b7 (λ_=>ae ((l.ls .rG false).aJ ([10]++ih++[32,120,10]++fa)) λ_=>ae (cZ ih) λ_=>ae ((l.ls .qi false).aJ (10::fa)) λ_=>
    ae (bN []) λt=>if cB t ij then ae (cZ ij) λ_=>aY (.inl ()) else
     if cB t h2 then ae (cZ h2) λ_=>ae ((l.ls .kh false).aJ (10::fa)) λ_=>ae (cZ fa) λ_=>aY (.inr ()) else ae (cZ fa) λ_=>aY (.inr ())) ()
def eo:aa:=[10]++gO++[32,120,10]++iN
def tm:aa:=120::eo
def pF(D:ak Unit):ak Unit:=b7 (λ_=>ae (bN []) λt=>match t with
 | .eof=>b3 []
 | .word _ _=>ae (cI D) λ_=>aY (.inl ())
 | .line=>aY (.inr ())
 | .op o=>if o=[59] then ae (bV 1) λ_=>aY (.inr ()) else bK) ()
def pG(l:dT)(D:ak Unit):ak Unit:=ae (bN tm) λt=>match t with
 | .eof=>b3 tm
 | .word w true=>if l7 w then ae (bV w.length) λ_=>
   ae ((ae (bN []) λt=>if t= .op [59] then ae (bV 1) λ_=>ae cR λ_=>aY () else
    ae cR λ_=>ae (bN []) λt=>if cB t fb then ae (bV 2) λ_=>ae (pF D) λ_=>ae cR λ_=>aY () else aY ()).aJ eo) λ_=>iO l eo
  else bK
 |_=>bK
def kq(D:ak Unit):ak Unit:=b7 (λ_=>ae (bN [120,41]) λt=>match t with
 | .eof=>b3 [120,41]
 | .word _ _=>ae ((cI D).aJ [41]) λ_=>ae (bN [41]) λt=>match t with
   | .eof=>b3 [41]
   | .op o=>if o=[124] then ae (bV 1) λ_=>aY (.inl ()) else if o=[41] then ae (bV 1) λ_=>aY (.inr ()) else bK
   |_=>bK
 |_=>bK) ()
def nc(l:dT)(D:ak Unit):ak Unit:=b7 (λ_=>ae cR λ_=>ae (bN []) λt=>if t= .eof then b3 [] else if cB t ew then ae (bV 4) λ_=>aY (.inr ()) else
 ae ((if t= .op [40] then bV 1 else aY ())) λ_=>ae (kq D) λ_=>ae (l.ls .item true) λ_=>ae (bN []) λt=>if t= .op [59,59] then ae (bV 2) λ_=>aY (.inl ()) else aY (.inl ())) ()
def qk(l:dT)(D:ak Unit):ak Unit:=ae (bN ([120,32]++fb++[10]++ew)) λt=>match t with
 | .eof=>b3 ([120,32]++fb++[10]++ew)
 | .word _ _=>ae ((ae (cI D) λ_=>ae cR λ_=>ae (bN []) λt=>if t= .eof then b3 [] else aY t).aJ ([32]++fb++[10]++ew)) λt=>
  if cB t fb then ae (bV 2) λ_=>(nc l D).aJ (10::ew) else bK
 |_=>bK
def gY(l:dT)(t:Tok):ak Unit:=match t with
 | .op _=>ae (bV 1) λ_=>ae ((l.ls .paren false).aJ [41]) λ_=>jA [41]
 | .word w _=>ae (bV w.length) λ_=>
  if w=[123] then ae ((l.ls .qh false).aJ [10,125]) λ_=>cZ [125]
  else if w=lV then qj l
  else if w=nz then pG l l.dl
  else if w=nA then qk l l.dl
  else ae ((l.ls .pE false).aJ eo) λ_=>iO l eo
 |_=>bK
def mH:Tok->aa
 | .word w _=>w
 |_=>[40]
def sw(lo:Option dT)(t:Tok):ak Unit:=match lo with
 |none=>uH
 |some l=>(gY l t).named (mH t)
def fl(fr:Bool)(lo:Option dT)(D:ak Unit):ak Unit:=ae (bN [120]) λt=>
 if t= .eof then b3 [120] else if gX t then ae (sw lo t) λ_=>gI D else match t with
  | .op o=>if eZ o then ae (dv D) λ_=>hg fr D else bK
  | .word w p=>if p&&rF w then bK else ae (dv D) λb=>if b then hg fr D else ae (cI D) λ_=>
   if p&&l7 w then ae (bN []) λt=>if t= .op [40] then ae (lW fr lo) λ_=>if fr then aY () else gI D else hg fr D else hg fr D
  |_=>bK
def ff(c8:ak Unit):ak Unit:=ae (bN [120]) λt=>ae (if cB t [33] then bV 1 else aY ()) λ_=>ae c8 λ_=>
 b7 (λ_=>ae (bN []) λt=>if t= .op [124] then ae (bV 1) λ_=>ae (cR.aJ [120]) λ_=>ae c8 λ_=>aY (.inl ()) else aY (.inr ())) ()
def hi(a:ak Unit):ak Unit:=ae a λ_=>
 b7 (λ_=>ae (bN []) λt=>if t= .op [38,38]\/t= .op [124,124] then ae (bV 2) λ_=>ae (cR.aJ [120]) λ_=>ae a λ_=>aY (.inl ()) else aY (.inr ())) ()
def om(cV:ak Unit)(c:Ctx)(none:Bool):ak Nat:=ae (cR.aJ (if none then [] else [120])) λ_=>b7 (λn=>ae (bN (if none||n>0 then [] else [120])) λt=>
 if t= .eof then(if c= .text then aY (.inr n) else b3 (if none||n>0 then [] else [120])) else if(none||n>0)&&dE c t then aY (.inr n) else
 ae cV λ_=>ae (bN []) λt=>match t with
  | .eof=>aY (.inl (n+1))
  | .line=>ae cR λ_=>aY (.inl (n+1))
  | .word _ _=>bK
  | .op o=>if o=[59]\/o=[38] then ae (bV 1) λ_=>ae cR λ_=>aY (.inl (n+1)) else if dE c t then aY (.inr (n+1)) else bK) 0
def aS(fr:Bool):Nat->dT
 |0=>let D:=dw none;{ls:=om (hi (ff (fl fr none D))),pm:=qV D,cp:=sw none,rd:=gI D,dl:=D,has:=false}
 |n+1=>let lo:=some (aS fr n);let D:=dw lo;{ls:=om (hi (ff (fl fr lo D))),pm:=qV D,cp:=sw lo,rd:=gI D,dl:=D,has:=true}
def gr(fr:Bool)(n:Nat)(r:aa):dD Nat:=(aS fr n).ls .text true r []
def c_(u:aa):Prop:=u=[]\/∃t,u=t++[10]
theorem c_.tail{b:UInt8}{t:aa}(h:c_ (b::t)):c_ t:=by
 rcases h with h|⟨s,h⟩
 ·cases h
 ·cases s with
  |nil=>simp at h;exact .inl h.2
  |cons c s=>simp at h;exact .inr ⟨s,h.2⟩
theorem c_.head{b:UInt8}(h:c_ [b]):b=10:=by
 rcases h with h|⟨s,h⟩
 ·cases h
 ·cases s with
  |nil=>grind
  |cons c s=>simp at h
theorem c_.ne{b:UInt8}{t:aa}(h:c_ (b::t))(a:b≠10):t≠[]:=by rintro rfl;exact a h.head
theorem c_.sfx{u r:aa}(h:c_ u)(a:r<:+u):c_ r:=by
 obtain⟨p,rfl⟩:=a;induction p with
 |nil=>exact h
 |cons b p c=>exact c h.tail
structure aq{α:Type}(f:ak α):Prop where
 sfx:∀{r:aa}{pd:ao}{a:α}{r':aa}{aC:ao},f r pd= .ok a r' aC->r'<:+r
 ok:∀{u:aa}{pd:ao}{a:α}{r':aa}{aC:ao}(v:aa),c_ u->f u pd= .ok a r' aC->r'≠[]->f (u++v) pd= .ok a (r'++v) aC
 bad:∀{u:aa}{pd:ao}{r':aa}(v:aa),c_ u->f u pd= .bad r'->r'≠[]/\r'<:+u/\f (u++v) pd= .bad (r'++v)
 deep:∀{u:aa}{pd:ao}{r':aa}(v:aa),c_ u->f u pd= .deep r'->r'≠[]/\r'<:+u/\f (u++v) pd= .deep (r'++v)
 nil:∀(pd:ao),(∃op nd ds,f [] pd= .more op nd ds)\/∃a,f [] pd= .ok a [] pd
theorem aq.ret{α:Type}(a:α):aq (aY a) where
 sfx h:=by cases h;simp
 ok v _ h _:=by cases h;rfl
 bad v _ h:=by cases h
 deep v _ h:=by cases h
 nil pd:= .inr ⟨a,rfl⟩
theorem aq.ae{α β:Type}{m:ak α}{k:α->ak β}(hm:aq m)(hk:∀a,aq (k a)):aq (ae m k) where
 sfx {r pd b r' j} h:=by
  unfold Go.Eng.ae at h;split at h
  ·rename_i a r1 aD ad;exact List.IsSuffix.trans ((hk a).sfx h) (hm.sfx ad)
  all_goals cases h
 ok {u pd b r' j} v hu h l:=by
  unfold Go.Eng.ae at h⊢;split at h
  ·rename_i a r1 aD ad;by_cases e:r1=[]
   ·subst e;rcases(hk a).nil aD with⟨op,nd,ds,c⟩|⟨i,c⟩
    ·grind
    grind
   ·rw[hm.ok v hu ad e];exact(hk a).ok v (hu.sfx (hm.sfx ad)) h l
  all_goals cases h
 bad {u pd r'} v hu h:=by
  unfold Go.Eng.ae at h⊢;split at h
  ·rename_i a r1 aD ad;by_cases e:r1=[]
   ·subst e;rcases(hk a).nil aD with⟨op,nd,ds,c⟩|⟨i,c⟩<;>(grind)
   ·rw[hm.ok v hu ad e];obtain⟨d,f,g⟩:=(hk a).bad v (hu.sfx (hm.sfx ad)) h;exact⟨d,f.trans (hm.sfx ad),g⟩
  ·cases h
  ·rename_i r1 ad;cases h;obtain⟨d,f,g⟩:=hm.bad v hu ad;grind
  grind
 deep {u pd r'} v hu h:=by
  unfold Go.Eng.ae at h⊢;split at h
  ·rename_i a r1 aD ad;by_cases e:r1=[]
   ·subst e;rcases(hk a).nil aD with⟨op,nd,ds,c⟩|⟨i,c⟩<;>(grind)
   ·rw[hm.ok v hu ad e];obtain⟨d,f,g⟩:=(hk a).deep v (hu.sfx (hm.sfx ad)) h;exact⟨d,f.trans (hm.sfx ad),g⟩
  ·cases h
  ·cases h
  ·rename_i r1 ad;cases h;obtain⟨d,f,g⟩:=hm.deep v hu ad;grind
 nil pd:=by
  unfold Go.Eng.ae;rcases hm.nil pd with⟨op,nd,ds,h⟩|⟨a,h⟩
  ·simp_all
  simp_all[nil]
theorem aq.Xm{α:Type}{m c:ak α}(hm:aq m)(h:∀r pd,c r pd=m r pd\/∃op nd ds d f g,m r pd= .more op nd ds/\c r pd= .more d f g):aq c where
 sfx {r pd a r' i} e:=by
  rcases h r pd with ad|⟨_,_,_,_,_,_,ad,b⟩
  ·exact hm.sfx (ad▸e)
  grind
 ok {u pd a r' i} v hu e j:=by
  rcases h u pd with ad|⟨_,_,_,_,_,_,ad,b⟩
  ·have:=hm.ok v hu (ad▸e) j;grind
  grind
 bad {u pd r'} v hu e:=by
  rcases h u pd with ad|⟨_,_,_,_,_,_,ad,b⟩
  ·obtain⟨k,l,this⟩:=hm.bad v hu (ad▸e);grind
  grind
 deep {u pd r'} v hu e:=by
  rcases h u pd with ad|⟨_,_,_,_,_,_,ad,b⟩
  ·obtain⟨k,l,this⟩:=hm.deep v hu (ad▸e);grind
  grind
 nil pd:=by
  rcases h [] pd with ad|⟨_,_,_,_,_,_,ad,b⟩
  ·rw[ad];exact hm.nil pd
  grind
theorem aq.aJ{α:Type}{m:ak α}(hm:aq m)(x:aa):aq (m.aJ x):=hm.Xm λr pd=>by unfold ak.aJ;grind
theorem aq.named{α:Type}{m:ak α}(hm:aq m)(x:aa):aq (m.named x):=hm.Xm λr pd=>by unfold ak.named;grind
theorem aq.b3{α:Type}(x:aa):aq (b3 x:ak α) where
 sfx h:=by cases h
 ok v _ h _:=by cases h
 bad v _ h:=by cases h
 deep v _ h:=by cases h
 nil pd:= .inl ⟨_,_,_,rfl⟩
theorem ql{σ α:Type}(f:σ->ak (σ⊕α))(s:σ)(r:aa)(pd:ao):b7 f s r pd=match f s r pd with
 | .ok (.inl s') r' b=>if r'.length<r.length then b7 f s' r' b else .bad r'
 | .ok (.inr a) r' b=> .ok a r' b
 | .more op nd ds=> .more op nd ds
 | .bad r=> .bad r
 | .deep r=> .deep r:=by
 grind[b7]
structure ik{σ α:Type}(f:σ->ak (σ⊕α)):Prop where
 ex:∀s,aq (f s)
 lt:∀{s:σ}{r:aa}{pd:ao}{s':σ}{r':aa}{aC:ao},f s r pd= .ok (.inl s') r' aC->r'.length<r.length
theorem aq.rep{σ α:Type}{f:σ->ak (σ⊕α)}(h:ik f)(s:σ):aq (b7 f s):=by
 have nil:∀s (pd:ao),(∃op nd ds,b7 f s [] pd= .more op nd ds)\/∃a,b7 f s [] pd= .ok a [] pd:=by
  intro s pd;rw[ql];rcases(h.ex s).nil pd with⟨op,nd,ds,e⟩|⟨a,e⟩
  ·simp_all
  ·rw[e];cases a with
   |inl s'=>exact absurd (h.lt e) (by simp)
   |inr a=>simp
 have sfx:∀(n:Nat)(s:σ)(r:aa)(pd:ao)(a:α)(r':aa)(d:ao),r.length<=n->b7 f s r pd= .ok a r' d->r'<:+r:=by
  intro n;induction n with
  |zero=>
   intro s r pd a r' d aw e;have:r=[]:=n7.1 (by omega);subst this;rcases nil s pd with⟨op,nd,ds,q⟩|⟨a,q⟩<;>rw[q] at e<;>cases e
   simp
  |succ n g=>
   intro s r pd a r' d aw e;rw[ql] at e;split at e
   ·rename_i s1 r1 aD b;rw[bh (h.lt b)] at e;have:=h.lt b;exact(g s1 r1 aD a r' d (by omega) e).trans ((h.ex s).sfx b)
   ·rename_i b;cases e;exact(h.ex s).sfx b
   all_goals cases e
 have c:∀(n:Nat)(s:σ)(u:aa)(pd:ao)(v:aa),u.length<=n->c_ u->
   (∀a r' d,b7 f s u pd= .ok a r' d->r'≠[]->b7 f s (u++v) pd= .ok a (r'++v) d)/\
   (∀r',b7 f s u pd= .bad r'->r'≠[]/\r'<:+u/\b7 f s (u++v) pd= .bad (r'++v))/\
   (∀r',b7 f s u pd= .deep r'->r'≠[]/\r'<:+u/\b7 f s (u++v) pd= .deep (r'++v)):=by
  intro n;induction n with
  |zero=>
   intro s u pd v aw hu;have:u=[]:=n7.1 (by omega);subst this;rcases nil s pd with⟨op,nd,ds,q⟩|⟨a,q⟩<;>rw[q]<;>refine⟨?_,?_,?_⟩
   ·simp
   ·simp
   ·simp
   ·simp
   ·simp
   simp
  |succ n g=>
   intro s u pd v aw hu;rw[ql f s u pd];cases b:f s u pd with
   |ok x r1 aD=>
    cases x with
    |inl s1=>
     simp only[h.lt b,cH];by_cases m:r1=[]
     ·subst m;rcases nil s1 aD with⟨op,nd,ds,q⟩|⟨a,q⟩<;>rw[q]<;>refine⟨?_,?_,?_⟩
      ·simp
      ·simp
      ·simp
      ·simp
      ·simp
      simp
     ·have o:=(h.ex s).ok v hu b m;have i:=(h.ex s).sfx b;obtain⟨p,j,k⟩:=g s1 r1 aD v (by have:=h.lt b;omega) (hu.sfx i);have t:b7 f s (u++v) pd=b7 f s1 (r1++v) aD:=by rw[ql f s (u++v) pd,o];simp only[h.lt o,cH]
      rw[t];exact⟨p,λr' e=>⟨(j r' e).1,(j r' e).2.1.trans i,(j r' e).2.2⟩,λr' e=>⟨(k r' e).1,(k r' e).2.1.trans i,(k r' e).2.2⟩⟩
    |inr a=>
     refine⟨?_,?_,?_⟩
     ·intro A r' d e l;cases e;rw[ql,(h.ex s).ok v hu b l]
     ·simp
     simp
   |more op nd ds=>simp
   |bad r1=>refine⟨λ_ _ _ e=>(by cases e),λr' e=>?_,λ_ e=>(by cases e)⟩;cases e;obtain⟨w,y,z⟩:=(h.ex s).bad v hu b;grind[ql]
   |deep r1=>refine⟨λ_ _ _ e=>(by cases e),λ_ e=>(by cases e),λr' e=>?_⟩;cases e;obtain⟨w,y,z⟩:=(h.ex s).deep v hu b;grind[ql]
 exact⟨λe=>sfx _ s _ _ _ _ _ (cX _) e,λv hu e l=>(c _ s _ _ v (cX _) hu).1 _ _ _ e l,λv hu e=>(c _ s _ _ v (cX _) hu).2.1 _ e,λv hu e=>(c _ s _ _ v (cX _) hu).2.2 _ e,nil s⟩
theorem LQ{o:aa}:∀{r:aa}(v:aa),10∉o->c_ r->r≠[]->o.isPrefixOf (r++v)=o.isPrefixOf r:=by
 induction o with
 |nil=>simp
 |cons c o d=>
  intro r v e a aw;cases r with
  |nil=>grind
  |cons b t=>
   simp only[hF,List.isPrefixOf];by_cases f:b=10
   ·grind
   ·rw[d v (λh=>e (NJ _ h)) a.tail (a.ne f)]
theorem Rj{r:aa}(v:aa)(a:c_ r)(aw:r≠[]):bt (r++v)=bt r:=by
 unfold bt;congr 1
 have:∀(l:bl),(∀o∈l,(10:UInt8)∉o)->l.find? (λo=>o.isPrefixOf (r++v))=l.find? (λo=>o.isPrefixOf r):=by
  intro l;induction l with
  |nil=>simp
  |cons o l b=>grind[LQ,List.mem_cons_self,List.mem_cons_of_mem]
 simp_all[lh]
theorem Ik{r:aa}(v:aa)(a:c_ r)(aw:r≠[]):cW (r++v)=cW r:=by
 cases r with
 |nil=>grind
 |cons b t=>grind[Rj,cW]
theorem Rk{r:aa}(v:aa)(c:c_ r)(aw:r≠[]):fQ (r++v)=fQ r:=by
 match r,c,aw with
 |[b],c,_=>rw[c.head];rfl
 |a::b::t,c,_=>simp only[hF];unfold fQ;grind
theorem Ct(t:aa):cW (10::t)=true:=by rfl
theorem Xn:∀{r:aa}(v:aa),c_ r->r≠[]->c5 (r++v)=c5 r
 |[],_,_,aw=>absurd rfl aw
 |b::t,v,a,aw=>by
  have ad:=Ik v a aw;have c:=Rk v a aw;simp only[hF] at ad c;simp only[hF,c5,ad,c];by_cases d:b=10
  ·subst d;simp[Ct]
  ·rw[Xn v a.tail (a.ne d)]
theorem EY{r:aa}(v:aa)(a:c_ r)(aw:r≠[]):ar (r++v)=ar r:=by
 cases r with
 |nil=>grind
 |cons b t=>grind[Rj,Xn,ar]
theorem EZ:∀(r:aa),lg r<:+r
 |[]=>sW _
 |b::t=>by
  unfold lg;split
  ·exact sW _
  ·exact(EZ t).trans (ee _ _)
theorem Xo:∀{r:aa},c_ r->r≠[]->lg r≠[]
 |[],_,aw=>absurd rfl aw
 |b::t,a,_=>by
  unfold lg;split
  ·simp
  ·rename_i c;exact Xo a.tail (a.ne c)
theorem Xp:∀{r:aa}(v:aa),c_ r->r≠[]->lg (r++v)=lg r++v
 |[],_,_,aw=>absurd rfl aw
 |b::t,v,a,_=>by
  simp only[hF];rw[lg,lg];split
  ·rfl
  ·rename_i c;exact Xp v a.tail (a.ne c)
theorem nC(b:UInt8)(t:aa):bq (b::t)=(if gb b then bq t else if b=35 then bq (lg t) else
  if b=92 then match t with
   |10::u=>if u=[] then none else bq u
   |_=>some (b::t)
  else some (b::t)):=by
 grind[bq.eq_def]
theorem lX:bq []=some []:=by rw[bq]
theorem Xq:∀(n:Nat)(r:aa)(v:aa),r.length<=n->(∀r',bq r=some r'->r'<:+r/\(c_ r->r≠[]->r'≠[]/\bq (r++v)=some (r'++v))):=by
 intro n;induction n with
 |zero=>intro r v aw r' h;have:r=[]:=n7.1 (by omega);subst this;rw[lX] at h;cases h;exact⟨sW _,λ_ h=>absurd rfl h⟩
 |succ n i=>
  intro r v aw r' h;cases r with
  |nil=>rw[lX] at h;cases h;exact⟨sW _,λ_ h=>absurd rfl h⟩
  |cons b t=>
   simp only[mv] at aw;rw[nC] at h;have f:bq (b::t++v)=_:=nC b (t++v);split at h
   ·rename_i d;obtain⟨ad,e⟩:=i t v (by omega) r' h;refine⟨ad.trans (ee _ _),λa _=>?_⟩;have j:b≠10:=by rintro rfl;grind[gb]
    rw[f,bh d];exact e a.tail (a.ne j)
   ·rename_i d;split at h
    ·rename_i g;subst g;obtain⟨ad,e⟩:=i (lg t) v (by grind[Aq]) r' h;refine⟨ad.trans ((EZ t).trans (ee _ _)),λa _=>?_⟩;rw[f,aP d,bh rfl,Xp v a.tail (a.ne (by decide))];exact e (a.tail.sfx (EZ t)) (Xo a.tail (a.ne (by decide)))
    ·rename_i g;split at h
     ·rename_i k;subst k;split at h
      ·rename_i u;split at h
       ·cases h
       ·rename_i hu;obtain⟨ad,e⟩:=i u v (by grind) r' h;refine⟨ad.trans ((ee _ _).trans (ee _ _)),λa _=>?_⟩;rw[f,aP d,aP g,bh rfl];simp only[hF];rw[aP (by simp[hu])];exact e a.tail.tail hu
      ·rename_i hu;cases h;refine⟨sW _,λa l=>⟨l,?_⟩⟩;rw[f,aP d,aP g,bh rfl];cases t with
       |nil=>exact absurd a.head (by decide)
       |cons c u=>simp_all
     grind
theorem dU{r r':aa}(h:bq r=some r'):r'<:+r:=(Xq _ r [] (cX _) r' h).1
theorem tn{r r':aa}(v:aa)(h:bq r=some r')(a:c_ r)(aw:r≠[]):r'≠[]/\bq (r++v)=some (r'++v):=(Xq _ r v (cX _) r' h).2 a aw
theorem ai5{r:aa}(h:r<:+[]):r=[]:=List.suffix_nil.1 h
theorem aq.dN(x:aa):aq (bN x) where
 sfx {r pd a r' d} h:=by
  unfold bN at h;split at h
  ·cases h
  grind[dU]
 ok {u pd a r' d} v hu h c:=by
  unfold bN at h⊢;split at h
  ·cases h
  ·rename_i q b;cases h;have aw:u≠[]:=by rintro rfl;exact c (ai5 (dU b))
   rw[(tn v b hu aw).2];simp only[EY v (hu.sfx (dU b)) c]
 bad v _ h:=by unfold bN at h;split at h<;>cases h
 deep v _ h:=by unfold bN at h;split at h<;>cases h
 nil pd:=by unfold bN;rw[lX];exact .inr ⟨_,rfl⟩
theorem aq.dm(n:Nat):aq (bV n) where
 sfx h:=by cases h;simp[lK]
 ok {u pd a r' b} v _ h c:=by
  cases h;have:n<=u.length:=by grind[Nat.lt_or_ge,absurd,List.drop_eq_nil_of_le,Nat.le_of_lt]
  grind[bV]
 bad v _ h:=by cases h
 deep v _ h:=by cases h
 nil pd:= .inr ⟨(),by simp[bV]⟩
theorem aq.ite{α:Type}{c:Prop}[Decidable c]{f g:ak α}(hf:aq f)(bs:aq g):aq (if c then f else g):=by grind
theorem Il:∀(r:aa)(v:aa)(q:aa),gk r=some q->q<:+r/\gk (r++v)=some (q++v)
 |[],v,q,h=>by grind[gk]
 |b::t,v,q,h=>by
  rw[gk] at h;simp only[hF];rw[gk];split at h
  ·grind
  ·rename_i a;obtain⟨ad,c⟩:=Il t v q h;grind
theorem ai6:∀(n:Nat)(r:aa)(v:aa)(q:aa),r.length<=n->gW r=some q->q<:+r/\gW (r++v)=some (q++v):=by
 intro n;induction n with
 |zero=>grind[List.length_eq_zero_iff,gW]
 |succ n d=>
  intro r v q aw h
  match r,aw,h with
  |[],_,h=>grind[gW]
  |[b],aw,h=>grind[gW,List.suffix_cons,gW.eq_def]
  |b::c::t,aw,h=>
   simp only[mv] at aw;by_cases g:b=96
   ·grind[gW,List.suffix_cons]
   ·by_cases e:b=92
    ·subst e;have a:gW t=some q:=by grind[gW]
     obtain⟨ad,f⟩:=d t v q (by omega) a;grind[List.suffix_cons,trans,gW]
    ·have a:gW (c::t)=some q:=by grind[gW]
     obtain⟨ad,f⟩:=d (c::t) v q (by grind) a;grind[List.suffix_cons,gW]
theorem aq.to{f:aa->Option aa}(n:aa)(hf:∀r v q,f r=some q->q<:+r/\f (r++v)=some (q++v))(h0:f []=none):aq (jr f n) where
 sfx {r pd a r' b} h:=by
  unfold jr at h;split at h
  ·rename_i q c;cases h;exact(hf r [] _ c).1
  grind
 ok {u pd a r' b} v _ h d:=by
  unfold jr at h⊢;split at h
  ·grind
  grind
 bad v _ h:=by unfold jr at h;split at h<;>cases h
 deep v _ h:=by unfold jr at h;split at h<;>cases h
 nil pd:=by unfold jr;rw[h0];exact .inl ⟨_,_,_,rfl⟩
def mK{α:Type}(f:ak α):Prop:=∀{r:aa}{pd:ao}{a:α}{r':aa}{b:ao},r≠[]->f r pd= .ok a r' b->r'.length<r.length
def fR{σ α:Type}(f:ak (σ⊕α)):Prop:=∀{r:aa}{pd:ao}{s:σ}{r':aa}{a:ao},r≠[]->f r pd= .ok (.inl s) r' a->r'.length<r.length
def iY{σ α:Type}(f:ak (σ⊕α)):Prop:=∀{pd:ao}{s:σ}{r':aa}{a:ao},f [] pd≠ .ok (.inl s) r' a
theorem b4{α β:Type}{m:ak α}{k:α->ak β}{r:aa}{pd:ao}{b:β}{r':aa}{c:ao}(h:ae m k r pd= .ok b r' c):∃a r1 aD,m r pd= .ok a r1 aD/\k a r1 aD= .ok b r' c:=by grind[ae]
theorem aM{α β:Type}{m:ak α}{k:α->ak β}{r:aa}{pd:ao}{a:α}{r1:aa}{aD:ao}(h:m r pd= .ok a r1 aD):ae m k r pd=k a r1 aD:=by grind[ae]
theorem hJ{α:Type}{m:ak α}{x r:aa}{pd:ao}{a:α}{r':aa}{b:ao}:m.aJ x r pd= .ok a r' b↔m r pd= .ok a r' b:=by grind[ak.aJ]
theorem Cu{α:Type}{m:ak α}{x r:aa}{pd:ao}{a:α}{r':aa}{b:ao}:m.named x r pd= .ok a r' b↔m r pd= .ok a r' b:=by grind[ak.named]
theorem ik.of{σ α:Type}{f:σ->ak (σ⊕α)}(h:∀s,aq (f s))(ad:∀s,fR (f s))(b:∀s,iY (f s)):ik f:=⟨h,λ{s r pd s' r' c} e=>by
 by_cases a:r=[]
 ·subst a;exact absurd e (b s)
 ·exact ad s a e⟩
theorem w_{r r':aa}(h:r'<:+r):r'.length<=r.length:=h.length_le
theorem lH{r:aa}:ar r= .eof↔r=[]:=by
 cases r with
 |nil=>decide
 |cons b t=>simp only[ar,reduceCtorEq,iff_false];grind
theorem nD{x r:aa}{pd:ao}{t:Tok}{r':aa}{a:ao}(h:bN x r pd= .ok t r' a):bq r=some r'/\t=ar r'/\a=pd:=by
 unfold bN at h;split at h
 ·cases h
 grind
theorem fR.dN{σ α:Type}{x:aa}{k:Tok->ak (σ⊕α)}(h:∀t,t≠ .eof->fR (k t))(h0:iY (k .eof)):fR (ae (bN x) k):=by
 intro r pd s r' c d e;obtain⟨t,r1,aD,ad,a⟩:=b4 e;obtain⟨b,rfl,rfl⟩:=nD ad;have hl:=w_ (dU b);by_cases aw:r1=[]
 ·subst aw;exact absurd a h0
 ·have:=h (ar r1) (λhe=>aw (lH.1 he)) aw a;omega
theorem iY.dN{σ α:Type}{x:aa}{k:Tok->ak (σ⊕α)}(h:iY (k .eof)):iY (ae (bN x) k):=by intro pd s r' c e;obtain⟨t,r1,aD,ad,b⟩:=b4 e;obtain⟨a,rfl,rfl⟩:=nD ad;rw[lX] at a;cases a;exact h b
theorem fR.inr{σ α:Type}(a:α):fR (aY (.inr a):ak (σ⊕α)):=by intro _ _ _ _ _ _ e;cases e
theorem iY.inr{σ α:Type}(a:α):iY (aY (.inr a):ak (σ⊕α)):=by intro _ _ _ _ e;cases e
theorem iY.more{σ α:Type}(x:aa):iY (b3 x:ak (σ⊕α)):=by intro _ _ _ _ e;cases e
theorem fR.bad{σ α:Type}:fR (bK:ak (σ⊕α)):=by intro _ _ _ _ _ _ e;cases e
theorem fR.Cv{σ α β:Type}{m:ak β}{k:β->ak (σ⊕α)}(hm:mK m)(hk:∀b,aq (k b)):fR (ae m k):=by intro r pd s r' d a e;obtain⟨t,r1,aD,ad,c⟩:=b4 e;have:=hm a ad;have:=w_ ((hk t).sfx c);omega
theorem fR.ite{σ α:Type}{c:Prop}[Decidable c]{f g:ak (σ⊕α)}(hf:fR f)(bs:fR g):fR (if c then f else g):=by grind
theorem mK.dm(n:Nat):mK (bV (n+1)):=by
 intro r pd a r' c d e;cases e;cases r with
 |nil=>grind
 |cons b t=>grind
theorem Xr:∀(r:aa),(iM r).2<:+r
 |[]=>sW _
 |b::t=>by
  unfold iM;split
  ·exact ee _ _
  ·exact(Xr t).trans (ee _ _)
theorem Rl:∀{r:aa}(v:aa),c_ r->r≠[]->iM (r++v)=((iM r).1,(iM r).2++v)
 |[],_,_,aw=>absurd rfl aw
 |b::t,v,a,_=>by
  simp only[hF];rw[iM,iM];split
  ·rfl
  ·rename_i c;rw[Rl v a.tail (a.ne c)]
theorem Cw(d:aa)(tabs:Bool)(b:UInt8)(t:aa):ny d tabs (b::t)=(if(if tabs then(iM (b::t)).1.dropWhile (· ==9) else(iM (b::t)).1)=d then some (iM (b::t)).2 else ny d tabs (iM (b::t)).2):=by rw[ny]
theorem Rm(d:aa)(tabs:Bool):∀(n:Nat)(r v q:aa),r.length<=n->ny d tabs r=some q->q<:+r/\(c_ r->ny d tabs (r++v)=some (q++v)):=by
 intro n;induction n with
 |zero=>grind[List.length_eq_zero_iff,ny]
 |succ n f=>
  intro r v q aw h;cases r with
  |nil=>grind[ny]
  |cons b t=>
   rw[Cw] at h;have i:=LP (b::t) (by simp);have c:=Xr (b::t);by_cases aF:(if tabs then(iM (b::t)).1.dropWhile (· ==9) else(iM (b::t)).1)=d
   ·rw[bh aF] at h;cases h;refine⟨c,λa=>?_⟩;have e:=Rl v a (by simp);simp_all[hF,Cw,bh]
   ·rw[aP aF] at h;obtain⟨ad,g⟩:=f _ v q (by omega) h;refine⟨ad.trans c,λa=>?_⟩;have e:=Rl v a (by simp);simp only[hF] at e⊢;rw[Cw,e,aP aF];exact g (a.sfx c)
theorem vO:∀(ds:ao)(r v q:aa),l6 ds r= .inl q->q<:+r/\(c_ r->l6 ds (r++v)= .inl (q++v))
 |[],r,v,q,h=>by cases h;exact⟨sW _,λ_=>rfl⟩
 |d::ds,r,v,q,h=>by
  rw[l6] at h;split at h
  ·rename_i r1 ad;obtain⟨a,a2⟩:=Rm d.1 d.2 _ r v r1 (cX _) ad;obtain⟨c,e⟩:=vO ds r1 v q h;refine⟨c.trans a,λb=>?_⟩;rw[l6,a2 b];exact e (b.sfx a)
  grind
theorem tp(b:UInt8)(t:aa)(pd:ao):iW (b::t) pd=(match l6 pd t with| .inl r'=> .ok () r' []| .inr nd=> .more [[60,60]] nd []):=rfl
theorem aq.nl:aq iW where
 sfx {r pd a r' d} h:=by
  cases r with
  |nil=>cases h;simp
  |cons b t=>
   rw[tp] at h;split at h
   ·rename_i q c;cases h;exact(vO pd t [] _ c).1.trans (ee _ _)
   grind
 ok {u pd a r' d} v hu h e:=by
  cases u with
  |nil=>cases h;grind
  |cons b t=>
   rw[tp] at h;simp only[hF];rw[tp];split at h
   ·rename_i q c;cases h;rw[(vO pd t v _ c).2 hu.tail]
   grind
 bad {u pd r'} v _ h:=by
  cases u with
  |nil=>cases h
  |cons b t=>grind[tp]
 deep {u pd r'} v _ h:=by
  cases u with
  |nil=>cases h
  |cons b t=>grind[tp]
 nil pd:= .inr ⟨(),rfl⟩
theorem mK.nl:mK iW:=by
 intro r pd a r' d f e;cases r with
 |nil=>grind
 |cons b t=>
  rw[tp] at e;split at e
  ·rename_i q c;cases e;have:=w_ (vO pd t [] _ c).1;grind
  grind
theorem ik.lines:ik (λ(some:Bool)=>ae (bN []) λt=>if t= .line then ae iW λ_=>aY (.inl true) else aY (.inr some):Bool->ak (Bool⊕Bool)):=by
 refine ik.of (λs=>(aq.dN _).ae λt=>aq.ite (aq.nl.ae λ_=>aq.ret _) (aq.ret _)) (λs=>fR.dN (λt a=>fR.ite (fR.Cv mK.nl λ_=>aq.ret _) (fR.inr _)) ?_) (λs=>iY.dN ?_)
 ·simp[cr,iY.inr]
 simp[cr,iY.inr]
theorem aq.lines:aq cR:=aq.rep ik.lines false
structure h3(D:ak Unit):Prop where
 ex:aq D
 lt:∀{r:aa}{pd:ao}{r':aa}{aC:ao},fQ r=true->D r pd= .ok () r' aC->r'.length<r.length
theorem Xs{t:aa}(v:aa):t.drop 1≠[]->(t++v).drop 1=t.drop 1++v:=by intro h;rw[ND];grind
theorem aq.tick:aq (jr gW [96]):=aq.to _ (λr v q h=>ai6 _ r v q (cX _) h) (by decide)
theorem aq.single:aq (jr gk [39]):=aq.to _ (λr v q h=>Il r v q h) (by decide)
theorem aq.part{D:ak Unit}(hD:h3 D){dq:Option (ak Unit)}(m:∀q∈dq,aq q):aq (cA D dq):=by
 have d:∀(b:UInt8)(t v:aa),c_ (b::t)->∃(f:ak Unit)(g:aa->aa),aq f/\(∀pd,cA D dq (b::t) pd=f (g (b::t)) pd)/\(∀pd,cA D dq (b::t++v) pd=f (g (b::t)++v) pd\/g (b::t)=[]/\f=aY ())/\g (b::t)<:+b::t:=by
  intro b t v k;by_cases n:b=92
  ·refine⟨aY (),λr=>(r.drop 1).drop 1,aq.ret _,λpd=>by simp_all[cA,aY],λpd=>?_,(lK _ _).trans (lK _ _)⟩;by_cases aw:t.drop 1=[]
   ·grind
   ·left;simp only[hF,cA,n,cH,Gg,xI];rw[Xs v aw];rfl
  ·by_cases x:b=96
   ·exact⟨jr gW [96],λr=>r.drop 1,aq.tick,λpd=>by simp_all[cA],λpd=> .inl (by simp_all[cA]),lK _ _⟩
   ·have o:=Rk v k (by simp);simp only[hF] at o;by_cases y:fQ (b::t)=true
    ·exact⟨D,id,hD.ex,λpd=>by simp_all[cA],λpd=> .inl (by simp_all[cA]),sW _⟩
    ·cases dq with
     |none=>exact⟨aY (),λr=>r.drop 1,aq.ret _,λpd=>by grind[cA,aY],λpd=> .inl (by grind[cA,aY]),lK _ _⟩
     |some q=>
      by_cases z:b=39
      ·exact⟨jr gk [39],λr=>r.drop 1,aq.single,λpd=>by grind[cA,fQ],λpd=> .inl (by grind[cA,fQ]),lK _ _⟩
      ·by_cases A:b=34
       ·exact⟨q,λr=>r.drop 1,m q rfl,λpd=>by grind[cA,fQ],λpd=> .inl (by grind[cA,fQ]),lK _ _⟩
       ·exact⟨aY (),λr=>r.drop 1,aq.ret _,λpd=>by grind[cA,aY],λpd=> .inl (by grind[cA,aY]),lK _ _⟩
 have sfx:∀(b:UInt8)(t:aa)(pd:ao)(r':aa)(j:ao),cA D dq (b::t) pd= .ok () r' j->r'<:+b::t:=by
  intro b t pd r' j h;unfold cA at h;simp only at h;split at h
  ·grind[List.drop_suffix,trans,List.suffix_cons]
  ·split at h
   ·exact(aq.tick.sfx h).trans (ee _ _)
   ·split at h
    ·exact hD.ex.sfx h
    ·cases dq with
     |none=>grind
     |some q=>
      simp only at h;split at h
      ·exact(aq.single.sfx h).trans (ee _ _)
      ·split at h
       ·exact((m q rfl).sfx h).trans (ee _ _)
       grind
 constructor
 ·intro r pd a r' j h;cases r with
  |nil=>cases h;simp
  |cons b t=>grind
 ·intro u pd a r' j v hu h k;cases u with
  |nil=>cases h;grind
  |cons b t=>
   obtain⟨f,g,ad,e,c,i⟩:=d b t v hu;rw[e] at h;rcases c pd with c|⟨l,rfl⟩
   ·rw[c];exact ad.ok v (hu.sfx i) h k
   ·rw[l] at h;cases h;grind
 ·intro u pd r' v hu h;cases u with
  |nil=>cases h
  |cons b t=>
   obtain⟨f,g,ad,e,c,i⟩:=d b t v hu;rw[e] at h;rcases c pd with c|⟨l,rfl⟩
   ·rw[c];obtain⟨p,s,w⟩:=ad.bad v (hu.sfx i) h;grind
   ·cases h
 ·intro u pd r' v hu h;cases u with
  |nil=>cases h
  |cons b t=>
   obtain⟨f,g,ad,e,c,i⟩:=d b t v hu;rw[e] at h;rcases c pd with c|⟨l,rfl⟩
   ·rw[c];obtain⟨p,s,w⟩:=ad.deep v (hu.sfx i) h;grind
   ·cases h
 ·intro pd;exact .inr ⟨(),rfl⟩
theorem mK.part{D:ak Unit}(hD:h3 D){dq:Option (ak Unit)}(c:∀q∈dq,aq q):mK (cA D dq):=by
 intro r pd a r' d e h;cases r with
 |nil=>grind
 |cons b t=>
  unfold cA at h;simp only at h;split at h
  ·grind
  ·split at h
   ·have:=w_ (aq.tick.sfx h);grind
   ·split at h
    ·exact hD.lt ‹_› h
    ·cases dq with
     |none=>grind
     |some q=>
      simp only at h;split at h
      ·have:=w_ (aq.single.sfx h);grind
      ·split at h
       ·have:=w_ ((c q rfl).sfx h);grind
       grind
theorem ik.bytes{α:Type}{stop:aa->Option (aa×α)}{part:ak Unit}(aB:aq part)(hl:mK part)
  {f:Unit->ak (Unit⊕α)} (h0:∀pd,f () [] pd=b3 [] [] pd) (ad:∀b t pd,f () (b::t) pd=match stop (b::t) with
   |some q=> .ok (.inr q.2) q.1 pd
   |none=>ae part (λ_=>aY (.inl ())) (b::t) pd)
  (k:∀b t q,stop (b::t)=some q->q.1<:+b::t) (l:∀b t q v,c_ (b::t)->stop (b::t)=some q->stop (b::t++v)=some (q.1++v,q.2)) (g:∀b t v,c_ (b::t)->stop (b::t)=none->stop (b::t++v)=none):ik f:=by
 have d:aq (ae part (λ_=>aY (.inl ()):Unit->ak (Unit⊕α))):=aB.ae λ_=>aq.ret _;refine⟨λs=>?_,?_⟩
 ·constructor
  ·intro r pd a r' i h;cases r with
   |nil=>rw[h0] at h;cases h
   |cons b t=>
    rw[ad] at h;split at h
    ·grind
    ·exact d.sfx h
  ·intro u pd a r' i v hu h j;cases u with
   |nil=>rw[h0] at h;cases h
   |cons b t=>
    rw[ad] at h;have e:=ad b (t++v) pd;simp only[hF] at e⊢;rw[e];split at h
    ·grind
    ·rename_i c;have:=g b t v hu c;simp only[hF] at this;rw[this];exact d.ok v hu h j
  ·intro u pd r' v hu h;cases u with
   |nil=>rw[h0] at h;cases h
   |cons b t=>
    rw[ad] at h;have e:=ad b (t++v) pd;simp only[hF] at e⊢;rw[e];split at h
    ·cases h
    ·rename_i c;have:=g b t v hu c;simp only[hF] at this;rw[this];exact d.bad v hu h
  ·intro u pd r' v hu h;cases u with
   |nil=>rw[h0] at h;cases h
   |cons b t=>
    rw[ad] at h;have e:=ad b (t++v) pd;simp only[hF] at e⊢;rw[e];split at h
    ·cases h
    ·rename_i c;have:=g b t v hu c;simp only[hF] at this;rw[this];exact d.deep v hu h
  ·intro pd;exact .inl ⟨_,_,_,h0 pd⟩
 ·intro s r pd s' r' i h;cases r with
  |nil=>rw[h0] at h;cases h
  |cons b t=>
   rw[ad] at h;split at h
   ·cases h
   ·exact fR.Cv hl (λ_=>aq.ret _) (by simp) h
theorem ik.xb(c:UInt8){part:ak Unit}(aB:aq part)(hl:mK part):ik (λ(_:Unit)(r:aa)(pd:ao)=>(match r with
 |[]=>b3 [] r pd
 |b::t=>if b=c then .ok (.inr ()) t pd else(ae part λ_=>aY (.inl ())) r pd:dD (Unit⊕Unit))):=by
 refine ik.bytes (stop:=λr=>match r with|[]=>none|b::t=>if b=c then some (t,()) else none) aB hl (λ_=>rfl) (λb t pd=>?_) ?_ ?_ ?_
 ·grind
 ·simp
 ·simp
 simp
theorem aq.xb(c:UInt8){part:ak Unit}(aB:aq part)(hl:mK part):aq (iX c part):=aq.rep (ik.xb c aB hl) ()
theorem aq.double{D:ak Unit}(hD:h3 D):aq (eF D):=((aq.xb 34 (aq.part hD (by simp)) (mK.part hD (by simp))).aJ _).named _
theorem aq.yJ{D:ak Unit}(hD:h3 D):aq (cA D (some (eF D))):=aq.part hD λq a=>by grind[aq.double]
theorem mK.yJ{D:ak Unit}(hD:h3 D):mK (cA D (some (eF D))):=mK.part hD λq a=>by grind[aq.double]
theorem aq.param{D:ak Unit}(hD:h3 D):aq (qV D):=(aq.xb 125 (aq.yJ hD) (mK.yJ hD)).aJ _
theorem ik.word{D:ak Unit}(hD:h3 D):ik (λ(_:Unit)(r:aa)(pd:ao)=>(match r with
 |[]=>b3 [] r pd
 |_::_=>if cW r then .ok (.inr ()) r pd else(ae (cA D (some (eF D))) λ_=>aY (.inl ())) r pd:dD (Unit⊕Unit))):=by
 refine ik.bytes (stop:=λr=>if cW r then some (r,()) else none) (aq.yJ hD) (mK.yJ hD) (λ_=>rfl) (λb t pd=>?_) ?_ ?_ ?_
 ·grind
 ·simp
 ·intro b t q v a h;split at h
  ·rename_i c;cases h;rw[Ik v a (by simp),bh c]
  grind
 ·intro b t v a h;split at h
  ·cases h
  ·rename_i c;rw[Ik v a (by simp),aP c]
theorem aq.word{D:ak Unit}(hD:h3 D):aq (cI D):=aq.rep (ik.word hD) ()
theorem vP{D:ak Unit}(hD:h3 D){r:aa}{pd:ao}{r':aa}{a:ao}(f:r≠[])(c:cW r=false)(h:cI D r pd= .ok () r' a):r'.length<r.length:=by
 unfold cI at h;rw[ql] at h;cases r with
 |nil=>grind
 |cons b t=>
  simp only[c,eB,cr] at h;split at h
  ·rename_i s1 r1 aD ad;have d:=fR.Cv (mK.yJ hD) (λ_=>aq.ret _) (by simp) ad;rw[bh d] at h;have:=w_ ((aq.word hD).sfx h);omega
  ·rename_i ad;obtain⟨_,_,_,g,e⟩:=b4 ad;cases e
  all_goals cases h
theorem Io{b:UInt8}{t:aa}:(∃w p,ar (b::t)= .word w p)->gb b=false->cW (b::t)=false:=by grind[ar,cW]
theorem Xt:∀(n:Nat)(r:aa),r.length<=n->∀b t,bq r=some (b::t)->gb b=false:=by
 intro n;induction n with
 |zero=>simp[n7,lX]
 |succ n a=>
  intro r aw b t h;cases r with
  |nil=>grind
  |cons c u=>grind[List.length_cons,nC,Aq]
theorem fR.LR{σ α:Type}{D:ak Unit}(hD:h3 D){x:aa}{k:Tok->ak (σ⊕α)}(h:∀t,t≠ .eof->(∀w p,t≠ .word w p)->fR (k t))(h0:iY (k .eof))
  (g:∀w p,∃(m:ak Unit)(k':Unit->ak (σ⊕α)),k (.word w p)=ae m k'/\(∀{r pd r' d},m r pd= .ok () r' d↔cI D r pd= .ok () r' d)/\∀u,aq (k' u)):fR (ae (bN x) k):=by
 intro r pd s r' d o e;obtain⟨t,r1,aD,ad,a⟩:=b4 e;obtain⟨f,rfl,rfl⟩:=nD ad;have hl:=w_ (dU f);cases r1 with
 |nil=>exact absurd a h0
 |cons b u=>
  by_cases c:∃w p,ar (b::u)= .word w p
  ·have i:=Io c (Xt _ _ (cX _) _ _ f);obtain⟨w,p,c⟩:=c;rw[c] at a;obtain⟨m,k',hk,hm,j⟩:=g w p;rw[hk] at a;obtain⟨_,q,v,l,n⟩:=b4 a;have:=vP hD (by simp) i (hm.1 l);have:=w_ ((j ()).sfx n);omega
  ·have:=h (ar (b::u)) (λhe=>by grind[lH]) (λw p he=>c ⟨w,p,he⟩) (by simp) a;omega
theorem ai7{r:aa}(v:aa){p:UInt8->Bool}(aB:p 10=false):c_ r->r≠[]->r.dropWhile p≠[]/\(r++v).dropWhile p=r.dropWhile p++v:=by
 induction r with
 |nil=>simp
 |cons b t c=>
  intro a _;simp only[hF,abX];cases e:p b with
  |false=>simp
  |true=>
   have d:b≠10:=by grind
   simpa using c a.tail (a.ne d)
theorem Cx{r:aa}{p:UInt8->Bool}:r.dropWhile p<:+r:=List.dropWhile_suffix _
theorem Rn{r:aa}:(bt r).length<=r.length:=by
 unfold bt;cases h:lh.find? (λo=>o.isPrefixOf r) with
 |none=>simp
 |some o=>grind
theorem Ro{r:aa}:bt r<+:r:=by
 unfold bt;cases h:lh.find? (λo=>o.isPrefixOf r) with
 |none=>simp
 |some o=>grind
theorem aq.Xu:aq fN where
 sfx {r pd a r' c} h:=by
  unfold fN at h;split at h
  ·cases h
  ·rename_i q b;simp only at h;split at h
   ·cases h;exact((lK _ _).trans Cx).trans (dU b)
   grind[dU]
 ok {u pd a r' c} v hu h j:=by
  unfold fN at h⊢;split at h
  ·cases h
  ·rename_i q b;simp only at h;by_cases aw:u=[]
   ·simp_all[lX,bt,lh,eZ,absurd]
   ·obtain⟨d,e⟩:=tn v b hu aw;obtain⟨f,g⟩:=ai7 v (p:=ca) (by decide) (hu.sfx (dU b)) d;have i:=Rj v ((hu.sfx (dU b)).sfx Cx) f;rw[e];simp only[g,i];split at h
    ·simp_all[bh,ND,Rn]
    grind
 bad v _ h:=by
  unfold fN at h;split at h
  ·cases h
  grind
 deep v _ h:=by
  unfold fN at h;split at h
  ·cases h
  grind
 nil pd:=by simp[fN,lX,bt,lh,eZ]
theorem LS(b:UInt8)(t:aa):eG (b::t)=(if b=34 then .closed [] t else if b=36\/b=96 then .part else
  if b=92 then match t with
   |[]=> .part
   |c::u=>(eG u).add (Ar c)
  else(eG t).add [b]):=by
 grind[eG.eq_def]
def vQ:jh->Prop
 | .closed o _=>(10:UInt8)∈o
 | .part=>True
 | .open_ o=>(10:UInt8)∈o
theorem vQ.add{x:aa}{q:jh}(h:vQ q):vQ (q.add x):=by cases q<;>simp_all [vQ,jh.add]
theorem vQ.Rp{x:aa}{q:jh}(h:(10:UInt8)∈x):vQ (q.add x):=by cases q<;>simp_all [vQ,jh.add]
theorem Xv:∀(n:Nat)(r v:aa),r.length<=n->c_ r->r≠[]->
  (∀o q,eG r= .closed o q->q<:+r/\eG (r++v)= .closed o (q++v))/\(eG r= .part->eG (r++v)= .part)/\(∀o,eG r= .open_ o->10∈o->vQ (eG (r++v))):=by
 intro n;induction n with
 |zero=>grind
 |succ n k=>
  intro r v aw d bc;cases r with
  |nil=>grind
  |cons b t=>
   simp only[mv] at aw;simp only[hF];rw[LS,LS];by_cases l:b=34
   ·simp_all
   by_cases aB:b=36\/b=96
   ·grind
   by_cases m:b=92
   ·subst m;simp only[l,aB,cH,cr];cases t with
    |nil=>exact absurd d.head (by decide)
    |cons c u=>
     simp only[hF];by_cases hu:u=[]
     ·grind[eG,jh.add,Ar]
     ·obtain⟨f,g,j⟩:=k u v (by grind) d.tail.tail hu;refine⟨?_,?_,?_⟩
      ·intro o q e;cases a:eG u<;>rw[a] at e<;>simp[jh.add] at e;obtain⟨rfl,rfl⟩:=e;obtain⟨h,i⟩:=f _ _ a;exact⟨h.trans ((ee _ _).trans (ee _ _)),by rw[i];rfl⟩
      ·intro e;cases a:eG u<;>rw[a] at e<;>simp[jh.add] at e;rw[g a];rfl
      ·intro o e he;cases a:eG u<;>rw[a] at e<;>simp[jh.add] at e;subst e;rcases tT.1 he with he|he
       ·grind[vQ.Rp]
       ·exact(j _ a he).add
   ·simp only[l,aB,m,cr];by_cases p:b=10
    ·subst p;by_cases s:t=[]
     ·grind[eG,jh.add,vQ.Rp]
     ·obtain⟨f,g,j⟩:=k t v (by omega) d.tail s;refine⟨?_,?_,?_⟩
      ·intro o q e;cases a:eG t<;>rw[a] at e<;>simp[jh.add] at e;obtain⟨rfl,rfl⟩:=e;obtain⟨h,i⟩:=f _ _ a;exact⟨h.trans (ee _ _),by rw[i];rfl⟩
      ·intro e;cases a:eG t<;>rw[a] at e<;>simp[jh.add] at e;rw[g a];rfl
      simp[vQ.Rp]
    ·obtain⟨f,g,j⟩:=k t v (by omega) d.tail (d.ne p);refine⟨?_,?_,?_⟩
     ·intro o q e;cases a:eG t<;>rw[a] at e<;>simp[jh.add] at e;obtain⟨rfl,rfl⟩:=e;obtain⟨h,i⟩:=f _ _ a;exact⟨h.trans (ee _ _),by rw[i];rfl⟩
     ·intro e;cases a:eG t<;>rw[a] at e<;>simp[jh.add] at e;rw[g a];rfl
     ·intro o e he;cases a:eG t<;>rw[a] at e<;>simp[jh.add] at e;subst e;rcases kZ.1 he with he|he
      ·grind
      ·exact(j _ a he).add
theorem E0(b:UInt8)(t:aa):du (b::t)=(if cW (b::t) then some ([],b::t,[]) else
  if b=92 then match t with
   |[]=>none
   |c::u=>(du u).map λq=>((if c=10 then [] else [c])++q.1,q.2)
  else if b=39 then match gk t with
   |none=>none
   |some r=>(du r).map λq=>(t.take (t.length-r.length-1)++q.1,q.2)
  else if b=36\/b=96 then none else
  if b=34 then match eG t with
   | .part=>none
   | .open_ o=>some (o,[],[34])
   | .closed o r=>(du r).map λq=>(o++q.1,q.2)
  else(du t).map λq=>(b::q.1,q.2)):=by
 grind[du.eq_def]
def sx(x:Option (aa×aa×aa)):Prop:=x=none\/∃d q c,x=some (d,q,c)/\(10:UInt8)∈d
theorem sx.map{x:Option (aa×aa×aa)}{f:aa->aa}(h:sx x)(hf:∀d,(10:UInt8)∈d->(10:UInt8)∈f d):sx (x.map λq=>(f q.1,q.2)):=by
 rcases h with rfl|⟨d,q,c,rfl,aG⟩
 ·exact .inl rfl
 ·exact .inr ⟨_,_,_,rfl,hf d aG⟩
theorem sx.LU{x:Option (aa×aa×aa)}{f:aa->aa}(hf:∀d,(10:UInt8)∈f d):sx (x.map λq=>(f q.1,q.2)):=by
 cases x with
 |none=>exact .inl rfl
 |some q=>exact .inr ⟨_,_,_,rfl,hf _⟩
theorem ai8:∀{t:aa}(v q:aa),gk t=none->gk (t++v)=some q->(t++v).take ((t++v).length-q.length-1)=t++(v.take (v.length-q.length-1)):=by
 intro t;induction t with
 |nil=>simp
 |cons b t c=>
  intro v q ad a;rw[gk] at ad;simp only[hF] at a⊢;rw[gk] at a;split at ad
  ·cases ad
  ·rename_i d;rw[aP d] at a;have:=c v q ad a;have hl:=yI _ _ a;have e:(b::(t++v)).length-q.length-1=((t++v).length-q.length-1)+1:=by grind
   grind
theorem Xw{t:aa}(h:c_ t)(aw:t≠[]):(10:UInt8)∈t:=by
 rcases h with h|⟨s,rfl⟩
 ·grind
 ·simp
theorem Xx{t q v:aa}(h:q<:+t):(t++v).take ((t++v).length- (q++v).length-1)=t.take (t.length-q.length-1):=by grind
theorem Xy:∀(n:Nat)(r v:aa),r.length<=n->c_ r->r≠[]->
  (du r=none->sx (du (r++v)))/\(∀d q c,du r=some (d,q,c)->q<:+r/\(10∈d->sx (du (r++v)))/\(c=[]->q≠[]->du (r++v)=some (d,q++v,[]))):=by
 intro n;induction n with
 |zero=>grind
 |succ n A=>
  intro r v aw g bc;cases r with
  |nil=>grind
  |cons b t=>
   simp only[mv] at aw;have m:=Ik v g bc;simp only[hF] at m⊢;rw[E0,E0,m];have step:∀(u:aa)(f:aa->aa),u<:+t->u.length<=n->(∀d,(10:UInt8)∈d->(10:UInt8)∈f d)->(∀d,(10:UInt8)∈f d->(10:UInt8)∈d\/∀d,(10:UInt8)∈f d)->
     ((du u).map (λq=>(f q.1,q.2))=none->sx ((du (u++v)).map λq=>(f q.1,q.2)))/\
     (∀d q c,(du u).map (λq=>(f q.1,q.2))=some (d,q,c)->q<:+b::t/\(10∈d->sx ((du (u++v)).map λq=>(f q.1,q.2)))/\(c=[]->q≠[]->(du (u++v)).map (λq=>(f q.1,q.2))=some (d,q++v,[]))):=by
    intro u f hu i p s;by_cases w:u=[]
    ·subst w;have e0:du []=some ([],[],[]):=by rw[du]
     rw[e0];refine⟨λh=>by grind,λd q c h=>?_⟩;simp only[A8,eN,iE] at h;obtain⟨rfl,rfl,rfl⟩:=h;refine⟨oA,λaG=>?_,λ_ a=>absurd rfl a⟩;rcases s _ aG with h|h
     ·cases h
     ·exact sx.LU h
    ·obtain⟨B,C⟩:=A u v i (g.tail.sfx hu) w;refine⟨λh=>?_,λd q c h=>?_⟩
     ·simp only[Option.map_eq_none_iff] at h;exact(B h).map p
     ·simp only[wq,iE] at h;obtain⟨⟨K,L,M⟩,ad,rfl,rfl,rfl⟩:=h;obtain⟨D,E,N⟩:=C _ _ _ ad;refine⟨D.trans (hu.trans (ee _ _)),λaG=>?_,λaF a=>?_⟩
      ·rcases s _ aG with h|h
       ·exact(E h).map p
       ·exact sx.LU h
      grind
   by_cases e:cW (b::t)=true
   ·simp only[e,cH];grind
   by_cases j:b=92
   ·subst j;simp only[e,cH,eB,cr];cases t with
    |nil=>exact absurd g.head (by decide)
    |cons c u=>
     simp only[hF];refine step u (λd=>(if c=10 then [] else [c])++d) (ee _ _) (by grind) ?_ ?_
     ·grind
     grind
   have F:t≠[]:=g.ne (by rintro rfl;grind[Ct]);by_cases k:b=39
   ·subst k;simp only[e,cH,eB,cr];rw[aP (by decide),aP (by decide)];cases x:gk t with
    |none=>
     refine⟨λ_=>?_,λd q c h=>by grind⟩;cases G:gk (t++v) with
     |none=>exact .inl rfl
     |some q=>simp only;rw[ai8 v q x G];exact sx.LU (f:=λd=>t++List.take (v.length-q.length-1) v++d) λd=>by grind[Xw]
    |some q=>obtain⟨s1,s2⟩:=Il t v q x;rw[s2];simp only;rw[Xx s1];refine step q (λd=>List.take (t.length-q.length-1) t++d) s1 (by grind) (λd aG=>by grind) (λd aG=>?_);grind
   by_cases aB:b=36\/b=96
   ·simp only[e,j,k,aB,cH,eB,cr];exact⟨λ_=> .inl rfl,λd q c h=>by grind⟩
   by_cases y:b=34
   ·subst y;simp only[e,cH,eB,cr];rw[aP (by decide),aP (by decide),aP (by decide),aP (by decide),aP (by decide),aP (by decide)];obtain⟨H,I,J⟩:=Xv t.length t v (cX _) g.tail F;cases a:eG t with
    |part=>rw[I a];exact⟨λ_=> .inl rfl,λd q c h=>by grind⟩
    |open_ o=>
     refine⟨λh=>by grind,λd q c h=>?_⟩;simp only[eN,iE] at h;obtain⟨rfl,rfl,rfl⟩:=h;refine⟨oA,λaG=>?_,λh=>by simp⟩;have:=J o a aG;cases z:eG (t++v) with
     |part=>exact .inl rfl
     |open_ l=>rw[z] at this;exact .inr ⟨_,_,_,rfl,this⟩
     |closed l O=>rw[z] at this;exact sx.LU (f:=λd=>l++d) λd=>by simp[show(10:UInt8)∈l from this]
    |closed o q=>obtain⟨s1,s2⟩:=H o q a;rw[s2];refine step q (λd=>o++d) s1 (by grind) (λd aG=>by grind) (λd aG=>?_);grind
   simp only[e,j,k,aB,y,eB,cr];refine step t (λd=>b::d) (sW _) (by omega) (λd aG=>by grind) (λd aG=>?_);grind
theorem Rq:∀(n:Nat)(r o q:aa),r.length<=n->eG r= .closed o q->q<:+r:=by
 intro n;induction n with
 |zero=>grind[List.length_eq_zero_iff,eG]
 |succ n a=>
  intro r o q aw h;cases r with
  |nil=>grind
  |cons b t=>grind[List.length_cons,LS,List.suffix_cons,jh.Rg,trans]
theorem Rr:∀(n:Nat)(r:aa)(x:aa×aa×aa),r.length<=n->du r=some x->x.2.1<:+r:=by
 intro n;induction n with
 |zero=>grind[List.length_eq_zero_iff,du,List.suffix_refl]
 |succ n a=>
  intro r x aw h;cases r with
  |nil=>grind
  |cons b t=>
   simp only[mv] at aw
   have go:∀(u:aa)(f:aa->aa),u<:+t->(du u).map (λq=>(f q.1,q.2))=some x->x.2.1<:+b::t:=by intro u f hu h;simp only[wq] at h;grind
   rw[E0] at h;split at h
   ·grind
   ·split at h
    ·split at h
     ·cases h
     ·rename_i c u _;exact go u (λd=>(if c=10 then [] else [c])++d) (ee _ _) h
    ·split at h
     ·split at h
      ·cases h
      ·rename_i r1 ad;exact go r1 (λd=>List.take (t.length-r1.length-1) t++d) (Il t [] _ ad).1 h
     ·split at h
      ·cases h
      ·split at h
       ·split at h
        ·cases h
        ·grind
        ·rename_i o r1 ad;exact go r1 (λd=>o++d) (Rq _ _ _ _ (cX _) ad) h
       ·exact go t (λd=>b::d) (sW _) h
def Iq(o:aa):jh->Prop
 | .closed a _=>o<+:a
 | .part=>True
 | .open_ a=>o<+:a
theorem Iq.add{x o:aa}{q:jh}(h:Iq o q):Iq (x++o) (q.add x):=by
 cases q with
 |part=>trivial
 |closed a r=>exact(List.prefix_append_right_inj _).2 h
 |open_ a=>exact(List.prefix_append_right_inj _).2 h
theorem ai9:∀(n:Nat)(r v o:aa),r.length<=n->c_ r->eG r= .open_ o->Iq o (eG (r++v)):=by
 intro n;induction n with
 |zero=>intro r v o aw _ h;have:r=[]:=n7.1 (by omega);subst this;simp[eG] at h;subst h;cases eG ([]++v)<;>simp[Iq]
 |succ n e=>
  intro r v o aw hl h;cases r with
  |nil=>grind
  |cons b t=>
   simp only[mv] at aw;simp only[hF];rw[LS] at h⊢;split at h
   ·cases h
   ·rename_i f;split at h
    ·cases h
    ·rename_i aB;rw[aP f,aP aB];split at h
     ·rename_i d;rw[bh d];cases t with
      |nil=>cases h
      |cons c u=>simp only[hF] at h⊢;cases a:eG u<;>rw[a] at h<;>simp[jh.add] at h;subst h;exact(e u v _ (by grind) hl.tail.tail a).add
     ·rename_i d;rw[aP d];cases a:eG t<;>rw[a] at h<;>simp[jh.add] at h;subst h;exact(e t v _ (by omega) hl.tail a).add (x:=[b])
def Ir(d:aa)(x:Option (aa×aa×aa)):Prop:=∀y,x=some y->d<+:y.1
theorem Ir.map{d:aa}{x:Option (aa×aa×aa)}(p:aa)(h:Ir d x):Ir (p++d) (x.map λq=>(p++q.1,q.2)):=by intro y a;simp only[wq] at a;obtain⟨z,b,rfl⟩:=a;exact(List.prefix_append_right_inj _).2 (h z b)
theorem ai_:∀(n:Nat)(r v:aa)(x:aa×aa×aa),r.length<=n->c_ r->du r=some x->Ir x.1 (du (r++v)):=by
 intro n;induction n with
 |zero=>intro r v x aw _ h;have:r=[]:=n7.1 (by omega);subst this;simp[du] at h;subst h;intro y _;simp
 |succ n s=>
  intro r v x aw d h;cases r with
  |nil=>grind
  |cons b t=>
   simp only[mv] at aw;have j:=Ik v d (by simp);simp only[hF] at j⊢
   have go:∀(u p:aa),u<:+t->(du u).map (λq=>(p++q.1,q.2))=some x->Ir x.1 ((du (u++v)).map λq=>(p++q.1,q.2)):=by intro u p hu h;simp only[wq] at h;obtain⟨y,ad,rfl⟩:=h;exact(s u v y (by grind) (d.tail.sfx hu) ad).map p
   rw[E0] at h⊢;rw[j];split at h
   ·rename_i k;cases h;intro y _;simp
   ·rename_i k;rw[aP k];have w:t≠[]:=d.ne (by rintro rfl;grind[Ct]);split at h
    ·rename_i f;rw[bh f];cases t with
     |nil=>cases h
     |cons c u=>exact go u (if c=10 then [] else [c]) (ee _ _) h
    ·rename_i f;rw[aP f];split at h
     ·rename_i g;rw[bh g];cases l:gk t with
      |none=>grind
      |some q=>rw[l] at h;obtain⟨s1,s2⟩:=Il t v q l;rw[s2];simp only at h⊢;rw[Xx s1];exact go q _ s1 h
     ·rename_i g;rw[aP g];split at h
      ·cases h
      ·rename_i aB;rw[aP aB];split at h
       ·rename_i i;rw[bh i];obtain⟨A,C,D⟩:=Xv t.length t v (cX _) d.tail w;cases e:eG t with
        |part=>grind
        |open_ o=>
         rw[e] at h;simp only[eN] at h;subst h;have:=ai9 t.length t v o (cX _) d.tail e;cases m:eG (t++v) with
         |part=>intro y a;cases a
         |open_ B=>rw[m] at this;intro y a;cases a;exact this
         |closed B E=>rw[m] at this;intro y a;simp only[wq] at a;obtain⟨z,F,rfl⟩:=a;exact List.IsPrefix.trans this (List.prefix_append _ _)
        |closed o q=>rw[e] at h;obtain⟨s1,s2⟩:=A o q e;rw[s2];exact go q o s1 h
       ·rename_i i;rw[aP i];exact go t [b] (sW _) h
def vR(tabs:Bool)(r':aa)(pd:ao):dD Unit:=match du r' with
 |none=> .bad r'
 |some (d,q,a)=>if d.contains 10 then .bad r' else
  if tabs/\d.head?=some 9 then .bad r' else
  if a≠[] then .more [a] a (pd++[(d,tabs)]) else
  if q=[] then .more [] [] (pd++[(d,tabs)]) else .ok () q (pd++[(d,tabs)])
theorem XB{tabs:Bool}{r':aa}{pd:ao}(h:sx (du r')):vR tabs r' pd= .bad r':=by
 unfold vR;rcases h with h|⟨d,q,c,h,aG⟩
 ·rw[h]
 grind
theorem Cy(tabs:Bool)(r:aa)(pd:ao):hB tabs r pd=match bq r with
 |none=> .more [] [120] (pd++[([120],tabs)])
 |some r'=>match ar r' with
  | .eof=> .more [] [120] (pd++[([120],tabs)])
  | .word _ _=>vR tabs r' pd
  |_=> .bad r':=rfl
theorem aq.sy(tabs:Bool):aq (hB tabs) where
 sfx {r pd a r' n} h:=by
  rw[Cy] at h;split at h
  ·cases h
  ·rename_i q b;split at h
   ·cases h
   ·unfold vR at h;split at h
    ·cases h
    ·rename_i d f c aG;split at h
     ·cases h
     ·split at h
      ·cases h
      ·split at h
       ·cases h
       ·split at h
        ·cases h
        ·cases h;exact(Rr _ _ _ (cX _) aG).trans (dU b)
   grind
 ok {u pd a r' n} v hu h o:=by
  rw[Cy] at h;split at h
  ·cases h
  ·rename_i q b;have aw:u≠[]:=by rintro rfl;grind[lX,ar]
   obtain⟨e,f⟩:=tn v b hu aw;have g:=hu.sfx (dU b);have i:hB tabs (u++v) pd=(match ar q with
    | .eof=> .more [] [120] (pd++[([120],tabs)])
    | .word _ _=>vR tabs (q++v) pd
    |_=> .bad (q++v)):=by grind[Cy,EY]
   rw[i];split at h
   ·cases h
   ·rename_i p;unfold vR at h⊢;split at h
    ·cases h
    ·rename_i d f c aG;split at h
     ·cases h
     ·rename_i j;split at h
      ·cases h
      ·rename_i k;split at h
       ·cases h
       ·rename_i s;split at h
        ·cases h
        ·rename_i t;cases h;have l:c=[]:=by grind
         rw[((Xy _ q v (cX _) g e).2 d _ c aG).2.2 l o];simp_all
   grind
 bad {u pd r'} v hu h:=by
  rw[Cy] at h;split at h
  ·cases h
  ·rename_i q b;have aw:u≠[]:=by rintro rfl;grind[lX,ar]
   obtain⟨e,f⟩:=tn v b hu aw;have g:=hu.sfx (dU b);have i:hB tabs (u++v) pd=(match ar q with
    | .eof=> .more [] [120] (pd++[([120],tabs)])
    | .word _ _=>vR tabs (q++v) pd
    |_=> .bad (q++v)):=by grind[Cy,EY]
   rw[i];obtain⟨A,a2⟩:=Xy _ q v (cX _) g e;split at h
   ·cases h
   ·rename_i p;unfold vR at h;split at h
    ·grind[dU,XB]
    ·rename_i d f c aG;split at h
     ·grind[dU,XB]
     ·rename_i j;split at h
      ·rename_i k;cases h;refine⟨e,dU b,?_⟩;have aB:=ai_ _ r' v _ (cX _) g aG;unfold vR;cases w:du (r'++v) with
       |none=>rfl
       |some y=>
        obtain⟨m,B,C⟩:=y;have x:d<+:m:=aB _ w;simp only;split
        ·rfl
        ·have D:m.head?=some 9:=by obtain⟨z,rfl⟩:=x;grind
         grind
      grind
   ·rename_i E F;cases h;exact⟨e,dU b,rfl⟩
 deep {u pd r'} v _ h:=by rw[Cy] at h;grind[vR]
 nil pd:=by unfold hB;rw[lX];exact .inl ⟨_,_,_,rfl⟩
structure dY{α:Type}(f:ak α):Prop where
 sfx:∀{r:aa}{pd:ao}{a:α}{r':aa}{aC:ao},f r pd= .ok a r' aC->r'<:+r
 ok:∀{u:aa}{pd:ao}{a:α}{r':aa}{aC:ao}(v:aa),c_ u->f u pd= .ok a r' aC->r'≠[]->f (u++v) pd= .ok a (r'++v) aC
 bad:∀{u:aa}{pd:ao}{r':aa}(v:aa),c_ u->u≠[]->f u pd= .bad r'->r'≠[]/\r'<:+u/\f (u++v) pd= .bad (r'++v)
 deep:∀{u:aa}{pd:ao}{r':aa}(v:aa),c_ u->u≠[]->f u pd= .deep r'->r'≠[]/\r'<:+u/\f (u++v) pd= .deep (r'++v)
theorem aq.n{α:Type}{f:ak α}(h:aq f):dY f:=⟨h.sfx,h.ok,λv hu _=>h.bad v hu,λv hu _=>h.deep v hu⟩
theorem dY.bK{α:Type}:dY (bK:ak α):=⟨λh=>(by cases h),λv _ h=>(by cases h),λv _ aw h=>(by cases h;exact⟨aw,sW _,rfl⟩),λv _ _ h=>(by cases h)⟩
theorem dY.uH{α:Type}:dY (uH:ak α):=⟨λh=>(by cases h),λv _ h=>(by cases h),λv _ _ h=>(by cases h),λv _ aw h=>(by cases h;exact⟨aw,sW _,rfl⟩)⟩
theorem dY.ite{α:Type}{c:Prop}[Decidable c]{f g:ak α}(hf:dY f)(bs:dY g):dY (if c then f else g):=by grind
theorem dY.ae{α β:Type}{m:ak α}{k:α->ak β}(hm:dY m)(hk:∀a,aq (k a)):dY (Go.Eng.ae m k):=by
 constructor
 ·intro r pd b r' j h;obtain⟨a,r1,aD,ad,c⟩:=b4 h;exact((hk a).sfx c).trans (hm.sfx ad)
 ·intro u pd b r' j v hu h l;obtain⟨a,r1,aD,ad,c⟩:=b4 h;by_cases e:r1=[]
  ·subst e;rcases(hk a).nil aD with⟨op,nd,ds,n⟩|⟨i,n⟩
   ·grind
   grind
  ·rw[aM (hm.ok v hu ad e)];exact(hk a).ok v (hu.sfx (hm.sfx ad)) c l
 ·intro u pd r' v hu aw h;unfold Go.Eng.ae at h⊢;split at h
  ·rename_i a r1 aD ad;by_cases e:r1=[]
   ·subst e;rcases(hk a).nil aD with⟨op,nd,ds,c⟩|⟨i,c⟩<;>(grind)
   ·rw[hm.ok v hu ad e];obtain⟨d,f,g⟩:=(hk a).bad v (hu.sfx (hm.sfx ad)) h;exact⟨d,f.trans (hm.sfx ad),g⟩
  ·cases h
  ·rename_i r1 ad;cases h;obtain⟨d,f,g⟩:=hm.bad v hu aw ad;grind
  grind
 ·intro u pd r' v hu aw h;unfold Go.Eng.ae at h⊢;split at h
  ·rename_i a r1 aD ad;by_cases e:r1=[]
   ·subst e;rcases(hk a).nil aD with⟨op,nd,ds,c⟩|⟨i,c⟩<;>(grind)
   ·rw[hm.ok v hu ad e];obtain⟨d,f,g⟩:=(hk a).deep v (hu.sfx (hm.sfx ad)) h;exact⟨d,f.trans (hm.sfx ad),g⟩
  ·cases h
  ·cases h
  ·rename_i r1 ad;cases h;obtain⟨d,f,g⟩:=hm.deep v hu aw ad;grind
theorem aq.fS{α:Type}{x:aa}{k:Tok->ak α}(h:∀t,t≠ .eof->dY (k t))(h0:aq (k .eof)):aq (Go.Eng.ae (bN x) k):=by
 have aB:=aq.dN x
 have c:∀{u:aa}{pd:ao}(v:aa),c_ u->u≠[]->∀r1,bq u=some r1->r1≠[]/\ar r1≠ .eof/\Go.Eng.ae (bN x) k u pd=k (ar r1) r1 pd/\Go.Eng.ae (bN x) k (u++v) pd=k (ar r1) (r1++v) pd:=by
  intro u pd v hu aw r1 l;obtain⟨d,f⟩:=tn v l hu aw;refine⟨d,λh=>d (lH.1 h),?_,?_⟩
  ·exact aM (by grind[bN])
  ·have:bN x (u++v) pd= .ok (ar r1) (r1++v) pd:=by unfold bN;rw[f];simp only[EY v (hu.sfx (dU l)) d]
   grind[aM]
 constructor
 ·intro r pd a r' o e;obtain⟨t,r1,aD,ad,g⟩:=b4 e;obtain⟨b,rfl,rfl⟩:=nD ad;by_cases m:ar r1= .eof
  ·rw[m] at g;exact(h0.sfx g).trans (dU b)
  ·exact((h _ m).sfx g).trans (dU b)
 ·intro u pd a r' o v hu e p;obtain⟨t,r1,aD,ad,g⟩:=b4 e;obtain⟨b,rfl,rfl⟩:=nD ad;by_cases aw:u=[]
  ·subst aw;rw[lX] at b;cases b;have:=h0.sfx g;grind
  ·obtain⟨d,f,n,i⟩:=c (pd:=aD) v hu aw r1 b;rw[i];exact(h _ f).ok v (hu.sfx (dU b)) g p
 ·intro u pd r' v hu e;unfold Go.Eng.ae at e;split at e
  ·rename_i t r1 aD ad;obtain⟨b,rfl,rfl⟩:=nD ad;by_cases aw:u=[]
   ·subst aw;rw[lX] at b;cases b;rcases h0.nil aD with⟨_,_,_,h⟩|⟨_,h⟩<;>(rw[show ar []= .eof from rfl,h] at e;cases e)
   ·obtain⟨d,f,n,i⟩:=c (pd:=aD) v hu aw r1 b;rw[i];obtain⟨j,a2,a3⟩:=(h _ f).bad v (hu.sfx (dU b)) d e;exact⟨j,a2.trans (dU b),a3⟩
  ·cases e
  ·rename_i ad;exact absurd ad (by unfold bN;split<;>(intro h;cases h))
  grind
 ·intro u pd r' v hu e;unfold Go.Eng.ae at e;split at e
  ·rename_i t r1 aD ad;obtain⟨b,rfl,rfl⟩:=nD ad;by_cases aw:u=[]
   ·subst aw;rw[lX] at b;cases b;rcases h0.nil aD with⟨_,_,_,h⟩|⟨_,h⟩<;>(rw[show ar []= .eof from rfl,h] at e;cases e)
   ·obtain⟨d,f,n,i⟩:=c (pd:=aD) v hu aw r1 b;rw[i];obtain⟨j,a2,a3⟩:=(h _ f).deep v (hu.sfx (dU b)) d e;exact⟨j,a2.trans (dU b),a3⟩
  ·cases e
  ·cases e
  ·rename_i ad;exact absurd ad (by unfold bN;split<;>(intro h;cases h))
 ·intro pd;have:Go.Eng.ae (bN x) k [] pd=k .eof [] pd:=aM (by unfold bN;rw[lX];rfl);rw[this];exact h0.nil pd
theorem aq.E2{D:ak Unit}(hD:h3 D)(x:aa):aq (jM D x):=by
 refine aq.fS (λt a=>?_) (aq.b3 x);cases t with
 |word w p=>grind[aq.word,aq.n]
 |eof=>grind
 |_=>exact dY.bK
theorem aq.ji{D:ak Unit}(hD:h3 D):aq (dv D):=by
 refine aq.Xu.ae λo=>?_;cases o with
 |none=>simp[aq.ret]
 |some o=>exact(aq.ite (aq.sy _) (aq.ite (aq.sy _) (aq.E2 hD _))).ae λ_=>aq.ret _
theorem ajd{o:aa}(h:eZ o=true):o.length≠0:=by intro h0;simp_all[n7,eZ]
theorem sz{D:ak Unit}(hD:h3 D){r:aa}{pd:ao}{r':aa}{b:ao}(h:dv D r pd= .ok true r' b):r'.length<r.length:=by
 obtain⟨o,r1,aD,ad,a⟩:=b4 h;cases o with
 |none=>cases a
 |some o=>
  obtain⟨_,f,g,c,d⟩:=b4 a;cases d;have i:r'.length<=r1.length:=by have uI:aq (if o=[60,60] then hB false else if o=[60,60,45] then hB true else jM D [120]):=aq.ite (aq.sy _) (aq.ite (aq.sy _) (aq.E2 hD _));exact(uI.sfx c).length_le
  unfold fN at ad;split at ad
  ·cases ad
  ·rename_i q e;simp only at ad;split at ad
   ·rename_i j;cases ad;have k:=(dU e).length_le;have a2:(q.dropWhile ca).length<=q.length:=Cx.length_le;grind[ajd,Rn,ca,List.length_drop]
   grind
theorem aq.mL{D:ak Unit}(hD:h3 D):aq (gI D):=by
 refine aq.rep ⟨λ_=>(aq.ji hD).ae λb=>aq.ret _,λ{s r pd s' r' c} h=>?_⟩ ();obtain⟨b,r1,aD,ad,a⟩:=b4 h;cases b with
 |true=>cases a;exact sz hD ad
 |false=>cases a
theorem aq.simple{D:ak Unit}(hD:h3 D)(fr:Bool):aq (hg fr D):=by
 have he:aq (Go.Eng.ae (bN []) λt=>match t with
  | .word _ _=>Go.Eng.ae (cI D) λ_=>aY (.inl ())
  | .op o=>if fr/\o=[40] then bK else aY (.inr ())
  |_=>aY (.inr ()):ak (Unit⊕Unit)):=by
  refine aq.fS (λt c=>?_) (aq.ret _);cases t with
  |word w p=>grind[aq.word,aq.ae,aq.ret,aq.n]
  |op o=>simp[dY.ite,dY.bK,aq.ret,aq.n]
  |_=>simp[aq.ret,aq.n]
 have hl:fR (Go.Eng.ae (bN []) λt=>match t with
  | .word _ _=>Go.Eng.ae (cI D) λ_=>aY (.inl ())
  | .op o=>if fr/\o=[40] then bK else aY (.inr ())
  |_=>aY (.inr ()):ak (Unit⊕Unit)):=by
  refine fR.LR hD (λt c d=>?_) (iY.inr _) (λw p=>⟨cI D,_,rfl,Iff.rfl,λ_=>aq.ret _⟩);cases t with
  |word w p=>grind
  |op o=>simp[fR.ite,fR.bad,fR.inr]
  |_=>simp[fR.inr]
 refine aq.rep ⟨λ_=>(aq.ji hD).ae λb=>aq.ite (aq.ret _) he,λ{s r pd s' r' e} h=>?_⟩ ();obtain⟨b,r1,aD,ad,a⟩:=b4 h;cases b with
 |true=>cases a;exact sz hD ad
 |false=>
  have f:=((aq.ji hD).sfx ad).length_le;by_cases aw:r1=[]
  ·subst aw;simp only[eB,cr] at a;have:iY (Go.Eng.ae (bN []) λt=>match t with
    | .word _ _=>Go.Eng.ae (cI D) λ_=>aY (.inl ())
    | .op o=>if fr/\o=[40] then bK else aY (.inr ())
    |_=>aY (.inr ()):ak (Unit⊕Unit)):=iY.dN (iY.inr _)
   exact absurd a this
  ·simp only[eB,cr] at a;have:=hl aw a;omega
structure uJ(l:dT):Prop where
 ls:∀c n,aq (l.ls c n)
 pm:aq l.pm
 cp:∀t,dY (l.cp t)
 rd:aq l.rd
 dl:h3 l.dl
theorem aq.exp(b:Tok->Bool)(n:Nat):aq (nb b n):=by refine aq.fS (λt a=>?_) (by simp[cH,aq.b3]);rw[aP a];exact dY.ite (aq.dm n).n dY.bK
theorem aq.op(o:aa):aq (jA o):=aq.exp _ _
theorem aq.res(w:aa):aq (cZ w):=aq.exp _ _
theorem vS(d:Nat)(b:UInt8)(t:aa):h1 d (b::t)=(if b=39\/b=34\/b=92\/b=96\/fQ (b::t) then .bad (b::t) else
  if b=40 then h1 (d+1) t else
  if b=41 then match d with
   |eC+1=>h1 eC t
   |0=>match t with
    |[]=> .more 1
    |c::u=>if c=41 then .ok u else .bad (b::t)
  else h1 d t):=by
 rfl
theorem Rs:∀(d:Nat)(r v:aa),c_ r->r≠[]->(∀q,h1 d r= .ok q->q<:+r/\h1 d (r++v)= .ok (q++v))/\(∀q,h1 d r= .bad q->q≠[]/\q<:+r/\h1 d (r++v)= .bad (q++v))
 |d,[],v,_,aw=>absurd rfl aw
 |d,b::t,v,f,aw=>by
  have g:=Rk v f aw;simp only[hF] at g⊢;rw[vS,vS,g];split
  ·simp
  ·rename_i ad
   have go:∀a,(∀q,h1 a t= .ok q->q<:+b::t/\h1 a (t++v)= .ok (q++v))/\(∀q,h1 a t= .bad q->q≠[]/\q<:+b::t/\h1 a (t++v)= .bad (q++v)):=by
    intro a;by_cases h:t=[]
    ·grind[h1]
    ·obtain⟨i,j⟩:=Rs a t v f.tail h;grind
   split
   ·grind
   ·split
    ·rename_i k;cases d with
     |succ a=>grind
     |zero=>
      cases t with
      |nil=>simp
      |cons c u=>
       simp only[hF];split
       ·refine⟨λq e=>?_,λq e=>(by cases e)⟩;cases e;exact⟨(ee _ _).trans (ee _ _),rfl⟩
       simp
    grind
theorem Rt{b:Tok->Bool}{n:Nat}(aw:0<n){r:aa}{pd:ao}{r':aa}{c:ao}(h:nb b n r pd= .ok () r' c):r'.length<r.length:=by
 obtain⟨t,r1,aD,ad,a⟩:=b4 h;obtain⟨d,rfl,rfl⟩:=nD ad;have hl:=w_ (dU d);split at a
 ·cases a
 ·rename_i he;have:r1≠[]:=λe=>he (lH.2 e);split at a
  ·cases a;grind[List.length_pos_iff,List.length_drop]
  ·cases a
theorem As(t:aa):bq (10::t)=some (10::t):=by simp[nC,gb]
theorem XD{t:aa}{pd:ao}{b:Bool}{r':aa}{e:ao}(h:cR (10::t) pd= .ok b r' e):r'.length<(10::t).length:=by
 unfold cR at h;rw[ql] at h;split at h
 ·rename_i s1 r1 aD ad;have f:=ik.lines.lt ad;rw[bh f] at h;have:=(aq.rep ik.lines s1).sfx h;grind
 ·rename_i a ad;obtain⟨j,r1,aD,g,c⟩:=b4 ad;obtain⟨d,rfl,rfl⟩:=nD g;rw[As] at d;cases d;simp only[ar,cH] at c;obtain⟨_,_,_,_,i⟩:=b4 c;cases i
 all_goals cases h
theorem vT{r:aa}(h:ar r= .line):∃t,r=10::t:=by
 cases r with
 |nil=>grind[ar]
 |cons b t=>grind[ar]
section
variable{fr:Bool}{l:dT}(hl:uJ l)
include hl
theorem aq.body(x:aa):aq (iO l x):=((aq.res _).aJ _).ae λ_=>((hl.ls _ _).aJ _).ae λ_=>aq.res _
theorem aq.cond:aq (qj l):=by
 refine aq.rep ⟨λ_=>((hl.ls _ _).aJ _).ae λ_=>(aq.res _).ae λ_=>((hl.ls _ _).aJ _).ae λ_=>(aq.dN _).ae λt=>aq.ite ((aq.res _).ae λ_=>aq.ret _) (aq.ite ((aq.res _).ae λ_=>((hl.ls _ _).aJ _).ae λ_=>(aq.res _).ae λ_=>aq.ret _) ((aq.res _).ae λ_=>aq.ret _)),λ{s r pd s' r' g} h=>?_⟩ ();obtain⟨_,r1,aD,ad,h⟩:=b4 h;obtain⟨_,i,j,d,h⟩:=b4 h;obtain⟨_,k,m,e,h⟩:=b4 h;obtain⟨t,n,o,f,h⟩:=b4 h;have p:=((hl.ls _ _).sfx (hJ.1 ad)).length_le;have a2:=((aq.res _).sfx d).length_le;have a3:=((hl.ls _ _).sfx (hJ.1 e)).length_le;have q:=((aq.dN _).sfx f).length_le;split at h
 ·obtain⟨_,b,c,a,h⟩:=b4 h;cases h;have:=Rt (by decide) a;omega
 ·split at h
  ·obtain⟨_,b,c,a,h⟩:=b4 h;obtain⟨_,u,v,w,h⟩:=b4 h;obtain⟨_,x,y,z,h⟩:=b4 h;cases h
  ·obtain⟨_,b,c,a,h⟩:=b4 h;cases h
omit hl in
theorem aq.words{D:ak Unit}(hD:h3 D):aq (pF D):=by
 refine aq.rep (ik.of (λ_=>aq.fS (λt a=>?_) (aq.b3 _)) (λ_=>fR.LR hD (λt a b=>?_) (iY.more _) (λw p=>⟨cI D,_,rfl,Iff.rfl,λ_=>aq.ret _⟩)) λ_=>iY.dN (iY.more _)) ()
 ·cases t with
  |eof=>grind
  |word w p=>grind[aq.word,aq.ae,aq.ret,aq.n]
  |line=>simp[aq.ret,aq.n]
  |op o=>exact dY.ite ((aq.dm _).ae λ_=>aq.ret _).n dY.bK
 ·cases t with
  |eof=>grind
  |word w p=>grind
  |line=>simp[fR.inr]
  |op o=>exact fR.ite (by intro r pd s r' c d e;obtain⟨_,_,_,_,e⟩:=b4 e;cases e) fR.bad
theorem aq.for_{D:ak Unit}(hD:h3 D):aq (pG l D):=by
 have a:aq (Go.Eng.ae (bN []) λt=>if t= .op [59] then Go.Eng.ae (bV 1) λ_=>Go.Eng.ae cR λ_=>aY () else
   Go.Eng.ae cR λ_=>Go.Eng.ae (bN []) λt=>if cB t fb then Go.Eng.ae (bV 2) λ_=>Go.Eng.ae (pF D) λ_=>Go.Eng.ae cR λ_=>aY () else aY ()):=
  (aq.dN _).ae λt=>aq.ite ((aq.dm _).ae λ_=>aq.lines.ae λ_=>aq.ret _) (aq.lines.ae λ_=>(aq.dN _).ae λt=>aq.ite ((aq.dm _).ae λ_=>(aq.words hD).ae λ_=>aq.lines.ae λ_=>aq.ret _) (aq.ret _))
 refine aq.fS (λt b=>?_) (aq.b3 _);cases t with
 |eof=>grind
 |word w p=>
  cases p with
  |true=>exact dY.ite ((aq.dm _).ae λ_=>(a.aJ _).ae λ_=>aq.body hl _).n dY.bK
  |false=>exact dY.bK
 |_=>exact dY.bK
omit hl in
theorem Rv{D:ak Unit}(hD:h3 D):ik (λ(_:Unit)=>Go.Eng.ae (bN [120,41]) λt=>match t with
 | .eof=>b3 [120,41]
 | .word _ _=>Go.Eng.ae ((cI D).aJ [41]) λ_=>Go.Eng.ae (bN [41]) λt=>match t with
   | .eof=>b3 [41]
   | .op o=>if o=[124] then Go.Eng.ae (bV 1) λ_=>aY (.inl ()) else if o=[41] then Go.Eng.ae (bV 1) λ_=>aY (.inr ()) else bK
   |_=>bK
 |_=>bK:Unit->ak (Unit⊕Unit)):=by
 have b:aq (Go.Eng.ae (bN [41]) λt=>match t with
  | .eof=>b3 [41]
  | .op o=>if o=[124] then Go.Eng.ae (bV 1) λ_=>aY (.inl ()) else if o=[41] then Go.Eng.ae (bV 1) λ_=>aY (.inr ()) else bK
  |_=>bK:ak (Unit⊕Unit)):=by
  refine aq.fS (λt a=>?_) (aq.b3 _);cases t with
  |eof=>grind
  |op o=>exact dY.ite ((aq.dm _).ae λ_=>aq.ret _).n (dY.ite ((aq.dm _).ae λ_=>aq.ret _).n dY.bK)
  |_=>exact dY.bK
 refine ik.of (λ_=>aq.fS (λt a=>?_) (aq.b3 _)) (λ_=>fR.LR hD (λt a c=>?_) (iY.more _) (λw p=>⟨(cI D).aJ [41],_,rfl,hJ,λ_=>b⟩)) λ_=>iY.dN (iY.more _)
 ·cases t with
  |eof=>grind
  |word w p=>exact(((aq.word hD).aJ _).ae λ_=>b).n
  |_=>exact dY.bK
 ·cases t with
  |eof=>exact absurd rfl a
  |word w p=>exact absurd rfl (c w p)
  |_=>exact fR.bad
omit hl in
theorem aq.xc{D:ak Unit}(hD:h3 D):aq (kq D):=aq.rep (Rv hD) ()
omit hl in
theorem Rw{D:ak Unit}(hD:h3 D){r:aa}{pd:ao}{r':aa}{j:ao}(h:kq D r pd= .ok () r' j):r'.length<r.length:=by
 unfold kq at h;rw[ql] at h;split at h
 ·rename_i s1 r1 aD ad;have k:=(Rv hD).lt (s:=()) ad;rw[bh k] at h;have:=((aq.rep (Rv hD) s1).sfx h).length_le;omega
 ·rename_i a ad;cases h;obtain⟨t,r1,aD,l,d⟩:=b4 ad;obtain⟨g,rfl,rfl⟩:=nD l;have a0:=(dU g).length_le;cases e:ar r1 with
  |word w p=>
   rw[e] at d;obtain⟨_,A,B,m,n⟩:=b4 d
   have q:∃b t,r1=b::t:=by
    cases r1 with
    |nil=>grind[ar]
    |cons b t=>simp
   obtain⟨b,t,rfl⟩:=q;have u:=Io ⟨w,p,e⟩ (Xt _ _ (cX _) _ _ g);have C:=vP hD (by simp) u (hJ.1 m);obtain⟨E,v,F,x,c⟩:=b4 n;obtain⟨y,rfl,rfl⟩:=nD x;have a2:=(dU y).length_le;cases i:ar v with
   |op o=>
    rw[i] at c;simp only at c;split at c
    ·obtain⟨_,_,_,_,f⟩:=b4 c;cases f
    ·split at c
     ·obtain⟨_,G,H,f,z⟩:=b4 c;cases z;have:=((aq.dm 1).sfx f).length_le;omega
     ·cases c
   |_=>rw[i] at c;cases c
  |_=>rw[e] at d;cases d
 all_goals cases h
theorem aq.items{D:ak Unit}(hD:h3 D):aq (nc l D):=by
 have a:aq (Go.Eng.ae (kq D) λ_=>Go.Eng.ae (l.ls .item true) λ_=>Go.Eng.ae (bN []) λt=>if t= .op [59,59] then Go.Eng.ae (bV 2) λ_=>aY (.inl ()) else aY (.inl ()):ak (Unit⊕Unit)):=
  (aq.xc hD).ae λ_=>(hl.ls _ _).ae λ_=>(aq.dN _).ae λt=>aq.ite ((aq.dm _).ae λ_=>aq.ret _) (aq.ret _)
 refine aq.rep ⟨λ_=>aq.lines.ae λ_=>(aq.dN _).ae λt=>aq.ite (aq.b3 _) (aq.ite ((aq.dm _).ae λ_=>aq.ret _) ((aq.ite (aq.dm _) (aq.ret _)).ae λ_=>a)),λ{s r pd s' r' i} h=>?_⟩ ();obtain⟨_,r1,aD,ad,h⟩:=b4 h;obtain⟨t,j,k,b,h⟩:=b4 h;have m:=(aq.lines.sfx ad).length_le;have a2:=((aq.dN _).sfx b).length_le;split at h
 ·cases h
 ·split at h
  ·obtain⟨_,_,_,_,h⟩:=b4 h;cases h
  ·obtain⟨_,n,o,c,h⟩:=b4 h;have a3:=((aq.ite (aq.dm 1) (aq.ret ())).sfx c).length_le;obtain⟨_,p,q,d,h⟩:=b4 h;have u:=Rw hD d;obtain⟨_,v,w,e,h⟩:=b4 h;have x:=((hl.ls _ _).sfx e).length_le;obtain⟨_,y,z,f,h⟩:=b4 h;have A:=((aq.dN _).sfx f).length_le;split at h
   ·obtain⟨_,B,C,g,h⟩:=b4 h;cases h;have:=((aq.dm 2).sfx g).length_le;omega
   ·cases h;omega
omit hl in
theorem aq.aje{α β:Type}{m:ak α}{k:α->ak β}(hm:aq m)(bc:∀{r pd a r' f},m r pd= .ok a r' f->r'≠[])(hk:∀a,dY (k a)):aq (Go.Eng.ae m k):=by
 constructor
 ·intro r pd b r' f h;obtain⟨a,r1,aD,ad,g⟩:=b4 h;exact((hk a).sfx g).trans (hm.sfx ad)
 ·intro u pd b r' f v hu h i;obtain⟨a,r1,aD,ad,g⟩:=b4 h;rw[aM (hm.ok v hu ad (bc ad))];exact(hk a).ok v (hu.sfx (hm.sfx ad)) g i
 ·intro u pd r' v hu h;unfold Go.Eng.ae at h⊢;split at h
  ·rename_i a r1 aD ad;rw[hm.ok v hu ad (bc ad)];obtain⟨c,d,e⟩:=(hk a).bad v (hu.sfx (hm.sfx ad)) (bc ad) h;exact⟨c,d.trans (hm.sfx ad),e⟩
  ·cases h
  ·rename_i r1 ad;cases h;obtain⟨c,d,e⟩:=hm.bad v hu ad;grind
  grind
 ·intro u pd r' v hu h;unfold Go.Eng.ae at h⊢;split at h
  ·rename_i a r1 aD ad;rw[hm.ok v hu ad (bc ad)];obtain⟨c,d,e⟩:=(hk a).deep v (hu.sfx (hm.sfx ad)) (bc ad) h;exact⟨c,d.trans (hm.sfx ad),e⟩
  ·cases h
  ·cases h
  ·rename_i r1 ad;cases h;obtain⟨c,d,e⟩:=hm.deep v hu ad;grind
 ·intro pd;rcases hm.nil pd with⟨op,nd,ds,h⟩|⟨a,h⟩
  ·left;unfold Go.Eng.ae;rw[h];exact⟨_,_,_,rfl⟩
  grind
theorem aq.xd{D:ak Unit}(hD:h3 D):aq (qk l D):=by
 have ad:aq (Go.Eng.ae (cI D) λ_=>Go.Eng.ae cR λ_=>Go.Eng.ae (bN []) λt=>if t= .eof then Go.Eng.b3 [] else aY t):=
  (aq.word hD).ae λ_=>aq.lines.ae λ_=>(aq.dN _).ae λt=>aq.ite (aq.b3 _) (aq.ret _)
 refine aq.fS (λt f=>?_) (aq.b3 _);cases t with
 |eof=>grind
 |word w p=>
  refine(aq.aje (ad.aJ _) (λ{r pd a r' g} h=>?_) λt=>dY.ite ((aq.dm _).ae λ_=>(aq.items hl hD).aJ _).n dY.bK).n;obtain⟨_,i,j,k,c⟩:=b4 (hJ.1 h);obtain⟨_,m,n,o,d⟩:=b4 c;obtain⟨t,q,s,e,b⟩:=b4 d;obtain⟨u,rfl,rfl⟩:=nD e;split at b
  ·cases b
  ·rename_i he;cases b;grind[lH]
 |_=>exact dY.bK
theorem dY.kind(t:Tok):dY (gY l t):=by
 cases t with
 |op o=>exact((aq.dm _).ae λ_=>((hl.ls _ _).aJ _).ae λ_=>aq.op _).n
 |word w p=>exact((aq.dm _).ae λ_=>aq.ite (((hl.ls _ _).aJ _).ae λ_=>aq.res _) (aq.ite (aq.cond hl) (aq.ite (aq.for_ hl hl.dl) (aq.ite (aq.xd hl hl.dl) (((hl.ls _ _).aJ _).ae λ_=>aq.body hl _))))).n
 |_=>exact dY.bK
omit hl in
theorem dY.named{α:Type}{m:ak α}(hm:dY m)(x:aa):dY (m.named x):=by
 have d:∀r pd q,m.named x r pd= .bad q↔m r pd= .bad q:=by grind[ak.named]
 have aG:∀r pd q,m.named x r pd= .deep q↔m r pd= .deep q:=by grind[ak.named]
 exact⟨λh=>hm.sfx (Cu.1 h),λv hu h e=>Cu.2 (hm.ok v hu (Cu.1 h) e),
  λ{u pd r'} v hu aw h=>(by obtain⟨a,b,c⟩:=hm.bad v hu aw ((d _ _ _).1 h);grind),
  λ{u pd r'} v hu aw h=>(by obtain⟨a,b,c⟩:=hm.deep v hu aw ((aG _ _ _).1 h);grind)⟩
end
section
variable{fr:Bool}{lo:Option dT}(j1:∀l∈lo,uJ l)
include j1
theorem dY.cp(t:Tok):dY (sw lo t):=by
 cases lo with
 |none=>exact dY.uH
 |some l=>exact(dY.kind (j1 l rfl) t).named _
theorem dY.function:dY (lW fr lo):=by
 cases lo with
 |none=>exact dY.uH
 |some l=>have hl:=j1 l rfl;unfold lW;simp only;refine dY.ite (dY.named ?_ _) dY.uH;refine((aq.dm _).ae λ_=>aq.fS (λt a=>?_) (by simp[cH,aq.b3])).n;rw[aP a];refine dY.ite ?_ dY.bK;refine((aq.dm _).ae λ_=>(aq.lines.aJ _).ae λ_=>aq.fS (λt a=>?_) (by simp[cH,aq.b3])).n;rw[aP a];exact dY.ite ((hl.cp t).ae λ_=>aq.ite hl.rd (aq.ret _)) dY.bK
omit j1 in
theorem At:∀(d:Nat)(r q:aa),h1 d r= .ok q->q<:+r
 |d,[],q,h=>by grind[h1]
 |d,b::t,q,h=>by
  rw[vS] at h;split at h
  ·cases h
  ·split at h
   ·exact(At _ t q h).trans (ee _ _)
   ·split at h
    ·cases d with
     |succ a=>exact(At a t q h).trans (ee _ _)
     |zero=>
      cases t with
      |nil=>cases h
      |cons c u=>
       simp only at h;split at h
       ·cases h;exact(ee _ _).trans (ee _ _)
       ·cases h
    ·exact(At d t q h).trans (ee _ _)
omit j1 in
theorem aq.nB:aq nB:=by
 constructor
 ·grind[Go.Eng.nB,At]
 ·intro u pd a r' e v hu h f;by_cases aw:u=[]
  ·subst aw;cases h
  ·unfold Go.Eng.nB at h⊢;split at h
   ·simp_all[Rs]
   ·cases h
   grind
 ·intro u pd r' v hu h;by_cases aw:u=[]
  ·subst aw;cases h
  ·unfold Go.Eng.nB at h⊢;split at h
   ·cases h
   ·cases h
   ·rename_i q d;cases h;obtain⟨a,b,c⟩:=(Rs 0 u v hu aw).2 _ d;grind
 ·grind[Go.Eng.nB]
 ·intro pd;exact .inl ⟨_,_,_,rfl⟩
omit j1 in
theorem aq.Ry{o:aa}(b:(10:UInt8)∉o)(i:o≠[]){α:Type}{f g:ak α}(hf:dY f)(bs:aq g):aq (λr pd=>if o.isPrefixOf r then f r pd else g r pd):=by
 have h0:o.isPrefixOf ([]:aa)=false:=by grind
 constructor
 ·intro r pd a r' e h;split at h
  ·exact hf.sfx h
  ·exact bs.sfx h
 ·intro u pd a r' e v hu h d;by_cases aw:u=[]
  ·subst aw;simp only[h0] at h;have:=bs.sfx h;grind
  ·rw[LQ v b hu aw];split at h
   ·rename_i aF;rw[bh aF];exact hf.ok v hu h d
   ·rename_i aF;rw[aP aF];exact bs.ok v hu h d
 ·intro u pd r' v hu h;by_cases aw:u=[]
  ·subst aw;simp only[h0] at h;rcases bs.nil pd with⟨_,_,_,c⟩|⟨_,c⟩<;>(grind)
  ·rw[LQ v b hu aw];split at h
   ·rename_i aF;rw[bh aF];exact hf.bad v hu aw h
   ·rename_i aF;rw[aP aF];exact bs.bad v hu h
 ·intro u pd r' v hu h;by_cases aw:u=[]
  ·subst aw;simp only[h0] at h;rcases bs.nil pd with⟨_,_,_,c⟩|⟨_,c⟩<;>(grind)
  ·rw[LQ v b hu aw];split at h
   ·rename_i aF;rw[bh aF];exact hf.deep v hu aw h
   ·rename_i aF;rw[aP aF];exact bs.deep v hu h
 ·intro pd;simp only[h0];exact bs.nil pd
omit j1 in
theorem dY.su{n:Nat}{f:dT->ak Unit}(hf:∀l∈lo,aq (f l)):dY (su lo n f):=by
 cases lo with
 |none=>exact dY.uH
 |some l=>exact((aq.dm _).ae λ_=>hf l rfl).n
theorem aq.uL:aq (dw lo):=by refine aq.Ry (by decide) (by decide) ((aq.dm 3).ae λ_=>aq.nB).n ?_;refine aq.Ry (by decide) (by decide) (dY.su λl h=>((((j1 l h).ls _ _).aJ _).named _).ae λ_=>aq.op _) ?_;refine aq.Ry (by decide) (by decide) (dY.su λl h=>(j1 l h).pm.named _) ?_;exact aq.dm 1
theorem Cz:h3 (dw lo):=by
 refine⟨aq.uL j1,λ{r pd r' b} e h=>?_⟩;have g:r≠[]:=by rintro rfl;grind[fQ]
 have c:∀n (f:dT->ak Unit),(∀l∈lo,aq (f l))->0<n->su lo n f r pd= .ok () r' b->r'.length<r.length:=by
  intro n f hf aw h;cases lo with
  |none=>cases h
  |some l=>have d:Go.Eng.ae (bV n) (λ_=>f l) r pd= .ok () r' b:=h;obtain⟨_,r1,aD,ad,a⟩:=b4 d;cases ad;have:=((hf l rfl).sfx a).length_le;grind[List.length_pos_iff,List.length_drop]
 unfold dw at h;split at h
 ·obtain⟨_,r1,aD,ad,a⟩:=b4 h;cases ad;have:=(aq.nB.sfx a).length_le;grind
 ·split at h
  ·exact c 2 _ (λl h=>((((j1 l h).ls _ _).aJ _).named _).ae λ_=>aq.op _) (by decide) h
  ·split at h
   ·exact c 2 _ (λl h=>(j1 l h).pm.named _) (by decide) h
   grind[List.length_pos_iff,List.length_drop]
theorem aq.command{D:ak Unit}(hD:h3 D):aq (fl fr lo D):=by
 refine aq.fS (λt a=>?_) (by simp[cH,aq.b3]);rw[aP a];refine dY.ite ((dY.cp j1 t).ae λ_=>aq.mL hD) ?_;cases t with
 |eof=>grind
 |line=>exact dY.bK
 |op o=>exact dY.ite ((aq.ji hD).ae λ_=>aq.simple hD _).n dY.bK
 |word w p=>
  refine dY.ite dY.bK ((aq.ji hD).ae λb=>aq.ite (aq.simple hD _) ((aq.word hD).ae λ_=>aq.ite (aq.fS (λt a=>?_) ?_) (aq.simple hD _))).n
  ·exact dY.ite ((dY.function j1).ae λ_=>aq.ite (aq.ret _) (aq.mL hD)) (aq.simple hD _).n
  simp_all[aP,aq.simple]
omit j1 in
theorem aq.pipe{c8:ak Unit}(aF:aq c8):aq (ff c8):=by
 have hk:aq (Go.Eng.ae (cR.aJ [120]) λ_=>Go.Eng.ae c8 λ_=>aY (.inl ()):ak (Unit⊕Unit)):=(aq.lines.aJ _).ae λ_=>aF.ae λ_=>aq.ret _;refine(aq.dN _).ae λt=>(aq.ite (aq.dm _) (aq.ret _)).ae λ_=>aF.ae λ_=>aq.rep (ik.of (λ_=>(aq.dN _).ae λt=>aq.ite ((aq.dm _).ae λ_=>hk) (aq.ret _)) (λ_=>fR.dN (λt a=>fR.ite (fR.Cv (mK.dm 0) λ_=>hk) (fR.inr _)) ?_) (λ_=>iY.dN ?_)) ()
 ·simp[cr,iY.inr]
 simp[cr,iY.inr]
omit j1 in
theorem aq.pH{a:ak Unit}(aF:aq a):aq (hi a):=by
 have hk:aq (Go.Eng.ae (cR.aJ [120]) λ_=>Go.Eng.ae a λ_=>aY (.inl ()):ak (Unit⊕Unit)):=(aq.lines.aJ _).ae λ_=>aF.ae λ_=>aq.ret _;refine aF.ae λ_=>aq.rep (ik.of (λ_=>(aq.dN _).ae λt=>aq.ite ((aq.dm _).ae λ_=>hk) (aq.ret _)) (λ_=>fR.dN (λt b=>fR.ite (fR.Cv (mK.dm 1) λ_=>hk) (fR.inr _)) ?_) (λ_=>iY.dN ?_)) ()
 ·simp[or_self,cr,iY.inr]
 simp[or_self,cr,iY.inr]
end
def il(c:Ctx)(n:Nat)(t:Tok):ak (Nat⊕Nat):=match t with
    | .eof=>aY (.inl (n+1))
    | .line=>ae cR λ_=>aY (.inl (n+1))
    | .word _ _=>bK
    | .op o=>if o=[59]\/o=[38] then ae (bV 1) λ_=>ae cR λ_=>aY (.inl (n+1)) else if dE c t then aY (.inr (n+1)) else bK
def eK(cV:ak Unit)(c:Ctx)(none:Bool)(n:Nat):ak (Nat⊕Nat):=ae (bN (if none||n>0 then [] else [120])) λt=>
 if t= .eof then(if c= .text then aY (.inr n) else b3 (if none||n>0 then [] else [120])) else if(none||n>0)&&dE c t then aY (.inr n) else
 ae cV λ_=>ae (bN []) (il c n)
theorem pI(cV:ak Unit)(c:Ctx)(none:Bool):om cV c none=ae (cR.aJ (if none then [] else [120])) λ_=>b7 (eK cV c none) 0:=rfl
theorem aq.ajf(c:Ctx)(n:Nat):aq (Go.Eng.ae (bN []) (il c n)):=by
 refine aq.fS (λt a=>?_) (aq.ret _);cases t with
 |eof=>grind
 |line=>exact(aq.lines.ae λ_=>aq.ret _).n
 |word w p=>exact dY.bK
 |op o=>exact dY.ite ((aq.dm _).ae λ_=>aq.lines.ae λ_=>aq.ret _).n (dY.ite (aq.ret _).n dY.bK)
theorem ik.round{cV:ak Unit}(i:aq cV)(c:Ctx)(none:Bool):ik (eK cV c none):=by
 refine⟨λn=>(aq.dN _).ae λt=>aq.ite (aq.ite (aq.ret _) (aq.b3 _)) (aq.ite (aq.ret _) (i.ae λ_=>aq.ajf c n)),λ{n r pd z r' A} h=>?_⟩;obtain⟨t,r1,aD,ad,b⟩:=b4 h;obtain⟨j,rfl,rfl⟩:=nD ad;have B:=(dU j).length_le;split at b
 ·split at b<;>cases b
 ·rename_i bc;have C:0<r1.length:=JD.2 λe=>bc (lH.2 e);split at b
  ·cases b
  ·obtain⟨_,D,E,k,l⟩:=b4 b;have a2:=(i.sfx k).length_le;obtain⟨t,m,F,q,a⟩:=b4 l;obtain⟨s,rfl,rfl⟩:=nD q;have a3:=(dU s).length_le;cases d:ar m with
   |eof=>rw[d] at a;cases a;grind[lH]
   |line=>rw[d] at a;obtain⟨t,rfl⟩:=vT d;obtain⟨_,u,v,f,g⟩:=b4 a;cases g;have:=XD f;omega
   |word w p=>rw[d] at a;cases a
   |op o=>
    rw[d] at a;unfold il at a;simp only at a;split at a
    ·obtain⟨_,u,v,f,g⟩:=b4 a;cases f;obtain⟨_,G,H,x,y⟩:=b4 g;cases y;have I:=(aq.lines.sfx x).length_le;grind
    ·split at a<;>cases a
theorem aq.list{cV:ak Unit}(a:aq cV)(c:Ctx)(none:Bool):aq (om cV c none):=by rw[pI];exact(aq.lines.aJ _).ae λ_=>aq.rep (ik.round a c none) 0
theorem XF{fr:Bool}{lo:Option dT}(j1:∀l∈lo,uJ l)(b:Bool):uJ {ls:=om (hi (ff (fl fr lo (dw lo)))),pm:=qV (dw lo),cp:=sw lo,rd:=gI (dw lo),dl:=dw lo,has:=b}:=
 have hD:=Cz j1
 ⟨λc n=>aq.list (aq.pH (aq.pipe (aq.command j1 hD))) c n,aq.param hD,dY.cp j1,aq.mL hD,hD⟩
theorem qX(fr:Bool):∀n,uJ (aS fr n)
 |0=>XF (λl h=>by cases h) false
 |n+1=>XF (λl h=>by cases h;exact qX fr n) true
def fg{α:Type}(f:ak α):Prop:=∀⦃u:aa⦄ ⦃pd:ao⦄ ⦃a:α⦄ ⦃r':aa⦄ ⦃b:ao⦄,c_ u->u≠[]->f u pd= .ok a r' b->r'≠[]
def NE{α:Type}(f:ak α):Prop:=∀⦃u:aa⦄ ⦃pd:ao⦄ ⦃a:α⦄ ⦃r':aa⦄ ⦃b:ao⦄,c_ u->f u pd= .ok a r' b->r'≠[]
theorem NE.k{α:Type}{f:ak α}(h:NE f):fg f:=λ_ _ _ _ _ hu _ e=>h hu e
theorem NE.oQ{α β:Type}{m:ak α}{k:α->ak β}(c:aq m)(hm:NE m)(hk:∀a,fg (k a)):NE (ae m k):=by intro u pd b r' e hu h;obtain⟨a,r1,aD,ad,d⟩:=b4 h;exact hk a (hu.sfx (c.sfx ad)) (hm hu ad) d
theorem NE.ll{α β:Type}{m:ak α}{k:α->ak β}(c:aq m)(hk:∀a,NE (k a)):NE (ae m k):=by intro u pd b r' e hu h;obtain⟨a,r1,aD,ad,d⟩:=b4 h;exact hk a (hu.sfx (c.sfx ad)) d
theorem fg.ae{α β:Type}{m:ak α}{k:α->ak β}(c:aq m)(hm:fg m)(hk:∀a,fg (k a)):fg (Go.Eng.ae m k):=by intro u pd b r' e hu aw h;obtain⟨a,r1,aD,ad,d⟩:=b4 h;exact hk a (hu.sfx (c.sfx ad)) (hm hu aw ad) d
theorem fg.ret{α:Type}(a:α):fg (aY a):=by intro u pd b r' c hu aw h;cases h;exact aw
theorem NE.more{α:Type}(x:aa):NE (b3 x:ak α):=by intro u pd b r' a hu h;cases h
theorem NE.bad{α:Type}:NE (bK:ak α):=by intro u pd b r' a hu h;cases h
theorem NE.deep{α:Type}:NE (uH:ak α):=by intro u pd b r' a hu h;cases h
theorem fg.ite{α:Type}{c:Prop}[Decidable c]{f g:ak α}(hf:fg f)(bs:fg g):fg (if c then f else g):=by grind
theorem NE.ite{α:Type}{c:Prop}[Decidable c]{f g:ak α}(hf:NE f)(bs:NE g):NE (if c then f else g):=by grind
theorem NE.aJ{α:Type}{m:ak α}(h:NE m)(x:aa):NE (m.aJ x):=λ_ _ _ _ _ hu e=>h hu (hJ.1 e)
theorem NE.named{α:Type}{m:ak α}(h:NE m)(x:aa):NE (m.named x):=λ_ _ _ _ _ hu e=>h hu (Cu.1 e)
theorem fg.dN(x:aa):fg (bN x):=by intro u pd t r' a hu aw h;obtain⟨ad,_,_⟩:=nD h;exact(tn [] ad hu aw).1
theorem NE.fS{α:Type}{x:aa}{k:Tok->ak α}(h:∀t r,t≠ .eof->c_ r->ar r=t->∀{pd a r' c},k t r pd= .ok a r' c->r'≠[])(h0:NE (k .eof)):NE (ae (bN x) k):=by
 intro u pd b r' c hu e;obtain⟨t,r1,aD,ad,d⟩:=b4 e;obtain⟨f,rfl,rfl⟩:=nD ad;have g:=hu.sfx (dU f);by_cases i:ar r1= .eof
 ·rw[i] at d;exact h0 g d
 grind
theorem LW{o r:aa}(a:(10:UInt8)∉o)(aB:o<+:r)(b:c_ r)(aw:r≠[]):r.drop o.length≠[]:=by obtain⟨t,rfl⟩:=aB;rw[o5];rintro rfl;grind[Xw]
theorem ajg{r:aa}:bt r∈lh\/bt r=[]:=by
 unfold bt;cases h:lh.find? (λo=>o.isPrefixOf r) with
 |none=>simp
 |some o=>grind
theorem XG{r:aa}:(10:UInt8)∉bt r:=by
 rcases ajg (r:=r) with h|h
 ·have:∀o∈lh,(10:UInt8)∉o:=by decide
  grind
 grind
theorem iq{r o:aa}(h:ar r= .op o):o=bt r/\o<+:r/\(10:UInt8)∉o/\o≠[]:=by
 cases r with
 |nil=>grind[ar]
 |cons b t=>
  simp only[ar] at h;split at h
  ·cases h
  ·split at h
   ·rename_i ad;cases h;exact⟨rfl,Ro,XG,ad⟩
   grind
theorem E4:∀(r w:aa),c5 r=(w,true)->w<+:r/\(10:UInt8)∉w
 |[],w,h=>by grind[c5]
 |b::t,w,h=>by
  rw[c5] at h;split at h
  ·grind
  ·rename_i d;split at h
   ·cases h
   ·split at h
    ·rename_i w' a;cases h;obtain⟨c,e⟩:=E4 t w' a;refine⟨List.cons_prefix_cons.2 ⟨rfl,c⟩,?_⟩;simp only[kZ,Gk];grind[Ct]
    grind
theorem qp{r w:aa}(h:ar r= .word w true):w<+:r/\(10:UInt8)∉w:=by
 cases r with
 |nil=>grind[ar]
 |cons b t=>grind[ar,Tok.word.injEq,E4]
theorem NE.exp{b:Tok->Bool}{n:Nat}(h:∀r t,c_ r->ar r=t->b t=true->r.drop n≠[]):NE (nb b n):=by
 refine NE.fS (λt r c d he {pd a r' f} e=>?_) ?_
 ·rw[aP c] at e;split at e
  ·rename_i g;cases e;grind
  ·cases e
 ·rw[bh rfl];exact NE.more _
theorem NE.op(o:aa):NE (jA o):=by
 refine NE.exp λr t a he d=>?_;have:t= .op o:=by grind
 subst this;obtain⟨ad,b,c,e⟩:=iq he;exact LW c b a (by grind)
theorem NE.res(w:aa):NE (cZ w):=by
 refine NE.exp λr t a he c=>?_;have:t= .word w true:=by grind[cB]
 subst this;obtain⟨ad,b⟩:=qp he;exact LW b ad a (by rintro rfl;grind[ar])
theorem LX{σ α:Type}{f:σ->ak (σ⊕α)}(hf:ik f)(P:aa->Prop)(Q:aa->Prop)(ad:∀s r pd s' r' b,P r->f s r pd= .ok (.inl s') r' b->P r')(c:∀s r pd a r' b,P r->f s r pd= .ok (.inr a) r' b->Q r'):
  ∀(n:Nat)(s:σ)(r:aa)(pd:ao)(a:α)(r':aa)(b:ao),r.length<=n->P r->b7 f s r pd= .ok a r' b->Q r':=by
 intro n;induction n with
 |zero=>grind[ql]
 |succ n d=>intro s r pd a r' b aw aB h;rw[ql] at h;grind
theorem NE.word{D:ak Unit}(hD:h3 D):NE (cI D):=by
 intro u pd a r' b hu h;refine LX (ik.word hD) (λ_=>True) (λr=>r≠[]) (λ_ _ _ _ _ _ _ _=>trivial) ?_ _ _ _ _ _ _ _ (cX _) trivial h;intro s r pd a r' b _ e;split at e
 ·cases e
 ·split at e
  ·grind
  ·obtain⟨_,_,_,_,e⟩:=b4 e;cases e
theorem NE.sy(tabs:Bool):NE (hB tabs):=by intro u pd a r' b hu h;grind[Cy,vR]
theorem NE.E2{D:ak Unit}(hD:h3 D)(x:aa):NE (jM D x):=by
 refine NE.fS (λt r c b he {pd a r' d} e=>?_) (NE.more x);cases t with
 |eof=>grind
 |word w p=>exact NE.word hD b e
 |_=>cases e
theorem fg.ji{D:ak Unit}(hD:h3 D):fg (dv D):=by
 intro u pd a r' g hu aw h;obtain⟨o,r1,aD,ad,b⟩:=b4 h;cases o with
 |none=>
  cases b;unfold fN at ad;split at ad
  ·cases ad
  ·rename_i q c;simp only at ad;split at ad
   ·cases ad
   ·cases ad;exact(tn [] c hu aw).1
 |some o=>obtain⟨_,i,j,d,e⟩:=b4 b;cases e;have f:=hu.sfx (aq.Xu.sfx ad);have:NE (if o=[60,60] then hB false else if o=[60,60,45] then hB true else jM D [120]):=NE.ite (NE.sy _) (NE.ite (NE.sy _) (NE.E2 hD _));exact this f d
theorem ajh{D:ak Unit}(hD:h3 D):ik (λ(_:Unit)=>ae (dv D) λb=>aY (if b then .inl () else .inr ()):Unit->ak (Unit⊕Unit)):=by
 refine⟨λ_=>(aq.ji hD).ae λb=>aq.ret _,λ{s r pd s' r' c} h=>?_⟩;obtain⟨b,r1,aD,ad,a⟩:=b4 h;cases b with
 |true=>cases a;exact sz hD ad
 |false=>cases a
theorem fg.rep{σ α:Type}{f:σ->ak (σ⊕α)}(hf:ik f)(hk:∀s,fg (f s))(s:σ):fg (b7 f s):=by intro u pd a r' b hu aw h;have:=LX hf (λr=>c_ r/\r≠[]) (λr=>r≠[]) (λs r pd s' r' b aB e=>⟨aB.1.sfx ((hf.ex s).sfx e),hk s aB.1 aB.2 e⟩) (λs r pd a r' b aB e=>hk s aB.1 aB.2 e);exact this _ _ _ _ _ _ _ (cX _) ⟨hu,aw⟩ h
theorem fg.mL{D:ak Unit}(hD:h3 D):fg (gI D):=fg.rep (ajh hD) (λ_=>fg.ae (aq.ji hD) (fg.ji hD) λb=>fg.ret _) ()
theorem aji{D:ak Unit}(hD:h3 D)(fr:Bool):ik (λ(_:Unit)=>ae (dv D) λb=>if b then aY (.inl ()) else ae (bN []) λt=>match t with
 | .word _ _=>ae (cI D) λ_=>aY (.inl ())
 | .op o=>if fr/\o=[40] then bK else aY (.inr ())
 |_=>aY (.inr ()):Unit->ak (Unit⊕Unit)):=by
 have he:aq (ae (bN []) λt=>match t with
  | .word _ _=>ae (cI D) λ_=>aY (.inl ())
  | .op o=>if fr/\o=[40] then bK else aY (.inr ())
  |_=>aY (.inr ()):ak (Unit⊕Unit)):=by
  refine aq.fS (λt c=>?_) (aq.ret _);cases t with
  |word w p=>exact((aq.word hD).ae λ_=>aq.ret _).n
  |op o=>exact dY.ite dY.bK (aq.ret _).n
  |_=>exact(aq.ret _).n
 have hl:fR (ae (bN []) λt=>match t with
  | .word _ _=>ae (cI D) λ_=>aY (.inl ())
  | .op o=>if fr/\o=[40] then bK else aY (.inr ())
  |_=>aY (.inr ()):ak (Unit⊕Unit)):=by
  refine fR.LR hD (λt c d=>?_) (iY.inr _) (λw p=>⟨cI D,_,rfl,Iff.rfl,λ_=>aq.ret _⟩);cases t with
  |word w p=>grind
  |op o=>simp[fR.ite,fR.bad,fR.inr]
  |_=>simp[fR.inr]
 refine⟨λ_=>(aq.ji hD).ae λb=>aq.ite (aq.ret _) he,λ{s r pd s' r' e} h=>?_⟩;obtain⟨b,r1,aD,ad,a⟩:=b4 h;cases b with
 |true=>cases a;exact sz hD ad
 |false=>
  have f:=((aq.ji hD).sfx ad).length_le;by_cases aw:r1=[]
  ·subst aw;simp only[eB,cr] at a;have:iY (ae (bN []) λt=>match t with
    | .word _ _=>ae (cI D) λ_=>aY (.inl ())
    | .op o=>if fr/\o=[40] then bK else aY (.inr ())
    |_=>aY (.inr ()):ak (Unit⊕Unit)):=iY.dN (iY.inr _)
   exact absurd a this
  ·simp only[eB,cr] at a;have:=hl aw a;omega
theorem fg.simple{D:ak Unit}(hD:h3 D)(fr:Bool):fg (hg fr D):=by
 refine fg.rep (aji hD fr) (λ_=>fg.ae (aq.ji hD) (fg.ji hD) λb=>fg.ite (fg.ret _) ?_) ();refine fg.ae (aq.dN _) (fg.dN _) λt=>?_;cases t with
 |word w p=>exact fg.ae (aq.word hD) (NE.word hD).k λ_=>fg.ret _
 |op o=>exact fg.ite NE.bad.k (fg.ret _)
 |_=>simp[fg.ret]
structure LY(l:dT):Prop where
 cp:∀t,NE (l.cp t)
 rd:fg l.rd
section
variable{l:dT}(hl:uJ l)
include hl
theorem NE.body(x:aa):NE (iO l x):=NE.ll ((aq.res _).aJ _) λ_=>NE.ll ((hl.ls _ _).aJ _) λ_=>NE.res _
theorem NE.rep{σ α:Type}{f:σ->ak (σ⊕α)}(hf:ik f)(hk:∀s {u pd a r' b},c_ u->f s u pd= .ok (.inr a) r' b->r'≠[])(s:σ):NE (b7 f s):=by intro u pd a r' b hu h;have:=LX hf (λr=>c_ r) (λr=>r≠[]) (λs r pd s' r' b aB e=>aB.sfx ((hf.ex s).sfx e)) (λs r pd a r' b aB e=>hk s aB e);exact this _ _ _ _ _ _ _ (cX _) hu h
theorem XH:ik (λ(_:Unit)=>ae ((l.ls .rG false).aJ ([10]++ih++[32,120,10]++fa)) λ_=>ae (cZ ih) λ_=>ae ((l.ls .qi false).aJ (10::fa)) λ_=>
  ae (bN []) λt=>if cB t ij then ae (cZ ij) λ_=>aY (.inl ()) else
   if cB t h2 then ae (cZ h2) λ_=>ae ((l.ls .kh false).aJ (10::fa)) λ_=>ae (cZ fa) λ_=>aY (.inr ()) else ae (cZ fa) λ_=>aY (.inr ()):Unit->ak (Unit⊕Unit)):=by
 refine⟨λ_=>((hl.ls _ _).aJ _).ae λ_=>(aq.res _).ae λ_=>((hl.ls _ _).aJ _).ae λ_=>(aq.dN _).ae λt=>aq.ite ((aq.res _).ae λ_=>aq.ret _) (aq.ite ((aq.res _).ae λ_=>((hl.ls _ _).aJ _).ae λ_=>(aq.res _).ae λ_=>aq.ret _) ((aq.res _).ae λ_=>aq.ret _)),λ{s r pd s' r' g} h=>?_⟩;obtain⟨_,r1,aD,ad,h⟩:=b4 h;obtain⟨_,i,j,d,h⟩:=b4 h;obtain⟨_,k,m,e,h⟩:=b4 h;obtain⟨t,n,o,f,h⟩:=b4 h;have p:=((hl.ls _ _).sfx (hJ.1 ad)).length_le;have a2:=((aq.res _).sfx d).length_le;have a3:=((hl.ls _ _).sfx (hJ.1 e)).length_le;have q:=((aq.dN _).sfx f).length_le;split at h
 ·obtain⟨_,b,c,a,h⟩:=b4 h;cases h;have:=Rt (by decide) a;omega
 ·split at h
  ·obtain⟨_,b,c,a,h⟩:=b4 h;obtain⟨_,u,v,w,h⟩:=b4 h;obtain⟨_,x,y,z,h⟩:=b4 h;cases h
  ·obtain⟨_,b,c,a,h⟩:=b4 h;cases h
theorem NE.cond:NE (qj l):=by
 refine NE.rep hl (XH hl) (λs {u pd a r' p} hu h=>?_) ();obtain⟨_,r1,aD,ad,h⟩:=b4 h;obtain⟨_,q,r,f,h⟩:=b4 h;obtain⟨_,v,w,g,h⟩:=b4 h;obtain⟨t,x,y,i,h⟩:=b4 h;have j:=hu.sfx ((hl.ls _ _).sfx (hJ.1 ad));have k:=j.sfx ((aq.res _).sfx f);have m:=k.sfx ((hl.ls _ _).sfx (hJ.1 g));have c:=m.sfx ((aq.dN _).sfx i);split at h
 ·obtain⟨_,d,e,b,h⟩:=b4 h;cases h
 ·split at h
  ·obtain⟨_,d,e,b,h⟩:=b4 h;obtain⟨_,z,A,n,h⟩:=b4 h;obtain⟨_,B,C,o,h⟩:=b4 h;cases h;exact NE.res _ ((c.sfx ((aq.res _).sfx b)).sfx ((hl.ls _ _).sfx (hJ.1 n))) o
  ·obtain⟨_,d,e,b,h⟩:=b4 h;cases h;exact NE.res _ c b
theorem NE.for_{D:ak Unit}(hD:h3 D):NE (pG l D):=by
 have a:aq (ae (bN []) λt=>if t= .op [59] then ae (bV 1) λ_=>ae cR λ_=>aY () else
   ae cR λ_=>ae (bN []) λt=>if cB t fb then ae (bV 2) λ_=>ae (pF D) λ_=>ae cR λ_=>aY () else aY ()):=
  (aq.dN _).ae λt=>aq.ite ((aq.dm _).ae λ_=>aq.lines.ae λ_=>aq.ret _) (aq.lines.ae λ_=>(aq.dN _).ae λt=>aq.ite ((aq.dm _).ae λ_=>(aq.words hD).ae λ_=>aq.lines.ae λ_=>aq.ret _) (aq.ret _))
 refine NE.ll (aq.dN _) λt=>?_;cases t with
 |eof=>simp[NE.more]
 |word w p=>
  cases p with
  |true=>exact NE.ite (NE.ll (aq.dm _) λ_=>NE.ll (a.aJ _) λ_=>NE.body hl _) NE.bad
  |false=>exact NE.bad
 |_=>exact NE.bad
end
theorem ajj{r w:aa}{n:Nat}(he:cB (ar r) w=true)(aw:n=w.length)(a:c_ r):r.drop n≠[]:=by
 have:ar r= .word w true:=by grind[cB]
 obtain⟨ad,b⟩:=qp this;subst aw;exact LW b ad a (by rintro rfl;grind[ar])
theorem ajk{r o:aa}{n:Nat}(he:ar r= .op o)(aw:n=o.length)(a:c_ r):r.drop n≠[]:=by obtain⟨ad,b,c,d⟩:=iq he;subst aw;exact LW c b a (by grind)
section
variable{l:dT}(hl:uJ l)
include hl
theorem XI{D:ak Unit}(hD:h3 D):ik (λ(_:Unit)=>ae cR λ_=>ae (bN []) λt=>if t= .eof then b3 [] else if cB t ew then ae (bV 4) λ_=>aY (.inr ()) else
 ae ((if t= .op [40] then bV 1 else aY ())) λ_=>ae (kq D) λ_=>ae (l.ls .item true) λ_=>ae (bN []) λt=>if t= .op [59,59] then ae (bV 2) λ_=>aY (.inl ()) else aY (.inl ()):Unit->ak (Unit⊕Unit)):=by
 have a:aq (ae (kq D) λ_=>ae (l.ls .item true) λ_=>ae (bN []) λt=>if t= .op [59,59] then ae (bV 2) λ_=>aY (.inl ()) else aY (.inl ()):ak (Unit⊕Unit)):=
  (aq.xc hD).ae λ_=>(hl.ls _ _).ae λ_=>(aq.dN _).ae λt=>aq.ite ((aq.dm _).ae λ_=>aq.ret _) (aq.ret _)
 refine⟨λ_=>aq.lines.ae λ_=>(aq.dN _).ae λt=>aq.ite (aq.b3 _) (aq.ite ((aq.dm _).ae λ_=>aq.ret _) ((aq.ite (aq.dm _) (aq.ret _)).ae λ_=>a)),λ{s r pd s' r' i} h=>?_⟩;obtain⟨_,r1,aD,ad,h⟩:=b4 h;obtain⟨t,j,k,b,h⟩:=b4 h;have m:=(aq.lines.sfx ad).length_le;have a2:=((aq.dN _).sfx b).length_le;split at h
 ·cases h
 ·split at h
  ·obtain⟨_,_,_,_,h⟩:=b4 h;cases h
  ·obtain⟨_,n,o,c,h⟩:=b4 h;have a3:=((aq.ite (aq.dm 1) (aq.ret ())).sfx c).length_le;obtain⟨_,p,q,d,h⟩:=b4 h;have u:=Rw hD d;obtain⟨_,v,w,e,h⟩:=b4 h;have x:=((hl.ls _ _).sfx e).length_le;obtain⟨_,y,z,f,h⟩:=b4 h;have A:=((aq.dN _).sfx f).length_le;split at h
   ·obtain⟨_,B,C,g,h⟩:=b4 h;cases h;have:=((aq.dm 2).sfx g).length_le;omega
   ·cases h;omega
theorem NE.items{D:ak Unit}(hD:h3 D):NE (nc l D):=by
 refine NE.rep hl (XI hl hD) (λs {u pd a r' o} hu h=>?_) ();obtain⟨_,r1,aD,ad,f⟩:=b4 h;obtain⟨t,p,q,g,b⟩:=b4 f;obtain⟨i,rfl,rfl⟩:=nD g;have j:=(hu.sfx (aq.lines.sfx ad)).sfx (dU i);split at b
 ·cases b
 ·split at b
  ·rename_i he;obtain⟨_,_,_,e,c⟩:=b4 b;cases e;cases c;exact ajj he rfl j
  ·obtain⟨_,r,v,e,c⟩:=b4 b;obtain⟨_,w,x,y,k⟩:=b4 c;obtain⟨_,z,A,B,m⟩:=b4 k;obtain⟨_,C,E,F,d⟩:=b4 m;split at d
   ·obtain⟨_,G,H,I,n⟩:=b4 d;cases n
   ·cases d
theorem NE.xd{D:ak Unit}(hD:h3 D):NE (qk l D):=by
 have ad:aq (ae (cI D) λ_=>ae cR λ_=>ae (bN []) λt=>if t= .eof then b3 [] else aY t):=
  (aq.word hD).ae λ_=>aq.lines.ae λ_=>(aq.dN _).ae λt=>aq.ite (aq.b3 _) (aq.ret _)
 refine NE.ll (aq.dN _) λt=>?_;cases t with
 |eof=>simp[NE.more]
 |word w p=>exact NE.ll (ad.aJ _) λt=>NE.ite (NE.ll (aq.dm _) λ_=>NE.aJ (NE.items hl hD) _) NE.bad
 |_=>exact NE.bad
theorem NE.kind(t:Tok):NE (gY l t):=by
 cases t with
 |op o=>show NE (ae (bV 1) λ_=>ae ((l.ls .paren false).aJ [41]) λ_=>jA [41]);exact NE.ll (aq.dm _) λ_=>NE.ll ((hl.ls _ _).aJ _) λ_=>NE.op _
 |word w p=>unfold gY;exact NE.ll (aq.dm _) λ_=>NE.ite (NE.ll ((hl.ls _ _).aJ _) λ_=>NE.res _) (NE.ite (NE.cond hl) (NE.ite (NE.for_ hl hl.dl) (NE.ite (NE.xd hl hl.dl) (NE.ll ((hl.ls _ _).aJ _) λ_=>NE.body hl _))))
 |_=>exact NE.bad
end
section
variable{fr:Bool}{lo:Option dT}(j1:∀l∈lo,uJ l)(hle:∀l∈lo,LY l)
include j1 hle
omit hle in
theorem NE.cp(t:Tok):NE (sw lo t):=by
 cases lo with
 |none=>exact NE.deep
 |some l=>exact NE.named (NE.kind (j1 l rfl) t) _
theorem NE.function:NE (lW fr lo):=by
 cases lo with
 |none=>exact NE.deep
 |some l=>
  have hl:=j1 l rfl;have he:=hle l rfl;unfold lW;simp only;refine NE.ite (NE.named ?_ _) NE.deep;refine NE.ll (aq.dm _) λ_=>NE.ll (aq.dN _) λt=>NE.ite (NE.more _) (NE.ite ?_ NE.bad);refine NE.ll (aq.dm _) λ_=>NE.ll (aq.lines.aJ _) λ_=>NE.ll (aq.dN _) λt=>NE.ite (NE.more _) (NE.ite ?_ NE.bad);intro u pd b r' e hu h;obtain⟨_,r1,aD,ad,a⟩:=b4 h;have d:=hu.sfx ((hl.cp t).sfx ad);have c:=he.cp t hu ad;split at a
  ·exact he.rd d c a
  ·cases a;exact c
theorem NE.command{D:ak Unit}(hD:h3 D):NE (fl fr lo D):=by
 refine NE.fS (λt r m c he {pd a r' A} e=>?_) (by rw[bh rfl];exact NE.more _);have n:r≠[]:=by rintro rfl;exact m he.symm
 rw[aP m] at e;split at e
 ·obtain⟨_,r1,aD,ad,d⟩:=b4 e;exact fg.mL hD (c.sfx ((dY.cp j1 t).sfx ad)) (NE.cp j1 t c ad) d
 ·cases t with
  |eof=>grind
  |line=>cases e
  |op o=>
   simp only at e;split at e
   ·exact fg.ae (aq.ji hD) (fg.ji hD) (λ_=>fg.simple hD fr) c n e
   ·cases e
  |word w p=>
   simp only at e;split at e
   ·cases e
   ·obtain⟨b,r1,aD,ad,d⟩:=b4 e;have f:=c.sfx ((aq.ji hD).sfx ad);have y:=fg.ji hD c n ad;split at d
    ·exact fg.simple hD fr f y d
    ·obtain⟨_,B,C,q,g⟩:=b4 d;have h:=f.sfx ((aq.word hD).sfx q);have s:=NE.word hD f q;split at g
     ·obtain⟨E,F,G,u,i⟩:=b4 g;have j:=h.sfx ((aq.dN _).sfx u);have z:=fg.dN _ h s u;split at i
      ·obtain⟨_,H,I,v,k⟩:=b4 i;have l:=j.sfx ((dY.function j1).sfx v);have x:=NE.function j1 hle j v;split at k
       ·cases k;exact x
       ·exact fg.mL hD l x k
      ·exact fg.simple hD fr j z i
     ·exact fg.simple hD fr h s g
end
theorem ajm{c8:ak Unit}(aF:aq c8):ik (λ(_:Unit)=>ae (bN []) λt=>if t= .op [124] then ae (bV 1) λ_=>ae (cR.aJ [120]) λ_=>ae c8 λ_=>aY (.inl ()) else aY (.inr ()):Unit->ak (Unit⊕Unit)):=by
 have hk:aq (ae (cR.aJ [120]) λ_=>ae c8 λ_=>aY (.inl ()):ak (Unit⊕Unit)):=(aq.lines.aJ _).ae λ_=>aF.ae λ_=>aq.ret _;refine ik.of (λ_=>(aq.dN _).ae λt=>aq.ite ((aq.dm _).ae λ_=>hk) (aq.ret _)) (λ_=>fR.dN (λt a=>fR.ite (fR.Cv (mK.dm 0) λ_=>hk) (fR.inr _)) ?_) (λ_=>iY.dN ?_)
 ·simp[cr,iY.inr]
 simp[cr,iY.inr]
theorem NE.pipe{c8:ak Unit}(a:aq c8)(aF:NE c8):NE (ff c8):=by refine NE.ll (aq.dN _) λt=>NE.ll (aq.ite (aq.dm _) (aq.ret _)) λ_=>NE.oQ a aF λ_=>fg.rep (ajm a) (λ_=>fg.ae (aq.dN _) (fg.dN _) λt=>fg.ite ?_ (fg.ret _)) ();refine NE.k (NE.ll (aq.dm _) λ_=>NE.ll (aq.lines.aJ _) λ_=>NE.oQ a aF λ_=>fg.ret _)
theorem ajn{a:ak Unit}(aF:aq a):ik (λ(_:Unit)=>ae (bN []) λt=>if t= .op [38,38]\/t= .op [124,124] then ae (bV 2) λ_=>ae (cR.aJ [120]) λ_=>ae a λ_=>aY (.inl ()) else aY (.inr ()):Unit->ak (Unit⊕Unit)):=by
 have hk:aq (ae (cR.aJ [120]) λ_=>ae a λ_=>aY (.inl ()):ak (Unit⊕Unit)):=(aq.lines.aJ _).ae λ_=>aF.ae λ_=>aq.ret _;refine ik.of (λ_=>(aq.dN _).ae λt=>aq.ite ((aq.dm _).ae λ_=>hk) (aq.ret _)) (λ_=>fR.dN (λt b=>fR.ite (fR.Cv (mK.dm 1) λ_=>hk) (fR.inr _)) ?_) (λ_=>iY.dN ?_)
 ·simp[or_self,cr,iY.inr]
 simp[or_self,cr,iY.inr]
theorem NE.pH{a:ak Unit}(b:aq a)(aF:NE a):NE (hi a):=by refine NE.oQ b aF λ_=>fg.rep (ajn b) (λ_=>fg.ae (aq.dN _) (fg.dN _) λt=>fg.ite ?_ (fg.ret _)) ();refine NE.k (NE.ll (aq.dm _) λ_=>NE.ll (aq.lines.aJ _) λ_=>NE.oQ b aF λ_=>fg.ret _)
theorem ajo(fr:Bool):∀n,LY (aS fr n)
 |0=>⟨λt=>NE.cp (lo:=none) (λl h=>by cases h) t,fg.mL (Cz (lo:=none) λl h=>by cases h)⟩
 |n+1=>⟨λt=>NE.cp (lo:=some (aS fr n)) (λl h=>by grind[qX]) t,fg.mL (Cz (lo:=some (aS fr n)) λl h=>by grind[qX])⟩
def jB(fr:Bool):Nat->ak Unit
 |0=>hi (ff (fl fr none (dw none)))
 |n+1=>hi (ff (fl fr (some (aS fr n)) (dw (some (aS fr n)))))
theorem uM(fr:Bool)(n:Nat):(aS fr n).ls=om (jB fr n):=by cases n<;>rfl
theorem XK(fr:Bool):∀n,aq (jB fr n)/\NE (jB fr n)
 |0=>by
  have ad:∀l∈(none:Option dT),uJ l:=λl h=>by cases h
  have b:∀l∈(none:Option dT),LY l:=λl h=>by cases h
  have a:=aq.command (fr:=fr) ad (Cz ad);exact⟨aq.pH (aq.pipe a),NE.pH (aq.pipe a) (NE.pipe a (NE.command ad b (Cz ad)))⟩
 |n+1=>by
  have ad:∀l∈some (aS fr n),uJ l:=λl h=>by grind[qX]
  have b:∀l∈some (aS fr n),LY l:=λl h=>by grind[ajo]
  have a:=aq.command (fr:=fr) ad (Cz ad);exact⟨aq.pH (aq.pipe a),NE.pH (aq.pipe a) (NE.pipe a (NE.command ad b (Cz ad)))⟩
def cP{σ α:Type}(f:σ->ak (σ⊕α))(r:aa)(x:dD (σ⊕α)):dD α:=match x with
 | .ok (.inl s') r' b=>if r'.length<r.length then b7 f s' r' b else .bad r'
 | .ok (.inr a) r' b=> .ok a r' b
 | .more op nd ds=> .more op nd ds
 | .bad r=> .bad r
 | .deep r=> .deep r
theorem cq{σ α:Type}(f:σ->ak (σ⊕α))(s:σ)(r:aa)(pd:ao):b7 f s r pd=cP f r (f s r pd):=by grind[ql,cP]
theorem db{α β:Type}{m:ak α}{k:α->ak β}{r:aa}{pd:ao}{op:bl}{nd:aa}{ds:ao}(h:m r pd= .more op nd ds):ae m k r pd= .more op nd ds:=by grind[ae]
theorem gZ{α β:Type}{m:ak α}{k:α->ak β}{r:aa}{pd:ao}{q:aa}(h:m r pd= .bad q):ae m k r pd= .bad q:=by grind[ae]
theorem iB{x r:aa}{pd:ao}(h:bq r=none):bN x r pd=b3 x r pd:=by grind[bN]
theorem cb{x r r':aa}{pd:ao}(h:bq r=some r'):bN x r pd= .ok (ar r') r' pd:=by grind[bN]
def gu(some:Bool):ak (Bool⊕Bool):=ae (bN []) λt=>if t= .line then ae iW λ_=>aY (.inl true) else aY (.inr some)
theorem qq:cR=b7 gu false:=rfl
theorem ts{b:Bool}{r t:aa}{pd:ao}(h:bq r=some (10::t)):gu b r pd=ae iW (λ_=>aY (.inl true)) (10::t) pd:=by
 have:bN [] r pd= .ok .line (10::t) pd:=by unfold bN;rw[h];rfl
 unfold gu;rw[aM this,bh rfl]
theorem pJ{b:Bool}{r r1:aa}{pd:ao}(h:bq r=some r1)(a:ar r1≠ .line):gu b r pd= .ok (.inr b) r1 pd:=by
 have:bN [] r pd= .ok (ar r1) r1 pd:=by grind[bN]
 unfold gu;rw[aM this,aP a];rfl
theorem XL:∀(n:Nat)(b:Bool)(u:aa)(pd:ao)(d:Bool)(e:ao),u.length<=n->c_ u->u≠[]->b7 gu b u pd= .ok d [] e->
  e=[]/\d=true/\∀v,b7 gu b (u++v) pd=b7 gu true v []:=by
 intro n;induction n with
 |zero=>grind
 |succ n k=>
  intro b u pd d e aw hu bc h;rw[ql] at h;cases c:bq u with
  |none=>
   have:gu b u pd= .more [] (cQ [] pd []).1 (cQ [] pd []).2:=by exact db (iB c)
   grind
  |some r1=>
   have s1:=dU c;by_cases g:ar r1= .line
   ·obtain⟨t,rfl⟩:=vT g;rw[ts c] at h;have nt:c_ t:=(hu.sfx s1).tail;cases f:l6 pd t with
    |inr nd=>grind[ae,iW,aY,tp]
    |inl a=>
     have l:ae iW (λ_=>aY (.inl true)) (10::t) pd=(.ok (.inl true) a []:dD (Bool⊕Bool)):=by unfold ae;rw[tp,f];rfl
     rw[l] at h;have s2:=(vO pd t [] a f).1;have m:=s1.length_le;have o:=s2.length_le;simp only[mv] at m;simp only[show a.length<u.length by omega,cH] at h
     have step:∀v,b7 gu b (u++v) pd=b7 gu true (a++v) []:=by
      intro v;rw[ql];have i:=(tn v c hu bc).2;simp only[hF] at i;rw[ts i];have p:ae iW (λ_=>aY (.inl true)) (10::(t++v)) pd=(.ok (.inl true) (a++v) []:dD (Bool⊕Bool)):=by unfold ae;rw[tp,(vO pd t v a f).2 nt];rfl
      grind
     by_cases j:a=[]
     ·subst j;have:b7 gu true [] []=(.ok true [] []:dD Bool):=by rw[ql,pJ (r1:=[]) lX (by decide)]
      grind
     ·obtain⟨q,r,s⟩:=k true a [] d e (by omega) (nt.sfx s2) j h;grind
   ·rw[pJ c g] at h;cases h;exact absurd rfl (tn [] c hu bc).1
theorem ajp{fr:Bool}{lo:Option dT}{D:ak Unit}{c:Ctx}{r:aa}{pd:ao}(e:bq r=some r)(he:dE c (ar r)=true)(aw:ar r≠ .eof):fl fr lo D r pd= .bad r:=by
 have aB:bN [120] r pd= .ok (ar r) r pd:=by grind[bN]
 unfold fl;rw[aM aB,aP aw]
 have a:(∃w,ar r= .word w true/\rF w=true/\qg w=false)\/∃o,ar r= .op o/\eZ o=false/\o≠[40]:=by
  cases c<;>simp[dE,cB] at he
  ·grind
  ·exact .inr ⟨_,he,by decide,by decide⟩
  ·exact .inl ⟨_,he,by decide,by decide⟩
  ·exact .inl ⟨_,he,by decide,by decide⟩
  ·rcases he with(he|he)|he<;>exact .inl ⟨_,he,by decide,by decide⟩
  ·exact .inl ⟨_,he,by decide,by decide⟩
  ·exact .inl ⟨_,he,by decide,by decide⟩
  ·exact .inl ⟨_,he,by decide,by decide⟩
  ·rcases he with he|he
   ·exact .inr ⟨_,he,by decide,by decide⟩
   ·exact .inl ⟨_,he,by decide,by decide⟩
 rcases a with⟨w,ad,b,d⟩|⟨o,ad,b,d⟩
 ·simp_all[gX,bK]
 simp_all[gX,bK]
theorem kG:∀(n:Nat)(r r':aa),r.length<=n->bq r=some r'->bq r'=some r':=by
 intro n;induction n with
 |zero=>grind[List.length_eq_zero_iff,lX]
 |succ n a=>
  intro r r' aw h;cases r with
  |nil=>grind
  |cons b t=>grind[List.length_cons,nC,Aq]
theorem ajq{c:Ctx}{t:Tok}(he:dE c t=true):cB t [33]=false:=by
 cases t with
 |word w p=>
  cases h:cB (.word w p) [33] with
  |false=>rfl
  |true=>
   have:w=[33]/\p=true:=by grind[cB]
   obtain⟨rfl,rfl⟩:=this;cases c<;>simp[dE,cB,ih,ij,h2,fa,gO,iN,ew] at he
 |_=>rfl
theorem ajr{fr:Bool}{m:Nat}{c:Ctx}{r:aa}{pd:ao}(b:bq r=some r)(he:dE c (ar r)=true)(aw:ar r≠ .eof):jB fr m r pd= .bad r:=by
 have aB:bN [120] r pd= .ok (ar r) r pd:=by grind[bN]
 have a:∀(lo:Option dT)(D:ak Unit),hi (ff (fl fr lo D)) r pd= .bad r:=by
  intro lo D;have ad:=ajp (fr:=fr) (lo:=lo) (D:=D) (pd:=pd) b he aw;have d:ff (fl fr lo D) r pd= .bad r:=by unfold ff;rw[aM aB,ajq he];simp only[eB,cr];rw[aM (show aY () r pd= .ok () r pd from rfl)];unfold ae;rw[ad]
  simp_all[hi,ae]
 cases m<;>exact a _ _
theorem CA{cV:ak Unit}{c:Ctx}{none:Bool}{n:Nat}{pd:ao}:eK cV c none n [] pd=if c= .text then .ok (.inr n) [] pd else b3 (if none||n>0 then [] else [120]) [] pd:=by unfold eK;rw[aM (cb lX)];rw[show ar []= .eof from rfl,bh rfl];split<;>rfl
theorem It{cV:ak Unit}{c:Ctx}{none:Bool}{n:Nat}{r r1:aa}{pd:ao}(a:bq r=some r1)(aw:ar r1≠ .eof)(he:dE c (ar r1)=false):eK cV c none n r pd=ae cV (λ_=>ae (bN []) (il c n)) r1 pd:=by unfold eK;rw[aM (cb a),aP aw,he];simp
theorem XM{cV:ak Unit}{c:Ctx}{none:Bool}{n:Nat}{r r1:aa}{pd:ao}(a:bq r=some r1)(aw:ar r1≠ .eof)(he:dE c (ar r1)=true)(b:(none||n>0)=true):eK cV c none n r pd= .ok (.inr n) r1 pd:=by unfold eK;rw[aM (cb a),aP aw,he,b];rfl
theorem XN(fr:Bool)(m:Nat)(c:Ctx)(r:Bool):∀(N n:Nat)(u:aa)(pd:ao)(k:Nat)(l:ao),u.length<=N->c_ u->u≠[]->b7 (eK (jB fr m) .text true) n u pd= .ok k [] l->
  l=[]/\n<k/\∀v,b7 (eK (jB fr m) c r) n (u++v) pd=ae (b7 gu true) (λ_=>b7 (eK (jB fr m) c r) k) v []:=by
 obtain⟨C,bc⟩:=XK fr m;intro N;induction N with
 |zero=>grind
 |succ N T=>
  intro n u pd k l aw hu L h;rw[cq] at h;cases s:bq u with
  |none=>
   have:eK (jB fr m) .text true n u pd= .more [] (cQ [] pd []).1 (cQ [] pd []).2:=by unfold eK;exact db (iB s)
   rw[this] at h;cases h
  |some r1=>
   have s1:=dU s;have A:=hu.sfx s1;obtain⟨M,_⟩:=tn [] s hu L;have U:ar r1≠ .eof:=λe=>M (lH.1 e);have j2:=kG _ _ _ (cX _) s;have D:dE .text (ar r1)=false:=by grind[dE,beq_false_of_ne]
   rw[It s U D] at h;cases i:jB fr m r1 pd with
   |more op nd ds=>rw[db i] at h;cases h
   |bad q=>rw[gZ i] at h;cases h
   |deep q=>unfold ae at h;rw[i] at h;cases h
   |ok x V j=>
    rw[aM i] at h;have E:=bc A i;have F:=A.sfx (C.sfx i);have W:dE c (ar r1)=false:=by grind[dE,ar,ajr]
    have j8:=s1.length_le;have jG:=(C.sfx i).length_le;cases t:bq V with
    |none=>rw[db (iB t)] at h;cases h
    |some d=>
     rw[aM (cb t)] at h;have B:=F.sfx (dU t);have E6:=(dU t).length_le;obtain⟨O,_⟩:=tn [] t F E
     have P:∀v,eK (jB fr m) c r n (u++v) pd=il c n (ar d) (d++v) j:=by intro v;have aZ:=EY v A M;rw[It (tn v s hu L).2 (by grind) (by grind),aM (C.ok v A i E),aM (cb (tn v t F E).2),EY v B O]
     have a:∀(g:aa)(z:Nat),c_ g->g≠[]->g.length<=d.length->(∀v,eK (jB fr m) c r n (u++v) pd=ae cR (λ_=>aY (.inl z)) (g++v) j)->cP (eK (jB fr m) .text true) u (ae cR (λ_=>aY (.inl z)) g j)= .ok k [] l->n<z->
       l=[]/\n<k/\∀v,b7 (eK (jB fr m) c r) n (u++v) pd=ae (b7 gu true) (λ_=>b7 (eK (jB fr m) c r) k) v []:=by
      intro g z G X Y Q h H;cases hl:cR g j with
      |more op nd ds=>rw[db hl] at h;cases h
      |bad q=>rw[gZ hl] at h;cases h
      |deep q=>unfold ae at h;rw[hl] at h;cases h
      |ok b R Z=>
       rw[aM hl] at h;unfold cP at h;simp only[aY] at h;split at h
       ·rename_i eO;by_cases I:R=[]
        ·subst I;rw[ql,CA] at h;simp only[if_true] at h;cases h;obtain⟨kB,p7,wH⟩:=XL _ false g j b l (Nat.le_refl _) G X (by simp_all[qq]);refine⟨kB,H,λv=>?_⟩;rw[cq,Q v];unfold cP;have J:cR (g++v) j=b7 gu true v []:=by simp_all[qq]
         unfold ae;rw[J];cases ay:b7 gu true v [] with
         |ok e8 v2 uK=>
          simp only[aY];have:v2.length<=v.length:=by have:=aq.rep (f:=gu) ik.lines true;exact(this.sfx ay).length_le
          grind
         |_=>rfl
        ·obtain⟨i1,i2,i3⟩:=T z R Z k l (by omega) (G.sfx (aq.lines.sfx hl)) I h;refine⟨i1,by omega,λv=>?_⟩;rw[cq,Q v,aM (aq.lines.ok v G hl I)];simp_all[cP,aY,bh]
       grind
     cases y:ar d with
     |eof=>grind[absurd,lH]
     |line=>rw[y] at h;unfold il at h;refine a d (n+1) B O (cX _) (λv=>by rw[P v,y];rfl) h (xN _)
     |word w p=>rw[y] at h;cases h
     |op o=>
      rw[y] at h;unfold il at h;simp only at h;by_cases S:o=[59]\/o=[38]
      ·rw[bh S] at h;have K:o.length=1:=by grind
       have aG:d.drop 1≠[]:=ajk y K.symm B;refine a (d.drop 1) (n+1) (B.sfx (lK _ _)) aG (by simp) (λv=>?_) h (xN _);rw[P v,y];unfold il;simp only;rw[bh S,aM (show bV 1 (d++v) j= .ok () (d.drop 1++v) j from by grind[bV,Xs])]
      simp_all[aP,dE,bK,cP]
def Au{α:Type}(x y:dD α):Prop:=(∃q,x= .deep q)\/y=x\/∃op a nd ds,x= .more op nd ds/\y= .more a nd ds
def aN{α:Type}(f g:ak α):Prop:=∀r pd,Au (f r pd) (g r pd)
theorem aN.refl{α:Type}(f:ak α):aN f f:=λ_ _=> .inr (.inl rfl)
theorem aN.deep{α:Type}(g:ak α):aN uH g:=λr _=> .inl ⟨r,rfl⟩
theorem aN.ae{α β:Type}{m b:ak α}{k k':α->ak β}(hm:aN m b)(hk:∀a,aN (k a) (k' a)):aN (Go.Eng.ae m k) (Go.Eng.ae b k'):=by
 intro r pd;rcases hm r pd with⟨q,h⟩|h|⟨op,c,nd,ds,ad,d⟩
 ·left;simp_all[Go.Eng.ae]
 ·unfold Go.Eng.ae;rw[h];cases m r pd with
  |ok a r1 aD=>exact hk a r1 aD
  |more op nd ds=>exact .inr (.inl rfl)
  |bad q=>exact .inr (.inl rfl)
  |deep q=>exact .inl ⟨q,rfl⟩
 ·right;grind[Go.Eng.ae]
theorem aN.aJ{α:Type}{m a:ak α}(hm:aN m a)(x:aa):aN (m.aJ x) (a.aJ x):=by
 intro r pd;unfold ak.aJ;rcases hm r pd with⟨q,h⟩|h|⟨op,c,nd,ds,ad,b⟩
 ·left;grind
 ·rw[h];exact .inr (.inl rfl)
 ·rw[ad,b];exact .inr (.inr ⟨_,_,_,_,rfl,rfl⟩)
theorem aN.XP{α:Type}{m a:ak α}(hm:aN m a)(x:aa):aN (m.named x) a:=by
 intro r pd;unfold ak.named;rcases hm r pd with⟨q,h⟩|h|⟨op,c,nd,ds,ad,b⟩
 ·left;grind
 ·rw[h];cases m r pd with
  |more op nd ds=>exact .inr (.inr ⟨_,_,_,_,rfl,rfl⟩)
  |_=>exact .inr (.inl rfl)
 ·rw[ad,b];exact .inr (.inr ⟨_,_,_,_,rfl,rfl⟩)
theorem aN.ajw{α:Type}{m a:ak α}(hm:aN m a)(x:aa):aN m (a.named x):=by
 intro r pd;unfold ak.named;rcases hm r pd with⟨q,h⟩|h|⟨op,c,nd,ds,ad,b⟩
 ·left;grind
 ·rw[h];cases m r pd with
  |more op nd ds=>exact .inr (.inr ⟨_,_,_,_,rfl,rfl⟩)
  |_=>exact .inr (.inl rfl)
 ·rw[ad,b];exact .inr (.inr ⟨_,_,_,_,rfl,rfl⟩)
theorem aN.named{α:Type}{m a:ak α}(hm:aN m a)(x y:aa):aN (m.named x) (a.named y):=(hm.XP x).ajw y
theorem aN.ite{α:Type}{c:Prop}[Decidable c]{f g a b:ak α}(hf:aN f a)(bs:aN g b):aN (if c then f else g) (if c then a else b):=by grind
theorem aN.rep{σ α:Type}{f c:σ->ak (σ⊕α)}(h:∀s,aN (f s) (c s))(s:σ):aN (b7 f s) (b7 c s):=by
 have b:∀(n:Nat)(s:σ)(r:aa)(pd:ao),r.length<=n->Au (b7 f s r pd) (b7 c s r pd):=by
  intro n;induction n with
  |zero=>
   intro s r pd aw;rw[cq,cq];have j:r=[]:=n7.1 (by omega);rcases h s r pd with⟨q,e⟩|e|⟨op,i,nd,ds,d,g⟩
   ·left;exact⟨q,by rw[e];rfl⟩
   ·rw[e];cases f s r pd with
    |ok x r1 aD=>
     cases x with
     |inl s'=>right;simp_all[cP,aP]
     |inr a=>exact .inr (.inl rfl)
    |deep q=>exact .inl ⟨q,rfl⟩
    |_=>exact .inr (.inl rfl)
   ·rw[d,g];exact .inr (.inr ⟨_,_,_,_,rfl,rfl⟩)
  |succ n k=>
   intro s r pd aw;rw[cq,cq];rcases h s r pd with⟨q,e⟩|e|⟨op,i,nd,ds,d,g⟩
   ·left;exact⟨q,by rw[e];rfl⟩
   ·rw[e];cases f s r pd with
    |ok x r1 aD=>
     cases x with
     |inl s'=>
      unfold cP;simp only;by_cases hl:r1.length<r.length
      ·grind
      ·rw[aP hl,aP hl];exact .inr (.inl rfl)
     |inr a=>exact .inr (.inl rfl)
    |deep q=>exact .inl ⟨q,rfl⟩
    |_=>exact .inr (.inl rfl)
   ·rw[d,g];exact .inr (.inr ⟨_,_,_,_,rfl,rfl⟩)
 exactλr pd=>b _ s r pd (cX _)
section
variable{D kr:ak Unit}(hD:aN D kr)
include hD
theorem aN.part{dq a:Option (ak Unit)}(c:match dq,a with|none,none=>True|some q,some d=>aN q d|_,_=>False):aN (cA D dq) (cA kr a):=by
 intro r pd;cases r with
 |nil=>exact .inr (.inl rfl)
 |cons b t=>
  unfold cA;simp only;split
  ·exact .inr (.inl rfl)
  ·split
   ·exact .inr (.inl rfl)
   ·split
    ·exact hD _ _
    ·match dq,a,c with
     |none,none,_=>exact .inr (.inl rfl)
     |some q,some d,c=>
      simp only;split
      ·exact .inr (.inl rfl)
      ·split
       ·exact c _ _
       ·exact .inr (.inl rfl)
omit hD in
theorem aN.xb(c:UInt8){p a:ak Unit}(aB:aN p a):aN (iX c p) (iX c a):=by
 refine aN.rep (λ_ r pd=>?_) ();cases r with
 |nil=>exact .inr (.inl rfl)
 |cons b t=>
  simp only;split
  ·exact .inr (.inl rfl)
  ·exact aN.ae aB (λ_=>aN.refl _) _ _
theorem aN.double:aN (eF D) (eF kr):=((aN.xb 34 (aN.part hD trivial)).aJ _).named _ _
theorem aN.yJ:aN (cA D (some (eF D))) (cA kr (some (eF kr))):=aN.part hD (aN.double hD)
theorem aN.param:aN (qV D) (qV kr):=(aN.xb 125 (aN.yJ hD)).aJ _
theorem aN.word:aN (cI D) (cI kr):=by
 refine aN.rep (λ_ r pd=>?_) ();cases r with
 |nil=>exact .inr (.inl rfl)
 |cons b t=>
  simp only;split
  ·exact .inr (.inl rfl)
  ·exact aN.ae (aN.yJ hD) (λ_=>aN.refl _) _ _
theorem aN.E2(x:aa):aN (jM D x) (jM kr x):=by refine aN.ae (aN.refl _) λt=>?_;grind[aN.word,aN.refl]
theorem aN.ji:aN (dv D) (dv kr):=by
 refine aN.ae (aN.refl _) λo=>?_;cases o with
 |none=>simp[aN.refl]
 |some o=>exact aN.ae (aN.ite (aN.refl _) (aN.ite (aN.refl _) (aN.E2 hD _))) λ_=>aN.refl _
theorem aN.mL:aN (gI D) (gI kr):=aN.rep (λ_=>aN.ae (aN.ji hD) λ_=>aN.refl _) ()
theorem aN.words:aN (pF D) (pF kr):=by refine aN.rep (λ_=>aN.ae (aN.refl _) λt=>?_) ();grind[aN.word,aN.ae,aN.refl]
theorem aN.xc:aN (kq D) (kq kr):=by refine aN.rep (λ_=>aN.ae (aN.refl _) λt=>?_) ();grind[aN.word,aN.ae,aN.aJ,aN.refl]
end
structure yK(l fV:dT):Prop where
 ls:∀c n,aN (l.ls c n) (fV.ls c n)
 pm:aN l.pm fV.pm
 cp:∀t,aN (l.cp t) (fV.cp t)
 rd:aN l.rd fV.rd
 dl:aN l.dl fV.dl
 has:l.has=true->fV.has=true
section
variable{l fV:dT}(h:yK l fV)
include h
theorem aN.body(x:aa):aN (iO l x) (iO fV x):=aN.ae (aN.refl _) λ_=>aN.ae ((h.ls _ _).aJ _) λ_=>aN.refl _
theorem aN.cond:aN (qj l) (qj fV):=aN.rep (λ_=>aN.ae ((h.ls _ _).aJ _) λ_=>aN.ae (aN.refl _) λ_=>aN.ae ((h.ls _ _).aJ _) λ_=>aN.ae (aN.refl _) λt=>aN.ite (aN.refl _) (aN.ite (aN.ae (aN.refl _) λ_=>aN.ae ((h.ls _ _).aJ _) λ_=>aN.refl _) (aN.refl _))) ()
theorem aN.for_{D kr:ak Unit}(hD:aN D kr):aN (pG l D) (pG fV kr):=by
 refine aN.ae (aN.refl _) λt=>?_;cases t with
 |word w p=>
  cases p with
  |true=>exact aN.ite (aN.ae (aN.refl _) λ_=>aN.ae (aN.aJ (aN.ae (aN.refl _) λt=>aN.ite (aN.refl _) (aN.ae (aN.refl _) λ_=>aN.ae (aN.refl _) λt=>aN.ite (aN.ae (aN.refl _) λ_=>aN.ae (aN.words hD) λ_=>aN.refl _) (aN.refl _))) _) λ_=>aN.body h _) (aN.refl _)
  |false=>simp[aN.refl]
 |_=>simp[aN.refl]
theorem aN.items{D kr:ak Unit}(hD:aN D kr):aN (nc l D) (nc fV kr):=
 aN.rep (λ_=>aN.ae (aN.refl _) λ_=>aN.ae (aN.refl _) λt=>aN.ite (aN.refl _) (aN.ite (aN.refl _) (aN.ae (aN.refl _) λ_=>aN.ae (aN.xc hD) λ_=>aN.ae (h.ls _ _) λ_=>aN.refl _))) ()
theorem aN.xd{D kr:ak Unit}(hD:aN D kr):aN (qk l D) (qk fV kr):=by
 refine aN.ae (aN.refl _) λt=>?_;cases t with
 |word w p=>exact aN.ae (aN.aJ (aN.ae (aN.word hD) λ_=>aN.refl _) _) λt=>aN.ite (aN.ae (aN.refl _) λ_=>(aN.items h hD).aJ _) (aN.refl _)
 |_=>simp[aN.refl]
theorem aN.kind(t:Tok):aN (gY l t) (gY fV t):=by
 cases t with
 |op o=>show aN (Go.Eng.ae (bV 1) λ_=>Go.Eng.ae ((l.ls .paren false).aJ [41]) λ_=>jA [41]) (Go.Eng.ae (bV 1) λ_=>Go.Eng.ae ((fV.ls .paren false).aJ [41]) λ_=>jA [41]);exact aN.ae (aN.refl _) λ_=>aN.ae ((h.ls _ _).aJ _) λ_=>aN.refl _
 |word w p=>unfold gY;exact aN.ae (aN.refl _) λ_=>aN.ite (aN.ae ((h.ls _ _).aJ _) λ_=>aN.refl _) (aN.ite (aN.cond h) (aN.ite (aN.for_ h h.dl) (aN.ite (aN.xd h h.dl) (aN.ae ((h.ls _ _).aJ _) λ_=>aN.body h _))))
 |_=>exact aN.refl _
end
def E8(lo a:Option dT):Prop:=∀l,lo=some l->∃fV,a=some fV/\yK l fV
theorem aN.su{lo b:Option dT}(h:E8 lo b){n:Nat}{f a:dT->ak Unit}(hf:∀l fV,yK l fV->aN (f l) (a fV)):aN (su lo n f) (su b n a):=by
 cases lo with
 |none=>exact aN.deep _
 |some l=>obtain⟨fV,rfl,hl⟩:=h l rfl;show aN (Go.Eng.ae (bV n) λ_=>f l) (Go.Eng.ae (bV n) λ_=>a fV);grind[aN.ae,aN.refl]
theorem aN.uL{lo a:Option dT}(h:E8 lo a):aN (dw lo) (dw a):=by
 intro r pd;unfold dw;split
 ·exact .inr (.inl rfl)
 ·split
  ·exact aN.su h (λl fV hl=>aN.ae (((hl.ls _ _).aJ _).named _ _) λ_=>aN.refl _) r pd
  ·split
   ·exact aN.su h (λl fV hl=>hl.pm.named _ _) r pd
   ·exact .inr (.inl rfl)
theorem aN.cp{lo a:Option dT}(h:E8 lo a)(t:Tok):aN (sw lo t) (sw a t):=by
 cases lo with
 |none=>exact aN.deep _
 |some l=>obtain⟨fV,rfl,hl⟩:=h l rfl;exact(aN.kind hl t).named _ _
def XQ{α:Type}(x y:dD α):Prop:=Au x y\/∃t a pd,x= .bad (40::t)/\y= .ok a (40::t) pd
def fh{α:Type}(f g:ak α):Prop:=∀r pd,XQ (f r pd) (g r pd)
theorem aN.b{α:Type}{f g:ak α}(h:aN f g):fh f g:=λr pd=> .inl (h r pd)
theorem fh.ite{α:Type}{c:Prop}[Decidable c]{f g a b:ak α}(hf:fh f a)(bs:fh g b):fh (if c then f else g) (if c then a else b):=by grind
theorem fh.oQ{α β:Type}{m b:ak α}{k k':α->ak β}(hm:aN m b)(hk:∀a,fh (k a) (k' a)):fh (ae m k) (ae b k'):=by
 intro r pd;rcases hm r pd with⟨q,h⟩|h|⟨op,c,nd,ds,ad,d⟩
 ·left;left;simp_all[ae]
 ·unfold ae;rw[h];cases m r pd with
  |ok a r1 aD=>exact hk a r1 aD
  |more op nd ds=>exact .inl (.inr (.inl rfl))
  |bad q=>exact .inl (.inr (.inl rfl))
  |deep q=>exact .inl (.inl ⟨q,rfl⟩)
 ·left;right;grind[ae]
theorem fh.ll{α β:Type}{m c:ak α}{k k':α->ak β}(hm:fh m c)(hk:∀a,fh (k a) (k' a))(e:∀a t pd,∃b d,k' a (40::t) pd= .ok b (40::t) d):fh (ae m k) (ae c k'):=by
 intro r pd;rcases hm r pd with(⟨q,h⟩|h|⟨op,g,nd,ds,ad,f⟩)|⟨t,a,aD,ad,f⟩
 ·left;left;simp_all[ae]
 ·unfold ae;rw[h];cases m r pd with
  |ok a r1 aD=>exact hk a r1 aD
  |more op nd ds=>exact .inl (.inr (.inl rfl))
  |bad q=>exact .inl (.inr (.inl rfl))
  |deep q=>exact .inl (.inl ⟨q,rfl⟩)
 ·left;right;grind[ae]
 ·right;obtain⟨b,d,i⟩:=e a t aD;grind[gZ,aM]
theorem fh.rep{σ α:Type}{f g:σ->ak (σ⊕α)}(h:∀s,fh (f s) (g s))(j:∀s t pd,∃a i,g s (40::t) pd= .ok (.inr a) (40::t) i)(s:σ):fh (b7 f s) (b7 g s):=by
 have d:∀(n:Nat)(s:σ)(r:aa)(pd:ao),r.length<=n->XQ (b7 f s r pd) (b7 g s r pd):=by
  intro n;induction n with
  |zero=>
   intro s r pd aw;rw[cq,cq];have m:r=[]:=n7.1 (by omega);rcases h s r pd with(⟨q,e⟩|e|⟨op,k,nd,ds,b,c⟩)|⟨t,a,aD,b,c⟩
   ·left;left;exact⟨q,by rw[e];rfl⟩
   ·rw[e];cases f s r pd with
    |ok x r1 aD=>
     cases x with
     |inl s'=>left;right;simp_all[cP,aP]
     |inr a=>exact .inl (.inr (.inl rfl))
    |deep q=>exact .inl (.inl ⟨q,rfl⟩)
    |_=>exact .inl (.inr (.inl rfl))
   ·rw[b,c];exact .inl (.inr (.inr ⟨_,_,_,_,rfl,rfl⟩))
   ·rw[b,c];cases a with
    |inr a=>exact .inr ⟨t,a,aD,rfl,rfl⟩
    |inl s'=>left;right;simp_all[cP,aP]
  |succ n o=>
   intro s r pd aw;rw[cq,cq];rcases h s r pd with(⟨q,e⟩|e|⟨op,k,nd,ds,b,c⟩)|⟨t,a,aD,b,c⟩
   ·left;left;exact⟨q,by rw[e];rfl⟩
   ·rw[e];cases f s r pd with
    |ok x r1 aD=>
     cases x with
     |inl s'=>
      unfold cP;simp only;by_cases hl:r1.length<r.length
      ·grind
      ·rw[aP hl,aP hl];exact .inl (.inr (.inl rfl))
     |inr a=>exact .inl (.inr (.inl rfl))
    |deep q=>exact .inl (.inl ⟨q,rfl⟩)
    |_=>exact .inl (.inr (.inl rfl))
   ·rw[b,c];exact .inl (.inr (.inr ⟨_,_,_,_,rfl,rfl⟩))
   ·rw[b,c];cases a with
    |inr a=>exact .inr ⟨t,a,aD,rfl,rfl⟩
    |inl s'=>
     unfold cP;simp only;by_cases hl:(40::t).length<r.length
     ·rw[bh hl];right;obtain⟨a,i,l⟩:=j s' t aD;exact⟨t,a,i,rfl,by rw[cq,l];rfl⟩
     ·rw[aP hl];exact .inl (.inr (.inl rfl))
 exactλr pd=>d _ s r pd (cX _)
theorem RD(t:aa):bq (40::t)=some (40::t):=by simp[nC,gb]
theorem Iv(t:aa):ar (40::t)= .op [40]:=by rfl
theorem ajx{D:ak Unit}(t:aa)(pd:ao):dv D (40::t) pd= .ok false (40::t) pd:=by
 have:fN (40::t) pd= .ok none (40::t) pd:=by unfold fN;rw[RD];rfl
 unfold dv;rw[aM this];rfl
theorem Iw{x:aa}(t:aa)(pd:ao):bN x (40::t) pd= .ok (.op [40]) (40::t) pd:=by simp[cb,RD,Iv]
theorem XR(m:ak Unit):ae m (λ_=>aY ())=m:=by
 funext r pd
 unfold ae;cases m r pd<;>rfl
theorem ks{α β b:Type}(m:ak α)(k:α->ak β)(R:β->ak b):ae (ae m k) R=ae m (λa=>ae (k a) R):=by grind[ae]
theorem yL{α β:Type}{c:Prop}[Decidable c](f g:ak α)(R:α->ak β):ae (if c then f else g) R=if c then ae f R else ae g R:=by grind
theorem XS{α β:Type}(x:aa)(R:α->ak β):ae (b3 x) R=b3 x:=rfl
theorem XT{α β:Type}(R:α->ak β):ae bK R=bK:=rfl
theorem aN.ajy{α β:Type}{x:ak β}{g:ak α}{R:α->ak β}(h:aN x (Go.Eng.ae g R))(nm:aa):aN x (Go.Eng.ae (g.named nm) R):=by
 intro r pd
 have e:Go.Eng.ae (g.named nm) R r pd=Go.Eng.ae g R r pd\/∃op a nd ds,Go.Eng.ae g R r pd= .more op nd ds/\Go.Eng.ae (g.named nm) R r pd= .more a nd ds:=by unfold Go.Eng.ae ak.named;grind
 rcases e with e|⟨op,a,nd,ds,c,d⟩
 ·rw[e];exact h r pd
 ·rcases h r pd with⟨q,h⟩|h|⟨f,i,j,k,ad,b⟩
  ·exact .inl ⟨q,h⟩
  ·right;grind
  ·rw[c] at b;cases b;exact .inr (.inr ⟨_,_,_,_,ad,d⟩)
section
variable{fr nX:Bool}(hf:fr=nX\/fr=true/\nX=false)
include hf
theorem fh.simple{D kr:ak Unit}(hD:aN D kr):fh (hg fr D) (hg nX kr):=by
 rcases hf with rfl|⟨rfl,rfl⟩
 ·refine aN.b (aN.rep (λ_=>aN.ae (aN.ji hD) λb=>aN.ite (aN.refl _) (aN.ae (aN.refl _) λt=>?_)) ());grind[aN.ae,aN.word,aN.refl]
 ·refine fh.rep (λ_=>fh.oQ (aN.ji hD) λb=>fh.ite (aN.b (aN.refl _)) (λr pd=>?_)) (λ_ t pd=>?_) ()
  ·cases a:bq r with
   |none=>rw[db (iB a),db (iB a)];exact .inl (.inr (.inl rfl))
   |some r1=>
    rw[aM (cb a),aM (cb a)];cases d:ar r1 with
    |word w p=>exact .inl (aN.ae (aN.word hD) (λ_=>aN.refl _) r1 pd)
    |op o=>
     simp only;by_cases c:o=[40]
     ·subst c;obtain⟨_,e,_,_⟩:=iq d;obtain⟨t,rfl⟩:=e;exact .inr ⟨t,_,_,rfl,rfl⟩
     ·simp[c];exact .inl (.inr (.inl rfl))
    |_=>exact .inl (.inr (.inl rfl))
  ·refine⟨(),pd,?_⟩;rw[aM (ajx t pd)];simp only[eB,cr];rw[aM (Iw t pd)];rfl
theorem aN.fn{lo b:Option dT}{kr:ak Unit}(h:E8 lo b)(d:fr=true->nX=false->∀l,lo=some l->aN l.rd (gI kr)){D:ak Unit}(hD:aN D kr):
  aN (Go.Eng.ae (lW fr lo) λ_=>if fr then aY () else gI D) (Go.Eng.ae (lW nX b) λ_=>if nX then aY () else gI kr):=by
 cases lo with
 |none=>intro r pd;exact .inl ⟨r,rfl⟩
 |some l=>
  obtain⟨fV,rfl,hl⟩:=h l rfl;by_cases a:l.has=true
  ·have c:=hl.has a;rcases hf with rfl|⟨rfl,rfl⟩
   ·refine aN.ae ?_ λ_=>aN.ite (aN.refl _) (aN.mL hD);unfold lW;simp only[a,c,cH];exact aN.named (aN.ae (aN.refl _) λ_=>aN.ae (aN.refl _) λt=>aN.ite (aN.refl _) (aN.ite (aN.ae (aN.refl _) λ_=>aN.ae (aN.refl _) λ_=>aN.ae (aN.refl _) λt=>aN.ite (aN.refl _) (aN.ite (aN.ae (hl.cp t) λ_=>aN.ite hl.rd (aN.refl _)) (aN.refl _))) (aN.refl _))) _ _
   ·have e:=d rfl rfl l rfl;simp only[cH,eB,cr];rw[XR];unfold lW;simp only[a,c,cH,eB,cr];refine aN.XP (aN.ajy ?_ _) _;rw[ks];refine aN.ae (aN.refl _) λ_=>?_;rw[ks];refine aN.ae (aN.refl _) λt=>?_;rw[yL,XS,yL,XT];refine aN.ite (aN.refl _) (aN.ite ?_ (aN.refl _));rw[ks];refine aN.ae (aN.refl _) λ_=>?_;rw[ks];refine aN.ae (aN.refl _) λ_=>?_;rw[ks];refine aN.ae (aN.refl _) λt=>?_;rw[yL,XS,yL,XT];refine aN.ite (aN.refl _) (aN.ite ?_ (aN.refl _));rw[XR];exact aN.ae (hl.cp t) λ_=>e
  ·intro r pd;left;refine⟨r,?_⟩;unfold lW;simp only[a,cr,eB];rfl
theorem fh.command{lo a:Option dT}{D kr:ak Unit}(h:E8 lo a)(hD:aN D kr)(c:fr=true->nX=false->∀l,lo=some l->aN l.rd (gI kr)):fh (fl fr lo D) (fl nX a kr):=by
 refine fh.oQ (aN.refl _) λt=>fh.ite (aN.b (aN.refl _)) (fh.ite (aN.b (aN.ae (aN.cp h t) λ_=>aN.mL hD)) ?_);cases t with
 |op o=>exact fh.ite (fh.oQ (aN.ji hD) λ_=>fh.simple hf hD) (aN.b (aN.refl _))
 |word w p=>refine fh.ite (aN.b (aN.refl _)) (fh.oQ (aN.ji hD) λb=>fh.ite (fh.simple hf hD) (fh.oQ (aN.word hD) λ_=>fh.ite (fh.oQ (aN.refl _) λt=>fh.ite (aN.b (aN.fn hf h c hD)) (fh.simple hf hD)) (fh.simple hf hD)))
 |_=>simp[aN.b,aN.refl]
omit hf in
theorem fh.pipe{c8 b:ak Unit}(h:fh c8 b):fh (ff c8) (ff b):=by
 have stop:∀(c8:ak Unit)(s:Unit)(t:aa)(pd:ao),∃a c,(Go.Eng.ae (bN []) λt=>if t= .op [124] then Go.Eng.ae (bV 1) λ_=>Go.Eng.ae (cR.aJ [120]) λ_=>Go.Eng.ae c8 λ_=>aY (.inl ()) else aY (.inr ()):ak (Unit⊕Unit)) (40::t) pd= .ok (.inr a) (40::t) c:=by intro c8 s t pd;refine⟨(),pd,?_⟩;rw[aM (Iw t pd)];rfl
 refine fh.oQ (aN.refl _) λt=>fh.oQ (aN.refl _) λ_=>fh.ll h (λ_=>fh.rep (λ_=>fh.oQ (aN.refl _) λt=>fh.ite (fh.oQ (aN.refl _) λ_=>fh.oQ (aN.refl _) λ_=>fh.ll h (λ_=>aN.b (aN.refl _)) λ_ t pd=>⟨_,_,rfl⟩) (aN.b (aN.refl _))) (stop b) ()) λ_ t pd=>?_;obtain⟨a,c,e⟩:=stop b () t pd;exact⟨a,c,by rw[cq,e];rfl⟩
omit hf in
theorem fh.pH{b c:ak Unit}(h:fh b c):fh (hi b) (hi c):=by
 have stop:∀(b:ak Unit)(s:Unit)(t:aa)(pd:ao),∃a d,(Go.Eng.ae (bN []) λt=>if t= .op [38,38]\/t= .op [124,124] then Go.Eng.ae (bV 2) λ_=>Go.Eng.ae (cR.aJ [120]) λ_=>Go.Eng.ae b λ_=>aY (.inl ()) else aY (.inr ()):ak (Unit⊕Unit)) (40::t) pd= .ok (.inr a) (40::t) d:=by intro b s t pd;refine⟨(),pd,?_⟩;rw[aM (Iw t pd)];rfl
 refine fh.ll h (λ_=>fh.rep (λ_=>fh.oQ (aN.refl _) λt=>fh.ite (fh.oQ (aN.refl _) λ_=>fh.oQ (aN.refl _) λ_=>fh.ll h (λ_=>aN.b (aN.refl _)) λ_ t pd=>⟨_,_,rfl⟩) (aN.b (aN.refl _))) (stop c) ()) λ_ t pd=>?_;obtain⟨a,d,e⟩:=stop c () t pd;exact⟨a,d,by rw[cq,e];rfl⟩
omit hf in
theorem aN.list{cV f:ak Unit}(h:fh cV f)(c:Ctx)(none:Bool):aN (om cV c none) (om f c none):=by
 rw[pI,pI];refine aN.ae (aN.refl _) λ_=>aN.rep (λn=>aN.ae (aN.refl _) λt=>aN.ite (aN.refl _) (aN.ite (aN.refl _) (λr pd=>?_))) 0;rcases h r pd with(⟨q,e⟩|e|⟨op,g,nd,ds,b,d⟩)|⟨t,a,aD,b,d⟩
 ·left;simp_all[Go.Eng.ae]
 ·unfold Go.Eng.ae;rw[e];cases cV r pd with
  |deep q=>exact .inl ⟨q,rfl⟩
  |_=>exact .inr (.inl rfl)
 ·exact .inr (.inr ⟨op,g,nd,ds,db b,db d⟩)
 ·right;left;rw[gZ b,aM d,aM (Iw t aD)];unfold il;cases c<;>simp[dE,cB,bK]
end
theorem yK.of{fr nX:Bool}(hf:fr=nX\/fr=true/\nX=false){lo a:Option dT}(h:E8 lo a)(e:fr=true->nX=false->∀l,lo=some l->aN l.rd (gI (dw a))){b d:Bool}(f:b=true->d=true):
  yK {ls:=om (hi (ff (fl fr lo (dw lo)))),pm:=qV (dw lo),cp:=sw lo,rd:=gI (dw lo),dl:=dw lo,has:=b} {ls:=om (hi (ff (fl nX a (dw a)))),pm:=qV (dw a),cp:=sw a,rd:=gI (dw a),dl:=dw a,has:=d}:=
 ⟨λc n=>aN.list (fh.pH (fh.pipe (fh.command hf h (aN.uL h) e))) c n,aN.param (aN.uL h),λt=>aN.cp h t,aN.mL (aN.uL h),aN.uL h,f⟩
theorem RE{fr nX:Bool}(hf:fr=nX\/fr=true/\nX=false):∀n m,n<=m->yK (aS fr n) (aS nX m)
 |0,0,_=>yK.of hf (λl h=>by cases h) (λ_ _ l h=>by cases h) (λh=>h)
 |0,m+1,_=>yK.of hf (λl h=>by cases h) (λ_ _ l h=>by cases h) (λh=>rfl)
 |n+1,m+1,h=>yK.of hf (λl e=>by cases e;exact⟨_,rfl,RE hf n m (by omega)⟩) (λ_ _ l e=>by cases e;exact(RE hf n (m+1) (by omega)).rd) (λh=>h)
theorem XW{fr nX:Bool}(hf:fr=nX\/fr=true/\nX=false){n m:Nat}(h:n<=m)(r:aa):Au (gr fr n r) (gr nX m r):=(RE hf n m h).ls .text true r []
theorem XX{fr:Bool}{m:Nat}{u:aa}{k:Nat}{r:aa}{pd:ao}(h:gr fr m u= .ok k r pd):r=[]:=by
 unfold gr at h;rw[uM,pI] at h;obtain⟨_,r1,aD,ad,b⟩:=b4 h;refine LX (ik.round (XK fr m).1 .text true) (λ_=>True) (λr=>r=[]) (λ_ _ _ _ _ _ _ _=>trivial) ?_ _ _ _ _ _ _ _ (cX _) trivial b;intro n r pd a r' j _ e;obtain⟨t,r1,aD,ad,b⟩:=b4 e;obtain⟨l,rfl,rfl⟩:=nD ad;split at b
 ·rename_i f;rw[bh rfl] at b;cases b;grind[lH]
 ·rename_i f;split at b
  ·grind[dE,absurd]
  ·obtain⟨_,q,s,v,g⟩:=b4 b;obtain⟨t,x,y,z,c⟩:=b4 g;unfold il at c;cases t with
   |eof=>cases c
   |line=>obtain⟨_,_,_,_,d⟩:=b4 c;cases d
   |word w p=>cases c
   |op o=>
    simp only at c;split at c
    ·obtain⟨_,_,_,_,d⟩:=b4 c;obtain⟨_,_,_,_,i⟩:=b4 d;cases i
    grind[dE,bK]
theorem RF{fr:Bool}{m:Nat}{u:aa}{k:Nat}{r:aa}{pd:ao}(hu:c_ u)(h:gr fr m u= .ok k r pd)(hk:k≠0)(c:Ctx)(a:Bool)(v:aa):
  (aS fr m).ls c a (u++v) []=ae (b7 gu true) (λ_=>b7 (eK (jB fr m) c a) k) v []:=by
 have f:=XX h;subst f;unfold gr at h;rw[uM,pI] at h;rw[uM,pI];obtain⟨b,r1,aD,ad,g⟩:=b4 h;have d:=hJ.1 ad;have e:r1≠[]:=by rintro rfl;grind[cq,CA,cP]
 have:=aq.lines.ok v hu d e;rw[aM (hJ.2 this)];exact(XN fr m c a _ 0 r1 aD k pd (cX _) (hu.sfx (aq.lines.sfx d)) e g).2.2 v
theorem ajz{fr:Bool}{m:Nat}{u:aa}{k:Nat}{r:aa}{pd:ao}(hu:c_ u)(h:gr fr m u= .ok k r pd)(hk:k≠0){c:Ctx}(d:Bool){v a:aa}(b:bq v=some a)(he:dE c (ar a)=true)(aw:ar a≠ .eof):
  (aS fr m).ls c d (u++v) []= .ok k a []:=by
 have hl:ar a≠ .line:=by intro hl;rw[hl] at he;cases c<;>simp[dE,cB] at he
 rw[RF hu h hk];have:b7 gu true v []= .ok true a []:=by rw[cq,pJ b hl];rfl
 rw[aM this,cq,XM (kG _ _ _ (cX _) b) aw he (by grind)];rfl
theorem RG{fr:Bool}{m:Nat}{u:aa}{k:Nat}{r:aa}{pd:ao}(hu:c_ u)(h:gr fr m u= .ok k r pd)(hk:k≠0){c:Ctx}(a:Bool)(aF:c≠ .text):
  (aS fr m).ls c a u []= .more [] [] []:=by
 have:=RF hu h hk c a [];rw[List.append_nil] at this;rw[this];have e:b7 gu true [] []= .ok true [] []:=by rw[cq,pJ lX (by decide)];rfl
 rw[aM e,cq,CA,if_neg aF];have:(a||decide (k>0))=true:=by grind
 rw[this];rfl
theorem XY:∀(N:Nat)(b:Bool)(r:aa)(pd:ao),r.length<=N->(∃r' d,(∃x,b7 gu b r pd= .ok x r' d)/\∃x,b7 gu (!b) r pd= .ok x r' d)\/b7 gu b r pd=b7 gu (!b) r pd:=by
 intro N b r pd aw;cases a:bq r with
 |none=>
  right;rw[cq,cq];have:∀b,gu b r pd= .more [] (cQ [] pd []).1 (cQ [] pd []).2:=λb=>db (iB a)
  grind
 |some r1=>
  by_cases c:ar r1= .line
  ·obtain⟨t,rfl⟩:=vT c;grind[cq,ts]
  ·left;exact⟨r1,pd,⟨b,by rw[cq,pJ a c];rfl⟩,⟨!b,by rw[cq,pJ a c];rfl⟩⟩
def oR(b:UInt8):Bool:=b==60||b==62||b==38||b==124||b==59||b==40||b==41
theorem nY{b:UInt8}{t:aa}(h:oR b=false):bt (b::t)=[]:=by
 simp only[oR,Jw,NN,ne_eq] at h;obtain⟨⟨⟨⟨⟨⟨ad,a⟩,d⟩,f⟩,g⟩,i⟩,j⟩:=h
 have e:∀(c:UInt8)(o:aa),b≠c->(c::o).isPrefixOf (b::t)=false:=by grind
 simp_all[bt,lh,xJ,List.find?_nil]
def qs(b:UInt8):Bool:= !gb b&&b !=10&& !oR b&&b !=92&&b !=39&&b !=34&&b !=96&&b !=36
theorem Ix{b:UInt8}(h:qs b=true):gb b=false/\b≠10/\oR b=false/\b≠92/\b≠39/\b≠34/\b≠96/\b≠36:=by simp_all[qs,g7,Gf,bne_iff_ne,ne_eq]
theorem RH{b:UInt8}{t:aa}(h:qs b=true):cW (b::t)=false:=by grind[Ix,cW,nY]
theorem XZ{b:UInt8}{t:aa}(h:b≠36):fQ (b::t)=false:=by
 unfold fQ;split
 ·rename_i ad;cases ad;exact absurd rfl h
 ·rename_i ad;cases ad;exact absurd rfl h
 ·rfl
theorem X0:∀(w r:aa),w.all qs=true->cW r=true->c5 (w++r)=(w,true)
 |[],r,_,c=>by
  cases r with
  |nil=>rfl
  |cons b t=>grind[c5]
 |b::w,r,a,c=>by simp only[A4,g7] at a;obtain⟨ad,d,e,f,g,h,i,j⟩:=Ix a.1;simp only[hF];simp_all[c5,RH,aP,XZ,X0]
theorem tu{w r:aa}(aw:w≠[])(a:w.all qs=true)(c:cW r=true):ar (w++r)= .word w true:=by
 have aB:=X0 w r a c;cases w with
 |nil=>grind
 |cons b t=>simp only[A4,g7] at a;simp_all[Ix,hF,ar,aP,nY]
theorem j3{b:UInt8}{t:aa}(ad:gb b=false)(a:b≠35)(c:b≠92):bq (b::t)=some (b::t):=by grind[nC]
theorem jN(t:aa):bq (32::t)=bq t:=by simp[nC,gb]
theorem X1{D:ak Unit}{dq:Option (ak Unit)}{b:UInt8}{t:aa}{pd:ao}(h:qs b=true):cA D dq (b::t) pd= .ok () t pd:=by obtain⟨ad,e,f,a,g,i,c,d⟩:=Ix h;unfold cA;simp only[a,c,XZ d,cr,eB];grind
theorem CB{D:ak Unit}{b:UInt8}{t r':aa}{pd a:ao}(c:cW (b::t)=false)(h:cA D (some (eF D)) (b::t) pd= .ok () r' a)(hl:r'.length<(b::t).length):cI D (b::t) pd=cI D r' a:=by unfold cI;rw[cq];simp only[c,eB,cr];rw[aM h];simp_all[cP,aY,cH]
theorem L3{D:ak Unit}{b:UInt8}{t:aa}{pd:ao}(a:cW (b::t)=true):cI D (b::t) pd= .ok () (b::t) pd:=by unfold cI;rw[cq];simp only[a,cH];rfl
theorem CC{D:ak Unit}:∀(w r:aa)(pd:ao),w.all qs=true->cI D (w++r) pd=cI D r pd
 |[],r,pd,_=>rfl
 |b::w,r,pd,a=>by simp only[A4,g7] at a;simp only[hF];rw[CB (RH a.1) (X1 a.1) (by simp),CC w r pd a.2]
theorem L4{c b:UInt8}{part:ak Unit}{t r':aa}{pd a:ao}(d:b≠c)(h:part (b::t) pd= .ok () r' a)(hl:r'.length<(b::t).length):iX c part (b::t) pd=iX c part r' a:=by unfold iX;rw[cq];simp only[d,cr];rw[aM h];simp_all[cP,aY,cH]
theorem X2{D:ak Unit}{v a:aa}{pd:ao}(b:bq v=some a)(h:eZ (bt (a.dropWhile ca))=false):dv D v pd= .ok false a pd/\gI D v pd= .ok () a pd:=by
 have e:dv D v pd= .ok false a pd:=by
  have:fN v pd= .ok none a pd:=by grind[fN]
  unfold dv;rw[aM this];rfl
 refine⟨e,?_⟩;unfold gI;rw[cq,aM e];rfl
theorem ajA{D:ak Unit}{pd:ao}:dv D [10] pd= .ok false [10] pd/\gI D [10] pd= .ok () [10] pd:=X2 (As []) (by decide)
theorem qt{r r1:aa}{pd:ao}(a:bq r=some r1)(b:ar r1≠ .line):cR r pd= .ok false r1 pd:=by rw[qq,cq,pJ a b];rfl
theorem RI{pd:ao}(a:l6 pd []= .inl []):cR [10] pd= .ok true [] []:=by
 rw[qq,cq,ts (As [])];have:ae iW (λ_=>aY (.inl true)) [10] pd=(.ok (.inl true) [] []:dD (Bool⊕Bool)):=by unfold ae;rw[tp,a];rfl
 rw[this];unfold cP;simp only[A5,NI,Nat.lt_one_iff,cH];rw[cq,pJ lX (by decide)];rfl
theorem X3{c8:ak Unit}{x v a:aa}{pd b:ao}(d:bq x=some x)(f:cB (ar x) [33]=false)(aF:c8 x pd= .ok () v b)(c:bq v=some a)(ad:ar a≠ .op [124])(h:ar a≠ .op [38,38])(i:ar a≠ .op [124,124]):
  ff c8 x pd= .ok () a b/\hi (ff c8) x pd= .ok () a b:=by
 have g:=kG _ _ _ (cX _) c;have e:ff c8 x pd= .ok () a b:=by unfold ff;rw[aM (cb d),f];simp only[eB,cr];rw[aM (show aY () x pd= .ok () x pd from rfl),aM aF,cq,aM (cb c),aP ad];rfl
 refine⟨e,?_⟩;unfold hi;rw[aM e,cq,aM (cb g),aP (by grind)];rfl
theorem ajB{fr:Bool}{n:Nat}{x:aa}(a:bq x=some x)(b:ar x≠ .eof)(hl:ar x≠ .line)(c:cB (ar x) [33]=false)
  (aF:fl fr (some (aS fr n)) (dw (some (aS fr n))) x []= .ok () [10] []):gr fr (n+1) x= .ok 1 [] []:=by
 obtain⟨_,d⟩:=X3 a c aF (As []) (by decide) (by decide) (by decide);unfold gr;rw[uM,pI,aM (hJ.2 (qt a hl)),cq,It a b (by grind[dE])];have f:jB fr (n+1) x []= .ok () [10] []:=d;rw[aM f,aM (cb (As []))];have:il .text 0 (ar [10]) [10] []= .ok (.inl 1) [] []:=by
  have g:ar [10]= .line:=by decide
  rw[g];unfold il;simp only;rw[aM (RI rfl)];rfl
 rw[this];unfold cP;simp only[A5];have h:0<x.length:=JD.2 (λe=>b (lH.2 e));rw[bh h,cq,CA];rfl
section
variable{fr:Bool}{n k:Nat}{u r:aa}{pd:ao}(hu:c_ u)(h:gr fr n u= .ok k r pd)(hk:k≠0)
include hu h hk
theorem ajC(t:aa):ar (41::t)= .op [41]/\bq (41::t)=some (41::t):=by refine⟨?_,j3 (by decide) (by decide) (by decide)⟩;rfl
end
theorem ajD(b:Bool)(x:aa)(pd:ao):b7 gu b (32::x) pd=b7 gu b x pd:=by
 rw[cq,cq];have e:gu b (32::x) pd=gu b x pd:=by
  have aB:bN [] (32::x) pd=bN [] x pd:=by unfold bN;rw[jN];rfl
  simp_all[gu,ae]
 rw[e];cases h:gu b x pd with
 |ok y r1 aD=>
  cases y with
  |inl s=>have:=ik.lines.lt h;unfold cP;grind
  |inr a=>rfl
 |_=>rfl
theorem RJ(fr:Bool)(n:Nat)(c:Ctx)(no:Bool)(x:aa)(pd:ao):(aS fr n).ls c no (32::x) pd=(aS fr n).ls c no x pd:=by rw[uM,pI];simp[ae,ak.aJ,qq,ajD]
theorem X5{fr:Bool}{n k:Nat}{u r:aa}{pd:ao}(h:gr fr n u= .ok k r pd):gr fr n (10::u)= .ok k r pd:=by
 unfold gr at h⊢;rw[uM,pI] at h⊢;obtain⟨b,r1,aD,ad,c⟩:=b4 h;have a:=hJ.1 ad;rw[qq] at a;have e:cR (10::u) []=b7 gu true u []:=by rw[qq,cq,ts (As u)];have:ae iW (λ_=>aY (.inl true)) (10::u) []=(.ok (.inl true) u []:dD (Bool⊕Bool)):=rfl;grind[cP]
 have:∃x,cR (10::u) []= .ok x r1 aD:=by
  rw[e];rcases XY _ false u [] (cX _) with⟨r',d,⟨x,aZ⟩,y,f⟩|aZ
  ·grind
  grind
 grind[aM,hJ]
theorem kt{w r:aa}(aw:w≠[])(a:w.all qs=true)(d:w.head?≠some 35)(c:cW r=true):ar (w++r)= .word w true/\bq (w++r)=some (w++r):=by
 refine⟨tu aw a c,?_⟩;cases w with
 |nil=>grind
 |cons b t=>simp_all[A4,g7,Ix,j3]
theorem oS(t:aa):cW (32::t)=true:=by rfl
section
variable{fr:Bool}{n k:Nat}{u r:aa}{pd:ao}(hu:c_ u)(h:gr fr n u= .ok k r pd)(hk:k≠0)
include hu h hk
theorem ajE{c:Ctx}{no:Bool}{w v:aa}(aw:w≠[])(a:w.all qs=true)(b:w.head?≠some 35)(d:cW v=true)(he:dE c (.word w true)=true):(aS fr n).ls c no (32::(u++(w++v))) []= .ok k (w++v) []:=by grind[kt,RJ,ajz]
omit hu h hk in
theorem sB{w v:aa}{pd:ao}(aw:w≠[])(a:w.all qs=true)(b:w.head?≠some 35)(c:cW v=true):cZ w (w++v) pd= .ok () v pd:=by obtain⟨d,e⟩:=kt aw a b c;unfold cZ nb;rw[aM (cb e),d,aP (by simp)];simp[bV,cB]
omit hu h hk in
theorem L5{w v:aa}{pd:ao}:bV w.length (w++v) pd= .ok () v pd:=by simp[bV,o5]
end
theorem X6(t:aa):bt (40::t)=[40]:=by rfl
theorem X7(t:aa):cW (40::t)=true:=by rfl
theorem Iy{D:ak Unit}{b:UInt8}{t:aa}{pd:ao}(a:bq (b::t)=some (b::t))(aG:ca b=false)(c:oR b=false):dv D (b::t) pd= .ok false (b::t) pd:=
 (X2 a (by
  have:(b::t).dropWhile ca=b::t:=by simp_all
  rw[this,nY c];rfl)).1
def l9:aa:=[101,99,104,111]
section
variable{fr:Bool}{n k:Nat}{u r:aa}{pd:ao}(hu:c_ u)(h:gr fr n u= .ok k r pd)(hk:k≠0)
include hu h hk
theorem ajF(t:aa):fQ (36::40::t)=true:=rfl
end
def dJ{α:Type}(x:dD α)(op:bl):Prop:=∃nd pd,x= .more op nd pd
theorem dJ.ae{α β:Type}{m:ak α}{k:α->ak β}{r:aa}{pd:ao}{op:bl}(h:dJ (m r pd) op):dJ (Go.Eng.ae m k r pd) op:=by obtain⟨nd,ds,h⟩:=h;exact⟨nd,ds,db h⟩
theorem dJ.aJ{α:Type}{m:ak α}{x r:aa}{pd:ao}{op:bl}(h:dJ (m r pd) op):dJ (m.aJ x r pd) op:=by obtain⟨nd,ds,h⟩:=h;exact⟨_,_,by unfold ak.aJ;rw[h]⟩
theorem dJ.named{α:Type}{m:ak α}{x r:aa}{pd:ao}{op:bl}(h:dJ (m r pd) op):dJ (m.named x r pd) (x::op):=by obtain⟨nd,ds,h⟩:=h;exact⟨_,_,by unfold ak.named;rw[h]⟩
theorem dJ.rep{σ α:Type}{f:σ->ak (σ⊕α)}{s:σ}{r:aa}{pd:ao}{op:bl}(h:dJ (f s r pd) op):dJ (b7 f s r pd) op:=by obtain⟨nd,ds,h⟩:=h;exact⟨nd,ds,by rw[cq,h];rfl⟩
theorem dJ.xb{c b:UInt8}{part:ak Unit}{t:aa}{pd:ao}{op:bl}(a:b≠c)(h:dJ (part (b::t) pd) op):dJ (iX c part (b::t) pd) op:=by refine dJ.rep ?_;simp_all[aP,dJ.ae]
theorem dJ.word{D:ak Unit}{b:UInt8}{t:aa}{pd:ao}{op:bl}(a:cW (b::t)=false)(h:dJ (cA D (some (eF D)) (b::t) pd) op):dJ (cI D (b::t) pd) op:=by refine dJ.rep ?_;simp_all[aP,dJ.ae]
theorem dJ.cV{c8:ak Unit}{x:aa}{pd:ao}{op:bl}(a:bq x=some x)(b:cB (ar x) [33]=false)(aF:dJ (c8 x pd) op):dJ (hi (ff c8) x pd) op:=by refine dJ.ae ?_;unfold ff;rw[aM (cb a),b];simp only[eB,cr];rw[aM (show aY () x pd= .ok () x pd from rfl)];grind[dJ.ae]
theorem dJ.round{cV:ak Unit}{c:Ctx}{no:Bool}{n:Nat}{x:aa}{pd:ao}{op:bl}(a:bq x=some x)(b:ar x≠ .eof)(he:dE c (ar x)=false)(h:dJ (cV x pd) op):dJ (b7 (eK cV c no) n x pd) op:=by simp_all[dJ.rep,It,dJ.ae]
theorem dJ.ls{fr:Bool}{n:Nat}{c:Ctx}{no:Bool}{x:aa}{op:bl}(a:bq x=some x)(b:ar x≠ .eof)(hl:ar x≠ .line)(d:cB (ar x) [33]=false)(he:dE c (ar x)=false)
  (aF:dJ (fl fr (some (aS fr n)) (dw (some (aS fr n))) x []) op):dJ ((aS fr (n+1)).ls c no x []) op:=by
 rw[uM,pI,aM (hJ.2 (qt a hl))];exact dJ.round a b he (dJ.cV a d aF)
theorem dJ.comp{fr:Bool}{n:Nat}{w x:aa}{op:bl}(aw:w≠[])(a:w.all qs=true)(b:w.head?≠some 35)(c:cW x=true)(f:qg w=true)
  (aF:dJ (gY (aS fr n) (.word w true) (w++x) []) op):dJ (fl fr (some (aS fr n)) (dw (some (aS fr n))) (w++x) []) (w::op):=by
 obtain⟨d,e⟩:=kt aw a b c;unfold fl;rw[aM (cb e),d,aP (by simp),bh (by grind[gX])];exact dJ.ae (dJ.named aF)
theorem c_.cons{u:aa}(hu:c_ u)(b:UInt8)(a:u≠[]\/b=10):c_ (b::u):=by
 rcases hu with rfl|⟨s,rfl⟩
 ·rcases a with a|rfl
  ·grind
  ·exact .inr ⟨[],rfl⟩
 ·exact .inr ⟨b::s,rfl⟩
section
variable{fr:Bool}{n k:Nat}{u r:aa}{pd:ao}(hu:c_ u)(h:gr fr n u= .ok k r pd)(hk:k≠0)
include hu h hk
theorem ajG:dJ (gr fr (n+1) (40::u)) [[40]]:=by
 have b:ar (40::u)= .op [40]:=by rfl
 have a:bq (40::u)=some (40::u):=j3 (by decide) (by decide) (by decide);refine dJ.ls a (by grind) (by grind) (by rfl) (by rfl) ?_;unfold fl;rw[aM (cb a),b,aP (by simp),bh (by rfl)];refine dJ.ae (dJ.named ?_);unfold gY;simp only;rw[aM (show bV 1 (40::u) []= .ok () u [] from rfl)];exact dJ.ae (dJ.aJ ⟨_,_,RG hu h hk false (by simp)⟩)
theorem ajH{c:Ctx}{no:Bool}(aF:dE c (.word [123] true)=false):dJ ((aS fr (n+1)).ls c no (123::10::u) []) [[123]]:=by obtain⟨a,b⟩:=kt (w:=[123]) (r:=10::u) (by decide) (by decide) (by decide) (Ct _);have d:ar (123::10::u)= .word [123] true:=a;refine dJ.ls b (by grind) (by grind) (by rfl) (by grind) ?_;refine dJ.comp (w:=[123]) (by decide) (by decide) (by decide) (Ct _) (by decide) ?_;unfold gY;simp only;rw[aM (show bV [(123:UInt8)].length ([123]++10::u) []= .ok () (10::u) [] from rfl),bh trivial];exact dJ.ae (dJ.aJ ⟨_,_,RG (hu.cons 10 (.inr rfl)) (X5 h) hk false (by simp)⟩)
theorem ajI{pd0:ao}:dJ (fl fr (some (aS fr n)) (dw (some (aS fr n))) (l9++32::34::36::40::32::u) []) [[34],[36,40]]:=by
 obtain⟨f,e⟩:=kt (w:=l9) (r:=32::34::36::40::32::u) (by decide) (by decide) (by decide) (oS _);have d:dv (dw (some (aS fr n))) (l9++32::34::36::40::32::u) []= .ok false (l9++32::34::36::40::32::u) []:=Iy (b:=101) e (by decide) (by decide);unfold fl;rw[aM (cb e),f,aP (by simp),aP (by decide)];simp only
 rw[aP (by decide),aM d,aP (by simp),aM (show cI _ (l9++32::_) []= .ok () (32::34::36::40::32::u) [] from by
  rw[CC _ _ _ (by decide)];simp[L3,oS]),bh (by decide)]
 have s2:bq (34::36::40::32::u)=some _:=j3 (by decide) (by decide) (by decide);have g:cW (34::36::40::32::u)=false:=by rfl
 have c:∃a b,ar (34::36::40::32::u)= .word a b:=by rw[ar,aP (by decide),nY (by decide),aP (by simp)];simp
 obtain⟨a2,k,c⟩:=c;have i:bq (32::34::36::40::32::u)=some (34::36::40::32::u):=by grind[jN]
 rw[aM (cb i),c,aP (by simp)];unfold hg;have j:dv (dw (some (aS fr n))) (34::36::40::32::u) []= .ok false (34::36::40::32::u) []:=Iy s2 (by decide) (by decide);refine dJ.rep ?_;rw[aM j,aP (by simp),aM (cb s2),c];simp only;refine dJ.ae (dJ.word g ?_);unfold cA;simp only;rw[aP (by decide),aP (by decide),aP (by simp[fQ]),aP (by decide),bh trivial];refine dJ.named (dJ.aJ (dJ.xb (by decide) ?_));unfold cA;simp only;rw[aP (by decide),aP (by decide),bh (ajF hu h hk _)];unfold dw;rw[aP (by simp),bh (by simp)];show dJ (ae (bV 2) (λ_=>sv (aS fr n)) _ _) _;rw[aM (show bV 2 (36::40::32::u) []= .ok () (32::u) [] from rfl)];unfold sv;refine dJ.ae (dJ.named (dJ.aJ ?_));rw[RJ];exact⟨_,_,RG hu h hk true (by simp)⟩
end
section
variable{fr:Bool}{n k cm:Nat}{u r r1:aa}{pd aD:ao}(hu:c_ u)(h:gr fr n u= .ok k r pd)(ad:gr fr (n+1) u= .ok cm r1 aD)(hk:k≠0)(Iz:cm≠0)
include hu h hk ad Iz
theorem ajK:dJ (gr fr (n+2) (lV++(32::(u++(ih++(32::123::10::u)))))) [lV,[123]]:=by obtain⟨b,a⟩:=kt (w:=lV) (r:=32::(u++(ih++(32::123::10::u)))) (by decide) (by decide) (by decide) (oS _);refine dJ.ls a (by grind) (by grind) (by rfl) (by rfl) ?_;refine dJ.comp (by decide) (by decide) (by decide) (oS _) (by decide) ?_;unfold gY;simp only;rw[aM L5,aP (by decide),bh trivial];unfold qj;refine dJ.rep ?_;rw[aM (hJ.2 (ajE hu ad Iz (by decide) (by decide) (by decide) (oS _) (by decide))),aM (sB (by decide) (by decide) (by decide) (oS _))];refine dJ.ae (dJ.aJ ?_);rw[RJ];exact ajH hu h hk (by decide)
theorem ajL:dJ (gr fr (n+2) (nA++32::120::32::105::110::32::97::41::10::(u++(l9++32::34::36::40::32::u)))) [nA,[34],[36,40]]:=by
 obtain⟨q,f⟩:=kt (w:=nA) (r:=32::120::32::105::110::32::97::41::10::(u++(l9++32::34::36::40::32::u))) (by decide) (by decide) (by decide) (oS _);refine dJ.ls f (by grind) (by grind) (by rfl) (by rfl) ?_;refine dJ.comp (by decide) (by decide) (by decide) (oS _) (by decide) ?_;unfold gY;simp only;rw[aM L5,aP (by decide),aP (by decide),aP (by decide),bh trivial];unfold qk;obtain⟨g,a2⟩:=kt (w:=[120]) (r:=32::105::110::32::97::41::10::(u++(l9++32::34::36::40::32::u))) (by decide) (by decide) (by decide) (oS _);obtain⟨i,j⟩:=kt (w:=fb) (r:=32::97::41::10::(u++(l9++32::34::36::40::32::u))) (by decide) (by decide) (by decide) (oS _)
 have k:∀t,bt (41::t)=[41]:=λt=>by rfl
 obtain⟨eS,b⟩:=kt (w:=[97]) (r:=41::10::(u++(l9++32::34::36::40::32::u))) (by decide) (by decide) (by decide) (by rfl);obtain⟨l,m⟩:=ajC hu h hk (10::(u++(l9++32::34::36::40::32::u)));obtain⟨s,a⟩:=kt (w:=l9) (r:=32::34::36::40::32::u) (by decide) (by decide) (by decide) (oS _);have a3:bq (32::120::32::105::110::32::97::41::10::(u++(l9++32::34::36::40::32::u)))=_:=(jN _).trans a2;have c:bq (32::105::110::32::97::41::10::(u++(l9++32::34::36::40::32::u)))=_:=(jN _).trans j;have d:bq (32::97::41::10::(u++(l9++32::34::36::40::32::u)))=_:=(jN _).trans b;rw[aM (cb a3),g];simp only;have o:cI (aS fr (n+1)).dl ([120]++32::105::110::32::97::41::10::(u++(l9++32::34::36::40::32::u))) []= .ok () (32::105::110::32::97::41::10::(u++(l9++32::34::36::40::32::u))) []:=by rw[CC [120] _ _ (by decide)];simp[L3,oS]
 have p:ae (cI (aS fr (n+1)).dl) (λ_=>ae cR λ_=>ae (bN []) λt=>if t=Tok.eof then b3 [] else aY t) ([120]++32::105::110::32::97::41::10::(u++(l9++32::34::36::40::32::u))) []= .ok (.word fb true) (fb++(32::97::41::10::(u++(l9++32::34::36::40::32::u)))) []:=by rw[aM o,aM (qt c (by grind)),aM (cb (kG _ _ _ (Nat.le_refl _) c)),i,if_neg (by simp)];rfl
 rw[aM (hJ.2 p)];rw[if_pos (by decide),aM (show bV 2 (fb++(32::97::41::10::(u++(l9++32::34::36::40::32::u)))) []= .ok () (32::97::41::10::(u++(l9++32::34::36::40::32::u))) [] from rfl)];refine dJ.aJ ?_;unfold nc;refine dJ.rep ?_
 rw[aM (qt d (by grind)),aM (cb (kG _ _ _ (Nat.le_refl _) d)),eS,if_neg (by simp),if_neg (by decide),if_neg (by simp),
  aM (show aY () _ _= .ok () _ _ from rfl)]
 have aB:kq (aS fr (n+1)).dl ([97]++41::10::(u++(l9++32::34::36::40::32::u))) []= .ok () (10::u++(l9++32::34::36::40::32::u)) []:=by unfold kq;rw[cq,aM (cb b),eS];simp only;rw[aM (hJ.2 (by rw[CC [97] _ _ (by decide)];exact L3 (by rfl))),aM (cb m),l];rfl
 rw[aM aB];refine dJ.ae ?_;rw[RF (hu.cons 10 (.inr rfl)) (X5 ad) Iz];have e:b7 gu true (l9++32::34::36::40::32::u) []= .ok true (l9++32::34::36::40::32::u) []:=by rw[cq,pJ a (by grind)];rfl
 rw[aM e];refine dJ.round a (by grind) (by rfl) ?_;exact dJ.cV a (by rfl) (ajI (pd0:=[]) hu h hk)
end
theorem E9:∀(n:Nat)(r q:aa),r.length<=n->gW r=some q->q<:+r:=by
 intro n;induction n with
 |zero=>simp_all[n7,Nat.le_zero,gW]
 |succ n a=>
  intro r q aw h;cases r with
  |nil=>grind
  |cons b t=>unfold gW at h;grind
theorem Av:∀(r q:aa),gk r=some q->q<:+r
 |[],q,h=>by grind[gk]
 |b::t,q,h=>by
  unfold gk at h;split at h
  ·cases h;exact ee b _
  ·exact(Av t q h).trans (ee b t)
structure ln where
 T:aa
 N:aa->Nat
 c:Nat
 Q:aa->ao->Prop
structure ln.H(E:ln)(n:Nat)(r:aa)(pd:ao):Prop where
 sfx:r<:+E.T
 le:E.N r+E.c<=n
 q:E.Q r pd
def h_(E:ln){α:Type}(r0:aa):dD α->Prop
 | .ok _ r pd=>r<:+r0/\E.Q r pd
 | .deep _=>False
 |_=>True
def ai(E:ln)(n:Nat){α:Type}(f:ak α):Prop:=∀r pd,E.H n r pd->h_ E r (f r pd)
structure ln.mY(E:ln):Prop where
 eS:1<=E.c
 mono:∀r r',r'<:+r->r<:+E.T->E.N r'<=E.N r
 ajM:∀r r' pd,r'<:+r->r<:+E.T->E.Q r pd->E.Q r' pd
 ajN:∀r,r<:+E.T->E.Q r []
 sy:∀r pd o tabs r' aC,r<:+E.T->E.Q r pd->bt r=o->(o=[60,60]/\tabs=false\/o=[60,60,45]/\tabs=true)->hB tabs (r.drop o.length) pd= .ok () r' aC->E.Q r' aC
 uL:∀u,36::40::u<:+E.T->u.head?≠some 40->E.N u+1<=E.N (36::40::u)\/∀n pd,E.c<=n->E.Q (36::40::u) pd->h_ E (36::40::u) ((aS true n).dl (36::40::u) pd)
 qh:∀u,36::123::u<:+E.T->E.N u+1<=E.N (36::123::u)\/∀n pd,E.c<=n->E.Q (36::123::u) pd->h_ E (36::123::u) ((aS true n).dl (36::123::u) pd)
 comp:∀r,r<:+E.T->bq r=some r->gX (ar r)=true->E.N (r.drop (mH (ar r)).length)+1<=E.N r\/∀n pd,E.c<=n->E.Q r pd->h_ E r ((aS true n).cp (ar r) r pd)
 func:∀u,40::u<:+E.T->E.N u+1<=E.N (40::u)\/∀n pd,E.c<=n+1->E.Q (40::u) pd->h_ E (40::u) (lW true (some (aS true n)) (40::u) pd)
section
variable{E:ln}(ok:E.mY){n:Nat}
theorem h_.mono{α:Type}{r0 r:aa}{x:dD α}(h:h_ E r x)(ad:r<:+r0):h_ E r0 x:=by
 cases x with
 |ok a r1 aD=>exact⟨h.1.trans ad,h.2⟩
 |more _ _ _=>trivial
 |bad _=>trivial
 |deep _=>exact h
theorem h_.ae{α β:Type}{m:ak α}{k:α->ak β}{r0 r:aa}{pd:ao}(h:h_ E r0 (m r pd))(hk:∀a r' b,m r pd= .ok a r' b->r'<:+r0->E.Q r' b->h_ E r0 (k a r' b)):h_ E r0 (Go.Eng.ae m k r pd):=by
 unfold Go.Eng.ae;cases hm:m r pd with
 |ok a r1 aD=>rw[hm] at h;exact hk a r1 aD hm h.1 h.2
 |more _ _ _=>trivial
 |bad _=>trivial
 |deep q=>rw[hm] at h;exact h
theorem h_.aJ{α:Type}{m:ak α}{r0 r:aa}{pd:ao}{x:aa}(h:h_ E r0 (m r pd)):h_ E r0 (m.aJ x r pd):=by
 unfold ak.aJ;cases hm:m r pd with
 |more _ _ _=>trivial
 |ok a r1 aD=>grind
 |bad _=>trivial
 |deep q=>grind
theorem h_.named{α:Type}{m:ak α}{r0 r:aa}{pd:ao}{x:aa}(h:h_ E r0 (m r pd)):h_ E r0 (m.named x r pd):=by
 unfold ak.named;cases hm:m r pd with
 |more _ _ _=>trivial
 |ok a r1 aD=>grind
 |bad _=>trivial
 |deep q=>grind
theorem ai.aJ{α:Type}{m:ak α}(h:ai E n m)(x:aa):ai E n (m.aJ x):=λr pd a=>(h r pd a).aJ
theorem ai.named{α:Type}{m:ak α}(h:ai E n m)(x:aa):ai E n (m.named x):=λr pd a=>(h r pd a).named
theorem ai.b3{α:Type}(x:aa):ai E n (Go.Eng.b3 x:ak α):=λr pd _=>trivial
theorem ai.bK{α:Type}:ai E n (Go.Eng.bK:ak α):=λr pd _=>trivial
theorem ai.ret{α:Type}(a:α):ai E n (aY a):=λr pd h=>⟨fT,h.q⟩
theorem ai.ite{α:Type}{p:Prop}[Decidable p]{f g:ak α}(hf:ai E n f)(bs:ai E n g):ai E n (if p then f else g):=by grind
include ok
theorem ln.H.down{r r':aa}{pd a:ao}(h:E.H n r pd)(ad:r'<:+r)(b:E.Q r' a):E.H n r' a:=⟨ad.trans h.sfx,by have:=ok.mono r r' ad h.sfx;have:=h.le;omega,b⟩
theorem ln.H.qu{r r':aa}{pd:ao}(h:E.H n r pd)(ad:r'<:+r):E.H n r' pd:=h.down ok ad (ok.ajM r r' pd ad h.sfx h.q)
theorem ai.ae{α β:Type}{m:ak α}{k:α->ak β}(hm:ai E n m)(hk:∀a,ai E n (k a)):ai E n (Go.Eng.ae m k):=λr pd h=>
 (hm r pd h).ae λa r' b _ ad c=>(hk a r' b (h.down ok ad c)).mono ad
theorem ai.ia{f:ak Unit}(hf:∀r pd,match f r pd with| .ok _ r' b=>r'<:+r/\b=pd| .deep _=>False|_=>True):ai E n f:=λr pd h=>by
 have:=hf r pd;cases hm:f r pd with
 |ok a r1 aD=>rw[hm] at this;obtain⟨ad,rfl⟩:=this;exact⟨ad,(h.qu ok ad).q⟩
 |more _ _ _=>trivial
 |bad _=>trivial
 |deep q=>grind
theorem ai.dm(k:Nat):ai E n (bV k):=ai.ia ok λr pd=>⟨lK _ _,rfl⟩
theorem ai.rep{σ α:Type}{f:σ->ak (σ⊕α)}(hf:∀s,ai E n (f s))(s:σ):ai E n (b7 f s):=by
 have b:∀(N:Nat)(s:σ)(r:aa)(pd:ao),r.length<=N->E.H n r pd->h_ E r (b7 f s r pd):=by
  intro N;induction N with
  |zero=>
   intro s r pd c h;rw[cq];have:=hf s r pd h;unfold cP;cases hm:f s r pd with
   |ok x r1 aD=>
    rw[hm] at this;cases x with
    |inl s'=>simp only;rw[aP (by omega)];trivial
    |inr a=>exact this
   |more _ _ _=>trivial
   |bad _=>trivial
   |deep q=>rw[hm] at this;exact this
  |succ N d=>
   intro s r pd c h;rw[cq];have:=hf s r pd h;unfold cP;cases hm:f s r pd with
   |ok x r1 aD=>
    rw[hm] at this;cases x with
    |inl s'=>
     simp only;split
     ·exact(d s' r1 aD (by omega) (h.down ok this.1 this.2)).mono this.1
     ·trivial
    |inr a=>exact this
   |more _ _ _=>trivial
   |bad _=>trivial
   |deep q=>rw[hm] at this;exact this
 exactλr pd h=>b _ s r pd (cX _) h
theorem ai.dN{α:Type}{x:aa}{k:Tok->ak α}(hk:∀r pd,E.H n r pd->bq r=some r->h_ E r (k (ar r) r pd)):ai E n (Go.Eng.ae (bN x) k):=by
 intro r pd h;cases a:bq r with
 |none=>rw[db (iB a)];trivial
 |some r'=>rw[aM (cb a)];have b:=dU a;exact(hk r' pd (h.qu ok b) (kG _ _ _ (cX _) a)).mono b
theorem ai.fS{α:Type}{x:aa}{k:Tok->ak α}(hk:∀t,ai E n (k t)):ai E n (Go.Eng.ae (bN x) k):=ai.dN ok λr pd h _=>hk _ r pd h
theorem ai.exp(b:Tok->Bool)(k:Nat):ai E n (nb b k):=ai.fS ok λt=>ai.ite (ai.b3 _) (ai.ite (ai.dm ok _) ai.bK)
theorem ai.jA(o:aa):ai E n (Go.Eng.jA o):=ai.exp ok _ _
theorem ai.cZ(o:aa):ai E n (Go.Eng.cZ o):=ai.exp ok _ _
theorem ai.nl:ai E n iW:=by
 intro r pd h;cases r with
 |nil=>exact⟨fT,h.q⟩
 |cons b t=>
  unfold iW;simp only;cases a:l6 pd t with
  |inl r'=>have ad:=((vO pd t [] r' a).1).trans (ee b t);exact⟨ad,ok.ajN _ (ad.trans h.sfx)⟩
  |inr nd=>trivial
theorem ai.lines:ai E n cR:=ai.rep ok (λ_=>ai.fS ok λt=>ai.ite (ai.ae ok (ai.nl ok) λ_=>ai.ret _) (ai.ret _)) _
theorem ai.part{D:ak Unit}(hD:ai E n D){dq:Option (ak Unit)}(c:∀q,dq=some q->ai E n q):ai E n (cA D dq):=by
 intro r pd h;cases r with
 |nil=>exact⟨fT,h.q⟩
 |cons b t=>
  have a:t<:+b::t:=ee b t
  have d:∀(f:aa->Option aa)(x:aa),(∀r q,f r=some q->q<:+r)->h_ E (b::t) (jr f x t pd):=by
   intro f x hf;unfold jr;cases hm:f t with
   |none=>trivial
   |some q=>have:=(hf _ _ hm).trans a;exact⟨this,(h.qu ok this).q⟩
  unfold cA;simp only;split
  ·have:=(lK 1 t).trans a;exact⟨this,(h.qu ok this).q⟩
  ·split
   ·exact d _ _ λr q e=>E9 _ r q (cX _) e
   ·split
    ·exact hD _ _ h
    ·cases dq with
     |none=>exact⟨a,(h.qu ok a).q⟩
     |some q=>
      simp only;split
      ·grind[Av]
      ·split
       ·exact(c q rfl t pd (h.qu ok a)).mono a
       ·exact⟨a,(h.qu ok a).q⟩
theorem ai.CD{p:ak Unit}(aB:ai E n p)(c:UInt8):ai E n (iX c p):=by
 refine ai.rep ok (λ_=>?_) _;intro r pd h;cases r with
 |nil=>trivial
 |cons b t=>
  simp only;split
  ·exact⟨ee b t,(h.qu ok (ee b t)).q⟩
  ·exact ai.ae ok aB (λ_=>ai.ret _) _ _ h
theorem ai.double{D:ak Unit}(hD:ai E n D):ai E n (eF D):=((ai.CD ok (ai.part ok hD (λq a=>by cases a)) _).aJ _).named _
theorem ai.yM{D:ak Unit}(hD:ai E n D):ai E n (cA D (some (eF D))):=ai.part ok hD λq a=>by grind[ai.double]
theorem ai.param{D:ak Unit}(hD:ai E n D):ai E n (qV D):=(ai.CD ok (ai.yM ok hD) _).aJ _
theorem ai.cI{D:ak Unit}(hD:ai E n D):ai E n (Go.Eng.cI D):=by
 refine ai.rep ok (λ_=>?_) _;intro r pd h;cases r with
 |nil=>trivial
 |cons b t=>
  simp only;split
  ·exact⟨fT,h.q⟩
  ·exact ai.ae ok (ai.yM ok hD) (λ_=>ai.ret _) _ _ h
theorem ai.jM{D:ak Unit}(hD:ai E n D)(x:aa):ai E n (Go.Eng.jM D x):=by refine ai.fS ok λt=>?_;grind[ai.b3,ai.cI,ai.bK]
theorem ai.ji{D:ak Unit}(hD:ai E n D):ai E n (dv D):=by
 intro r pd h;unfold dv;cases k:bq r with
 |none=>
  have:fN r pd=Go.Eng.b3 [] r pd:=by grind[fN]
  unfold Go.Eng.ae;rw[this];trivial
 |some r'=>
  have b:=dU k;have g:r'.dropWhile ca<:+r:=Cx.trans b;have c:=h.qu ok g;by_cases t:eZ (bt (r'.dropWhile ca))=true
  ·have:fN r pd= .ok (some (bt (r'.dropWhile ca))) ((r'.dropWhile ca).drop (bt (r'.dropWhile ca)).length) pd:=by simp_all[fN,bh]
   rw[aM this];generalize r'.dropWhile ca=q at*;have aG:q.drop (bt q).length<:+q:=lK _ _;have e:=c.qu ok aG;simp only;refine h_.mono (r:=q) (h_.ae ?_ λ_ i j _ f l=>⟨f,l⟩) g
   have m:∀tabs,(bt q=[60,60]/\tabs=false\/bt q=[60,60,45]/\tabs=true)->h_ E q (hB tabs (q.drop (bt q).length) pd):=by
    intro tabs o;cases hm:hB tabs (q.drop (bt q).length) pd with
    |more _ _ _=>trivial
    |bad _=>trivial
    |deep x=>grind[hB]
    |ok a i j=>
     refine⟨?_,ok.sy q pd _ tabs i j c.sfx c.q rfl o hm⟩;refine List.IsSuffix.trans ?_ aG;generalize q.drop (bt q).length=v at hm;unfold hB at hm;split at hm
     ·cases hm
     ·rename_i u p;split at hm
      ·cases hm
      ·split at hm
       ·cases hm
       ·rename_i d w y s
        repeat' (split at hm)
        all_goals cases hm
        exact(Rr _ _ _ (cX _) s).trans (dU p)
      grind
   by_cases ad:bt q=[60,60]
   ·grind
   ·rw[aP ad];by_cases f:bt q=[60,60,45]
    ·grind
    ·rw[aP f];exact(ai.jM ok hD _ _ _ e).mono aG
  ·have:fN r pd= .ok none r' pd:=by simp_all[fN,aP]
   rw[aM this];exact⟨b,(h.qu ok b).q⟩
theorem ai.mL{D:ak Unit}(hD:ai E n D):ai E n (gI D):=ai.rep ok (λ_=>ai.ae ok (ai.ji ok hD) λb=>ai.ret _) _
theorem ai.simple{D:ak Unit}(hD:ai E n D)(fr:Bool):ai E n (hg fr D):=by
 refine ai.rep ok (λ_=>ai.ae ok (ai.ji ok hD) λb=>ai.ite (ai.ret _) (ai.fS ok λt=>?_)) _;cases t with
 |word _ _=>grind[ai.ae,ai.cI,ai.ret]
 |op o=>simp[ai.ite,ai.bK,ai.ret]
 |_=>simp[ai.ret]
theorem ai.pipe{c8:ak Unit}(h:ai E n c8):ai E n (ff c8):=ai.fS ok λt=>ai.ae ok (ai.ite (ai.dm ok _) (ai.ret _)) λ_=>ai.ae ok h λ_=>
 ai.rep ok (λ_=>ai.fS ok λt=>ai.ite (ai.ae ok (ai.dm ok _) λ_=>ai.ae ok ((ai.lines ok).aJ _) λ_=>ai.ae ok h λ_=>ai.ret _) (ai.ret _)) _
theorem ai.pH{a:ak Unit}(h:ai E n a):ai E n (hi a):=ai.ae ok h λ_=>
 ai.rep ok (λ_=>ai.fS ok λt=>ai.ite (ai.ae ok (ai.dm ok _) λ_=>ai.ae ok ((ai.lines ok).aJ _) λ_=>ai.ae ok h λ_=>ai.ret _) (ai.ret _)) _
theorem ai.list{cV:ak Unit}(h:ai E n cV)(c:Ctx)(no:Bool):ai E n (om cV c no):=ai.ae ok ((ai.lines ok).aJ _) λ_=>ai.rep ok (λk=>ai.fS ok λt=>
 ai.ite (ai.ite (ai.ret _) (ai.b3 _)) (ai.ite (ai.ret _) (ai.ae ok h λ_=>ai.fS ok λt=>by
  cases t with
  |eof=>simp[ai.ret]
  |line=>grind[ai.ae,ai.lines,ai.ret]
  |word _ _=>exact ai.bK
  |op o=>exact ai.ite (ai.ae ok (ai.dm ok _) λ_=>ai.ae ok (ai.lines ok) λ_=>ai.ret _) (ai.ite (ai.ret _) ai.bK)))) _
end
structure xe(E:ln)(n:Nat):Prop where
 ls:∀c no,ai E n ((aS true n).ls c no)
 pm:ai E n (aS true n).pm
 cp:∀r pd,E.H n r pd->bq r=some r->gX (ar r)=true->h_ E r ((aS true n).cp (ar r) r pd)
 rd:ai E n (aS true n).rd
 dl:ai E n (aS true n).dl
section
variable{E:ln}(ok:E.mY){n:Nat}
include ok
theorem ln.H.pos{r:aa}{pd:ao}(h:E.H n r pd):1<=n:=by have:=ok.eS;have:=h.le;omega
theorem ai.nB:ai E n Go.Eng.nB:=by
 refine ai.ia ok λr pd=>?_;unfold Go.Eng.nB;cases h:h1 0 r with
 |ok q=>exact⟨At 0 r q h,rfl⟩
 |more _=>trivial
 |bad _=>trivial
theorem ai.RL{lo:Option dT}{k:Nat}(hl:(lo=none/\k=0)\/∃m,lo=some (aS true m)/\k=m+1/\xe E m):ai E k (dw lo):=by
 intro r pd h;have hk:=h.pos ok;rcases hl with⟨_,rfl⟩|⟨m,rfl,rfl,hm⟩
 ·omega
 have i:(aS true (m+1)).dl=dw (some (aS true m)):=rfl;have a:∀k,r.drop k<:+r:=λk=>lK _ _
 unfold dw;split
 ·exact((ai.dm ok _).ae ok (λ_=>ai.nB ok)) r pd h
 ·rename_i j;split
  ·rename_i b;rw[Di] at b;obtain⟨u,rfl⟩:=b;have hu:u.head?≠some 40:=by
    intro f;cases u with
    |nil=>cases f
    |cons c v=>grind
   rcases ok.uL u h.sfx hu with g|bs
   ·have d:E.H m u pd:=⟨(a 2).trans h.sfx,by have:=h.le;grind,(h.qu ok (a 2)).q⟩;have:su (some (aS true m)) 2 sv ([36,40]++u) pd=sv (aS true m) u pd:=rfl;rw[this];refine h_.mono ?_ (a 2);exact ai.ae ok (((hm.ls _ _).aJ _).named _) (λ_=>ai.jA ok _) _ _ d
   ·have:=bs (m+1) pd (by have:=h.le;omega) h.q;simp_all[dw,aa,aP,bh,List.isPrefixOf]
  ·rename_i b;split
   ·rename_i e;rw[Di] at e;obtain⟨u,rfl⟩:=e;rcases ok.qh u h.sfx with g|bs
    ·have d:E.H m u pd:=⟨(a 2).trans h.sfx,by have:=h.le;grind,(h.qu ok (a 2)).q⟩;have:su (some (aS true m)) 2 (λl=>l.pm.named [36,123]) ([36,123]++u) pd=((aS true m).pm.named [36,123]) u pd:=rfl;rw[this];exact((hm.pm.named _) _ _ d).mono (a 2)
    ·have:=bs (m+1) pd (by have:=h.le;omega) h.q;simp_all[dw,aa,aP,bh,List.isPrefixOf]
   ·exact⟨a 1,(h.qu ok (a 1)).q⟩
section
variable{m:Nat}(hm:xe E m)
include hm
theorem ai.body(x:aa):ai E m (iO (aS true m) x):=ai.ae ok ((ai.cZ ok _).aJ _) λ_=>ai.ae ok ((hm.ls _ _).aJ _) λ_=>ai.cZ ok _
theorem ai.cond:ai E m (qj (aS true m)):=ai.rep ok (λ_=>ai.ae ok ((hm.ls _ _).aJ _) λ_=>ai.ae ok (ai.cZ ok _) λ_=>ai.ae ok ((hm.ls _ _).aJ _) λ_=>
 ai.fS ok λt=>ai.ite (ai.ae ok (ai.cZ ok _) λ_=>ai.ret _) (ai.ite (ai.ae ok (ai.cZ ok _) λ_=>ai.ae ok ((hm.ls _ _).aJ _) λ_=>ai.ae ok (ai.cZ ok _) λ_=>ai.ret _) (ai.ae ok (ai.cZ ok _) λ_=>ai.ret _))) _
theorem ai.words:ai E m (pF (aS true m).dl):=ai.rep ok (λ_=>ai.fS ok λt=>by
 cases t with
 |eof=>simp[ai.b3]
 |word _ _=>exact ai.ae ok (ai.cI ok hm.dl) λ_=>ai.ret _
 |line=>simp[ai.ret]
 |op o=>exact ai.ite (ai.ae ok (ai.dm ok _) λ_=>ai.ret _) ai.bK) _
theorem ai.for_:ai E m (pG (aS true m) (aS true m).dl):=ai.fS ok λt=>by
 cases t with
 |eof=>simp[ai.b3]
 |word w p=>
  cases p with
  |true=>
   refine ai.ite (ai.ae ok (ai.dm ok _) λ_=>ai.ae ok (ai.aJ (ai.fS ok λt=>?_) _) λ_=>ai.body ok hm _) ai.bK;exact ai.ite (ai.ae ok (ai.dm ok _) λ_=>ai.ae ok (ai.lines ok) λ_=>ai.ret _) (ai.ae ok (ai.lines ok) λ_=>ai.fS ok λt=>
    ai.ite (ai.ae ok (ai.dm ok _) λ_=>ai.ae ok (ai.words ok hm) λ_=>ai.ae ok (ai.lines ok) λ_=>ai.ret _) (ai.ret _))
  |false=>exact ai.bK
 |_=>exact ai.bK
theorem ai.xc:ai E m (kq (aS true m).dl):=ai.rep ok (λ_=>ai.fS ok λt=>by
 cases t with
 |eof=>simp[ai.b3]
 |word _ _=>
  refine ai.ae ok ((ai.cI ok hm.dl).aJ _) λ_=>ai.fS ok λt=>?_;cases t with
  |op o=>exact ai.ite (ai.ae ok (ai.dm ok _) λ_=>ai.ret _) (ai.ite (ai.ae ok (ai.dm ok _) λ_=>ai.ret _) ai.bK)
  |eof=>simp[ai.b3]
  |_=>exact ai.bK
 |_=>exact ai.bK) _
theorem ai.items:ai E m (nc (aS true m) (aS true m).dl):=ai.rep ok (λ_=>ai.ae ok (ai.lines ok) λ_=>ai.fS ok λt=>ai.ite (ai.b3 _) (ai.ite (ai.ae ok (ai.dm ok _) λ_=>ai.ret _)
 (ai.ae ok (ai.ite (ai.dm ok _) (ai.ret _)) λ_=>ai.ae ok (ai.xc ok hm) λ_=>ai.ae ok (hm.ls _ _) λ_=>ai.fS ok λt=>ai.ite (ai.ae ok (ai.dm ok _) λ_=>ai.ret _) (ai.ret _)))) _
theorem ai.xd:ai E m (qk (aS true m) (aS true m).dl):=ai.fS ok λt=>by
 cases t with
 |eof=>simp[ai.b3]
 |word _ _=>exact ai.ae ok (ai.aJ (ai.ae ok (ai.cI ok hm.dl) λ_=>ai.ae ok (ai.lines ok) λ_=>ai.fS ok λt=>ai.ite (ai.b3 _) (ai.ret _)) _) λt=>ai.ite (ai.ae ok (ai.dm ok _) λ_=>(ai.items ok hm).aJ _) ai.bK
 |_=>exact ai.bK
theorem h_.kind{r:aa}{pd:ao}(h:E.H m (r.drop (mH (ar r)).length) pd)(aF:gX (ar r)=true):h_ E r (gY (aS true m) (ar r) r pd):=by
 have aG:∀k,r.drop k<:+r:=λk=>lK _ _
 cases a:ar r with
 |eof=>grind[gX]
 |line=>grind[gX]
 |op o=>rw[a] at h;have:gY (aS true m) (.op o) r pd=Go.Eng.ae (((aS true m).ls .paren false).aJ [41]) (λ_=>Go.Eng.jA [41]) (r.drop 1) pd:=rfl;rw[this];exact(ai.ae ok ((hm.ls _ _).aJ _) (λ_=>ai.jA ok _) _ _ h).mono (aG _)
 |word w p=>
  rw[a] at h;have:gY (aS true m) (.word w p) r pd=(if w=[123] then Go.Eng.ae (((aS true m).ls .qh false).aJ [10,125]) λ_=>Go.Eng.cZ [125]
   else if w=lV then qj (aS true m)
   else if w=nz then pG (aS true m) (aS true m).dl
   else if w=nA then qk (aS true m) (aS true m).dl
   else Go.Eng.ae (((aS true m).ls .pE false).aJ eo) λ_=>iO (aS true m) eo:ak Unit) (r.drop w.length) pd:=rfl
  rw[this];refine h_.mono ?_ (aG w.length);refine ai.ite ?_ (ai.ite (ai.cond ok hm) (ai.ite (ai.for_ ok hm) (ai.ite (ai.xd ok hm) ?_))) _ _ h
  ·exact ai.ae ok ((hm.ls _ _).aJ _) λ_=>ai.cZ ok _
  ·exact ai.ae ok ((hm.ls _ _).aJ _) λ_=>ai.body ok hm _
theorem h_.cp{r:aa}{pd:ao}(h:E.H (m+1) r pd)(a:bq r=some r)(aF:gX (ar r)=true):h_ E r ((aS true (m+1)).cp (ar r) r pd):=by
 rcases ok.comp r h.sfx a aF with b|bs
 ·have aG:r.drop (mH (ar r)).length<:+r:=lK _ _;have c:E.H m (r.drop (mH (ar r)).length) pd:=⟨aG.trans h.sfx,by have:=h.le;omega,(h.qu ok aG).q⟩;have:(aS true (m+1)).cp (ar r) r pd=((gY (aS true m) (ar r)).named (mH (ar r))) r pd:=rfl;grind[h_.kind,h_.named]
 ·exact bs _ _ (by have:=h.le;omega) h.q
theorem h_.function{u:aa}{pd:ao}(h:E.H (m+1) (40::u) pd):h_ E (40::u) (lW true (some (aS true m)) (40::u) pd):=by
 rcases ok.func u h.sfx with i|bs
 ·have hu:u<:+40::u:=ee 40 u;have b:E.H m u pd:=⟨hu.trans h.sfx,by have:=h.le;omega,(h.qu ok hu).q⟩;have e:(aS true m).has=true:=by
   cases m with
   |zero=>have:=b.pos ok;omega
   |succ _=>rfl
  unfold lW;simp only;rw[bh e];refine h_.named ?_;refine h_.mono ?_ hu;refine ai.fS ok (λt=>ai.ite (ai.b3 _) (ai.ite ?_ ai.bK)) u pd b;refine ai.ae ok (ai.dm ok _) λ_=>ai.ae ok ((ai.lines ok).aJ _) λ_=>ai.dN ok λr pd c f=>?_;by_cases ad:ar r= .eof
  ·rw[bh ad];trivial
  rw[aP ad];by_cases a:gX (ar r)=true
  ·rw[bh a];exact h_.ae (hm.cp r pd c f a) λ_ r1 aD _ d g=>(hm.rd r1 aD (c.down ok d g)).mono d
  ·rw[aP a];trivial
 ·exact bs m pd (by have:=h.le;omega) h.q
theorem ai.command:ai E (m+1) (fl true (some (aS true m)) (aS true (m+1)).dl):=by
 have hD:ai E (m+1) (aS true (m+1)).dl:=ai.RL ok (.inr ⟨m,rfl,rfl,hm⟩);refine ai.dN ok λr pd h e=>?_;by_cases ad:ar r= .eof
 ·rw[bh ad];trivial
 rw[aP ad];by_cases c:gX (ar r)=true
 ·rw[bh c];exact h_.ae (h_.cp ok hm h e c) λ_ r1 aD _ a d=>(ai.mL ok hD r1 aD (h.down ok a d)).mono a
 rw[aP c];cases g:ar r with
 |eof=>grind
 |line=>trivial
 |op o=>exact ai.ite (ai.ae ok (ai.ji ok hD) λ_=>ai.simple ok hD true) ai.bK r pd h
 |word w p=>
  refine ai.ite ai.bK (ai.ae ok (ai.ji ok hD) λb=>ai.ite (ai.simple ok hD true) (ai.ae ok (ai.cI ok hD) λ_=>ai.ite (ai.dN ok λr pd h e=>?_) (ai.simple ok hD true))) r pd h;by_cases a:ar r= .op [40]
  ·rw[bh a];obtain⟨u,rfl⟩:=(iq a).2.1;exact h_.ae (h_.function ok hm h) λ_ r1 aD _ d f=>⟨d,f⟩
  ·rw[aP a];exact ai.simple ok hD true r pd h
end
omit n in
theorem oq:∀n,xe E n
 |0=>by
  have a:∀{r pd},¬E.H 0 r pd:=λh=>by have:=h.pos ok;omega
  exact⟨λc no r pd h=>absurd h a,λr pd h=>absurd h a,λr pd h=>absurd h a,λr pd h=>absurd h a,λr pd h=>absurd h a⟩
 |m+1=>by have hm:=oq m;have hD:ai E (m+1) (aS true (m+1)).dl:=ai.RL ok (.inr ⟨m,rfl,rfl,hm⟩);exact⟨λc no=>ai.list ok (ai.pH ok (ai.pipe ok (ai.command ok hm))) c no,ai.param ok hD,λr pd h b aF=>h_.cp ok hm h b aF,ai.mL ok hD,hD⟩
end
end Go.Eng
namespace Go.Eng
open Go Go.Proofs
theorem aO{α β:Type}{m:Option α}{k:α->Option β}{y:α}(h:m=some y):au m k=k y:=by rw[h];rfl
theorem vU{α:Type}[Inhabited α]{l:List α}{k:Int}(h0:0<=k)(h:k<(l.length:Int)):l.drop k.toNat=at' l k::l.drop (k+1).toNat:=by grind[List.drop_eq_getElem_cons,at']
theorem L6{α:Type}{l:List α}{k:Int}(h0:0<=k):ch l k (l.length:Int)=l.drop k.toNat:=by simp[ch,JE]
def rI(c:UInt8):aa->bl
 |[]=>[[]]
 |b::l=>if b=c then []::rI c l else match rI c l with
  |[]=>[[b]]
  |x::xs=>(b::x)::xs
theorem X9(c:UInt8):∀(l:aa),(Lib.indexByte l c= -1/\rI c l=[l]/\l.count c=0)\/
  ∃p:Nat,Lib.indexByte l c=p/\p<l.length/\rI c l=l.take p::rI c (l.drop (p+1))/\l.count c=(l.drop (p+1)).count c+1
 |[]=> .inl ⟨rfl,rfl,rfl⟩
 |b::l=>by
  by_cases h:b=c
  ·grind[Lib.indexByte,rI]
  ·have e:(b==c)=false:=by grind
   rcases X9 c l with⟨ad,a,d⟩|⟨p,ad,a,d,f⟩
   ·grind[Lib.indexByte,rI]
   ·refine .inr ⟨p+1,?_,?_,?_,?_⟩
    ·grind[Lib.indexByte]
    ·grind
    ·grind[rI]
    grind
theorem ajP(a:bl)(s:aa)(i:Nat)(bf:i<a.length):ch (List.set a i s) 0 ((i:Int)+1)=a.take i++[s]:=by
 unfold ch;have b:((i:Int)+1).toNat=i+1:=by omega
 simp only[Jy,xI,Nat.sub_zero,b];rw[List.take_set,List.take_succ_eq_append_getElem bf,List.set_append_right _ _ (by grind)];simp only[List.length_take,Nat.min_eq_left (show i<=a.length by omega),Nat.sub_self,List.set_cons_zero]
theorem ajQ(a:bl)(s:aa)(i:Nat)(bf:i<a.length):(List.set a i s).take (i+1)=a.take i++[s]:=by rw[List.take_set,List.take_succ_eq_append_getElem bf,List.set_append_right _ _ (by grind)];simp only[List.length_take,Nat.min_eq_left (show i<=a.length by omega),Nat.sub_self,List.set_cons_zero]
theorem ajR(x0:aa)(c:UInt8)(n:Nat)(w:(x0.length:Int)<=1048576)(aw:(n:Int)=x0.count c+1)(j:aa×bl×Int->Option bl)
  (e:∀(s:aa)(a:bl)(i:Nat),a.length=n->i<n->j (s,a,(i:Int))=some (a.take i++[s])):
  ∀(m:Nat)(s:aa)(a:bl)(i:Nat),a.length=n->n=i+s.count c+1->s.length<=x0.length->(s.count c:Int)<m->0<m->
  fixF (G3 x0 [c] 0 (n:Int) j) m (s,a,(i:Int))=some (a.take i++rI c s):=by
 have kf:=List.count_le_length (a:=c) (l:=x0);have f:min (n:Int) (W ((x0.length:Int)+1))=n:=by grind[dV]
 intro m;induction m with
 |zero=>omega
 |succ m g=>
  intro s a i h bf x hm _;simp only[fixF,G3,a4,oz,f];have k:W ((n:Int)-1)=(n:Int)-1:=dV (by omega) (by omega);have o:W ((i:Int)+1)=(i:Int)+1:=dV (by omega) (by omega);rw[k];rcases X9 c s with⟨ad,b,d⟩|⟨p,ad,b,d,y⟩
  ·rw[aP (by omega),e _ _ _ h (by omega),b]
  ·rw[bh (by omega)];simp only[Pq,au,ad];have q:W ((p:Int)+0)=p:=by grind[dV]
   have r:W ((p:Int)+(([c]:aa).length:Int))=p+1:=by rw[dV (by omega) (by grind)];simp
   rw[q,r,if_neg (by omega),if_pos ⟨by omega,by omega,by omega⟩,if_pos ⟨by omega,by omega⟩,if_pos ⟨by omega,by omega,by omega⟩,o];have t:ch s ((p:Int)+1) (s.length:Int)=s.drop (p+1):=by rw[L6 (by omega)];congr 1
   have u:ch s 0 (p:Int)=s.take p:=by rfl
   have v:(((i+1:Nat)):Int)=(i:Int)+1:=by omega
   rw[t,u,<-v];rw[g (s.drop (p+1)) _ (i+1) (by grind) (by omega) (by grind) (by omega) (by omega),d];simp only[Int.toNat_natCast];rw[ajQ _ _ _ (by omega),List.append_assoc];rfl
theorem X_(x0:aa)(c:UInt8)(b:(x0.length:Int)<=1048576):DY x0 [c]=some (rI c x0):=by
 have kf:=List.count_le_length (a:=c) (l:=x0);have bs:G4 x0 [c] 0 (-1)=some (rI c x0):=by
  unfold G4;simp only[a8,Bool.cond_decide,Pr,au,Lib.countByte,a4];have d:W (((x0.count c:Nat):Int)+1)=((x0.count c+1:Nat):Int):=by grind[dV]
  have e:min ((x0.count c+1:Nat):Int) (W ((x0.length:Int)+1))=((x0.count c+1:Nat):Int):=by grind[dV]
  rw[aP (by decide),aP (by simp),bh (by decide),d,e,bh ⟨by omega,by omega⟩];have f:(List.replicate (((x0.count c+1:Nat):Int).toNat) ([]:aa)).length=x0.count c+1:=by simp
  refine Eq.trans (ajR x0 c (x0.count c+1) b (by omega) _ (λs a i h bf=>?_) bB x0 _ 0 f (by omega) (by omega) (by grind[gm]) (by simp[gm])) (by simp);have g:W ((i:Int)+1)=(i:Int)+1:=dV (by omega) (by omega);simp only[g];rw[bh ⟨by omega,by omega⟩,bh ⟨by omega,by omega,by grind⟩];grind[ajP]
 grind[DY,aO]
theorem ajS(x:aa)(ys:bl)(hl:(ys.length:Int)<=1048576)(j:Unit->Option Bool):∀(m:Nat)(k:Int),0<=k->k<=(ys.length:Int)->(ys.length:Int)-k<m->0<m->
  fixF (KH x ys j) m k=if(ys.drop k.toNat).contains x then some true else j ():=by
 intro m;induction m with
 |zero=>omega
 |succ m a=>
  intro k hk b hm _;simp only[fixF,KH,a4,oz];by_cases ad:k<(ys.length:Int)
  ·simp only[ad,hk,cH,nJ];rw[dV (by omega) (by omega),vU hk ad];grind
  ·simp only[ad,cr];grind[List.drop_eq_nil_of_le]
theorem RN(x w:aa)(a:(w.length:Int)<=1048576)(hl:((rI 32 w).length:Int)<=1048576):BG x w=some ((rI 32 w).contains x):=by unfold BG;rw[X_ w 32 a];simp only[au,a8];rw[ajS x _ hl _ bB 0 (by omega) (by omega) (by grind[gm]) (by simp[gm])];grind
theorem ajT(s p:aa):Lib.hasPrefix s p=decide (s.take p.length=p):=by unfold Lib.hasPrefix;rw[Bool.eq_iff_iff,Di,List.prefix_iff_eq_take];grind
theorem Ya(l:aa)(a:Int)(b:0<=a)(i:a<(l.length:Int))(n:(l.length:Int)<=1048576)(ys:bl)(hl:(ys.length:Int)<=1048576)(c:∀y∈ys,(y.length:Int)<=100)(j:Unit->Option aa):
  ∀(m:Nat)(k:Int),0<=k->k<=(ys.length:Int)->(ys.length:Int)-k<m->0<m->
  fixF (HO l a ys j) m k=(match(ys.drop k.toNat).find? (λy=>Lib.hasPrefix (l.drop a.toNat) y) with|some y=>some y|none=>j ())/\
  fixF (G7 l a ys j) m k=(match(ys.drop k.toNat).find? (λy=>Lib.hasPrefix (l.drop a.toNat) y) with|some y=>some y|none=>j ()):=by
 intro m;induction m with
 |zero=>omega
 |succ m d=>
  intro k hk o hm _;simp only[fixF,HO,G7,a4,oz,PA,au];by_cases ad:k<(ys.length:Int)
  ·have e:=c (at' ys k) (sU (me ⟨hk,ad⟩));simp only[ad,hk,cH,nJ];have f:W (k+1)=k+1:=dV (by omega) (by omega);have g:W ((l.length:Int)-a)=(l.length:Int)-a:=dV (by omega) (by omega);have h:W (a+((at' ys k).length:Int))=a+((at' ys k).length:Int):=dV (by omega) (by omega);obtain⟨p,q⟩:=d (k+1) (by omega) (by omega) (by omega) (by omega);rw[f,g,h,vU hk ad,L6 b];simp only[xJ,b,u5,nJ,cH,true_and,show a<=(l.length:Int) by omega];rw[ajT];have r:ch l a (a+((at' ys k).length:Int))=(l.drop a.toNat).take (at' ys k).length:=by unfold ch;congr 1;omega
   by_cases s:(l.drop a.toNat).take (at' ys k).length=at' ys k
   ·have t:((at' ys k).length:Int)<=(l.length:Int)-a:=by grind
    grind
   grind
  ·simp only[ad,cr];grind[List.drop_eq_nil_of_le]
theorem mM(b c:UInt8)(z:Int)(h:z=(c.toNat:Int)):((b.toNat:Int)=z)=(b=c):=by subst h;apply propext;grind[UInt8.toNat_inj]
theorem RO(l:aa)(c:UInt8):Lib.indexByte l c<=l.length:=by
 induction l with
 |nil=>simp[Lib.indexByte]
 |cons b l a=>grind[Lib.indexByte,List.length_cons]
end Go.Eng
