/- Part 3 of what FnWrap needs. No condition. -/
import Derived.Test.YthnjiffnjaaejaaGreatDoorFnWrapB
set_option linter.all false
namespace Go.Eng
open Go Go.Proofs
noncomputable section
theorem H0{x0:aa×Int×Int}{a2:bK}{a3:bK}{a:Nat}{r:Int×aa×Int×Int}(h:yt x0=some r):
  gN Tryz.prog 37 [.pointer a2] [lR a3 x0.1 a] [lA a2 x0 a3 a] (λ_:Unit=>True) (λ_=> .int .i64 r.1) (λ_=>[lA a2 (x0.1,r.2.2) a3 a]):=
 by
  refine V.jo (T:=ck) Tryz.call37 Tryz.func37 U λ_ _=>?_;unfold yt at h;have d:(0:Int)<=33:=by decide
  have e:(0:Int)<=45:=by decide
  refine V.jH ab 18 1 ⟨U,U,U,U,U,U,U⟩ (by kernel_rfl) ?_;refine V.e6 ab 14 1 h (ρ:=Unit) (λs q=>[(3,.v (.int .i64 s.1))]) .nil (λs q=>[lA a2 (x0.1,s.2,(W ((W (x0.2.2*6364136223846793005))+1442695040888963407))) a3 a]) ⟨U,U,U,d,U,U,U,e,U⟩ ?_ ?_
  ·intro f _ h;refine V.jH ab 1 0 U (by kernel_rfl) ?_;refine V.co ab 11 1 h ⟨U,U,U,U,U,U,U⟩ (λh=>?_) (λh=>?_)
   ·obtain⟨c,h⟩:=bB h;refine V.go ab 1 0 U ?_;refine V.jW (aT.jd 0 U λb=>V.iJ ?_);refine V.jH ab 0 0 U (by kernel_rfl) ?_;refine V.go ab 10 1 ⟨U,U,U,U,U,U,b.ix c,U⟩ ?_;refine V.toQ (k1.load ab U U U U U U U 0 U U (Int.toNat x0.2.1) 0 (at' x0.1 x0.2.1) ⟨mU c,U⟩ U U (V.s5 ?_));refine V.toQ (k1.eD ab 4 [((at' x0.1 x0.2.1).toNat:Int),(W ((W (((BitVec.ofInt (IntKind.bits .i64) (W (((BitVec.ofInt (IntKind.bits .i64) (Int.fdiv (W ((W (x0.2.2*6364136223846793005))+1442695040888963407)) (2^(min (Int.toNat 33) (IntKind.bits .i64))))^^^BitVec.ofInt (IntKind.bits .i64) (Int.fdiv (W ((W (x0.2.2*6364136223846793005))+1442695040888963407)) (2^(min (Int.toNat 45) (IntKind.bits .i64))))).toNat:Int)))&&&BitVec.ofInt (IntKind.bits .i64) 255).toNat:Int)))+((at' x0.1 x0.2.1).toNat:Int))),(W (((BitVec.ofInt (IntKind.bits .i64) (W ((W (((BitVec.ofInt (IntKind.bits .i64) (W (((BitVec.ofInt (IntKind.bits .i64) (Int.fdiv (W ((W (x0.2.2*6364136223846793005))+1442695040888963407)) (2^(min (Int.toNat 33) (IntKind.bits .i64))))^^^BitVec.ofInt (IntKind.bits .i64) (Int.fdiv (W ((W (x0.2.2*6364136223846793005))+1442695040888963407)) (2^(min (Int.toNat 45) (IntKind.bits .i64))))).toNat:Int)))&&&BitVec.ofInt (IntKind.bits .i64) 255).toNat:Int)))+((at' x0.1 x0.2.1).toNat:Int)))&&&BitVec.ofInt (IntKind.bits .i64) 255).toNat:Int)))] [(3,.v (.int .i64 (W (((BitVec.ofInt (IntKind.bits .i64) (W ((W (((BitVec.ofInt (IntKind.bits .i64) (W (((BitVec.ofInt (IntKind.bits .i64) (Int.fdiv (W ((W (x0.2.2*6364136223846793005))+1442695040888963407)) (2^(min (Int.toNat 33) (IntKind.bits .i64))))^^^BitVec.ofInt (IntKind.bits .i64) (Int.fdiv (W ((W (x0.2.2*6364136223846793005))+1442695040888963407)) (2^(min (Int.toNat 45) (IntKind.bits .i64))))).toNat:Int)))&&&BitVec.ofInt (IntKind.bits .i64) 255).toNat:Int)))+((at' x0.1 x0.2.1).toNat:Int)))&&&BitVec.ofInt (IntKind.bits .i64) 255).toNat:Int)))))] U ⟨⟨trivial,J9 _⟩,⟨trivial,U⟩,⟨trivial,U⟩,⟨U,trivial⟩⟩ (V.s5 ?_));exact V.a6 ab 12 1 h () [0] ⟨U,U,U,U,U,U,U⟩
   exact V.a6 ab 1 0 h () [0] U
  rintro⟨g,i⟩ _ h;cases h;exact V.rx ab 5 0 () [0] U
def lb(x0:aa×Int×Int)(a:Int):Option (Int×aa×Int×Int):=
 (bif(decide (a<=0)) then some (0,x0) else(bif(decide (a<=256)) then(au (yt x0) λ(b,c)=>(aZ (a≠0)<|some ((Int.tmod b a),(x0.1,c.2)))) else(au (yt x0) λ(d,e)=>(au (yt (x0.1,e.2)) λ(f,g)=>(au (yt (x0.1,g.2)) λ(h,i)=>(au (yt (x0.1,i.2)) λ(j,k)=>(aZ (a≠0)<|some ((Int.tmod (W ((W ((W ((W (d*16777216))+(W (f*65536))))+(W (h*256))))+j)) a),(x0.1,k.2)))))))))
theorem wY{x0:aa×Int×Int}{c:Int}{a3:bK}{a:bK}{b:Nat}{r:Int×aa×Int×Int}(h:lb x0 c=some r):
  gN Tryz.prog 27 [.pointer a3,.int .i64 c] [lR a x0.1 b] [lA a3 x0 a b] (λ_:Unit=>True) (λ_=> .int .i64 r.1) (λ_=>[lA a3 (x0.1,r.2.2) a b]):=
 by
  refine V.jo (T:=ck) Tryz.call27 Tryz.func27 U λ_ _=>?_;unfold lb at h;refine V.co ab 10 0 h U (λh=>?_) (λh=>?_)
  ·cases h;exact V.rx ab 4 0 () [0] U
  refine V.co ab 7 0 h U (λh=>?_) (λh=>?_)
  ·refine V.bH ab 3 0 h H0 [0] [0] U ?_;rintro⟨f,g⟩ _ h;obtain⟨d,h⟩:=bB h;cases h;exact V.rx ab 4 0 () [0] ⟨d,U⟩
  refine V.bH ab 4 0 h H0 [0] [0] U ?_;rintro⟨i,j⟩ _ h;refine V.bH ab 5 0 h H0 [0] [0] U ?_;rintro⟨k,l⟩ _ h;refine V.bH ab 5 0 h H0 [0] [0] U ?_;rintro⟨m,n⟩ _ h;refine V.bH ab 5 0 h H0 [0] [0] U ?_;rintro⟨o,p⟩ _ h;obtain⟨e,h⟩:=bB h;cases h;exact V.rx ab 18 0 () [0] ⟨e,U⟩
def Cb(R:bg)(x0:aa×Int×Int)(g:Int)(h:(aa×Int×Int)->Option (aa×aa×Int×Int))(b:(aa×Int×Int×Int)->Option (aa×aa×Int×Int)):(aa×Int×Int×Int)->Option (aa×aa×Int×Int):=λ(a,c,d,e)=>
 (bif(decide (0<c)) then(aZ (((a.length+([32]:aa).length:Nat):Int)<=9223372036854775807)<|(au (R.nJ (x0.1,d,e) g) λ(f,i)=>(aZ ((((a++([32]:aa)).length+f.length:Nat):Int)<=9223372036854775807)<|b (((a++([32]:aa))++f),(W (c-1)),i.2)))) else h (a,d,e))
def Cc(R:bg)(x0:aa×Int×Int)(l:Int):Option (aa×aa×Int×Int):=
 (au (lb x0 4) λ(c,e)=>(aZ (0<=c/\c<(([([108,115]:aa),([101,99,104,111]:aa),([99,97,116]:aa),([120,61,49]:aa)]:bt).length:Int))<|(au (lb (x0.1,e.2.1,e.2.2) 3) λ(m,f)=>(a8 (λ((a,n,o):aa×Int×Int)=>(au (lb (x0.1,n,o) 8) λ(g,b)=>(a8 (λ((d,p,q):aa×Int×Int)=>(a8 (λ(r:aa)=>some (r,(x0.1,p,q))) λh=>(bif(decide (g=1)) then(aZ (((d.length+([32,50,62,38,49]:aa).length:Nat):Int)<=9223372036854775807)<|h (d++([32,50,62,38,49]:aa))) else h d))) λi=>(bif(decide (g=0)) then(aZ (((a.length+([32,62]:aa).length:Nat):Int)<=9223372036854775807)<|(au (R.nJ (x0.1,b.2.1,b.2.2) 0) λ(j,k)=>(aZ ((((a++([32,62]:aa)).length+j.length:Nat):Int)<=9223372036854775807)<|i (((a++([32,62]:aa))++j),k.2.1,k.2.2)))) else i (a,b.2.1,b.2.2))))) λs=>(fixF (Cb R x0 l s) bC ((at' ([([108,115]:aa),([101,99,104,111]:aa),([99,97,116]:aa),([120,61,49]:aa)]:bt) c),m,f.2.1,f.2.2))))))
theorem aij{R:bg}(e:h3 R){x0:aa×Int×Int}{c:Int}{a3:bK}{a:bK}{b:Nat}{r:aa×aa×Int×Int}(h:Cc R x0 c=some r):
  gN Tryz.prog 55 [.pointer a3,.int .i64 c] [lR a x0.1 b] [lA a3 x0 a b] (λ_:Unit=>True) (λ_=> .string (a9 r.1)) (λ_=>[lA a3 (x0.1,r.2.2) a b]):=
 by
  refine V.jo (T:=ck) Tryz.call55 Tryz.func55 U λ_ _=>?_;unfold Cc at h;refine V.go ab 6 0 U ?_;refine V.cl (aI.ky U (cL.buildSlice ab U U U U U U U U U U U [] U .str [([108,115]:aa),([101,99,104,111]:aa),([99,97,116]:aa),([120,61,49]:aa)] ⟨U,U⟩ U U λu=>aI.kz (V.cz ?_)));refine V.bH ab 1 0 h wY [1] [0] U ?_;rintro⟨f,v⟩ _ h;refine V.cl (aI.jd 2 U λd=>V.cz ?_);obtain⟨g,h⟩:=bB h;refine V.go ab 1 0 ⟨d.ix g,U⟩ ?_;refine V.cl (aI.load ab U U U U U U U 2 U U (Int.toNat f) 0 (at' ([([108,115]:aa),([101,99,104,111]:aa),([99,97,116]:aa),([120,61,49]:aa)]:bt) f) ⟨mU g,U⟩ U U (V.cz ?_));refine V.bH ab 6 0 h wY [0] [0] U ?_;rintro⟨w,x⟩ _ h;refine V.db ab 2 0 h (ρ:=Unit) (λs q=>[(0,.bj ⟨a3,1,1⟩ 0),(5,.v (.string (a9 s.1)))]) .nil (λs q=>[lA a3 (x0.1,s.2) a b]) U ?_ ?_
  ·intro y _ h;refine V.e8 ab 0 0 h (ρ:=Unit) (λs q=>[(0,.bj ⟨a3,1,1⟩ 0),(1,.v (.int .i64 c)),(5,.v (.string (a9 s.1))),(6,.v (.int .i64 s.2.1))]) .nil (λs q=>[lA a3 (x0.1,s.2.2) a b]) () [0] U ?_;rintro i ⟨z,A,B,C⟩ _ h;rw[Cb] at h;refine V.co ab 6 0 h U (λh=>?_) (λh=>?_)
   ·obtain⟨j,h⟩:=bB h;refine V.bH ab 8 0 h e.nJ [0] [0] ⟨j,U⟩ ?_;rintro⟨D,E⟩ _ h;obtain⟨k,h⟩:=bB h
    try dsimp only at h
    exact V.el ab 9 0 h () [0] ⟨k,U⟩
   exact V.a6 ab 1 0 h () [0] U
  rintro⟨F,G,H⟩ _ h;refine V.bH ab 3 0 h wY [0] [0] U ?_;rintro⟨l,I⟩ _ h;refine V.e6 ab 2 0 h (ρ:=Unit) (λs q=>[(5,.v (.string (a9 s.1))),(7,.v (.int .i64 l))]) .nil (λs q=>[lA a3 (x0.1,s.2) a b]) U ?_ ?_
  ·intro J _ h;refine V.co ab 5 0 h U (λh=>?_) (λh=>?_)
   ·obtain⟨m,h⟩:=bB h;refine V.bH ab 4 0 h e.nJ [0] [0] ⟨m,U⟩ ?_;rintro⟨K,L⟩ _ h;obtain⟨n,h⟩:=bB h
    try dsimp only at h
    exact V.a6 ab 3 0 h () [0] ⟨n,U⟩
   exact V.a6 ab 1 0 h () [0] U
  rintro⟨M,o,p⟩ _ h;refine V.e6 ab 0 0 h (ρ:=Unit) (λs q=>[(5,.v (.string (a9 s)))]) .nil (λs q=>[lA a3 (x0.1,o,p) a b]) U ?_ ?_
  ·intro N _ h;refine V.co ab 5 0 h U (λh=>?_) (λh=>?_)
   ·obtain⟨t,h⟩:=bB h;exact V.a6 ab 5 0 h () [0] ⟨t,U⟩
   exact V.a6 ab 1 0 h () [0] U
  rintro O _ h;cases h;exact V.rx ab 5 0 () [0] U
def vD(R:bg)(x0:aa×Int×Int)(a:Int):Option (aa×aa×Int×Int):=
 (au (lb x0 16) λ(r,b)=>(a8 (λ(c:Int)=>(bif(decide (c=1)) then(au (R.hp (x0.1,b.2) (W (a-1)) ([])) λ(i,s)=>(aZ (((([40]:aa).length+i.length:Nat):Int)<=9223372036854775807)<|(aZ ((((([40]:aa)++i).length+([41]:aa).length:Nat):Int)<=9223372036854775807)<|some (((([40]:aa)++i)++([41]:aa)),(x0.1,s.2))))) else(bif(decide (c=2)) then(au (R.hp (x0.1,b.2) (W (a-1)) ([10]:aa)) λ(j,t)=>(aZ (((([123,32]:aa).length+j.length:Nat):Int)<=9223372036854775807)<|(aZ ((((([123,32]:aa)++j).length+([125]:aa).length:Nat):Int)<=9223372036854775807)<|some (((([123,32]:aa)++j)++([125]:aa)),(x0.1,t.2))))) else(bif(decide (c=3)) then(au (R.hp (x0.1,b.2) (W (a-1)) ([59]:aa)) λ(d,u)=>(aZ (((([105,102,32]:aa).length+d.length:Nat):Int)<=9223372036854775807)<|(aZ ((((([105,102,32]:aa)++d).length+([32,116,104,101,110,32]:aa).length:Nat):Int)<=9223372036854775807)<|(au (R.hp (x0.1,u.2) (W (a-1)) ([10]:aa)) λ(k,v)=>(aZ (((((([105,102,32]:aa)++d)++([32,116,104,101,110,32]:aa)).length+k.length:Nat):Int)<=9223372036854775807)<|(aZ ((((((([105,102,32]:aa)++d)++([32,116,104,101,110,32]:aa))++k).length+([102,105]:aa).length:Nat):Int)<=9223372036854775807)<|some (((((([105,102,32]:aa)++d)++([32,116,104,101,110,32]:aa))++k)++([102,105]:aa)),(x0.1,v.2)))))))) else(bif(decide (c=4)) then(au (R.hp (x0.1,b.2) (W (a-1)) ([10]:aa)) λ(e,w)=>(aZ (((([105,102,32,97,59,32,116,104,101,110,10]:aa).length+e.length:Nat):Int)<=9223372036854775807)<|(aZ ((((([105,102,32,97,59,32,116,104,101,110,10]:aa)++e).length+([101,108,105,102,32,98,10,116,104,101,110,32,99,10,101,108,115,101,32]:aa).length:Nat):Int)<=9223372036854775807)<|(au (R.hp (x0.1,w.2) (W (a-1)) ([59]:aa)) λ(l,x)=>(aZ (((((([105,102,32,97,59,32,116,104,101,110,10]:aa)++e)++([101,108,105,102,32,98,10,116,104,101,110,32,99,10,101,108,115,101,32]:aa)).length+l.length:Nat):Int)<=9223372036854775807)<|(aZ ((((((([105,102,32,97,59,32,116,104,101,110,10]:aa)++e)++([101,108,105,102,32,98,10,116,104,101,110,32,99,10,101,108,115,101,32]:aa))++l).length+([102,105,32,50,62,102]:aa).length:Nat):Int)<=9223372036854775807)<|some (((((([105,102,32,97,59,32,116,104,101,110,10]:aa)++e)++([101,108,105,102,32,98,10,116,104,101,110,32,99,10,101,108,115,101,32]:aa))++l)++([102,105,32,50,62,102]:aa)),(x0.1,x.2)))))))) else(bif(decide (c=5)) then(au (R.hp (x0.1,b.2) (W (a-1)) ([10]:aa)) λ(f,y)=>(aZ (((([119,104,105,108,101,32]:aa).length+f.length:Nat):Int)<=9223372036854775807)<|(aZ ((((([119,104,105,108,101,32]:aa)++f).length+([100,111,32]:aa).length:Nat):Int)<=9223372036854775807)<|(au (R.hp (x0.1,y.2) (W (a-1)) ([59]:aa)) λ(m,z)=>(aZ (((((([119,104,105,108,101,32]:aa)++f)++([100,111,32]:aa)).length+m.length:Nat):Int)<=9223372036854775807)<|(aZ ((((((([119,104,105,108,101,32]:aa)++f)++([100,111,32]:aa))++m).length+([32,100,111,110,101]:aa).length:Nat):Int)<=9223372036854775807)<|some (((((([119,104,105,108,101,32]:aa)++f)++([100,111,32]:aa))++m)++([32,100,111,110,101]:aa)),(x0.1,z.2)))))))) else(bif(decide (c=6)) then(au (R.nJ (x0.1,b.2) (W (a-1))) λ(g,A)=>(aZ (((([102,111,114,32,120,32,105,110,32,97,32]:aa).length+g.length:Nat):Int)<=9223372036854775807)<|(aZ ((((([102,111,114,32,120,32,105,110,32,97,32]:aa)++g).length+([59,32,100,111,32]:aa).length:Nat):Int)<=9223372036854775807)<|(au (R.hp (x0.1,A.2) (W (a-1)) ([59]:aa)) λ(n,B)=>(aZ (((((([102,111,114,32,120,32,105,110,32,97,32]:aa)++g)++([59,32,100,111,32]:aa)).length+n.length:Nat):Int)<=9223372036854775807)<|(aZ ((((((([102,111,114,32,120,32,105,110,32,97,32]:aa)++g)++([59,32,100,111,32]:aa))++n).length+([100,111,110,101]:aa).length:Nat):Int)<=9223372036854775807)<|some (((((([102,111,114,32,120,32,105,110,32,97,32]:aa)++g)++([59,32,100,111,32]:aa))++n)++([100,111,110,101]:aa)),(x0.1,B.2)))))))) else(bif(decide (c=7)) then some (([102,111,114,32,120,10,100,111,32,97,10,100,111,110,101]:aa),(x0.1,b.2)) else(bif(decide (c=8)) then(au (R.nJ (x0.1,b.2) (W (a-1))) λ(h,C)=>(aZ (((([99,97,115,101,32]:aa).length+h.length:Nat):Int)<=9223372036854775807)<|(aZ ((((([99,97,115,101,32]:aa)++h).length+([32,105,110,32,97,124,98,41,32]:aa).length:Nat):Int)<=9223372036854775807)<|(au (R.hp (x0.1,C.2) (W (a-1)) ([])) λ(o,D)=>(aZ (((((([99,97,115,101,32]:aa)++h)++([32,105,110,32,97,124,98,41,32]:aa)).length+o.length:Nat):Int)<=9223372036854775807)<|(aZ ((((((([99,97,115,101,32]:aa)++h)++([32,105,110,32,97,124,98,41,32]:aa))++o).length+([59,59,10,40,99,41,32,59,59,32,100,41,32,101,115,97,99]:aa).length:Nat):Int)<=9223372036854775807)<|some (((((([99,97,115,101,32]:aa)++h)++([32,105,110,32,97,124,98,41,32]:aa))++o)++([59,59,10,40,99,41,32,59,59,32,100,41,32,101,115,97,99]:aa)),(x0.1,D.2)))))))) else(bif(decide (c=9)) then(au (R.hp (x0.1,b.2) (W (a-1)) ([10]:aa)) λ(p,E)=>(aZ (((([102,40,41,32,123,10]:aa).length+p.length:Nat):Int)<=9223372036854775807)<|(aZ ((((([102,40,41,32,123,10]:aa)++p).length+([125,32,62,102]:aa).length:Nat):Int)<=9223372036854775807)<|some (((([102,40,41,32,123,10]:aa)++p)++([125,32,62,102]:aa)),(x0.1,E.2))))) else(au (Cc R (x0.1,b.2) a) λ(F,G)=>some (F,(x0.1,G.2))))))))))))) λq=>(bif(decide (a<=0)) then q 0 else q r)))
theorem ED{R:bg}(a:h3 R){x0:aa×Int×Int}{d:Int}{a3:bK}{b:bK}{c:Nat}{r:aa×aa×Int×Int}(h:vD R x0 d=some r):
  gN Tryz.prog 36 [.pointer a3,.int .i64 d] [lR b x0.1 c] [lA a3 x0 b c] (λ_:Unit=>True) (λ_=> .string (a9 r.1)) (λ_=>[lA a3 (x0.1,r.2.2) b c]):=
 by
  refine V.jo (T:=ck) Tryz.call36 Tryz.func36 U λ_ _=>?_;unfold vD at h;refine V.bH ab 7 0 h wY [0] [0] U ?_;rintro⟨J,o⟩ _ h;refine V.e6 ab 2 0 h (ρ:=Unit) (λs q=>[(0,.bj ⟨a3,1,1⟩ 0),(1,.v (.int .i64 d)),(5,.v (.int .i64 s))]) .nil (λs q=>[lA a3 (x0.1,o.2) b c]) U ?_ ?_
  ·intro K _ h;refine V.co ab 5 0 h U (λh=>?_) (λh=>?_)
   ·exact V.a6 ab 3 0 h () [0] U
   exact V.a6 ab 1 0 h () [0] U
  rintro L _ h;refine V.co ab 11 0 h U (λh=>?_) (λh=>?_)
  ·refine V.bH ab 5 0 h a.hp [0] [0] U ?_;rintro⟨M,N⟩ _ h;obtain⟨p,h⟩:=bB h;obtain⟨t,h⟩:=bB h;cases h;exact V.rx ab 4 0 () [0] ⟨p,t,U⟩
  refine V.co ab 5 0 h U (λh=>?_) (λh=>?_)
  ·refine V.bH ab 5 0 h a.hp [0] [0] U ?_;rintro⟨O,P⟩ _ h;obtain⟨u,h⟩:=bB h;obtain⟨v,h⟩:=bB h;cases h;exact V.rx ab 4 0 () [0] ⟨u,v,U⟩
  refine V.co ab 5 0 h U (λh=>?_) (λh=>?_)
  ·refine V.bH ab 5 0 h a.hp [0] [0] U ?_;rintro⟨Q,S⟩ _ h;obtain⟨w,h⟩:=bB h;obtain⟨x,h⟩:=bB h;refine V.bH ab 5 0 h a.hp [0] [0] ⟨w,x,U⟩ ?_;rintro⟨W,X⟩ _ h;obtain⟨y,h⟩:=bB h;obtain⟨z,h⟩:=bB h;cases h;exact V.rx ab 4 0 () [0] ⟨y,z,U⟩
  refine V.co ab 5 0 h U (λh=>?_) (λh=>?_)
  ·refine V.bH ab 5 0 h a.hp [0] [0] U ?_;rintro⟨Y,Z⟩ _ h;obtain⟨A,h⟩:=bB h;obtain⟨B,h⟩:=bB h;refine V.bH ab 5 0 h a.hp [0] [0] ⟨A,B,U⟩ ?_;rintro⟨gj,ee⟩ _ h;obtain⟨C,h⟩:=bB h;obtain⟨D,h⟩:=bB h;cases h;exact V.rx ab 4 0 () [0] ⟨C,D,U⟩
  refine V.co ab 5 0 h U (λh=>?_) (λh=>?_)
  ·refine V.bH ab 5 0 h a.hp [0] [0] U ?_;rintro⟨lU,iB⟩ _ h;obtain⟨e,h⟩:=bB h;obtain⟨E,h⟩:=bB h;refine V.bH ab 5 0 h a.hp [0] [0] ⟨e,E,U⟩ ?_;rintro⟨j0,fU⟩ _ h;obtain⟨F,h⟩:=bB h;obtain⟨f,h⟩:=bB h;cases h;exact V.rx ab 4 0 () [0] ⟨F,f,U⟩
  refine V.co ab 5 0 h U (λh=>?_) (λh=>?_)
  ·refine V.bH ab 5 0 h a.nJ [0] [0] U ?_;rintro⟨fV,pg⟩ _ h;obtain⟨G,h⟩:=bB h;obtain⟨H,h⟩:=bB h;refine V.bH ab 5 0 h a.hp [0] [0] ⟨G,H,U⟩ ?_;rintro⟨lZ,nL⟩ _ h;obtain⟨g,h⟩:=bB h;obtain⟨I,h⟩:=bB h;cases h;exact V.rx ab 4 0 () [0] ⟨g,I,U⟩
  refine V.co ab 5 0 h U (λh=>?_) (λh=>?_)
  ·cases h;exact V.rx ab 4 0 () [0] U
  refine V.co ab 5 0 h U (λh=>?_) (λh=>?_)
  ·refine V.bH ab 5 0 h a.nJ [0] [0] U ?_;rintro⟨jY,ue⟩ _ h;obtain⟨i,h⟩:=bB h;obtain⟨j,h⟩:=bB h;refine V.bH ab 5 0 h a.hp [0] [0] ⟨i,j,U⟩ ?_;rintro⟨jK,np⟩ _ h;obtain⟨k,h⟩:=bB h;obtain⟨l,h⟩:=bB h;cases h;exact V.rx ab 4 0 () [0] ⟨k,l,U⟩
  refine V.co ab 5 0 h U (λh=>?_) (λh=>?_)
  ·refine V.bH ab 5 0 h a.hp [0] [0] U ?_;rintro⟨nN,kP⟩ _ h;obtain⟨m,h⟩:=bB h;obtain⟨n,h⟩:=bB h;cases h;exact V.rx ab 4 0 () [0] ⟨m,n,U⟩
  refine V.bH ab 6 0 h (aij a) [0] [0] U ?_;rintro⟨m5,ko⟩ _ h;cases h;exact V.rx ab 2 0 () [0] U
def Cd(R:bg)(x0:aa×Int×Int)(f:Int)(g:(aa×Int×Int)->Option (aa×aa×Int×Int))(h:(aa×Int×Int×Int)->Option (aa×aa×Int×Int)):(aa×Int×Int×Int)->Option (aa×aa×Int×Int):=λ(a,b,c,d)=>
 (bif(decide (0<b)) then(a8 (λ((i,j,k):aa×Int×Int)=>h (i,(W (b-1)),j,k)) λl=>(au (lb (x0.1,c,d) 8) λ(y23,m)=>(aZ (0<=y23/\y23<(([([32,38,38,32]:aa),([32,124,124,32]:aa),([32,124,32]:aa),([59,32]:aa),([32,38,32]:aa),([10]:aa),([32,124,10]:aa),([59,32,35,32,114,10]:aa)]:bt).length:Int))<|(aZ (((a.length+(at' ([([32,38,38,32]:aa),([32,124,124,32]:aa),([32,124,32]:aa),([59,32]:aa),([32,38,32]:aa),([10]:aa),([32,124,10]:aa),([59,32,35,32,114,10]:aa)]:bt) y23).length:Nat):Int)<=9223372036854775807)<|(au (vD R (x0.1,m.2) f) λ(e,n)=>(aZ ((((a++(at' ([([32,38,38,32]:aa),([32,124,124,32]:aa),([32,124,32]:aa),([59,32]:aa),([32,38,32]:aa),([10]:aa),([32,124,10]:aa),([59,32,35,32,114,10]:aa)]:bt) y23)).length+e.length:Nat):Int)<=9223372036854775807)<|l (((a++(at' ([([32,38,38,32]:aa),([32,124,124,32]:aa),([32,124,32]:aa),([59,32]:aa),([32,38,32]:aa),([10]:aa),([32,124,10]:aa),([59,32,35,32,114,10]:aa)]:bt) y23))++e),n.2))))))) else g (a,c,d))
def H4(R:bg)(x0:aa×Int×Int)(a:Int)(b:aa):Option (aa×aa×Int×Int):=
 (au (vD R x0 a) λ(f,c)=>(au (lb (x0.1,c.2.1,c.2.2) 3) λ(g,d)=>(a8 (λ((e,h,i):aa×Int×Int)=>(aZ (((e.length+b.length:Nat):Int)<=9223372036854775807)<|some ((e++b),(x0.1,h,i)))) λj=>(fixF (Cd R x0 a j) bC (f,g,d.2.1,d.2.2)))))
theorem aiu{R:bg}(e:h3 R){x0:aa×Int×Int}{i:Int}{j:aa}{a:bK}{f:bK}{g:Nat}{r:aa×aa×Int×Int}(h:H4 R x0 i j=some r):
  gN Tryz.prog 26 [.pointer a,.int .i64 i,.string (a9 j)] [lR f x0.1 g] [lA a x0 f g] (λ_:Unit=>True) (λ_=> .string (a9 r.1)) (λ_=>[lA a (x0.1,r.2.2) f g]):=
 by
  refine V.jo (T:=ck) Tryz.call26 Tryz.func26 U λ_ _=>?_;unfold H4 at h;refine V.bH ab 8 0 h (ED e) [0] [0] U ?_;rintro⟨A,B⟩ _ h;refine V.bH ab 6 0 h wY [0] [0] U ?_;rintro⟨C,D⟩ _ h;refine V.db ab 2 0 h (ρ:=Unit) (λs q=>[(2,.v (.string (a9 j))),(7,.v (.string (a9 s.1)))]) .nil (λs q=>[lA a (x0.1,s.2) f g]) U ?_ ?_
  ·intro E _ h;refine V.e8 ab 0 0 h (ρ:=Unit) (λs q=>[(0,.bj ⟨a,1,1⟩ 0),(1,.v (.int .i64 i)),(2,.v (.string (a9 j))),(7,.v (.string (a9 s.1))),(8,.v (.int .i64 s.2.1))]) .nil (λs q=>[lA a (x0.1,s.2.2) f g]) () [0] U ?_;rintro x ⟨b,y,F,G⟩ _ h;rw[Cd] at h;refine V.co ab 6 0 h U (λh=>?_) (λh=>?_)
   ·refine V.aeA ab 3 0 h (ρ:=Unit) (λs q=>[(0,.bj ⟨a,1,1⟩ 0),(1,.v (.int .i64 i)),(2,.v (.string (a9 j))),(7,.v (.string (a9 s.1))),(8,.v (.int .i64 y))]) .nil (λs q=>[lA a (x0.1,s.2) f g]) U ?_ ?_
    ·intro H _ h;obtain⟨⟨y23,I⟩,w,h⟩:=jS h;obtain⟨c,h⟩:=bB h;obtain⟨k,h⟩:=bB h;obtain⟨⟨l,J⟩,m,h⟩:=jS h;obtain⟨n,h⟩:=bB h;refine V.jW (aT.r3 U .nil [] [] trivial U (λz=>?_));refine bE.eD ab gh true 8 [0,2,7,8] U (by kernel_rfl) [] [(18,.v (.string (a9 b))),(20,.bj ⟨a,1,1⟩ 0),(25,.bj ⟨a,1,1⟩ 0),(26,.v (.int .i64 i))] trivial [] U U (fE U) ?_;refine bE.all (rs:=[1,3]) (by kernel_rfl) U (xA.2 ⟨?_,xA.2 ⟨?_,(λ_ d=>absurd d qx)⟩⟩)
     ·refine cL.buildSlice ab U U U U U U U U U U U [] U .str [([32,38,38,32]:aa),([32,124,124,32]:aa),([32,124,32]:aa),([59,32]:aa),([32,38,32]:aa),([10]:aa),([32,124,10]:aa),([59,32,35,32,114,10]:aa)] ⟨U,U⟩ U U λo=>bE.next trivial [] U (bE.one 3 (by kernel_rfl) (cL.pZ U U U U (wY w) U [1] U [0] U U λ_ _=>bE.next trivial [] U (cL.jd 2 U λp=>bE.eD ab gh true 5 [4] U (by kernel_rfl) [] [(22,.bj ⟨o,([([32,38,38,32]:aa),([32,124,124,32]:aa),([32,124,32]:aa),([59,32]:aa),([32,38,32]:aa),([10]:aa),([32,124,10]:aa),([59,32,35,32,114,10]:aa)]:bt).length,([([32,38,38,32]:aa),([32,124,124,32]:aa),([32,124,32]:aa),([59,32]:aa),([32,38,32]:aa),([10]:aa),([32,124,10]:aa),([59,32,35,32,114,10]:aa)]:bt).length⟩ (Int.toNat y23*1))] trivial [] U U ⟨p.ix c,⟨U,trivial⟩⟩ ?_)));refine bE.all (rs:=[5,9]) (by kernel_rfl) U (xA.2 ⟨?_,xA.2 ⟨?_,(λ_ d=>absurd d qx)⟩⟩)
      ·refine cL.load ab U U U U U U U 2 U U (Int.toNat y23) 0 (at' ([([32,38,38,32]:aa),([32,124,124,32]:aa),([32,124,32]:aa),([59,32]:aa),([32,38,32]:aa),([10]:aa),([32,124,10]:aa),([59,32,35,32,114,10]:aa)]:bt) y23) ⟨mU c,U⟩ U U (bE.next trivial [] U (bE.eD ab gh true 3 [6] U (by kernel_rfl) [] [(24,.v (.string (a9 (b++(at' ([([32,38,38,32]:aa),([32,124,124,32]:aa),([32,124,32]:aa),([59,32]:aa),([32,38,32]:aa),([10]:aa),([32,124,10]:aa),([59,32,35,32,114,10]:aa)]:bt) y23)))))] trivial [] U U ⟨k,⟨U,trivial⟩⟩ (bE.one 9 (by kernel_rfl) (cL.pZ U U U U (ED e m) U [0] U [0] U U λ_ _=>bE.next trivial [] U (bE.eD ab gh true 0 [10,11] U (by kernel_rfl) [] [(7,.v (.string (a9 ((b++(at' ([([32,38,38,32]:aa),([32,124,124,32]:aa),([32,124,32]:aa),([59,32]:aa),([32,38,32]:aa),([10]:aa),([32,124,10]:aa),([59,32,35,32,114,10]:aa)]:bt) y23))++l))))] trivial [] U U ⟨n,⟨U,trivial⟩⟩ (bE.done (by kernel_rfl) (aT.boxes (B':= .nil) trivial (V.iJ ?_))))))));exact V.a6 ab 0 0 h () [0] U
      refine cL.pZ U U U U (ED e m) U [0] U [0] U U λ_ _=>bE.next trivial [] U (bE.one 5 (by kernel_rfl) (cL.load ab U U U U U U U 2 U U (Int.toNat y23) 0 (at' ([([32,38,38,32]:aa),([32,124,124,32]:aa),([32,124,32]:aa),([59,32]:aa),([32,38,32]:aa),([10]:aa),([32,124,10]:aa),([59,32,35,32,114,10]:aa)]:bt) y23) ⟨mU c,U⟩ U U (bE.next trivial [] U (bE.eD ab gh true 0 [6,10,11] U (by kernel_rfl) [] [(7,.v (.string (a9 ((b++(at' ([([32,38,38,32]:aa),([32,124,124,32]:aa),([32,124,32]:aa),([59,32]:aa),([32,38,32]:aa),([10]:aa),([32,124,10]:aa),([59,32,35,32,114,10]:aa)]:bt) y23))++l))))] trivial [] U U ⟨k,n,⟨U,trivial⟩⟩ (bE.done (by kernel_rfl) (aT.boxes (B':= .nil) trivial (V.iJ ?_)))))));exact V.a6 ab 0 0 h () [0] U
     refine cL.pZ U U U U (wY w) U [0] U [0] U U λ_ _=>bE.next trivial [] U ?_;refine bE.all (rs:=[1,9]) (by kernel_rfl) U (xA.2 ⟨?_,xA.2 ⟨?_,(λ_ d=>absurd d qx)⟩⟩)
     ·refine cL.buildSlice ab U U U U U U U U U U U [] U .str [([32,38,38,32]:aa),([32,124,124,32]:aa),([32,124,32]:aa),([59,32]:aa),([32,38,32]:aa),([10]:aa),([32,124,10]:aa),([59,32,35,32,114,10]:aa)] ⟨U,U⟩ U U λo=>bE.next trivial [] U (cL.jd 1 U λt=>bE.eD ab gh true 5 [4] U (by kernel_rfl) [] [(22,.bj ⟨o,([([32,38,38,32]:aa),([32,124,124,32]:aa),([32,124,32]:aa),([59,32]:aa),([32,38,32]:aa),([10]:aa),([32,124,10]:aa),([59,32,35,32,114,10]:aa)]:bt).length,([([32,38,38,32]:aa),([32,124,124,32]:aa),([32,124,32]:aa),([59,32]:aa),([32,38,32]:aa),([10]:aa),([32,124,10]:aa),([59,32,35,32,114,10]:aa)]:bt).length⟩ (Int.toNat y23*1))] trivial [] U U ⟨t.ix c,⟨U,trivial⟩⟩ ?_);refine bE.all (rs:=[5,9]) (by kernel_rfl) U (xA.2 ⟨?_,xA.2 ⟨?_,(λ_ d=>absurd d qx)⟩⟩)
      ·refine cL.load ab U U U U U U U 1 U U (Int.toNat y23) 0 (at' ([([32,38,38,32]:aa),([32,124,124,32]:aa),([32,124,32]:aa),([59,32]:aa),([32,38,32]:aa),([10]:aa),([32,124,10]:aa),([59,32,35,32,114,10]:aa)]:bt) y23) ⟨mU c,U⟩ U U (bE.next trivial [] U (bE.eD ab gh true 3 [6] U (by kernel_rfl) [] [(24,.v (.string (a9 (b++(at' ([([32,38,38,32]:aa),([32,124,124,32]:aa),([32,124,32]:aa),([59,32]:aa),([32,38,32]:aa),([10]:aa),([32,124,10]:aa),([59,32,35,32,114,10]:aa)]:bt) y23)))))] trivial [] U U ⟨k,⟨U,trivial⟩⟩ (bE.one 9 (by kernel_rfl) (cL.pZ U U U U (ED e m) U [1] U [0] U U λ_ _=>bE.next trivial [] U (bE.eD ab gh true 0 [10,11] U (by kernel_rfl) [] [(7,.v (.string (a9 ((b++(at' ([([32,38,38,32]:aa),([32,124,124,32]:aa),([32,124,32]:aa),([59,32]:aa),([32,38,32]:aa),([10]:aa),([32,124,10]:aa),([59,32,35,32,114,10]:aa)]:bt) y23))++l))))] trivial [] U U ⟨n,⟨U,trivial⟩⟩ (bE.done (by kernel_rfl) (aT.boxes (B':= .nil) trivial (V.iJ ?_))))))));exact V.a6 ab 0 0 h () [0] U
      refine cL.pZ U U U U (ED e m) U [1] U [0] U U λ_ _=>bE.next trivial [] U (bE.one 5 (by kernel_rfl) (cL.load ab U U U U U U U 2 U U (Int.toNat y23) 0 (at' ([([32,38,38,32]:aa),([32,124,124,32]:aa),([32,124,32]:aa),([59,32]:aa),([32,38,32]:aa),([10]:aa),([32,124,10]:aa),([59,32,35,32,114,10]:aa)]:bt) y23) ⟨mU c,U⟩ U U (bE.next trivial [] U (bE.eD ab gh true 0 [6,10,11] U (by kernel_rfl) [] [(7,.v (.string (a9 ((b++(at' ([([32,38,38,32]:aa),([32,124,124,32]:aa),([32,124,32]:aa),([59,32]:aa),([32,38,32]:aa),([10]:aa),([32,124,10]:aa),([59,32,35,32,114,10]:aa)]:bt) y23))++l))))] trivial [] U U ⟨k,n,⟨U,trivial⟩⟩ (bE.done (by kernel_rfl) (aT.boxes (B':= .nil) trivial (V.iJ ?_)))))));exact V.a6 ab 0 0 h () [0] U
     refine cL.pZ U U U U (ED e m) U [0] U [0] U U λ_ _=>bE.next trivial [] U (bE.one 1 (by kernel_rfl) (cL.buildSlice ab U U U U U U U U U U U [] U .str [([32,38,38,32]:aa),([32,124,124,32]:aa),([32,124,32]:aa),([59,32]:aa),([32,38,32]:aa),([10]:aa),([32,124,10]:aa),([59,32,35,32,114,10]:aa)] ⟨U,U⟩ U U λo=>bE.next trivial [] U (cL.jd 1 U λu=>bE.eD ab gh true 4 [4] U (by kernel_rfl) [] [(22,.bj ⟨o,([([32,38,38,32]:aa),([32,124,124,32]:aa),([32,124,32]:aa),([59,32]:aa),([32,38,32]:aa),([10]:aa),([32,124,10]:aa),([59,32,35,32,114,10]:aa)]:bt).length,([([32,38,38,32]:aa),([32,124,124,32]:aa),([32,124,32]:aa),([59,32]:aa),([32,38,32]:aa),([10]:aa),([32,124,10]:aa),([59,32,35,32,114,10]:aa)]:bt).length⟩ (Int.toNat y23*1))] trivial [] U U ⟨u.ix c,⟨U,trivial⟩⟩ (bE.one 5 (by kernel_rfl) (cL.load ab U U U U U U U 1 U U (Int.toNat y23) 0 (at' ([([32,38,38,32]:aa),([32,124,124,32]:aa),([32,124,32]:aa),([59,32]:aa),([32,38,32]:aa),([10]:aa),([32,124,10]:aa),([59,32,35,32,114,10]:aa)]:bt) y23) ⟨mU c,U⟩ U U (bE.next trivial [] U (bE.eD ab gh true 0 [6,10,11] U (by kernel_rfl) [] [(7,.v (.string (a9 ((b++(at' ([([32,38,38,32]:aa),([32,124,124,32]:aa),([32,124,32]:aa),([59,32]:aa),([32,38,32]:aa),([10]:aa),([32,124,10]:aa),([59,32,35,32,114,10]:aa)]:bt) y23))++l))))] trivial [] U U ⟨k,n,⟨U,trivial⟩⟩ (bE.done (by kernel_rfl) (aT.boxes (B':= .nil) trivial (V.iJ ?_))))))))));exact V.a6 ab 0 0 h () [1] U
    rintro⟨K,L,M⟩ _ h
    try dsimp only at h
    exact V.el ab 6 0 h () [0] U
   exact V.a6 ab 1 0 h () [0] U
  rintro⟨N,O,P⟩ _ h;obtain⟨v,h⟩:=bB h;cases h;exact V.rx ab 7 0 () [0] ⟨v,U⟩
def H6(R:bg)(x0:aa×Int×Int)(c:Int):Option (aa×aa×Int×Int):=
 (au (lb x0 14) λ(h,a)=>(a8 (λ(b:Int)=>(bif(decide (b=1)) then some (([39,113,32,114,39]:aa),(x0.1,a.2)) else(bif(decide (b=2)) then some (([34,97,32,98,34]:aa),(x0.1,a.2)) else(bif(decide (b=3)) then some (([97,92,32,98]:aa),(x0.1,a.2)) else(bif(decide (b=4)) then some (([36,120]:aa),(x0.1,a.2)) else(bif(decide (b=5)) then some (([36,40,40,49,43,40,50,41,41,41]:aa),(x0.1,a.2)) else(bif(decide (b=6)) then some (([96,99,32,100,96]:aa),(x0.1,a.2)) else(bif(decide (b=7)) then some (([45,108]:aa),(x0.1,a.2)) else(bif(decide (b=8)) then(au (R.hp (x0.1,a.2) (W (c-1)) ([])) λ(d,j)=>(aZ (((([36,40]:aa).length+d.length:Nat):Int)<=9223372036854775807)<|(aZ ((((([36,40]:aa)++d).length+([41]:aa).length:Nat):Int)<=9223372036854775807)<|some (((([36,40]:aa)++d)++([41]:aa)),(x0.1,j.2))))) else(bif(decide (b=9)) then(au (R.hp (x0.1,a.2) (W (c-1)) ([])) λ(e,k)=>(aZ (((([34,120,36,40]:aa).length+e.length:Nat):Int)<=9223372036854775807)<|(aZ ((((([34,120,36,40]:aa)++e).length+([41,34]:aa).length:Nat):Int)<=9223372036854775807)<|some (((([34,120,36,40]:aa)++e)++([41,34]:aa)),(x0.1,k.2))))) else(bif(decide (b=10)) then(au (R.nJ (x0.1,a.2) (W (c-1))) λ(f,l)=>(aZ (((([36,123,120,58,45]:aa).length+f.length:Nat):Int)<=9223372036854775807)<|(aZ ((((([36,123,120,58,45]:aa)++f).length+([125]:aa).length:Nat):Int)<=9223372036854775807)<|some (((([36,123,120,58,45]:aa)++f)++([125]:aa)),(x0.1,l.2))))) else(bif(decide (b=11)) then some (([97,92,10,98]:aa),(x0.1,a.2)) else(au (lb (x0.1,a.2) 7) λ(g,m)=>(aZ (0<=g/\g<(([([97]:aa),([98,49]:aa),([120,61,49]:aa),([102,105,108,101]:aa),([195,169]:aa),([105,110]:aa),([97,35,98]:aa)]:bt).length:Int))<|some ((at' ([([97]:aa),([98,49]:aa),([120,61,49]:aa),([102,105,108,101]:aa),([195,169]:aa),([105,110]:aa),([97,35,98]:aa)]:bt) g),(x0.1,m.2)))))))))))))))) λi=>(bif(bif(decide (c<=0)) then(decide (8<=h)) else false) then i 0 else i h)))
theorem aiz{R:bg}(c:h3 R){x0:aa×Int×Int}{d:Int}{a3:bK}{a:bK}{b:Nat}{r:aa×aa×Int×Int}(h:H6 R x0 d=some r):
  gN Tryz.prog 54 [.pointer a3,.int .i64 d] [lR a x0.1 b] [lA a3 x0 a b] (λ_:Unit=>True) (λ_=> .string (a9 r.1)) (λ_=>[lA a3 (x0.1,r.2.2) a b]):=
 by
  refine V.jo (T:=ck) Tryz.call54 Tryz.func54 U λ_ _=>?_;unfold H6 at h;refine V.bH ab 7 0 h wY [0] [0] U ?_;rintro⟨p,i⟩ _ h;refine V.e6 ab 2 0 h (ρ:=Unit) (λs q=>[(0,.bj ⟨a3,1,1⟩ 0),(1,.v (.int .i64 d)),(5,.v (.int .i64 s))]) .nil (λs q=>[lA a3 (x0.1,i.2) a b]) U ?_ ?_
  ·intro t _ h;refine V.co ab 9 0 h U (λh=>?_) (λh=>?_)
   ·exact V.a6 ab 3 0 h () [0] U
   exact V.a6 ab 1 0 h () [0] U
  rintro u _ h;refine V.co ab 11 0 h U (λh=>?_) (λh=>?_)
  ·cases h;exact V.rx ab 4 0 () [0] U
  refine V.co ab 5 0 h U (λh=>?_) (λh=>?_)
  ·cases h;exact V.rx ab 4 0 () [0] U
  refine V.co ab 5 0 h U (λh=>?_) (λh=>?_)
  ·cases h;exact V.rx ab 4 0 () [0] U
  refine V.co ab 5 0 h U (λh=>?_) (λh=>?_)
  ·cases h;exact V.rx ab 4 0 () [0] U
  refine V.co ab 5 0 h U (λh=>?_) (λh=>?_)
  ·cases h;exact V.rx ab 4 0 () [0] U
  refine V.co ab 5 0 h U (λh=>?_) (λh=>?_)
  ·cases h;exact V.rx ab 4 0 () [0] U
  refine V.co ab 5 0 h U (λh=>?_) (λh=>?_)
  ·cases h;exact V.rx ab 4 0 () [0] U
  refine V.co ab 5 0 h U (λh=>?_) (λh=>?_)
  ·refine V.bH ab 5 0 h c.hp [0] [0] U ?_;rintro⟨v,w⟩ _ h;obtain⟨j,h⟩:=bB h;obtain⟨k,h⟩:=bB h;cases h;exact V.rx ab 4 0 () [0] ⟨j,k,U⟩
  refine V.co ab 5 0 h U (λh=>?_) (λh=>?_)
  ·refine V.bH ab 5 0 h c.hp [0] [0] U ?_;rintro⟨x,y⟩ _ h;obtain⟨l,h⟩:=bB h;obtain⟨m,h⟩:=bB h;cases h;exact V.rx ab 4 0 () [0] ⟨l,m,U⟩
  refine V.co ab 5 0 h U (λh=>?_) (λh=>?_)
  ·refine V.bH ab 5 0 h c.nJ [0] [0] U ?_;rintro⟨z,A⟩ _ h;obtain⟨n,h⟩:=bB h;obtain⟨o,h⟩:=bB h;cases h;exact V.rx ab 4 0 () [0] ⟨n,o,U⟩
  refine V.co ab 5 0 h U (λh=>?_) (λh=>?_)
  ·cases h;exact V.rx ab 4 0 () [0] U
  refine V.go ab 4 0 U ?_;refine V.cl (aI.ky U (cL.buildSlice ab U U U U U U U U U U U [] U .str [([97]:aa),([98,49]:aa),([120,61,49]:aa),([102,105,108,101]:aa),([195,169]:aa),([105,110]:aa),([97,35,98]:aa)] ⟨U,U⟩ U U λB=>aI.kz (V.cz ?_)));refine V.bH ab 1 0 h wY [1] [0] U ?_;rintro⟨f,C⟩ _ h;refine V.cl (aI.jd 2 U λe=>V.cz ?_);obtain⟨g,h⟩:=bB h;refine V.go ab 1 0 ⟨e.ix g,U⟩ ?_;refine V.cl (aI.load ab U U U U U U U 2 U U (Int.toNat f) 0 (at' ([([97]:aa),([98,49]:aa),([120,61,49]:aa),([102,105,108,101]:aa),([195,169]:aa),([105,110]:aa),([97,35,98]:aa)]:bt) f) ⟨mU g,U⟩ U U (V.cz ?_));cases h;exact V.rx ab 2 0 () [0] U
def kD:Nat->bg
 |0=>⟨λ_ _ _=>none,λ_ _ _=>none,λ_ _ _ _=>none,λ_=>none,λ_ _ _=>none,λ_ _=>none⟩
 |n+1=>⟨D_ (kD n),Hx (kD n),EA (kD n),HZ (kD n),H4 (kD n),H6 (kD n)⟩
theorem Ce:∀n,h3 (kD n)
 |0=>⟨λh=>(C_ _ (Eq.symm (show none=some _ from h))).elim,λh=>(C_ _ (Eq.symm (show none=some _ from h))).elim,λh=>(C_ _ (Eq.symm (show none=some _ from h))).elim,λh=>(C_ _ (Eq.symm (show none=some _ from h))).elim,λh=>(C_ _ (Eq.symm (show none=some _ from h))).elim,λh=>(C_ _ (Eq.symm (show none=some _ from h))).elim⟩
 |n+1=>⟨agq (Ce n),agG (Ce n),ah2 (Ce n),aic (Ce n),aiu (Ce n),aiz (Ce n)⟩
def sn:bg:=kD bC
theorem LI:h3 sn:=Ce bC
def LJ(x0:aa)(d:Int->Option (aa×Int×Int))(b:(Int×Int)->Option (aa×Int×Int)):(Int×Int)->Option (aa×Int×Int):=λ(c,a)=>
 (bif(bif(decide (a<(x0.length:Int))) then(decide (a<4000)) else false) then(aZ (0<=a/\a<(x0.length:Int))<|b ((W (((BitVec.ofInt (IntKind.bits .i64) (W ((W ((W (c*137))+((at' x0 a).toNat:Int)))+7))&&&BitVec.ofInt (IntKind.bits .i64) 1073741823).toNat:Int))),(W (a+1)))) else d c)
def EE(x0:aa):Option (aa×Int×Int):=
 (a8 (λ(a:Int)=>some (x0,0,a)) λb=>(fixF (LJ x0 b) bC ((W (600128+(x0.length:Int))),0)))
theorem aiC{x0:aa}{a2:bK}{a:Nat}{r:aa×Int×Int}(h:EE x0=some r):
  FC Tryz.prog 20 [.slice a2 x0.length a] [lR a2 x0 a] (λ_:bK=>True) (λq=> .pointer q) (λq=>[lA q (x0,r.2) a2 a]):=
 by
  refine V.fI (T:=ck) Tryz.call20 Tryz.func20 U λ_=>?_;unfold EE at h;refine V.db ab 16 0 h (ρ:=Unit) (λs q=>[(0,.v (.slice a2 x0.length a)),(3,.v (.int .i64 s))]) .nil (λs q=>[]) U ?_ ?_
  ·intro j _ h;refine V.e8 ab 0 0 h (ρ:=Unit) (λs q=>[(0,.v (.slice a2 x0.length a)),(3,.v (.int .i64 s.1)),(4,.v (.int .i64 s.2))]) .nil (λs q=>[]) () [] U ?_;rintro i ⟨c,b⟩ _ h;rw[LJ] at h;refine V.co ab 12 0 h U (λh=>?_) (λh=>?_)
   ·refine V.go ab 4 0 U ?_;refine V.cl (aI.jd 0 U λe=>V.cz ?_);obtain⟨g,h⟩:=bB h;refine V.go ab 5 0 ⟨e.ix g,U⟩ ?_;refine V.cl (aI.load ab U U U U U U U 0 U U (Int.toNat b) 0 (at' x0 b) ⟨mU g,U⟩ U U (V.cz ?_));refine V.cl (aI.eD ab 5 [((at' x0 b).toNat:Int),(W ((W (c*137))+((at' x0 b).toNat:Int))),(W ((W ((W (c*137))+((at' x0 b).toNat:Int)))+7)),(W (((BitVec.ofInt (IntKind.bits .i64) (W ((W ((W (c*137))+((at' x0 b).toNat:Int)))+7))&&&BitVec.ofInt (IntKind.bits .i64) 1073741823).toNat:Int)))] [] [(3,.v (.int .i64 (W (((BitVec.ofInt (IntKind.bits .i64) (W ((W ((W (c*137))+((at' x0 b).toNat:Int)))+7))&&&BitVec.ofInt (IntKind.bits .i64) 1073741823).toNat:Int)))))] _ U ⟨⟨trivial,J9 _⟩,⟨trivial,U⟩,⟨trivial,U⟩,⟨trivial,U⟩,⟨U,trivial⟩,U⟩ (V.cz ?_));exact V.el ab 7 0 h () [] U
   exact V.a6 ab 1 0 h () [] U
  rintro f _ h;refine V.jW (aT.DA ab 5 [] [9] [(2,.eX 9 0),(31,.eX 9 0)] (.new 9 36 [.slice a2 x0.length a,.int .i64 0,.int .i64 f] .nil) ⟨(fE U),(jv U U)⟩ U U (V.iJ ?_));refine V.jW (aT.unbox 9 U (B':= .nil) trivial U (.pair .val (.pair (.int .i64) (.int .i64))) ((bz.v ⟨a2,x0.length,a⟩),0,f) ⟨U,U,U⟩ (λd=>[(0,.v (.slice a2 x0.length a)),(2,.bj ⟨d,1,1⟩ 0),(3,.v (.int .i64 f)),(31,.bj ⟨d,1,1⟩ 0)]) (λ_=>(fE U)) λd=>V.iJ ?_);cases h;exact V.rt ab 0 0 d [0] U
def Cf(x0:aa):Option aa:=
 (au (EE x0) λ(d:aa×Int×Int)=>(au (sn.hp (x0,d.2) 3 ([])) λ(a,e)=>(a8 (λ((f,h,i):aa×Int×Int)=>some f) λb=>(au (lb (x0,e.2) 4) λ(g,c)=>(bif(decide (g=0)) then(aZ (((([99,97,116,32,60,60,69,59,32]:aa).length+a.length:Nat):Int)<=9223372036854775807)<|(aZ ((((([99,97,116,32,60,60,69,59,32]:aa)++a).length+([10,98,111,100,121,10,69,10]:aa).length:Nat):Int)<=9223372036854775807)<|b (((([99,97,116,32,60,60,69,59,32]:aa)++a)++([10,98,111,100,121,10,69,10]:aa)),c.2))) else b (a,c.2))))))
theorem Xc{x0:aa}{a2:bK}{a:Nat}{r:aa}(h:Cf x0=some r):
  FC Tryz.prog 17 [.slice a2 x0.length a] [lR a2 x0 a] (λ_:Unit=>True) (λ_=> .string (a9 r)) (λ_=>[]):=
 by
  refine V.fI (T:=ck) Tryz.call17 Tryz.func17 U λ_=>?_;unfold Cf at h;refine V.cM ab 7 0 h aiC [0] U λe b h=>?_;refine V.cl (aI.ptr 6 b U (V.cz ?_));refine V.bH ab 5 0 h LI.hp [0] [0] U ?_;rintro⟨f,g⟩ _ h;refine V.e6 ab 2 0 h (ρ:=Unit) (λs q=>[(4,.v (.string (a9 s.1)))]) .nil (λs q=>[lA b (x0,s.2) a2 a]) U ?_ ?_
  ·intro i _ h;refine V.bH ab 3 0 h wY [0] [0] U ?_;rintro⟨j,k⟩ _ h;refine V.co ab 2 0 h U (λh=>?_) (λh=>?_)
   ·obtain⟨c,h⟩:=bB h;obtain⟨d,h⟩:=bB h;exact V.a6 ab 6 0 h () [0] ⟨c,d,U⟩
   exact V.a6 ab 1 0 h () [0] U
  rintro⟨l,m,n⟩ _ h;cases h;exact V.rt ab 5 0 () [] U
def H7(x0:aa)(a:aa):Option Bool:=
 (aZ (((decide ((a.length:Int)<=(x0.length:Int)))=true)->0<=(W ((x0.length:Int)- (a.length:Int)))/\(W ((x0.length:Int)- (a.length:Int)))<=(x0.length:Int)/\(x0.length:Int)<=(x0.length:Int))<|some (bif(decide ((a.length:Int)<=(x0.length:Int))) then(decide ((cg x0 (W ((x0.length:Int)- (a.length:Int))) (x0.length:Int))=a)) else false))
theorem aiE{x0:aa}{a:aa}{r:Bool}(h:H7 x0 a=some r):
  FC Tryz.prog 35 [.string (a9 x0),.string (a9 a)] [] (λ_:Unit=>True) (λ_=> .bool r) (λ_=>[]):=
 by refine V.fI (T:=ck) Tryz.call35 Tryz.func35 U λ_=>?_;unfold H7 at h;obtain⟨b,h⟩:=bB h;cases h;exact V.rt ab 24 0 () [] ⟨b,U⟩
def LK(x0:aa)(a:aa):Option Bool:=
 (au (H7 x0 a) λ(b:Bool)=>some b)
theorem aiF{x0:aa}{a:aa}{r:Bool}(h:LK x0 a=some r):
  FC Tryz.prog 25 [.string (a9 x0),.string (a9 a)] [] (λ_:Unit=>True) (λ_=> .bool r) (λ_=>[]):=
 by refine V.fI (T:=ck) Tryz.call25 Tryz.func25 U λ_=>?_;unfold LK at h;refine V.cM ab 8 0 h aiE [] U λb _ h=>?_;cases h;exact V.rt ab 2 0 () [] U
def EF(x0:aa):Option aa:=
 (au (LK x0 ([10]:aa)) λ(a:Bool)=>(bif a then some x0 else(aZ (((x0.length+([10]:aa).length:Nat):Int)<=9223372036854775807)<|some (x0++([10]:aa)))))
theorem Xd{x0:aa}{r:aa}(h:EF x0=some r):
  FC Tryz.prog 13 [.string (a9 x0)] [] (λ_:Unit=>True) (λ_=> .string (a9 r)) (λ_=>[]):=
 by
  refine V.fI (T:=ck) Tryz.call13 Tryz.func13 U λ_=>?_;unfold EF at h;refine V.cM ab 8 0 h aiF [] U λb _ h=>?_;refine V.co ab 1 0 h U (λh=>?_) (λh=>?_)
  ·cases h;exact V.rt ab 5 0 () [] U
  obtain⟨a,h⟩:=bB h;cases h;exact V.rt ab 7 0 () [] ⟨a,U⟩
theorem aiG(aA a b:bK)(w:World):CallsD Tryz.prog 29 #[.pointer aA,.pointer a,.pointer b] .returning w λe c w'=>e= .returned (.tuple #[])/\c= .returning/\w'=w:=by refine callsD_of_wpS Tryz.func29 U λd cs hu=>?_;apply wpS_seq;apply wpS_region;simp[wpOpsS,go_sem,recoverD,hu,Tryz.ntmps29,Exit.thenS];apply wpS_seq;apply wpS_region;simp[wpOpsS,go_sem,recoverD,hu,Tryz.ntmps29,Exit.thenS,Op.equal];refine wpS_cond (t:=false) (by simp[Act.eval,Array.replicate]) ?_;simp only[eB,cn];refine wpS_of_wp (wp_skip ?_);cases d;simp_all [bodyPostS,results,Tryz.results29]
theorem Q_:∀{e:Env}{t:Nat}{x:eW},c7 e t=some x->(t,x)∈e
 |[],t,x,h=>by simp[c7] at h
 |(k,y)::r,t,x,h=>by
  simp only[c7] at h;cases hk:Nat.beq k t with
  |true=>rw[hk,aJ] at h;have:=wc hk;cases h;subst this;exact List.mem_cons_self
  |false=>rw[hk,aU] at h;exact NG _ (Q_ h)
theorem aT.enter{P:Program}{T:dR}{X:bo}{w0:World}{nt:Nat}{x:Code}{Q:Exit->Act->World->Prop}{a:Act}{w:World}(β:Nat->Nat)(e:Env){O:ba}
  (he:∀p∈e,p.1<a.tmps.size/\p.2.is β a (a.tmps.getD p.1 undef)) (hf:e.all (λp=>flat p.2)=true) (aw:a.tmps.size=nt) (aG:a.defers=[])
  (hk:Keep X w0 w) {L:bo} (g:gx w O L) (c:L.Nodup) (bk:∀b∈L,w0.heap.size<=b\/b∈X)
  (h:∀fin,fin=Q->aT {P,T,X,w0,nt,fin} [.c x] e .nil [] O):x.wp P Q a w:=by
 have:=h Q U a w β ⟨λt y d=>he _ (Q_ d),λt y d=>oZ.1 hf _ (Q_ d),aw,aG,⟨hk,?_,L,g,by simpa[bN.ids] using c,λb i=>bk b (by simpa[bN.ids] using i),λf hf=>by cases hf⟩⟩
 ·refine wp_mono (show x.wp P (hN {P,T,X,w0,nt,fin:=Q} []) a w from this) ?_;intro e a w h;exact h
 ·intro k hk;simp[bN.ids] at hk
theorem aiH(code c:Int)(s:aa)(p:Int)(o:Value)(n:Int)(c2:bK)(lo g:Nat)(k:Int)(u x:Int)(y:Value)(aA i j f:bK)(w:World)(L:bo)
  (D:gx w [⟨.val,⟨aA,1,1⟩,[.pointer f]⟩,⟨.pair (.int .i64) (.int .i64),⟨i,1,1⟩,[(u,x)]⟩,⟨.val,⟨j,1,1⟩,[y]⟩,⟨DF,⟨f,1,1⟩,[(s,p,o,n,(bz.v ⟨c2,lo,g⟩),k)]⟩] L) (q:L.Nodup):
  CallsD Tryz.prog 29 #[.pointer aA,.pointer i,.pointer j] (.panicking [{v:= .iface 39 (.agg #[.int .i64 code,.int .i64 c]),recovered:=false}]) w λe E w'=>
   E= .panicking [{v:= .iface 39 (.agg #[.int .i64 code,.int .i64 c]),recovered:=true}]/\e= .returned (.tuple #[])/\Keep L w w'/\
   ∃L',gx w' [⟨.val,⟨aA,1,1⟩,[.pointer f]⟩,⟨.pair (.int .i64) (.int .i64),⟨i,1,1⟩,[(code,c)]⟩,⟨.val,⟨j,1,1⟩,[bz.v ⟨c2,lo,g⟩]⟩,⟨DF,⟨f,1,1⟩,[(s,p,o,n,(bz.v ⟨c2,lo,g⟩),k)]⟩] L'/\L'.Nodup/\∀b∈L',b∈L\/w.heap.size<=b:=by
 refine callsD_of_wpS Tryz.func29 U λH cs hu=>?_;apply wpS_seq;apply wpS_region;simp[wpOpsS,go_sem,recoverD,hu,Tryz.ntmps29,Exit.thenS];refine wpS_of_wp ?_;refine aT.enter (T:=ck) (X:=L) (w0:=w) (nt:=22) (λ_=>0) [(3,.v (.iface 39 (.agg #[.int .i64 code,.int .i64 c]))),(0,.v (.pointer aA)),(1,.v (.pointer i)),(2,.v (.pointer j))] ?_ U (by simp) U (Keep.refl _ _) D q (λb r=> .inr r) ?_
 ·simp[eW.is]
 intro fin z;have m:wy {P:=Tryz.prog,T:=ck,X:=L,w0:=w,nt:=22,fin:=fin}:=by subst z;intro I d v a w h;obtain⟨ad,F⟩:=h;exact⟨by rw[put_defers] at ad;exact ad,F⟩
 refine aT.ptr 0 aA U (aT.ptr 1 i U (aT.ptr 2 j U ?_));refine aT.seq (aT.region (aI.eD ab 1 [] [] [(7,.v (.iface 39 (.agg #[.int .i64 code,.int .i64 c])))] _ U ⟨⟨U,trivial⟩,U⟩ (aI.aem U U ⟨_,U⟩ U U Tryz.underlying20 ⟨_,U⟩ U (aI.done U ?_))));refine aT.cond U (λl=>?_) (λl=>absurd l (by decide));refine aT.seq (aT.region (aI.eD ab 1 [] [] [(10,.v (.iface 39 (.agg #[.int .i64 code,.int .i64 c])))] _ U ⟨⟨U,trivial⟩,U⟩ (aI.aen ab U U U U U U U U ?_)));refine aI.o_ ab 6 [] [1] [(4,.eX 1 0),(5,.v (.bool true))] (.new 1 39 [.int .i64 code,.int .i64 c] .nil) U ⟨fE U,jv U U⟩ (aI.done U ?_);refine aT.seq (aT.seq (aT.region (aI.eD ab 2 [] [] [(15,.v (.bool false))] _ U ⟨⟨U,trivial⟩,U⟩ (aI.done U ?_))));refine aT.cond U (λl=>absurd l (by decide)) (λl=>aT.skip ?_);refine aT.jd 3 U λhk=>?_;refine aT.r3 U (.new 1 39 [.int .i64 code,.int .i64 c] .nil) [0,3] [5,6] (jv U U) U (λJ=>?_);refine bE.eD ab m true 6 [0] U (by kernel_rfl) [] [(17,.v (.agg #[.int .i64 code,.int .i64 c]))] (jv U U) [0,3] U U ⟨U,trivial⟩ ?_;refine bE.kJ ab m 1 U (by kernel_rfl) U U U U U 0 U U 0 0 (.pointer f) ⟨U,U⟩ U U U (jv U U) [0,3] U ?_;refine cL.ptr 18 f U ?_;refine bE.eD ab m true 3 [2,3] U (by kernel_rfl) [] [(20,.bj ⟨f,1,1⟩ 4)] (jv U U) [0,3] U U ⟨(hk.fS fT).1,hk.fS fT,⟨U,trivial⟩⟩ ?_;refine bE.kJ ab m 4 U (by kernel_rfl) U U U U U 1 U U 0 4 (s,p,o,n,(bz.v ⟨c2,lo,g⟩),k) ⟨U,U⟩ U U U (jv U U) [0,3] U ?_;refine bE.one 5 (by kernel_rfl) (cL.qE ab U U U U U U U U U [1] (fs:=[]) U 0 0 (u,x) (code,c) ⟨U,U⟩ ⟨U,U,U⟩ (bE.nG U ?_));refine bE.one 6 (by kernel_rfl) (cL.qE ab U U U U U U U U U [2] (fs:=[]) U 0 0 y (bz.v ⟨c2,lo,g⟩) ⟨U,U⟩ ⟨U,U,U,U⟩ (bE.nG U ?_));refine bE.done (by kernel_rfl) (aT.boxes (B':= .nil) trivial ?_);intro a w' β t;subst z;obtain⟨_,_,G,A,B,C,_⟩:=t.inv.pick (idx:=[2,1,0,0]) rfl;simp only[bN.ids,List.map_nil,tM,rP] at A B C;exact⟨t.h1,_,U,_,by simp[results,Tryz.results29],U,U,t.inv.xG,G,A,B,λb r=>(C b r).symm⟩
def LL(w0:World)(r:(Int×Int)×bt×Int):Ending->World->Prop:=
 JU w0 (λ_:bK×Nat=>True) (λq=> .tuple #[.agg #[.int .i64 r.1.1,.int .i64 r.1.2],.slice q.1 r.2.1.length q.2,.int .i64 r.2.2]) (λq=>[⟨.str,⟨q.1,r.2.1.length,q.2⟩,r.2.1⟩])
theorem Xf{w:World}{O:ba}{L:bo}(h:gx w O L){f:Fact}(hf:f∈O):∃M,f.rep false w M:=by obtain⟨M,a,_⟩:=h.mem hf;exact⟨M,Fact.pR a⟩
theorem Xg{tmps:Array Value}{w:World}{L:bo}{a2 a3:bK}{e4 a n:Int}{O:ba}(d:tmps.getD 2 undef= .pointer a2)(e:tmps.getD 3 undef= .pointer a3)(f:tmps.getD 4 undef= .int .i64 n)
  (c:gx w O L) (g:⟨.pair (.int .i64) (.int .i64),⟨a2,1,1⟩,[(e4,a)]⟩∈O) {c2:bK} {lo b:Nat} (h:⟨.val,⟨a3,1,1⟩,[bz.v ⟨c2,lo,b⟩]⟩∈O):
  (results Tryz.f23 tmps).run Tryz.prog w= .ok (.tuple #[.agg #[.int .i64 e4,.int .i64 a],.slice c2 lo b,.int .i64 n]) w:=by
 obtain⟨r,i⟩:=Xf c g;obtain⟨j,k⟩:=Xf c h;have l:=VA (P:=Tryz.prog) ab (q:=2) (t:=39) U d i U U U (v:= .agg #[.int .i64 e4,.int .i64 a]) U;have m:=VA (P:=Tryz.prog) ab (q:=3) (t:=29) U e k U U U (v:= .slice c2 lo b) U;have o:(xN tmps (.tmp 4)).run Tryz.prog w= .ok (.int .i64 n) w:=by simp only[xN,f];rfl
 have p:Tryz.f23.results= #[.cell 2 39,.cell 3 29,.tmp 4]:=U;rw[UB,p,Array.mapM_eq_mapM_toList];simp only[o1,Sem.run_map,List.mapM_cons,List.mapM_nil,l,m,o,y_];rfl
theorem aiI{a:Act}{w0 w:World}{L:bo}{aA a2 a3:bK}{e4 b n:Int}{O:ba}(aG:a.defers=[{target:= .fn (.func 29) #[.pointer aA,.pointer a2,.pointer a3],args:= #[]}])
  (c:a.tmps.getD 2 undef= .pointer a2) (d:a.tmps.getD 3 undef= .pointer a3) (g:a.tmps.getD 4 undef= .int .i64 n) (hk:Keep [] w0 w)
  (h:gx w O L) (i:⟨.pair (.int .i64) (.int .i64),⟨a2,1,1⟩,[(e4,b)]⟩∈O) (j:⟨.val,⟨a3,1,1⟩,[bz.v ⟨none,0,0⟩]⟩∈O):
  Leaves Tryz.prog Tryz.f23 a.tmps (LL w0 ((e4,b),[],n)) a.defers .returning w:=by
 rw[aG];refine leaves_cons (f:=29) (args:= #[.pointer aA,.pointer a2,.pointer a3]) (by simp) (by simp[go_sem,invoke]) ?_;refine(aiG aA a2 a3 w).mono ?_;rintro e k w' ⟨rfl,rfl,rfl⟩;show Leaves Tryz.prog Tryz.f23 a.tmps (LL w0 ((e4,b),[],n)) [] .returning w';refine⟨_,Xg c d g h i j,(none,0),trivial,U,hk,[],⟨[],[],⟨U,.inl ⟨U,U,U⟩⟩,U,U⟩,List.nodup_nil,by simp⟩
theorem aiJ{a b c:World}{L:bo}(h:Keep [] a b)(k:Keep L b c)(bk:∀x∈L,a.heap.size<=x):Keep [] a c:=
 ⟨k.os.trans h.os,k.tape.trans h.tape,k.output.trans h.output,lK h.size k.size,λx d _=>(k.block x (Nat.lt_of_lt_of_le d h.size) λhm=>Nat.lt_irrefl _ (Nat.lt_of_lt_of_le d (bk x hm))).trans (h.block x d (by simp))⟩
theorem aiK{a:Act}{w0 w:World}{L:bo}{aA a2 a3 h:bK}{code c n:Int}{s:aa}{p:Int}{i:Value}{j:Int}{c2:bK}{d:Nat}{op:bt}{k:Int}
  (aG:a.defers=[{target:= .fn (.func 29) #[.pointer aA,.pointer a2,.pointer a3],args:= #[]}])
  (y:a.tmps.getD 2 undef= .pointer a2) (z:a.tmps.getD 3 undef= .pointer a3) (A:a.tmps.getD 4 undef= .int .i64 n) (hk:Keep [] w0 w)
  {l m:Int} {o:Value} (B:gx w [⟨.val,⟨aA,1,1⟩,[.pointer h]⟩,⟨.pair (.int .i64) (.int .i64),⟨a2,1,1⟩,[(l,m)]⟩,⟨.val,⟨a3,1,1⟩,[o]⟩,⟨DF,⟨h,1,1⟩,[(s,p,i,j,(bz.v ⟨c2,op.length,d⟩),k)]⟩,⟨.str,⟨c2,op.length,d⟩,op⟩] L)
  (q:L.Nodup) (r:∀b∈L,w0.heap.size<=b):
  Leaves Tryz.prog Tryz.f23 a.tmps (LL w0 ((code,c),op,n)) a.defers (.panicking [{v:= .iface 39 (.agg #[.int .i64 code,.int .i64 c]),recovered:=false}]) w:=by
 rw[aG];refine leaves_cons (f:=29) (args:= #[.pointer aA,.pointer a2,.pointer a3]) (by simp) (by simp[go_sem,invoke]) ?_;obtain⟨C,t,D,u,rfl⟩:=gx.split (fs:=[⟨.val,⟨aA,1,1⟩,[.pointer h]⟩,⟨.pair (.int .i64) (.int .i64),⟨a2,1,1⟩,[(l,m)]⟩,⟨.val,⟨a3,1,1⟩,[o]⟩,⟨DF,⟨h,1,1⟩,[(s,p,i,j,(bz.v ⟨c2,op.length,d⟩),k)]⟩]) (gs:=[⟨.str,⟨c2,op.length,d⟩,op⟩]) B;obtain⟨E,F,G⟩:=hM.1 q;refine(aiH code c s p i j c2 op.length d k l m o aA a2 a3 h w C D E).mono ?_;rintro e M w' ⟨rfl,rfl,x,L',H,N,I⟩;have J:gx w' [⟨.str,⟨c2,op.length,d⟩,op⟩] t:=u.frame λb g=>x.block b (u.lt b g) λK=>G b K b g U;show Leaves Tryz.prog Tryz.f23 a.tmps (LL w0 ((code,c),op,n)) [] .returning w';refine⟨_,Xg y z A H (by simp) (by simp),(c2,d),trivial,U,aiJ hk x (λb g=>r b (by simp[g])),t,J,F,λb g=>r b (by simp[g])⟩
theorem LM(a:bK):a.map (·.add 0)=a:=by cases a<;>simp[Addr.add]
def Cj(x0:aa):Option ((Int×Int)×bt×Int):=
 (au (EF x0) λy=>match sn.kl (y,0,[],0,[],0) 0 true with
  |none=>none
  |some (.inl e)=>some ((e.1,e.2.1),e.2.2.2.2.2.2.1,0)
  |some (.inr r)=>some ((0,(r.2.1.length:Int)),[],r.1))
set_option maxHeartbeats 1000000 in
theorem aiL{x0:aa}{r:(Int×Int)×bt×Int}(h:Cj x0=some r):
  FC Tryz.prog 23 [.string (a9 x0)] [] (λ_:bK×Nat=>True) (λq=> .tuple #[.agg #[.int .i64 r.1.1,.int .i64 r.1.2],.slice q.1 r.2.1.length q.2,.int .i64 r.2.2]) (λq=>[⟨.str,⟨q.1,r.2.1.length,q.2⟩,r.2.1⟩]):=by
 refine⟨Tryz.call23,λw _=>calls_of_wp_defers Tryz.func23 U ?_⟩;unfold Cj at h;obtain⟨y,k,h⟩:=jS h;rw[Tryz.ntmps23];refine aT.enter (T:=ck) (X:=[]) (w0:=w) (nt:=20) (λ_=>0) [(0,.v (.string (a9 x0)))] (O:=[]) ?_ U (by simp) U (Keep.refl _ _) (L:=[]) U List.nodup_nil (by simp) ?_
 ·simp[eW.is]
 intro fin j;refine aT.seq (aT.region (aI.o_ ab 3 [] [1,2] [(2,.eX 1 0),(3,.eX 2 0),(4,.v (.int .i64 0))] (.new 1 39 [.int .i64 0,.int .i64 0] (.new 2 29 [.slice none 0 0] .nil)) U ⟨fE U,jv U U⟩ (aI.done U ?_)));refine aT.seq (aT.region (aI.eD ab 1 [] [] [(6,.v (.string (a9 x0)))] _ U ⟨⟨U,trivial⟩,U⟩ (aI.call U U U U (Xd k) U [] U U λ_ _=>?_)));refine aI.o_ ab 2 [] [3] [(9,.eX 3 0)] (.new 1 39 [.int .i64 0,.int .i64 0] (.new 2 29 [.slice none 0 0] (.new 3 55 [.string (a9 y),.int .i64 0,.slice none 0 0,.int .i64 0,.slice none 0 0,.int .i64 0] .nil))) U ⟨⟨U,trivial⟩,jv U U⟩ ?_;refine aI.unbox 3 U (B':= .new 1 39 [.int .i64 0,.int .i64 0] (.new 2 29 [.slice none 0 0] .nil)) (jv U U) U DF (y,0,(bz.v ⟨none,0,0⟩),0,(bz.v ⟨none,0,0⟩),0) ⟨U,U,U,U⟩ (λa=>[(2,.eX 1 0),(3,.eX 2 0),(4,.v (.int .i64 0)),(9,.bj ⟨a,1,1⟩ 0)]) (λ_=>fE U) λd=>?_;refine aI.o_ ab 2 [] [4] [(5,.eX 4 0)] (.new 1 39 [.int .i64 0,.int .i64 0] (.new 2 29 [.slice none 0 0] (.new 4 52 [.pointer d] .nil))) U ⟨⟨U,trivial⟩,jv U U⟩ (aI.done U ?_);refine aT.unbox 1 U (B':= .new 2 29 [.slice none 0 0] (.new 4 52 [.pointer d] .nil)) (jv U U) U (.pair (.int .i64) (.int .i64)) (0,0) ⟨U,U⟩ (λa=>[(2,.bj ⟨a,1,1⟩ 0),(3,.eX 2 0),(4,.v (.int .i64 0)),(5,.eX 4 0)]) (λ_=>fE U) λa2=>?_;refine aT.unbox 2 U (B':= .new 4 52 [.pointer d] .nil) (jv U U) U .val (bz.v ⟨none,0,0⟩) ⟨U,U,U⟩ (λa=>[(2,.bj ⟨a2,1,1⟩ 0),(3,.bj ⟨a,1,1⟩ 0),(4,.v (.int .i64 0)),(5,.eX 4 0)]) (λ_=>fE U) λa3=>?_;refine aT.unbox 4 U (B':= .nil) trivial U .val (.pointer d) ⟨U,U,U⟩ (λa=>[(2,.bj ⟨a2,1,1⟩ 0),(3,.bj ⟨a3,1,1⟩ 0),(4,.v (.int .i64 0)),(5,.bj ⟨a,1,1⟩ 0)]) (λ_=>fE U) λaA=>?_;refine aT.pY (.pair .str .bool) bz.nil U U (aT.pY .str bz.nil U U ?_);refine aT.seq (aT.region (aI.ad_ U U U U U U (aI.defer U U U U U (aI.done U ?_))));refine aT.seq (aT.region (aI.kJ ab U U U U U U 2 U U 0 0 (.pointer d) ⟨U,U⟩ U U U (aI.ptr 11 d U ?_)));rcases hm:sn.kl (y,0,[],0,[],0) 0 true with _|⟨e|ay⟩
 ·rw[hm] at h;cases h
 ·rw[hm] at h;cases h;refine aI.Vz U U U U (LI.kl (Q:=(none,0,none,0)) hm) U [5,1,0] U [] U U (λ_=>by simp) (λs v _ he _=>?_) (λs l _ he a w' β c=>?_)
  ·simp at he
  ·simp only[Ending.panicked.injEq] at he;subst he;subst j;obtain⟨_,_,m,f,g,i,_⟩:=(c.inv.pick (idx:=[3,4,3,0,1]) rfl).drop;simp only[bN.ids,List.map_nil,tM,rP] at f g i;refine Bk (aiK (aA:=aA) (a2:=a2) (a3:=a3) c.h1 ?_ ?_ ?_ c.inv.xG f g λb n=>(i b n).resolve_right (by simp))
   ·exact(c.env 2 _ U).2.trans (by rw[LM])
   ·exact(c.env 3 _ U).2.trans (by rw[LM])
   ·exact(c.env 4 _ U).2
 ·rw[hm] at h;cases h;refine aI.Vz U U U U (LI.kl (Q:=(none,0,none,0)) hm) U [5,1,0] U [] U U (λ_=>by simp) (λs v _ he o=>?_) (λs l _ he=>?_)
  ·simp only[AP] at he;subst he;refine aI.eD ab 1 [] [] [(4,.v (.int .i64 ay.1))] _ U ⟨⟨U,trivial⟩,U⟩ (aI.done U ?_);refine aT.jd 0 U λhk=>?_;refine aT.seq (aT.region (aI.kJ ab U U U U U U 3 U U 0 0 (.pointer d) ⟨U,U⟩ U U U (aI.ptr 13 d U ?_)));refine aI.eD ab 2 [] [] [(15,.bj ⟨d,1,1⟩ 0)] _ U ⟨(hk.fS fT).1,hk.fS fT,⟨U,trivial⟩,U⟩ ?_;refine aI.kJ ab U U U U U U 0 U U 0 0 _ ⟨U,U⟩ U U U ?_;refine aI.eD ab 3 [] [] [(18,.v (.agg #[.int .i64 0,.int .i64 (ay.2.1.length:Int)])),(19,.v (.int .i64 ay.1))] _ U ⟨fE U,U⟩ ?_;refine aI.qE ab U U U U U U U U U [5] (fs:=[]) U 0 0 (0,0) (0,(ay.2.1.length:Int)) ⟨U,U⟩ ⟨U,U,U⟩ ?_;refine aI.qE ab U U U U U U U U U [5] (fs:=[]) U 0 0 (bz.v ⟨none,0,0⟩) (bz.v ⟨none,0,0⟩) ⟨U,U⟩ ⟨U,U,U,U⟩ ?_;refine aI.eD ab 1 [] [] [(4,.v (.int .i64 ay.1))] _ U ⟨⟨U,trivial⟩,U⟩ (aI.done U ?_);intro a w' β c;subst j;obtain⟨_,_,m,f,g,i,_⟩:=c.inv;refine wp_ret (A4 (aiI (aA:=aA) (a2:=a2) (a3:=a3) c.h1 ?_ ?_ ?_ c.inv.xG f (by simp) (by simp)))
   ·exact(c.env 2 _ U).2.trans (by rw[LM])
   ·exact(c.env 3 _ U).2.trans (by rw[LM])
   ·exact(c.env 4 _ U).2
  ·simp at he
def oK(x0:aa):Option Int:=
 (au (Cj x0) λ(a,c,b)=>(bif(!(decide (a.1=0))) then some (-1) else some b))
theorem Ck{x0:aa}{r:Int}(h:oK x0=some r):
  FC Tryz.prog 14 [.string (a9 x0)] [] (λ_:Unit=>True) (λ_=> .int .i64 r) (λ_=>[]):=
 by
  refine V.fI (T:=ck) Tryz.call14 Tryz.func14 U λ_=>?_;unfold oK at h;refine V.cM ab 7 0 h aiL [] U ?_;rintro⟨a,d,b⟩ ⟨e,c⟩ h;refine V.cl (aI.o_ ab 8 [] [8] [(3,.eX 8 0),(5,.v (.int .i64 b))] (.new 8 39 [.int .i64 a.1,.int .i64 a.2] .nil) U ⟨(fE U),(jv U U)⟩ (V.cz ?_));refine V.co ab 8 0 h U (λh=>?_) (λh=>?_)
  ·cases h;exact V.rt ab 4 0 () [] U
  cases h;exact V.rt ab 6 0 () [] U
def EG(x0:aa):Option aa:=
 (aZ (((decide (0<(x0.length:Int)))=true)->0<=(W ((x0.length:Int)-1))/\(W ((x0.length:Int)-1))<(x0.length:Int))<|(bif(bif(decide (0<(x0.length:Int))) then(decide (((at' x0 (W ((x0.length:Int)-1))).toNat:Int)=(10:Int))) else false) then some x0 else(aZ (((x0.length+([10]:aa).length:Nat):Int)<=9223372036854775807)<|some (x0++([10]:aa)))))
theorem aiN{x0:aa}{r:aa}(h:EG x0=some r):
  FC Tryz.prog 31 [.string (a9 x0)] [] (λ_:Unit=>True) (λ_=> .string (a9 r)) (λ_=>[]):=
 by
  refine V.fI (T:=ck) Tryz.call31 Tryz.func31 U λ_=>?_;unfold EG at h;obtain⟨a,h⟩:=bB h;refine V.co ab 19 0 h ⟨a,U⟩ (λh=>?_) (λh=>?_)
  ·cases h;exact V.rt ab 5 0 () [] U
  obtain⟨b,h⟩:=bB h;cases h;exact V.rt ab 7 0 () [] ⟨b,U⟩
def Cl(x0:aa):Option (ah×Int):=
 (au (EG x0) λ(p:aa)=>(au (sn.nI (p,0,0,([]:ao),0,0,[],([]:bt),false) ([]) ([]:bt) false) λ(q,a)=>(a8 (λ((c,d,e,f,b,g,h,i,j):ah)=>(a8 (λ((k,r,s,t,l,u,v,w,x):ah)=>(a8 (λ(y:Int)=>some ((k,r,s,t,l,y,v,w,x),q)) λm=>(bif(!(decide (l=2))) then m (k.length:Int) else m u))) λn=>(bif(decide (b=1)) then(au (vy (c,d,e,f,b,g,h,i,j) ([10]:aa)) λ(z:ah)=>n z) else n (c,d,e,f,b,g,h,i,j)))) λo=>(bif(bif(decide (a.2.2.2.2.1=0)) then(bif a.2.2.2.2.2.2.2.2 then true else(decide (0<(a.2.2.2.1.length:Int)))) else false) then(au (g7 a ([])) λ(A:ah)=>o A) else o a))))
theorem aiO{x0:aa}{r:ah×Int}(h:Cl x0=some r):
  FC Tryz.prog 24 [.string (a9 x0)] [] (λ_:bK×bu=>True) (λq=> .tuple #[.pointer q.1,.int .i64 r.2]) (λq=>eR q.1 r.1 q.2):=
 by
  refine V.fI (T:=ck) Tryz.call24 Tryz.func24 U λ_=>?_;unfold Cl at h;refine V.cM ab 8 0 h aiN [] U λb _ h=>?_;refine V.cl (aI.o_ ab 3 [] [3] [(4,.eX 3 0),(9,.eX 3 0)] (.new 3 47 (aeD (b,0,0,[],0,0,[],[],false) none 0 none 0) .nil) U ⟨(fE U),(jv U U)⟩ (V.cz ?_));refine V.go ab 4 0 U ?_;obtain⟨⟨c,v⟩,d,h⟩:=jS h;refine V.cl (aI.unbox 3 U (B':= .nil) trivial U (.pair .str (.pair (.int .i64) (.pair (.int .i64) (.pair .val (.pair (.int .i64) (.pair (.int .i64) (.pair .str (.pair .val .bool)))))))) (b,0,0,(bz.v ⟨none,0,0⟩),0,0,[],(bz.v ⟨none,0,0⟩),false) ⟨U,U,U,U⟩ (λa=>[(0,.v (.string (a9 x0))),(4,.bj ⟨a,1,1⟩ 0),(6,.v (.string (a9 x0))),(7,.v (.string (a9 b))),(9,.bj ⟨a,1,1⟩ 0),(10,.bj ⟨a,1,1⟩ 0)]) (λ_=>(fE U)) λa=>V.cz ?_);refine V.cl (aI.pY (.pair .str .bool) bz.nil U U (V.cz ?_));refine V.cl (aI.pY .str bz.nil U U (V.cz ?_));refine V.cl (aI.J4 .str bz.nil U U (V.cz ?_));refine V.cl (aI.pZ U U U U (LI.nI (Q:=(none,0,none,0)) d) U [2,1,0] U [0] U U ?_);rintro e-;refine V.cz ?_;refine V.e6 ab 2 0 h (ρ:=bu) (λs q=>[(4,.bj ⟨a,1,1⟩ 0),(5,.v (.int .i64 c))]) .nil (λs q=>gO a s q) U ?_ ?_
  ·intro w _ h;refine V.co ab 22 1 h ⟨U,U,U,U,U,U,U,U,U,U⟩ (λh=>?_) (λh=>?_)
   ·refine V.bH ab 2 0 h pw [0,0,0] [] U λx g h=>?_;exact V.a6 ab 1 0 h g [1,2,0] U
   exact V.a6 ab 1 0 h e [1,2,0] U
  rintro⟨y,z,A,B,C,D,E,F,G⟩ i h;refine V.e6 ab 0 0 h (ρ:=bu) (λs q=>[(4,.bj ⟨a,1,1⟩ 0),(5,.v (.int .i64 c))]) .nil (λs q=>gO a s q) U ?_ ?_
  ·intro H _ h;refine V.co ab 8 3 h ⟨U,U,U,U⟩ (λh=>?_) (λh=>?_)
   ·refine V.bH ab 2 0 h Qt [2,0,0] [] U λI j h=>?_;exact V.a6 ab 1 0 h j [1,2,0] U
   exact V.a6 ab 1 0 h i [0,1,2] U
  rintro⟨k,l,m,n,o,J,p,t,u⟩ f h;refine V.e6 ab 0 0 h (ρ:=Unit) (λs q=>[(4,.bj ⟨a,1,1⟩ 0),(5,.v (.int .i64 c))]) .nil (λs q=>eR a (k,l,m,n,o,s,p,t,u) f) U ?_ ?_
  ·intro K _ h;refine V.co ab 8 3 h ⟨U,U,U,U⟩ (λh=>?_) (λh=>?_)
   ·exact V.a6 ab 11 3 h () [0,1,2] ⟨U,U,U,U,U,U,U⟩
   exact V.a6 ab 1 0 h () [2,0,1] U
  rintro L _ h;cases h;exact V.rt ab 7 0 (a,f) [0,0,0] U
def EH(x0:aa):Option Int:=
 (au (Cl x0) λ(a,b)=>(bif(!(decide (a.2.2.2.2.1=0))) then some (-1) else some b))
theorem aiR{x0:aa}{r:Int}(h:EH x0=some r):
  FC Tryz.prog 18 [.string (a9 x0)] [] (λ_:Unit=>True) (λ_=> .int .i64 r) (λ_=>[]):=
 by
  refine V.fI (T:=ck) Tryz.call18 Tryz.func18 U λ_=>?_;unfold EH at h;refine V.cM ab 7 0 h aiO [] U ?_;rintro⟨c,d⟩ ⟨a,e,b,f,g⟩ h;refine V.go ab 2 0 U ?_;refine V.cl (aI.ptr 8 a U (V.cz ?_));refine V.co ab 13 0 h ⟨U,U,U,U⟩ (λh=>?_) (λh=>?_)
  ·cases h;exact V.rt ab 4 0 () [] U
  cases h;exact V.rt ab 6 0 () [] U
def M_l_FnWrap(x0:aa):Option Bool:=
 (bif(decide (1048576<(x0.length:Int))) then some true else(au (Cf x0) λ(h:aa)=>(au (EF h) λ(a:aa)=>(au (oK a) λ(g:Int)=>(au (Cf x0) λ(i:aa)=>(au (EH i) λ(j:Int)=>(bif(bif(!(decide (g=j))) then true else(decide (a=[]))) then some false else(bif(decide (g<1)) then some true else(aZ (((([40]:aa).length+a.length:Nat):Int)<=9223372036854775807)<|(aZ ((((([40]:aa)++a).length+([41]:aa).length:Nat):Int)<=9223372036854775807)<|(au (oK ((([40]:aa)++a)++([41]:aa))) λ(b:Int)=>(aZ (((decide (b=1))=true)->((([123,32]:aa).length+a.length:Nat):Int)<=9223372036854775807)<|(aZ (((decide (b=1))=true)->(((([123,32]:aa)++a).length+([125]:aa).length:Nat):Int)<=9223372036854775807)<|(cP ((decide (b=1))=true) (oK ((([123,32]:aa)++a)++([125]:aa))) (0:Int) λ(c:Int)=>(aZ (((bif(decide (b=1)) then(decide (c=1)) else false)=true)->((([105,102,32]:aa).length+a.length:Nat):Int)<=9223372036854775807)<|(aZ (((bif(decide (b=1)) then(decide (c=1)) else false)=true)->(((([105,102,32]:aa)++a).length+([116,104,101,110,32]:aa).length:Nat):Int)<=9223372036854775807)<|(aZ (((bif(decide (b=1)) then(decide (c=1)) else false)=true)->((((([105,102,32]:aa)++a)++([116,104,101,110,32]:aa)).length+a.length:Nat):Int)<=9223372036854775807)<|(aZ (((bif(decide (b=1)) then(decide (c=1)) else false)=true)->(((((([105,102,32]:aa)++a)++([116,104,101,110,32]:aa))++a).length+([102,105]:aa).length:Nat):Int)<=9223372036854775807)<|(cP ((bif(decide (b=1)) then(decide (c=1)) else false)=true) (oK ((((([105,102,32]:aa)++a)++([116,104,101,110,32]:aa))++a)++([102,105]:aa))) (0:Int) λ(d:Int)=>(aZ (((bif(bif(decide (b=1)) then(decide (c=1)) else false) then(decide (d=1)) else false)=true)->((([119,104,105,108,101,32]:aa).length+a.length:Nat):Int)<=9223372036854775807)<|(aZ (((bif(bif(decide (b=1)) then(decide (c=1)) else false) then(decide (d=1)) else false)=true)->(((([119,104,105,108,101,32]:aa)++a).length+([100,111,32]:aa).length:Nat):Int)<=9223372036854775807)<|(aZ (((bif(bif(decide (b=1)) then(decide (c=1)) else false) then(decide (d=1)) else false)=true)->((((([119,104,105,108,101,32]:aa)++a)++([100,111,32]:aa)).length+a.length:Nat):Int)<=9223372036854775807)<|(aZ (((bif(bif(decide (b=1)) then(decide (c=1)) else false) then(decide (d=1)) else false)=true)->(((((([119,104,105,108,101,32]:aa)++a)++([100,111,32]:aa))++a).length+([100,111,110,101]:aa).length:Nat):Int)<=9223372036854775807)<|(cP ((bif(bif(decide (b=1)) then(decide (c=1)) else false) then(decide (d=1)) else false)=true) (oK ((((([119,104,105,108,101,32]:aa)++a)++([100,111,32]:aa))++a)++([100,111,110,101]:aa))) (0:Int) λ(e:Int)=>(aZ (((bif(bif(bif(decide (b=1)) then(decide (c=1)) else false) then(decide (d=1)) else false) then(decide (e=1)) else false)=true)->((([101,99,104,111,32,36,40,32]:aa).length+a.length:Nat):Int)<=9223372036854775807)<|(aZ (((bif(bif(bif(decide (b=1)) then(decide (c=1)) else false) then(decide (d=1)) else false) then(decide (e=1)) else false)=true)->(((([101,99,104,111,32,36,40,32]:aa)++a).length+([41,32,34,36,40,32]:aa).length:Nat):Int)<=9223372036854775807)<|(aZ (((bif(bif(bif(decide (b=1)) then(decide (c=1)) else false) then(decide (d=1)) else false) then(decide (e=1)) else false)=true)->((((([101,99,104,111,32,36,40,32]:aa)++a)++([41,32,34,36,40,32]:aa)).length+a.length:Nat):Int)<=9223372036854775807)<|(aZ (((bif(bif(bif(decide (b=1)) then(decide (c=1)) else false) then(decide (d=1)) else false) then(decide (e=1)) else false)=true)->(((((([101,99,104,111,32,36,40,32]:aa)++a)++([41,32,34,36,40,32]:aa))++a).length+([41,34]:aa).length:Nat):Int)<=9223372036854775807)<|(cP ((bif(bif(bif(decide (b=1)) then(decide (c=1)) else false) then(decide (d=1)) else false) then(decide (e=1)) else false)=true) (oK ((((([101,99,104,111,32,36,40,32]:aa)++a)++([41,32,34,36,40,32]:aa))++a)++([41,34]:aa))) (0:Int) λ(f:Int)=>(aZ (((bif(bif(bif(bif(decide (b=1)) then(decide (c=1)) else false) then(decide (d=1)) else false) then(decide (e=1)) else false) then(decide (f=1)) else false)=true)->((([102,40,41,32,123,10]:aa).length+a.length:Nat):Int)<=9223372036854775807)<|(aZ (((bif(bif(bif(bif(decide (b=1)) then(decide (c=1)) else false) then(decide (d=1)) else false) then(decide (e=1)) else false) then(decide (f=1)) else false)=true)->(((([102,40,41,32,123,10]:aa)++a).length+([125,10]:aa).length:Nat):Int)<=9223372036854775807)<|(cP ((bif(bif(bif(bif(decide (b=1)) then(decide (c=1)) else false) then(decide (d=1)) else false) then(decide (e=1)) else false) then(decide (f=1)) else false)=true) (oK ((([102,40,41,32,123,10]:aa)++a)++([125,10]:aa))) (0:Int) λ(k:Int)=>some (bif(bif(bif(bif(bif(decide (b=1)) then(decide (c=1)) else false) then(decide (d=1)) else false) then(decide (e=1)) else false) then(decide (f=1)) else false) then(decide (k=1)) else false)))))))))))))))))))))))))))))))))
theorem ok_l_FnWrap{x0:aa}{a2:bK}{d:Nat}{r:Bool}(h:M_l_FnWrap x0=some r):
  FC Tryz.prog 5 [.slice a2 x0.length d] [lR a2 x0 d] (λ_:Unit=>True) (λ_=> .bool r) (λ_=>[]):=
 by
  refine V.fI (T:=ck) Tryz.call5 Tryz.func5 U λ_=>?_;unfold M_l_FnWrap at h;refine V.co ab 11 0 h U (λh=>?_) (λh=>?_)
  ·cases h;exact V.rt ab 4 0 () [] U
  refine V.cM ab 4 0 h Xc [0] U λv _ h=>?_;refine V.cM ab 0 0 h Xd [] U λw _ h=>?_;refine V.cM ab 5 0 h Ck [] U λx _ h=>?_;refine V.cM ab 7 0 h Xc [0] U λy _ h=>?_;refine V.cM ab 0 0 h aiR [] U λz _ h=>?_;refine V.co ab 6 0 h U (λh=>?_) (λh=>?_)
  ·cases h;exact V.rt ab 4 0 () [] U
  refine V.co ab 7 0 h U (λh=>?_) (λh=>?_)
  ·cases h;exact V.rt ab 4 0 () [] U
  obtain⟨e,h⟩:=bB h;obtain⟨f,h⟩:=bB h;refine V.cM ab 6 0 h Ck [] ⟨e,f,U⟩ λA _ h=>?_;obtain⟨g,h⟩:=bB h;obtain⟨i,h⟩:=bB h;refine V.hg ab 5 0 h Ck [] ⟨g,i,U⟩ (λ_=>id) λB h=>?_;obtain⟨j,h⟩:=bB h;obtain⟨k,h⟩:=bB h;obtain⟨l,h⟩:=bB h;obtain⟨m,h⟩:=bB h;refine V.hg ab 9 0 h Ck [] ⟨j,k,l,m,U⟩ (λ_=>id) λC h=>?_;obtain⟨n,h⟩:=bB h;obtain⟨o,h⟩:=bB h;obtain⟨p,h⟩:=bB h;obtain⟨q,h⟩:=bB h;refine V.hg ab 9 0 h Ck [] ⟨n,o,p,q,U⟩ (λ_=>id) λD h=>?_;obtain⟨s,h⟩:=bB h;obtain⟨a,h⟩:=bB h;obtain⟨t,h⟩:=bB h;obtain⟨b,h⟩:=bB h;refine V.hg ab 9 0 h Ck [] ⟨s,a,t,b,U⟩ (λ_=>id) λE h=>?_;obtain⟨u,h⟩:=bB h;obtain⟨c,h⟩:=bB h;refine V.hg ab 6 0 h Ck [] ⟨u,c,U⟩ (λ_=>id) λF h=>?_;cases h;exact V.rt ab 4 0 () [] U
end
end Go.Eng
namespace Go.Eng
inductive dD(α:Type) where
 |ok (a:α) (r:aa) (pd:ao)
 |more (op:bt) (nd:aa) (pd:ao)
 |bad (r:aa)
 |deep (r:aa)
abbrev ak(α:Type):=aa->ao->dD α
def aX{α:Type}(a:α):ak α:=λr pd=> .ok a r pd
def ae{α β:Type}(m:ak α)(k:α->ak β):ak β:=λr pd=>match m r pd with
 | .ok a r pd=>k a r pd
 | .more op nd ds=> .more op nd ds
 | .bad r=> .bad r
 | .deep r=> .deep r
def lE:ao->aa
 |[]=>[]
 |d::ds=>d.1++10::lE ds
def cQ(nd:aa)(ds:ao):aa->aa×ao
 |[]=>(nd,ds)
 |b::x=>if b=10 then cQ (nd++10::lE ds) [] x else cQ (nd++[b]) ds x
def ak.aK{α:Type}(m:ak α)(x:aa):ak α:=λr pd=>match m r pd with
 | .more op nd ds=> .more op (cQ nd ds x).1 (cQ nd ds x).2
 |y=>y
def ak.named{α:Type}(m:ak α)(n:aa):ak α:=λr pd=>match m r pd with
 | .more op nd ds=> .more (n::op) nd ds
 |y=>y
def b5{α:Type}(x:aa):ak α:=λ_ pd=> .more [] (cQ [] pd x).1 (cQ [] pd x).2
def bJ{α:Type}:ak α:=λr _=> .bad r
def uz{α:Type}:ak α:=λr _=> .deep r
def b8{σ α:Type}(f:σ->ak (σ⊕α))(s:σ):ak α:=λr pd=>match f s r pd with
 | .ok (.inl s') r' b=>if r'.length<r.length then b8 f s' r' b else .bad r'
 | .ok (.inr a) r' b=> .ok a r' b
 | .more op nd ds=> .more op nd ds
 | .bad r=> .bad r
 | .deep r=> .deep r
termination_by r=>r.length
def gb(b:UInt8):Bool:=b==32||b==9
def lf:aa->aa
 |[]=>[]
 |b::t=>if b=10 then b::t else lf t
theorem Ab:∀(r:aa),(lf r).length<=r.length
 |[]=>cV _
 |b::t=>by
  unfold lf;split
  ·omega
  ·exact lK (Ab t) (Nat.le_succ _)
def bp:aa->Option aa
 |[]=>some []
 |b::t=>if gb b then bp t else if b=35 then bp (lf t) else
  if b=92 then match t with
   |10::u=>if u=[] then none else bp u
   |_=>some (b::t)
  else some (b::t)
termination_by r=>r.length
decreasing_by
 all_goals simp_wf
 ·grind[Ab]
 ·omega
def lg:bt:=[[60,60,45],[38,38],[124,124],[59,59],[60,60],[60,38],[60,62],[62,62],[62,38],[62,124],[38],[124],[59],[60],[62],[40],[41]]
def bs(r:aa):aa:=(lg.find? (λo=>o.isPrefixOf r)).getD []
def cT:aa->Bool
 |[]=>true
 |b::t=>gb b||b==10||bs (b::t)!=[]
def fJ:aa->Bool
 |36::40::_=>true
 |36::123::_=>true
 |_=>false
def c5:aa->aa×Bool
 |[]=>([],true)
 |b::t=>if cT (b::t) then([],true) else
  if b=92\/b=39\/b=34\/b=96\/fJ (b::t) then([],false) else
  match c5 t with
  |(w,true)=>(b::w,true)
  |(_,false)=>([],false)
inductive Tok where
 |eof
 |line
 |op (o:aa)
 |word (t:aa) (plain:Bool)
deriving DecidableEq
def ar:aa->Tok
 |[]=> .eof
 |b::t=>if b=10 then .line else if bs (b::t)≠[] then .op (bs (b::t)) else .word (c5 (b::t)).1 (c5 (b::t)).2
def bM(x:aa):ak Tok:=λr pd=>match bp r with
 |none=>b5 x r pd
 |some r'=> .ok (ar r') r' pd
def bU(n:Nat):ak Unit:=λr pd=> .ok () (r.drop n) pd
def gd:aa->Option aa
 |[]=>none
 |b::t=>if b=39 then some t else gd t
def gZ:aa->Option aa
 |[]=>none
 |b::t=>if b=96 then some t else if b=92 then(match t with|[]=>none|_::u=>gZ u) else gZ t
inductive Xh where
 |ok (r:aa)
 |more (n:Nat)
 |bad (r:aa)
def hR:Nat->aa->Xh
 |d,[]=> .more (d+2)
 |d,b::t=>if b=39\/b=34\/b=92\/b=96\/fJ (b::t) then .bad (b::t) else
  if b=40 then hR (d+1) t else
  if b=41 then match d with
   |eu+1=>hR eu t
   |0=>match t with
    |[]=> .more 1
    |c::u=>if c=41 then .ok u else .bad (b::t)
  else hR d t
def iN:aa->aa×aa
 |[]=>([],[])
 |b::t=>if b=10 then([],t) else((b::(iN t).1),(iN t).2)
theorem LN:∀(r:aa),r≠[]->(iN r).2.length<r.length
 |[],h=>absurd rfl h
 |b::t,_=>by
  unfold iN;split
  ·simp
  ·rcases t with _|⟨c,u⟩
   ·exact xD _
   ·exact Nat.lt_trans (LN (c::u) (by simp)) (xD _)
def nq(d:aa)(tabs:Bool):aa->Option aa
 |[]=>none
 |b::t=>if(if tabs then(iN (b::t)).1.dropWhile (· ==9) else(iN (b::t)).1)=d then some (iN (b::t)).2 else nq d tabs (iN (b::t)).2
termination_by r=>r.length
decreasing_by grind[LN]
def l3:ao->aa->aa⊕aa
 |[],r=> .inl r
 |d::ds,r=>match nq d.1 d.2 r with
  |some r'=>l3 ds r'
  |none=> .inr (lE (d::ds))
def iV:ak Unit:=λr pd=>match r with
 |[]=> .ok () [] pd
 |_::t=>match l3 pd t with
  | .inl r'=> .ok () r' []
  | .inr nd=> .more [[60,60]] nd []
def cS:ak Bool:=b8 (λsome=>ae (bM []) λt=>if t= .line then ae iV λ_=>aX (.inl true) else aX (.inr some)) false
def js(f:aa->Option aa)(n:aa):ak Unit:=λr pd=>match f r with
 |some r'=> .ok () r' pd
 |none=> .more [n] n pd
def cw(D:ak Unit)(dq:Option (ak Unit)):ak Unit:=λr pd=>match r with
 |[]=> .ok () [] pd
 |b::t=>
  if b=92 then .ok () (t.drop 1) pd
  else if b=96 then js gZ [96] t pd
  else if fJ (b::t) then D (b::t) pd
  else match dq with
   |none=> .ok () t pd
   |some q=>if b=39 then js gd [39] t pd else if b=34 then q t pd else .ok () t pd
def iO(c:UInt8)(part:ak Unit):ak Unit:=b8 (λ_ r pd=>match r with
 |[]=>b5 [] r pd
 |b::t=>if b=c then .ok (.inr ()) t pd else(ae part λ_=>aX (.inl ())) r pd) ()
def ey(D:ak Unit):ak Unit:=((iO 34 (cw D none)).aK [34]).named [34]
def qT(D:ak Unit):ak Unit:=(iO 125 (cw D (some (ey D)))).aK [125]
def cG(D:ak Unit):ak Unit:=b8 (λ_ r pd=>match r with
 |[]=>b5 [] r pd
 |_::_=>if cT r then .ok (.inr ()) r pd else(ae (cw D (some (ey D))) λ_=>aX (.inl ())) r pd) ()
def jL(D:ak Unit)(x:aa):ak Unit:=ae (bM x) λt=>match t with
 | .eof=>b5 x
 | .word _ _=>cG D
 |_=>bJ
def yu(b:UInt8):Bool:=(97<=b&&b<=122)||(65<=b&&b<=90)||b==95
def b_(b:UInt8):Bool:=48<=b&&b<=57
def l4:aa->Bool
 |[]=>false
 |b::t=>yu b&&t.all λc=>yu c||b_ c
def mh:aa:=[105,102]
def iE:aa:=[116,104,101,110]
def ig:aa:=[101,108,105,102]
def hS:aa:=[101,108,115,101]
def eU:aa:=[102,105]
def gD:aa:=[100,111]
def ih:aa:=[100,111,110,101]
def uA:aa:=[119,104,105,108,101]
def H_:aa:=[117,110,116,105,108]
def nr:aa:=[102,111,114]
def pA:aa:=[99,97,115,101]
def eo:aa:=[101,115,97,99]
def fl:aa:=[105,110]
def rA(w:aa):Bool:=[mh,iE,ig,hS,eU,gD,ih,uA,H_,nr,pA,eo,[123],[125],[33]].contains w
def qb(w:aa):Bool:=[mh,uA,H_,nr,pA,[123]].contains w
def eV(o:aa):Bool:=[[60,60,45],[60,60],[60,38],[60,62],[62,62],[62,38],[62,124],[60],[62]].contains o
theorem yw:∀(r q:aa),gd r=some q->q.length<r.length
 |[],q,h=>by grind[gd]
 |b::t,q,h=>by
  unfold gd at h;split at h
  ·grind
  ·exact Nat.lt_trans (yw t q h) (xD _)
inductive jh where
 |closed (o r:aa)
 |part
 |open_ (o:aa)
def jh.add(x:aa):jh->jh
 | .closed o r=> .closed (x++o) r
 | .part=> .part
 | .open_ o=> .open_ (x++o)
def Ac(c:UInt8):aa:=if c=36\/c=34\/c=92\/c=96 then [c] else if c=10 then [] else [92,c]
def ez:aa->jh
 |[]=> .open_ []
 |b::t=>if b=34 then .closed [] t else if b=36\/b=96 then .part else
  if b=92 then match t with
   |[]=> .part
   |c::u=>(ez u).add (Ac c)
  else(ez t).add [b]
theorem jh.Rc{x:aa}{q:jh}{o r:aa}(h:q.add x= .closed o r):∃a,q= .closed a r:=by cases q<;>simp[jh.add] at h;simp_all
theorem EI:∀(r:aa)(o q:aa),ez r= .closed o q->q.length<r.length
 |[],o,q,h=>by grind[ez]
 |b::t,o,q,h=>by
  unfold ez at h;split at h
  ·grind
  ·split at h
   ·cases h
   ·split at h
    ·match t,h with
     |[],h=>cases h
     |c::u,h=>obtain⟨a,ad⟩:=jh.Rc h;have:=EI u a q ad;grind
    ·obtain⟨a,ad⟩:=jh.Rc h;have:=EI t a q ad;grind
def dt:aa->Option (aa×aa×aa)
 |[]=>some ([],[],[])
 |b::t=>if cT (b::t) then some ([],b::t,[]) else
  if b=92 then match t with
   |[]=>none
   |c::u=>(dt u).map λq=>((if c=10 then [] else [c])++q.1,q.2)
  else if b=39 then match h:gd t with
   |none=>none
   |some r=>(dt r).map λq=>(t.take (t.length-r.length-1)++q.1,q.2)
  else if b=36\/b=96 then none else
  if b=34 then match h:ez t with
   | .part=>none
   | .open_ o=>some (o,[],[34])
   | .closed o r=>(dt r).map λq=>(o++q.1,q.2)
  else(dt t).map λq=>(b::q.1,q.2)
termination_by r=>r.length
decreasing_by
 all_goals simp_wf
 ·omega
 ·have:=yw t r h;omega
 ·have:=EI t o r h;omega
def hs(tabs:Bool):ak Unit:=(λr pd=>match bp r with
 |none=> .more [] [120] (pd++[([120],tabs)])
 |some r'=>match ar r' with
  | .eof=> .more [] [120] (pd++[([120],tabs)])
  | .word _ _=>match dt r' with
    |none=> .bad r'
    |some (d,q,a)=>if d.contains 10 then .bad r' else
     if tabs/\d.head?=some 9 then .bad r' else
     if a≠[] then .more [a] a (pd++[(d,tabs)]) else
     if q=[] then .more [] [] (pd++[(d,tabs)]) else .ok () q (pd++[(d,tabs)])
  |_=> .bad r')
def fF:ak (Option aa):=λr pd=>match bp r with
 |none=>b5 [] r pd
 |some r'=>let q:=r'.dropWhile b_
  if eV (bs q) then .ok (some (bs q)) (q.drop (bs q).length) pd else .ok none r' pd
def dx(D:ak Unit):ak Bool:=ae fF λo=>match o with
 |none=>aX false
 |some o=>ae (if o=[60,60] then hs false else if o=[60,60,45] then hs true else jL D [120]) λ_=>aX true
def gJ(D:ak Unit):ak Unit:=b8 (λ_=>ae (dx D) λb=>aX (if b then .inl () else .inr ())) ()
inductive Ctx where
 |text|paren|qU|rB|qc|kj|pB|done|item
deriving DecidableEq
def cA(t:Tok)(w:aa):Bool:=t== .word w true
def dG(c:Ctx)(t:Tok):Bool:=match c with
 | .text=>t== .eof
 | .paren=>t== .op [41]
 | .qU=>cA t [125]
 | .rB=>cA t iE
 | .qc=>cA t ig||cA t hS||cA t eU
 | .kj=>cA t eU
 | .pB=>cA t gD
 | .done=>cA t ih
 | .item=>t== .op [59,59]||cA t eo
def mB(b:Tok->Bool)(n:Nat):ak Unit:=ae (bM []) λt=>if t= .eof then b5 [] else if b t then bU n else bJ
def ji(o:aa):ak Unit:=mB (· == .op o) o.length
def cW(w:aa):ak Unit:=mB (cA · w) w.length
structure dS where
 ls:Ctx->Bool->ak Nat
 pm:ak Unit
 cp:Tok->ak Unit
 rd:ak Unit
 dl:ak Unit
 has:Bool
def ns:ak Unit:=λt pd=>match hR 0 t with
 | .ok r'=> .ok () r' pd
 | .more n=> .more [[36,40,40]] (List.replicate n 41) pd
 | .bad r'=> .bad r'
def so(lo:Option dS)(n:Nat)(f:dS->ak Unit):ak Unit:=match lo with
 |none=>uz
 |some l=>ae (bU n) λ_=>f l
def sq(l:dS):ak Unit:=ae (((l.ls .paren true).aK [41]).named [36,40]) λ_=>ji [41]
def dd(lo:Option dS):ak Unit:=λr pd=>
 if [36,40,40].isPrefixOf r then ae (bU 3) (λ_=>ns) r pd
 else if [36,40].isPrefixOf r then so lo 2 sq r pd
 else if [36,123].isPrefixOf r then so lo 2 (λl=>l.pm.named [36,123]) r pd
 else .ok () (r.drop 1) pd
def hv(t:Tok):Bool:=t== .op [40]||(match t with| .word w true=>qb w|_=>false)
def hy(fr:Bool)(D:ak Unit):ak Unit:=b8 (λ_=>ae (dx D) λb=>if b then aX (.inl ()) else ae (bM []) λt=>match t with
 | .word _ _=>ae (cG D) λ_=>aX (.inl ())
 | .op o=>if fr/\o=[40] then bJ else aX (.inr ())
 |_=>aX (.inr ())) ()
def lF(fr:Bool)(lo:Option dS):ak Unit:=match lo with
 |none=>uz
 |some l=>if l.has then
   (ae (bU 1) λ_=>ae (bM [41,32,123,32,120,10,125]) λt=>if t= .eof then b5 [41,32,123,32,120,10,125] else if t= .op [41] then
    ae (bU 1) λ_=>ae (cS.aK [123,32,120,10,125]) λ_=>ae (bM [123,32,120,10,125]) λt=>if t= .eof then b5 [123,32,120,10,125] else
     if hv t then ae (l.cp t) λ_=>if fr then l.rd else aX () else bJ
    else bJ).named [102,40,41]
  else uz
def iF(l:dS)(x:aa):ak Unit:=ae ((cW gD).aK x) λ_=>ae ((l.ls .done false).aK (10::ih)) λ_=>cW ih
def qd(l:dS):ak Unit:=b8 (λ_=>ae ((l.ls .rB false).aK ([10]++iE++[32,120,10]++eU)) λ_=>ae (cW iE) λ_=>ae ((l.ls .qc false).aK (10::eU)) λ_=>
    ae (bM []) λt=>if cA t ig then ae (cW ig) λ_=>aX (.inl ()) else
     if cA t hS then ae (cW hS) λ_=>ae ((l.ls .kj false).aK (10::eU)) λ_=>ae (cW eU) λ_=>aX (.inr ()) else ae (cW eU) λ_=>aX (.inr ())) ()
def eg:aa:=[10]++gD++[32,120,10]++ih
def tf:aa:=120::eg
def pC(D:ak Unit):ak Unit:=b8 (λ_=>ae (bM []) λt=>match t with
 | .eof=>b5 []
 | .word _ _=>ae (cG D) λ_=>aX (.inl ())
 | .line=>aX (.inr ())
 | .op o=>if o=[59] then ae (bU 1) λ_=>aX (.inr ()) else bJ) ()
def pD(l:dS)(D:ak Unit):ak Unit:=ae (bM tf) λt=>match t with
 | .eof=>b5 tf
 | .word w true=>if l4 w then ae (bU w.length) λ_=>
   ae ((ae (bM []) λt=>if t= .op [59] then ae (bU 1) λ_=>ae cS λ_=>aX () else
    ae cS λ_=>ae (bM []) λt=>if cA t fl then ae (bU 2) λ_=>ae (pC D) λ_=>ae cS λ_=>aX () else aX ()).aK eg) λ_=>iF l eg
  else bJ
 |_=>bJ
def kQ(D:ak Unit):ak Unit:=b8 (λ_=>ae (bM [120,41]) λt=>match t with
 | .eof=>b5 [120,41]
 | .word _ _=>ae ((cG D).aK [41]) λ_=>ae (bM [41]) λt=>match t with
   | .eof=>b5 [41]
   | .op o=>if o=[124] then ae (bU 1) λ_=>aX (.inl ()) else if o=[41] then ae (bU 1) λ_=>aX (.inr ()) else bJ
   |_=>bJ
 |_=>bJ) ()
def nu(l:dS)(D:ak Unit):ak Unit:=b8 (λ_=>ae cS λ_=>ae (bM []) λt=>if t= .eof then b5 [] else if cA t eo then ae (bU 4) λ_=>aX (.inr ()) else
 ae ((if t= .op [40] then bU 1 else aX ())) λ_=>ae (kQ D) λ_=>ae (l.ls .item true) λ_=>ae (bM []) λt=>if t= .op [59,59] then ae (bU 2) λ_=>aX (.inl ()) else aX (.inl ())) ()
def qV(l:dS)(D:ak Unit):ak Unit:=ae (bM ([120,32]++fl++[10]++eo)) λt=>match t with
 | .eof=>b5 ([120,32]++fl++[10]++eo)
 | .word _ _=>ae ((ae (cG D) λ_=>ae cS λ_=>ae (bM []) λt=>if t= .eof then b5 [] else aX t).aK ([32]++fl++[10]++eo)) λt=>
  if cA t fl then ae (bU 2) λ_=>(nu l D).aK (10::eo) else bJ
 |_=>bJ
def g0(l:dS)(t:Tok):ak Unit:=match t with
 | .op _=>ae (bU 1) λ_=>ae ((l.ls .paren false).aK [41]) λ_=>ji [41]
 | .word w _=>ae (bU w.length) λ_=>
  if w=[123] then ae ((l.ls .qU false).aK [10,125]) λ_=>cW [125]
  else if w=mh then qd l
  else if w=nr then pD l l.dl
  else if w=pA then qV l l.dl
  else ae ((l.ls .pB false).aK eg) λ_=>iF l eg
 |_=>bJ
def mC:Tok->aa
 | .word w _=>w
 |_=>[40]
def qe(lo:Option dS)(t:Tok):ak Unit:=match lo with
 |none=>uz
 |some l=>(g0 l t).named (mC t)
def fx(fr:Bool)(lo:Option dS)(D:ak Unit):ak Unit:=ae (bM [120]) λt=>
 if t= .eof then b5 [120] else if hv t then ae (qe lo t) λ_=>gJ D else match t with
  | .op o=>if eV o then ae (dx D) λ_=>hy fr D else bJ
  | .word w p=>if p&&rA w then bJ else ae (dx D) λb=>if b then hy fr D else ae (cG D) λ_=>
   if p&&l4 w then ae (bM []) λt=>if t= .op [40] then ae (lF fr lo) λ_=>if fr then aX () else gJ D else hy fr D else hy fr D
  |_=>bJ
def fi(da:ak Unit):ak Unit:=ae (bM [120]) λt=>ae (if cA t [33] then bU 1 else aX ()) λ_=>ae da λ_=>
 b8 (λ_=>ae (bM []) λt=>if t= .op [124] then ae (bU 1) λ_=>ae (cS.aK [120]) λ_=>ae da λ_=>aX (.inl ()) else aX (.inr ())) ()
def hB(a:ak Unit):ak Unit:=ae a λ_=>
 b8 (λ_=>ae (bM []) λt=>if t= .op [38,38]\/t= .op [124,124] then ae (bU 2) λ_=>ae (cS.aK [120]) λ_=>ae a λ_=>aX (.inl ()) else aX (.inr ())) ()
def oe(c2:ak Unit)(c:Ctx)(none:Bool):ak Nat:=ae (cS.aK (if none then [] else [120])) λ_=>b8 (λn=>ae (bM (if none||n>0 then [] else [120])) λt=>
 if t= .eof then(if c= .text then aX (.inr n) else b5 (if none||n>0 then [] else [120])) else if(none||n>0)&&dG c t then aX (.inr n) else
 ae c2 λ_=>ae (bM []) λt=>match t with
  | .eof=>aX (.inl (n+1))
  | .line=>ae cS λ_=>aX (.inl (n+1))
  | .word _ _=>bJ
  | .op o=>if o=[59]\/o=[38] then ae (bU 1) λ_=>ae cS λ_=>aX (.inl (n+1)) else if dG c t then aX (.inr (n+1)) else bJ) 0
def aR(fr:Bool):Nat->dS
 |0=>let D:=dd none;{ls:=oe (hB (fi (fx fr none D))),pm:=qT D,cp:=qe none,rd:=gJ D,dl:=D,has:=false}
 |n+1=>let lo:=some (aR fr n);let D:=dd lo;{ls:=oe (hB (fi (fx fr lo D))),pm:=qT D,cp:=qe lo,rd:=gJ D,dl:=D,has:=true}
def gm(fr:Bool)(n:Nat)(r:aa):dD Nat:=(aR fr n).ls .text true r []
def dr(u:aa):Prop:=u=[]\/∃t,u=t++[10]
theorem dr.tail{b:UInt8}{t:aa}(h:dr (b::t)):dr t:=by
 rcases h with h|⟨s,h⟩
 ·cases h
 ·cases s with
  |nil=>simp at h;exact .inl h.2
  |cons c s=>simp at h;exact .inr ⟨s,h.2⟩
theorem dr.head{b:UInt8}(h:dr [b]):b=10:=by
 rcases h with h|⟨s,h⟩
 ·cases h
 ·cases s with
  |nil=>grind
  |cons c s=>simp at h
theorem dr.ne{b:UInt8}{t:aa}(h:dr (b::t))(a:b≠10):t≠[]:=by rintro rfl;exact a h.head
theorem dr.sfx{u r:aa}(h:dr u)(a:r<:+u):dr r:=by
 obtain⟨p,rfl⟩:=a;induction p with
 |nil=>exact h
 |cons b p c=>exact c h.tail
structure aq{α:Type}(f:ak α):Prop where
 sfx:∀{r:aa}{pd:ao}{a:α}{r':aa}{aC:ao},f r pd= .ok a r' aC->r'<:+r
 ok:∀{u:aa}{pd:ao}{a:α}{r':aa}{aC:ao}(v:aa),dr u->f u pd= .ok a r' aC->r'≠[]->f (u++v) pd= .ok a (r'++v) aC
 bad:∀{u:aa}{pd:ao}{r':aa}(v:aa),dr u->f u pd= .bad r'->r'≠[]/\r'<:+u/\f (u++v) pd= .bad (r'++v)
 deep:∀{u:aa}{pd:ao}{r':aa}(v:aa),dr u->f u pd= .deep r'->r'≠[]/\r'<:+u/\f (u++v) pd= .deep (r'++v)
 nil:∀(pd:ao),(∃op nd ds,f [] pd= .more op nd ds)\/∃a,f [] pd= .ok a [] pd
theorem aq.ret{α:Type}(a:α):aq (aX a) where
 sfx h:=by cases h;simp
 ok v _ h _:=by cases h;rfl
 bad v _ h:=by cases h
 deep v _ h:=by cases h
 nil pd:= .inr ⟨a,rfl⟩
theorem aq.ae{α β:Type}{m:ak α}{k:α->ak β}(hm:aq m)(hk:∀a,aq (k a)):aq (ae m k) where
 sfx {r pd b r' l} h:=by
  unfold Go.Eng.ae at h;split at h
  ·rename_i a r1 c ad;exact List.IsSuffix.trans ((hk a).sfx h) (hm.sfx ad)
  all_goals cases h
 ok {u pd b r' l} v hu h n:=by
  unfold Go.Eng.ae at h⊢;split at h
  ·rename_i a r1 c ad;by_cases e:r1=[]
   ·subst e;rcases(hk a).nil c with⟨op,nd,ds,d⟩|⟨j,d⟩
    ·grind
    grind
   ·rw[hm.ok v hu ad e];exact(hk a).ok v (hu.sfx (hm.sfx ad)) h n
  all_goals cases h
 bad {u pd r'} v hu h:=by
  unfold Go.Eng.ae at h⊢;split at h
  ·rename_i a r1 c ad;by_cases e:r1=[]
   ·subst e;rcases(hk a).nil c with⟨op,nd,ds,d⟩|⟨j,d⟩<;>(grind)
   ·rw[hm.ok v hu ad e];obtain⟨f,g,i⟩:=(hk a).bad v (hu.sfx (hm.sfx ad)) h;exact⟨f,g.trans (hm.sfx ad),i⟩
  ·cases h
  ·rename_i r1 ad;cases h;obtain⟨f,g,i⟩:=hm.bad v hu ad;grind
  grind
 deep {u pd r'} v hu h:=by
  unfold Go.Eng.ae at h⊢;split at h
  ·rename_i a r1 c ad;by_cases e:r1=[]
   ·subst e;rcases(hk a).nil c with⟨op,nd,ds,d⟩|⟨j,d⟩<;>(grind)
   ·rw[hm.ok v hu ad e];obtain⟨f,g,i⟩:=(hk a).deep v (hu.sfx (hm.sfx ad)) h;exact⟨f,g.trans (hm.sfx ad),i⟩
  ·cases h
  ·cases h
  ·rename_i r1 ad;cases h;obtain⟨f,g,i⟩:=hm.deep v hu ad;grind
 nil pd:=by
  unfold Go.Eng.ae;rcases hm.nil pd with⟨op,nd,ds,h⟩|⟨a,h⟩
  ·simp_all
  simp_all[nil]
theorem aq.Xi{α:Type}{m c:ak α}(hm:aq m)(h:∀r pd,c r pd=m r pd\/∃op nd ds d f g,m r pd= .more op nd ds/\c r pd= .more d f g):aq c where
 sfx {r pd a r' i} e:=by
  rcases h r pd with ad|⟨_,_,_,_,_,_,ad,b⟩
  ·exact hm.sfx (ad▸e)
  grind
 ok {u pd a r' i} v hu e j:=by
  rcases h u pd with ad|⟨_,_,_,_,_,_,ad,b⟩
  ·have:=hm.ok v hu (ad▸e) j;grind
  grind
 bad {u pd r'} v hu e:=by
  rcases h u pd with ad|⟨_,_,_,_,_,_,ad,b⟩
  ·obtain⟨k,l,this⟩:=hm.bad v hu (ad▸e);grind
  grind
 deep {u pd r'} v hu e:=by
  rcases h u pd with ad|⟨_,_,_,_,_,_,ad,b⟩
  ·obtain⟨k,l,this⟩:=hm.deep v hu (ad▸e);grind
  grind
 nil pd:=by
  rcases h [] pd with ad|⟨_,_,_,_,_,_,ad,b⟩
  ·rw[ad];exact hm.nil pd
  grind
theorem aq.aK{α:Type}{m:ak α}(hm:aq m)(x:aa):aq (m.aK x):=hm.Xi λr pd=>by unfold ak.aK;grind
theorem aq.named{α:Type}{m:ak α}(hm:aq m)(x:aa):aq (m.named x):=hm.Xi λr pd=>by unfold ak.named;grind
theorem aq.b5{α:Type}(x:aa):aq (b5 x:ak α) where
 sfx h:=by cases h
 ok v _ h _:=by cases h
 bad v _ h:=by cases h
 deep v _ h:=by cases h
 nil pd:= .inl ⟨_,_,_,rfl⟩
theorem qf{σ α:Type}(f:σ->ak (σ⊕α))(s:σ)(r:aa)(pd:ao):b8 f s r pd=match f s r pd with
 | .ok (.inl s') r' b=>if r'.length<r.length then b8 f s' r' b else .bad r'
 | .ok (.inr a) r' b=> .ok a r' b
 | .more op nd ds=> .more op nd ds
 | .bad r=> .bad r
 | .deep r=> .deep r:=by
 grind[b8]
structure ij{σ α:Type}(f:σ->ak (σ⊕α)):Prop where
 ex:∀s,aq (f s)
 lt:∀{s:σ}{r:aa}{pd:ao}{s':σ}{r':aa}{aC:ao},f s r pd= .ok (.inl s') r' aC->r'.length<r.length
theorem aq.rep{σ α:Type}{f:σ->ak (σ⊕α)}(h:ij f)(s:σ):aq (b8 f s):=by
 have nil:∀s (pd:ao),(∃op nd ds,b8 f s [] pd= .more op nd ds)\/∃a,b8 f s [] pd= .ok a [] pd:=by
  intro s pd;rw[qf];rcases(h.ex s).nil pd with⟨op,nd,ds,e⟩|⟨a,e⟩
  ·simp_all
  ·rw[e];cases a with
   |inl s'=>exact absurd (h.lt e) (by simp)
   |inr a=>simp
 have sfx:∀(n:Nat)(s:σ)(r:aa)(pd:ao)(a:α)(r':aa)(d:ao),r.length<=n->b8 f s r pd= .ok a r' d->r'<:+r:=by
  intro n;induction n with
  |zero=>
   intro s r pd a r' d aw e;have:r=[]:=n1.1 (by omega);subst this;rcases nil s pd with⟨op,nd,ds,q⟩|⟨a,q⟩<;>rw[q] at e<;>cases e
   simp
  |succ n i=>
   intro s r pd a r' d aw e;rw[qf] at e;split at e
   ·rename_i s1 r1 g b;rw[bh (h.lt b)] at e;have:=h.lt b;exact(i s1 r1 g a r' d (by omega) e).trans ((h.ex s).sfx b)
   ·rename_i b;cases e;exact(h.ex s).sfx b
   all_goals cases e
 have c:∀(n:Nat)(s:σ)(u:aa)(pd:ao)(v:aa),u.length<=n->dr u->
   (∀a r' d,b8 f s u pd= .ok a r' d->r'≠[]->b8 f s (u++v) pd= .ok a (r'++v) d)/\
   (∀r',b8 f s u pd= .bad r'->r'≠[]/\r'<:+u/\b8 f s (u++v) pd= .bad (r'++v))/\
   (∀r',b8 f s u pd= .deep r'->r'≠[]/\r'<:+u/\b8 f s (u++v) pd= .deep (r'++v)):=by
  intro n;induction n with
  |zero=>
   intro s u pd v aw hu;have:u=[]:=n1.1 (by omega);subst this;rcases nil s pd with⟨op,nd,ds,q⟩|⟨a,q⟩<;>rw[q]<;>refine⟨?_,?_,?_⟩
   ·simp
   ·simp
   ·simp
   ·simp
   ·simp
   simp
  |succ n i=>
   intro s u pd v aw hu;rw[qf f s u pd];cases b:f s u pd with
   |ok x r1 g=>
    cases x with
    |inl s1=>
     simp only[h.lt b,cE];by_cases o:r1=[]
     ·subst o;rcases nil s1 g with⟨op,nd,ds,q⟩|⟨a,q⟩<;>rw[q]<;>refine⟨?_,?_,?_⟩
      ·simp
      ·simp
      ·simp
      ·simp
      ·simp
      simp
     ·have p:=(h.ex s).ok v hu b o;have j:=(h.ex s).sfx b;obtain⟨t,k,l⟩:=i s1 r1 g v (by have:=h.lt b;omega) (hu.sfx j);have w:b8 f s (u++v) pd=b8 f s1 (r1++v) g:=by rw[qf f s (u++v) pd,p];simp only[h.lt p,cE]
      rw[w];exact⟨t,λr' e=>⟨(k r' e).1,(k r' e).2.1.trans j,(k r' e).2.2⟩,λr' e=>⟨(l r' e).1,(l r' e).2.1.trans j,(l r' e).2.2⟩⟩
    |inr a=>
     refine⟨?_,?_,?_⟩
     ·intro B r' d e m;cases e;rw[qf,(h.ex s).ok v hu b m]
     ·simp
     simp
   |more op nd ds=>simp
   |bad r1=>refine⟨λ_ _ _ e=>(by cases e),λr' e=>?_,λ_ e=>(by cases e)⟩;cases e;obtain⟨y,z,A⟩:=(h.ex s).bad v hu b;grind[qf]
   |deep r1=>refine⟨λ_ _ _ e=>(by cases e),λ_ e=>(by cases e),λr' e=>?_⟩;cases e;obtain⟨y,z,A⟩:=(h.ex s).deep v hu b;grind[qf]
 exact⟨λe=>sfx _ s _ _ _ _ _ (cV _) e,λv hu e m=>(c _ s _ _ v (cV _) hu).1 _ _ _ e m,λv hu e=>(c _ s _ _ v (cV _) hu).2.1 _ e,λv hu e=>(c _ s _ _ v (cV _) hu).2.2 _ e,nil s⟩
theorem LO{o:aa}:∀{r:aa}(v:aa),10∉o->dr r->r≠[]->o.isPrefixOf (r++v)=o.isPrefixOf r:=by
 induction o with
 |nil=>simp
 |cons c o d=>
  intro r v e a aw;cases r with
  |nil=>grind
  |cons b t=>
   simp only[hF,List.isPrefixOf];by_cases f:b=10
   ·grind
   ·rw[d v (λh=>e (NG _ h)) a.tail (a.ne f)]
theorem Rf{r:aa}(v:aa)(a:dr r)(aw:r≠[]):bs (r++v)=bs r:=by
 unfold bs;congr 1
 have:∀(l:bt),(∀o∈l,(10:UInt8)∉o)->l.find? (λo=>o.isPrefixOf (r++v))=l.find? (λo=>o.isPrefixOf r):=by
  intro l;induction l with
  |nil=>simp
  |cons o l b=>grind[LO,List.mem_cons_self,List.mem_cons_of_mem]
 simp_all[lg]
theorem Ia{r:aa}(v:aa)(a:dr r)(aw:r≠[]):cT (r++v)=cT r:=by
 cases r with
 |nil=>grind
 |cons b t=>grind[Rf,cT]
theorem Rg{r:aa}(v:aa)(c:dr r)(aw:r≠[]):fJ (r++v)=fJ r:=by
 match r,c,aw with
 |[b],c,_=>rw[c.head];rfl
 |a::b::t,c,_=>simp only[hF];unfold fJ;grind
theorem EJ(t:aa):cT (10::t)=true:=by rfl
theorem Xj:∀{r:aa}(v:aa),dr r->r≠[]->c5 (r++v)=c5 r
 |[],_,_,aw=>absurd rfl aw
 |b::t,v,a,aw=>by
  have ad:=Ia v a aw;have c:=Rg v a aw;simp only[hF] at ad c;simp only[hF,c5,ad,c];by_cases d:b=10
  ·subst d;simp[EJ]
  ·rw[Xj v a.tail (a.ne d)]
theorem EK{r:aa}(v:aa)(a:dr r)(aw:r≠[]):ar (r++v)=ar r:=by
 cases r with
 |nil=>grind
 |cons b t=>grind[Rf,Xj,ar]
theorem EL:∀(r:aa),lf r<:+r
 |[]=>sP _
 |b::t=>by
  unfold lf;split
  ·exact sP _
  ·exact(EL t).trans (eb _ _)
theorem Xk:∀{r:aa},dr r->r≠[]->lf r≠[]
 |[],_,aw=>absurd rfl aw
 |b::t,a,_=>by
  unfold lf;split
  ·simp
  ·rename_i c;exact Xk a.tail (a.ne c)
theorem Xl:∀{r:aa}(v:aa),dr r->r≠[]->lf (r++v)=lf r++v
 |[],_,_,aw=>absurd rfl aw
 |b::t,v,a,_=>by
  simp only[hF];rw[lf,lf];split
  ·rfl
  ·rename_i c;exact Xl v a.tail (a.ne c)
theorem nQ(b:UInt8)(t:aa):bp (b::t)=(if gb b then bp t else if b=35 then bp (lf t) else
  if b=92 then match t with
   |10::u=>if u=[] then none else bp u
   |_=>some (b::t)
  else some (b::t)):=by
 grind[bp.eq_def]
theorem l5:bp []=some []:=by rw[bp]
theorem Xm:∀(n:Nat)(r:aa)(v:aa),r.length<=n->(∀r',bp r=some r'->r'<:+r/\(dr r->r≠[]->r'≠[]/\bp (r++v)=some (r'++v))):=by
 intro n;induction n with
 |zero=>intro r v aw r' h;have:r=[]:=n1.1 (by omega);subst this;rw[l5] at h;cases h;exact⟨sP _,λ_ h=>absurd rfl h⟩
 |succ n i=>
  intro r v aw r' h;cases r with
  |nil=>rw[l5] at h;cases h;exact⟨sP _,λ_ h=>absurd rfl h⟩
  |cons b t=>
   simp only[mo] at aw;rw[nQ] at h;have f:bp (b::t++v)=_:=nQ b (t++v);split at h
   ·rename_i d;obtain⟨ad,e⟩:=i t v (by omega) r' h;refine⟨ad.trans (eb _ _),λa _=>?_⟩;have j:b≠10:=by rintro rfl;grind[gb]
    rw[f,bh d];exact e a.tail (a.ne j)
   ·rename_i d;split at h
    ·rename_i g;subst g;obtain⟨ad,e⟩:=i (lf t) v (by grind[Ab]) r' h;refine⟨ad.trans ((EL t).trans (eb _ _)),λa _=>?_⟩;rw[f,aO d,bh rfl,Xl v a.tail (a.ne (by decide))];exact e (a.tail.sfx (EL t)) (Xk a.tail (a.ne (by decide)))
    ·rename_i g;split at h
     ·rename_i k;subst k;split at h
      ·rename_i u;split at h
       ·cases h
       ·rename_i hu;obtain⟨ad,e⟩:=i u v (by grind) r' h;refine⟨ad.trans ((eb _ _).trans (eb _ _)),λa _=>?_⟩;rw[f,aO d,aO g,bh rfl];simp only[hF];rw[aO (by simp[hu])];exact e a.tail.tail hu
      ·rename_i hu;cases h;refine⟨sP _,λa l=>⟨l,?_⟩⟩;rw[f,aO d,aO g,bh rfl];cases t with
       |nil=>exact absurd a.head (by decide)
       |cons c u=>simp_all
     grind
theorem dT{r r':aa}(h:bp r=some r'):r'<:+r:=(Xm _ r [] (cV _) r' h).1
theorem tg{r r':aa}(v:aa)(h:bp r=some r')(a:dr r)(aw:r≠[]):r'≠[]/\bp (r++v)=some (r'++v):=(Xm _ r v (cV _) r' h).2 a aw
theorem aiV{r:aa}(h:r<:+[]):r=[]:=List.suffix_nil.1 h
theorem aq.dH(x:aa):aq (bM x) where
 sfx {r pd a r' d} h:=by
  unfold bM at h;split at h
  ·cases h
  grind[dT]
 ok {u pd a r' d} v hu h c:=by
  unfold bM at h⊢;split at h
  ·cases h
  ·rename_i q b;cases h;have aw:u≠[]:=by rintro rfl;exact c (aiV (dT b))
   rw[(tg v b hu aw).2];simp only[EK v (hu.sfx (dT b)) c]
 bad v _ h:=by unfold bM at h;split at h<;>cases h
 deep v _ h:=by unfold bM at h;split at h<;>cases h
 nil pd:=by unfold bM;rw[l5];exact .inr ⟨_,rfl⟩
theorem aq.dj(n:Nat):aq (bU n) where
 sfx h:=by cases h;simp[lJ]
 ok {u pd a r' b} v _ h c:=by
  cases h;have:n<=u.length:=by grind[Nat.lt_or_ge,absurd,List.drop_eq_nil_of_le,Nat.le_of_lt]
  grind[bU]
 bad v _ h:=by cases h
 deep v _ h:=by cases h
 nil pd:= .inr ⟨(),by simp[bU]⟩
theorem aq.ite{α:Type}{c:Prop}[Decidable c]{f g:ak α}(hf:aq f)(bq:aq g):aq (if c then f else g):=by grind
theorem Ib:∀(r:aa)(v:aa)(q:aa),gd r=some q->q<:+r/\gd (r++v)=some (q++v)
 |[],v,q,h=>by grind[gd]
 |b::t,v,q,h=>by
  rw[gd] at h;simp only[hF];rw[gd];split at h
  ·grind
  ·rename_i a;obtain⟨ad,c⟩:=Ib t v q h;grind
theorem aiW:∀(n:Nat)(r:aa)(v:aa)(q:aa),r.length<=n->gZ r=some q->q<:+r/\gZ (r++v)=some (q++v):=by
 intro n;induction n with
 |zero=>grind[List.length_eq_zero_iff,gZ]
 |succ n d=>
  intro r v q aw h
  match r,aw,h with
  |[],_,h=>grind[gZ]
  |[b],aw,h=>grind[gZ,List.suffix_cons,gZ.eq_def]
  |b::c::t,aw,h=>
   simp only[mo] at aw;by_cases g:b=96
   ·grind[gZ,List.suffix_cons]
   ·by_cases e:b=92
    ·subst e;have a:gZ t=some q:=by grind[gZ]
     obtain⟨ad,f⟩:=d t v q (by omega) a;grind[List.suffix_cons,trans,gZ]
    ·have a:gZ (c::t)=some q:=by grind[gZ]
     obtain⟨ad,f⟩:=d (c::t) v q (by grind) a;grind[List.suffix_cons,gZ]
theorem aq.to{f:aa->Option aa}(n:aa)(hf:∀r v q,f r=some q->q<:+r/\f (r++v)=some (q++v))(h0:f []=none):aq (js f n) where
 sfx {r pd a r' b} h:=by
  unfold js at h;split at h
  ·rename_i q c;cases h;exact(hf r [] _ c).1
  grind
 ok {u pd a r' b} v _ h d:=by
  unfold js at h⊢;split at h
  ·grind
  grind
 bad v _ h:=by unfold js at h;split at h<;>cases h
 deep v _ h:=by unfold js at h;split at h<;>cases h
 nil pd:=by unfold js;rw[h0];exact .inl ⟨_,_,_,rfl⟩
def mF{α:Type}(f:ak α):Prop:=∀{r:aa}{pd:ao}{a:α}{r':aa}{b:ao},r≠[]->f r pd= .ok a r' b->r'.length<r.length
def fK{σ α:Type}(f:ak (σ⊕α)):Prop:=∀{r:aa}{pd:ao}{s:σ}{r':aa}{a:ao},r≠[]->f r pd= .ok (.inl s) r' a->r'.length<r.length
def iW{σ α:Type}(f:ak (σ⊕α)):Prop:=∀{pd:ao}{s:σ}{r':aa}{a:ao},f [] pd≠ .ok (.inl s) r' a
theorem b1{α β:Type}{m:ak α}{k:α->ak β}{r:aa}{pd:ao}{b:β}{r':aa}{c:ao}(h:ae m k r pd= .ok b r' c):∃a r1 d,m r pd= .ok a r1 d/\k a r1 d= .ok b r' c:=by grind[ae]
theorem aM{α β:Type}{m:ak α}{k:α->ak β}{r:aa}{pd:ao}{a:α}{r1:aa}{b:ao}(h:m r pd= .ok a r1 b):ae m k r pd=k a r1 b:=by grind[ae]
theorem gK{α:Type}{m:ak α}{x r:aa}{pd:ao}{a:α}{r':aa}{b:ao}:m.aK x r pd= .ok a r' b↔m r pd= .ok a r' b:=by grind[ak.aK]
theorem th{α:Type}{m:ak α}{x r:aa}{pd:ao}{a:α}{r':aa}{b:ao}:m.named x r pd= .ok a r' b↔m r pd= .ok a r' b:=by grind[ak.named]
theorem ij.of{σ α:Type}{f:σ->ak (σ⊕α)}(h:∀s,aq (f s))(ad:∀s,fK (f s))(b:∀s,iW (f s)):ij f:=⟨h,λ{s r pd s' r' c} e=>by
 by_cases a:r=[]
 ·subst a;exact absurd e (b s)
 ·exact ad s a e⟩
theorem wZ{r r':aa}(h:r'<:+r):r'.length<=r.length:=h.length_le
theorem lG{r:aa}:ar r= .eof↔r=[]:=by
 cases r with
 |nil=>decide
 |cons b t=>simp only[ar,reduceCtorEq,iff_false];grind
theorem nv{x r:aa}{pd:ao}{t:Tok}{r':aa}{a:ao}(h:bM x r pd= .ok t r' a):bp r=some r'/\t=ar r'/\a=pd:=by
 unfold bM at h;split at h
 ·cases h
 grind
theorem fK.dH{σ α:Type}{x:aa}{k:Tok->ak (σ⊕α)}(h:∀t,t≠ .eof->fK (k t))(h0:iW (k .eof)):fK (ae (bM x) k):=by
 intro r pd s r' c d e;obtain⟨t,r1,f,ad,a⟩:=b1 e;obtain⟨b,rfl,rfl⟩:=nv ad;have hl:=wZ (dT b);by_cases aw:r1=[]
 ·subst aw;exact absurd a h0
 ·have:=h (ar r1) (λhe=>aw (lG.1 he)) aw a;omega
theorem iW.dH{σ α:Type}{x:aa}{k:Tok->ak (σ⊕α)}(h:iW (k .eof)):iW (ae (bM x) k):=by intro pd s r' c e;obtain⟨t,r1,d,ad,b⟩:=b1 e;obtain⟨a,rfl,rfl⟩:=nv ad;rw[l5] at a;cases a;exact h b
theorem fK.inr{σ α:Type}(a:α):fK (aX (.inr a):ak (σ⊕α)):=by intro _ _ _ _ _ _ e;cases e
theorem iW.inr{σ α:Type}(a:α):iW (aX (.inr a):ak (σ⊕α)):=by intro _ _ _ _ e;cases e
theorem iW.more{σ α:Type}(x:aa):iW (b5 x:ak (σ⊕α)):=by intro _ _ _ _ e;cases e
theorem fK.bad{σ α:Type}:fK (bJ:ak (σ⊕α)):=by intro _ _ _ _ _ _ e;cases e
theorem fK.Cm{σ α β:Type}{m:ak β}{k:β->ak (σ⊕α)}(hm:mF m)(hk:∀b,aq (k b)):fK (ae m k):=by intro r pd s r' d a e;obtain⟨t,r1,f,ad,c⟩:=b1 e;have:=hm a ad;have:=wZ ((hk t).sfx c);omega
theorem fK.ite{σ α:Type}{c:Prop}[Decidable c]{f g:ak (σ⊕α)}(hf:fK f)(bq:fK g):fK (if c then f else g):=by grind
theorem mF.dj(n:Nat):mF (bU (n+1)):=by
 intro r pd a r' c d e;cases e;cases r with
 |nil=>grind
 |cons b t=>grind
theorem Xn:∀(r:aa),(iN r).2<:+r
 |[]=>sP _
 |b::t=>by
  unfold iN;split
  ·exact eb _ _
  ·exact(Xn t).trans (eb _ _)
theorem Rh:∀{r:aa}(v:aa),dr r->r≠[]->iN (r++v)=((iN r).1,(iN r).2++v)
 |[],_,_,aw=>absurd rfl aw
 |b::t,v,a,_=>by
  simp only[hF];rw[iN,iN];split
  ·rfl
  ·rename_i c;rw[Rh v a.tail (a.ne c)]
theorem Cn(d:aa)(tabs:Bool)(b:UInt8)(t:aa):nq d tabs (b::t)=(if(if tabs then(iN (b::t)).1.dropWhile (· ==9) else(iN (b::t)).1)=d then some (iN (b::t)).2 else nq d tabs (iN (b::t)).2):=by rw[nq]
theorem Ri(d:aa)(tabs:Bool):∀(n:Nat)(r v q:aa),r.length<=n->nq d tabs r=some q->q<:+r/\(dr r->nq d tabs (r++v)=some (q++v)):=by
 intro n;induction n with
 |zero=>grind[List.length_eq_zero_iff,nq]
 |succ n f=>
  intro r v q aw h;cases r with
  |nil=>grind[nq]
  |cons b t=>
   rw[Cn] at h;have i:=LN (b::t) (by simp);have c:=Xn (b::t);by_cases aF:(if tabs then(iN (b::t)).1.dropWhile (· ==9) else(iN (b::t)).1)=d
   ·rw[bh aF] at h;cases h;refine⟨c,λa=>?_⟩;have e:=Rh v a (by simp);simp_all[hF,Cn,bh]
   ·rw[aO aF] at h;obtain⟨ad,g⟩:=f _ v q (by omega) h;refine⟨ad.trans c,λa=>?_⟩;have e:=Rh v a (by simp);simp only[hF] at e⊢;rw[Cn,e,aO aF];exact g (a.sfx c)
theorem vE:∀(ds:ao)(r v q:aa),l3 ds r= .inl q->q<:+r/\(dr r->l3 ds (r++v)= .inl (q++v))
 |[],r,v,q,h=>by cases h;exact⟨sP _,λ_=>rfl⟩
 |d::ds,r,v,q,h=>by
  rw[l3] at h;split at h
  ·rename_i r1 ad;obtain⟨a,a2⟩:=Ri d.1 d.2 _ r v r1 (cV _) ad;obtain⟨c,e⟩:=vE ds r1 v q h;refine⟨c.trans a,λb=>?_⟩;rw[l3,a2 b];exact e (b.sfx a)
  grind
theorem ti(b:UInt8)(t:aa)(pd:ao):iV (b::t) pd=(match l3 pd t with| .inl r'=> .ok () r' []| .inr nd=> .more [[60,60]] nd []):=rfl
theorem aq.nl:aq iV where
 sfx {r pd a r' d} h:=by
  cases r with
  |nil=>cases h;simp
  |cons b t=>
   rw[ti] at h;split at h
   ·rename_i q c;cases h;exact(vE pd t [] _ c).1.trans (eb _ _)
   grind
 ok {u pd a r' d} v hu h e:=by
  cases u with
  |nil=>cases h;grind
  |cons b t=>
   rw[ti] at h;simp only[hF];rw[ti];split at h
   ·rename_i q c;cases h;rw[(vE pd t v _ c).2 hu.tail]
   grind
 bad {u pd r'} v _ h:=by
  cases u with
  |nil=>cases h
  |cons b t=>grind[ti]
 deep {u pd r'} v _ h:=by
  cases u with
  |nil=>cases h
  |cons b t=>grind[ti]
 nil pd:= .inr ⟨(),rfl⟩
theorem mF.nl:mF iV:=by
 intro r pd a r' d f e;cases r with
 |nil=>grind
 |cons b t=>
  rw[ti] at e;split at e
  ·rename_i q c;cases e;have:=wZ (vE pd t [] _ c).1;grind
  grind
theorem ij.lines:ij (λ(some:Bool)=>ae (bM []) λt=>if t= .line then ae iV λ_=>aX (.inl true) else aX (.inr some):Bool->ak (Bool⊕Bool)):=by
 refine ij.of (λs=>(aq.dH _).ae λt=>aq.ite (aq.nl.ae λ_=>aq.ret _) (aq.ret _)) (λs=>fK.dH (λt a=>fK.ite (fK.Cm mF.nl λ_=>aq.ret _) (fK.inr _)) ?_) (λs=>iW.dH ?_)
 ·simp[cn,iW.inr]
 simp[cn,iW.inr]
theorem aq.lines:aq cS:=aq.rep ij.lines false
structure hT(D:ak Unit):Prop where
 ex:aq D
 lt:∀{r:aa}{pd:ao}{r':aa}{aC:ao},fJ r=true->D r pd= .ok () r' aC->r'.length<r.length
theorem Xo{t:aa}(v:aa):t.drop 1≠[]->(t++v).drop 1=t.drop 1++v:=by intro h;rw[NA];grind
theorem aq.tick:aq (js gZ [96]):=aq.to _ (λr v q h=>aiW _ r v q (cV _) h) (by decide)
theorem aq.single:aq (js gd [39]):=aq.to _ (λr v q h=>Ib r v q h) (by decide)
theorem aq.part{D:ak Unit}(hD:hT D){dq:Option (ak Unit)}(m:∀q∈dq,aq q):aq (cw D dq):=by
 have d:∀(b:UInt8)(t v:aa),dr (b::t)->∃(f:ak Unit)(g:aa->aa),aq f/\(∀pd,cw D dq (b::t) pd=f (g (b::t)) pd)/\(∀pd,cw D dq (b::t++v) pd=f (g (b::t)++v) pd\/g (b::t)=[]/\f=aX ())/\g (b::t)<:+b::t:=by
  intro b t v k;by_cases n:b=92
  ·refine⟨aX (),λr=>(r.drop 1).drop 1,aq.ret _,λpd=>by simp_all[cw,aX],λpd=>?_,(lJ _ _).trans (lJ _ _)⟩;by_cases aw:t.drop 1=[]
   ·grind
   ·left;simp only[hF,cw,n,cE,F8,xy];rw[Xo v aw];rfl
  ·by_cases x:b=96
   ·exact⟨js gZ [96],λr=>r.drop 1,aq.tick,λpd=>by simp_all[cw],λpd=> .inl (by simp_all[cw]),lJ _ _⟩
   ·have o:=Rg v k (by simp);simp only[hF] at o;by_cases y:fJ (b::t)=true
    ·exact⟨D,id,hD.ex,λpd=>by simp_all[cw],λpd=> .inl (by simp_all[cw]),sP _⟩
    ·cases dq with
     |none=>exact⟨aX (),λr=>r.drop 1,aq.ret _,λpd=>by grind[cw,aX],λpd=> .inl (by grind[cw,aX]),lJ _ _⟩
     |some q=>
      by_cases z:b=39
      ·exact⟨js gd [39],λr=>r.drop 1,aq.single,λpd=>by grind[cw,fJ],λpd=> .inl (by grind[cw,fJ]),lJ _ _⟩
      ·by_cases A:b=34
       ·exact⟨q,λr=>r.drop 1,m q rfl,λpd=>by grind[cw,fJ],λpd=> .inl (by grind[cw,fJ]),lJ _ _⟩
       ·exact⟨aX (),λr=>r.drop 1,aq.ret _,λpd=>by grind[cw,aX],λpd=> .inl (by grind[cw,aX]),lJ _ _⟩
 have sfx:∀(b:UInt8)(t:aa)(pd:ao)(r':aa)(j:ao),cw D dq (b::t) pd= .ok () r' j->r'<:+b::t:=by
  intro b t pd r' j h;unfold cw at h;simp only at h;split at h
  ·grind[List.drop_suffix,trans,List.suffix_cons]
  ·split at h
   ·exact(aq.tick.sfx h).trans (eb _ _)
   ·split at h
    ·exact hD.ex.sfx h
    ·cases dq with
     |none=>grind
     |some q=>
      simp only at h;split at h
      ·exact(aq.single.sfx h).trans (eb _ _)
      ·split at h
       ·exact((m q rfl).sfx h).trans (eb _ _)
       grind
 constructor
 ·intro r pd a r' j h;cases r with
  |nil=>cases h;simp
  |cons b t=>grind
 ·intro u pd a r' j v hu h k;cases u with
  |nil=>cases h;grind
  |cons b t=>
   obtain⟨f,g,ad,e,c,i⟩:=d b t v hu;rw[e] at h;rcases c pd with c|⟨l,rfl⟩
   ·rw[c];exact ad.ok v (hu.sfx i) h k
   ·rw[l] at h;cases h;grind
 ·intro u pd r' v hu h;cases u with
  |nil=>cases h
  |cons b t=>
   obtain⟨f,g,ad,e,c,i⟩:=d b t v hu;rw[e] at h;rcases c pd with c|⟨l,rfl⟩
   ·rw[c];obtain⟨p,s,w⟩:=ad.bad v (hu.sfx i) h;grind
   ·cases h
 ·intro u pd r' v hu h;cases u with
  |nil=>cases h
  |cons b t=>
   obtain⟨f,g,ad,e,c,i⟩:=d b t v hu;rw[e] at h;rcases c pd with c|⟨l,rfl⟩
   ·rw[c];obtain⟨p,s,w⟩:=ad.deep v (hu.sfx i) h;grind
   ·cases h
 ·intro pd;exact .inr ⟨(),rfl⟩
theorem mF.part{D:ak Unit}(hD:hT D){dq:Option (ak Unit)}(c:∀q∈dq,aq q):mF (cw D dq):=by
 intro r pd a r' d e h;cases r with
 |nil=>grind
 |cons b t=>
  unfold cw at h;simp only at h;split at h
  ·grind
  ·split at h
   ·have:=wZ (aq.tick.sfx h);grind
   ·split at h
    ·exact hD.lt ‹_› h
    ·cases dq with
     |none=>grind
     |some q=>
      simp only at h;split at h
      ·have:=wZ (aq.single.sfx h);grind
      ·split at h
       ·have:=wZ ((c q rfl).sfx h);grind
       grind
theorem ij.bytes{α:Type}{stop:aa->Option (aa×α)}{part:ak Unit}(aB:aq part)(hl:mF part)
  {f:Unit->ak (Unit⊕α)} (h0:∀pd,f () [] pd=b5 [] [] pd) (ad:∀b t pd,f () (b::t) pd=match stop (b::t) with
   |some q=> .ok (.inr q.2) q.1 pd
   |none=>ae part (λ_=>aX (.inl ())) (b::t) pd)
  (k:∀b t q,stop (b::t)=some q->q.1<:+b::t) (l:∀b t q v,dr (b::t)->stop (b::t)=some q->stop (b::t++v)=some (q.1++v,q.2)) (g:∀b t v,dr (b::t)->stop (b::t)=none->stop (b::t++v)=none):ij f:=by
 have d:aq (ae part (λ_=>aX (.inl ()):Unit->ak (Unit⊕α))):=aB.ae λ_=>aq.ret _;refine⟨λs=>?_,?_⟩
 ·constructor
  ·intro r pd a r' i h;cases r with
   |nil=>rw[h0] at h;cases h
   |cons b t=>
    rw[ad] at h;split at h
    ·grind
    ·exact d.sfx h
  ·intro u pd a r' i v hu h j;cases u with
   |nil=>rw[h0] at h;cases h
   |cons b t=>
    rw[ad] at h;have e:=ad b (t++v) pd;simp only[hF] at e⊢;rw[e];split at h
    ·grind
    ·rename_i c;have:=g b t v hu c;simp only[hF] at this;rw[this];exact d.ok v hu h j
  ·intro u pd r' v hu h;cases u with
   |nil=>rw[h0] at h;cases h
   |cons b t=>
    rw[ad] at h;have e:=ad b (t++v) pd;simp only[hF] at e⊢;rw[e];split at h
    ·cases h
    ·rename_i c;have:=g b t v hu c;simp only[hF] at this;rw[this];exact d.bad v hu h
  ·intro u pd r' v hu h;cases u with
   |nil=>rw[h0] at h;cases h
   |cons b t=>
    rw[ad] at h;have e:=ad b (t++v) pd;simp only[hF] at e⊢;rw[e];split at h
    ·cases h
    ·rename_i c;have:=g b t v hu c;simp only[hF] at this;rw[this];exact d.deep v hu h
  ·intro pd;exact .inl ⟨_,_,_,h0 pd⟩
 ·intro s r pd s' r' i h;cases r with
  |nil=>rw[h0] at h;cases h
  |cons b t=>
   rw[ad] at h;split at h
   ·cases h
   ·exact fK.Cm hl (λ_=>aq.ret _) (by simp) h
theorem ij.Ad(c:UInt8){part:ak Unit}(aB:aq part)(hl:mF part):ij (λ(_:Unit)(r:aa)(pd:ao)=>(match r with
 |[]=>b5 [] r pd
 |b::t=>if b=c then .ok (.inr ()) t pd else(ae part λ_=>aX (.inl ())) r pd:dD (Unit⊕Unit))):=by
 refine ij.bytes (stop:=λr=>match r with|[]=>none|b::t=>if b=c then some (t,()) else none) aB hl (λ_=>rfl) (λb t pd=>?_) ?_ ?_ ?_
 ·grind
 ·simp
 ·simp
 simp
theorem aq.Ad(c:UInt8){part:ak Unit}(aB:aq part)(hl:mF part):aq (iO c part):=aq.rep (ij.Ad c aB hl) ()
theorem aq.double{D:ak Unit}(hD:hT D):aq (ey D):=((aq.Ad 34 (aq.part hD (by simp)) (mF.part hD (by simp))).aK _).named _
theorem aq.yx{D:ak Unit}(hD:hT D):aq (cw D (some (ey D))):=aq.part hD λq a=>by grind[aq.double]
theorem mF.yx{D:ak Unit}(hD:hT D):mF (cw D (some (ey D))):=mF.part hD λq a=>by grind[aq.double]
theorem aq.param{D:ak Unit}(hD:hT D):aq (qT D):=(aq.Ad 125 (aq.yx hD) (mF.yx hD)).aK _
theorem ij.word{D:ak Unit}(hD:hT D):ij (λ(_:Unit)(r:aa)(pd:ao)=>(match r with
 |[]=>b5 [] r pd
 |_::_=>if cT r then .ok (.inr ()) r pd else(ae (cw D (some (ey D))) λ_=>aX (.inl ())) r pd:dD (Unit⊕Unit))):=by
 refine ij.bytes (stop:=λr=>if cT r then some (r,()) else none) (aq.yx hD) (mF.yx hD) (λ_=>rfl) (λb t pd=>?_) ?_ ?_ ?_
 ·grind
 ·simp
 ·intro b t q v a h;split at h
  ·rename_i c;cases h;rw[Ia v a (by simp),bh c]
  grind
 ·intro b t v a h;split at h
  ·cases h
  ·rename_i c;rw[Ia v a (by simp),aO c]
theorem aq.word{D:ak Unit}(hD:hT D):aq (cG D):=aq.rep (ij.word hD) ()
theorem vF{D:ak Unit}(hD:hT D){r:aa}{pd:ao}{r':aa}{a:ao}(f:r≠[])(c:cT r=false)(h:cG D r pd= .ok () r' a):r'.length<r.length:=by
 unfold cG at h;rw[qf] at h;cases r with
 |nil=>grind
 |cons b t=>
  simp only[c,eB,cn] at h;split at h
  ·rename_i s1 r1 g ad;have d:=fK.Cm (mF.yx hD) (λ_=>aq.ret _) (by simp) ad;rw[bh d] at h;have:=wZ ((aq.word hD).sfx h);omega
  ·rename_i ad;obtain⟨_,_,_,i,e⟩:=b1 ad;cases e
  all_goals cases h
theorem Ie{b:UInt8}{t:aa}:(∃w p,ar (b::t)= .word w p)->gb b=false->cT (b::t)=false:=by grind[ar,cT]
theorem Xp:∀(n:Nat)(r:aa),r.length<=n->∀b t,bp r=some (b::t)->gb b=false:=by
 intro n;induction n with
 |zero=>simp[n1,l5]
 |succ n a=>
  intro r aw b t h;cases r with
  |nil=>grind
  |cons c u=>grind[List.length_cons,nQ,Ab]
theorem fK.LP{σ α:Type}{D:ak Unit}(hD:hT D){x:aa}{k:Tok->ak (σ⊕α)}(h:∀t,t≠ .eof->(∀w p,t≠ .word w p)->fK (k t))(h0:iW (k .eof))
  (g:∀w p,∃(m:ak Unit)(k':Unit->ak (σ⊕α)),k (.word w p)=ae m k'/\(∀{r pd r' d},m r pd= .ok () r' d↔cG D r pd= .ok () r' d)/\∀u,aq (k' u)):fK (ae (bM x) k):=by
 intro r pd s r' d o e;obtain⟨t,r1,q,ad,a⟩:=b1 e;obtain⟨f,rfl,rfl⟩:=nv ad;have hl:=wZ (dT f);cases r1 with
 |nil=>exact absurd a h0
 |cons b u=>
  by_cases c:∃w p,ar (b::u)= .word w p
  ·have i:=Ie c (Xp _ _ (cV _) _ _ f);obtain⟨w,p,c⟩:=c;rw[c] at a;obtain⟨m,k',hk,hm,j⟩:=g w p;rw[hk] at a;obtain⟨_,v,y,l,n⟩:=b1 a;have:=vF hD (by simp) i (hm.1 l);have:=wZ ((j ()).sfx n);omega
  ·have:=h (ar (b::u)) (λhe=>by grind[lG]) (λw p he=>c ⟨w,p,he⟩) (by simp) a;omega
theorem aiX{r:aa}(v:aa){p:UInt8->Bool}(aB:p 10=false):dr r->r≠[]->r.dropWhile p≠[]/\(r++v).dropWhile p=r.dropWhile p++v:=by
 induction r with
 |nil=>simp
 |cons b t c=>
  intro a _;simp only[hF,abT];cases e:p b with
  |false=>simp
  |true=>
   have d:b≠10:=by grind
   simpa using c a.tail (a.ne d)
theorem Co{r:aa}{p:UInt8->Bool}:r.dropWhile p<:+r:=List.dropWhile_suffix _
theorem Rj{r:aa}:(bs r).length<=r.length:=by
 unfold bs;cases h:lg.find? (λo=>o.isPrefixOf r) with
 |none=>simp
 |some o=>grind
theorem Rk{r:aa}:bs r<+:r:=by
 unfold bs;cases h:lg.find? (λo=>o.isPrefixOf r) with
 |none=>simp
 |some o=>grind
theorem aq.Xq:aq fF where
 sfx {r pd a r' c} h:=by
  unfold fF at h;split at h
  ·cases h
  ·rename_i q b;simp only at h;split at h
   ·cases h;exact((lJ _ _).trans Co).trans (dT b)
   grind[dT]
 ok {u pd a r' c} v hu h j:=by
  unfold fF at h⊢;split at h
  ·cases h
  ·rename_i q b;simp only at h;by_cases aw:u=[]
   ·simp_all[l5,bs,lg,eV,absurd]
   ·obtain⟨d,e⟩:=tg v b hu aw;obtain⟨f,g⟩:=aiX v (p:=b_) (by decide) (hu.sfx (dT b)) d;have i:=Rf v ((hu.sfx (dT b)).sfx Co) f;rw[e];simp only[g,i];split at h
    ·simp_all[bh,NA,Rj]
    grind
 bad v _ h:=by
  unfold fF at h;split at h
  ·cases h
  grind
 deep v _ h:=by
  unfold fF at h;split at h
  ·cases h
  grind
 nil pd:=by simp[fF,l5,bs,lg,eV]
theorem LQ(b:UInt8)(t:aa):ez (b::t)=(if b=34 then .closed [] t else if b=36\/b=96 then .part else
  if b=92 then match t with
   |[]=> .part
   |c::u=>(ez u).add (Ac c)
  else(ez t).add [b]):=by
 grind[ez.eq_def]
def vG:jh->Prop
 | .closed o _=>(10:UInt8)∈o
 | .part=>True
 | .open_ o=>(10:UInt8)∈o
theorem vG.add{x:aa}{q:jh}(h:vG q):vG (q.add x):=by cases q<;>simp_all [vG,jh.add]
theorem vG.Rl{x:aa}{q:jh}(h:(10:UInt8)∈x):vG (q.add x):=by cases q<;>simp_all [vG,jh.add]
theorem Xr:∀(n:Nat)(r v:aa),r.length<=n->dr r->r≠[]->
  (∀o q,ez r= .closed o q->q<:+r/\ez (r++v)= .closed o (q++v))/\(ez r= .part->ez (r++v)= .part)/\(∀o,ez r= .open_ o->10∈o->vG (ez (r++v))):=by
 intro n;induction n with
 |zero=>grind
 |succ n k=>
  intro r v aw d bc;cases r with
  |nil=>grind
  |cons b t=>
   simp only[mo] at aw;simp only[hF];rw[LQ,LQ];by_cases l:b=34
   ·simp_all
   by_cases aB:b=36\/b=96
   ·grind
   by_cases m:b=92
   ·subst m;simp only[l,aB,cE,cn];cases t with
    |nil=>exact absurd d.head (by decide)
    |cons c u=>
     simp only[hF];by_cases hu:u=[]
     ·grind[ez,jh.add,Ac]
     ·obtain⟨f,g,j⟩:=k u v (by grind) d.tail.tail hu;refine⟨?_,?_,?_⟩
      ·intro o q e;cases a:ez u<;>rw[a] at e<;>simp[jh.add] at e;obtain⟨rfl,rfl⟩:=e;obtain⟨h,i⟩:=f _ _ a;exact⟨h.trans ((eb _ _).trans (eb _ _)),by rw[i];rfl⟩
      ·intro e;cases a:ez u<;>rw[a] at e<;>simp[jh.add] at e;rw[g a];rfl
      ·intro o e he;cases a:ez u<;>rw[a] at e<;>simp[jh.add] at e;subst e;rcases tL.1 he with he|he
       ·grind[vG.Rl]
       ·exact(j _ a he).add
   ·simp only[l,aB,m,cn];by_cases p:b=10
    ·subst p;by_cases s:t=[]
     ·grind[ez,jh.add,vG.Rl]
     ·obtain⟨f,g,j⟩:=k t v (by omega) d.tail s;refine⟨?_,?_,?_⟩
      ·intro o q e;cases a:ez t<;>rw[a] at e<;>simp[jh.add] at e;obtain⟨rfl,rfl⟩:=e;obtain⟨h,i⟩:=f _ _ a;exact⟨h.trans (eb _ _),by rw[i];rfl⟩
      ·intro e;cases a:ez t<;>rw[a] at e<;>simp[jh.add] at e;rw[g a];rfl
      simp[vG.Rl]
    ·obtain⟨f,g,j⟩:=k t v (by omega) d.tail (d.ne p);refine⟨?_,?_,?_⟩
     ·intro o q e;cases a:ez t<;>rw[a] at e<;>simp[jh.add] at e;obtain⟨rfl,rfl⟩:=e;obtain⟨h,i⟩:=f _ _ a;exact⟨h.trans (eb _ _),by rw[i];rfl⟩
     ·intro e;cases a:ez t<;>rw[a] at e<;>simp[jh.add] at e;rw[g a];rfl
     ·intro o e he;cases a:ez t<;>rw[a] at e<;>simp[jh.add] at e;subst e;rcases kX.1 he with he|he
      ·grind
      ·exact(j _ a he).add
theorem EM(b:UInt8)(t:aa):dt (b::t)=(if cT (b::t) then some ([],b::t,[]) else
  if b=92 then match t with
   |[]=>none
   |c::u=>(dt u).map λq=>((if c=10 then [] else [c])++q.1,q.2)
  else if b=39 then match gd t with
   |none=>none
   |some r=>(dt r).map λq=>(t.take (t.length-r.length-1)++q.1,q.2)
  else if b=36\/b=96 then none else
  if b=34 then match ez t with
   | .part=>none
   | .open_ o=>some (o,[],[34])
   | .closed o r=>(dt r).map λq=>(o++q.1,q.2)
  else(dt t).map λq=>(b::q.1,q.2)):=by
 grind[dt.eq_def]
def sr(x:Option (aa×aa×aa)):Prop:=x=none\/∃d q c,x=some (d,q,c)/\(10:UInt8)∈d
theorem sr.map{x:Option (aa×aa×aa)}{f:aa->aa}(h:sr x)(hf:∀d,(10:UInt8)∈d->(10:UInt8)∈f d):sr (x.map λq=>(f q.1,q.2)):=by
 rcases h with rfl|⟨d,q,c,rfl,aG⟩
 ·exact .inl rfl
 ·exact .inr ⟨_,_,_,rfl,hf d aG⟩
theorem sr.LR{x:Option (aa×aa×aa)}{f:aa->aa}(hf:∀d,(10:UInt8)∈f d):sr (x.map λq=>(f q.1,q.2)):=by
 cases x with
 |none=>exact .inl rfl
 |some q=>exact .inr ⟨_,_,_,rfl,hf _⟩
theorem aiY:∀{t:aa}(v q:aa),gd t=none->gd (t++v)=some q->(t++v).take ((t++v).length-q.length-1)=t++(v.take (v.length-q.length-1)):=by
 intro t;induction t with
 |nil=>simp
 |cons b t c=>
  intro v q ad a;rw[gd] at ad;simp only[hF] at a⊢;rw[gd] at a;split at ad
  ·cases ad
  ·rename_i d;rw[aO d] at a;have:=c v q ad a;have hl:=yw _ _ a;have e:(b::(t++v)).length-q.length-1=((t++v).length-q.length-1)+1:=by grind
   grind
theorem Xs{t:aa}(h:dr t)(aw:t≠[]):(10:UInt8)∈t:=by
 rcases h with h|⟨s,rfl⟩
 ·grind
 ·simp
theorem Xt{t q v:aa}(h:q<:+t):(t++v).take ((t++v).length- (q++v).length-1)=t.take (t.length-q.length-1):=by grind
theorem Xu:∀(n:Nat)(r v:aa),r.length<=n->dr r->r≠[]->
  (dt r=none->sr (dt (r++v)))/\(∀d q c,dt r=some (d,q,c)->q<:+r/\(10∈d->sr (dt (r++v)))/\(c=[]->q≠[]->dt (r++v)=some (d,q++v,[]))):=by
 intro n;induction n with
 |zero=>grind
 |succ n A=>
  intro r v aw g bc;cases r with
  |nil=>grind
  |cons b t=>
   simp only[mo] at aw;have m:=Ia v g bc;simp only[hF] at m⊢;rw[EM,EM,m];have step:∀(u:aa)(f:aa->aa),u<:+t->u.length<=n->(∀d,(10:UInt8)∈d->(10:UInt8)∈f d)->(∀d,(10:UInt8)∈f d->(10:UInt8)∈d\/∀d,(10:UInt8)∈f d)->
     ((dt u).map (λq=>(f q.1,q.2))=none->sr ((dt (u++v)).map λq=>(f q.1,q.2)))/\
     (∀d q c,(dt u).map (λq=>(f q.1,q.2))=some (d,q,c)->q<:+b::t/\(10∈d->sr ((dt (u++v)).map λq=>(f q.1,q.2)))/\(c=[]->q≠[]->(dt (u++v)).map (λq=>(f q.1,q.2))=some (d,q++v,[]))):=by
    intro u f hu i p s;by_cases w:u=[]
    ·subst w;have e0:dt []=some ([],[],[]):=by rw[dt]
     rw[e0];refine⟨λh=>by grind,λd q c h=>?_⟩;simp only[AU,eO,jl] at h;obtain⟨rfl,rfl,rfl⟩:=h;refine⟨ov,λaG=>?_,λ_ a=>absurd rfl a⟩;rcases s _ aG with h|h
     ·cases h
     ·exact sr.LR h
    ·obtain⟨B,C⟩:=A u v i (g.tail.sfx hu) w;refine⟨λh=>?_,λd q c h=>?_⟩
     ·simp only[Option.map_eq_none_iff] at h;exact(B h).map p
     ·simp only[we,jl] at h;obtain⟨⟨K,L,M⟩,ad,rfl,rfl,rfl⟩:=h;obtain⟨D,E,N⟩:=C _ _ _ ad;refine⟨D.trans (hu.trans (eb _ _)),λaG=>?_,λaF a=>?_⟩
      ·rcases s _ aG with h|h
       ·exact(E h).map p
       ·exact sr.LR h
      grind
   by_cases e:cT (b::t)=true
   ·simp only[e,cE];grind
   by_cases j:b=92
   ·subst j;simp only[e,cE,eB,cn];cases t with
    |nil=>exact absurd g.head (by decide)
    |cons c u=>
     simp only[hF];refine step u (λd=>(if c=10 then [] else [c])++d) (eb _ _) (by grind) ?_ ?_
     ·grind
     grind
   have F:t≠[]:=g.ne (by rintro rfl;grind[EJ]);by_cases k:b=39
   ·subst k;simp only[e,cE,eB,cn];rw[aO (by decide),aO (by decide)];cases x:gd t with
    |none=>
     refine⟨λ_=>?_,λd q c h=>by grind⟩;cases G:gd (t++v) with
     |none=>exact .inl rfl
     |some q=>simp only;rw[aiY v q x G];exact sr.LR (f:=λd=>t++List.take (v.length-q.length-1) v++d) λd=>by grind[Xs]
    |some q=>obtain⟨s1,s2⟩:=Ib t v q x;rw[s2];simp only;rw[Xt s1];refine step q (λd=>List.take (t.length-q.length-1) t++d) s1 (by grind) (λd aG=>by grind) (λd aG=>?_);grind
   by_cases aB:b=36\/b=96
   ·simp only[e,j,k,aB,cE,eB,cn];exact⟨λ_=> .inl rfl,λd q c h=>by grind⟩
   by_cases y:b=34
   ·subst y;simp only[e,cE,eB,cn];rw[aO (by decide),aO (by decide),aO (by decide),aO (by decide),aO (by decide),aO (by decide)];obtain⟨H,I,J⟩:=Xr t.length t v (cV _) g.tail F;cases a:ez t with
    |part=>rw[I a];exact⟨λ_=> .inl rfl,λd q c h=>by grind⟩
    |open_ o=>
     refine⟨λh=>by grind,λd q c h=>?_⟩;simp only[eO,jl] at h;obtain⟨rfl,rfl,rfl⟩:=h;refine⟨ov,λaG=>?_,λh=>by simp⟩;have:=J o a aG;cases z:ez (t++v) with
     |part=>exact .inl rfl
     |open_ l=>rw[z] at this;exact .inr ⟨_,_,_,rfl,this⟩
     |closed l O=>rw[z] at this;exact sr.LR (f:=λd=>l++d) λd=>by simp[show(10:UInt8)∈l from this]
    |closed o q=>obtain⟨s1,s2⟩:=H o q a;rw[s2];refine step q (λd=>o++d) s1 (by grind) (λd aG=>by grind) (λd aG=>?_);grind
   simp only[e,j,k,aB,y,eB,cn];refine step t (λd=>b::d) (sP _) (by omega) (λd aG=>by grind) (λd aG=>?_);grind
theorem Rm:∀(n:Nat)(r o q:aa),r.length<=n->ez r= .closed o q->q<:+r:=by
 intro n;induction n with
 |zero=>grind[List.length_eq_zero_iff,ez]
 |succ n a=>
  intro r o q aw h;cases r with
  |nil=>grind
  |cons b t=>grind[List.length_cons,LQ,List.suffix_cons,jh.Rc,trans]
theorem Rn:∀(n:Nat)(r:aa)(x:aa×aa×aa),r.length<=n->dt r=some x->x.2.1<:+r:=by
 intro n;induction n with
 |zero=>grind[List.length_eq_zero_iff,dt,List.suffix_refl]
 |succ n a=>
  intro r x aw h;cases r with
  |nil=>grind
  |cons b t=>
   simp only[mo] at aw
   have go:∀(u:aa)(f:aa->aa),u<:+t->(dt u).map (λq=>(f q.1,q.2))=some x->x.2.1<:+b::t:=by intro u f hu h;simp only[we] at h;grind
   rw[EM] at h;split at h
   ·grind
   ·split at h
    ·split at h
     ·cases h
     ·rename_i c u _;exact go u (λd=>(if c=10 then [] else [c])++d) (eb _ _) h
    ·split at h
     ·split at h
      ·cases h
      ·rename_i r1 ad;exact go r1 (λd=>List.take (t.length-r1.length-1) t++d) (Ib t [] _ ad).1 h
     ·split at h
      ·cases h
      ·split at h
       ·split at h
        ·cases h
        ·grind
        ·rename_i o r1 ad;exact go r1 (λd=>o++d) (Rm _ _ _ _ (cV _) ad) h
       ·exact go t (λd=>b::d) (sP _) h
def Ih(o:aa):jh->Prop
 | .closed a _=>o<+:a
 | .part=>True
 | .open_ a=>o<+:a
theorem Ih.add{x o:aa}{q:jh}(h:Ih o q):Ih (x++o) (q.add x):=by
 cases q with
 |part=>trivial
 |closed a r=>exact(List.prefix_append_right_inj _).2 h
 |open_ a=>exact(List.prefix_append_right_inj _).2 h
theorem aiZ:∀(n:Nat)(r v o:aa),r.length<=n->dr r->ez r= .open_ o->Ih o (ez (r++v)):=by
 intro n;induction n with
 |zero=>intro r v o aw _ h;have:r=[]:=n1.1 (by omega);subst this;simp[ez] at h;subst h;cases ez ([]++v)<;>simp[Ih]
 |succ n e=>
  intro r v o aw hl h;cases r with
  |nil=>grind
  |cons b t=>
   simp only[mo] at aw;simp only[hF];rw[LQ] at h⊢;split at h
   ·cases h
   ·rename_i f;split at h
    ·cases h
    ·rename_i aB;rw[aO f,aO aB];split at h
     ·rename_i d;rw[bh d];cases t with
      |nil=>cases h
      |cons c u=>simp only[hF] at h⊢;cases a:ez u<;>rw[a] at h<;>simp[jh.add] at h;subst h;exact(e u v _ (by grind) hl.tail.tail a).add
     ·rename_i d;rw[aO d];cases a:ez t<;>rw[a] at h<;>simp[jh.add] at h;subst h;exact(e t v _ (by omega) hl.tail a).add (x:=[b])
def Ii(d:aa)(x:Option (aa×aa×aa)):Prop:=∀y,x=some y->d<+:y.1
theorem Ii.map{d:aa}{x:Option (aa×aa×aa)}(p:aa)(h:Ii d x):Ii (p++d) (x.map λq=>(p++q.1,q.2)):=by intro y a;simp only[we] at a;obtain⟨z,b,rfl⟩:=a;exact(List.prefix_append_right_inj _).2 (h z b)
theorem ai0:∀(n:Nat)(r v:aa)(x:aa×aa×aa),r.length<=n->dr r->dt r=some x->Ii x.1 (dt (r++v)):=by
 intro n;induction n with
 |zero=>intro r v x aw _ h;have:r=[]:=n1.1 (by omega);subst this;simp[dt] at h;subst h;intro y _;simp
 |succ n s=>
  intro r v x aw d h;cases r with
  |nil=>grind
  |cons b t=>
   simp only[mo] at aw;have j:=Ia v d (by simp);simp only[hF] at j⊢
   have go:∀(u p:aa),u<:+t->(dt u).map (λq=>(p++q.1,q.2))=some x->Ii x.1 ((dt (u++v)).map λq=>(p++q.1,q.2)):=by intro u p hu h;simp only[we] at h;obtain⟨y,ad,rfl⟩:=h;exact(s u v y (by grind) (d.tail.sfx hu) ad).map p
   rw[EM] at h⊢;rw[j];split at h
   ·rename_i k;cases h;intro y _;simp
   ·rename_i k;rw[aO k];have w:t≠[]:=d.ne (by rintro rfl;grind[EJ]);split at h
    ·rename_i f;rw[bh f];cases t with
     |nil=>cases h
     |cons c u=>exact go u (if c=10 then [] else [c]) (eb _ _) h
    ·rename_i f;rw[aO f];split at h
     ·rename_i g;rw[bh g];cases l:gd t with
      |none=>grind
      |some q=>rw[l] at h;obtain⟨s1,s2⟩:=Ib t v q l;rw[s2];simp only at h⊢;rw[Xt s1];exact go q _ s1 h
     ·rename_i g;rw[aO g];split at h
      ·cases h
      ·rename_i aB;rw[aO aB];split at h
       ·rename_i i;rw[bh i];obtain⟨A,C,D⟩:=Xr t.length t v (cV _) d.tail w;cases e:ez t with
        |part=>grind
        |open_ o=>
         rw[e] at h;simp only[eO] at h;subst h;have:=aiZ t.length t v o (cV _) d.tail e;cases m:ez (t++v) with
         |part=>intro y a;cases a
         |open_ B=>rw[m] at this;intro y a;cases a;exact this
         |closed B E=>rw[m] at this;intro y a;simp only[we] at a;obtain⟨z,F,rfl⟩:=a;exact List.IsPrefix.trans this (List.prefix_append _ _)
        |closed o q=>rw[e] at h;obtain⟨s1,s2⟩:=A o q e;rw[s2];exact go q o s1 h
       ·rename_i i;rw[aO i];exact go t [b] (sP _) h
def vH(tabs:Bool)(r':aa)(pd:ao):dD Unit:=match dt r' with
 |none=> .bad r'
 |some (d,q,a)=>if d.contains 10 then .bad r' else
  if tabs/\d.head?=some 9 then .bad r' else
  if a≠[] then .more [a] a (pd++[(d,tabs)]) else
  if q=[] then .more [] [] (pd++[(d,tabs)]) else .ok () q (pd++[(d,tabs)])
theorem Xx{tabs:Bool}{r':aa}{pd:ao}(h:sr (dt r')):vH tabs r' pd= .bad r':=by
 unfold vH;rcases h with h|⟨d,q,c,h,aG⟩
 ·rw[h]
 grind
theorem Cp(tabs:Bool)(r:aa)(pd:ao):hs tabs r pd=match bp r with
 |none=> .more [] [120] (pd++[([120],tabs)])
 |some r'=>match ar r' with
  | .eof=> .more [] [120] (pd++[([120],tabs)])
  | .word _ _=>vH tabs r' pd
  |_=> .bad r':=rfl
theorem aq.ss(tabs:Bool):aq (hs tabs) where
 sfx {r pd a r' n} h:=by
  rw[Cp] at h;split at h
  ·cases h
  ·rename_i q b;split at h
   ·cases h
   ·unfold vH at h;split at h
    ·cases h
    ·rename_i d f c aG;split at h
     ·cases h
     ·split at h
      ·cases h
      ·split at h
       ·cases h
       ·split at h
        ·cases h
        ·cases h;exact(Rn _ _ _ (cV _) aG).trans (dT b)
   grind
 ok {u pd a r' n} v hu h o:=by
  rw[Cp] at h;split at h
  ·cases h
  ·rename_i q b;have aw:u≠[]:=by rintro rfl;grind[l5,ar]
   obtain⟨e,f⟩:=tg v b hu aw;have g:=hu.sfx (dT b);have i:hs tabs (u++v) pd=(match ar q with
    | .eof=> .more [] [120] (pd++[([120],tabs)])
    | .word _ _=>vH tabs (q++v) pd
    |_=> .bad (q++v)):=by grind[Cp,EK]
   rw[i];split at h
   ·cases h
   ·rename_i p;unfold vH at h⊢;split at h
    ·cases h
    ·rename_i d f c aG;split at h
     ·cases h
     ·rename_i j;split at h
      ·cases h
      ·rename_i k;split at h
       ·cases h
       ·rename_i s;split at h
        ·cases h
        ·rename_i t;cases h;have l:c=[]:=by grind
         rw[((Xu _ q v (cV _) g e).2 d _ c aG).2.2 l o];simp_all
   grind
 bad {u pd r'} v hu h:=by
  rw[Cp] at h;split at h
  ·cases h
  ·rename_i q b;have aw:u≠[]:=by rintro rfl;grind[l5,ar]
   obtain⟨e,f⟩:=tg v b hu aw;have g:=hu.sfx (dT b);have i:hs tabs (u++v) pd=(match ar q with
    | .eof=> .more [] [120] (pd++[([120],tabs)])
    | .word _ _=>vH tabs (q++v) pd
    |_=> .bad (q++v)):=by grind[Cp,EK]
   rw[i];obtain⟨A,a2⟩:=Xu _ q v (cV _) g e;split at h
   ·cases h
   ·rename_i p;unfold vH at h;split at h
    ·grind[dT,Xx]
    ·rename_i d f c aG;split at h
     ·grind[dT,Xx]
     ·rename_i j;split at h
      ·rename_i k;cases h;refine⟨e,dT b,?_⟩;have aB:=ai0 _ r' v _ (cV _) g aG;unfold vH;cases w:dt (r'++v) with
       |none=>rfl
       |some y=>
        obtain⟨m,B,C⟩:=y;have x:d<+:m:=aB _ w;simp only;split
        ·rfl
        ·have D:m.head?=some 9:=by obtain⟨z,rfl⟩:=x;grind
         grind
      grind
   ·rename_i E F;cases h;exact⟨e,dT b,rfl⟩
 deep {u pd r'} v _ h:=by rw[Cp] at h;grind[vH]
 nil pd:=by unfold hs;rw[l5];exact .inl ⟨_,_,_,rfl⟩
structure dX{α:Type}(f:ak α):Prop where
 sfx:∀{r:aa}{pd:ao}{a:α}{r':aa}{aC:ao},f r pd= .ok a r' aC->r'<:+r
 ok:∀{u:aa}{pd:ao}{a:α}{r':aa}{aC:ao}(v:aa),dr u->f u pd= .ok a r' aC->r'≠[]->f (u++v) pd= .ok a (r'++v) aC
 bad:∀{u:aa}{pd:ao}{r':aa}(v:aa),dr u->u≠[]->f u pd= .bad r'->r'≠[]/\r'<:+u/\f (u++v) pd= .bad (r'++v)
 deep:∀{u:aa}{pd:ao}{r':aa}(v:aa),dr u->u≠[]->f u pd= .deep r'->r'≠[]/\r'<:+u/\f (u++v) pd= .deep (r'++v)
theorem aq.n{α:Type}{f:ak α}(h:aq f):dX f:=⟨h.sfx,h.ok,λv hu _=>h.bad v hu,λv hu _=>h.deep v hu⟩
theorem dX.bJ{α:Type}:dX (bJ:ak α):=⟨λh=>(by cases h),λv _ h=>(by cases h),λv _ aw h=>(by cases h;exact⟨aw,sP _,rfl⟩),λv _ _ h=>(by cases h)⟩
theorem dX.uz{α:Type}:dX (uz:ak α):=⟨λh=>(by cases h),λv _ h=>(by cases h),λv _ _ h=>(by cases h),λv _ aw h=>(by cases h;exact⟨aw,sP _,rfl⟩)⟩
theorem dX.ite{α:Type}{c:Prop}[Decidable c]{f g:ak α}(hf:dX f)(bq:dX g):dX (if c then f else g):=by grind
theorem dX.ae{α β:Type}{m:ak α}{k:α->ak β}(hm:dX m)(hk:∀a,aq (k a)):dX (Go.Eng.ae m k):=by
 constructor
 ·intro r pd b r' l h;obtain⟨a,r1,d,ad,c⟩:=b1 h;exact((hk a).sfx c).trans (hm.sfx ad)
 ·intro u pd b r' l v hu h n;obtain⟨a,r1,d,ad,c⟩:=b1 h;by_cases e:r1=[]
  ·subst e;rcases(hk a).nil d with⟨op,nd,ds,o⟩|⟨j,o⟩
   ·grind
   grind
  ·rw[aM (hm.ok v hu ad e)];exact(hk a).ok v (hu.sfx (hm.sfx ad)) c n
 ·intro u pd r' v hu aw h;unfold Go.Eng.ae at h⊢;split at h
  ·rename_i a r1 d ad;by_cases e:r1=[]
   ·subst e;rcases(hk a).nil d with⟨op,nd,ds,c⟩|⟨j,c⟩<;>(grind)
   ·rw[hm.ok v hu ad e];obtain⟨f,g,i⟩:=(hk a).bad v (hu.sfx (hm.sfx ad)) h;exact⟨f,g.trans (hm.sfx ad),i⟩
  ·cases h
  ·rename_i r1 ad;cases h;obtain⟨f,g,i⟩:=hm.bad v hu aw ad;grind
  grind
 ·intro u pd r' v hu aw h;unfold Go.Eng.ae at h⊢;split at h
  ·rename_i a r1 d ad;by_cases e:r1=[]
   ·subst e;rcases(hk a).nil d with⟨op,nd,ds,c⟩|⟨j,c⟩<;>(grind)
   ·rw[hm.ok v hu ad e];obtain⟨f,g,i⟩:=(hk a).deep v (hu.sfx (hm.sfx ad)) h;exact⟨f,g.trans (hm.sfx ad),i⟩
  ·cases h
  ·cases h
  ·rename_i r1 ad;cases h;obtain⟨f,g,i⟩:=hm.deep v hu aw ad;grind
theorem aq.fL{α:Type}{x:aa}{k:Tok->ak α}(h:∀t,t≠ .eof->dX (k t))(h0:aq (k .eof)):aq (Go.Eng.ae (bM x) k):=by
 have aB:=aq.dH x
 have c:∀{u:aa}{pd:ao}(v:aa),dr u->u≠[]->∀r1,bp u=some r1->r1≠[]/\ar r1≠ .eof/\Go.Eng.ae (bM x) k u pd=k (ar r1) r1 pd/\Go.Eng.ae (bM x) k (u++v) pd=k (ar r1) (r1++v) pd:=by
  intro u pd v hu aw r1 m;obtain⟨d,g⟩:=tg v m hu aw;refine⟨d,λh=>d (lG.1 h),?_,?_⟩
  ·exact aM (by grind[bM])
  ·have:bM x (u++v) pd= .ok (ar r1) (r1++v) pd:=by unfold bM;rw[g];simp only[EK v (hu.sfx (dT m)) d]
   grind[aM]
 constructor
 ·intro r pd a r' p e;obtain⟨t,r1,f,ad,i⟩:=b1 e;obtain⟨b,rfl,rfl⟩:=nv ad;by_cases n:ar r1= .eof
  ·rw[n] at i;exact(h0.sfx i).trans (dT b)
  ·exact((h _ n).sfx i).trans (dT b)
 ·intro u pd a r' p v hu e q;obtain⟨t,r1,f,ad,i⟩:=b1 e;obtain⟨b,rfl,rfl⟩:=nv ad;by_cases aw:u=[]
  ·subst aw;rw[l5] at b;cases b;have:=h0.sfx i;grind
  ·obtain⟨d,g,o,j⟩:=c (pd:=f) v hu aw r1 b;rw[j];exact(h _ g).ok v (hu.sfx (dT b)) i q
 ·intro u pd r' v hu e;unfold Go.Eng.ae at e;split at e
  ·rename_i t r1 f ad;obtain⟨b,rfl,rfl⟩:=nv ad;by_cases aw:u=[]
   ·subst aw;rw[l5] at b;cases b;rcases h0.nil f with⟨_,_,_,h⟩|⟨_,h⟩<;>(rw[show ar []= .eof from rfl,h] at e;cases e)
   ·obtain⟨d,g,o,j⟩:=c (pd:=f) v hu aw r1 b;rw[j];obtain⟨l,a2,a3⟩:=(h _ g).bad v (hu.sfx (dT b)) d e;exact⟨l,a2.trans (dT b),a3⟩
  ·cases e
  ·rename_i ad;exact absurd ad (by unfold bM;split<;>(intro h;cases h))
  grind
 ·intro u pd r' v hu e;unfold Go.Eng.ae at e;split at e
  ·rename_i t r1 f ad;obtain⟨b,rfl,rfl⟩:=nv ad;by_cases aw:u=[]
   ·subst aw;rw[l5] at b;cases b;rcases h0.nil f with⟨_,_,_,h⟩|⟨_,h⟩<;>(rw[show ar []= .eof from rfl,h] at e;cases e)
   ·obtain⟨d,g,o,j⟩:=c (pd:=f) v hu aw r1 b;rw[j];obtain⟨l,a2,a3⟩:=(h _ g).deep v (hu.sfx (dT b)) d e;exact⟨l,a2.trans (dT b),a3⟩
  ·cases e
  ·cases e
  ·rename_i ad;exact absurd ad (by unfold bM;split<;>(intro h;cases h))
 ·intro pd;have:Go.Eng.ae (bM x) k [] pd=k .eof [] pd:=aM (by unfold bM;rw[l5];rfl);rw[this];exact h0.nil pd
theorem aq.EO{D:ak Unit}(hD:hT D)(x:aa):aq (jL D x):=by
 refine aq.fL (λt a=>?_) (aq.b5 x);cases t with
 |word w p=>grind[aq.word,aq.n]
 |eof=>grind
 |_=>exact dX.bJ
theorem aq.jj{D:ak Unit}(hD:hT D):aq (dx D):=by
 refine aq.Xq.ae λo=>?_;cases o with
 |none=>simp[aq.ret]
 |some o=>exact(aq.ite (aq.ss _) (aq.ite (aq.ss _) (aq.EO hD _))).ae λ_=>aq.ret _
theorem ai4{o:aa}(h:eV o=true):o.length≠0:=by intro h0;simp_all[n1,eV]
theorem su{D:ak Unit}(hD:hT D){r:aa}{pd:ao}{r':aa}{b:ao}(h:dx D r pd= .ok true r' b):r'.length<r.length:=by
 obtain⟨o,r1,f,ad,a⟩:=b1 h;cases o with
 |none=>cases a
 |some o=>
  obtain⟨_,g,i,c,d⟩:=b1 a;cases d;have j:r'.length<=r1.length:=by have uB:aq (if o=[60,60] then hs false else if o=[60,60,45] then hs true else jL D [120]):=aq.ite (aq.ss _) (aq.ite (aq.ss _) (aq.EO hD _));exact(uB.sfx c).length_le
  unfold fF at ad;split at ad
  ·cases ad
  ·rename_i q e;simp only at ad;split at ad
   ·rename_i k;cases ad;have l:=(dT e).length_le;have a2:(q.dropWhile b_).length<=q.length:=Co.length_le;grind[ai4,Rj,b_,List.length_drop]
   grind
theorem aq.mG{D:ak Unit}(hD:hT D):aq (gJ D):=by
 refine aq.rep ⟨λ_=>(aq.jj hD).ae λb=>aq.ret _,λ{s r pd s' r' c} h=>?_⟩ ();obtain⟨b,r1,d,ad,a⟩:=b1 h;cases b with
 |true=>cases a;exact su hD ad
 |false=>cases a
theorem aq.simple{D:ak Unit}(hD:hT D)(fr:Bool):aq (hy fr D):=by
 have he:aq (Go.Eng.ae (bM []) λt=>match t with
  | .word _ _=>Go.Eng.ae (cG D) λ_=>aX (.inl ())
  | .op o=>if fr/\o=[40] then bJ else aX (.inr ())
  |_=>aX (.inr ()):ak (Unit⊕Unit)):=by
  refine aq.fL (λt c=>?_) (aq.ret _);cases t with
  |word w p=>grind[aq.word,aq.ae,aq.ret,aq.n]
  |op o=>simp[dX.ite,dX.bJ,aq.ret,aq.n]
  |_=>simp[aq.ret,aq.n]
 have hl:fK (Go.Eng.ae (bM []) λt=>match t with
  | .word _ _=>Go.Eng.ae (cG D) λ_=>aX (.inl ())
  | .op o=>if fr/\o=[40] then bJ else aX (.inr ())
  |_=>aX (.inr ()):ak (Unit⊕Unit)):=by
  refine fK.LP hD (λt c d=>?_) (iW.inr _) (λw p=>⟨cG D,_,rfl,Iff.rfl,λ_=>aq.ret _⟩);cases t with
  |word w p=>grind
  |op o=>simp[fK.ite,fK.bad,fK.inr]
  |_=>simp[fK.inr]
 refine aq.rep ⟨λ_=>(aq.jj hD).ae λb=>aq.ite (aq.ret _) he,λ{s r pd s' r' e} h=>?_⟩ ();obtain⟨b,r1,f,ad,a⟩:=b1 h;cases b with
 |true=>cases a;exact su hD ad
 |false=>
  have g:=((aq.jj hD).sfx ad).length_le;by_cases aw:r1=[]
  ·subst aw;simp only[eB,cn] at a;have:iW (Go.Eng.ae (bM []) λt=>match t with
    | .word _ _=>Go.Eng.ae (cG D) λ_=>aX (.inl ())
    | .op o=>if fr/\o=[40] then bJ else aX (.inr ())
    |_=>aX (.inr ()):ak (Unit⊕Unit)):=iW.dH (iW.inr _)
   exact absurd a this
  ·simp only[eB,cn] at a;have:=hl aw a;omega
structure uC(l:dS):Prop where
 ls:∀c n,aq (l.ls c n)
 pm:aq l.pm
 cp:∀t,dX (l.cp t)
 rd:aq l.rd
 dl:hT l.dl
theorem aq.exp(b:Tok->Bool)(n:Nat):aq (mB b n):=by refine aq.fL (λt a=>?_) (by simp[cE,aq.b5]);rw[aO a];exact dX.ite (aq.dj n).n dX.bJ
theorem aq.op(o:aa):aq (ji o):=aq.exp _ _
theorem aq.res(w:aa):aq (cW w):=aq.exp _ _
theorem vI(d:Nat)(b:UInt8)(t:aa):hR d (b::t)=(if b=39\/b=34\/b=92\/b=96\/fJ (b::t) then .bad (b::t) else
  if b=40 then hR (d+1) t else
  if b=41 then match d with
   |eu+1=>hR eu t
   |0=>match t with
    |[]=> .more 1
    |c::u=>if c=41 then .ok u else .bad (b::t)
  else hR d t):=by
 rfl
theorem Ro:∀(d:Nat)(r v:aa),dr r->r≠[]->(∀q,hR d r= .ok q->q<:+r/\hR d (r++v)= .ok (q++v))/\(∀q,hR d r= .bad q->q≠[]/\q<:+r/\hR d (r++v)= .bad (q++v))
 |d,[],v,_,aw=>absurd rfl aw
 |d,b::t,v,f,aw=>by
  have g:=Rg v f aw;simp only[hF] at g⊢;rw[vI,vI,g];split
  ·simp
  ·rename_i ad
   have go:∀a,(∀q,hR a t= .ok q->q<:+b::t/\hR a (t++v)= .ok (q++v))/\(∀q,hR a t= .bad q->q≠[]/\q<:+b::t/\hR a (t++v)= .bad (q++v)):=by
    intro a;by_cases h:t=[]
    ·grind[hR]
    ·obtain⟨i,j⟩:=Ro a t v f.tail h;grind
   split
   ·grind
   ·split
    ·rename_i k;cases d with
     |succ a=>grind
     |zero=>
      cases t with
      |nil=>simp
      |cons c u=>
       simp only[hF];split
       ·refine⟨λq e=>?_,λq e=>(by cases e)⟩;cases e;exact⟨(eb _ _).trans (eb _ _),rfl⟩
       simp
    grind
theorem Rp{b:Tok->Bool}{n:Nat}(aw:0<n){r:aa}{pd:ao}{r':aa}{c:ao}(h:mB b n r pd= .ok () r' c):r'.length<r.length:=by
 obtain⟨t,r1,f,ad,a⟩:=b1 h;obtain⟨d,rfl,rfl⟩:=nv ad;have hl:=wZ (dT d);split at a
 ·cases a
 ·rename_i he;have:r1≠[]:=λe=>he (lG.2 e);split at a
  ·cases a;grind[List.length_pos_iff,List.length_drop]
  ·cases a
theorem Cq(t:aa):bp (10::t)=some (10::t):=by simp[nQ,gb]
theorem Xz{t:aa}{pd:ao}{b:Bool}{r':aa}{e:ao}(h:cS (10::t) pd= .ok b r' e):r'.length<(10::t).length:=by
 unfold cS at h;rw[qf] at h;split at h
 ·rename_i s1 r1 f ad;have g:=ij.lines.lt ad;rw[bh g] at h;have:=(aq.rep ij.lines s1).sfx h;grind
 ·rename_i a ad;obtain⟨k,r1,f,i,c⟩:=b1 ad;obtain⟨d,rfl,rfl⟩:=nv i;rw[Cq] at d;cases d;simp only[ar,cE] at c;obtain⟨_,_,_,_,j⟩:=b1 c;cases j
 all_goals cases h
theorem vJ{r:aa}(h:ar r= .line):∃t,r=10::t:=by
 cases r with
 |nil=>grind[ar]
 |cons b t=>grind[ar]
section
variable{fr:Bool}{l:dS}(hl:uC l)
include hl
theorem aq.body(x:aa):aq (iF l x):=((aq.res _).aK _).ae λ_=>((hl.ls _ _).aK _).ae λ_=>aq.res _
theorem aq.cond:aq (qd l):=by
 refine aq.rep ⟨λ_=>((hl.ls _ _).aK _).ae λ_=>(aq.res _).ae λ_=>((hl.ls _ _).aK _).ae λ_=>(aq.dH _).ae λt=>aq.ite ((aq.res _).ae λ_=>aq.ret _) (aq.ite ((aq.res _).ae λ_=>((hl.ls _ _).aK _).ae λ_=>(aq.res _).ae λ_=>aq.ret _) ((aq.res _).ae λ_=>aq.ret _)),λ{s r pd s' r' g} h=>?_⟩ ();obtain⟨_,r1,i,ad,h⟩:=b1 h;obtain⟨_,j,k,d,h⟩:=b1 h;obtain⟨_,m,n,e,h⟩:=b1 h;obtain⟨t,o,p,f,h⟩:=b1 h;have q:=((hl.ls _ _).sfx (gK.1 ad)).length_le;have a2:=((aq.res _).sfx d).length_le;have a3:=((hl.ls _ _).sfx (gK.1 e)).length_le;have u:=((aq.dH _).sfx f).length_le;split at h
 ·obtain⟨_,b,c,a,h⟩:=b1 h;cases h;have:=Rp (by decide) a;omega
 ·split at h
  ·obtain⟨_,b,c,a,h⟩:=b1 h;obtain⟨_,v,w,x,h⟩:=b1 h;obtain⟨_,y,z,A,h⟩:=b1 h;cases h
  ·obtain⟨_,b,c,a,h⟩:=b1 h;cases h
omit hl in
theorem aq.words{D:ak Unit}(hD:hT D):aq (pC D):=by
 refine aq.rep (ij.of (λ_=>aq.fL (λt a=>?_) (aq.b5 _)) (λ_=>fK.LP hD (λt a b=>?_) (iW.more _) (λw p=>⟨cG D,_,rfl,Iff.rfl,λ_=>aq.ret _⟩)) λ_=>iW.dH (iW.more _)) ()
 ·cases t with
  |eof=>grind
  |word w p=>grind[aq.word,aq.ae,aq.ret,aq.n]
  |line=>simp[aq.ret,aq.n]
  |op o=>exact dX.ite ((aq.dj _).ae λ_=>aq.ret _).n dX.bJ
 ·cases t with
  |eof=>grind
  |word w p=>grind
  |line=>simp[fK.inr]
  |op o=>exact fK.ite (by intro r pd s r' c d e;obtain⟨_,_,_,_,e⟩:=b1 e;cases e) fK.bad
theorem aq.for_{D:ak Unit}(hD:hT D):aq (pD l D):=by
 have a:aq (Go.Eng.ae (bM []) λt=>if t= .op [59] then Go.Eng.ae (bU 1) λ_=>Go.Eng.ae cS λ_=>aX () else
   Go.Eng.ae cS λ_=>Go.Eng.ae (bM []) λt=>if cA t fl then Go.Eng.ae (bU 2) λ_=>Go.Eng.ae (pC D) λ_=>Go.Eng.ae cS λ_=>aX () else aX ()):=
  (aq.dH _).ae λt=>aq.ite ((aq.dj _).ae λ_=>aq.lines.ae λ_=>aq.ret _) (aq.lines.ae λ_=>(aq.dH _).ae λt=>aq.ite ((aq.dj _).ae λ_=>(aq.words hD).ae λ_=>aq.lines.ae λ_=>aq.ret _) (aq.ret _))
 refine aq.fL (λt b=>?_) (aq.b5 _);cases t with
 |eof=>grind
 |word w p=>
  cases p with
  |true=>exact dX.ite ((aq.dj _).ae λ_=>(a.aK _).ae λ_=>aq.body hl _).n dX.bJ
  |false=>exact dX.bJ
 |_=>exact dX.bJ
omit hl in
theorem Rr{D:ak Unit}(hD:hT D):ij (λ(_:Unit)=>Go.Eng.ae (bM [120,41]) λt=>match t with
 | .eof=>b5 [120,41]
 | .word _ _=>Go.Eng.ae ((cG D).aK [41]) λ_=>Go.Eng.ae (bM [41]) λt=>match t with
   | .eof=>b5 [41]
   | .op o=>if o=[124] then Go.Eng.ae (bU 1) λ_=>aX (.inl ()) else if o=[41] then Go.Eng.ae (bU 1) λ_=>aX (.inr ()) else bJ
   |_=>bJ
 |_=>bJ:Unit->ak (Unit⊕Unit)):=by
 have b:aq (Go.Eng.ae (bM [41]) λt=>match t with
  | .eof=>b5 [41]
  | .op o=>if o=[124] then Go.Eng.ae (bU 1) λ_=>aX (.inl ()) else if o=[41] then Go.Eng.ae (bU 1) λ_=>aX (.inr ()) else bJ
  |_=>bJ:ak (Unit⊕Unit)):=by
  refine aq.fL (λt a=>?_) (aq.b5 _);cases t with
  |eof=>grind
  |op o=>exact dX.ite ((aq.dj _).ae λ_=>aq.ret _).n (dX.ite ((aq.dj _).ae λ_=>aq.ret _).n dX.bJ)
  |_=>exact dX.bJ
 refine ij.of (λ_=>aq.fL (λt a=>?_) (aq.b5 _)) (λ_=>fK.LP hD (λt a c=>?_) (iW.more _) (λw p=>⟨(cG D).aK [41],_,rfl,gK,λ_=>b⟩)) λ_=>iW.dH (iW.more _)
 ·cases t with
  |eof=>grind
  |word w p=>exact(((aq.word hD).aK _).ae λ_=>b).n
  |_=>exact dX.bJ
 ·cases t with
  |eof=>exact absurd rfl a
  |word w p=>exact absurd rfl (c w p)
  |_=>exact fK.bad
omit hl in
theorem aq.w2{D:ak Unit}(hD:hT D):aq (kQ D):=aq.rep (Rr hD) ()
omit hl in
theorem Rs{D:ak Unit}(hD:hT D){r:aa}{pd:ao}{r':aa}{j:ao}(h:kQ D r pd= .ok () r' j):r'.length<r.length:=by
 unfold kQ at h;rw[qf] at h;split at h
 ·rename_i s1 r1 k ad;have l:=(Rr hD).lt (s:=()) ad;rw[bh l] at h;have:=((aq.rep (Rr hD) s1).sfx h).length_le;omega
 ·rename_i a ad;cases h;obtain⟨t,r1,k,m,d⟩:=b1 ad;obtain⟨g,rfl,rfl⟩:=nv m;have a0:=(dT g).length_le;cases e:ar r1 with
  |word w p=>
   rw[e] at d;obtain⟨_,B,C,n,q⟩:=b1 d
   have u:∃b t,r1=b::t:=by
    cases r1 with
    |nil=>grind[ar]
    |cons b t=>simp
   obtain⟨b,t,rfl⟩:=u;have v:=Ie ⟨w,p,e⟩ (Xp _ _ (cV _) _ _ g);have E:=vF hD (by simp) v (gK.1 n);obtain⟨F,x,G,y,c⟩:=b1 q;obtain⟨z,rfl,rfl⟩:=nv y;have a2:=(dT z).length_le;cases i:ar x with
   |op o=>
    rw[i] at c;simp only at c;split at c
    ·obtain⟨_,_,_,_,f⟩:=b1 c;cases f
    ·split at c
     ·obtain⟨_,H,I,f,A⟩:=b1 c;cases A;have:=((aq.dj 1).sfx f).length_le;omega
     ·cases c
   |_=>rw[i] at c;cases c
  |_=>rw[e] at d;cases d
 all_goals cases h
theorem aq.items{D:ak Unit}(hD:hT D):aq (nu l D):=by
 have a:aq (Go.Eng.ae (kQ D) λ_=>Go.Eng.ae (l.ls .item true) λ_=>Go.Eng.ae (bM []) λt=>if t= .op [59,59] then Go.Eng.ae (bU 2) λ_=>aX (.inl ()) else aX (.inl ()):ak (Unit⊕Unit)):=
  (aq.w2 hD).ae λ_=>(hl.ls _ _).ae λ_=>(aq.dH _).ae λt=>aq.ite ((aq.dj _).ae λ_=>aq.ret _) (aq.ret _)
 refine aq.rep ⟨λ_=>aq.lines.ae λ_=>(aq.dH _).ae λt=>aq.ite (aq.b5 _) (aq.ite ((aq.dj _).ae λ_=>aq.ret _) ((aq.ite (aq.dj _) (aq.ret _)).ae λ_=>a)),λ{s r pd s' r' i} h=>?_⟩ ();obtain⟨_,r1,j,ad,h⟩:=b1 h;obtain⟨t,k,m,b,h⟩:=b1 h;have n:=(aq.lines.sfx ad).length_le;have a2:=((aq.dH _).sfx b).length_le;split at h
 ·cases h
 ·split at h
  ·obtain⟨_,_,_,_,h⟩:=b1 h;cases h
  ·obtain⟨_,o,p,c,h⟩:=b1 h;have a3:=((aq.ite (aq.dj 1) (aq.ret ())).sfx c).length_le;obtain⟨_,q,u,d,h⟩:=b1 h;have v:=Rs hD d;obtain⟨_,w,x,e,h⟩:=b1 h;have y:=((hl.ls _ _).sfx e).length_le;obtain⟨_,z,A,f,h⟩:=b1 h;have B:=((aq.dH _).sfx f).length_le;split at h
   ·obtain⟨_,C,E,g,h⟩:=b1 h;cases h;have:=((aq.dj 2).sfx g).length_le;omega
   ·cases h;omega
omit hl in
theorem aq.ai5{α β:Type}{m:ak α}{k:α->ak β}(hm:aq m)(bc:∀{r pd a r' f},m r pd= .ok a r' f->r'≠[])(hk:∀a,dX (k a)):aq (Go.Eng.ae m k):=by
 constructor
 ·intro r pd b r' f h;obtain⟨a,r1,g,ad,i⟩:=b1 h;exact((hk a).sfx i).trans (hm.sfx ad)
 ·intro u pd b r' f v hu h j;obtain⟨a,r1,g,ad,i⟩:=b1 h;rw[aM (hm.ok v hu ad (bc ad))];exact(hk a).ok v (hu.sfx (hm.sfx ad)) i j
 ·intro u pd r' v hu h;unfold Go.Eng.ae at h⊢;split at h
  ·rename_i a r1 g ad;rw[hm.ok v hu ad (bc ad)];obtain⟨c,d,e⟩:=(hk a).bad v (hu.sfx (hm.sfx ad)) (bc ad) h;exact⟨c,d.trans (hm.sfx ad),e⟩
  ·cases h
  ·rename_i r1 ad;cases h;obtain⟨c,d,e⟩:=hm.bad v hu ad;grind
  grind
 ·intro u pd r' v hu h;unfold Go.Eng.ae at h⊢;split at h
  ·rename_i a r1 g ad;rw[hm.ok v hu ad (bc ad)];obtain⟨c,d,e⟩:=(hk a).deep v (hu.sfx (hm.sfx ad)) (bc ad) h;exact⟨c,d.trans (hm.sfx ad),e⟩
  ·cases h
  ·cases h
  ·rename_i r1 ad;cases h;obtain⟨c,d,e⟩:=hm.deep v hu ad;grind
 ·intro pd;rcases hm.nil pd with⟨op,nd,ds,h⟩|⟨a,h⟩
  ·left;unfold Go.Eng.ae;rw[h];exact⟨_,_,_,rfl⟩
  grind
theorem aq.w3{D:ak Unit}(hD:hT D):aq (qV l D):=by
 have ad:aq (Go.Eng.ae (cG D) λ_=>Go.Eng.ae cS λ_=>Go.Eng.ae (bM []) λt=>if t= .eof then Go.Eng.b5 [] else aX t):=
  (aq.word hD).ae λ_=>aq.lines.ae λ_=>(aq.dH _).ae λt=>aq.ite (aq.b5 _) (aq.ret _)
 refine aq.fL (λt f=>?_) (aq.b5 _);cases t with
 |eof=>grind
 |word w p=>
  refine(aq.ai5 (ad.aK _) (λ{r pd a r' g} h=>?_) λt=>dX.ite ((aq.dj _).ae λ_=>(aq.items hl hD).aK _).n dX.bJ).n;obtain⟨_,i,j,k,c⟩:=b1 (gK.1 h);obtain⟨_,m,n,o,d⟩:=b1 c;obtain⟨t,q,s,e,b⟩:=b1 d;obtain⟨u,rfl,rfl⟩:=nv e;split at b
  ·cases b
  ·rename_i he;cases b;grind[lG]
 |_=>exact dX.bJ
theorem dX.kind(t:Tok):dX (g0 l t):=by
 cases t with
 |op o=>exact((aq.dj _).ae λ_=>((hl.ls _ _).aK _).ae λ_=>aq.op _).n
 |word w p=>exact((aq.dj _).ae λ_=>aq.ite (((hl.ls _ _).aK _).ae λ_=>aq.res _) (aq.ite (aq.cond hl) (aq.ite (aq.for_ hl hl.dl) (aq.ite (aq.w3 hl hl.dl) (((hl.ls _ _).aK _).ae λ_=>aq.body hl _))))).n
 |_=>exact dX.bJ
omit hl in
theorem dX.named{α:Type}{m:ak α}(hm:dX m)(x:aa):dX (m.named x):=by
 have d:∀r pd q,m.named x r pd= .bad q↔m r pd= .bad q:=by grind[ak.named]
 have aG:∀r pd q,m.named x r pd= .deep q↔m r pd= .deep q:=by grind[ak.named]
 exact⟨λh=>hm.sfx (th.1 h),λv hu h e=>th.2 (hm.ok v hu (th.1 h) e),
  λ{u pd r'} v hu aw h=>(by obtain⟨a,b,c⟩:=hm.bad v hu aw ((d _ _ _).1 h);grind),
  λ{u pd r'} v hu aw h=>(by obtain⟨a,b,c⟩:=hm.deep v hu aw ((aG _ _ _).1 h);grind)⟩
end
section
variable{fr:Bool}{lo:Option dS}(j2:∀l∈lo,uC l)
include j2
theorem dX.cp(t:Tok):dX (qe lo t):=by
 cases lo with
 |none=>exact dX.uz
 |some l=>exact(dX.kind (j2 l rfl) t).named _
theorem dX.function:dX (lF fr lo):=by
 cases lo with
 |none=>exact dX.uz
 |some l=>have hl:=j2 l rfl;unfold lF;simp only;refine dX.ite (dX.named ?_ _) dX.uz;refine((aq.dj _).ae λ_=>aq.fL (λt a=>?_) (by simp[cE,aq.b5])).n;rw[aO a];refine dX.ite ?_ dX.bJ;refine((aq.dj _).ae λ_=>(aq.lines.aK _).ae λ_=>aq.fL (λt a=>?_) (by simp[cE,aq.b5])).n;rw[aO a];exact dX.ite ((hl.cp t).ae λ_=>aq.ite hl.rd (aq.ret _)) dX.bJ
omit j2 in
theorem Ae:∀(d:Nat)(r q:aa),hR d r= .ok q->q<:+r
 |d,[],q,h=>by grind[hR]
 |d,b::t,q,h=>by
  rw[vI] at h;split at h
  ·cases h
  ·split at h
   ·exact(Ae _ t q h).trans (eb _ _)
   ·split at h
    ·cases d with
     |succ a=>exact(Ae a t q h).trans (eb _ _)
     |zero=>
      cases t with
      |nil=>cases h
      |cons c u=>
       simp only at h;split at h
       ·cases h;exact(eb _ _).trans (eb _ _)
       ·cases h
    ·exact(Ae d t q h).trans (eb _ _)
omit j2 in
theorem aq.ns:aq ns:=by
 constructor
 ·grind[Go.Eng.ns,Ae]
 ·intro u pd a r' e v hu h f;by_cases aw:u=[]
  ·subst aw;cases h
  ·unfold Go.Eng.ns at h⊢;split at h
   ·simp_all[Ro]
   ·cases h
   grind
 ·intro u pd r' v hu h;by_cases aw:u=[]
  ·subst aw;cases h
  ·unfold Go.Eng.ns at h⊢;split at h
   ·cases h
   ·cases h
   ·rename_i q d;cases h;obtain⟨a,b,c⟩:=(Ro 0 u v hu aw).2 _ d;grind
 ·grind[Go.Eng.ns]
 ·intro pd;exact .inl ⟨_,_,_,rfl⟩
omit j2 in
theorem aq.Ru{o:aa}(b:(10:UInt8)∉o)(i:o≠[]){α:Type}{f g:ak α}(hf:dX f)(bq:aq g):aq (λr pd=>if o.isPrefixOf r then f r pd else g r pd):=by
 have h0:o.isPrefixOf ([]:aa)=false:=by grind
 constructor
 ·intro r pd a r' e h;split at h
  ·exact hf.sfx h
  ·exact bq.sfx h
 ·intro u pd a r' e v hu h d;by_cases aw:u=[]
  ·subst aw;simp only[h0] at h;have:=bq.sfx h;grind
  ·rw[LO v b hu aw];split at h
   ·rename_i aF;rw[bh aF];exact hf.ok v hu h d
   ·rename_i aF;rw[aO aF];exact bq.ok v hu h d
 ·intro u pd r' v hu h;by_cases aw:u=[]
  ·subst aw;simp only[h0] at h;rcases bq.nil pd with⟨_,_,_,c⟩|⟨_,c⟩<;>(grind)
  ·rw[LO v b hu aw];split at h
   ·rename_i aF;rw[bh aF];exact hf.bad v hu aw h
   ·rename_i aF;rw[aO aF];exact bq.bad v hu h
 ·intro u pd r' v hu h;by_cases aw:u=[]
  ·subst aw;simp only[h0] at h;rcases bq.nil pd with⟨_,_,_,c⟩|⟨_,c⟩<;>(grind)
  ·rw[LO v b hu aw];split at h
   ·rename_i aF;rw[bh aF];exact hf.deep v hu aw h
   ·rename_i aF;rw[aO aF];exact bq.deep v hu h
 ·intro pd;simp only[h0];exact bq.nil pd
omit j2 in
theorem dX.so{n:Nat}{f:dS->ak Unit}(hf:∀l∈lo,aq (f l)):dX (so lo n f):=by
 cases lo with
 |none=>exact dX.uz
 |some l=>exact((aq.dj _).ae λ_=>hf l rfl).n
theorem aq.vK:aq (dd lo):=by refine aq.Ru (by decide) (by decide) ((aq.dj 3).ae λ_=>aq.ns).n ?_;refine aq.Ru (by decide) (by decide) (dX.so λl h=>((((j2 l h).ls _ _).aK _).named _).ae λ_=>aq.op _) ?_;refine aq.Ru (by decide) (by decide) (dX.so λl h=>(j2 l h).pm.named _) ?_;exact aq.dj 1
theorem Cr:hT (dd lo):=by
 refine⟨aq.vK j2,λ{r pd r' b} g h=>?_⟩;have i:r≠[]:=by rintro rfl;grind[fJ]
 have c:∀n (f:dS->ak Unit),(∀l∈lo,aq (f l))->0<n->so lo n f r pd= .ok () r' b->r'.length<r.length:=by
  intro n f hf aw h;cases lo with
  |none=>cases h
  |some l=>have d:Go.Eng.ae (bU n) (λ_=>f l) r pd= .ok () r' b:=h;obtain⟨_,r1,e,ad,a⟩:=b1 d;cases ad;have:=((hf l rfl).sfx a).length_le;grind[List.length_pos_iff,List.length_drop]
 unfold dd at h;split at h
 ·obtain⟨_,r1,e,ad,a⟩:=b1 h;cases ad;have:=(aq.ns.sfx a).length_le;grind
 ·split at h
  ·exact c 2 _ (λl h=>((((j2 l h).ls _ _).aK _).named _).ae λ_=>aq.op _) (by decide) h
  ·split at h
   ·exact c 2 _ (λl h=>(j2 l h).pm.named _) (by decide) h
   grind[List.length_pos_iff,List.length_drop]
theorem aq.command{D:ak Unit}(hD:hT D):aq (fx fr lo D):=by
 refine aq.fL (λt a=>?_) (by simp[cE,aq.b5]);rw[aO a];refine dX.ite ((dX.cp j2 t).ae λ_=>aq.mG hD) ?_;cases t with
 |eof=>grind
 |line=>exact dX.bJ
 |op o=>exact dX.ite ((aq.jj hD).ae λ_=>aq.simple hD _).n dX.bJ
 |word w p=>
  refine dX.ite dX.bJ ((aq.jj hD).ae λb=>aq.ite (aq.simple hD _) ((aq.word hD).ae λ_=>aq.ite (aq.fL (λt a=>?_) ?_) (aq.simple hD _))).n
  ·exact dX.ite ((dX.function j2).ae λ_=>aq.ite (aq.ret _) (aq.mG hD)) (aq.simple hD _).n
  simp_all[aO,aq.simple]
omit j2 in
theorem aq.pipe{da:ak Unit}(aF:aq da):aq (fi da):=by
 have hk:aq (Go.Eng.ae (cS.aK [120]) λ_=>Go.Eng.ae da λ_=>aX (.inl ()):ak (Unit⊕Unit)):=(aq.lines.aK _).ae λ_=>aF.ae λ_=>aq.ret _;refine(aq.dH _).ae λt=>(aq.ite (aq.dj _) (aq.ret _)).ae λ_=>aF.ae λ_=>aq.rep (ij.of (λ_=>(aq.dH _).ae λt=>aq.ite ((aq.dj _).ae λ_=>hk) (aq.ret _)) (λ_=>fK.dH (λt a=>fK.ite (fK.Cm (mF.dj 0) λ_=>hk) (fK.inr _)) ?_) (λ_=>iW.dH ?_)) ()
 ·simp[cn,iW.inr]
 simp[cn,iW.inr]
omit j2 in
theorem aq.pE{a:ak Unit}(aF:aq a):aq (hB a):=by
 have hk:aq (Go.Eng.ae (cS.aK [120]) λ_=>Go.Eng.ae a λ_=>aX (.inl ()):ak (Unit⊕Unit)):=(aq.lines.aK _).ae λ_=>aF.ae λ_=>aq.ret _;refine aF.ae λ_=>aq.rep (ij.of (λ_=>(aq.dH _).ae λt=>aq.ite ((aq.dj _).ae λ_=>hk) (aq.ret _)) (λ_=>fK.dH (λt b=>fK.ite (fK.Cm (mF.dj 1) λ_=>hk) (fK.inr _)) ?_) (λ_=>iW.dH ?_)) ()
 ·simp[or_self,cn,iW.inr]
 simp[or_self,cn,iW.inr]
end
def ik(c:Ctx)(n:Nat)(t:Tok):ak (Nat⊕Nat):=match t with
    | .eof=>aX (.inl (n+1))
    | .line=>ae cS λ_=>aX (.inl (n+1))
    | .word _ _=>bJ
    | .op o=>if o=[59]\/o=[38] then ae (bU 1) λ_=>ae cS λ_=>aX (.inl (n+1)) else if dG c t then aX (.inr (n+1)) else bJ
def eN(c2:ak Unit)(c:Ctx)(none:Bool)(n:Nat):ak (Nat⊕Nat):=ae (bM (if none||n>0 then [] else [120])) λt=>
 if t= .eof then(if c= .text then aX (.inr n) else b5 (if none||n>0 then [] else [120])) else if(none||n>0)&&dG c t then aX (.inr n) else
 ae c2 λ_=>ae (bM []) (ik c n)
theorem qX(c2:ak Unit)(c:Ctx)(none:Bool):oe c2 c none=ae (cS.aK (if none then [] else [120])) λ_=>b8 (eN c2 c none) 0:=rfl
theorem aq.ai6(c:Ctx)(n:Nat):aq (Go.Eng.ae (bM []) (ik c n)):=by
 refine aq.fL (λt a=>?_) (aq.ret _);cases t with
 |eof=>grind
 |line=>exact(aq.lines.ae λ_=>aq.ret _).n
 |word w p=>exact dX.bJ
 |op o=>exact dX.ite ((aq.dj _).ae λ_=>aq.lines.ae λ_=>aq.ret _).n (dX.ite (aq.ret _).n dX.bJ)
theorem ij.round{c2:ak Unit}(i:aq c2)(c:Ctx)(none:Bool):ij (eN c2 c none):=by
 refine⟨λn=>(aq.dH _).ae λt=>aq.ite (aq.ite (aq.ret _) (aq.b5 _)) (aq.ite (aq.ret _) (i.ae λ_=>aq.ai6 c n)),λ{n r pd z r' A} h=>?_⟩;obtain⟨t,r1,B,ad,b⟩:=b1 h;obtain⟨j,rfl,rfl⟩:=nv ad;have C:=(dT j).length_le;split at b
 ·split at b<;>cases b
 ·rename_i bc;have D:0<r1.length:=Jy.2 λe=>bc (lG.2 e);split at b
  ·cases b
  ·obtain⟨_,E,F,k,l⟩:=b1 b;have a2:=(i.sfx k).length_le;obtain⟨t,m,G,q,a⟩:=b1 l;obtain⟨s,rfl,rfl⟩:=nv q;have a3:=(dT s).length_le;cases d:ar m with
   |eof=>rw[d] at a;cases a;grind[lG]
   |line=>rw[d] at a;obtain⟨t,rfl⟩:=vJ d;obtain⟨_,u,v,f,g⟩:=b1 a;cases g;have:=Xz f;omega
   |word w p=>rw[d] at a;cases a
   |op o=>
    rw[d] at a;unfold ik at a;simp only at a;split at a
    ·obtain⟨_,u,v,f,g⟩:=b1 a;cases f;obtain⟨_,H,I,x,y⟩:=b1 g;cases y;have J:=(aq.lines.sfx x).length_le;grind
    ·split at a<;>cases a
theorem aq.list{c2:ak Unit}(a:aq c2)(c:Ctx)(none:Bool):aq (oe c2 c none):=by rw[qX];exact(aq.lines.aK _).ae λ_=>aq.rep (ij.round a c none) 0
theorem XB{fr:Bool}{lo:Option dS}(j2:∀l∈lo,uC l)(b:Bool):uC {ls:=oe (hB (fi (fx fr lo (dd lo)))),pm:=qT (dd lo),cp:=qe lo,rd:=gJ (dd lo),dl:=dd lo,has:=b}:=
 have hD:=Cr j2
 ⟨λc n=>aq.list (aq.pE (aq.pipe (aq.command j2 hD))) c n,aq.param hD,dX.cp j2,aq.mG hD,hD⟩
theorem qY(fr:Bool):∀n,uC (aR fr n)
 |0=>XB (λl h=>by cases h) false
 |n+1=>XB (λl h=>by cases h;exact qY fr n) true
def e9{α:Type}(f:ak α):Prop:=∀⦃u:aa⦄ ⦃pd:ao⦄ ⦃a:α⦄ ⦃r':aa⦄ ⦃b:ao⦄,dr u->u≠[]->f u pd= .ok a r' b->r'≠[]
def NE{α:Type}(f:ak α):Prop:=∀⦃u:aa⦄ ⦃pd:ao⦄ ⦃a:α⦄ ⦃r':aa⦄ ⦃b:ao⦄,dr u->f u pd= .ok a r' b->r'≠[]
theorem NE.k{α:Type}{f:ak α}(h:NE f):e9 f:=λ_ _ _ _ _ hu _ e=>h hu e
theorem NE.oL{α β:Type}{m:ak α}{k:α->ak β}(c:aq m)(hm:NE m)(hk:∀a,e9 (k a)):NE (ae m k):=by intro u pd b r' e hu h;obtain⟨a,r1,f,ad,d⟩:=b1 h;exact hk a (hu.sfx (c.sfx ad)) (hm hu ad) d
theorem NE.lk{α β:Type}{m:ak α}{k:α->ak β}(c:aq m)(hk:∀a,NE (k a)):NE (ae m k):=by intro u pd b r' e hu h;obtain⟨a,r1,f,ad,d⟩:=b1 h;exact hk a (hu.sfx (c.sfx ad)) d
theorem e9.ae{α β:Type}{m:ak α}{k:α->ak β}(c:aq m)(hm:e9 m)(hk:∀a,e9 (k a)):e9 (Go.Eng.ae m k):=by intro u pd b r' e hu aw h;obtain⟨a,r1,f,ad,d⟩:=b1 h;exact hk a (hu.sfx (c.sfx ad)) (hm hu aw ad) d
theorem e9.ret{α:Type}(a:α):e9 (aX a):=by intro u pd b r' c hu aw h;cases h;exact aw
theorem NE.more{α:Type}(x:aa):NE (b5 x:ak α):=by intro u pd b r' a hu h;cases h
theorem NE.bad{α:Type}:NE (bJ:ak α):=by intro u pd b r' a hu h;cases h
theorem NE.deep{α:Type}:NE (uz:ak α):=by intro u pd b r' a hu h;cases h
theorem e9.ite{α:Type}{c:Prop}[Decidable c]{f g:ak α}(hf:e9 f)(bq:e9 g):e9 (if c then f else g):=by grind
theorem NE.ite{α:Type}{c:Prop}[Decidable c]{f g:ak α}(hf:NE f)(bq:NE g):NE (if c then f else g):=by grind
theorem NE.aK{α:Type}{m:ak α}(h:NE m)(x:aa):NE (m.aK x):=λ_ _ _ _ _ hu e=>h hu (gK.1 e)
theorem NE.named{α:Type}{m:ak α}(h:NE m)(x:aa):NE (m.named x):=λ_ _ _ _ _ hu e=>h hu (th.1 e)
theorem e9.dH(x:aa):e9 (bM x):=by intro u pd t r' a hu aw h;obtain⟨ad,_,_⟩:=nv h;exact(tg [] ad hu aw).1
theorem NE.fL{α:Type}{x:aa}{k:Tok->ak α}(h:∀t r,t≠ .eof->dr r->ar r=t->∀{pd a r' c},k t r pd= .ok a r' c->r'≠[])(h0:NE (k .eof)):NE (ae (bM x) k):=by
 intro u pd b r' c hu e;obtain⟨t,r1,j,ad,d⟩:=b1 e;obtain⟨f,rfl,rfl⟩:=nv ad;have g:=hu.sfx (dT f);by_cases i:ar r1= .eof
 ·rw[i] at d;exact h0 g d
 grind
theorem LU{o r:aa}(a:(10:UInt8)∉o)(aB:o<+:r)(b:dr r)(aw:r≠[]):r.drop o.length≠[]:=by obtain⟨t,rfl⟩:=aB;rw[o0];rintro rfl;grind[Xs]
theorem ai7{r:aa}:bs r∈lg\/bs r=[]:=by
 unfold bs;cases h:lg.find? (λo=>o.isPrefixOf r) with
 |none=>simp
 |some o=>grind
theorem XC{r:aa}:(10:UInt8)∉bs r:=by
 rcases ai7 (r:=r) with h|h
 ·have:∀o∈lg,(10:UInt8)∉o:=by decide
  grind
 grind
theorem il{r o:aa}(h:ar r= .op o):o=bs r/\o<+:r/\(10:UInt8)∉o/\o≠[]:=by
 cases r with
 |nil=>grind[ar]
 |cons b t=>
  simp only[ar] at h;split at h
  ·cases h
  ·split at h
   ·rename_i ad;cases h;exact⟨rfl,Rk,XC,ad⟩
   grind
theorem ER:∀(r w:aa),c5 r=(w,true)->w<+:r/\(10:UInt8)∉w
 |[],w,h=>by grind[c5]
 |b::t,w,h=>by
  rw[c5] at h;split at h
  ·grind
  ·rename_i d;split at h
   ·cases h
   ·split at h
    ·rename_i w' a;cases h;obtain⟨c,e⟩:=ER t w' a;refine⟨List.cons_prefix_cons.2 ⟨rfl,c⟩,?_⟩;simp only[kX,Gb];grind[EJ]
    grind
theorem qj{r w:aa}(h:ar r= .word w true):w<+:r/\(10:UInt8)∉w:=by
 cases r with
 |nil=>grind[ar]
 |cons b t=>grind[ar,Tok.word.injEq,ER]
theorem NE.exp{b:Tok->Bool}{n:Nat}(h:∀r t,dr r->ar r=t->b t=true->r.drop n≠[]):NE (mB b n):=by
 refine NE.fL (λt r c d he {pd a r' f} e=>?_) ?_
 ·rw[aO c] at e;split at e
  ·rename_i g;cases e;grind
  ·cases e
 ·rw[bh rfl];exact NE.more _
theorem NE.op(o:aa):NE (ji o):=by
 refine NE.exp λr t a he d=>?_;have:t= .op o:=by grind
 subst this;obtain⟨ad,b,c,e⟩:=il he;exact LU c b a (by grind)
theorem NE.res(w:aa):NE (cW w):=by
 refine NE.exp λr t a he c=>?_;have:t= .word w true:=by grind[cA]
 subst this;obtain⟨ad,b⟩:=qj he;exact LU b ad a (by rintro rfl;grind[ar])
theorem LV{σ α:Type}{f:σ->ak (σ⊕α)}(hf:ij f)(P:aa->Prop)(Q:aa->Prop)(ad:∀s r pd s' r' b,P r->f s r pd= .ok (.inl s') r' b->P r')(c:∀s r pd a r' b,P r->f s r pd= .ok (.inr a) r' b->Q r'):
  ∀(n:Nat)(s:σ)(r:aa)(pd:ao)(a:α)(r':aa)(b:ao),r.length<=n->P r->b8 f s r pd= .ok a r' b->Q r':=by
 intro n;induction n with
 |zero=>grind[qf]
 |succ n d=>intro s r pd a r' b aw aB h;rw[qf] at h;grind
theorem NE.word{D:ak Unit}(hD:hT D):NE (cG D):=by
 intro u pd a r' b hu h;refine LV (ij.word hD) (λ_=>True) (λr=>r≠[]) (λ_ _ _ _ _ _ _ _=>trivial) ?_ _ _ _ _ _ _ _ (cV _) trivial h;intro s r pd a r' b _ e;split at e
 ·cases e
 ·split at e
  ·grind
  ·obtain⟨_,_,_,_,e⟩:=b1 e;cases e
theorem NE.ss(tabs:Bool):NE (hs tabs):=by intro u pd a r' b hu h;grind[Cp,vH]
theorem NE.EO{D:ak Unit}(hD:hT D)(x:aa):NE (jL D x):=by
 refine NE.fL (λt r c b he {pd a r' d} e=>?_) (NE.more x);cases t with
 |eof=>grind
 |word w p=>exact NE.word hD b e
 |_=>cases e
theorem e9.jj{D:ak Unit}(hD:hT D):e9 (dx D):=by
 intro u pd a r' g hu aw h;obtain⟨o,r1,i,ad,b⟩:=b1 h;cases o with
 |none=>
  cases b;unfold fF at ad;split at ad
  ·cases ad
  ·rename_i q c;simp only at ad;split at ad
   ·cases ad
   ·cases ad;exact(tg [] c hu aw).1
 |some o=>obtain⟨_,j,k,d,e⟩:=b1 b;cases e;have f:=hu.sfx (aq.Xq.sfx ad);have:NE (if o=[60,60] then hs false else if o=[60,60,45] then hs true else jL D [120]):=NE.ite (NE.ss _) (NE.ite (NE.ss _) (NE.EO hD _));exact this f d
theorem ai8{D:ak Unit}(hD:hT D):ij (λ(_:Unit)=>ae (dx D) λb=>aX (if b then .inl () else .inr ()):Unit->ak (Unit⊕Unit)):=by
 refine⟨λ_=>(aq.jj hD).ae λb=>aq.ret _,λ{s r pd s' r' c} h=>?_⟩;obtain⟨b,r1,d,ad,a⟩:=b1 h;cases b with
 |true=>cases a;exact su hD ad
 |false=>cases a
theorem e9.rep{σ α:Type}{f:σ->ak (σ⊕α)}(hf:ij f)(hk:∀s,e9 (f s))(s:σ):e9 (b8 f s):=by intro u pd a r' b hu aw h;have:=LV hf (λr=>dr r/\r≠[]) (λr=>r≠[]) (λs r pd s' r' b aB e=>⟨aB.1.sfx ((hf.ex s).sfx e),hk s aB.1 aB.2 e⟩) (λs r pd a r' b aB e=>hk s aB.1 aB.2 e);exact this _ _ _ _ _ _ _ (cV _) ⟨hu,aw⟩ h
theorem e9.mG{D:ak Unit}(hD:hT D):e9 (gJ D):=e9.rep (ai8 hD) (λ_=>e9.ae (aq.jj hD) (e9.jj hD) λb=>e9.ret _) ()
theorem ai9{D:ak Unit}(hD:hT D)(fr:Bool):ij (λ(_:Unit)=>ae (dx D) λb=>if b then aX (.inl ()) else ae (bM []) λt=>match t with
 | .word _ _=>ae (cG D) λ_=>aX (.inl ())
 | .op o=>if fr/\o=[40] then bJ else aX (.inr ())
 |_=>aX (.inr ()):Unit->ak (Unit⊕Unit)):=by
 have he:aq (ae (bM []) λt=>match t with
  | .word _ _=>ae (cG D) λ_=>aX (.inl ())
  | .op o=>if fr/\o=[40] then bJ else aX (.inr ())
  |_=>aX (.inr ()):ak (Unit⊕Unit)):=by
  refine aq.fL (λt c=>?_) (aq.ret _);cases t with
  |word w p=>exact((aq.word hD).ae λ_=>aq.ret _).n
  |op o=>exact dX.ite dX.bJ (aq.ret _).n
  |_=>exact(aq.ret _).n
 have hl:fK (ae (bM []) λt=>match t with
  | .word _ _=>ae (cG D) λ_=>aX (.inl ())
  | .op o=>if fr/\o=[40] then bJ else aX (.inr ())
  |_=>aX (.inr ()):ak (Unit⊕Unit)):=by
  refine fK.LP hD (λt c d=>?_) (iW.inr _) (λw p=>⟨cG D,_,rfl,Iff.rfl,λ_=>aq.ret _⟩);cases t with
  |word w p=>grind
  |op o=>simp[fK.ite,fK.bad,fK.inr]
  |_=>simp[fK.inr]
 refine⟨λ_=>(aq.jj hD).ae λb=>aq.ite (aq.ret _) he,λ{s r pd s' r' e} h=>?_⟩;obtain⟨b,r1,f,ad,a⟩:=b1 h;cases b with
 |true=>cases a;exact su hD ad
 |false=>
  have g:=((aq.jj hD).sfx ad).length_le;by_cases aw:r1=[]
  ·subst aw;simp only[eB,cn] at a;have:iW (ae (bM []) λt=>match t with
    | .word _ _=>ae (cG D) λ_=>aX (.inl ())
    | .op o=>if fr/\o=[40] then bJ else aX (.inr ())
    |_=>aX (.inr ()):ak (Unit⊕Unit)):=iW.dH (iW.inr _)
   exact absurd a this
  ·simp only[eB,cn] at a;have:=hl aw a;omega
theorem e9.simple{D:ak Unit}(hD:hT D)(fr:Bool):e9 (hy fr D):=by
 refine e9.rep (ai9 hD fr) (λ_=>e9.ae (aq.jj hD) (e9.jj hD) λb=>e9.ite (e9.ret _) ?_) ();refine e9.ae (aq.dH _) (e9.dH _) λt=>?_;cases t with
 |word w p=>exact e9.ae (aq.word hD) (NE.word hD).k λ_=>e9.ret _
 |op o=>exact e9.ite NE.bad.k (e9.ret _)
 |_=>simp[e9.ret]
structure LW(l:dS):Prop where
 cp:∀t,NE (l.cp t)
 rd:e9 l.rd
section
variable{l:dS}(hl:uC l)
include hl
theorem NE.body(x:aa):NE (iF l x):=NE.lk ((aq.res _).aK _) λ_=>NE.lk ((hl.ls _ _).aK _) λ_=>NE.res _
theorem NE.rep{σ α:Type}{f:σ->ak (σ⊕α)}(hf:ij f)(hk:∀s {u pd a r' b},dr u->f s u pd= .ok (.inr a) r' b->r'≠[])(s:σ):NE (b8 f s):=by intro u pd a r' b hu h;have:=LV hf (λr=>dr r) (λr=>r≠[]) (λs r pd s' r' b aB e=>aB.sfx ((hf.ex s).sfx e)) (λs r pd a r' b aB e=>hk s aB e);exact this _ _ _ _ _ _ _ (cV _) hu h
theorem XD:ij (λ(_:Unit)=>ae ((l.ls .rB false).aK ([10]++iE++[32,120,10]++eU)) λ_=>ae (cW iE) λ_=>ae ((l.ls .qc false).aK (10::eU)) λ_=>
  ae (bM []) λt=>if cA t ig then ae (cW ig) λ_=>aX (.inl ()) else
   if cA t hS then ae (cW hS) λ_=>ae ((l.ls .kj false).aK (10::eU)) λ_=>ae (cW eU) λ_=>aX (.inr ()) else ae (cW eU) λ_=>aX (.inr ()):Unit->ak (Unit⊕Unit)):=by
 refine⟨λ_=>((hl.ls _ _).aK _).ae λ_=>(aq.res _).ae λ_=>((hl.ls _ _).aK _).ae λ_=>(aq.dH _).ae λt=>aq.ite ((aq.res _).ae λ_=>aq.ret _) (aq.ite ((aq.res _).ae λ_=>((hl.ls _ _).aK _).ae λ_=>(aq.res _).ae λ_=>aq.ret _) ((aq.res _).ae λ_=>aq.ret _)),λ{s r pd s' r' g} h=>?_⟩;obtain⟨_,r1,i,ad,h⟩:=b1 h;obtain⟨_,j,k,d,h⟩:=b1 h;obtain⟨_,m,n,e,h⟩:=b1 h;obtain⟨t,o,p,f,h⟩:=b1 h;have q:=((hl.ls _ _).sfx (gK.1 ad)).length_le;have a2:=((aq.res _).sfx d).length_le;have a3:=((hl.ls _ _).sfx (gK.1 e)).length_le;have u:=((aq.dH _).sfx f).length_le;split at h
 ·obtain⟨_,b,c,a,h⟩:=b1 h;cases h;have:=Rp (by decide) a;omega
 ·split at h
  ·obtain⟨_,b,c,a,h⟩:=b1 h;obtain⟨_,v,w,x,h⟩:=b1 h;obtain⟨_,y,z,A,h⟩:=b1 h;cases h
  ·obtain⟨_,b,c,a,h⟩:=b1 h;cases h
theorem NE.cond:NE (qd l):=by
 refine NE.rep hl (XD hl) (λs {u pd a r' p} hu h=>?_) ();obtain⟨_,r1,q,ad,h⟩:=b1 h;obtain⟨_,r,v,f,h⟩:=b1 h;obtain⟨_,w,x,g,h⟩:=b1 h;obtain⟨t,y,z,i,h⟩:=b1 h;have j:=hu.sfx ((hl.ls _ _).sfx (gK.1 ad));have k:=j.sfx ((aq.res _).sfx f);have m:=k.sfx ((hl.ls _ _).sfx (gK.1 g));have c:=m.sfx ((aq.dH _).sfx i);split at h
 ·obtain⟨_,d,e,b,h⟩:=b1 h;cases h
 ·split at h
  ·obtain⟨_,d,e,b,h⟩:=b1 h;obtain⟨_,A,B,n,h⟩:=b1 h;obtain⟨_,C,D,o,h⟩:=b1 h;cases h;exact NE.res _ ((c.sfx ((aq.res _).sfx b)).sfx ((hl.ls _ _).sfx (gK.1 n))) o
  ·obtain⟨_,d,e,b,h⟩:=b1 h;cases h;exact NE.res _ c b
theorem NE.for_{D:ak Unit}(hD:hT D):NE (pD l D):=by
 have a:aq (ae (bM []) λt=>if t= .op [59] then ae (bU 1) λ_=>ae cS λ_=>aX () else
   ae cS λ_=>ae (bM []) λt=>if cA t fl then ae (bU 2) λ_=>ae (pC D) λ_=>ae cS λ_=>aX () else aX ()):=
  (aq.dH _).ae λt=>aq.ite ((aq.dj _).ae λ_=>aq.lines.ae λ_=>aq.ret _) (aq.lines.ae λ_=>(aq.dH _).ae λt=>aq.ite ((aq.dj _).ae λ_=>(aq.words hD).ae λ_=>aq.lines.ae λ_=>aq.ret _) (aq.ret _))
 refine NE.lk (aq.dH _) λt=>?_;cases t with
 |eof=>simp[NE.more]
 |word w p=>
  cases p with
  |true=>exact NE.ite (NE.lk (aq.dj _) λ_=>NE.lk (a.aK _) λ_=>NE.body hl _) NE.bad
  |false=>exact NE.bad
 |_=>exact NE.bad
end
theorem ai_{r w:aa}{n:Nat}(he:cA (ar r) w=true)(aw:n=w.length)(a:dr r):r.drop n≠[]:=by
 have:ar r= .word w true:=by grind[cA]
 obtain⟨ad,b⟩:=qj this;subst aw;exact LU b ad a (by rintro rfl;grind[ar])
theorem aja{r o:aa}{n:Nat}(he:ar r= .op o)(aw:n=o.length)(a:dr r):r.drop n≠[]:=by obtain⟨ad,b,c,d⟩:=il he;subst aw;exact LU c b a (by grind)
section
variable{l:dS}(hl:uC l)
include hl
theorem XE{D:ak Unit}(hD:hT D):ij (λ(_:Unit)=>ae cS λ_=>ae (bM []) λt=>if t= .eof then b5 [] else if cA t eo then ae (bU 4) λ_=>aX (.inr ()) else
 ae ((if t= .op [40] then bU 1 else aX ())) λ_=>ae (kQ D) λ_=>ae (l.ls .item true) λ_=>ae (bM []) λt=>if t= .op [59,59] then ae (bU 2) λ_=>aX (.inl ()) else aX (.inl ()):Unit->ak (Unit⊕Unit)):=by
 have a:aq (ae (kQ D) λ_=>ae (l.ls .item true) λ_=>ae (bM []) λt=>if t= .op [59,59] then ae (bU 2) λ_=>aX (.inl ()) else aX (.inl ()):ak (Unit⊕Unit)):=
  (aq.w2 hD).ae λ_=>(hl.ls _ _).ae λ_=>(aq.dH _).ae λt=>aq.ite ((aq.dj _).ae λ_=>aq.ret _) (aq.ret _)
 refine⟨λ_=>aq.lines.ae λ_=>(aq.dH _).ae λt=>aq.ite (aq.b5 _) (aq.ite ((aq.dj _).ae λ_=>aq.ret _) ((aq.ite (aq.dj _) (aq.ret _)).ae λ_=>a)),λ{s r pd s' r' i} h=>?_⟩;obtain⟨_,r1,j,ad,h⟩:=b1 h;obtain⟨t,k,m,b,h⟩:=b1 h;have n:=(aq.lines.sfx ad).length_le;have a2:=((aq.dH _).sfx b).length_le;split at h
 ·cases h
 ·split at h
  ·obtain⟨_,_,_,_,h⟩:=b1 h;cases h
  ·obtain⟨_,o,p,c,h⟩:=b1 h;have a3:=((aq.ite (aq.dj 1) (aq.ret ())).sfx c).length_le;obtain⟨_,q,u,d,h⟩:=b1 h;have v:=Rs hD d;obtain⟨_,w,x,e,h⟩:=b1 h;have y:=((hl.ls _ _).sfx e).length_le;obtain⟨_,z,A,f,h⟩:=b1 h;have B:=((aq.dH _).sfx f).length_le;split at h
   ·obtain⟨_,C,E,g,h⟩:=b1 h;cases h;have:=((aq.dj 2).sfx g).length_le;omega
   ·cases h;omega
theorem NE.items{D:ak Unit}(hD:hT D):NE (nu l D):=by
 refine NE.rep hl (XE hl hD) (λs {u pd a r' o} hu h=>?_) ();obtain⟨_,r1,p,ad,f⟩:=b1 h;obtain⟨t,q,r,g,b⟩:=b1 f;obtain⟨i,rfl,rfl⟩:=nv g;have j:=(hu.sfx (aq.lines.sfx ad)).sfx (dT i);split at b
 ·cases b
 ·split at b
  ·rename_i he;obtain⟨_,_,_,e,c⟩:=b1 b;cases e;cases c;exact ai_ he rfl j
  ·obtain⟨_,v,w,e,c⟩:=b1 b;obtain⟨_,x,y,z,k⟩:=b1 c;obtain⟨_,A,B,C,m⟩:=b1 k;obtain⟨_,E,F,G,d⟩:=b1 m;split at d
   ·obtain⟨_,H,I,J,n⟩:=b1 d;cases n
   ·cases d
theorem NE.w3{D:ak Unit}(hD:hT D):NE (qV l D):=by
 have ad:aq (ae (cG D) λ_=>ae cS λ_=>ae (bM []) λt=>if t= .eof then b5 [] else aX t):=
  (aq.word hD).ae λ_=>aq.lines.ae λ_=>(aq.dH _).ae λt=>aq.ite (aq.b5 _) (aq.ret _)
 refine NE.lk (aq.dH _) λt=>?_;cases t with
 |eof=>simp[NE.more]
 |word w p=>exact NE.lk (ad.aK _) λt=>NE.ite (NE.lk (aq.dj _) λ_=>NE.aK (NE.items hl hD) _) NE.bad
 |_=>exact NE.bad
theorem NE.kind(t:Tok):NE (g0 l t):=by
 cases t with
 |op o=>show NE (ae (bU 1) λ_=>ae ((l.ls .paren false).aK [41]) λ_=>ji [41]);exact NE.lk (aq.dj _) λ_=>NE.lk ((hl.ls _ _).aK _) λ_=>NE.op _
 |word w p=>unfold g0;exact NE.lk (aq.dj _) λ_=>NE.ite (NE.lk ((hl.ls _ _).aK _) λ_=>NE.res _) (NE.ite (NE.cond hl) (NE.ite (NE.for_ hl hl.dl) (NE.ite (NE.w3 hl hl.dl) (NE.lk ((hl.ls _ _).aK _) λ_=>NE.body hl _))))
 |_=>exact NE.bad
end
section
variable{fr:Bool}{lo:Option dS}(j2:∀l∈lo,uC l)(hle:∀l∈lo,LW l)
include j2 hle
omit hle in
theorem NE.cp(t:Tok):NE (qe lo t):=by
 cases lo with
 |none=>exact NE.deep
 |some l=>exact NE.named (NE.kind (j2 l rfl) t) _
theorem NE.function:NE (lF fr lo):=by
 cases lo with
 |none=>exact NE.deep
 |some l=>
  have hl:=j2 l rfl;have he:=hle l rfl;unfold lF;simp only;refine NE.ite (NE.named ?_ _) NE.deep;refine NE.lk (aq.dj _) λ_=>NE.lk (aq.dH _) λt=>NE.ite (NE.more _) (NE.ite ?_ NE.bad);refine NE.lk (aq.dj _) λ_=>NE.lk (aq.lines.aK _) λ_=>NE.lk (aq.dH _) λt=>NE.ite (NE.more _) (NE.ite ?_ NE.bad);intro u pd b r' e hu h;obtain⟨_,r1,f,ad,a⟩:=b1 h;have d:=hu.sfx ((hl.cp t).sfx ad);have c:=he.cp t hu ad;split at a
  ·exact he.rd d c a
  ·cases a;exact c
theorem NE.command{D:ak Unit}(hD:hT D):NE (fx fr lo D):=by
 refine NE.fL (λt r m c he {pd a r' B} e=>?_) (by rw[bh rfl];exact NE.more _);have n:r≠[]:=by rintro rfl;exact m he.symm
 rw[aO m] at e;split at e
 ·obtain⟨_,r1,y,ad,d⟩:=b1 e;exact e9.mG hD (c.sfx ((dX.cp j2 t).sfx ad)) (NE.cp j2 t c ad) d
 ·cases t with
  |eof=>grind
  |line=>cases e
  |op o=>
   simp only at e;split at e
   ·exact e9.ae (aq.jj hD) (e9.jj hD) (λ_=>e9.simple hD fr) c n e
   ·cases e
  |word w p=>
   simp only at e;split at e
   ·cases e
   ·obtain⟨b,r1,y,ad,d⟩:=b1 e;have f:=c.sfx ((aq.jj hD).sfx ad);have z:=e9.jj hD c n ad;split at d
    ·exact e9.simple hD fr f z d
    ·obtain⟨_,C,E,q,g⟩:=b1 d;have h:=f.sfx ((aq.word hD).sfx q);have s:=NE.word hD f q;split at g
     ·obtain⟨F,G,H,u,i⟩:=b1 g;have j:=h.sfx ((aq.dH _).sfx u);have A:=e9.dH _ h s u;split at i
      ·obtain⟨_,I,J,v,k⟩:=b1 i;have l:=j.sfx ((dX.function j2).sfx v);have x:=NE.function j2 hle j v;split at k
       ·cases k;exact x
       ·exact e9.mG hD l x k
      ·exact e9.simple hD fr j A i
     ·exact e9.simple hD fr h s g
end
theorem ajc{da:ak Unit}(aF:aq da):ij (λ(_:Unit)=>ae (bM []) λt=>if t= .op [124] then ae (bU 1) λ_=>ae (cS.aK [120]) λ_=>ae da λ_=>aX (.inl ()) else aX (.inr ()):Unit->ak (Unit⊕Unit)):=by
 have hk:aq (ae (cS.aK [120]) λ_=>ae da λ_=>aX (.inl ()):ak (Unit⊕Unit)):=(aq.lines.aK _).ae λ_=>aF.ae λ_=>aq.ret _;refine ij.of (λ_=>(aq.dH _).ae λt=>aq.ite ((aq.dj _).ae λ_=>hk) (aq.ret _)) (λ_=>fK.dH (λt a=>fK.ite (fK.Cm (mF.dj 0) λ_=>hk) (fK.inr _)) ?_) (λ_=>iW.dH ?_)
 ·simp[cn,iW.inr]
 simp[cn,iW.inr]
theorem NE.pipe{da:ak Unit}(a:aq da)(aF:NE da):NE (fi da):=by refine NE.lk (aq.dH _) λt=>NE.lk (aq.ite (aq.dj _) (aq.ret _)) λ_=>NE.oL a aF λ_=>e9.rep (ajc a) (λ_=>e9.ae (aq.dH _) (e9.dH _) λt=>e9.ite ?_ (e9.ret _)) ();refine NE.k (NE.lk (aq.dj _) λ_=>NE.lk (aq.lines.aK _) λ_=>NE.oL a aF λ_=>e9.ret _)
theorem ajd{a:ak Unit}(aF:aq a):ij (λ(_:Unit)=>ae (bM []) λt=>if t= .op [38,38]\/t= .op [124,124] then ae (bU 2) λ_=>ae (cS.aK [120]) λ_=>ae a λ_=>aX (.inl ()) else aX (.inr ()):Unit->ak (Unit⊕Unit)):=by
 have hk:aq (ae (cS.aK [120]) λ_=>ae a λ_=>aX (.inl ()):ak (Unit⊕Unit)):=(aq.lines.aK _).ae λ_=>aF.ae λ_=>aq.ret _;refine ij.of (λ_=>(aq.dH _).ae λt=>aq.ite ((aq.dj _).ae λ_=>hk) (aq.ret _)) (λ_=>fK.dH (λt b=>fK.ite (fK.Cm (mF.dj 1) λ_=>hk) (fK.inr _)) ?_) (λ_=>iW.dH ?_)
 ·simp[or_self,cn,iW.inr]
 simp[or_self,cn,iW.inr]
theorem NE.pE{a:ak Unit}(b:aq a)(aF:NE a):NE (hB a):=by refine NE.oL b aF λ_=>e9.rep (ajd b) (λ_=>e9.ae (aq.dH _) (e9.dH _) λt=>e9.ite ?_ (e9.ret _)) ();refine NE.k (NE.lk (aq.dj _) λ_=>NE.lk (aq.lines.aK _) λ_=>NE.oL b aF λ_=>e9.ret _)
theorem aje(fr:Bool):∀n,LW (aR fr n)
 |0=>⟨λt=>NE.cp (lo:=none) (λl h=>by cases h) t,e9.mG (Cr (lo:=none) λl h=>by cases h)⟩
 |n+1=>⟨λt=>NE.cp (lo:=some (aR fr n)) (λl h=>by grind[qY]) t,e9.mG (Cr (lo:=some (aR fr n)) λl h=>by grind[qY])⟩
def jx(fr:Bool):Nat->ak Unit
 |0=>hB (fi (fx fr none (dd none)))
 |n+1=>hB (fi (fx fr (some (aR fr n)) (dd (some (aR fr n)))))
theorem w4(fr:Bool)(n:Nat):(aR fr n).ls=oe (jx fr n):=by cases n<;>rfl
theorem XG(fr:Bool):∀n,aq (jx fr n)/\NE (jx fr n)
 |0=>by
  have ad:∀l∈(none:Option dS),uC l:=λl h=>by cases h
  have b:∀l∈(none:Option dS),LW l:=λl h=>by cases h
  have a:=aq.command (fr:=fr) ad (Cr ad);exact⟨aq.pE (aq.pipe a),NE.pE (aq.pipe a) (NE.pipe a (NE.command ad b (Cr ad)))⟩
 |n+1=>by
  have ad:∀l∈some (aR fr n),uC l:=λl h=>by grind[qY]
  have b:∀l∈some (aR fr n),LW l:=λl h=>by grind[aje]
  have a:=aq.command (fr:=fr) ad (Cr ad);exact⟨aq.pE (aq.pipe a),NE.pE (aq.pipe a) (NE.pipe a (NE.command ad b (Cr ad)))⟩
def cK{σ α:Type}(f:σ->ak (σ⊕α))(r:aa)(x:dD (σ⊕α)):dD α:=match x with
 | .ok (.inl s') r' b=>if r'.length<r.length then b8 f s' r' b else .bad r'
 | .ok (.inr a) r' b=> .ok a r' b
 | .more op nd ds=> .more op nd ds
 | .bad r=> .bad r
 | .deep r=> .deep r
theorem cm{σ α:Type}(f:σ->ak (σ⊕α))(s:σ)(r:aa)(pd:ao):b8 f s r pd=cK f r (f s r pd):=by grind[qf,cK]
theorem de{α β:Type}{m:ak α}{k:α->ak β}{r:aa}{pd:ao}{op:bt}{nd:aa}{ds:ao}(h:m r pd= .more op nd ds):ae m k r pd= .more op nd ds:=by grind[ae]
theorem g1{α β:Type}{m:ak α}{k:α->ak β}{r:aa}{pd:ao}{q:aa}(h:m r pd= .bad q):ae m k r pd= .bad q:=by grind[ae]
theorem iG{x r:aa}{pd:ao}(h:bp r=none):bM x r pd=b5 x r pd:=by grind[bM]
theorem ch{x r r':aa}{pd:ao}(h:bp r=some r'):bM x r pd= .ok (ar r') r' pd:=by grind[bM]
def gE(some:Bool):ak (Bool⊕Bool):=ae (bM []) λt=>if t= .line then ae iV λ_=>aX (.inl true) else aX (.inr some)
theorem qk:cS=b8 gE false:=rfl
theorem tk{b:Bool}{r t:aa}{pd:ao}(h:bp r=some (10::t)):gE b r pd=ae iV (λ_=>aX (.inl true)) (10::t) pd:=by
 have:bM [] r pd= .ok .line (10::t) pd:=by unfold bM;rw[h];rfl
 unfold gE;rw[aM this,bh rfl]
theorem qZ{b:Bool}{r r1:aa}{pd:ao}(h:bp r=some r1)(a:ar r1≠ .line):gE b r pd= .ok (.inr b) r1 pd:=by
 have:bM [] r pd= .ok (ar r1) r1 pd:=by grind[bM]
 unfold gE;rw[aM this,aO a];rfl
theorem XH:∀(n:Nat)(b:Bool)(u:aa)(pd:ao)(d:Bool)(e:ao),u.length<=n->dr u->u≠[]->b8 gE b u pd= .ok d [] e->
  e=[]/\d=true/\∀v,b8 gE b (u++v) pd=b8 gE true v []:=by
 intro n;induction n with
 |zero=>grind
 |succ n k=>
  intro b u pd d e aw hu bc h;rw[qf] at h;cases c:bp u with
  |none=>
   have:gE b u pd= .more [] (cQ [] pd []).1 (cQ [] pd []).2:=by exact de (iG c)
   grind
  |some r1=>
   have s1:=dT c;by_cases g:ar r1= .line
   ·obtain⟨t,rfl⟩:=vJ g;rw[tk c] at h;have nt:dr t:=(hu.sfx s1).tail;cases f:l3 pd t with
    |inr nd=>grind[ae,iV,aX,ti]
    |inl a=>
     have l:ae iV (λ_=>aX (.inl true)) (10::t) pd=(.ok (.inl true) a []:dD (Bool⊕Bool)):=by unfold ae;rw[ti,f];rfl
     rw[l] at h;have s2:=(vE pd t [] a f).1;have m:=s1.length_le;have o:=s2.length_le;simp only[mo] at m;simp only[show a.length<u.length by omega,cE] at h
     have step:∀v,b8 gE b (u++v) pd=b8 gE true (a++v) []:=by
      intro v;rw[qf];have i:=(tg v c hu bc).2;simp only[hF] at i;rw[tk i];have p:ae iV (λ_=>aX (.inl true)) (10::(t++v)) pd=(.ok (.inl true) (a++v) []:dD (Bool⊕Bool)):=by unfold ae;rw[ti,(vE pd t v a f).2 nt];rfl
      grind
     by_cases j:a=[]
     ·subst j;have:b8 gE true [] []=(.ok true [] []:dD Bool):=by rw[qf,qZ (r1:=[]) l5 (by decide)]
      grind
     ·obtain⟨q,r,s⟩:=k true a [] d e (by omega) (nt.sfx s2) j h;grind
   ·rw[qZ c g] at h;cases h;exact absurd rfl (tg [] c hu bc).1
theorem ajf{fr:Bool}{lo:Option dS}{D:ak Unit}{c:Ctx}{r:aa}{pd:ao}(e:bp r=some r)(he:dG c (ar r)=true)(aw:ar r≠ .eof):fx fr lo D r pd= .bad r:=by
 have aB:bM [120] r pd= .ok (ar r) r pd:=by grind[bM]
 unfold fx;rw[aM aB,aO aw]
 have a:(∃w,ar r= .word w true/\rA w=true/\qb w=false)\/∃o,ar r= .op o/\eV o=false/\o≠[40]:=by
  cases c<;>simp[dG,cA] at he
  ·grind
  ·exact .inr ⟨_,he,by decide,by decide⟩
  ·exact .inl ⟨_,he,by decide,by decide⟩
  ·exact .inl ⟨_,he,by decide,by decide⟩
  ·rcases he with(he|he)|he<;>exact .inl ⟨_,he,by decide,by decide⟩
  ·exact .inl ⟨_,he,by decide,by decide⟩
  ·exact .inl ⟨_,he,by decide,by decide⟩
  ·exact .inl ⟨_,he,by decide,by decide⟩
  ·rcases he with he|he
   ·exact .inr ⟨_,he,by decide,by decide⟩
   ·exact .inl ⟨_,he,by decide,by decide⟩
 rcases a with⟨w,ad,b,d⟩|⟨o,ad,b,d⟩
 ·simp_all[hv,bJ]
 simp_all[hv,bJ]
theorem kR:∀(n:Nat)(r r':aa),r.length<=n->bp r=some r'->bp r'=some r':=by
 intro n;induction n with
 |zero=>grind[List.length_eq_zero_iff,l5]
 |succ n a=>
  intro r r' aw h;cases r with
  |nil=>grind
  |cons b t=>grind[List.length_cons,nQ,Ab]
theorem ajg{c:Ctx}{t:Tok}(he:dG c t=true):cA t [33]=false:=by
 cases t with
 |word w p=>
  cases h:cA (.word w p) [33] with
  |false=>rfl
  |true=>
   have:w=[33]/\p=true:=by grind[cA]
   obtain⟨rfl,rfl⟩:=this;cases c<;>simp[dG,cA,iE,ig,hS,eU,gD,ih,eo] at he
 |_=>rfl
theorem ajh{fr:Bool}{m:Nat}{c:Ctx}{r:aa}{pd:ao}(b:bp r=some r)(he:dG c (ar r)=true)(aw:ar r≠ .eof):jx fr m r pd= .bad r:=by
 have aB:bM [120] r pd= .ok (ar r) r pd:=by grind[bM]
 have a:∀(lo:Option dS)(D:ak Unit),hB (fi (fx fr lo D)) r pd= .bad r:=by
  intro lo D;have ad:=ajf (fr:=fr) (lo:=lo) (D:=D) (pd:=pd) b he aw;have d:fi (fx fr lo D) r pd= .bad r:=by unfold fi;rw[aM aB,ajg he];simp only[eB,cn];rw[aM (show aX () r pd= .ok () r pd from rfl)];unfold ae;rw[ad]
  simp_all[hB,ae]
 cases m<;>exact a _ _
theorem Ik{c2:ak Unit}{c:Ctx}{none:Bool}{n:Nat}{pd:ao}:eN c2 c none n [] pd=if c= .text then .ok (.inr n) [] pd else b5 (if none||n>0 then [] else [120]) [] pd:=by unfold eN;rw[aM (ch l5)];rw[show ar []= .eof from rfl,bh rfl];split<;>rfl
theorem LX{c2:ak Unit}{c:Ctx}{none:Bool}{n:Nat}{r r1:aa}{pd:ao}(a:bp r=some r1)(aw:ar r1≠ .eof)(he:dG c (ar r1)=false):eN c2 c none n r pd=ae c2 (λ_=>ae (bM []) (ik c n)) r1 pd:=by unfold eN;rw[aM (ch a),aO aw,he];simp
theorem XI{c2:ak Unit}{c:Ctx}{none:Bool}{n:Nat}{r r1:aa}{pd:ao}(a:bp r=some r1)(aw:ar r1≠ .eof)(he:dG c (ar r1)=true)(b:(none||n>0)=true):eN c2 c none n r pd= .ok (.inr n) r1 pd:=by unfold eN;rw[aM (ch a),aO aw,he,b];rfl
theorem XJ(fr:Bool)(m:Nat)(c:Ctx)(r:Bool):∀(N n:Nat)(u:aa)(pd:ao)(k:Nat)(l:ao),u.length<=N->dr u->u≠[]->b8 (eN (jx fr m) .text true) n u pd= .ok k [] l->
  l=[]/\n<k/\∀v,b8 (eN (jx fr m) c r) n (u++v) pd=ae (b8 gE true) (λ_=>b8 (eN (jx fr m) c r) k) v []:=by
 obtain⟨C,bc⟩:=XG fr m;intro N;induction N with
 |zero=>grind
 |succ N T=>
  intro n u pd k l aw hu L h;rw[cm] at h;cases s:bp u with
  |none=>
   have:eN (jx fr m) .text true n u pd= .more [] (cQ [] pd []).1 (cQ [] pd []).2:=by unfold eN;exact de (iG s)
   rw[this] at h;cases h
  |some r1=>
   have s1:=dT s;have A:=hu.sfx s1;obtain⟨M,_⟩:=tg [] s hu L;have U:ar r1≠ .eof:=λe=>M (lG.1 e);have j3:=kR _ _ _ (cV _) s;have D:dG .text (ar r1)=false:=by grind[dG,beq_false_of_ne]
   rw[LX s U D] at h;cases i:jx fr m r1 pd with
   |more op nd ds=>rw[de i] at h;cases h
   |bad q=>rw[g1 i] at h;cases h
   |deep q=>unfold ae at h;rw[i] at h;cases h
   |ok x V j=>
    rw[aM i] at h;have E:=bc A i;have F:=A.sfx (C.sfx i);have W:dG c (ar r1)=false:=by grind[dG,ar,ajh]
    have j9:=s1.length_le;have jF:=(C.sfx i).length_le;cases t:bp V with
    |none=>rw[de (iG t)] at h;cases h
    |some d=>
     rw[aM (ch t)] at h;have B:=F.sfx (dT t);have ET:=(dT t).length_le;obtain⟨O,_⟩:=tg [] t F E
     have P:∀v,eN (jx fr m) c r n (u++v) pd=ik c n (ar d) (d++v) j:=by intro v;have a1:=EK v A M;rw[LX (tg v s hu L).2 (by grind) (by grind),aM (C.ok v A i E),aM (ch (tg v t F E).2),EK v B O]
     have a:∀(g:aa)(z:Nat),dr g->g≠[]->g.length<=d.length->(∀v,eN (jx fr m) c r n (u++v) pd=ae cS (λ_=>aX (.inl z)) (g++v) j)->cK (eN (jx fr m) .text true) u (ae cS (λ_=>aX (.inl z)) g j)= .ok k [] l->n<z->
       l=[]/\n<k/\∀v,b8 (eN (jx fr m) c r) n (u++v) pd=ae (b8 gE true) (λ_=>b8 (eN (jx fr m) c r) k) v []:=by
      intro g z G X Y Q h H;cases hl:cS g j with
      |more op nd ds=>rw[de hl] at h;cases h
      |bad q=>rw[g1 hl] at h;cases h
      |deep q=>unfold ae at h;rw[hl] at h;cases h
      |ok b R Z=>
       rw[aM hl] at h;unfold cK at h;simp only[aX] at h;split at h
       ·rename_i eP;by_cases I:R=[]
        ·subst I;rw[qf,Ik] at h;simp only[if_true] at h;cases h;obtain⟨kA,p2,wz⟩:=XH _ false g j b l (Nat.le_refl _) G X (by simp_all[qk]);refine⟨kA,H,λv=>?_⟩;rw[cm,Q v];unfold cK;have J:cS (g++v) j=b8 gE true v []:=by simp_all[qk]
         unfold ae;rw[J];cases az:b8 gE true v [] with
         |ok fo v2 uD=>
          simp only[aX];have:v2.length<=v.length:=by have:=aq.rep (f:=gE) ij.lines true;exact(this.sfx az).length_le
          grind
         |_=>rfl
        ·obtain⟨i1,i2,i3⟩:=T z R Z k l (by omega) (G.sfx (aq.lines.sfx hl)) I h;refine⟨i1,by omega,λv=>?_⟩;rw[cm,Q v,aM (aq.lines.ok v G hl I)];simp_all[cK,aX,bh]
       grind
     cases y:ar d with
     |eof=>grind[absurd,lG]
     |line=>rw[y] at h;unfold ik at h;refine a d (n+1) B O (cV _) (λv=>by rw[P v,y];rfl) h (xD _)
     |word w p=>rw[y] at h;cases h
     |op o=>
      rw[y] at h;unfold ik at h;simp only at h;by_cases S:o=[59]\/o=[38]
      ·rw[bh S] at h;have K:o.length=1:=by grind
       have aG:d.drop 1≠[]:=aja y K.symm B;refine a (d.drop 1) (n+1) (B.sfx (lJ _ _)) aG (by simp) (λv=>?_) h (xD _);rw[P v,y];unfold ik;simp only;rw[bh S,aM (show bU 1 (d++v) j= .ok () (d.drop 1++v) j from by grind[bU,Xo])]
      simp_all[aO,dG,bJ,cK]
def Af{α:Type}(x y:dD α):Prop:=(∃q,x= .deep q)\/y=x\/∃op a nd ds,x= .more op nd ds/\y= .more a nd ds
def aN{α:Type}(f g:ak α):Prop:=∀r pd,Af (f r pd) (g r pd)
theorem aN.refl{α:Type}(f:ak α):aN f f:=λ_ _=> .inr (.inl rfl)
theorem aN.deep{α:Type}(g:ak α):aN uz g:=λr _=> .inl ⟨r,rfl⟩
theorem aN.ae{α β:Type}{m b:ak α}{k k':α->ak β}(hm:aN m b)(hk:∀a,aN (k a) (k' a)):aN (Go.Eng.ae m k) (Go.Eng.ae b k'):=by
 intro r pd;rcases hm r pd with⟨q,h⟩|h|⟨op,d,nd,ds,ad,e⟩
 ·left;simp_all[Go.Eng.ae]
 ·unfold Go.Eng.ae;rw[h];cases m r pd with
  |ok a r1 c=>exact hk a r1 c
  |more op nd ds=>exact .inr (.inl rfl)
  |bad q=>exact .inr (.inl rfl)
  |deep q=>exact .inl ⟨q,rfl⟩
 ·right;grind[Go.Eng.ae]
theorem aN.aK{α:Type}{m a:ak α}(hm:aN m a)(x:aa):aN (m.aK x) (a.aK x):=by
 intro r pd;unfold ak.aK;rcases hm r pd with⟨q,h⟩|h|⟨op,c,nd,ds,ad,b⟩
 ·left;grind
 ·rw[h];exact .inr (.inl rfl)
 ·rw[ad,b];exact .inr (.inr ⟨_,_,_,_,rfl,rfl⟩)
theorem aN.XL{α:Type}{m a:ak α}(hm:aN m a)(x:aa):aN (m.named x) a:=by
 intro r pd;unfold ak.named;rcases hm r pd with⟨q,h⟩|h|⟨op,c,nd,ds,ad,b⟩
 ·left;grind
 ·rw[h];cases m r pd with
  |more op nd ds=>exact .inr (.inr ⟨_,_,_,_,rfl,rfl⟩)
  |_=>exact .inr (.inl rfl)
 ·rw[ad,b];exact .inr (.inr ⟨_,_,_,_,rfl,rfl⟩)
theorem aN.ajm{α:Type}{m a:ak α}(hm:aN m a)(x:aa):aN m (a.named x):=by
 intro r pd;unfold ak.named;rcases hm r pd with⟨q,h⟩|h|⟨op,c,nd,ds,ad,b⟩
 ·left;grind
 ·rw[h];cases m r pd with
  |more op nd ds=>exact .inr (.inr ⟨_,_,_,_,rfl,rfl⟩)
  |_=>exact .inr (.inl rfl)
 ·rw[ad,b];exact .inr (.inr ⟨_,_,_,_,rfl,rfl⟩)
theorem aN.named{α:Type}{m a:ak α}(hm:aN m a)(x y:aa):aN (m.named x) (a.named y):=(hm.XL x).ajm y
theorem aN.ite{α:Type}{c:Prop}[Decidable c]{f g a b:ak α}(hf:aN f a)(bq:aN g b):aN (if c then f else g) (if c then a else b):=by grind
theorem aN.rep{σ α:Type}{f c:σ->ak (σ⊕α)}(h:∀s,aN (f s) (c s))(s:σ):aN (b8 f s) (b8 c s):=by
 have b:∀(n:Nat)(s:σ)(r:aa)(pd:ao),r.length<=n->Af (b8 f s r pd) (b8 c s r pd):=by
  intro n;induction n with
  |zero=>
   intro s r pd aw;rw[cm,cm];have k:r=[]:=n1.1 (by omega);rcases h s r pd with⟨q,e⟩|e|⟨op,i,nd,ds,d,g⟩
   ·left;exact⟨q,by rw[e];rfl⟩
   ·rw[e];cases f s r pd with
    |ok x r1 j=>
     cases x with
     |inl s'=>right;simp_all[cK,aO]
     |inr a=>exact .inr (.inl rfl)
    |deep q=>exact .inl ⟨q,rfl⟩
    |_=>exact .inr (.inl rfl)
   ·rw[d,g];exact .inr (.inr ⟨_,_,_,_,rfl,rfl⟩)
  |succ n l=>
   intro s r pd aw;rw[cm,cm];rcases h s r pd with⟨q,e⟩|e|⟨op,i,nd,ds,d,g⟩
   ·left;exact⟨q,by rw[e];rfl⟩
   ·rw[e];cases f s r pd with
    |ok x r1 j=>
     cases x with
     |inl s'=>
      unfold cK;simp only;by_cases hl:r1.length<r.length
      ·grind
      ·rw[aO hl,aO hl];exact .inr (.inl rfl)
     |inr a=>exact .inr (.inl rfl)
    |deep q=>exact .inl ⟨q,rfl⟩
    |_=>exact .inr (.inl rfl)
   ·rw[d,g];exact .inr (.inr ⟨_,_,_,_,rfl,rfl⟩)
 exactλr pd=>b _ s r pd (cV _)
section
variable{D kq:ak Unit}(hD:aN D kq)
include hD
theorem aN.part{dq a:Option (ak Unit)}(c:match dq,a with|none,none=>True|some q,some d=>aN q d|_,_=>False):aN (cw D dq) (cw kq a):=by
 intro r pd;cases r with
 |nil=>exact .inr (.inl rfl)
 |cons b t=>
  unfold cw;simp only;split
  ·exact .inr (.inl rfl)
  ·split
   ·exact .inr (.inl rfl)
   ·split
    ·exact hD _ _
    ·match dq,a,c with
     |none,none,_=>exact .inr (.inl rfl)
     |some q,some d,c=>
      simp only;split
      ·exact .inr (.inl rfl)
      ·split
       ·exact c _ _
       ·exact .inr (.inl rfl)
omit hD in
theorem aN.Ad(c:UInt8){p a:ak Unit}(aB:aN p a):aN (iO c p) (iO c a):=by
 refine aN.rep (λ_ r pd=>?_) ();cases r with
 |nil=>exact .inr (.inl rfl)
 |cons b t=>
  simp only;split
  ·exact .inr (.inl rfl)
  ·exact aN.ae aB (λ_=>aN.refl _) _ _
theorem aN.double:aN (ey D) (ey kq):=((aN.Ad 34 (aN.part hD trivial)).aK _).named _ _
theorem aN.yx:aN (cw D (some (ey D))) (cw kq (some (ey kq))):=aN.part hD (aN.double hD)
theorem aN.param:aN (qT D) (qT kq):=(aN.Ad 125 (aN.yx hD)).aK _
theorem aN.word:aN (cG D) (cG kq):=by
 refine aN.rep (λ_ r pd=>?_) ();cases r with
 |nil=>exact .inr (.inl rfl)
 |cons b t=>
  simp only;split
  ·exact .inr (.inl rfl)
  ·exact aN.ae (aN.yx hD) (λ_=>aN.refl _) _ _
theorem aN.EO(x:aa):aN (jL D x) (jL kq x):=by refine aN.ae (aN.refl _) λt=>?_;grind[aN.word,aN.refl]
theorem aN.jj:aN (dx D) (dx kq):=by
 refine aN.ae (aN.refl _) λo=>?_;cases o with
 |none=>simp[aN.refl]
 |some o=>exact aN.ae (aN.ite (aN.refl _) (aN.ite (aN.refl _) (aN.EO hD _))) λ_=>aN.refl _
theorem aN.mG:aN (gJ D) (gJ kq):=aN.rep (λ_=>aN.ae (aN.jj hD) λ_=>aN.refl _) ()
theorem aN.words:aN (pC D) (pC kq):=by refine aN.rep (λ_=>aN.ae (aN.refl _) λt=>?_) ();grind[aN.word,aN.ae,aN.refl]
theorem aN.w2:aN (kQ D) (kQ kq):=by refine aN.rep (λ_=>aN.ae (aN.refl _) λt=>?_) ();grind[aN.word,aN.ae,aN.aK,aN.refl]
end
structure yy(l fR:dS):Prop where
 ls:∀c n,aN (l.ls c n) (fR.ls c n)
 pm:aN l.pm fR.pm
 cp:∀t,aN (l.cp t) (fR.cp t)
 rd:aN l.rd fR.rd
 dl:aN l.dl fR.dl
 has:l.has=true->fR.has=true
section
variable{l fR:dS}(h:yy l fR)
include h
theorem aN.body(x:aa):aN (iF l x) (iF fR x):=aN.ae (aN.refl _) λ_=>aN.ae ((h.ls _ _).aK _) λ_=>aN.refl _
theorem aN.cond:aN (qd l) (qd fR):=aN.rep (λ_=>aN.ae ((h.ls _ _).aK _) λ_=>aN.ae (aN.refl _) λ_=>aN.ae ((h.ls _ _).aK _) λ_=>aN.ae (aN.refl _) λt=>aN.ite (aN.refl _) (aN.ite (aN.ae (aN.refl _) λ_=>aN.ae ((h.ls _ _).aK _) λ_=>aN.refl _) (aN.refl _))) ()
theorem aN.for_{D kq:ak Unit}(hD:aN D kq):aN (pD l D) (pD fR kq):=by
 refine aN.ae (aN.refl _) λt=>?_;cases t with
 |word w p=>
  cases p with
  |true=>exact aN.ite (aN.ae (aN.refl _) λ_=>aN.ae (aN.aK (aN.ae (aN.refl _) λt=>aN.ite (aN.refl _) (aN.ae (aN.refl _) λ_=>aN.ae (aN.refl _) λt=>aN.ite (aN.ae (aN.refl _) λ_=>aN.ae (aN.words hD) λ_=>aN.refl _) (aN.refl _))) _) λ_=>aN.body h _) (aN.refl _)
  |false=>simp[aN.refl]
 |_=>simp[aN.refl]
theorem aN.items{D kq:ak Unit}(hD:aN D kq):aN (nu l D) (nu fR kq):=
 aN.rep (λ_=>aN.ae (aN.refl _) λ_=>aN.ae (aN.refl _) λt=>aN.ite (aN.refl _) (aN.ite (aN.refl _) (aN.ae (aN.refl _) λ_=>aN.ae (aN.w2 hD) λ_=>aN.ae (h.ls _ _) λ_=>aN.refl _))) ()
theorem aN.w3{D kq:ak Unit}(hD:aN D kq):aN (qV l D) (qV fR kq):=by
 refine aN.ae (aN.refl _) λt=>?_;cases t with
 |word w p=>exact aN.ae (aN.aK (aN.ae (aN.word hD) λ_=>aN.refl _) _) λt=>aN.ite (aN.ae (aN.refl _) λ_=>(aN.items h hD).aK _) (aN.refl _)
 |_=>simp[aN.refl]
theorem aN.kind(t:Tok):aN (g0 l t) (g0 fR t):=by
 cases t with
 |op o=>show aN (Go.Eng.ae (bU 1) λ_=>Go.Eng.ae ((l.ls .paren false).aK [41]) λ_=>ji [41]) (Go.Eng.ae (bU 1) λ_=>Go.Eng.ae ((fR.ls .paren false).aK [41]) λ_=>ji [41]);exact aN.ae (aN.refl _) λ_=>aN.ae ((h.ls _ _).aK _) λ_=>aN.refl _
 |word w p=>unfold g0;exact aN.ae (aN.refl _) λ_=>aN.ite (aN.ae ((h.ls _ _).aK _) λ_=>aN.refl _) (aN.ite (aN.cond h) (aN.ite (aN.for_ h h.dl) (aN.ite (aN.w3 h h.dl) (aN.ae ((h.ls _ _).aK _) λ_=>aN.body h _))))
 |_=>exact aN.refl _
end
def EV(lo a:Option dS):Prop:=∀l,lo=some l->∃fR,a=some fR/\yy l fR
theorem aN.so{lo b:Option dS}(h:EV lo b){n:Nat}{f a:dS->ak Unit}(hf:∀l fR,yy l fR->aN (f l) (a fR)):aN (so lo n f) (so b n a):=by
 cases lo with
 |none=>exact aN.deep _
 |some l=>obtain⟨fR,rfl,hl⟩:=h l rfl;show aN (Go.Eng.ae (bU n) λ_=>f l) (Go.Eng.ae (bU n) λ_=>a fR);grind[aN.ae,aN.refl]
theorem aN.vK{lo a:Option dS}(h:EV lo a):aN (dd lo) (dd a):=by
 intro r pd;unfold dd;split
 ·exact .inr (.inl rfl)
 ·split
  ·exact aN.so h (λl fR hl=>aN.ae (((hl.ls _ _).aK _).named _ _) λ_=>aN.refl _) r pd
  ·split
   ·exact aN.so h (λl fR hl=>hl.pm.named _ _) r pd
   ·exact .inr (.inl rfl)
theorem aN.cp{lo a:Option dS}(h:EV lo a)(t:Tok):aN (qe lo t) (qe a t):=by
 cases lo with
 |none=>exact aN.deep _
 |some l=>obtain⟨fR,rfl,hl⟩:=h l rfl;exact(aN.kind hl t).named _ _
def XM{α:Type}(x y:dD α):Prop:=Af x y\/∃t a pd,x= .bad (40::t)/\y= .ok a (40::t) pd
def e_{α:Type}(f g:ak α):Prop:=∀r pd,XM (f r pd) (g r pd)
theorem aN.b{α:Type}{f g:ak α}(h:aN f g):e_ f g:=λr pd=> .inl (h r pd)
theorem e_.ite{α:Type}{c:Prop}[Decidable c]{f g a b:ak α}(hf:e_ f a)(bq:e_ g b):e_ (if c then f else g) (if c then a else b):=by grind
theorem e_.oL{α β:Type}{m b:ak α}{k k':α->ak β}(hm:aN m b)(hk:∀a,e_ (k a) (k' a)):e_ (ae m k) (ae b k'):=by
 intro r pd;rcases hm r pd with⟨q,h⟩|h|⟨op,d,nd,ds,ad,e⟩
 ·left;left;simp_all[ae]
 ·unfold ae;rw[h];cases m r pd with
  |ok a r1 c=>exact hk a r1 c
  |more op nd ds=>exact .inl (.inr (.inl rfl))
  |bad q=>exact .inl (.inr (.inl rfl))
  |deep q=>exact .inl (.inl ⟨q,rfl⟩)
 ·left;right;grind[ae]
theorem e_.lk{α β:Type}{m d:ak α}{k k':α->ak β}(hm:e_ m d)(hk:∀a,e_ (k a) (k' a))(f:∀a t pd,∃b e,k' a (40::t) pd= .ok b (40::t) e):e_ (ae m k) (ae d k'):=by
 intro r pd;rcases hm r pd with(⟨q,h⟩|h|⟨op,i,nd,ds,ad,g⟩)|⟨t,a,c,ad,g⟩
 ·left;left;simp_all[ae]
 ·unfold ae;rw[h];cases m r pd with
  |ok a r1 c=>exact hk a r1 c
  |more op nd ds=>exact .inl (.inr (.inl rfl))
  |bad q=>exact .inl (.inr (.inl rfl))
  |deep q=>exact .inl (.inl ⟨q,rfl⟩)
 ·left;right;grind[ae]
 ·right;obtain⟨b,e,j⟩:=f a t c;grind[g1,aM]
theorem e_.rep{σ α:Type}{f i:σ->ak (σ⊕α)}(h:∀s,e_ (f s) (i s))(k:∀s t pd,∃a j,i s (40::t) pd= .ok (.inr a) (40::t) j)(s:σ):e_ (b8 f s) (b8 i s):=by
 have g:∀(n:Nat)(s:σ)(r:aa)(pd:ao),r.length<=n->XM (b8 f s r pd) (b8 i s r pd):=by
  intro n;induction n with
  |zero=>
   intro s r pd aw;rw[cm,cm];have o:r=[]:=n1.1 (by omega);rcases h s r pd with(⟨q,e⟩|e|⟨op,l,nd,ds,b,c⟩)|⟨t,a,d,b,c⟩
   ·left;left;exact⟨q,by rw[e];rfl⟩
   ·rw[e];cases f s r pd with
    |ok x r1 d=>
     cases x with
     |inl s'=>left;right;simp_all[cK,aO]
     |inr a=>exact .inl (.inr (.inl rfl))
    |deep q=>exact .inl (.inl ⟨q,rfl⟩)
    |_=>exact .inl (.inr (.inl rfl))
   ·rw[b,c];exact .inl (.inr (.inr ⟨_,_,_,_,rfl,rfl⟩))
   ·rw[b,c];cases a with
    |inr a=>exact .inr ⟨t,a,d,rfl,rfl⟩
    |inl s'=>left;right;simp_all[cK,aO]
  |succ n p=>
   intro s r pd aw;rw[cm,cm];rcases h s r pd with(⟨q,e⟩|e|⟨op,l,nd,ds,b,c⟩)|⟨t,a,d,b,c⟩
   ·left;left;exact⟨q,by rw[e];rfl⟩
   ·rw[e];cases f s r pd with
    |ok x r1 d=>
     cases x with
     |inl s'=>
      unfold cK;simp only;by_cases hl:r1.length<r.length
      ·grind
      ·rw[aO hl,aO hl];exact .inl (.inr (.inl rfl))
     |inr a=>exact .inl (.inr (.inl rfl))
    |deep q=>exact .inl (.inl ⟨q,rfl⟩)
    |_=>exact .inl (.inr (.inl rfl))
   ·rw[b,c];exact .inl (.inr (.inr ⟨_,_,_,_,rfl,rfl⟩))
   ·rw[b,c];cases a with
    |inr a=>exact .inr ⟨t,a,d,rfl,rfl⟩
    |inl s'=>
     unfold cK;simp only;by_cases hl:(40::t).length<r.length
     ·rw[bh hl];right;obtain⟨a,j,m⟩:=k s' t d;exact⟨t,a,j,rfl,by rw[cm,m];rfl⟩
     ·rw[aO hl];exact .inl (.inr (.inl rfl))
 exactλr pd=>g _ s r pd (cV _)
theorem Rz(t:aa):bp (40::t)=some (40::t):=by simp[nQ,gb]
theorem RA(t:aa):ar (40::t)= .op [40]:=by rfl
theorem ajn{D:ak Unit}(t:aa)(pd:ao):dx D (40::t) pd= .ok false (40::t) pd:=by
 have:fF (40::t) pd= .ok none (40::t) pd:=by unfold fF;rw[Rz];rfl
 unfold dx;rw[aM this];rfl
theorem EW{x:aa}(t:aa)(pd:ao):bM x (40::t) pd= .ok (.op [40]) (40::t) pd:=by simp[ch,Rz,RA]
theorem XN(m:ak Unit):ae m (λ_=>aX ())=m:=by
 funext r pd
 unfold ae;cases m r pd<;>rfl
theorem kr{α β b:Type}(m:ak α)(k:α->ak β)(R:β->ak b):ae (ae m k) R=ae m (λa=>ae (k a) R):=by grind[ae]
theorem yz{α β:Type}{c:Prop}[Decidable c](f g:ak α)(R:α->ak β):ae (if c then f else g) R=if c then ae f R else ae g R:=by grind
theorem XO{α β:Type}(x:aa)(R:α->ak β):ae (b5 x) R=b5 x:=rfl
theorem XP{α β:Type}(R:α->ak β):ae bJ R=bJ:=rfl
theorem aN.ajo{α β:Type}{x:ak β}{g:ak α}{R:α->ak β}(h:aN x (Go.Eng.ae g R))(nm:aa):aN x (Go.Eng.ae (g.named nm) R):=by
 intro r pd
 have e:Go.Eng.ae (g.named nm) R r pd=Go.Eng.ae g R r pd\/∃op a nd ds,Go.Eng.ae g R r pd= .more op nd ds/\Go.Eng.ae (g.named nm) R r pd= .more a nd ds:=by unfold Go.Eng.ae ak.named;grind
 rcases e with e|⟨op,a,nd,ds,c,d⟩
 ·rw[e];exact h r pd
 ·rcases h r pd with⟨q,h⟩|h|⟨f,i,j,k,ad,b⟩
  ·exact .inl ⟨q,h⟩
  ·right;grind
  ·rw[c] at b;cases b;exact .inr (.inr ⟨_,_,_,_,ad,d⟩)
section
variable{fr nR:Bool}(hf:fr=nR\/fr=true/\nR=false)
include hf
theorem e_.simple{D kq:ak Unit}(hD:aN D kq):e_ (hy fr D) (hy nR kq):=by
 rcases hf with rfl|⟨rfl,rfl⟩
 ·refine aN.b (aN.rep (λ_=>aN.ae (aN.jj hD) λb=>aN.ite (aN.refl _) (aN.ae (aN.refl _) λt=>?_)) ());grind[aN.ae,aN.word,aN.refl]
 ·refine e_.rep (λ_=>e_.oL (aN.jj hD) λb=>e_.ite (aN.b (aN.refl _)) (λr pd=>?_)) (λ_ t pd=>?_) ()
  ·cases a:bp r with
   |none=>rw[de (iG a),de (iG a)];exact .inl (.inr (.inl rfl))
   |some r1=>
    rw[aM (ch a),aM (ch a)];cases d:ar r1 with
    |word w p=>exact .inl (aN.ae (aN.word hD) (λ_=>aN.refl _) r1 pd)
    |op o=>
     simp only;by_cases c:o=[40]
     ·subst c;obtain⟨_,e,_,_⟩:=il d;obtain⟨t,rfl⟩:=e;exact .inr ⟨t,_,_,rfl,rfl⟩
     ·simp[c];exact .inl (.inr (.inl rfl))
    |_=>exact .inl (.inr (.inl rfl))
  ·refine⟨(),pd,?_⟩;rw[aM (ajn t pd)];simp only[eB,cn];rw[aM (EW t pd)];rfl
theorem aN.fn{lo b:Option dS}{kq:ak Unit}(h:EV lo b)(d:fr=true->nR=false->∀l,lo=some l->aN l.rd (gJ kq)){D:ak Unit}(hD:aN D kq):
  aN (Go.Eng.ae (lF fr lo) λ_=>if fr then aX () else gJ D) (Go.Eng.ae (lF nR b) λ_=>if nR then aX () else gJ kq):=by
 cases lo with
 |none=>intro r pd;exact .inl ⟨r,rfl⟩
 |some l=>
  obtain⟨fR,rfl,hl⟩:=h l rfl;by_cases a:l.has=true
  ·have c:=hl.has a;rcases hf with rfl|⟨rfl,rfl⟩
   ·refine aN.ae ?_ λ_=>aN.ite (aN.refl _) (aN.mG hD);unfold lF;simp only[a,c,cE];exact aN.named (aN.ae (aN.refl _) λ_=>aN.ae (aN.refl _) λt=>aN.ite (aN.refl _) (aN.ite (aN.ae (aN.refl _) λ_=>aN.ae (aN.refl _) λ_=>aN.ae (aN.refl _) λt=>aN.ite (aN.refl _) (aN.ite (aN.ae (hl.cp t) λ_=>aN.ite hl.rd (aN.refl _)) (aN.refl _))) (aN.refl _))) _ _
   ·have e:=d rfl rfl l rfl;simp only[cE,eB,cn];rw[XN];unfold lF;simp only[a,c,cE,eB,cn];refine aN.XL (aN.ajo ?_ _) _;rw[kr];refine aN.ae (aN.refl _) λ_=>?_;rw[kr];refine aN.ae (aN.refl _) λt=>?_;rw[yz,XO,yz,XP];refine aN.ite (aN.refl _) (aN.ite ?_ (aN.refl _));rw[kr];refine aN.ae (aN.refl _) λ_=>?_;rw[kr];refine aN.ae (aN.refl _) λ_=>?_;rw[kr];refine aN.ae (aN.refl _) λt=>?_;rw[yz,XO,yz,XP];refine aN.ite (aN.refl _) (aN.ite ?_ (aN.refl _));rw[XN];exact aN.ae (hl.cp t) λ_=>e
  ·intro r pd;left;refine⟨r,?_⟩;unfold lF;simp only[a,cn,eB];rfl
theorem e_.command{lo a:Option dS}{D kq:ak Unit}(h:EV lo a)(hD:aN D kq)(c:fr=true->nR=false->∀l,lo=some l->aN l.rd (gJ kq)):e_ (fx fr lo D) (fx nR a kq):=by
 refine e_.oL (aN.refl _) λt=>e_.ite (aN.b (aN.refl _)) (e_.ite (aN.b (aN.ae (aN.cp h t) λ_=>aN.mG hD)) ?_);cases t with
 |op o=>exact e_.ite (e_.oL (aN.jj hD) λ_=>e_.simple hf hD) (aN.b (aN.refl _))
 |word w p=>refine e_.ite (aN.b (aN.refl _)) (e_.oL (aN.jj hD) λb=>e_.ite (e_.simple hf hD) (e_.oL (aN.word hD) λ_=>e_.ite (e_.oL (aN.refl _) λt=>e_.ite (aN.b (aN.fn hf h c hD)) (e_.simple hf hD)) (e_.simple hf hD)))
 |_=>simp[aN.b,aN.refl]
omit hf in
theorem e_.pipe{da b:ak Unit}(h:e_ da b):e_ (fi da) (fi b):=by
 have stop:∀(da:ak Unit)(s:Unit)(t:aa)(pd:ao),∃a c,(Go.Eng.ae (bM []) λt=>if t= .op [124] then Go.Eng.ae (bU 1) λ_=>Go.Eng.ae (cS.aK [120]) λ_=>Go.Eng.ae da λ_=>aX (.inl ()) else aX (.inr ()):ak (Unit⊕Unit)) (40::t) pd= .ok (.inr a) (40::t) c:=by intro da s t pd;refine⟨(),pd,?_⟩;rw[aM (EW t pd)];rfl
 refine e_.oL (aN.refl _) λt=>e_.oL (aN.refl _) λ_=>e_.lk h (λ_=>e_.rep (λ_=>e_.oL (aN.refl _) λt=>e_.ite (e_.oL (aN.refl _) λ_=>e_.oL (aN.refl _) λ_=>e_.lk h (λ_=>aN.b (aN.refl _)) λ_ t pd=>⟨_,_,rfl⟩) (aN.b (aN.refl _))) (stop b) ()) λ_ t pd=>?_;obtain⟨a,c,e⟩:=stop b () t pd;exact⟨a,c,by rw[cm,e];rfl⟩
omit hf in
theorem e_.pE{b c:ak Unit}(h:e_ b c):e_ (hB b) (hB c):=by
 have stop:∀(b:ak Unit)(s:Unit)(t:aa)(pd:ao),∃a d,(Go.Eng.ae (bM []) λt=>if t= .op [38,38]\/t= .op [124,124] then Go.Eng.ae (bU 2) λ_=>Go.Eng.ae (cS.aK [120]) λ_=>Go.Eng.ae b λ_=>aX (.inl ()) else aX (.inr ()):ak (Unit⊕Unit)) (40::t) pd= .ok (.inr a) (40::t) d:=by intro b s t pd;refine⟨(),pd,?_⟩;rw[aM (EW t pd)];rfl
 refine e_.lk h (λ_=>e_.rep (λ_=>e_.oL (aN.refl _) λt=>e_.ite (e_.oL (aN.refl _) λ_=>e_.oL (aN.refl _) λ_=>e_.lk h (λ_=>aN.b (aN.refl _)) λ_ t pd=>⟨_,_,rfl⟩) (aN.b (aN.refl _))) (stop c) ()) λ_ t pd=>?_;obtain⟨a,d,e⟩:=stop c () t pd;exact⟨a,d,by rw[cm,e];rfl⟩
omit hf in
theorem aN.list{c2 f:ak Unit}(h:e_ c2 f)(c:Ctx)(none:Bool):aN (oe c2 c none) (oe f c none):=by
 rw[qX,qX];refine aN.ae (aN.refl _) λ_=>aN.rep (λn=>aN.ae (aN.refl _) λt=>aN.ite (aN.refl _) (aN.ite (aN.refl _) (λr pd=>?_))) 0;rcases h r pd with(⟨q,e⟩|e|⟨op,g,nd,ds,b,d⟩)|⟨t,a,i,b,d⟩
 ·left;simp_all[Go.Eng.ae]
 ·unfold Go.Eng.ae;rw[e];cases c2 r pd with
  |deep q=>exact .inl ⟨q,rfl⟩
  |_=>exact .inr (.inl rfl)
 ·exact .inr (.inr ⟨op,g,nd,ds,de b,de d⟩)
 ·right;left;rw[g1 b,aM d,aM (EW t i)];unfold ik;cases c<;>simp[dG,cA,bJ]
end
theorem yy.of{fr nR:Bool}(hf:fr=nR\/fr=true/\nR=false){lo a:Option dS}(h:EV lo a)(e:fr=true->nR=false->∀l,lo=some l->aN l.rd (gJ (dd a))){b d:Bool}(f:b=true->d=true):
  yy {ls:=oe (hB (fi (fx fr lo (dd lo)))),pm:=qT (dd lo),cp:=qe lo,rd:=gJ (dd lo),dl:=dd lo,has:=b} {ls:=oe (hB (fi (fx nR a (dd a)))),pm:=qT (dd a),cp:=qe a,rd:=gJ (dd a),dl:=dd a,has:=d}:=
 ⟨λc n=>aN.list (e_.pE (e_.pipe (e_.command hf h (aN.vK h) e))) c n,aN.param (aN.vK h),λt=>aN.cp h t,aN.mG (aN.vK h),aN.vK h,f⟩
theorem RB{fr nR:Bool}(hf:fr=nR\/fr=true/\nR=false):∀n m,n<=m->yy (aR fr n) (aR nR m)
 |0,0,_=>yy.of hf (λl h=>by cases h) (λ_ _ l h=>by cases h) (λh=>h)
 |0,m+1,_=>yy.of hf (λl h=>by cases h) (λ_ _ l h=>by cases h) (λh=>rfl)
 |n+1,m+1,h=>yy.of hf (λl e=>by cases e;exact⟨_,rfl,RB hf n m (by omega)⟩) (λ_ _ l e=>by cases e;exact(RB hf n (m+1) (by omega)).rd) (λh=>h)
theorem XS{fr nR:Bool}(hf:fr=nR\/fr=true/\nR=false){n m:Nat}(h:n<=m)(r:aa):Af (gm fr n r) (gm nR m r):=(RB hf n m h).ls .text true r []
theorem XT{fr:Bool}{m:Nat}{u:aa}{k:Nat}{r:aa}{pd:ao}(h:gm fr m u= .ok k r pd):r=[]:=by
 unfold gm at h;rw[w4,qX] at h;obtain⟨_,r1,f,ad,b⟩:=b1 h;refine LV (ij.round (XG fr m).1 .text true) (λ_=>True) (λr=>r=[]) (λ_ _ _ _ _ _ _ _=>trivial) ?_ _ _ _ _ _ _ _ (cV _) trivial b;intro n r pd a r' l _ e;obtain⟨t,r1,f,ad,b⟩:=b1 e;obtain⟨q,rfl,rfl⟩:=nv ad;split at b
 ·rename_i g;rw[bh rfl] at b;cases b;grind[lG]
 ·rename_i g;split at b
  ·grind[dG,absurd]
  ·obtain⟨_,s,v,x,i⟩:=b1 b;obtain⟨t,y,z,A,c⟩:=b1 i;unfold ik at c;cases t with
   |eof=>cases c
   |line=>obtain⟨_,_,_,_,d⟩:=b1 c;cases d
   |word w p=>cases c
   |op o=>
    simp only at c;split at c
    ·obtain⟨_,_,_,_,d⟩:=b1 c;obtain⟨_,_,_,_,j⟩:=b1 d;cases j
    grind[dG,bJ]
theorem ajp{fr:Bool}{m:Nat}{u:aa}{k:Nat}{r:aa}{pd:ao}(hu:dr u)(h:gm fr m u= .ok k r pd)(hk:k≠0)(c:Ctx)(a:Bool)(v:aa):
  (aR fr m).ls c a (u++v) []=ae (b8 gE true) (λ_=>b8 (eN (jx fr m) c a) k) v []:=by
 have f:=XT h;subst f;unfold gm at h;rw[w4,qX] at h;rw[w4,qX];obtain⟨b,r1,g,ad,i⟩:=b1 h;have d:=gK.1 ad;have e:r1≠[]:=by rintro rfl;grind[cm,Ik,cK]
 have:=aq.lines.ok v hu d e;rw[aM (gK.2 this)];exact(XJ fr m c a _ 0 r1 g k pd (cV _) (hu.sfx (aq.lines.sfx d)) e i).2.2 v
theorem L2{fr:Bool}{m:Nat}{u:aa}{k:Nat}{r:aa}{pd:ao}(hu:dr u)(h:gm fr m u= .ok k r pd)(hk:k≠0){c:Ctx}(d:Bool){v a:aa}(b:bp v=some a)(he:dG c (ar a)=true)(aw:ar a≠ .eof):
  (aR fr m).ls c d (u++v) []= .ok k a []:=by
 have hl:ar a≠ .line:=by intro hl;rw[hl] at he;cases c<;>simp[dG,cA] at he
 rw[ajp hu h hk];have:b8 gE true v []= .ok true a []:=by rw[cm,qZ b hl];rfl
 rw[aM this,cm,XI (kR _ _ _ (cV _) b) aw he (by grind)];rfl
theorem XU:∀(N:Nat)(b:Bool)(r:aa)(pd:ao),r.length<=N->(∃r' d,(∃x,b8 gE b r pd= .ok x r' d)/\∃x,b8 gE (!b) r pd= .ok x r' d)\/b8 gE b r pd=b8 gE (!b) r pd:=by
 intro N b r pd aw;cases a:bp r with
 |none=>
  right;rw[cm,cm];have:∀b,gE b r pd= .more [] (cQ [] pd []).1 (cQ [] pd []).2:=λb=>de (iG a)
  grind
 |some r1=>
  by_cases c:ar r1= .line
  ·obtain⟨t,rfl⟩:=vJ c;grind[cm,tk]
  ·left;exact⟨r1,pd,⟨b,by rw[cm,qZ a c];rfl⟩,⟨!b,by rw[cm,qZ a c];rfl⟩⟩
def oM(b:UInt8):Bool:=b==60||b==62||b==38||b==124||b==59||b==40||b==41
theorem nx{b:UInt8}{t:aa}(h:oM b=false):bs (b::t)=[]:=by
 simp only[oM,Jr,NK,ne_eq] at h;obtain⟨⟨⟨⟨⟨⟨ad,a⟩,d⟩,f⟩,g⟩,i⟩,j⟩:=h
 have e:∀(c:UInt8)(o:aa),b≠c->(c::o).isPrefixOf (b::t)=false:=by grind
 simp_all[bs,lg,xz,List.find?_nil]
def ql(b:UInt8):Bool:= !gb b&&b !=10&& !oM b&&b !=92&&b !=39&&b !=34&&b !=96&&b !=36
theorem Im{b:UInt8}(h:ql b=true):gb b=false/\b≠10/\oM b=false/\b≠92/\b≠39/\b≠34/\b≠96/\b≠36:=by simp_all[ql,hL,F7,bne_iff_ne,ne_eq]
theorem RC{b:UInt8}{t:aa}(h:ql b=true):cT (b::t)=false:=by grind[Im,cT,nx]
theorem XV{b:UInt8}{t:aa}(h:b≠36):fJ (b::t)=false:=by
 unfold fJ;split
 ·rename_i ad;cases ad;exact absurd rfl h
 ·rename_i ad;cases ad;exact absurd rfl h
 ·rfl
theorem XW:∀(w r:aa),w.all ql=true->cT r=true->c5 (w++r)=(w,true)
 |[],r,_,c=>by
  cases r with
  |nil=>rfl
  |cons b t=>grind[c5]
 |b::w,r,a,c=>by simp only[AQ,hL] at a;obtain⟨ad,d,e,f,g,h,i,j⟩:=Im a.1;simp only[hF];simp_all[c5,RC,aO,XV,XW]
theorem rD{w r:aa}(aw:w≠[])(a:w.all ql=true)(c:cT r=true):ar (w++r)= .word w true:=by
 have aB:=XW w r a c;cases w with
 |nil=>grind
 |cons b t=>simp only[AQ,hL] at a;simp_all[Im,hF,ar,aO,nx]
theorem jy{b:UInt8}{t:aa}(ad:gb b=false)(a:b≠35)(c:b≠92):bp (b::t)=some (b::t):=by grind[nQ]
theorem j4(t:aa):bp (32::t)=bp t:=by simp[nQ,gb]
theorem XX{D:ak Unit}{dq:Option (ak Unit)}{b:UInt8}{t:aa}{pd:ao}(h:ql b=true):cw D dq (b::t) pd= .ok () t pd:=by obtain⟨ad,e,f,a,g,i,c,d⟩:=Im h;unfold cw;simp only[a,c,XV d,cn,eB];grind
theorem yA{D:ak Unit}{b:UInt8}{t r':aa}{pd a:ao}(c:cT (b::t)=false)(h:cw D (some (ey D)) (b::t) pd= .ok () r' a)(hl:r'.length<(b::t).length):cG D (b::t) pd=cG D r' a:=by unfold cG;rw[cm];simp only[c,eB,cn];rw[aM h];simp_all[cK,aX,cE]
theorem L3{D:ak Unit}{b:UInt8}{t:aa}{pd:ao}(a:cT (b::t)=true):cG D (b::t) pd= .ok () (b::t) pd:=by unfold cG;rw[cm];simp only[a,cE];rfl
theorem Io{D:ak Unit}:∀(w r:aa)(pd:ao),w.all ql=true->cG D (w++r) pd=cG D r pd
 |[],r,pd,_=>rfl
 |b::w,r,pd,a=>by simp only[AQ,hL] at a;simp only[hF];rw[yA (RC a.1) (XX a.1) (by simp),Io w r pd a.2]
theorem Ip{c b:UInt8}{part:ak Unit}{t r':aa}{pd a:ao}(d:b≠c)(h:part (b::t) pd= .ok () r' a)(hl:r'.length<(b::t).length):iO c part (b::t) pd=iO c part r' a:=by unfold iO;rw[cm];simp only[d,cn];rw[aM h];simp_all[cK,aX,cE]
theorem ajq{c:UInt8}{part:ak Unit}{t:aa}{pd:ao}:iO c part (c::t) pd= .ok () t pd:=by unfold iO;rw[cm];simp only[cE];rfl
theorem RD{D:ak Unit}{v a:aa}{pd:ao}(b:bp v=some a)(h:eV (bs (a.dropWhile b_))=false):dx D v pd= .ok false a pd/\gJ D v pd= .ok () a pd:=by
 have e:dx D v pd= .ok false a pd:=by
  have:fF v pd= .ok none a pd:=by grind[fF]
  unfold dx;rw[aM this];rfl
 refine⟨e,?_⟩;unfold gJ;rw[cm,aM e];rfl
theorem Iq{D:ak Unit}{pd:ao}:dx D [10] pd= .ok false [10] pd/\gJ D [10] pd= .ok () [10] pd:=RD (Cq []) (by decide)
theorem rE{r r1:aa}{pd:ao}(a:bp r=some r1)(b:ar r1≠ .line):cS r pd= .ok false r1 pd:=by rw[qk,cm,qZ a b];rfl
theorem XY{pd:ao}(a:l3 pd []= .inl []):cS [10] pd= .ok true [] []:=by
 rw[qk,cm,tk (Cq [])];have:ae iV (λ_=>aX (.inl true)) [10] pd=(.ok (.inl true) [] []:dD (Bool⊕Bool)):=by unfold ae;rw[ti,a];rfl
 rw[this];unfold cK;simp only[AR,NF,Nat.lt_one_iff,cE];rw[cm,qZ l5 (by decide)];rfl
theorem XZ{da:ak Unit}{x v a:aa}{pd b:ao}(d:bp x=some x)(f:cA (ar x) [33]=false)(aF:da x pd= .ok () v b)(c:bp v=some a)(ad:ar a≠ .op [124])(h:ar a≠ .op [38,38])(i:ar a≠ .op [124,124]):
  fi da x pd= .ok () a b/\hB (fi da) x pd= .ok () a b:=by
 have g:=kR _ _ _ (cV _) c;have e:fi da x pd= .ok () a b:=by unfold fi;rw[aM (ch d),f];simp only[eB,cn];rw[aM (show aX () x pd= .ok () x pd from rfl),aM aF,cm,aM (ch c),aO ad];rfl
 refine⟨e,?_⟩;unfold hB;rw[aM e,cm,aM (ch g),aO (by grind)];rfl
theorem L4{fr:Bool}{n:Nat}{x:aa}(a:bp x=some x)(b:ar x≠ .eof)(hl:ar x≠ .line)(c:cA (ar x) [33]=false)
  (aF:fx fr (some (aR fr n)) (dd (some (aR fr n))) x []= .ok () [10] []):gm fr (n+1) x= .ok 1 [] []:=by
 obtain⟨_,d⟩:=XZ a c aF (Cq []) (by decide) (by decide) (by decide);unfold gm;rw[w4,qX,aM (gK.2 (rE a hl)),cm,LX a b (by grind[dG])];have f:jx fr (n+1) x []= .ok () [10] []:=d;rw[aM f,aM (ch (Cq []))];have:ik .text 0 (ar [10]) [10] []= .ok (.inl 1) [] []:=by
  have g:ar [10]= .line:=by decide
  rw[g];unfold ik;simp only;rw[aM (XY rfl)];rfl
 rw[this];unfold cK;simp only[AR];have h:0<x.length:=Jy.2 (λe=>b (lG.2 e));rw[bh h,cm,Ik];rfl
section
variable{fr:Bool}{n k:Nat}{u r:aa}{pd:ao}(hu:dr u)(h:gm fr n u= .ok k r pd)(hk:k≠0)
include hu h hk
theorem X1{o v:aa}{pd:ao}(a:bp v=some v)(b:ar v= .op o):ji o v pd= .ok () (v.drop o.length) pd:=by unfold ji mB;rw[aM (ch a),b,aO (by simp)];simp[bU]
theorem RE(t:aa):ar (41::t)= .op [41]/\bp (41::t)=some (41::t):=by refine⟨?_,jy (by decide) (by decide) (by decide)⟩;rfl
theorem ajr:gm fr (n+1) (40::(u++[41,10]))= .ok 1 [] []:=by
 refine L4 (Rz _) (by simp[RA]) (by simp[RA]) (by rfl) ?_;unfold fx;rw[aM (EW _ _),aO (by simp),bh (by rfl)];obtain⟨b,a⟩:=RE hu h hk [10];have e:qe (some (aR fr n)) (.op [40]) (40::(u++[41,10])) []= .ok () [10] []:=by refine th.2 ?_;show ae (bU 1) (λ_=>ae (((aR fr n).ls .paren false).aK [41]) λ_=>ji [41]) _ _=_;rw[aM (show bU 1 (40::(u++[41,10])) []= .ok () (u++[41,10]) [] from rfl),aM (gK.2 (L2 hu h hk false a (by decide) (by grind))),X1 hu h hk a b];rfl
 rw[aM e];simp[Iq]
end
theorem ajs(b:Bool)(x:aa)(pd:ao):b8 gE b (32::x) pd=b8 gE b x pd:=by
 rw[cm,cm];have e:gE b (32::x) pd=gE b x pd:=by
  have aB:bM [] (32::x) pd=bM [] x pd:=by unfold bM;rw[j4];rfl
  simp_all[gE,ae]
 rw[e];cases h:gE b x pd with
 |ok y r1 c=>
  cases y with
  |inl s=>have:=ij.lines.lt h;unfold cK;grind
  |inr a=>rfl
 |_=>rfl
theorem X2(fr:Bool)(n:Nat)(c:Ctx)(no:Bool)(x:aa)(pd:ao):(aR fr n).ls c no (32::x) pd=(aR fr n).ls c no x pd:=by rw[w4,qX];simp[ae,ak.aK,qk,ajs]
theorem ajt{fr:Bool}{n k:Nat}{u r:aa}{pd:ao}(h:gm fr n u= .ok k r pd):gm fr n (10::u)= .ok k r pd:=by
 unfold gm at h⊢;rw[w4,qX] at h⊢;obtain⟨b,r1,a,ad,d⟩:=b1 h;have c:=gK.1 ad;rw[qk] at c;have e:cS (10::u) []=b8 gE true u []:=by rw[qk,cm,tk (Cq u)];have:ae iV (λ_=>aX (.inl true)) (10::u) []=(.ok (.inl true) u []:dD (Bool⊕Bool)):=rfl;grind[cK]
 have:∃x,cS (10::u) []= .ok x r1 a:=by
  rw[e];rcases XU _ false u [] (cV _) with⟨r',f,⟨x,a1⟩,y,g⟩|a1
  ·grind
  grind
 grind[aM,gK]
theorem l7{w r:aa}(aw:w≠[])(a:w.all ql=true)(d:w.head?≠some 35)(c:cT r=true):ar (w++r)= .word w true/\bp (w++r)=some (w++r):=by
 refine⟨rD aw a c,?_⟩;cases w with
 |nil=>grind
 |cons b t=>simp_all[AQ,hL,Im,jy]
theorem qm(t:aa):cT (32::t)=true:=by rfl
theorem RF{fr:Bool}{n:Nat}{w x:aa}(aw:w≠[])(b:w.all ql=true)(c:w.head?≠some 35)(d:cT x=true)(g:qb w=true)(h:w≠[33])
  (aF:g0 (aR fr n) (.word w true) (w++x) []= .ok () [10] []):gm fr (n+1) (w++x)= .ok 1 [] []:=by
 obtain⟨f,a⟩:=l7 aw b c d;refine L4 a (by grind) (by grind) (by grind[cA]) ?_;unfold fx;rw[aM (ch a),f,aO (by simp),bh (by grind[hv])];have e:qe (some (aR fr n)) (.word w true) (w++x) []= .ok () [10] []:=th.2 aF;rw[aM e];simp[Iq]
section
variable{fr:Bool}{n k:Nat}{u r:aa}{pd:ao}(hu:dr u)(h:gm fr n u= .ok k r pd)(hk:k≠0)
include hu h hk
theorem Ir{c:Ctx}{no:Bool}{w v:aa}(aw:w≠[])(a:w.all ql=true)(b:w.head?≠some 35)(d:cT v=true)(he:dG c (.word w true)=true):(aR fr n).ls c no (32::(u++(w++v))) []= .ok k (w++v) []:=by grind[l7,X2,L2]
omit hu h hk in
theorem oN{w v:aa}{pd:ao}(aw:w≠[])(a:w.all ql=true)(b:w.head?≠some 35)(c:cT v=true):cW w (w++v) pd= .ok () v pd:=by obtain⟨d,e⟩:=l7 aw a b c;unfold cW mB;rw[aM (ch e),d,aO (by simp)];simp[bU,cA]
omit hu h hk in
theorem Is{w v:aa}{pd:ao}:bU w.length (w++v) pd= .ok () v pd:=by simp[bU,o0]
theorem aju:gm fr (n+1) ([123]++(32::(u++([125]++[10]))))= .ok 1 [] []:=by refine RF (by simp) (by decide) (by decide) (qm _) (by decide) (by decide) ?_;unfold g0;simp only;rw[aM Is,bh trivial,aM (gK.2 (Ir hu h hk (by simp) (by decide) (by decide) (by decide) (by decide)))];exact oN (by simp) (by decide) (by decide) (by decide)
theorem ajv:gm fr (n+1) (mh++(32::(u++(iE++(32::(u++(eU++[10])))))))= .ok 1 [] []:=by
 refine RF (by decide) (by decide) (by decide) (qm _) (by decide) (by decide) ?_;unfold g0;simp only;rw[aM Is,aO (by decide),bh trivial];unfold qd
 rw[cm,aM (gK.2 (Ir hu h hk (by decide) (by decide) (by decide) (qm _) (by decide))),aM (oN (by decide) (by decide) (by decide) (qm _)),
  aM (gK.2 (Ir hu h hk (by decide) (by decide) (by decide) (by decide) (by decide)))]
 obtain⟨a,b⟩:=l7 (w:=eU) (r:=[10]) (by decide) (by decide) (by decide) (by decide);rw[aM (ch b),a,aO (by decide),aO (by decide),aM (oN (by decide) (by decide) (by decide) (by decide))];rfl
theorem ajw:gm fr (n+1) (uA++(32::(u++(gD++(32::(u++(ih++[10])))))))= .ok 1 [] []:=by
 refine RF (by decide) (by decide) (by decide) (qm _) (by decide) (by decide) ?_;unfold g0;simp only
 rw[aM Is,aO (by decide),aO (by decide),aO (by decide),aO (by decide),
  aM (gK.2 (Ir hu h hk (by decide) (by decide) (by decide) (qm _) (by decide)))]
 unfold iF;rw[aM (gK.2 (oN (by decide) (by decide) (by decide) (qm _))),aM (gK.2 (Ir hu h hk (by decide) (by decide) (by decide) (by decide) (by decide)))];exact oN (by decide) (by decide) (by decide) (by decide)
end
theorem X3(t:aa):bs (40::t)=[40]:=by rfl
theorem L5(t:aa):cT (40::t)=true:=by rfl
theorem It{D:ak Unit}{b:UInt8}{t:aa}{pd:ao}(a:bp (b::t)=some (b::t))(aG:b_ b=false)(c:oM b=false):dx D (b::t) pd= .ok false (b::t) pd:=
 (RD a (by
  have:(b::t).dropWhile b_=b::t:=by simp_all
  rw[this,nx c];rfl)).1
section
variable{fr:Bool}{n k:Nat}{u r:aa}{pd:ao}(hu:dr u)(h:gm fr n u= .ok k r pd)(hk:k≠0)
include hu h hk
theorem ajx:gm fr (n+2) (102::40::41::32::123::10::(u++[125,10]))= .ok 1 [] []:=by
 have a:bp (102::40::41::32::123::10::(u++[125,10]))=some _:=jy (by decide) (by decide) (by decide);have c:ar (102::40::41::32::123::10::(u++[125,10]))= .word [102] true:=rD (w:=[102]) (by simp) (by decide) (L5 _);refine L4 a (by grind) (by grind) (by rfl) ?_;unfold fx;rw[aM (ch a),c,aO (by simp),aO (by decide)];simp only;rw[aO (by decide),aM (It a (by decide) (by decide)),aO (by simp)];have d:cG (dd (some (aR fr (n+1)))) (102::40::41::32::123::10::(u++[125,10])) []= .ok () (40::41::32::123::10::(u++[125,10])) []:=by rw[show(102::40::41::32::123::10::(u++[125,10]):aa)=[102]++(40::41::32::123::10::(u++[125,10])) from rfl,Io [102] _ _ (by decide)];simp[L3,L5]
 rw[aM d,bh (by decide),aM (EW _ _),bh rfl];have b:bp (32::123::10::(u++[125,10]))=some (123::10::(u++[125,10])):=by rw[j4];exact jy (by decide) (by decide) (by decide)
 have f:ar (123::10::(u++[125,10]))= .word [123] true:=rD (w:=[123]) (by simp) (by decide) (EJ _);obtain⟨l,g⟩:=l7 (w:=[125]) (r:=[10]) (by decide) (by decide) (by decide) (by decide);have i:qe (some (aR fr n)) (.word [123] true) (123::10::(u++[125,10])) []= .ok () [10] []:=by
  refine th.2 ?_;unfold g0;simp only;rw[aM (show bU [(123:UInt8)].length (123::10::(u++[125,10])) []= .ok () (10::u++([125]++[10])) [] from rfl),bh trivial,
   aM (gK.2 (L2 (u:=10::u) (by
    rcases hu with rfl|⟨s,rfl⟩
    ·exact .inr ⟨[],rfl⟩
    ·exact .inr ⟨10::s,rfl⟩) (ajt h) hk false g (by decide) (by grind)))]
  exact oN (by simp) (by decide) (by decide) (by decide)
 obtain⟨j,k⟩:=RE hu h hk (32::123::10::(u++[125,10]));have hf:lF fr (some (aR fr (n+1))) (40::41::32::123::10::(u++[125,10])) []= .ok () [10] []:=by
  unfold lF;simp only;rw[if_pos (show(aR fr (n+1)).has=true from rfl)];refine th.2 ?_
  rw[aM (show bU 1 (40::41::32::123::10::(u++[125,10])) []= .ok () (41::32::123::10::(u++[125,10])) [] from rfl),aM (ch k),j,aO (by simp),bh rfl,
   aM (show bU 1 (41::32::123::10::(u++[125,10])) []= .ok () (32::123::10::(u++[125,10])) [] from rfl),aM (gK.2 (rE b (by grind))),
   aM (ch (kR _ _ _ (cV _) b)),f,aO (by simp),bh (by decide)]
  have e:(aR fr (n+1)).cp (.word [123] true) (123::10::(u++[125,10])) []= .ok () [10] []:=i;rw[aM e];cases fr with
  |true=>simp only[cE];exact Iq.2
  |false=>rfl
 rw[aM hf];cases fr with
 |true=>rfl
 |false=>simp[Iq]
end
def EX:aa:=[101,99,104,111]
section
variable{fr:Bool}{n k:Nat}{u r:aa}{pd:ao}(hu:dr u)(h:gm fr n u= .ok k r pd)(hk:k≠0)
include hu h hk
theorem ajy(v:aa):dd (some (aR fr n)) (36::40::32::(u++41::v)) []= .ok () v []:=by
 unfold dd;rw[aO (by simp),bh (by simp)];show ae (bU 2) (λ_=>sq (aR fr n)) _ _=_;rw[aM (show bU 2 (36::40::32::(u++41::v)) []= .ok () (32::(u++41::v)) [] from rfl)];unfold sq;obtain⟨b,a⟩:=RE hu h hk v;have:(aR fr n).ls .paren true (32::(u++41::v)) []= .ok k (41::v) []:=by rw[X2];exact L2 hu h hk true a (by rfl) (by grind)
 grind[aM,th,gK,X1]
theorem ajz(t:aa):fJ (36::40::t)=true:=rfl
theorem X4{dq:Option (ak Unit)}(v:aa):cw (dd (some (aR fr n))) dq (36::40::32::(u++41::v)) []= .ok () v []:=by unfold cw;simp only;rw[aO (by decide),aO (by decide),bh (ajz hu h hk _)];grind[ajy]
theorem ajA:gm fr (n+1) (EX++32::36::40::32::(u++41::32::34::36::40::32::(u++[41,34,10])))= .ok 1 [] []:=by
 obtain⟨f,c⟩:=l7 (w:=EX) (r:=32::36::40::32::(u++41::32::34::36::40::32::(u++[41,34,10]))) (by decide) (by decide) (by decide) (qm _);have d:dx (dd (some (aR fr n))) (EX++32::36::40::32::(u++41::32::34::36::40::32::(u++[41,34,10]))) []= .ok false (EX++32::36::40::32::(u++41::32::34::36::40::32::(u++[41,34,10]))) []:=It (b:=101) c (by decide) (by decide);refine L4 c (by grind) (by grind) (by rfl) ?_;unfold fx;rw[aM (ch c),f,aO (by simp),aO (by decide)];simp only
 rw[aO (by decide),aM d,aO (by simp),aM (show cG _ (EX++32::_) []= .ok () (32::36::40::32::(u++41::32::34::36::40::32::(u++[41,34,10]))) [] from by
  rw[Io _ _ _ (by decide)];simp[L3,qm]),bh (by decide)]
 have s1:bp (36::40::32::(u++41::32::34::36::40::32::(u++[41,34,10])))=some _:=jy (by decide) (by decide) (by decide);have s2:bp (34::36::40::32::(u++[41,34,10]))=some _:=jy (by decide) (by decide) (by decide);have g:cT (36::40::32::(u++41::32::34::36::40::32::(u++[41,34,10])))=false:=by rfl
 have i:cT (34::36::40::32::(u++[41,34,10]))=false:=by rfl
 have a:∃w p,ar (36::40::32::(u++41::32::34::36::40::32::(u++[41,34,10])))= .word w p:=by rw[ar,aO (by decide),nx (by decide),aO (by simp)];simp
 have e:∃w p,ar (34::36::40::32::(u++[41,34,10]))= .word w p:=by rw[ar,aO (by decide),nx (by decide),aO (by simp)];simp
 obtain⟨o,q,a⟩:=a;obtain⟨a2,s,e⟩:=e;have j:bp (32::36::40::32::(u++41::32::34::36::40::32::(u++[41,34,10])))=some (36::40::32::(u++41::32::34::36::40::32::(u++[41,34,10]))):=by grind[j4]
 rw[aM (ch j),a,aO (by simp)];unfold hy;rw[cm,aM (It s1 (by decide) (by decide)),aO (by simp),aM (ch s1),a];simp only
 rw[aM (show cG (dd (some (aR fr n))) (36::40::32::(u++41::32::34::36::40::32::(u++[41,34,10]))) []= .ok () (32::34::36::40::32::(u++[41,34,10])) [] from by
  rw[yA g (X4 hu h hk _) (by grind)];simp[L3,qm])]
 unfold cK aX;simp only;rw[if_pos (by grind)];have k:bp (32::34::36::40::32::(u++[41,34,10]))=some (34::36::40::32::(u++[41,34,10])):=by grind[j4]
 have l:dx (dd (some (aR fr n))) (32::34::36::40::32::(u++[41,34,10])) []= .ok false (34::36::40::32::(u++[41,34,10])) []:=(RD k (by rfl)).1
 rw[cm,aM l,aO (by simp),aM (ch s2),e];simp only;have m:cw (dd (some (aR fr n))) (some (ey (dd (some (aR fr n))))) (34::36::40::32::(u++[41,34,10])) []= .ok () [10] []:=by unfold cw;simp only;rw[aO (by decide),aO (by decide),aO (by simp[fJ]),aO (by decide),bh trivial];refine th.2 (gK.2 ?_);rw[Ip (by decide) (X4 hu h hk [34,10]) (by simp)];exact ajq
 rw[aM (show cG (dd (some (aR fr n))) (34::36::40::32::(u++[41,34,10])) []= .ok () [10] [] from by
  rw[yA i m (by simp)];simp[L3,EJ])]
 unfold cK;simp only;rw[bh (by simp),cm,aM Iq.1,aO (by simp),aM (ch (Cq []))];rfl
end
theorem EY:∀(n:Nat)(r q:aa),r.length<=n->gZ r=some q->q<:+r:=by
 intro n;induction n with
 |zero=>simp_all[n1,Nat.le_zero,gZ]
 |succ n a=>
  intro r q aw h;cases r with
  |nil=>grind
  |cons b t=>unfold gZ at h;grind
theorem Ag:∀(r q:aa),gd r=some q->q<:+r
 |[],q,h=>by grind[gd]
 |b::t,q,h=>by
  unfold gd at h;split at h
  ·cases h;exact eb b _
  ·exact(Ag t q h).trans (eb b t)
structure ll where
 T:aa
 N:aa->Nat
 c:Nat
 Q:aa->ao->Prop
structure ll.H(E:ll)(n:Nat)(r:aa)(pd:ao):Prop where
 sfx:r<:+E.T
 le:E.N r+E.c<=n
 q:E.Q r pd
def h6(E:ll){α:Type}(r0:aa):dD α->Prop
 | .ok _ r pd=>r<:+r0/\E.Q r pd
 | .deep _=>False
 |_=>True
def ai(E:ll)(n:Nat){α:Type}(f:ak α):Prop:=∀r pd,E.H n r pd->h6 E r (f r pd)
structure ll.mT(E:ll):Prop where
 e4:1<=E.c
 mono:∀r r',r'<:+r->r<:+E.T->E.N r'<=E.N r
 ajC:∀r r' pd,r'<:+r->r<:+E.T->E.Q r pd->E.Q r' pd
 ajD:∀r,r<:+E.T->E.Q r []
 ss:∀r pd o tabs r' aC,r<:+E.T->E.Q r pd->bs r=o->(o=[60,60]/\tabs=false\/o=[60,60,45]/\tabs=true)->hs tabs (r.drop o.length) pd= .ok () r' aC->E.Q r' aC
 vK:∀u,36::40::u<:+E.T->u.head?≠some 40->E.N u+1<=E.N (36::40::u)\/∀n pd,E.c<=n->E.Q (36::40::u) pd->h6 E (36::40::u) ((aR true n).dl (36::40::u) pd)
 qU:∀u,36::123::u<:+E.T->E.N u+1<=E.N (36::123::u)\/∀n pd,E.c<=n->E.Q (36::123::u) pd->h6 E (36::123::u) ((aR true n).dl (36::123::u) pd)
 comp:∀r,r<:+E.T->bp r=some r->hv (ar r)=true->E.N (r.drop (mC (ar r)).length)+1<=E.N r\/∀n pd,E.c<=n->E.Q r pd->h6 E r ((aR true n).cp (ar r) r pd)
 func:∀u,40::u<:+E.T->E.N u+1<=E.N (40::u)\/∀n pd,E.c<=n+1->E.Q (40::u) pd->h6 E (40::u) (lF true (some (aR true n)) (40::u) pd)
section
variable{E:ll}(ok:E.mT){n:Nat}
theorem h6.mono{α:Type}{r0 r:aa}{x:dD α}(h:h6 E r x)(ad:r<:+r0):h6 E r0 x:=by
 cases x with
 |ok a r1 b=>exact⟨h.1.trans ad,h.2⟩
 |more _ _ _=>trivial
 |bad _=>trivial
 |deep _=>exact h
theorem h6.ae{α β:Type}{m:ak α}{k:α->ak β}{r0 r:aa}{pd:ao}(h:h6 E r0 (m r pd))(hk:∀a r' b,m r pd= .ok a r' b->r'<:+r0->E.Q r' b->h6 E r0 (k a r' b)):h6 E r0 (Go.Eng.ae m k r pd):=by
 unfold Go.Eng.ae;cases hm:m r pd with
 |ok a r1 c=>rw[hm] at h;exact hk a r1 c hm h.1 h.2
 |more _ _ _=>trivial
 |bad _=>trivial
 |deep q=>rw[hm] at h;exact h
theorem h6.aK{α:Type}{m:ak α}{r0 r:aa}{pd:ao}{x:aa}(h:h6 E r0 (m r pd)):h6 E r0 (m.aK x r pd):=by
 unfold ak.aK;cases hm:m r pd with
 |more _ _ _=>trivial
 |ok a r1 b=>grind
 |bad _=>trivial
 |deep q=>grind
theorem h6.named{α:Type}{m:ak α}{r0 r:aa}{pd:ao}{x:aa}(h:h6 E r0 (m r pd)):h6 E r0 (m.named x r pd):=by
 unfold ak.named;cases hm:m r pd with
 |more _ _ _=>trivial
 |ok a r1 b=>grind
 |bad _=>trivial
 |deep q=>grind
theorem ai.aK{α:Type}{m:ak α}(h:ai E n m)(x:aa):ai E n (m.aK x):=λr pd a=>(h r pd a).aK
theorem ai.named{α:Type}{m:ak α}(h:ai E n m)(x:aa):ai E n (m.named x):=λr pd a=>(h r pd a).named
theorem ai.b5{α:Type}(x:aa):ai E n (Go.Eng.b5 x:ak α):=λr pd _=>trivial
theorem ai.bJ{α:Type}:ai E n (Go.Eng.bJ:ak α):=λr pd _=>trivial
theorem ai.ret{α:Type}(a:α):ai E n (aX a):=λr pd h=>⟨fM,h.q⟩
theorem ai.ite{α:Type}{p:Prop}[Decidable p]{f g:ak α}(hf:ai E n f)(bq:ai E n g):ai E n (if p then f else g):=by grind
include ok
theorem ll.H.down{r r':aa}{pd a:ao}(h:E.H n r pd)(ad:r'<:+r)(b:E.Q r' a):E.H n r' a:=⟨ad.trans h.sfx,by have:=ok.mono r r' ad h.sfx;have:=h.le;omega,b⟩
theorem ll.H.qn{r r':aa}{pd:ao}(h:E.H n r pd)(ad:r'<:+r):E.H n r' pd:=h.down ok ad (ok.ajC r r' pd ad h.sfx h.q)
theorem ai.ae{α β:Type}{m:ak α}{k:α->ak β}(hm:ai E n m)(hk:∀a,ai E n (k a)):ai E n (Go.Eng.ae m k):=λr pd h=>
 (hm r pd h).ae λa r' b _ ad c=>(hk a r' b (h.down ok ad c)).mono ad
theorem ai.h7{f:ak Unit}(hf:∀r pd,match f r pd with| .ok _ r' b=>r'<:+r/\b=pd| .deep _=>False|_=>True):ai E n f:=λr pd h=>by
 have:=hf r pd;cases hm:f r pd with
 |ok a r1 c=>rw[hm] at this;obtain⟨ad,rfl⟩:=this;exact⟨ad,(h.qn ok ad).q⟩
 |more _ _ _=>trivial
 |bad _=>trivial
 |deep q=>grind
theorem ai.dj(k:Nat):ai E n (bU k):=ai.h7 ok λr pd=>⟨lJ _ _,rfl⟩
theorem ai.rep{σ α:Type}{f:σ->ak (σ⊕α)}(hf:∀s,ai E n (f s))(s:σ):ai E n (b8 f s):=by
 have b:∀(N:Nat)(s:σ)(r:aa)(pd:ao),r.length<=N->E.H n r pd->h6 E r (b8 f s r pd):=by
  intro N;induction N with
  |zero=>
   intro s r pd d h;rw[cm];have:=hf s r pd h;unfold cK;cases hm:f s r pd with
   |ok x r1 c=>
    rw[hm] at this;cases x with
    |inl s'=>simp only;rw[aO (by omega)];trivial
    |inr a=>exact this
   |more _ _ _=>trivial
   |bad _=>trivial
   |deep q=>rw[hm] at this;exact this
  |succ N e=>
   intro s r pd d h;rw[cm];have:=hf s r pd h;unfold cK;cases hm:f s r pd with
   |ok x r1 c=>
    rw[hm] at this;cases x with
    |inl s'=>
     simp only;split
     ·exact(e s' r1 c (by omega) (h.down ok this.1 this.2)).mono this.1
     ·trivial
    |inr a=>exact this
   |more _ _ _=>trivial
   |bad _=>trivial
   |deep q=>rw[hm] at this;exact this
 exactλr pd h=>b _ s r pd (cV _) h
theorem ai.dH{α:Type}{x:aa}{k:Tok->ak α}(hk:∀r pd,E.H n r pd->bp r=some r->h6 E r (k (ar r) r pd)):ai E n (Go.Eng.ae (bM x) k):=by
 intro r pd h;cases a:bp r with
 |none=>rw[de (iG a)];trivial
 |some r'=>rw[aM (ch a)];have b:=dT a;exact(hk r' pd (h.qn ok b) (kR _ _ _ (cV _) a)).mono b
theorem ai.fL{α:Type}{x:aa}{k:Tok->ak α}(hk:∀t,ai E n (k t)):ai E n (Go.Eng.ae (bM x) k):=ai.dH ok λr pd h _=>hk _ r pd h
theorem ai.exp(b:Tok->Bool)(k:Nat):ai E n (mB b k):=ai.fL ok λt=>ai.ite (ai.b5 _) (ai.ite (ai.dj ok _) ai.bJ)
theorem ai.ji(o:aa):ai E n (Go.Eng.ji o):=ai.exp ok _ _
theorem ai.cW(o:aa):ai E n (Go.Eng.cW o):=ai.exp ok _ _
theorem ai.nl:ai E n iV:=by
 intro r pd h;cases r with
 |nil=>exact⟨fM,h.q⟩
 |cons b t=>
  unfold iV;simp only;cases a:l3 pd t with
  |inl r'=>have ad:=((vE pd t [] r' a).1).trans (eb b t);exact⟨ad,ok.ajD _ (ad.trans h.sfx)⟩
  |inr nd=>trivial
theorem ai.lines:ai E n cS:=ai.rep ok (λ_=>ai.fL ok λt=>ai.ite (ai.ae ok (ai.nl ok) λ_=>ai.ret _) (ai.ret _)) _
theorem ai.part{D:ak Unit}(hD:ai E n D){dq:Option (ak Unit)}(c:∀q,dq=some q->ai E n q):ai E n (cw D dq):=by
 intro r pd h;cases r with
 |nil=>exact⟨fM,h.q⟩
 |cons b t=>
  have a:t<:+b::t:=eb b t
  have d:∀(f:aa->Option aa)(x:aa),(∀r q,f r=some q->q<:+r)->h6 E (b::t) (js f x t pd):=by
   intro f x hf;unfold js;cases hm:f t with
   |none=>trivial
   |some q=>have:=(hf _ _ hm).trans a;exact⟨this,(h.qn ok this).q⟩
  unfold cw;simp only;split
  ·have:=(lJ 1 t).trans a;exact⟨this,(h.qn ok this).q⟩
  ·split
   ·exact d _ _ λr q e=>EY _ r q (cV _) e
   ·split
    ·exact hD _ _ h
    ·cases dq with
     |none=>exact⟨a,(h.qn ok a).q⟩
     |some q=>
      simp only;split
      ·grind[Ag]
      ·split
       ·exact(c q rfl t pd (h.qn ok a)).mono a
       ·exact⟨a,(h.qn ok a).q⟩
theorem ai.Cs{p:ak Unit}(aB:ai E n p)(c:UInt8):ai E n (iO c p):=by
 refine ai.rep ok (λ_=>?_) _;intro r pd h;cases r with
 |nil=>trivial
 |cons b t=>
  simp only;split
  ·exact⟨eb b t,(h.qn ok (eb b t)).q⟩
  ·exact ai.ae ok aB (λ_=>ai.ret _) _ _ h
theorem ai.double{D:ak Unit}(hD:ai E n D):ai E n (ey D):=((ai.Cs ok (ai.part ok hD (λq a=>by cases a)) _).aK _).named _
theorem ai.yB{D:ak Unit}(hD:ai E n D):ai E n (cw D (some (ey D))):=ai.part ok hD λq a=>by grind[ai.double]
theorem ai.param{D:ak Unit}(hD:ai E n D):ai E n (qT D):=(ai.Cs ok (ai.yB ok hD) _).aK _
theorem ai.cG{D:ak Unit}(hD:ai E n D):ai E n (Go.Eng.cG D):=by
 refine ai.rep ok (λ_=>?_) _;intro r pd h;cases r with
 |nil=>trivial
 |cons b t=>
  simp only;split
  ·exact⟨fM,h.q⟩
  ·exact ai.ae ok (ai.yB ok hD) (λ_=>ai.ret _) _ _ h
theorem ai.jL{D:ak Unit}(hD:ai E n D)(x:aa):ai E n (Go.Eng.jL D x):=by refine ai.fL ok λt=>?_;grind[ai.b5,ai.cG,ai.bJ]
theorem ai.jj{D:ak Unit}(hD:ai E n D):ai E n (dx D):=by
 intro r pd h;unfold dx;cases k:bp r with
 |none=>
  have:fF r pd=Go.Eng.b5 [] r pd:=by grind[fF]
  unfold Go.Eng.ae;rw[this];trivial
 |some r'=>
  have b:=dT k;have g:r'.dropWhile b_<:+r:=Co.trans b;have c:=h.qn ok g;by_cases t:eV (bs (r'.dropWhile b_))=true
  ·have:fF r pd= .ok (some (bs (r'.dropWhile b_))) ((r'.dropWhile b_).drop (bs (r'.dropWhile b_)).length) pd:=by simp_all[fF,bh]
   rw[aM this];generalize r'.dropWhile b_=q at*;have aG:q.drop (bs q).length<:+q:=lJ _ _;have e:=c.qn ok aG;simp only;refine h6.mono (r:=q) (h6.ae ?_ λ_ i j _ f l=>⟨f,l⟩) g
   have m:∀tabs,(bs q=[60,60]/\tabs=false\/bs q=[60,60,45]/\tabs=true)->h6 E q (hs tabs (q.drop (bs q).length) pd):=by
    intro tabs o;cases hm:hs tabs (q.drop (bs q).length) pd with
    |more _ _ _=>trivial
    |bad _=>trivial
    |deep x=>grind[hs]
    |ok a i j=>
     refine⟨?_,ok.ss q pd _ tabs i j c.sfx c.q rfl o hm⟩;refine List.IsSuffix.trans ?_ aG;generalize q.drop (bs q).length=v at hm;unfold hs at hm;split at hm
     ·cases hm
     ·rename_i u p;split at hm
      ·cases hm
      ·split at hm
       ·cases hm
       ·rename_i d w y s
        repeat' (split at hm)
        all_goals cases hm
        exact(Rn _ _ _ (cV _) s).trans (dT p)
      grind
   by_cases ad:bs q=[60,60]
   ·grind
   ·rw[aO ad];by_cases f:bs q=[60,60,45]
    ·grind
    ·rw[aO f];exact(ai.jL ok hD _ _ _ e).mono aG
  ·have:fF r pd= .ok none r' pd:=by simp_all[fF,aO]
   rw[aM this];exact⟨b,(h.qn ok b).q⟩
theorem ai.mG{D:ak Unit}(hD:ai E n D):ai E n (gJ D):=ai.rep ok (λ_=>ai.ae ok (ai.jj ok hD) λb=>ai.ret _) _
theorem ai.simple{D:ak Unit}(hD:ai E n D)(fr:Bool):ai E n (hy fr D):=by
 refine ai.rep ok (λ_=>ai.ae ok (ai.jj ok hD) λb=>ai.ite (ai.ret _) (ai.fL ok λt=>?_)) _;cases t with
 |word _ _=>grind[ai.ae,ai.cG,ai.ret]
 |op o=>simp[ai.ite,ai.bJ,ai.ret]
 |_=>simp[ai.ret]
theorem ai.pipe{da:ak Unit}(h:ai E n da):ai E n (fi da):=ai.fL ok λt=>ai.ae ok (ai.ite (ai.dj ok _) (ai.ret _)) λ_=>ai.ae ok h λ_=>
 ai.rep ok (λ_=>ai.fL ok λt=>ai.ite (ai.ae ok (ai.dj ok _) λ_=>ai.ae ok ((ai.lines ok).aK _) λ_=>ai.ae ok h λ_=>ai.ret _) (ai.ret _)) _
theorem ai.pE{a:ak Unit}(h:ai E n a):ai E n (hB a):=ai.ae ok h λ_=>
 ai.rep ok (λ_=>ai.fL ok λt=>ai.ite (ai.ae ok (ai.dj ok _) λ_=>ai.ae ok ((ai.lines ok).aK _) λ_=>ai.ae ok h λ_=>ai.ret _) (ai.ret _)) _
theorem ai.list{c2:ak Unit}(h:ai E n c2)(c:Ctx)(no:Bool):ai E n (oe c2 c no):=ai.ae ok ((ai.lines ok).aK _) λ_=>ai.rep ok (λk=>ai.fL ok λt=>
 ai.ite (ai.ite (ai.ret _) (ai.b5 _)) (ai.ite (ai.ret _) (ai.ae ok h λ_=>ai.fL ok λt=>by
  cases t with
  |eof=>simp[ai.ret]
  |line=>grind[ai.ae,ai.lines,ai.ret]
  |word _ _=>exact ai.bJ
  |op o=>exact ai.ite (ai.ae ok (ai.dj ok _) λ_=>ai.ae ok (ai.lines ok) λ_=>ai.ret _) (ai.ite (ai.ret _) ai.bJ)))) _
end
structure w5(E:ll)(n:Nat):Prop where
 ls:∀c no,ai E n ((aR true n).ls c no)
 pm:ai E n (aR true n).pm
 cp:∀r pd,E.H n r pd->bp r=some r->hv (ar r)=true->h6 E r ((aR true n).cp (ar r) r pd)
 rd:ai E n (aR true n).rd
 dl:ai E n (aR true n).dl
section
variable{E:ll}(ok:E.mT){n:Nat}
include ok
theorem ll.H.pos{r:aa}{pd:ao}(h:E.H n r pd):1<=n:=by have:=ok.e4;have:=h.le;omega
theorem ai.ns:ai E n Go.Eng.ns:=by
 refine ai.h7 ok λr pd=>?_;unfold Go.Eng.ns;cases h:hR 0 r with
 |ok q=>exact⟨Ae 0 r q h,rfl⟩
 |more _=>trivial
 |bad _=>trivial
theorem ai.RH{lo:Option dS}{k:Nat}(hl:(lo=none/\k=0)\/∃m,lo=some (aR true m)/\k=m+1/\w5 E m):ai E k (dd lo):=by
 intro r pd h;have hk:=h.pos ok;rcases hl with⟨_,rfl⟩|⟨m,rfl,rfl,hm⟩
 ·omega
 have i:(aR true (m+1)).dl=dd (some (aR true m)):=rfl;have a:∀k,r.drop k<:+r:=λk=>lJ _ _
 unfold dd;split
 ·exact((ai.dj ok _).ae ok (λ_=>ai.ns ok)) r pd h
 ·rename_i j;split
  ·rename_i b;rw[C7] at b;obtain⟨u,rfl⟩:=b;have hu:u.head?≠some 40:=by
    intro f;cases u with
    |nil=>cases f
    |cons c v=>grind
   rcases ok.vK u h.sfx hu with g|bq
   ·have d:E.H m u pd:=⟨(a 2).trans h.sfx,by have:=h.le;grind,(h.qn ok (a 2)).q⟩;have:so (some (aR true m)) 2 sq ([36,40]++u) pd=sq (aR true m) u pd:=rfl;rw[this];refine h6.mono ?_ (a 2);exact ai.ae ok (((hm.ls _ _).aK _).named _) (λ_=>ai.ji ok _) _ _ d
   ·have:=bq (m+1) pd (by have:=h.le;omega) h.q;simp_all[dd,aa,aO,bh,List.isPrefixOf]
  ·rename_i b;split
   ·rename_i e;rw[C7] at e;obtain⟨u,rfl⟩:=e;rcases ok.qU u h.sfx with g|bq
    ·have d:E.H m u pd:=⟨(a 2).trans h.sfx,by have:=h.le;grind,(h.qn ok (a 2)).q⟩;have:so (some (aR true m)) 2 (λl=>l.pm.named [36,123]) ([36,123]++u) pd=((aR true m).pm.named [36,123]) u pd:=rfl;rw[this];exact((hm.pm.named _) _ _ d).mono (a 2)
    ·have:=bq (m+1) pd (by have:=h.le;omega) h.q;simp_all[dd,aa,aO,bh,List.isPrefixOf]
   ·exact⟨a 1,(h.qn ok (a 1)).q⟩
section
variable{m:Nat}(hm:w5 E m)
include hm
theorem ai.body(x:aa):ai E m (iF (aR true m) x):=ai.ae ok ((ai.cW ok _).aK _) λ_=>ai.ae ok ((hm.ls _ _).aK _) λ_=>ai.cW ok _
theorem ai.cond:ai E m (qd (aR true m)):=ai.rep ok (λ_=>ai.ae ok ((hm.ls _ _).aK _) λ_=>ai.ae ok (ai.cW ok _) λ_=>ai.ae ok ((hm.ls _ _).aK _) λ_=>
 ai.fL ok λt=>ai.ite (ai.ae ok (ai.cW ok _) λ_=>ai.ret _) (ai.ite (ai.ae ok (ai.cW ok _) λ_=>ai.ae ok ((hm.ls _ _).aK _) λ_=>ai.ae ok (ai.cW ok _) λ_=>ai.ret _) (ai.ae ok (ai.cW ok _) λ_=>ai.ret _))) _
theorem ai.words:ai E m (pC (aR true m).dl):=ai.rep ok (λ_=>ai.fL ok λt=>by
 cases t with
 |eof=>simp[ai.b5]
 |word _ _=>exact ai.ae ok (ai.cG ok hm.dl) λ_=>ai.ret _
 |line=>simp[ai.ret]
 |op o=>exact ai.ite (ai.ae ok (ai.dj ok _) λ_=>ai.ret _) ai.bJ) _
theorem ai.for_:ai E m (pD (aR true m) (aR true m).dl):=ai.fL ok λt=>by
 cases t with
 |eof=>simp[ai.b5]
 |word w p=>
  cases p with
  |true=>
   refine ai.ite (ai.ae ok (ai.dj ok _) λ_=>ai.ae ok (ai.aK (ai.fL ok λt=>?_) _) λ_=>ai.body ok hm _) ai.bJ;exact ai.ite (ai.ae ok (ai.dj ok _) λ_=>ai.ae ok (ai.lines ok) λ_=>ai.ret _) (ai.ae ok (ai.lines ok) λ_=>ai.fL ok λt=>
    ai.ite (ai.ae ok (ai.dj ok _) λ_=>ai.ae ok (ai.words ok hm) λ_=>ai.ae ok (ai.lines ok) λ_=>ai.ret _) (ai.ret _))
  |false=>exact ai.bJ
 |_=>exact ai.bJ
theorem ai.w2:ai E m (kQ (aR true m).dl):=ai.rep ok (λ_=>ai.fL ok λt=>by
 cases t with
 |eof=>simp[ai.b5]
 |word _ _=>
  refine ai.ae ok ((ai.cG ok hm.dl).aK _) λ_=>ai.fL ok λt=>?_;cases t with
  |op o=>exact ai.ite (ai.ae ok (ai.dj ok _) λ_=>ai.ret _) (ai.ite (ai.ae ok (ai.dj ok _) λ_=>ai.ret _) ai.bJ)
  |eof=>simp[ai.b5]
  |_=>exact ai.bJ
 |_=>exact ai.bJ) _
theorem ai.items:ai E m (nu (aR true m) (aR true m).dl):=ai.rep ok (λ_=>ai.ae ok (ai.lines ok) λ_=>ai.fL ok λt=>ai.ite (ai.b5 _) (ai.ite (ai.ae ok (ai.dj ok _) λ_=>ai.ret _)
 (ai.ae ok (ai.ite (ai.dj ok _) (ai.ret _)) λ_=>ai.ae ok (ai.w2 ok hm) λ_=>ai.ae ok (hm.ls _ _) λ_=>ai.fL ok λt=>ai.ite (ai.ae ok (ai.dj ok _) λ_=>ai.ret _) (ai.ret _)))) _
theorem ai.w3:ai E m (qV (aR true m) (aR true m).dl):=ai.fL ok λt=>by
 cases t with
 |eof=>simp[ai.b5]
 |word _ _=>exact ai.ae ok (ai.aK (ai.ae ok (ai.cG ok hm.dl) λ_=>ai.ae ok (ai.lines ok) λ_=>ai.fL ok λt=>ai.ite (ai.b5 _) (ai.ret _)) _) λt=>ai.ite (ai.ae ok (ai.dj ok _) λ_=>(ai.items ok hm).aK _) ai.bJ
 |_=>exact ai.bJ
theorem h6.kind{r:aa}{pd:ao}(h:E.H m (r.drop (mC (ar r)).length) pd)(aF:hv (ar r)=true):h6 E r (g0 (aR true m) (ar r) r pd):=by
 have aG:∀k,r.drop k<:+r:=λk=>lJ _ _
 cases a:ar r with
 |eof=>grind[hv]
 |line=>grind[hv]
 |op o=>rw[a] at h;have:g0 (aR true m) (.op o) r pd=Go.Eng.ae (((aR true m).ls .paren false).aK [41]) (λ_=>Go.Eng.ji [41]) (r.drop 1) pd:=rfl;rw[this];exact(ai.ae ok ((hm.ls _ _).aK _) (λ_=>ai.ji ok _) _ _ h).mono (aG _)
 |word w p=>
  rw[a] at h;have:g0 (aR true m) (.word w p) r pd=(if w=[123] then Go.Eng.ae (((aR true m).ls .qU false).aK [10,125]) λ_=>Go.Eng.cW [125]
   else if w=mh then qd (aR true m)
   else if w=nr then pD (aR true m) (aR true m).dl
   else if w=pA then qV (aR true m) (aR true m).dl
   else Go.Eng.ae (((aR true m).ls .pB false).aK eg) λ_=>iF (aR true m) eg:ak Unit) (r.drop w.length) pd:=rfl
  rw[this];refine h6.mono ?_ (aG w.length);refine ai.ite ?_ (ai.ite (ai.cond ok hm) (ai.ite (ai.for_ ok hm) (ai.ite (ai.w3 ok hm) ?_))) _ _ h
  ·exact ai.ae ok ((hm.ls _ _).aK _) λ_=>ai.cW ok _
  ·exact ai.ae ok ((hm.ls _ _).aK _) λ_=>ai.body ok hm _
theorem h6.cp{r:aa}{pd:ao}(h:E.H (m+1) r pd)(a:bp r=some r)(aF:hv (ar r)=true):h6 E r ((aR true (m+1)).cp (ar r) r pd):=by
 rcases ok.comp r h.sfx a aF with b|bq
 ·have aG:r.drop (mC (ar r)).length<:+r:=lJ _ _;have c:E.H m (r.drop (mC (ar r)).length) pd:=⟨aG.trans h.sfx,by have:=h.le;omega,(h.qn ok aG).q⟩;have:(aR true (m+1)).cp (ar r) r pd=((g0 (aR true m) (ar r)).named (mC (ar r))) r pd:=rfl;grind[h6.kind,h6.named]
 ·exact bq _ _ (by have:=h.le;omega) h.q
theorem h6.function{u:aa}{pd:ao}(h:E.H (m+1) (40::u) pd):h6 E (40::u) (lF true (some (aR true m)) (40::u) pd):=by
 rcases ok.func u h.sfx with j|bq
 ·have hu:u<:+40::u:=eb 40 u;have b:E.H m u pd:=⟨hu.trans h.sfx,by have:=h.le;omega,(h.qn ok hu).q⟩;have e:(aR true m).has=true:=by
   cases m with
   |zero=>have:=b.pos ok;omega
   |succ _=>rfl
  unfold lF;simp only;rw[bh e];refine h6.named ?_;refine h6.mono ?_ hu;refine ai.fL ok (λt=>ai.ite (ai.b5 _) (ai.ite ?_ ai.bJ)) u pd b;refine ai.ae ok (ai.dj ok _) λ_=>ai.ae ok ((ai.lines ok).aK _) λ_=>ai.dH ok λr pd c f=>?_;by_cases ad:ar r= .eof
  ·rw[bh ad];trivial
  rw[aO ad];by_cases a:hv (ar r)=true
  ·rw[bh a];exact h6.ae (hm.cp r pd c f a) λ_ r1 g _ d i=>(hm.rd r1 g (c.down ok d i)).mono d
  ·rw[aO a];trivial
 ·exact bq m pd (by have:=h.le;omega) h.q
theorem ai.command:ai E (m+1) (fx true (some (aR true m)) (aR true (m+1)).dl):=by
 have hD:ai E (m+1) (aR true (m+1)).dl:=ai.RH ok (.inr ⟨m,rfl,rfl,hm⟩);refine ai.dH ok λr pd h e=>?_;by_cases ad:ar r= .eof
 ·rw[bh ad];trivial
 rw[aO ad];by_cases c:hv (ar r)=true
 ·rw[bh c];exact h6.ae (h6.cp ok hm h e c) λ_ r1 f _ a d=>(ai.mG ok hD r1 f (h.down ok a d)).mono a
 rw[aO c];cases i:ar r with
 |eof=>grind
 |line=>trivial
 |op o=>exact ai.ite (ai.ae ok (ai.jj ok hD) λ_=>ai.simple ok hD true) ai.bJ r pd h
 |word w p=>
  refine ai.ite ai.bJ (ai.ae ok (ai.jj ok hD) λb=>ai.ite (ai.simple ok hD true) (ai.ae ok (ai.cG ok hD) λ_=>ai.ite (ai.dH ok λr pd h e=>?_) (ai.simple ok hD true))) r pd h;by_cases a:ar r= .op [40]
  ·rw[bh a];obtain⟨u,rfl⟩:=(il a).2.1;exact h6.ae (h6.function ok hm h) λ_ r1 f _ d g=>⟨d,g⟩
  ·rw[aO a];exact ai.simple ok hD true r pd h
end
omit n in
theorem oh:∀n,w5 E n
 |0=>by
  have a:∀{r pd},¬E.H 0 r pd:=λh=>by have:=h.pos ok;omega
  exact⟨λc no r pd h=>absurd h a,λr pd h=>absurd h a,λr pd h=>absurd h a,λr pd h=>absurd h a,λr pd h=>absurd h a⟩
 |m+1=>by have hm:=oh m;have hD:ai E (m+1) (aR true (m+1)).dl:=ai.RH ok (.inr ⟨m,rfl,rfl,hm⟩);exact⟨λc no=>ai.list ok (ai.pE ok (ai.pipe ok (ai.command ok hm))) c no,ai.param ok hD,λr pd h b aF=>h6.cp ok hm h b aF,ai.mG ok hD,hD⟩
end
end Go.Eng
namespace Go.Eng
open Go Go.Proofs
theorem aQ{α β:Type}{m:Option α}{k:α->Option β}{y:α}(h:m=some y):au m k=k y:=by rw[h];rfl
theorem Iu{α β:Type}{c:Prop}[Decidable c]{x d:α}{k:α->Option β}(h:c):cP c (some x) d k=k x:=by unfold cP;rw[bh h];rfl
theorem vL{α:Type}[Inhabited α]{l:List α}{k:Int}(h0:0<=k)(h:k<(l.length:Int)):l.drop k.toNat=at' l k::l.drop (k+1).toNat:=by grind[List.drop_eq_getElem_cons,at']
theorem L6{α:Type}{l:List α}{k:Int}(h0:0<=k):cg l k (l.length:Int)=l.drop k.toNat:=by simp[cg,Jz]
def rF(c:UInt8):aa->bt
 |[]=>[[]]
 |b::l=>if b=c then []::rF c l else match rF c l with
  |[]=>[[b]]
  |x::xs=>(b::x)::xs
theorem X5(c:UInt8):∀(l:aa),(Lib.indexByte l c= -1/\rF c l=[l]/\l.count c=0)\/
  ∃p:Nat,Lib.indexByte l c=p/\p<l.length/\rF c l=l.take p::rF c (l.drop (p+1))/\l.count c=(l.drop (p+1)).count c+1
 |[]=> .inl ⟨rfl,rfl,rfl⟩
 |b::l=>by
  by_cases h:b=c
  ·grind[Lib.indexByte,rF]
  ·have e:(b==c)=false:=by grind
   rcases X5 c l with⟨ad,a,d⟩|⟨p,ad,a,d,f⟩
   ·grind[Lib.indexByte,rF]
   ·refine .inr ⟨p+1,?_,?_,?_,?_⟩
    ·grind[Lib.indexByte]
    ·grind
    ·grind[rF]
    grind
theorem ajF(a:bt)(s:aa)(i:Nat)(bf:i<a.length):cg (List.set a i s) 0 ((i:Int)+1)=a.take i++[s]:=by
 unfold cg;have b:((i:Int)+1).toNat=i+1:=by omega
 simp only[Jt,xy,Nat.sub_zero,b];rw[List.take_set,List.take_succ_eq_append_getElem bf,List.set_append_right _ _ (by grind)];simp only[List.length_take,Nat.min_eq_left (show i<=a.length by omega),Nat.sub_self,List.set_cons_zero]
theorem ajG(a:bt)(s:aa)(i:Nat)(bf:i<a.length):(List.set a i s).take (i+1)=a.take i++[s]:=by rw[List.take_set,List.take_succ_eq_append_getElem bf,List.set_append_right _ _ (by grind)];simp only[List.length_take,Nat.min_eq_left (show i<=a.length by omega),Nat.sub_self,List.set_cons_zero]
theorem ajH(x0:aa)(c:UInt8)(n:Nat)(w:(x0.length:Int)<=1048576)(aw:(n:Int)=x0.count c+1)(j:aa×bt×Int->Option bt)
  (e:∀(s:aa)(a:bt)(i:Nat),a.length=n->i<n->j (s,a,(i:Int))=some (a.take i++[s])):
  ∀(m:Nat)(s:aa)(a:bt)(i:Nat),a.length=n->n=i+s.count c+1->s.length<=x0.length->(s.count c:Int)<m->0<m->
  fixF (GS x0 [c] 0 (n:Int) j) m (s,a,(i:Int))=some (a.take i++rF c s):=by
 have kg:=List.count_le_length (a:=c) (l:=x0);have f:min (n:Int) (W ((x0.length:Int)+1))=n:=by grind[dV]
 intro m;induction m with
 |zero=>omega
 |succ m g=>
  intro s a i h bf x hm _;simp only[fixF,GS,aZ,ou,f];have k:W ((n:Int)-1)=(n:Int)-1:=dV (by omega) (by omega);have o:W ((i:Int)+1)=(i:Int)+1:=dV (by omega) (by omega);rw[k];rcases X5 c s with⟨ad,b,d⟩|⟨p,ad,b,d,y⟩
  ·rw[aO (by omega),e _ _ _ h (by omega),b]
  ·rw[bh (by omega)];simp only[Pl,au,ad];have q:W ((p:Int)+0)=p:=by grind[dV]
   have r:W ((p:Int)+(([c]:aa).length:Int))=p+1:=by rw[dV (by omega) (by grind)];simp
   rw[q,r,if_neg (by omega),if_pos ⟨by omega,by omega,by omega⟩,if_pos ⟨by omega,by omega⟩,if_pos ⟨by omega,by omega,by omega⟩,o];have t:cg s ((p:Int)+1) (s.length:Int)=s.drop (p+1):=by rw[L6 (by omega)];congr 1
   have u:cg s 0 (p:Int)=s.take p:=by rfl
   have v:(((i+1:Nat)):Int)=(i:Int)+1:=by omega
   rw[t,u,<-v];rw[g (s.drop (p+1)) _ (i+1) (by grind) (by omega) (by grind) (by omega) (by omega),d];simp only[Int.toNat_natCast];rw[ajG _ _ _ (by omega),List.append_assoc];rfl
theorem X6(x0:aa)(c:UInt8)(b:(x0.length:Int)<=1048576):DL x0 [c]=some (rF c x0):=by
 have kg:=List.count_le_length (a:=c) (l:=x0);have bq:GU x0 [c] 0 (-1)=some (rF c x0):=by
  unfold GU;simp only[a8,Bool.cond_decide,Pm,au,Lib.countByte,aZ];have d:W (((x0.count c:Nat):Int)+1)=((x0.count c+1:Nat):Int):=by grind[dV]
  have e:min ((x0.count c+1:Nat):Int) (W ((x0.length:Int)+1))=((x0.count c+1:Nat):Int):=by grind[dV]
  rw[aO (by decide),aO (by simp),bh (by decide),d,e,bh ⟨by omega,by omega⟩];have f:(List.replicate (((x0.count c+1:Nat):Int).toNat) ([]:aa)).length=x0.count c+1:=by simp
  refine Eq.trans (ajH x0 c (x0.count c+1) b (by omega) _ (λs a i h bf=>?_) bC x0 _ 0 f (by omega) (by omega) (by grind[gg]) (by simp[gg])) (by simp);have g:W ((i:Int)+1)=(i:Int)+1:=dV (by omega) (by omega);simp only[g];rw[bh ⟨by omega,by omega⟩,bh ⟨by omega,by omega,by grind⟩];grind[ajF]
 grind[DL,aQ]
theorem ajI(x:aa)(ys:bt)(hl:(ys.length:Int)<=1048576)(j:Unit->Option Bool):∀(m:Nat)(k:Int),0<=k->k<=(ys.length:Int)->(ys.length:Int)-k<m->0<m->
  fixF (KF x ys j) m k=if(ys.drop k.toNat).contains x then some true else j ():=by
 intro m;induction m with
 |zero=>omega
 |succ m a=>
  intro k hk b hm _;simp only[fixF,KF,aZ,ou];by_cases ad:k<(ys.length:Int)
  ·simp only[ad,hk,cE,nB];rw[dV (by omega) (by omega),vL hk ad];grind
  ·simp only[ad,cn];grind[List.drop_eq_nil_of_le]
theorem RJ(x w:aa)(a:(w.length:Int)<=1048576)(hl:((rF 32 w).length:Int)<=1048576):Bx x w=some ((rF 32 w).contains x):=by unfold Bx;rw[X6 w 32 a];simp only[au,a8];rw[ajI x _ hl _ bC 0 (by omega) (by omega) (by grind[gg]) (by simp[gg])];grind
theorem ajJ(s p:aa):Lib.hasPrefix s p=decide (s.take p.length=p):=by unfold Lib.hasPrefix;rw[Bool.eq_iff_iff,C7,List.prefix_iff_eq_take];grind
theorem X7(l:aa)(a:Int)(b:0<=a)(i:a<(l.length:Int))(n:(l.length:Int)<=1048576)(ys:bt)(hl:(ys.length:Int)<=1048576)(c:∀y∈ys,(y.length:Int)<=100)(j:Unit->Option aa):
  ∀(m:Nat)(k:Int),0<=k->k<=(ys.length:Int)->(ys.length:Int)-k<m->0<m->
  fixF (HE l a ys j) m k=(match(ys.drop k.toNat).find? (λy=>Lib.hasPrefix (l.drop a.toNat) y) with|some y=>some y|none=>j ())/\
  fixF (GX l a ys j) m k=(match(ys.drop k.toNat).find? (λy=>Lib.hasPrefix (l.drop a.toNat) y) with|some y=>some y|none=>j ()):=by
 intro m;induction m with
 |zero=>omega
 |succ m d=>
  intro k hk o hm _;simp only[fixF,HE,GX,aZ,ou,Pv,au];by_cases ad:k<(ys.length:Int)
  ·have e:=c (at' ys k) (sO (mU ⟨hk,ad⟩));simp only[ad,hk,cE,nB];have f:W (k+1)=k+1:=dV (by omega) (by omega);have g:W ((l.length:Int)-a)=(l.length:Int)-a:=dV (by omega) (by omega);have h:W (a+((at' ys k).length:Int))=a+((at' ys k).length:Int):=dV (by omega) (by omega);obtain⟨p,q⟩:=d (k+1) (by omega) (by omega) (by omega) (by omega);rw[f,g,h,vL hk ad,L6 b];simp only[xz,b,uU,nB,cE,true_and,show a<=(l.length:Int) by omega];rw[ajJ];have r:cg l a (a+((at' ys k).length:Int))=(l.drop a.toNat).take (at' ys k).length:=by unfold cg;congr 1;omega
   by_cases s:(l.drop a.toNat).take (at' ys k).length=at' ys k
   ·have t:((at' ys k).length:Int)<=(l.length:Int)-a:=by grind
    grind
   grind
  ·simp only[ad,cn];grind[List.drop_eq_nil_of_le]
theorem mH(b c:UInt8)(z:Int)(h:z=(c.toNat:Int)):((b.toNat:Int)=z)=(b=c):=by subst h;apply propext;grind[UInt8.toNat_inj]
theorem RL(l:aa)(c:UInt8):Lib.indexByte l c<=l.length:=by
 induction l with
 |nil=>simp[Lib.indexByte]
 |cons b l a=>grind[Lib.indexByte,List.length_cons]
theorem ajK(c:UInt8):∀(l:aa),0<=Lib.indexByte l c->Lib.indexByte l c<l.length:=by
 intro l;induction l with
 |nil=>simp[Lib.indexByte]
 |cons b l a=>unfold Lib.indexByte;grind
theorem ajL(l:aa)(hl:(l.length:Int)<=1048576)(j:Int->Option Int):∀(m:Nat)(k:Int),0<=k->k<=(l.length:Int)->(l.length:Int)-k<m->0<m->
  fixF (HC l j) m k=j (if Lib.indexByte (l.drop k.toNat) 10<0 then(l.length:Int) else k+Lib.indexByte (l.drop k.toNat) 10):=by
 intro m;induction m with
 |zero=>omega
 |succ m a=>
  intro k hk b hm _;simp only[fixF,HC,aZ,ou];by_cases ad:k<(l.length:Int)
  ·simp only[ad,hk,cE,nB,imp_true_iff,mH _ 10 10 rfl,bw];rw[dV (by omega) (by omega),vL hk ad,Lib.indexByte];grind
  ·simp only[ad,cn,bF,aU,eB,false_imp_iff,cE];rw[wb (by omega)];have e:(if Lib.indexByte ([]:aa) 10<0 then(l.length:Int) else k+Lib.indexByte ([]:aa) 10)=k:=by rw[bh (by decide)];omega
   rw[e]
theorem X8{l:aa}{k e:Int}(h0:0<=k)(h:k<e)(he:e<=(l.length:Int)):cg l k e=at' l k::cg l (k+1) e:=by
 unfold cg;rw[vL h0 (by omega)];have:e.toNat-k.toNat=(e.toNat- (k+1).toNat)+1:=by omega
 grind
theorem ajM{l:aa}{e:Int}:cg l e e=[]:=by simp[cg]
theorem ajN(l:aa)(hl:(l.length:Int)<=1048576)(e:Int)(he:e<=(l.length:Int))(j:Int->Option Int):∀(m:Nat)(k:Int),0<=k->k<=e->e-k<m->0<m->
  ∃k',k<=k'/\k'<=e/\fixF (Ee l true e j) m k=j k'/\cg l k' e=(cg l k e).dropWhile (· ==9):=by
 intro m;induction m with
 |zero=>omega
 |succ m a=>
  intro k hk d hm _;simp only[fixF,Ee,aZ,ou,aJ];by_cases ad:k<e
  ·have b:k<(l.length:Int):=by omega
   simp only[ad,b,hk,cE,nB,imp_true_iff,mH _ 9 9 rfl,bw,aJ];rw[dV (by omega) (by omega),X8 hk ad he];by_cases f:at' l k=9
   ·obtain⟨k',r1,c,g,h⟩:=a (k+1) (by omega) (by omega) (by omega) (by omega);refine⟨k',by omega,c,?_,?_⟩
    ·grind
    simp_all
   ·refine⟨k,by omega,by omega,?_,?_⟩
    ·grind
    simp_all[X8]
  ·have:k=e:=by omega
   subst this;refine⟨k,by omega,by omega,?_,?_⟩
   ·simp
   simp[ajM]
theorem ajO(l:aa)(e k:Int)(j:Int->Option Int):fixF (Ee l false e j) bC k=j k:=by grind[bC,gg,fixF,Ee,aZ]
theorem ajP(j:aa->Option aa):∀(m:Nat)(x:aa),(x.length:Int)<=1048576->x.length<m->fixF (KC 9 j) m x=j (x.dropWhile (· ==9)):=by
 intro m;induction m with
 |zero=>omega
 |succ m c=>
  intro x i hm;simp only[fixF,KC,aZ,ou];cases x with
  |nil=>simp
  |cons b x=>
   have h0:at' (b::x) (0:Int)=b:=rfl;have d:cg (b::x) 1 ((b::x).length:Int)=x:=by simp[cg]
   have a:(0:Int)<((b::x).length:Int):=by simp
   have e:(1:Int)<=((b::x).length:Int):=by omega
   have f:x.length<m:=by grind
   have g:=mH b 9 ((9:UInt8).toNat:Int) rfl;rw[h0,d];simp only[g,a,e,bw,aJ,uU,nB,imp_true_iff,cE];by_cases h:b=9
   ·subst h;simp only[bw,cE,true_and,show(0:Int)<=1 from by decide];rw[c x (by grind) f];simp
   simp_all
theorem X9(x:aa)(b:(x.length:Int)<=1048576):Bs x [9]=some (x.dropWhile (· ==9)):=by
 unfold Bs;by_cases h:x=[]
 ·simp_all
 ·have c:G1 x (at' [9] 0)=some (x.dropWhile (· ==9)):=by unfold G1;have a:at' ([9]:aa) (0:Int)=9:=rfl;grind[a8,ajP,bC,gg]
  have a:((at' ([9]:aa) (0:Int)).toNat:Int)<128:=by decide
  have d:(decide (x=[]))=false:=by grind
  simp_all[aU,aZ,aQ]
theorem ajQ(l d:aa)(t:Bool)(hl:(l.length:Int)<=1048576):∀(m:Nat)(k:Int),0<=k->k<=(l.length:Int)->(l.length:Int)-k<m->0<m->
  ∃r,fixF (wO l d t λ_=>some (-1)) m k=some r/\fixF (rm l d t λ_=>some (-1)) m k=some r:=by
 intro m;induction m with
 |zero=>omega
 |succ m F=>
  intro k hk g hm _;by_cases ad:k<(l.length:Int)
  ·
   have u:=RL (l.drop k.toNat) 10;have G:=Ju (l.drop k.toNat) 10;have n:=ajK 10 (l.drop k.toNat);simp only[F9] at u n;have h:cg l k (l.length:Int)=l.drop k.toNat:=L6 hk;have c:∀(e a:Int),k<=e->e<=(l.length:Int)->k<a->a<=(l.length:Int)->
     (∀j,fixF (HC l j) bC k=j e)->(if e<(l.length:Int) then W (e+1) else e)=a->
     (∃r,fixF (wO l d t λ_=>some (-1)) (m+1) k=some r/\
      (bif decide ((if t then(cg l k e).dropWhile (· ==9) else cg l k e)=d) then some a else fixF (rm l d t λ_=>some (-1)) m a)=some r):=by
    intro e a i o H I v w;simp only[fixF,wO,a8,ou,ad,cE];rw[v];have fin:∀k',k<=k'->k'<=e->cg l k' e=(if t then(cg l k e).dropWhile (· ==9) else cg l k e)->
      ∃r,(if e<(l.length:Int) then aZ (0<=k'/\k'<=e/\e<=(l.length:Int)) (if cg l k' e=d then some (W (e+1)) else fixF (wO l d t λ_=>some (-1)) m (W (e+1)))
       else aZ (0<=k'/\k'<=e/\e<=(l.length:Int)) (if cg l k' e=d then some e else fixF (wO l d t λ_=>some (-1)) m e))=some r/\
      (if((if t then(cg l k e).dropWhile (· ==9) else cg l k e)=d) then some a else fixF (rm l d t λ_=>some (-1)) m a)=some r:=by
     intro k' x q y;have bq:0<=k'/\k'<=e/\e<=(l.length:Int):=⟨by omega,q,o⟩;simp only[aZ,bq,cE,nB];grind
    cases t with
    |true=>
     obtain⟨k',x,q,y,J⟩:=ajN l hl e o (λb=>if e<(l.length:Int) then aZ (0<=b/\b<=e/\e<=(l.length:Int)) (if cg l b e=d then some (W (e+1)) else fixF (wO l d true λ_=>some (-1)) m (W (e+1)))
      else aZ (0<=b/\b<=e/\e<=(l.length:Int)) (if cg l b e=d then some e else fixF (wO l d true λ_=>some (-1)) m e)) bC k hk i (by grind[gg]) (by simp[gg])
     grind
    |false=>rw[ajO];grind
   have bf:∀(line:aa)(a:Int),(line.length:Int)<=1048576->
     (bif t then au (Bs line [9]) λ(z:aa)=>(if z=d then some a else fixF (rm l d t λ_=>some (-1)) m a) else(if line=d then some a else fixF (rm l d t λ_=>some (-1)) m a))=
     (bif decide ((if t then line.dropWhile (· ==9) else line)=d) then some a else fixF (rm l d t λ_=>some (-1)) m a):=by
    intro line a A;cases t with
    |true=>simp_all[aJ,aQ,X9]
    |false=>simp
   have K:=λj=>ajL l hl j bC k hk g (by grind[gg]) (by simp[gg]);generalize aB:Lib.indexByte (l.drop k.toNat) 10=p at*;by_cases L:p<0
   ·obtain⟨r,r1,s⟩:=c (l.length:Int) (l.length:Int) g (uU _) ad (uU _) (λj=>by grind) (by simp);refine⟨r,r1,?_⟩;simp only[fixF,rm,a8,ou,ad,cE,aZ,DO,au,h,aB,hk,g,uU,nB];rw[aO (by omega)];rw[h] at s;have:=bf (l.drop k.toNat) (l.length:Int) (by grind);grind[au]
   ·have M:=n (by omega);have B:W (k+p+1)=k+p+1:=dV (by omega) (by omega);have C:W (k+p)=k+p:=dV (by omega) (by omega);obtain⟨r,r1,s⟩:=c (k+p) (k+p+1) (by omega) (by omega) (by omega) (by omega) (λj=>by grind) (by omega);refine⟨r,r1,?_⟩;simp only[fixF,rm,a8,ou,ad,cE,aZ,DO,au,h,aB,hk,g,uU,nB];have e4:0<=p:=by omega
    have D:(0:Int)<=0/\0<=p/\p<=((l.drop k.toNat).length:Int):=⟨by omega,by omega,by grind⟩;rw[C,B];simp only[e4,cE,true_and,show p<=((l.drop k.toNat).length:Int) from D.2.2];have E:cg (l.drop k.toNat) 0 p=cg l k (k+p):=by unfold cg;simp only[Jt,xy,Nat.sub_zero];congr 1;omega
    rw[E];have f:((cg l k (k+p)).length:Int)<=1048576:=by grind[cg]
    have:=bf (cg l k (k+p)) (k+p+1) f;grind[au]
  ·simp only[fixF,wO,rm,ou,ad,cn];simp
def dl:aa->UInt8->Option aa
 |[],q=>if q=0 then some [] else none
 |b::r,q=>
  if q=39 then(if b=39 then dl r 0 else(dl r 39).map (b::·))
  else if b=92 then
   match r with
   |[]=>none
   |n::r'=>if n=10 then dl r' q else if q=0\/n=36\/n=34\/n=92\/n=96 then(dl r' q).map (n::·) else(dl (n::r') q).map (b::·)
  else if b=36\/b=96 then none
  else if b=34 then(if q=0 then dl r 34 else dl r 0)
  else if b=39/\q=0 then dl r 39
  else(dl r q).map (b::·)
termination_by l _=>l.length
decreasing_by all_goals grind
def nT(j:aa->Option (aa×Bool))(o:aa)(m:Option aa):Option (aa×Bool):=match m with
 |some s=>j (o++s)
 |none=>some ([],false)
theorem oO(j:aa->Option (aa×Bool))(o:aa)(b:UInt8)(m:Option aa):nT j o (m.map (b::·))=nT j (o++[b]) m:=by
 cases m with
 |none=>rfl
 |some s=>simp[nT]
theorem tm(j:aa->Option (aa×Bool))(o:aa):nT j o none=some ([],false):=rfl
theorem ajS(l:aa)(hl:(l.length:Int)<=200000000)(j:aa×UInt8->Option (aa×Bool))(B:∀o q,q≠0->j (o,q)=some ([],false)):
  ∀(m:Nat)(o:aa)(q:UInt8)(k:Int),0<=k->k<=(l.length:Int)->(o.length:Int)<=k->(l.length:Int)-k<m->0<m->(q=0\/q=34\/q=39)->
  fixF (B0 l j) m (o,q,k)=nT (λo=>j (o,0)) o (dl (l.drop k.toNat) q):=by
 intro m;induction m with
 |zero=>omega
 |succ m u=>
  intro o q k hk H I hm _ e;by_cases ad:k<(l.length:Int)
  ·have p:∀f a,(f.length:Int)<=k+1->(a=0\/a=34\/a=39)->fixF (B0 l j) m (f,a,k+1)=nT (λo=>j (o,0)) f (dl (l.drop (k+1).toNat) a):=λf a i t=>u f a (k+1) (by omega) (by omega) i (by omega) (by omega) t
   have C:k+1<(l.length:Int)->∀f a,(f.length:Int)<=k+1->(a=0\/a=34\/a=39)->fixF (B0 l j) m (f,a,k+2)=nT (λo=>j (o,0)) f (dl (l.drop (k+2).toNat) a):=λh0 f a i t=>u f a (k+2) (by omega) (by omega) (by omega) (by omega) (by omega) t
   have D:W (k+1)=k+1:=dV (by omega) (by omega);have E:W (k+1+1)=k+2:=by grind[dV]
   have bq:∀b:UInt8,o.length+([b]:aa).length<=536870912:=by grind
   have g:∀b:UInt8,((o++[b]).length:Int)<=k+1:=by grind
   simp only[fixF,B0,aZ,a8,ou,D,E,ad,hk,cE,nB,bq,mH _ 39 39 rfl,mH _ 92 92 rfl,mH _ 10 10 rfl,mH _ 36 36 rfl,mH _ 34 34 rfl,mH _ 96 96 rfl,mH _ 0 0 rfl];rw[vL hk ad];generalize at' l k=b at*;by_cases i:k+1=(l.length:Int)
   ·have ek:l.drop (k+1).toNat=[]:=wb (by omega);rw[ek] at p⊢;simp only[i,bw,g9,aU];rw[dl];have c:=λ(b:UInt8)(a:UInt8)(h:a=0\/a=34\/a=39)=>p (o++[b]) a (g b) h;have d:=λ(a:UInt8)(h:a=0\/a=34\/a=39)=>p o a (by omega) h;rw[i] at c d;by_cases q2:b=39
    ·subst q2;rcases e with rfl|rfl|rfl<;>simp[c,d,oO]
    by_cases mI:b=92
    ·subst mI;rcases e with rfl|rfl|rfl<;>simp[c,d,oO,tm]
    by_cases qo:b=36
    ·subst qo;rcases e with rfl|rfl|rfl<;>simp[c,d,oO,tm]
    by_cases nU:b=96
    ·subst nU;rcases e with rfl|rfl|rfl<;>simp[c,d,oO,tm]
    by_cases nV:b=34
    ·subst nV;rcases e with rfl|rfl|rfl<;>simp[c,d,oO,tm]
    rcases e with rfl|rfl|rfl<;>simp[c,d,oO,q2,mI,qo,nU,nV]
   ·have t:k+1<(l.length:Int):=by omega
    have ek:l.drop (k+1).toNat=at' l (k+1)::l.drop (k+2).toNat:=by grind[vL]
    have v:=C t;rw[ek] at p⊢;generalize at' l (k+1)=n at*;have F:¬(k+1=(l.length:Int)):=i;have G:0<=k+1/\k+1<(l.length:Int):=by omega
    simp only[F,G,bF,e2,aJ,cE,nB];rw[dl];have c:=λ(b:UInt8)(a:UInt8)(h:a=0\/a=34\/a=39)=>p (o++[b]) a (g b) h;have d:=λ(a:UInt8)(h:a=0\/a=34\/a=39)=>p o a (by omega) h;have r:=λ(b:UInt8)(a:UInt8)(h:a=0\/a=34\/a=39)=>v (o++[b]) a (g b) h;have s:=λ(a:UInt8)(h:a=0\/a=34\/a=39)=>v o a (by omega) h;by_cases q2:b=39
    ·subst q2;rcases e with rfl|rfl|rfl<;>simp[c,d,oO]
    by_cases mI:b=92
    ·subst mI;by_cases w:n=10
     ·subst w;rcases e with rfl|rfl|rfl<;>simp[c,d,r,s,oO]
     by_cases x:n=36
     ·subst x;rcases e with rfl|rfl|rfl<;>simp[c,d,r,s,oO]
     by_cases y:n=34
     ·subst y;rcases e with rfl|rfl|rfl<;>simp[c,d,r,s,oO]
     by_cases z:n=92
     ·subst z;rcases e with rfl|rfl|rfl<;>simp[c,d,r,s,oO]
     by_cases A:n=96
     ·subst A;rcases e with rfl|rfl|rfl<;>simp[c,d,r,s,oO]
     rcases e with rfl|rfl|rfl<;>simp[c,d,r,s,oO,w,x,y,z,A]
    by_cases qo:b=36
    ·subst qo;rcases e with rfl|rfl|rfl<;>simp[c,d,oO,tm]
    by_cases nU:b=96
    ·subst nU;rcases e with rfl|rfl|rfl<;>simp[c,d,oO,tm]
    by_cases nV:b=34
    ·subst nV;rcases e with rfl|rfl|rfl<;>simp[c,d,oO,tm]
    rcases e with rfl|rfl|rfl<;>simp[c,d,oO,q2,mI,qo,nU,nV]
  ·simp only[fixF,B0,aZ,a8,ou,ad,cn];rw[wb (by omega)];simp only[dl];by_cases i:q=0
   ·grind[nT]
   ·rw[B _ _ i,aO i];rfl
theorem ajT(l:aa):dl l 39=if Lib.indexByte l 39<0 then none else(dl (l.drop (Lib.indexByte l 39+1).toNat) 0).map ((l.take (Lib.indexByte l 39).toNat)++·):=by
 induction l with
 |nil=>simp[dl,Lib.indexByte]
 |cons b l a=>
  rw[dl.eq_def,Lib.indexByte];by_cases h:b=39
  ·simp_all
  ·have c:(b==39)=false:=by grind
   have g:=Ju l 39;simp only[cE,h,cn,c,eB];rw[a];generalize Lib.indexByte l 39=p at*;by_cases i:p= -1
   ·grind
   ·have d:(p== -1)=false:=by grind
    simp only[d,eB,cn];rw[aO (by omega),aO (by omega)];have e:(p+1+1).toNat=(p+1).toNat+1:=by omega
    have f:(p+1).toNat=p.toNat+1:=by omega
    rw[e,f,F8,NH,Option.map_map];rfl
theorem ajU(l:aa)(hl:(l.length:Int)<=1048576)(j:Unit->Option (aa×Int))(E:j ()=some ([], -1)):
  ∀(m:Nat)(o:aa)(k:Int),0<=k->k<=(l.length:Int)->(o.length:Int)<=k->(l.length:Int)-k<m->0<m->
  (fixF (sf l j) m (o,k)=some ([], -1)/\dl (l.drop k.toNat) 34=none)\/
  ∃(s:aa)(k':Int),fixF (sf l j) m (o,k)=some (o++s,k')/\k<k'/\k'<=(l.length:Int)/\((o++s).length:Int)<=k'/\dl (l.drop k.toNat) 34=(dl (l.drop k'.toNat) 0).map (s++·):=by
 intro m;induction m with
 |zero=>omega
 |succ m w=>
  intro o k hk F G hm _;by_cases ad:k<(l.length:Int)
  ·have x:W (k+1)=k+1:=dV (by omega) (by omega);have y:W (k+1+1)=k+2:=by grind[dV]
   have bq:∀b:UInt8,o.length+([b]:aa).length<=536870912:=by grind
   have e:∀b c:UInt8,o.length+([b,c]:aa).length<=536870912:=by grind
   simp only[fixF,sf,aZ,a8,ou,x,y,ad,hk,cE,nB,bq,e,mH _ 39 39 rfl,mH _ 92 92 rfl,mH _ 10 10 rfl,mH _ 36 36 rfl,mH _ 34 34 rfl,mH _ 96 96 rfl];rw[vL hk ad];have f:∀(t:aa),(t.length:Int)<=1->dl (at' l k::l.drop (k+1).toNat) 34=(dl (l.drop (k+1).toNat) 34).map (t++·)->
     (fixF (sf l j) m (o++t,k+1)=some ([], -1)/\dl (at' l k::l.drop (k+1).toNat) 34=none)\/
     ∃(s:aa)(k':Int),fixF (sf l j) m (o++t,k+1)=some (o++s,k')/\k<k'/\k'<=(l.length:Int)/\((o++s).length:Int)<=k'/\dl (at' l k::l.drop (k+1).toNat) 34=(dl (l.drop k'.toNat) 0).map (s++·):=by
    intro t z he;rcases w (o++t) (k+1) (by omega) (by omega) (by grind) (by omega) (by omega) with⟨r1,g⟩|⟨s,k',r1,g,h,A,i⟩
    ·grind
    ·refine .inr ⟨t++s,k',by grind,by omega,h,by grind,?_⟩;rw[he,i,Option.map_map];congr 1;grind
   have a:∀(t:aa),k+1<(l.length:Int)->(t.length:Int)<=2->dl (at' l k::l.drop (k+1).toNat) 34=(dl (l.drop (k+2).toNat) 34).map (t++·)->
     (fixF (sf l j) m (o++t,k+2)=some ([], -1)/\dl (at' l k::l.drop (k+1).toNat) 34=none)\/
     ∃(s:aa)(k':Int),fixF (sf l j) m (o++t,k+2)=some (o++s,k')/\k<k'/\k'<=(l.length:Int)/\((o++s).length:Int)<=k'/\dl (at' l k::l.drop (k+1).toNat) 34=(dl (l.drop k'.toNat) 0).map (s++·):=by
    intro t h0 z he;rcases w (o++t) (k+2) (by omega) (by omega) (by grind) (by omega) (by omega) with⟨r1,g⟩|⟨s,k',r1,g,h,A,i⟩
    ·grind
    ·refine .inr ⟨t++s,k',by grind,by omega,h,by grind,?_⟩;rw[he,i,Option.map_map];congr 1;grind
   by_cases B:k+1=(l.length:Int)
   ·have ek:l.drop (k+1).toNat=[]:=wb (by omega);rw[ek] at f⊢;generalize at' l k=b at*;by_cases nV:b=34
    ·subst nV;grind[dl]
    by_cases mI:b=92
    ·grind[dl]
    by_cases qo:b=36
    ·grind[dl]
    by_cases nU:b=96
    ·grind[dl]
    grind[dl]
   ·have d:k+1<(l.length:Int):=by omega
    have ek:l.drop (k+1).toNat=at' l (k+1)::l.drop (k+2).toNat:=by grind[vL]
    rw[ek] at f a⊢;generalize at' l (k+1)=n at*;generalize at' l k=b at*;have C:¬(k+1=(l.length:Int)):=B;have D:0<=k+1/\k+1<(l.length:Int):=by omega
    simp only[C,D,cn,cE,nB];by_cases nV:b=34
    ·subst nV;refine .inr ⟨[],k+1,by simp,by omega,by omega,by grind,?_⟩;simp_all[dl]
    by_cases mI:b=92
    ·subst mI;by_cases p:n=10
     ·subst p;grind[dl]
     by_cases q:n=36
     ·subst q;simpa using a [36] d (by simp) (by simp[dl])
     by_cases r:n=34
     ·subst r;simpa using a [34] d (by simp) (by simp[dl])
     by_cases u:n=92
     ·subst u;simpa using a [92] d (by simp) (by simp[dl])
     by_cases v:n=96
     ·subst v;simpa using a [96] d (by simp) (by simp[dl])
     have:=a [92,n] d (by simp) (by rw[dl];simp[p,q,r,u,v];rw[dl.eq_def];simp[p,q,r,u,v];rfl);grind
    by_cases qo:b=36
    ·grind[dl]
    by_cases nU:b=96
    ·grind[dl]
    have:=f [b] (by simp) (by simp_all[dl]);grind
  ·simp only[fixF,sf,aZ,a8,ou,ad,cn];grind[List.drop_eq_nil_of_le,dl]
theorem ajW(l:aa)(hl:(l.length:Int)<=1048576)(a:Int)(h0:0<=a)(ad:a<=(l.length:Int)):
  vp l a=some (if Lib.indexByte (l.drop a.toNat) 39<0 then-1 else a+Lib.indexByte (l.drop a.toNat) 39+1):=by
 have b:=RL (l.drop a.toNat) 39;have c:=Ju (l.drop a.toNat) 39;simp only[F9] at b;unfold vp wE DO;have e:max (0:Int) (min a (l.length:Int))=a:=by omega
 simp only[au,aZ,e];rw[bh ⟨h0,ad,uU _⟩,L6 h0];generalize Lib.indexByte (l.drop a.toNat) 39=p at*;simp only[ou];grind[dV]
theorem Yc(j:aa->Option (aa×Bool))(o s:aa)(m:Option aa):nT j o (m.map (s++·))=nT j (o++s) m:=by
 cases m with
 |none=>rfl
 |some t=>simp[nT]
theorem ajX(l:aa)(hl:(l.length:Int)<=1048576)(j:aa->Option (aa×Bool)):
  ∀(m:Nat)(o:aa)(k:Int),0<=k->k<=(l.length:Int)->(o.length:Int)<=k->(l.length:Int)-k<m->0<m->
  fixF (BO l j) m (o,k)=nT j o (dl (l.drop k.toNat) 0):=by
 intro m;induction m with
 |zero=>omega
 |succ m e=>
  intro o k hk A B hm _;by_cases ad:k<(l.length:Int)
  ·have g:W (k+1)=k+1:=dV (by omega) (by omega);have h:W (k+2)=k+2:=dV (by omega) (by omega)
   have bq:∀b:UInt8,o.length+([b]:aa).length<=536870912:=by grind
   have i:=ajW l hl (k+1) (by omega) (by omega);simp only[fixF,BO,aZ,a8,ou,g,h,ad,hk,cE,nB,bq,mH _ 39 39 rfl,mH _ 92 92 rfl,mH _ 10 10 rfl,mH _ 36 36 rfl,mH _ 34 34 rfl,mH _ 96 96 rfl];rw[aQ i,vL hk ad]
   have f:∀a,(a.length:Int)<=k+1->fixF (BO l j) m (a,k+1)=nT j a (dl (l.drop (k+1).toNat) 0):=λa c=>e a (k+1) (by omega) (by omega) c (by omega) (by omega)
   have d:∀b:UInt8,((o++[b]).length:Int)<=k+1:=by grind
   by_cases q2:at' l k=39
   ·rw[q2];simp only[show¬((39:UInt8)=92) by decide,cn,cE];have aG:dl (39::l.drop (k+1).toNat) 0=dl (l.drop (k+1).toNat) 39:=by grind[dl.eq_def]
    rw[aG,ajT];have q:=RL (l.drop (k+1).toNat) 39;have C:=Ju (l.drop (k+1).toNat) 39;simp only[F9] at q;generalize aB:Lib.indexByte (l.drop (k+1).toNat) 39=p at*;have r:0<=p->k+1+p<(l.length:Int):=by
     intro h0
     have:∀(l:aa),0<=Lib.indexByte l 39->Lib.indexByte l 39<l.length:=by
      intro l;induction l with
      |nil=>decide
      |cons b l e=>unfold Lib.indexByte;grind
     grind
    by_cases aw:p<0
    ·simp_all[cE,tm]
    ·simp only[aw,cn];have:=r (by omega);rw[aO (by omega),dV (x:=k+1+p+1-1) (by omega) (by omega)];have t:k+1+p+1-1=k+1+p:=by omega
     rw[t,bh ⟨by omega,by omega,by omega⟩];have u:cg l (k+1) (k+1+p)=(l.drop (k+1).toNat).take p.toNat:=by grind[cg]
     have D:((cg l (k+1) (k+1+p)).length:Int)<=p:=by grind
     rw[bh (by omega),u,Yc,List.drop_drop];grind
   ·by_cases nV:at' l k=34
    ·rw[nV];simp only[show¬((34:UInt8)=92) by decide,show¬((34:UInt8)=39) by decide,cn,cE];have aG:dl (34::l.drop (k+1).toNat) 0=dl (l.drop (k+1).toNat) 34:=by grind[dl.eq_def]
     rw[aG];have v:BN l (k+1) o=fixF (sf l λ_=>some ([], -1)) bC (o,k+1):=rfl;rcases ajU l hl (λ_=>some ([], -1)) rfl bC o (k+1) (by omega) (by omega) (by omega) (by grind[gg]) (by simp[gg]) with⟨r1,w⟩|⟨s,k',r1,w,E,F,y⟩
     ·grind[aQ,tm]
     ·rw[aQ (v.trans r1),y,Yc];grind
    ·simp only[q2,nV,cn];by_cases c:k+1=(l.length:Int)
     ·have ek:l.drop (k+1).toNat=[]:=wb (by omega);rw[ek] at f⊢;generalize at' l k=b at*;by_cases mI:b=92
      ·grind[dl,tm]
      by_cases qo:b=36
      ·grind[dl,tm]
      by_cases nU:b=96
      ·grind[dl,tm]
      simp only[mI,qo,nU,cn,bF,aU,eB];rw[f _ (d b),show [b]=b::([]:aa) from rfl];grind[dl.eq_def,oO]
     ·have G:k+1<(l.length:Int):=by omega
      have ek:l.drop (k+1).toNat=at' l (k+1)::l.drop (k+2).toNat:=by grind[vL]
      have H:∀a,(a.length:Int)<=k+2->fixF (BO l j) m (a,k+2)=nT j a (dl (l.drop (k+2).toNat) 0):=λa c=>e a (k+2) (by omega) (by omega) c (by omega) (by omega)
      have z:0<=k+1/\k+1<(l.length:Int):=by omega
      rw[ek] at f⊢;generalize at' l (k+1)=n at*;generalize at' l k=b at*;simp only[c,z,cn,cE,nB];grind[dl,dl.eq_def,oO,tm]
  ·simp only[fixF,BO,aZ,a8,ou,ad,cn];grind[List.drop_eq_nil_of_le,dl,nT]
theorem Yd:∀(n:Nat)(l:aa),l.length<=n->∀(q:UInt8)(s:aa),dl l q=some s->s.length<=l.length:=by
 intro n;induction n with
 |zero=>simp[n1,dl,eO]
 |succ n g=>
  intro l aw q s h
  match l with
  |[]=>grind
  |b::r=>
   simp only[mo] at aw⊢
   have a:∀(d:UInt8),dl r d=some s->s.length<=r.length+1:=λd f=>by grind
   have e:∀(d c:UInt8),(dl r d).map (c::·)=some s->s.length<=r.length+1:=by
    intro d c f;cases aG:dl r d with
    |none=>grind
    |some t=>grind
   rw[dl.eq_def] at h;simp only at h;split at h
   ·grind
   ·split at h
    ·match r,a,e,h with
     |[],_,_,h=>cases h
     |x::r',a,e,h=>
      simp only at h;simp only[mo] at aw a e⊢;split at h
      ·grind
      ·split at h
       ·cases aG:dl r' q with
        |none=>grind
        |some t=>grind
       grind
    grind
theorem ajY(l:aa)(hl:(l.length:Int)<=200000000):∀(m:Nat)(k:Int),0<=k->k<=(l.length:Int)->(l.length:Int)-k<m->0<m->
  fixF (Ll l λ_=>some (l,true)) m k=if 0<=Lib.indexByte (l.drop k.toNat) 10 then some ([],false) else some (l,true):=by
 intro m;induction m with
 |zero=>omega
 |succ m a=>
  intro k hk b hm _;simp only[fixF,Ll,aZ,ou];by_cases ad:k<(l.length:Int)
  ·simp only[ad,hk,cE,nB,mH _ 10 10 rfl];rw[dV (by omega) (by omega),vL hk ad,Lib.indexByte];grind
  ·simp only[ad,cn];simp_all[wb,Lib.indexByte]
theorem ajZ(l:aa)(hl:(l.length:Int)<=200000000):Ep l=nT (λs=>if 0<=Lib.indexByte s 10 then some ([],false) else some (s,true)) [] (dl l 0):=by
 unfold Ep;simp only[a8];rw[ajS l hl _ (by intro o q a;simp only[mH _ 0 0 rfl,a,bF,e2,aJ]) bC [] 0 0 (by omega) (by omega) (by simp) (by grind[gg]) (by simp[gg]) (.inl rfl)];simp only[Jt,xy];cases aG:dl l 0 with
 |none=>rfl
 |some s=>
  have b:=Yd _ l (cV _) 0 s aG;simp only[nT,tM];have:(!decide (((0:UInt8).toNat:Int)=0))=false:=by decide
  simp only[this,aU];grind[ajY,bC,gg]
theorem aj0(l:aa)(hl:(l.length:Int)<=1048576):wN l=nT (λs=>if 0<=Lib.indexByte s 10 then some ([],false) else some (s,true)) [] (dl l 0):=by
 unfold wN;simp only[a8];rw[ajX l hl _ bC [] 0 (by omega) (by omega) (by simp) (by grind[gg]) (by simp[gg])];simp only[Jt,xy];cases aG:dl l 0 with
 |none=>rfl
 |some s=>simp[nT,tM,P6,au,ou]
def ax(S r:aa):Int:=(S.length:Int)-r.length
theorem eG{r S:aa}(h:r<:+S):r.length<=S.length:=h.length_le
theorem dY{b:UInt8}{t S:aa}(h:b::t<:+S):t<:+S:=(eb b t).trans h
theorem jz{b:UInt8}{t S:aa}(h:b::t<:+S):at' S (ax S (b::t))=b:=by obtain⟨u,rfl⟩:=h;simp[ax,at']
theorem iP{b:UInt8}{t S:aa}(dg:S.length<=1000000)(h:b::t<:+S):W (ax S (b::t)+1)=ax S t:=by grind[eG,List.length_cons,dV,ax]
theorem ks{w t S:aa}(dg:S.length<=1000000)(h:w++t<:+S):W (ax S (w++t)+w.length)=ax S t:=by grind[eG,List.length_append,dV,ax]
theorem hX{b:UInt8}{t S:aa}(h:b::t<:+S):0<=ax S (b::t)/\ax S (b::t)<S.length:=by grind[eG,List.length_cons,ax]
theorem m9{b:UInt8}{t S:aa}(h:b::t<:+S):ax S (b::t)<S.length:=(hX h).2
theorem ir(S:aa):ax S []=S.length:=by rfl
theorem Iv(S:aa):ax S S=0:=by simp[ax]
theorem oQ{r S:aa}:ax S r<=S.length:=by grind[ax]
theorem yC{r S:aa}:ax S r=S.length↔r=[]:=by
 unfold ax;constructor
 ·grind[List.length_eq_zero_iff]
 grind
theorem q3{b c:UInt8}:((b.toNat:Int)=(c.toNat:Int))↔b=c:=by
 constructor
 ·grind[UInt8.toNat_inj]
 grind
theorem Iw(b:UInt8):((b.toNat:Int)=9)↔b=9:=q3 (c:=9)
theorem pF(b:UInt8):((b.toNat:Int)=10)↔b=10:=q3 (c:=10)
theorem RQ(b:UInt8):((b.toNat:Int)=32)↔b=32:=q3 (c:=32)
theorem nV(b:UInt8):((b.toNat:Int)=34)↔b=34:=q3 (c:=34)
theorem Ye(b:UInt8):((b.toNat:Int)=35)↔b=35:=q3 (c:=35)
theorem qo(b:UInt8):((b.toNat:Int)=36)↔b=36:=q3 (c:=36)
theorem q2(b:UInt8):((b.toNat:Int)=39)↔b=39:=q3 (c:=39)
theorem Cv(b:UInt8):((b.toNat:Int)=40)↔b=40:=q3 (c:=40)
theorem Yf(b:UInt8):((b.toNat:Int)=41)↔b=41:=q3 (c:=41)
theorem mI(b:UInt8):((b.toNat:Int)=92)↔b=92:=q3 (c:=92)
theorem nU(b:UInt8):((b.toNat:Int)=96)↔b=96:=q3 (c:=96)
theorem Cw(b:UInt8):((b.toNat:Int)=123)↔b=123:=q3 (c:=123)
theorem bS{α:Type}{c:Prop}[Decidable c]{k:Option α}(h:c):aZ c k=k:=bh h
structure cH where
 S:aa
 ne:Int
 op:bt
 j6:Int
def cH.st(e:cH)(r:aa)(pd:ao):an:=(e.S,ax e.S r,pd,e.ne,e.op,e.j6)
structure dQ(e:cH)(r:aa)(pd:ao):Prop where
 bZ:e.S.length<=1000000
 sfx:r<:+e.S
 jM:pd.length+r.length<=e.S.length
 ops:e.op.length+r.length<=e.S.length+1
theorem dQ.mono{e:cH}{r r':aa}{pd:ao}(h:dQ e r pd)(ad:r'<:+r):dQ e r' pd:=
 ⟨h.bZ,ad.trans h.sfx,by have:=h.jM;grind,by have:=h.ops;grind⟩
def aV{α β:Type}(e:cH)(r0:aa)(m:dD α)(cv:α->aa->ao->β)(y:Option (bn an β)):Prop:=match m with
 | .ok a r pd=>r<:+r0/\dQ e r pd/\y=some (.inr (cv a r pd))
 | .more op _ _=>∃st:an,y=some (.inl (1,e.S.length,st))/\st.2.2.2.2.1=e.op++op
 | .bad r=>r<:+e.S/\∃st:an,y=some (.inl (2,ax e.S r,st))
 | .deep _=>True
theorem aV.mono{α β:Type}{e:cH}{r0 r1:aa}{m:dD α}{cv:α->aa->ao->β}{y:Option (bn an β)}(h:aV e r0 m cv y)(ad:r0<:+r1):aV e r1 m cv y:=by
 cases m with
 |ok a r pd=>exact⟨h.1.trans ad,h.2⟩
 |_=>exact h
structure c3{α β:Type}(C:dD α->dD β):Prop where
 more:∀op nd ds,C (.more op nd ds)= .more op nd ds
 bad:∀r,C (.bad r)= .bad r
 deep:∀r,C (.deep r)= .deep r
theorem c3.id{α:Type}:c3 (λx:dD α=>x):=⟨λ_ _ _=>rfl,λ_=>rfl,λ_=>rfl⟩
theorem c3.k{σ α:Type}{f:σ->ak (σ⊕α)}{r:aa}:c3 (cK f r):=⟨λ_ _ _=>rfl,λ_=>rfl,λ_=>rfl⟩
theorem aV.iH{α d g β i:Type}{C:dD d->dD g}(c:c3 C){e:cH}{r0 r:aa}{pd:ao}{m:ak α}{k:α->ak d}{cv:α->aa->ao->β}{cv':g->aa->ao->i}{y:Option (bn an β)}{k':β->Option (bn an i)}{f:an->an}
  (h:aV e r0 (m r pd) cv y) (hf:∀st,(f st).2.2.2.2.1=st.2.2.2.2.1) (hk:∀a r1 b,m r pd= .ok a r1 b->r1<:+r0->dQ e r1 b->aV e r0 (C (k a r1 b)) cv' (k' (cv a r1 b))):
  aV e r0 (C (Go.Eng.ae m k r pd)) cv' (a_ y f k'):=by
 unfold Go.Eng.ae;cases hm:m r pd with
 |ok a r1 b=>rw[hm] at h;obtain⟨ad,j,rfl⟩:=h;exact hk a r1 b hm ad j
 |more op nd ds=>rw[hm] at h;obtain⟨st,rfl,j⟩:=h;rw[c.more];exact⟨f st,rfl,by grind⟩
 |bad q=>rw[hm] at h;obtain⟨ad,st,rfl⟩:=h;rw[c.bad];exact⟨ad,f st,rfl⟩
 |deep q=>rw[c.deep];trivial
theorem aV.Yg{α a β:Type}{C:dD α->dD a}(b:c3 C){e:cH}{r0 r:aa}{pd:ao}{cv:a->aa->ao->β}{x:aa}{st:an}{f:an->an}{k:Empty->Option (bn an β)}(ad:st.1=e.S)(c:(f st).2.2.2.2.1=e.op):aV e r0 (C ((b5 x:ak α) r pd)) cv (a_ (rj st) f k):=by unfold b5;rw[b.more];exact⟨f st,by grind[rj,a_],by grind⟩
theorem aV.inl{σ α β:Type}{e:cH}{f:σ->ak (σ⊕α)}{r0 r r':aa}{a:ao}{s':σ}{cv:α->aa->ao->β}{y:Option (bn an β)}(hl:r'.length<r.length)(h:aV e r0 (b8 f s' r' a) cv y):aV e r0 (cK f r (aX (.inl s') r' a)) cv y:=by simp_all[aX,cK,bh]
theorem aV.inr{σ α β:Type}{e:cH}{f:σ->ak (σ⊕α)}{r0 r r':aa}{b:ao}{a:α}{cv:α->aa->ao->β}{y:Option (bn an β)}(ad:r'<:+r0)(c:dQ e r' b)(h:y=some (.inr (cv a r' b))):aV e r0 (cK f r (aX (.inr a) r' b)) cv y:=⟨ad,c,h⟩
theorem aV.rep{σ α τ β:Type}{e:cH}{f:σ->ak (σ⊕α)}{cv:α->aa->ao->β}{en:σ->aa->ao->τ}{body:(τ->Option (bn an β))->τ->Option (bn an β)}
  (b:∀(k:τ->Option (bn an β))(s:σ)(r:aa)(pd:ao),dQ e r pd->(∀s' r' a,r'<:+r->dQ e r' a->r'.length<r.length->aV e r (b8 f s' r' a) cv (k (en s' r' a)))->aV e r (cK f r (f s r pd)) cv (body k (en s r pd))):
  ∀(n:Nat)(s:σ)(r:aa)(pd:ao),r.length<n->dQ e r pd->aV e r (b8 f s r pd) cv (fixF body n (en s r pd)):=by
 intro n;induction n with
 |zero=>omega
 |succ n c=>grind[cm,aV,fixF,aV.mono]
theorem lI{n:Nat}(h:n<=1000000):n<bC:=by grind[gg]
theorem e7{σ α:Type}{f:(σ->Option α)->σ->Option α}{n:Nat}{s:σ}:fixF f (n+1) s=f (fixF f n) s:=rfl
theorem aj1{e:cH}(x0:an)(c:x0.1=e.S){j:Int->Option (bn an an)}(dg:e.S.length<=1000000):∀(n:Nat)(r:aa),r.length<n->r<:+e.S->fixF (GP x0 j) n (ax e.S r)=j (ax e.S (lf r)):=by
 intro n;induction n with
 |zero=>omega
 |succ n d=>
  intro r aw a;rw[e7];generalize fixF (GP x0 j) n=k at d;unfold GP;rw[c];cases r with
  |nil=>simp[ir,aZ,lf]
  |cons b t=>
   rw[bS (λ_=>hX a),jz a,iP dg a];simp only[m9 a,bw,aJ,pF];unfold lf;by_cases f:b=10
   ·grind
   ·simp only[f,bF,e2,aJ,cn];grind[List.length_cons,dY]
def Ix(e:cH)(r:aa)(pd:ao)(y:Option (bn an an)):Prop:=match bp r with
 |some r'=>y=some (.inr (e.st r' pd))
 |none=>∃st:an,y=some (.inl (1,e.S.length,st))/\st.2.2.2.2.1=e.op
theorem RR{c:UInt8}{u:aa}(aF:c≠10):bp (92::c::u)=some (92::c::u):=by rw[nQ,aO (by decide),aO (by decide),bh rfl];grind
theorem RS{u:aa}:bp (92::10::u)=if u=[] then none else bp u:=by rw[nQ,aO (by decide),aO (by decide),bh rfl];rfl
theorem Yh:bp [92]=some [92]:=by rw[nQ,aO (by decide),aO (by decide),bh rfl]
theorem RT{t:aa}:bp (35::t)=bp (lf t):=by rw[nQ,aO (by decide),bh rfl]
theorem RU{b:UInt8}{t:aa}(a:¬gb b=true)(c:b≠35)(d:b≠92):bp (b::t)=some (b::t):=by simp_all[nQ,aO]
theorem E5{b:UInt8}{t:aa}(a:gb b=true):bp (b::t)=bp t:=by rw[nQ,bh a]
theorem aj2{e:cH}{pd:ao}(dg:e.S.length<=1000000)(x0:an)(ad:x0.1=e.S)(i:x0.2.2.1=pd)(j:x0.2.2.2.1=e.ne)(l:x0.2.2.2.2.1=e.op)(m:x0.2.2.2.2.2=e.j6):∀(n:Nat)(r:aa),r.length<n->r<:+e.S->
  Ix e r pd (fixF (GQ x0 λo=>some (.inr (x0.1,o,x0.2.2.1,x0.2.2.2.1,x0.2.2.2.2.1,x0.2.2.2.2.2))) n (ax e.S r)):=by
 intro n;induction n with
 |zero=>omega
 |succ n d=>
  intro r aw a;rw[e7];generalize fixF (GQ x0 _) n=k at d;unfold GQ a8;simp only[ad,i,j,l,m];cases r with
  |nil=>simp only[ir,Int.lt_irrefl,bF,aU];simp[Ix,l5,cH.st,ir]
  |cons b t=>
   have g:t.length<n:=by grind
   rw[bS (hX a),jz a,iP dg a];simp only[m9 a,bw,aJ,RQ,Iw,mI,Ye];unfold Ix;by_cases f:gb b=true
   ·rw[E5 f];have:(bif decide (b=32) then true else decide (b=9))=true:=by simp[gb] at f;rcases f with rfl|rfl<;>rfl
    rw[this];exact d t g (dY a)
   ·have p:(bif decide (b=32) then true else decide (b=9))=false:=by grind[gb]
    rw[p];simp only[aU];by_cases q:b=92
    ·subst q;cases t with
     |nil=>simp[ir,aZ,cH.st,Yh]
     |cons c u=>
      rw[bS (λ_=>hX (dY a)),jz (dY a)];simp only[bw,aJ,m9 (dY a),pF];by_cases aF:c=10
      ·subst aF;have s:W (ax e.S (92::10::u)+2)=ax e.S u:=ks (w:=[92,10]) dg a;rw[s];simp only[bw,aJ,RS];by_cases hu:u=[]
       ·subst hu;rw[bh rfl];simp only[ir,bw,aJ];exact⟨_,rfl,rfl⟩
       ·rw[aO hu];have:decide (ax e.S u=(e.S.length:Int))=false:=by grind[yC]
        rw[this];simp only[aU];exact d u (by grind) (dY (dY a))
      simp_all[bF,aU,RR,cH.st]
    ·have v:decide (b=92)=false:=by grind
     rw[v];simp only[aU];rw[bS (λh=>by grind)];by_cases x:b=35
     ·subst x;rw[RT];simp only[decide_true,cond_true];rw[aj1 (e:=e) x0 ad dg _ _ (lI (Nat.le_trans (eG a) dg)) a];have:lf (35::t)=lf t:=by rfl
      rw[this];exact d _ (Nat.lt_of_le_of_lt (Ab t) g) ((EL t).trans (dY a))
     grind[RU,cH.st]
theorem aj3{e:cH}{r:aa}{pd:ao}(h:dQ e r pd):Ix e r pd (Kv (e.st r pd)):=
 aj2 h.bZ (e.st r pd) rfl rfl rfl rfl rfl _ r (lI (lK (eG h.sfx) h.bZ)) h.sfx
theorem RW{r S:aa}(h:r<:+S):S.drop (ax S r).toNat=r:=by obtain⟨u,rfl⟩:=h;simp[ax,o0]
theorem Iy{r t S:aa}(h:r<:+S)(a:t<:+r):cg S (ax S r) (ax S t)=r.take (r.length-t.length):=by grind[cg,RW,eG,ax]
theorem RX{S r:aa}(dg:S.length<=1000000)(b:r<:+S):zy S (ax S r)=some (bs r):=by
 have ad:¬ax S r<0:=by grind[eG,ax]
 unfold zy;by_cases c:(S.length:Int)<=ax S r
 ·have d:r=[]:=yC.1 (show ax S r=S.length by have:= @oQ r S;omega);simp_all[bs,lg,xz,List.isPrefixOf]
 ·simp only[ad,c,bF,aU];have e0:rF 32 [60,60,45,32,38,38,32,124,124,32,59,59,32,60,60,32,60,38,32,60,62,32,62,62,32,62,38,32,62,124,32,38,32,124,32,59,32,60,32,62,32,40,32,41]=lg:=by decide
  have a:=X6 [60,60,45,32,38,38,32,124,124,32,59,59,32,60,60,32,60,38,32,60,62,32,62,62,32,62,38,32,62,124,32,38,32,124,32,59,32,60,32,62,32,40,32,41] 32 (by decide);rw[e0] at a;rw[aQ a];unfold a8;show fixF (GX S (ax S r) lg λ_=>some []) bC 0=_;rw[(X7 S (ax S r) (by omega) (by omega) (by omega) lg (by decide) (by decide) (λ_=>some []) bC 0 (by omega) (by decide) (by rw[gg];decide) (by simp[gg])).2];rw[RW b];grind[bs,Lib.hasPrefix,List.isPrefixOf,List.find?,lg]
theorem fX{α β:Type}{g:Prop}[Decidable g]{v d:α}{k:α->Option β}:cP g (some v) d k=k (if g then v else d):=by grind[cP,au]
theorem RY{S r:aa}(dg:S.length<=1000000)(a:r<:+S):wD S (ax S r)=some (cT r):=by
 unfold wD;rw[RX dg a,fX];cases r with
 |nil=>simp[ir,aZ,cT]
 |cons b t=>
  have hl:¬(S.length:Int)<=ax S (b::t):=by simp_all[m9]
  rw[bS (λ_=>hX a),bS (λ_=>hX a),bS (λ_=>hX a),jz a];simp only[hl,bF,aU,RQ,Iw,pF];grind[cT,gb,bs]
theorem Yi{S t:aa}{b:UInt8}(dg:S.length<=1000000)(a:b::t<:+S):Bq S (ax S (b::t))=some (fJ (b::t)):=by
 unfold Bq;rw[bS (hX a),jz a,iP dg a];simp only[qo,Cv,Cw];cases t with
 |nil=>simp[ir,aZ,fJ]
 |cons c u=>
  rw[bS (λ_=>hX (dY a)),bS (λ_ _=>hX (dY a)),jz (dY a)];simp only[m9 (dY a),bw];by_cases ad:b=36
  ·subst ad;by_cases d:c=40
   ·grind[fJ]
   by_cases e:c=123
   ·grind[fJ]
   simp_all[fJ]
  simp_all[fJ]
theorem aj4:∀(r w:aa),c5 r=(w,false)->w=[]
 |[],w,h=>by grind[c5]
 |b::t,w,h=>by grind[c5]
def E6(S:aa)(j:Int->Option (aa×Bool))(r:aa):aa×Bool->Option (aa×Bool)
 |(w,true)=>j (ax S (r.drop w.length))
 |(_,false)=>some ([],false)
theorem aj5{S:aa}(dg:S.length<=1000000)(j:Int->Option (aa×Bool)):∀(n:Nat)(r:aa),r.length<n->r<:+S->fixF (DN S j) n (ax S r)=E6 S j r (c5 r):=by
 intro n;induction n with
 |zero=>omega
 |succ n d=>
  intro r aw a;rw[e7];generalize fixF (DN S j) n=k at d;unfold DN;rw[RY dg a,aQ rfl];cases r with
  |nil=>rfl
  |cons b t=>
   unfold c5;by_cases e:cT (b::t)=true
   ·rw[e,bh rfl];rfl
   ·have f:cT (b::t)=false:=by grind
    rw[f,aO (by simp)];simp only[e2,aJ];rw[bS (hX a),Yi dg a,fX,jz a,iP dg a];simp only[mI,q2,nV,nU];by_cases g:b=92
    ·grind[E6]
    by_cases h:b=39
    ·grind[E6]
    by_cases i:b=34
    ·grind[E6]
    by_cases l:b=96
    ·grind[E6]
    by_cases m:fJ (b::t)=true
    ·grind[E6]
    ·simp only[g,h,i,l,bF,aU,cE,m,cn,or_self];rw[d t (by grind) (dY a)];cases aB:c5 t with
     |mk w c=>cases c<;>rfl
theorem aj6{S r:aa}(dg:S.length<=1000000)(a:r<:+S):G0 S (ax S r)=some (c5 r):=by
 unfold G0 a8;show fixF (DN S _) bC (ax S r)=_;rw[aj5 dg _ _ r (lI (Nat.le_trans (eG a) dg)) a];cases aB:c5 r with
 |mk w c=>
  cases c with
  |false=>rw[aj4 _ _ aB];rfl
  |true=>have b:=(ER _ _ aB).1;obtain⟨q,rfl⟩:=b;have d:q<:+S:=(List.suffix_append w q).trans a;show aZ _ _=_;rw[List.drop_left,bS (by grind[eG,List.length_append,ax]),Iy a (gS w q)];simp
def jk:Tok->Int×aa×Bool
 | .eof=>(0,[],false)
 | .line=>(1,[],false)
 | .op o=>(2,o,false)
 | .word w p=>(3,w,p)
theorem Yj{e:cH}{x r:aa}{pd:ao}(h:dQ e r pd):aV e r (bM x r pd) (λt r pd=>(jk t,e.st r pd)) (lY (e.st r pd)):=by
 have c:=aj3 h;unfold Ix at c;unfold lY;cases hk:bp r with
 |none=>rw[hk] at c;obtain⟨st,ad,i⟩:=c;rw[iG hk,ad];exact⟨st,rfl,by grind⟩
 |some r'=>
  rw[hk] at c;rw[ch hk,c];have d:=dT hk;have a:=h.mono d;refine⟨d,a,?_⟩;unfold a_;simp only[cH.st];cases r' with
  |nil=>simp[ir,ar,jk]
  |cons b t=>
   have bc:¬ax e.S (b::t)=(e.S.length:Int):=by simp[yC]
   simp only[bc,bF,aU];refine(bS (hX a.sfx)).trans ?_;simp only[jz a.sfx,pF];unfold ar;by_cases f:b=10
   ·grind[jk]
   ·simp only[f,bF,aU,cn];rw[RX a.bZ a.sfx,aQ rfl];by_cases g:bs (b::t)=[]
    ·simp only[g,bw,g9,aU,ne_eq,not_true,cn];rw[aj6 a.bZ a.sfx,aQ rfl];rfl
    grind[jk]
theorem eZ{σ τ α β:Type}{m:Option (bn σ α)}{f:σ->τ}{k:α->Option (bn τ β)}{y:α}(h:m=some (.inr y)):a_ m f k=k y:=by rw[h];rfl
theorem hI{σ τ α β:Type}{m:Option (bn σ α)}{f:σ->τ}{k:α->Option (bn τ β)}{c p:Int}{s:σ}(h:m=some (.inl (c,p,s))):a_ m f k=some (.inl (c,p,f s)):=by rw[h];rfl
theorem yD{σ τ α β:Type}{g:Prop}[Decidable g]{m:Option (bn σ α)}{f:σ->τ}{d:α}{k:α->Option (bn τ β)}(h:g):nc g m f d k=a_ m f k:=bh h
theorem Yk{σ τ α β:Type}{g:Prop}[Decidable g]{m:Option (bn σ α)}{f:σ->τ}{d:α}{k:α->Option (bn τ β)}(h:¬g):nc g m f d k=k d:=aO h
def w6{β:Type}(e:cH)(y:Option (bn an β)):Prop:=∃st:an,y=some (.inl (1,e.S.length,st))/\st.2.2.2.2.1=e.op
theorem w6.bind{β a:Type}{e:cH}{y:Option (bn an β)}{f:an->an}{k:β->Option (bn an a)}(h:w6 e y)(hf:∀st,(f st).2.2.2.2.1=st.2.2.2.2.1\/(f st).2.2.2.2.1=e.op):w6 e (a_ y f k):=by obtain⟨st,ad,b⟩:=h;refine⟨f st,hI ad,?_⟩;grind
theorem w6.more{β:Type}{e:cH}{st:an}{f:an->an}{k:Empty->Option (bn an β)}(ad:st.1=e.S)(a:(f st).2.2.2.2.1=e.op):w6 e (a_ (rj st) f k):=
 ⟨f st,by grind[rj,a_],a⟩
theorem w6.rG{α β:Type}{e:cH}{r0:aa}{cv:α->aa->ao->β}{nd:aa}{ds:ao}{y:Option (bn an β)}(h:w6 e y):aV e r0 (.more [] nd ds) cv y:=by obtain⟨st,ad,a⟩:=h;exact⟨st,ad,by grind⟩
structure oi{β:Type}(e:cH)(f:Tok->β)(F:an->Option (bn an (β×an))):Prop where
 some:∀{r r' pd},dQ e r pd->bp r=some r'->F (e.st r pd)= .some (.inr (f (ar r'),e.st r' pd))
 none:∀{r pd},dQ e r pd->bp r=none->w6 e (F (e.st r pd))
theorem kT(e:cH):oi e jk lY:=by
 constructor
 ·intro r r' pd h a;have:=Yj (x:=[]) h;rw[ch a] at this;exact this.2.2
 ·intro r pd h a;have:=Yj (x:=[]) h;rw[iG a] at this;obtain⟨st,ad,b⟩:=this;exact⟨st,ad,by grind⟩
theorem q4(e:cH)(w:aa):oi e (λt=>cA t w) (λx=>pe x w):=by
 constructor
 ·intro r r' pd h a;refine(eZ ((kT e).some h a)).trans ?_;cases ar r' with
  |word t p=>cases p<;>by_cases b:t=w<;>simp[jk,cA,b]<;>rfl
  |_=>rfl
 ·intro r pd h a;exact((kT e).none h a).bind λ_=> .inl rfl
theorem rH(e:cH)(w:aa):oi e (λt=>t== .op w) (λx=>nh x w):=by
 constructor
 ·intro r r' pd h a;refine(eZ ((kT e).some h a)).trans ?_;cases ar r' with
  |op t=>by_cases b:t=w<;>simp[jk,b]<;>rfl
  |_=>rfl
 ·intro r pd h a;exact((kT e).none h a).bind λ_=> .inl rfl
def Cx:Ctx->Int
 | .text=>0| .paren=>1| .qU=>2| .rB=>3| .qc=>4| .kj=>5| .pB=>6| .done=>7| .item=>8
theorem oi.or{e:cH}{f g:Tok->Bool}{F G:an->Option (bn an (Bool×an))}(hf:oi e f F)(bq:oi e g G):
  oi e (λt=>f t||g t) (λx0=>a_ (F x0) (λx=>x) λy=>nc (y.1=false) (G (y.2.1,y.2.2.1,x0.2.2.1,y.2.2.2.2.1,x0.2.2.2.2.1,y.2.2.2.2.2.2)) (λx=>x) (false,(y.2.1,y.2.2.1,x0.2.2.1,y.2.2.2.2.1,x0.2.2.2.2.1,y.2.2.2.2.2.2)) λz=>
   Option.some (.inr ((bif y.1 then true else z.1),(z.2.1,z.2.2.1,x0.2.2.1,z.2.2.2.2.1,x0.2.2.2.2.1,z.2.2.2.2.2.2)))):=by
 constructor
 ·intro r r' pd h a;refine(eZ (hf.some h a)).trans ?_;cases b:f (ar r') with
  |true=>rfl
  |false=>refine(yD rfl).trans ((eZ (bq.some (h.mono (dT a)) (kR _ _ _ (cV _) a))).trans ?_);rfl
 ·intro r pd h a;exact(hf.none h a).bind λ_=> .inl rfl
theorem oi.ret{β:Type}{e:cH}{f:Tok->β}{F:an->Option (bn an (β×an))}(hf:oi e f F):oi e f (λx0=>a_ (F x0) (λx=>x) λy=>Option.some (.inr (y.1,(y.2.1,y.2.2.1,x0.2.2.1,y.2.2.2.2.1,x0.2.2.2.2.1,y.2.2.2.2.2.2)))):=by
 constructor
 ·intro r r' pd h a;exact(eZ (hf.some h a)).trans rfl
 ·intro r pd h a;exact(hf.none h a).bind λ_=> .inl rfl
theorem aj7(e:cH):oi e (λt=>t== .eof) (λx0=>a_ (lY x0) (λx=>x) λy=>some (.inr (decide (y.1.1=0),(y.2.1,y.2.2.1,x0.2.2.1,y.2.2.2.2.1,x0.2.2.2.2.1,y.2.2.2.2.2.2)))):=by
 constructor
 ·intro r r' pd h a;refine(eZ ((kT e).some h a)).trans ?_;cases ar r'<;>simp[jk]<;>rfl
 ·intro r pd h a;exact((kT e).none h a).bind λ_=> .inl rfl
theorem oi.aj8{e:cH}{f g i:Tok->Bool}{F G I:an->Option (bn an (Bool×an))}(hf:oi e f F)(bq:oi e g G)(bf:oi e i I):
  oi e (λt=>f t||g t||i t) (λx0=>a_ (F x0) (λx=>x) λy=>nc (y.1=false) (G (y.2.1,y.2.2.1,x0.2.2.1,y.2.2.2.2.1,x0.2.2.2.2.1,y.2.2.2.2.2.2)) (λx=>x) (false,(y.2.1,y.2.2.1,x0.2.2.1,y.2.2.2.2.1,x0.2.2.2.2.1,y.2.2.2.2.2.2)) λz=>
   nc ((bif y.1 then true else z.1)=false) (I (z.2.1,z.2.2.1,x0.2.2.1,z.2.2.2.2.1,x0.2.2.2.2.1,z.2.2.2.2.2.2)) (λx=>x) (false,(z.2.1,z.2.2.1,x0.2.2.1,z.2.2.2.2.1,x0.2.2.2.2.1,z.2.2.2.2.2.2)) λw=>
   Option.some (.inr ((bif(bif y.1 then true else z.1) then true else w.1),(w.2.1,w.2.2.1,x0.2.2.1,w.2.2.2.2.1,x0.2.2.2.2.1,w.2.2.2.2.2.2)))):=by
 constructor
 ·intro r r' pd h a;have b:=kR _ _ _ (cV _) a;have c:=h.mono (dT a);refine(eZ (hf.some h a)).trans ?_;cases d:f (ar r') with
  |true=>rfl
  |false=>
   refine(yD rfl).trans ((eZ (bq.some c b)).trans ?_);cases j:g (ar r') with
   |true=>rfl
   |false=>refine(yD rfl).trans ((eZ (bf.some c b)).trans ?_);rfl
 ·intro r pd h a;exact(hf.none h a).bind λ_=> .inl rfl
theorem R0(e:cH)(c:Ctx):oi e (dG c) (λx=>DQ x (Cx c)):=by
 cases c with
 |text=>exact aj7 e
 |paren=>exact(rH e _).ret
 |qU=>exact(q4 e _).ret
 |rB=>exact(q4 e _).ret
 |kj=>exact(q4 e _).ret
 |pB=>exact(q4 e _).ret
 |done=>exact(q4 e _).ret
 |item=>exact(rH e _).or (q4 e _)
 |qc=>exact(q4 e _).aj8 (q4 e _) (q4 e _)
theorem tn{e:cH}{r r':aa}{pd:ao}(h:dQ e r pd)(a:bp r=some r'):
  (ar r'= .eof->w6 e (kC (e.st r pd)))/\(ar r'≠ .eof->kC (e.st r pd)=some (.inl (2,ax e.S r',e.st r' pd))):=by
 constructor
 ·intro b;have:kC (e.st r pd)=a_ (rj (e.st r' pd)) (λx=>x) λy=>Empty.elim y:=by unfold kC a8;refine(eZ ((kT e).some h a)).trans ?_;rw[b];rfl
  rw[this];exact w6.more rfl rfl
 ·intro b;unfold kC a8;refine(eZ ((kT e).some h a)).trans ?_;cases hk:ar r' with
  |eof=>grind
  |_=>rfl
theorem Yl{e:cH}{r:aa}{pd:ao}{w:aa}{t:Tok->Bool}{F:an->Option (bn an (Bool×an))}(c:oi e t F)(f:∀{r:aa},t (ar r)=true->ar r≠ .eof/\w<+:r)(h:dQ e r pd):
  aV e r (mB t w.length r pd) (λ_=>e.st) (a_ (F (e.st r pd)) (λx=>x) λy=>bif !y.1 then a_ (kC (y.2.1,y.2.2.1,pd,y.2.2.2.2.1,e.op,y.2.2.2.2.2.2)) (λx=>x) (λy=>Empty.elim y) else some (.inr (y.2.1,W (y.2.2.1+(w.length:Int)),pd,y.2.2.2.2.1,e.op,y.2.2.2.2.2.2))):=by
 unfold mB;cases a:bp r with
 |none=>rw[de (iG a)];exact((c.none h a).bind λ_=> .inl rfl).rG
 |some r'=>
  rw[aM (ch a),eZ (c.some h a)];have g:=dT a;have b:=h.mono g;have d:=kR _ _ _ (cV _) a;cases hk:t (ar r') with
  |true=>obtain⟨ad,q,rfl⟩:=f hk;rw[aO ad,bh rfl];refine⟨by grind[List.drop_left,List.suffix_append,trans],by rw[o0];exact b.mono (gS w q),?_⟩;rw[o0];show some (Sum.inr (e.S,W (ax e.S (w++q)+(w.length:Int)),pd,e.ne,e.op,e.j6))=_;rw[ks h.bZ b.sfx];rfl
  |false=>
   simp only[e2,aJ];by_cases he:ar r'= .eof
   ·rw[bh he];exact(((tn b d).1 he).bind λ_=> .inl rfl).rG
   ·rw[aO he,aO (by simp)];exact⟨b.sfx,_,hI ((tn b d).2 he)⟩
theorem Iz{e:cH}{r:aa}{pd:ao}(w:aa)(h:dQ e r pd):aV e r (cW w r pd) (λ_=>e.st) (ni (e.st r pd) w):=by refine Yl (q4 e w) (λ{r} hk=>?_) h;grind[ar,cA,qj]
theorem L7{e:cH}{r:aa}{pd:ao}(o:aa)(h:dQ e r pd):aV e r (ji o r pd) (λ_=>e.st) (r9 (e.st r pd) o):=by
 refine Yl (rH e o) (λ{r} hk=>?_) h;have:ar r= .op o:=by grind
 simp_all[il]
theorem R1:∀r:aa,(Lib.indexByte r 10= -1/\(iN r).1=r/\(iN r).2=[])\/(Lib.indexByte r 10=((iN r).1.length:Int)/\r=(iN r).1++10::(iN r).2)
 |[]=> .inl ⟨rfl,rfl,rfl⟩
 |b::t=>by have:=R1 t;unfold iN Lib.indexByte;grind
theorem L8{r S:aa}(h:r<:+S):cg S (ax S r) S.length=r:=by rw[<-ir S,Iy h ov];simp
theorem aj9{S d:aa}{tabs:Bool}{j:Unit->Option Int}(dg:S.length<=1000000):∀(n:Nat)(r:aa),r.length<n->r<:+S->
  fixF (rm S d tabs j) n (ax S r)=match nq d tabs r with|some q=>some (ax S q)|none=>j ():=by
 intro n;induction n with
 |zero=>omega
 |succ n f=>
  intro r aw a;rw[e7];generalize fixF (rm S d tabs j) n=k at f;unfold rm a8;cases r with
  |nil=>simp[ir,nq]
  |cons b t=>
   have u:=eG a;simp only[m9 a,bw,aJ];rw[bS (by have:=hX a;omega),L8 a];have i:∀(l q:aa),q<:+S->q.length<(b::t).length->(iN (b::t)).1=l->(iN (b::t)).2=q->
     (bif tabs then au (Bs l [9]) λm=>bif decide (m=d) then some (ax S q) else k (ax S q) else bif decide (l=d) then some (ax S q) else k (ax S q))=
     match nq d tabs (b::t) with|some q=>some (ax S q)|none=>j ():=by
    intro l q g hl ad e;rw[Cn,ad,e];have bf:=f q (by omega) g;have v:l.length<=(b::t).length:=by
     rcases R1 (b::t) with⟨_,h,_⟩|⟨_,h⟩
     ·grind
     grind
    cases tabs with
    |true=>rw[X9 l (by omega)];simp only[aJ,cE];rw[aQ rfl];grind
    |false=>grind
   show au (some (Lib.indexByte (b::t) 10)) _=_;rw[aQ rfl];rcases R1 (b::t) with⟨ad,e,h⟩|⟨ad,e⟩
   ·grind[ir]
   ·have c:=mq List.length e;simp only[C8,mo] at c;have o:decide ((0:Int)<=Lib.indexByte (b::t) 10)=true:=by grind
    have g:(iN (b::t)).2<:+S:=((eb 10 _).trans (by grind)).trans a
    have p:cg (b::t) 0 (Lib.indexByte (b::t) 10)=(iN (b::t)).1:=by grind[iN,cg]
    have w:(b::t).length=t.length+1:=rfl;have s:W (W (ax S (b::t)+Lib.indexByte (b::t) 10)+1)=ax S (iN (b::t)).2:=by grind[ax,dV]
    rw[o];simp only[aJ];rw[bS (by omega),p,s];grind
theorem Yn{S d:aa}{tabs:Bool}{r:aa}(dg:S.length<=1000000)(a:r<:+S):Bt S (ax S r) d tabs=some (match nq d tabs r with|some q=>ax S q|none=> -1):=by
 unfold Bt wE;have ad:max (0:Int) (min (ax S r) S.length)=ax S r:=by grind[oQ,eG,ax]
 rw[aQ rfl,ad];unfold a8;show fixF (rm S d tabs _) bC (ax S r)=_;grind[aj9,lI,Nat.le_trans,eG,nq]
def L_{β:Type}(e:cH)(op:bt)(y:Option (bn an β)):Prop:=∃st:an,y=some (.inl (1,e.S.length,st))/\st.2.2.2.2.1=e.op++op
theorem Ma{β:Type}{e:cH}{st:an}{x:aa}{f:an->an}{k:Empty->Option (bn an β)}(ad:st.1=e.S)(a:st.2.2.2.2.1=e.op)(b:e.op.length<=2000000)(hf:∀s,(f s).2.2.2.2.1=s.2.2.2.2.1):L_ e [x] (a_ (wH st x) f k):=by
 unfold wH;rw[bS (by grind)];refine⟨f (st.1,st.2.1,st.2.2.1,st.2.2.2.1,st.2.2.2.2.1++[x],st.2.2.2.2.2),?_,?_⟩
 ·grind[rj,a_]
 grind
theorem aj_{e:cH}{pd:ao}{x0 y23:an}{j:Int->Option (bn an (Bool×an))}(dg:e.S.length<=1000000)(f:e.op.length<=2000000)(o:pd.length<=1000000)(g:x0.2.2.2.2.1=e.op)(h:y23.1=e.S):∀(n i:Nat)(q:aa),pd.length-i<n->i<=pd.length->q<:+e.S->
  match l3 (pd.drop i) q with
  | .inl r'=>fixF (Bu x0 pd y23 j) n ((i:Int),ax e.S q)=j (ax e.S r')
  | .inr _=>L_ e [[60,60]] (fixF (Bu x0 pd y23 j) n ((i:Int),ax e.S q)):=by
 intro n;induction n with
 |zero=>omega
 |succ n l=>
  intro i q aw bf d;rw[e7];generalize fixF (Bu x0 pd y23 j) n=k at l;unfold Bu a8;simp only[h,g];by_cases p:i<pd.length
  ·have a:(i:Int)<(pd.length:Int):=by omega
   have b:pd.drop i=at' pd (i:Int)::pd.drop (i+1):=by grind[List.drop_eq_getElem_cons,at',List.getElem?_eq_getElem]
   rw[b];simp only[a,bw,aJ];rw[bS (show 0<=(i:Int)/\True from⟨by omega,trivial⟩),Yn dg d,aQ rfl,dV (x:=(i:Int)+1) (by omega) (by omega)];unfold l3;cases m:nq (at' pd (i:Int)).1 (at' pd (i:Int)).2 q with
   |none=>simp only[show((-1:Int)<0) from by decide,bw,aJ];exact Ma rfl rfl f λ_=>rfl
   |some c=>
    have r:c<:+e.S:=((Ri _ _ _ q [] c (cV _) m).1).trans d;have h0:¬ax e.S c<0:=by grind[eG,ax]
    grind
  ·have a:¬(i:Int)<(pd.length:Int):=by omega
   have b:pd.drop i=[]:=wb (by omega);rw[b];simp only[a,bF,aU];rfl
theorem dQ.w7{e:cH}{r:aa}{pd:ao}(h:dQ e r pd):e.op.length<=2000000:=by have:=h.ops;have:=h.bZ;omega
theorem dQ.R3{e:cH}{r:aa}{pd:ao}(h:dQ e r pd):pd.length<=1000000:=by have:=h.jM;have:=h.bZ;omega
theorem Yo{e:cH}{r:aa}{pd:ao}(h:dQ e r pd):aV e r (cS r pd) (λb r pd=>(b,e.st r pd)) (k6 (e.st r pd)):=by
 unfold k6 a8;rw[qk];refine aV.rep (en:=λb r pd=>(b,e.S,ax e.S r,pd,e.ne,e.j6)) (λk b r1 a ad hk=>?_) bC false r pd (lI (lK (eG h.sfx) h.bZ)) h;unfold PA a8;cases d:bp r1 with
 |none=>have:gE b r1 a= .more [] (cQ [] a []).1 (cQ [] a []).2:=de (iG d);rw[this];exact(((kT e).none ad d).bind λ_=> .inr rfl).rG
 |some o=>
  have l:=dT d;have c:=ad.mono l;refine cast (mq _ (eZ ((kT e).some ad d)).symm) ?_;by_cases m:ar o= .line
  ·obtain⟨t,rfl⟩:=vJ m;rw[tk d,m];have p:t<:+e.S:=dY c.sfx;have g:=aj_ (e:=e) (pd:=a) (x0:=e.st r pd) (y23:=e.st (10::t) a) (j:=λn=>k (true,e.S,n,[],e.ne,e.j6)) h.bZ c.w7 c.R3 rfl rfl bC 0 t (lI (by have:=c.R3;omega)) (by omega) p;have u:W (ax e.S (10::t)+1)=ax e.S t:=iP c.bZ c.sfx;simp only[xy] at g
   have v:∀y,y=fixF (Bu (e.st r pd) a (e.st (10::t) a) λn=>k (true,e.S,n,[],e.ne,e.j6)) bC ((0:Nat),ax e.S t)->aV e r1 (cK gE r1 (ae iV (λ_=>aX (.inl true)) (10::t) a)) (λb r pd=>(b,e.st r pd)) y:=by
    rintro y rfl;cases i:l3 a t with
    |inr nd=>
     rw[i] at g;have:ae iV (λ_=>aX (.inl true)) (10::t) a=(.more [[60,60]] nd []:dD (Bool⊕Bool)):=by grind[ae,ti]
     rw[this];exact g
    |inl f=>
     rw[i] at g;have w:ae iV (λ_=>aX (.inl true)) (10::t) a=(.ok (.inl true) f []:dD (Bool⊕Bool)):=by unfold ae;rw[ti,i];rfl
     rw[w];have x:fixF _ _ _=_:=g;rw[x];have q:f<:+t:=(vE _ _ [] _ i).1;have z:f<:+r1:=q.trans ((eb 10 t).trans l);have s:f.length<r1.length:=by grind
     have A:dQ e f []:=⟨c.bZ,q.trans p,by grind,by have:=ad.ops;omega⟩;exact aV.inl s (hk true f [] z A s)
   refine v _ ?_;rw[<-u];rfl
  ·rw[qZ d m];refine⟨l,c,?_⟩;cases B:ar o with
   |line=>grind
   |_=>rfl
theorem aka(w:aa):G9 w=some (qb w):=by
 unfold G9;have e0:rF 32 [105,102,32,119,104,105,108,101,32,117,110,116,105,108,32,102,111,114,32,99,97,115,101,32,123]=([mh,uA,H_,nr,pA,[123]]:bt):=by decide
 rw[aQ (RJ w _ (by decide) (by simp_all)),e0];rfl
theorem akb(w:aa):Hs w=some (rA w):=by unfold Hs;rw[aQ (RJ w _ (by decide) (by decide))];rfl
theorem akc(w:aa):D6 w=some (eV w):=by unfold D6;rw[aQ (RJ w _ (by decide) (by decide))];rfl
theorem Yp(e:cH):oi e hv DR:=by
 constructor
 ·intro r r' pd h a;refine(eZ ((kT e).some h a)).trans ?_;simp only[aka,fX];cases ar r' with
  |word t p=>cases p<;>simp[jk,hv,cH.st]
  |op o=>grind[jk,hv,cH.st]
  |_=>rfl
 ·intro r pd h a;exact((kT e).none h a).bind λ_=> .inl rfl
def cH.fj(e:cH)(x:aa):cH:=⟨e.S,e.ne+1,e.op++[x],e.j6⟩
theorem Mb{e:cH}{r:aa}{pd:ao}{p:Int}{x:aa}(h:dQ e r pd)(ad:0<=e.ne)(b:e.ne<30):x4 (e.st r pd) p x=some (.inr ((e.fj x).st r pd)):=by
 unfold x4 a8;have:¬(e.st r pd).2.2.2.1=30:=by show¬e.ne=30;omega
 simp only[this,bF,aU];have c:=h.w7;refine(bS (show(e.st r pd).2.2.2.2.1.length+_<=536870912 by show e.op.length+1<=_;omega)).trans ?_;have a:W (e.ne+1)=e.ne+1:=dV (by omega) (by omega);show some (Sum.inr (e.S,ax e.S r,pd,W (e.ne+1),e.op++[x],e.j6))=_;rw[a];rfl
theorem Mc{e:cH}{r:aa}{pd:ao}{x:aa}(c:e.op.length<=2000000)(ad:0<=e.ne)(d:e.ne<30):uc ((e.fj x).st r pd)=some (e.st r pd):=by
 unfold uc;have hl:((e.fj x).st r pd).2.2.2.2.1=e.op++[x]:=rfl;have aw:((e.fj x).st r pd).2.2.2.1=e.ne+1:=rfl;have a:W (((e.op++[x]).length:Int)-1)=e.op.length:=by grind[dV,List.length_append,List.length_singleton]
 have b:W (e.ne+1-1)=e.ne:=by grind[dV]
 simp only[hl,aw,a,b];rw[bS (by grind)];have:cg (e.op++[x]) 0 (e.op.length:Int)=e.op:=by simp[cg]
 rw[this];rfl
theorem aV.named{α β:Type}{e:cH}{r0 r:aa}{pd:ao}{m:ak α}{x:aa}{cv:α->aa->ao->β}{y:Option (bn an β)}(h:aV (e.fj x) r0 (m r pd) cv y):match(m.named x) r pd with
  | .ok a r pd=>r<:+r0/\dQ (e.fj x) r pd/\y=some (.inr (cv a r pd))
  | .more op _ _=>L_ e op y
  | .bad r=>r<:+e.S/\∃st,y=some (.inl (2,ax e.S r,st))
  | .deep _=>True:=by
 unfold ak.named;cases hm:m r pd with
 |ok a r1 b=>rw[hm] at h;exact h
 |more op nd ds=>rw[hm] at h;obtain⟨st,ad,c⟩:=h;exact⟨st,ad,by grind[cH.fj]⟩
 |bad q=>rw[hm] at h;exact h
 |deep q=>trivial
theorem IB{S r:aa}(a:r<:+S):wE (ax S r) S.length=some (ax S r):=by unfold wE;grind[max,min,ax,oQ,eG]
def kU(S:aa):Option aa->Int
 |some q=>ax S q
 |none=> -1
theorem akd{S:aa}(dg:S.length<=1000000):∀(n:Nat)(r:aa),r.length<n->r<:+S->fixF (wM S λ_=>some (-1)) n (ax S r)=some (kU S (gZ r)):=by
 intro n;induction n with
 |zero=>omega
 |succ n e=>
  intro r aw a;rw[e7];cases r with
  |nil=>simp[wM,ir,gZ,kU]
  |cons b t=>
   have i:=eG a;have g:t.length<n:=by grind
   have f:=e t g (dY a);cases t with
   |nil=>
    obtain⟨m,rfl⟩:∃m,n=m+1:=⟨n-1,by omega⟩
    have h:fixF (wM S λ_=>some (-1)) (m+1) (W (ax S []+1))=some (-1):=by
     rw[e7];unfold wM;have:¬W (ax S []+1)<(S.length:Int):=by grind[ir,dV]
     grind
    generalize fixF (wM S _) (m+1)=k at f h;unfold wM a8;simp only[m9 a,bw,aJ];rw[bS ⟨(hX a).1,trivial⟩,jz a,iP dg a];grind[mI,nU,gZ,kU]
   |cons c u=>have d:=e u (by grind) (dY (dY a));generalize fixF (wM S _) n=k at f d;unfold wM a8;simp only[m9 a,bw,aJ];rw[bS ⟨(hX a).1,trivial⟩,jz a,iP dg a,iP dg (dY a)];grind[mI,nU,gZ,kU]
theorem akf{S r:aa}(dg:S.length<=1000000)(a:r<:+S):BD S (ax S r)=some (kU S (gZ r)):=by unfold BD;rw[IB a,aQ rfl];grind[a8,akd,lI,Nat.le_trans,eG]
theorem Yq:∀r:aa,(Lib.indexByte r 39= -1/\gd r=none)\/∃q,gd r=some q/\q<:+r/\Lib.indexByte r 39=(r.length:Int)-q.length-1
 |[]=> .inl ⟨rfl,rfl⟩
 |b::t=>by
  unfold gd Lib.indexByte;by_cases a:b=39
  ·subst a;exact .inr ⟨t,by simp,eb 39 t,by simp;omega⟩
  ·rcases Yq t with⟨ad,c⟩|⟨q,ad,c,d⟩
   ·left;simp[a,ad,c]
   ·right;refine⟨q,by simp[a,ad],c.trans (eb b t),?_⟩;have e:=yw t q ad;have:¬Lib.indexByte t 39= -1:=by rw[d];omega
    simp[a,this,d];omega
theorem Yr{S r:aa}(dg:S.length<=1000000)(a:r<:+S):vp S (ax S r)=some (kU S (gd r)):=by
 unfold vp;have hl:=eG a;have aB:ax S r=(S.length:Int)-r.length:=rfl;rw[IB a,aQ rfl,bS (by omega),L8 a];show au (some (Lib.indexByte r 39)) _=_;rw[aQ rfl];rcases Yq r with⟨ad,b⟩|⟨q,ad,b,c⟩
 ·rw[ad,b];rfl
 ·have d:=yw r q ad;rw[ad,c];have h0:¬((r.length:Int)-q.length-1<0):=by omega
  simp only[h0,bF,aU];rw[dV (x:=ax S r+_) (by omega) (by omega),dV (by omega) (by omega)];unfold kU;simp only;congr 1;have:ax S q=(S.length:Int)-q.length:=rfl;omega
def qp(S:aa):Xh->Int×Int
 | .ok r=>(ax S r,0)
 | .more n=>(-1,n)
 | .bad r=>(-2,ax S r)
theorem sx(b:UInt8)(t:aa):fJ (b::t)=(decide (b=36)&&match t with|[]=>false|c::_=>decide (c=40)||decide (c=123)):=by
 cases t with
 |nil=>simp[fJ]
 |cons c u=>
  by_cases ad:b=36
  ·subst ad;by_cases a:c=40
   ·subst a;rfl
   ·by_cases d:c=123
    ·subst d;rfl
    simp_all[fJ]
  simp_all[fJ]
theorem akg{S:aa}(dg:S.length<=1000000):∀(n:Nat)(d:Nat)(r:aa),r.length<n->r<:+S->d+r.length<=1000000->fixF (Bz S λl=>some ((-1),(W (l+2)))) n ((d:Int),ax S r)=some (qp S (hR d r)):=by
 intro n;induction n with
 |zero=>omega
 |succ n f=>
  intro d r aw a aG;rw[e7];generalize fixF (Bz S _) n=k at f;unfold Bz a8;cases r with
  |nil=>simp only[ir,Int.lt_irrefl,bF,aU];grind[dV,hR,qp]
  |cons b t=>
   have y:=eG a;have m:t.length<n:=by grind
   have z:(b::t).length=t.length+1:=rfl;simp only[m9 a,bw,aJ];rw[bS ⟨(hX a).1,trivial⟩];have o:=iP dg a;simp only[jz a,o,Cv,Yf,q2,nV,mI,nU,qo];have A:=λd h=>f d t m (dY a) h;unfold hR;rw[sx];by_cases e:b=40
   ·subst e;have g:W ((d:Int)+1)=((d+1:Nat):Int):=by grind[dV]
    grind
   by_cases i:b=41
   ·subst i;simp only[e,bF,bw,aJ,aU];cases d with
    |succ j=>
     have g:W (((j+1:Nat):Int)-1)=(j:Int):=by grind[dV]
     grind
    |zero=>
     simp only[show¬((0:Int)<((0:Nat):Int)) by decide,bF,aU];cases t with
     |nil=>simp[ir,qp]
     |cons c u=>
      have bc:¬ax S (c::u)=(S.length:Int):=by simp[yC]
      simp only[bc,bF,aU];rw[bS (hX (dY a))];simp only[jz (dY a),Yf];have g:W (ax S (41::c::u)+2)=ax S u:=ks (w:=[41,c]) dg a;grind[qp]
   simp only[e,i,bF,aU,cn];by_cases p:b=39
   ·grind[qp]
   by_cases q:b=34
   ·grind[qp]
   by_cases s:b=92
   ·grind[qp]
   by_cases v:b=96
   ·grind[qp]
   simp only[p,q,s,v,bF,aU,false_or];by_cases x:b=36
   ·subst x;simp only[bw,aJ,Nz];cases t with
    |nil=>simp only[ir,Int.lt_irrefl,bF,aU];grind[bS,ir]
    |cons c u=>rw[bS (λ_=>hX (dY a)),bS (λ_ _=>hX (dY a))];simp only[m9 (dY a),bw,aJ,jz (dY a),Cv,Cw];grind[qp]
   grind
theorem Ys{S r:aa}(dg:S.length<=1000000)(a:r<:+S):BA S (ax S r)=some (qp S (hR 0 r)):=by unfold BA;rw[IB a,aQ rfl];unfold a8;exact akg dg _ 0 r (lI (lK (eG a) dg)) a (by grind)
def qq{α β:Type}(e:cH)(m:ak α)(cv:α->aa->ao->β)(F:an->Option (bn an β)):Prop:=∀r pd,dQ e r pd->aV e r (m r pd) cv (F (e.st r pd))
def a7(fr:Bool):Nat->ak Unit
 |0=>dd none
 |n+1=>dd (some (aR fr n))
theorem w8(fr:Bool)(n:Nat):(aR fr n).dl=a7 fr n:=by cases n<;>rfl
structure Cy(R:bg)(n:Nat):Prop where
 im:∀e:cH,e.ne=30- (n:Int)->qq e (iO 34 (cw (a7 false n) none)) (λ_=>e.st) (λx=>R.xW x 34 false)
structure Md(R:bg)(n:Nat):Prop where
 im:∀e:cH,e.ne=30- (n:Int)->qq e (iO 125 (cw (a7 false n) (some (ey (a7 false n))))) (λ_=>e.st) (λx=>R.xW x 125 true)
structure w9(R:bg)(n:Nat):Prop where
 im:∀(e:cH)(c:Ctx)(no:Bool),c≠ .text->e.ne=30- (n:Int)->qq e ((aR false n).ls c no) (λa r pd=>((a:Int),e.st r pd)) (λx=>R.kl x (Cx c) no)
theorem aV.aK{α β:Type}{e:cH}{r0 r:aa}{pd:ao}{m:ak α}{x:aa}{cv:α->aa->ao->β}{y:Option (bn an β)}(h:aV e r0 (m r pd) cv y):aV e r0 (m.aK x r pd) cv y:=by
 unfold ak.aK;cases hm:m r pd with
 |more op nd ds=>rw[hm] at h;exact h
 |ok a r1 b=>grind
 |bad q=>grind
 |deep q=>trivial
def cH.nm(e:cH)(x:aa):cH:=⟨e.S,e.ne,e.op++[x],e.j6⟩
theorem akh{R:bg}{n:Nat}(gL:Cy R n){e:cH}(bc:e.ne=30- (n:Int)){t:aa}{pd:ao}(h:dQ e (34::t) pd):aV e t (ey (a7 false n) t pd) (λ_=>e.st) (Hd R (e.st (34::t) pd)):=by
 unfold Hd;have l:=h.w7;refine cast (mq _ (bS (show(e.st (34::t) pd).2.2.2.2.1.length+_<=536870912 by show e.op.length+1<=_;omega)).symm) ?_
 have c:dQ (e.nm [34]) t pd:=⟨h.bZ,dY h.sfx,by have:=h.jM;simp only[mo] at this;show _<=e.S.length;omega,by have:=h.ops;simp only[mo] at this;show(e.op++[[34]]).length+_<=_;simp only[C8,NF];show _<=e.S.length+1;omega⟩
 have hu:=gL.im (e.nm [34]) bc t pd c;have d:W (ax e.S (34::t)+1)=ax e.S t:=iP h.bZ h.sfx;have f:((e.st (34::t) pd).1,(W ((e.st (34::t) pd).2.1+1)),(e.st (34::t) pd).2.2.1,(e.st (34::t) pd).2.2.2.1,((e.st (34::t) pd).2.2.2.2.1++([([34]:aa)]:bt)),(e.st (34::t) pd).2.2.2.2.2)=(e.nm [34]).st t pd:=by show(e.S,W (ax e.S (34::t)+1),pd,e.ne,e.op++[[34]],e.j6)=_;rw[d];rfl
 rw[f];unfold ey ak.named ak.aK;cases hm:iO 34 (cw (a7 false n) none) t pd with
 |ok a r1 g=>
  rw[hm] at hu;obtain⟨ad,b,i⟩:=hu
  refine⟨ad,⟨h.bZ,b.sfx,b.jM,by have:=b.ops;have j:(e.nm [34]).op.length=e.op.length+1:=by simp[cH.nm]
                                rw[j] at this;have m:(e.nm [34]).S=e.S:=rfl;grind⟩,?_⟩
  rw[eZ i];have k:W (((e.op++[[34]]).length:Int)-1)=e.op.length:=by grind[dV,List.length_append,List.length_singleton]
  have hl:((e.nm [34]).st r1 g).2.2.2.2.1=e.op++[[34]]:=rfl;simp only[hl,k];refine(bS (by grind)).trans ?_;have:cg (e.op++[[34]]) 0 (e.op.length:Int)=e.op:=by simp[cg]
  rw[this];rfl
 |more op nd ds=>rw[hm] at hu;obtain⟨st,ad,b⟩:=hu;exact⟨st,hI ad,by grind[cH.nm]⟩
 |bad q=>rw[hm] at hu;obtain⟨ad,st,b⟩:=hu;exact⟨ad,st,hI b⟩
 |deep q=>trivial
def Me(e:cH)(b:UInt8)(t:aa)(pd:ao)(m:dD Unit)(y:Option (bn an (Bool×an))):Prop:=match m with
 | .ok _ r' a=>r'<:+t/\dQ e r' a/\(y=some (.inr (true,e.st r' a))\/(y=some (.inr (false,e.st (b::t) pd))/\r'=t/\a=pd))
 | .more op _ _=>L_ e op y
 | .bad r=>r<:+e.S/\∃st,y=some (.inl (2,ax e.S r,st))
 | .deep _=>True
theorem dQ.fj{e:cH}{r t:aa}{pd:ao}{x:aa}(h:dQ e r pd)(a:t<:+r)(hl:t.length<r.length):dQ (e.fj x) t pd:=
 ⟨h.bZ,a.trans h.sfx,by have:=h.jM;show _<=e.S.length;omega,by have:=h.ops;show(e.op++[x]).length+_<=e.S.length+1;grind⟩
theorem dQ.out{e:cH}{r:aa}{pd:ao}{x:aa}(h:dQ (e.fj x) r pd):dQ e r pd:=
 ⟨h.bZ,h.sfx,h.jM,by
  have:=h.ops;have a:(e.fj x).op.length=e.op.length+1:=by simp[cH.fj]
  have b:(e.fj x).S=e.S:=rfl;grind⟩
theorem aki{α β:Type}{R:bg}{e:cH}{r t:aa}{pd:ao}{x:aa}{p:Int}{m:ak α}{cv:α->aa->ao->β}{F:an->Option (bn an β)}{k:β->Option (bn an an)}{G:an->an}
  (ad:0<=e.ne) (f:e.ne<30) (h:dQ e r pd) (i:t<:+r) (hl:t.length<r.length) (g:G ((e.fj x).st r pd)=(e.fj x).st t pd)
  (hm:aV (e.fj x) t (m t pd) cv (F ((e.fj x).st t pd)))
  (hk:∀a r1 b,m t pd= .ok a r1 b->dQ (e.fj x) r1 b->k (cv a r1 b)=some (.inr (e.st r1 b))):
  aV e t (ae (m.named x) (λ_=>aX ()) t pd) (λ_=>e.st) (a_ (x4 (e.st r pd) p x) (λx=>x) λy=>a_ (F (G y)) (λx=>x) k):=by
 rw[eZ (Mb h ad f),g];have:=hm.named;unfold ae;cases aw:(m.named x) t pd with
 |ok a r1 b=>rw[aw] at this;obtain⟨c,d,j⟩:=this;have l:=th.1 aw;exact⟨c,d.out,by grind[eZ]⟩
 |more op nd ds=>rw[aw] at this;obtain⟨st,c,d⟩:=this;exact⟨st,hI c,d⟩
 |bad q=>rw[aw] at this;obtain⟨c,st,d⟩:=this;exact⟨c,st,hI d⟩
 |deep q=>trivial
theorem aV.dU{α β:Type}{e:cH}{r0:aa}{m:dD α}{cv:α->aa->ao->β}{y a:Option (bn an β)}(h:aV e r0 m cv y)(b:a=y):aV e r0 m cv a:=b▸h
theorem E9(m:ak Unit)(r:aa)(pd:ao):ae m (λ_=>aX ()) r pd=m r pd:=by unfold ae;cases m r pd<;>rfl
theorem Yt(fr:Bool)(n:Nat):(aR fr n).pm=qT (a7 fr n):=by cases n<;>rfl
end Go.Eng
