/- Part 3 of what FnPrefix needs. No condition. -/
import Derived.Test.YthnjiffnjaaejaaGreatDoorFnPrefixB
set_option linter.all false
namespace Go.Eng
open Go Go.Proofs
noncomputable section
theorem HY{x0:aa×Int×Int}{a2:bL}{a3:bL}{a:Nat}{r:Int×aa×Int×Int}(h:yq x0=some r):
  gI Tryz.prog 37 [.pointer a2] [lM a3 x0.1 a] [lx a2 x0 a3 a] (λ_:Unit=>True) (λ_=> .int .i64 r.1) (λ_=>[lx a2 (x0.1,r.2.2) a3 a]):=
 by
  refine V.jm (T:=ck) Tryz.call37 Tryz.func37 U λ_ _=>?_;unfold yq at h;have d:(0:Int)<=33:=by decide
  have e:(0:Int)<=45:=by decide
  refine V.jl ab 18 1 ⟨U,U,U,U,U,U,U⟩ (by kernel_rfl) ?_;refine V.e6 ab 14 1 h (ρ:=Unit) (λs q=>[(3,.v (.int .i64 s.1))]) .nil (λs q=>[lx a2 (x0.1,s.2,(W ((W (x0.2.2*6364136223846793005))+1442695040888963407))) a3 a]) ⟨U,U,U,d,U,U,U,e,U⟩ ?_ ?_
  ·intro f _ h;refine V.jl ab 1 0 U (by kernel_rfl) ?_;refine V.co ab 11 1 h ⟨U,U,U,U,U,U,U⟩ (λh=>?_) (λh=>?_)
   ·obtain⟨c,h⟩:=bG h;refine V.go ab 1 0 U ?_;refine V.jT (aR.iY 0 U λb=>V.iA ?_);refine V.jl ab 0 0 U (by kernel_rfl) ?_;refine V.go ab 10 1 ⟨U,U,U,U,U,U,b.ix c,U⟩ ?_;refine V.toQ (kX.load ab U U U U U U U 0 U U (Int.toNat x0.2.1) 0 (at' x0.1 x0.2.1) ⟨mN c,U⟩ U U (V.sU ?_));refine V.toQ (kX.eE ab 4 [((at' x0.1 x0.2.1).toNat:Int),(W ((W (((BitVec.ofInt (IntKind.bits .i64) (W (((BitVec.ofInt (IntKind.bits .i64) (Int.fdiv (W ((W (x0.2.2*6364136223846793005))+1442695040888963407)) (2^(min (Int.toNat 33) (IntKind.bits .i64))))^^^BitVec.ofInt (IntKind.bits .i64) (Int.fdiv (W ((W (x0.2.2*6364136223846793005))+1442695040888963407)) (2^(min (Int.toNat 45) (IntKind.bits .i64))))).toNat:Int)))&&&BitVec.ofInt (IntKind.bits .i64) 255).toNat:Int)))+((at' x0.1 x0.2.1).toNat:Int))),(W (((BitVec.ofInt (IntKind.bits .i64) (W ((W (((BitVec.ofInt (IntKind.bits .i64) (W (((BitVec.ofInt (IntKind.bits .i64) (Int.fdiv (W ((W (x0.2.2*6364136223846793005))+1442695040888963407)) (2^(min (Int.toNat 33) (IntKind.bits .i64))))^^^BitVec.ofInt (IntKind.bits .i64) (Int.fdiv (W ((W (x0.2.2*6364136223846793005))+1442695040888963407)) (2^(min (Int.toNat 45) (IntKind.bits .i64))))).toNat:Int)))&&&BitVec.ofInt (IntKind.bits .i64) 255).toNat:Int)))+((at' x0.1 x0.2.1).toNat:Int)))&&&BitVec.ofInt (IntKind.bits .i64) 255).toNat:Int)))] [(3,.v (.int .i64 (W (((BitVec.ofInt (IntKind.bits .i64) (W ((W (((BitVec.ofInt (IntKind.bits .i64) (W (((BitVec.ofInt (IntKind.bits .i64) (Int.fdiv (W ((W (x0.2.2*6364136223846793005))+1442695040888963407)) (2^(min (Int.toNat 33) (IntKind.bits .i64))))^^^BitVec.ofInt (IntKind.bits .i64) (Int.fdiv (W ((W (x0.2.2*6364136223846793005))+1442695040888963407)) (2^(min (Int.toNat 45) (IntKind.bits .i64))))).toNat:Int)))&&&BitVec.ofInt (IntKind.bits .i64) 255).toNat:Int)))+((at' x0.1 x0.2.1).toNat:Int)))&&&BitVec.ofInt (IntKind.bits .i64) 255).toNat:Int)))))] U ⟨⟨trivial,JU _⟩,⟨trivial,U⟩,⟨trivial,U⟩,⟨U,trivial⟩⟩ (V.sU ?_));exact V.a5 ab 12 1 h () [0] ⟨U,U,U,U,U,U,U⟩
   exact V.a5 ab 1 0 h () [0] U
  rintro⟨g,i⟩ _ h;cases h;exact V.rx ab 5 0 () [0] U
def k9(x0:aa×Int×Int)(a:Int):Option (Int×aa×Int×Int):=
 (bif(decide (a<=0)) then some (0,x0) else(bif(decide (a<=256)) then(av (yq x0) λ(b,c)=>(a8 (a≠0)<|some ((Int.tmod b a),(x0.1,c.2)))) else(av (yq x0) λ(d,e)=>(av (yq (x0.1,e.2)) λ(f,g)=>(av (yq (x0.1,g.2)) λ(h,i)=>(av (yq (x0.1,i.2)) λ(j,k)=>(a8 (a≠0)<|some ((Int.tmod (W ((W ((W ((W (d*16777216))+(W (f*65536))))+(W (h*256))))+j)) a),(x0.1,k.2)))))))))
theorem wT{x0:aa×Int×Int}{c:Int}{a3:bL}{a:bL}{b:Nat}{r:Int×aa×Int×Int}(h:k9 x0 c=some r):
  gI Tryz.prog 27 [.pointer a3,.int .i64 c] [lM a x0.1 b] [lx a3 x0 a b] (λ_:Unit=>True) (λ_=> .int .i64 r.1) (λ_=>[lx a3 (x0.1,r.2.2) a b]):=
 by
  refine V.jm (T:=ck) Tryz.call27 Tryz.func27 U λ_ _=>?_;unfold k9 at h;refine V.co ab 10 0 h U (λh=>?_) (λh=>?_)
  ·cases h;exact V.rx ab 4 0 () [0] U
  refine V.co ab 7 0 h U (λh=>?_) (λh=>?_)
  ·refine V.bI ab 3 0 h HY [0] [0] U ?_;rintro⟨f,g⟩ _ h;obtain⟨d,h⟩:=bG h;cases h;exact V.rx ab 4 0 () [0] ⟨d,U⟩
  refine V.bI ab 4 0 h HY [0] [0] U ?_;rintro⟨i,j⟩ _ h;refine V.bI ab 5 0 h HY [0] [0] U ?_;rintro⟨k,l⟩ _ h;refine V.bI ab 5 0 h HY [0] [0] U ?_;rintro⟨m,n⟩ _ h;refine V.bI ab 5 0 h HY [0] [0] U ?_;rintro⟨o,p⟩ _ h;obtain⟨e,h⟩:=bG h;cases h;exact V.rx ab 18 0 () [0] ⟨e,U⟩
def B7(R:bh)(x0:aa×Int×Int)(g:Int)(h:(aa×Int×Int)->Option (aa×aa×Int×Int))(b:(aa×Int×Int×Int)->Option (aa×aa×Int×Int)):(aa×Int×Int×Int)->Option (aa×aa×Int×Int):=λ(a,c,d,e)=>
 (bif(decide (0<c)) then(a8 (((a.length+([32]:aa).length:Nat):Int)<=9223372036854775807)<|(av (R.nF (x0.1,d,e) g) λ(f,i)=>(a8 ((((a++([32]:aa)).length+f.length:Nat):Int)<=9223372036854775807)<|b (((a++([32]:aa))++f),(W (c-1)),i.2)))) else h (a,d,e))
def B8(R:bh)(x0:aa×Int×Int)(l:Int):Option (aa×aa×Int×Int):=
 (av (k9 x0 4) λ(c,e)=>(a8 (0<=c/\c<(([([108,115]:aa),([101,99,104,111]:aa),([99,97,116]:aa),([120,61,49]:aa)]:bs).length:Int))<|(av (k9 (x0.1,e.2.1,e.2.2) 3) λ(m,f)=>(a9 (λ((a,n,o):aa×Int×Int)=>(av (k9 (x0.1,n,o) 8) λ(g,b)=>(a9 (λ((d,p,q):aa×Int×Int)=>(a9 (λ(r:aa)=>some (r,(x0.1,p,q))) λh=>(bif(decide (g=1)) then(a8 (((d.length+([32,50,62,38,49]:aa).length:Nat):Int)<=9223372036854775807)<|h (d++([32,50,62,38,49]:aa))) else h d))) λi=>(bif(decide (g=0)) then(a8 (((a.length+([32,62]:aa).length:Nat):Int)<=9223372036854775807)<|(av (R.nF (x0.1,b.2.1,b.2.2) 0) λ(j,k)=>(a8 ((((a++([32,62]:aa)).length+j.length:Nat):Int)<=9223372036854775807)<|i (((a++([32,62]:aa))++j),k.2.1,k.2.2)))) else i (a,b.2.1,b.2.2))))) λs=>(fixF (B7 R x0 l s) bC ((at' ([([108,115]:aa),([101,99,104,111]:aa),([99,97,116]:aa),([120,61,49]:aa)]:bs) c),m,f.2.1,f.2.2))))))
theorem ahZ{R:bh}(e:hZ R){x0:aa×Int×Int}{c:Int}{a3:bL}{a:bL}{b:Nat}{r:aa×aa×Int×Int}(h:B8 R x0 c=some r):
  gI Tryz.prog 55 [.pointer a3,.int .i64 c] [lM a x0.1 b] [lx a3 x0 a b] (λ_:Unit=>True) (λ_=> .string (a7 r.1)) (λ_=>[lx a3 (x0.1,r.2.2) a b]):=
 by
  refine V.jm (T:=ck) Tryz.call55 Tryz.func55 U λ_ _=>?_;unfold B8 at h;refine V.go ab 6 0 U ?_;refine V.cl (aJ.kt U (cK.buildSlice ab U U U U U U U U U U U [] U .str [([108,115]:aa),([101,99,104,111]:aa),([99,97,116]:aa),([120,61,49]:aa)] ⟨U,U⟩ U U λu=>aJ.ku (V.cz ?_)));refine V.bI ab 1 0 h wT [1] [0] U ?_;rintro⟨f,v⟩ _ h;refine V.cl (aJ.iY 2 U λd=>V.cz ?_);obtain⟨g,h⟩:=bG h;refine V.go ab 1 0 ⟨d.ix g,U⟩ ?_;refine V.cl (aJ.load ab U U U U U U U 2 U U (Int.toNat f) 0 (at' ([([108,115]:aa),([101,99,104,111]:aa),([99,97,116]:aa),([120,61,49]:aa)]:bs) f) ⟨mN g,U⟩ U U (V.cz ?_));refine V.bI ab 6 0 h wT [0] [0] U ?_;rintro⟨w,x⟩ _ h;refine V.c8 ab 2 0 h (ρ:=Unit) (λs q=>[(0,.bj ⟨a3,1,1⟩ 0),(5,.v (.string (a7 s.1)))]) .nil (λs q=>[lx a3 (x0.1,s.2) a b]) U ?_ ?_
  ·intro y _ h;refine V.e7 ab 0 0 h (ρ:=Unit) (λs q=>[(0,.bj ⟨a3,1,1⟩ 0),(1,.v (.int .i64 c)),(5,.v (.string (a7 s.1))),(6,.v (.int .i64 s.2.1))]) .nil (λs q=>[lx a3 (x0.1,s.2.2) a b]) () [0] U ?_;rintro i ⟨z,A,B,C⟩ _ h;rw[B7] at h;refine V.co ab 6 0 h U (λh=>?_) (λh=>?_)
   ·obtain⟨j,h⟩:=bG h;refine V.bI ab 8 0 h e.nF [0] [0] ⟨j,U⟩ ?_;rintro⟨D,E⟩ _ h;obtain⟨k,h⟩:=bG h
    try dsimp only at h
    exact V.el ab 9 0 h () [0] ⟨k,U⟩
   exact V.a5 ab 1 0 h () [0] U
  rintro⟨F,G,H⟩ _ h;refine V.bI ab 3 0 h wT [0] [0] U ?_;rintro⟨l,I⟩ _ h;refine V.e6 ab 2 0 h (ρ:=Unit) (λs q=>[(5,.v (.string (a7 s.1))),(7,.v (.int .i64 l))]) .nil (λs q=>[lx a3 (x0.1,s.2) a b]) U ?_ ?_
  ·intro J _ h;refine V.co ab 5 0 h U (λh=>?_) (λh=>?_)
   ·obtain⟨m,h⟩:=bG h;refine V.bI ab 4 0 h e.nF [0] [0] ⟨m,U⟩ ?_;rintro⟨K,L⟩ _ h;obtain⟨n,h⟩:=bG h
    try dsimp only at h
    exact V.a5 ab 3 0 h () [0] ⟨n,U⟩
   exact V.a5 ab 1 0 h () [0] U
  rintro⟨M,o,p⟩ _ h;refine V.e6 ab 0 0 h (ρ:=Unit) (λs q=>[(5,.v (.string (a7 s)))]) .nil (λs q=>[lx a3 (x0.1,o,p) a b]) U ?_ ?_
  ·intro N _ h;refine V.co ab 5 0 h U (λh=>?_) (λh=>?_)
   ·obtain⟨t,h⟩:=bG h;exact V.a5 ab 5 0 h () [0] ⟨t,U⟩
   exact V.a5 ab 1 0 h () [0] U
  rintro O _ h;cases h;exact V.rx ab 5 0 () [0] U
def vv(R:bh)(x0:aa×Int×Int)(a:Int):Option (aa×aa×Int×Int):=
 (av (k9 x0 16) λ(r,b)=>(a9 (λ(c:Int)=>(bif(decide (c=1)) then(av (R.hc (x0.1,b.2) (W (a-1)) ([])) λ(i,s)=>(a8 (((([40]:aa).length+i.length:Nat):Int)<=9223372036854775807)<|(a8 ((((([40]:aa)++i).length+([41]:aa).length:Nat):Int)<=9223372036854775807)<|some (((([40]:aa)++i)++([41]:aa)),(x0.1,s.2))))) else(bif(decide (c=2)) then(av (R.hc (x0.1,b.2) (W (a-1)) ([10]:aa)) λ(j,t)=>(a8 (((([123,32]:aa).length+j.length:Nat):Int)<=9223372036854775807)<|(a8 ((((([123,32]:aa)++j).length+([125]:aa).length:Nat):Int)<=9223372036854775807)<|some (((([123,32]:aa)++j)++([125]:aa)),(x0.1,t.2))))) else(bif(decide (c=3)) then(av (R.hc (x0.1,b.2) (W (a-1)) ([59]:aa)) λ(d,u)=>(a8 (((([105,102,32]:aa).length+d.length:Nat):Int)<=9223372036854775807)<|(a8 ((((([105,102,32]:aa)++d).length+([32,116,104,101,110,32]:aa).length:Nat):Int)<=9223372036854775807)<|(av (R.hc (x0.1,u.2) (W (a-1)) ([10]:aa)) λ(k,v)=>(a8 (((((([105,102,32]:aa)++d)++([32,116,104,101,110,32]:aa)).length+k.length:Nat):Int)<=9223372036854775807)<|(a8 ((((((([105,102,32]:aa)++d)++([32,116,104,101,110,32]:aa))++k).length+([102,105]:aa).length:Nat):Int)<=9223372036854775807)<|some (((((([105,102,32]:aa)++d)++([32,116,104,101,110,32]:aa))++k)++([102,105]:aa)),(x0.1,v.2)))))))) else(bif(decide (c=4)) then(av (R.hc (x0.1,b.2) (W (a-1)) ([10]:aa)) λ(e,w)=>(a8 (((([105,102,32,97,59,32,116,104,101,110,10]:aa).length+e.length:Nat):Int)<=9223372036854775807)<|(a8 ((((([105,102,32,97,59,32,116,104,101,110,10]:aa)++e).length+([101,108,105,102,32,98,10,116,104,101,110,32,99,10,101,108,115,101,32]:aa).length:Nat):Int)<=9223372036854775807)<|(av (R.hc (x0.1,w.2) (W (a-1)) ([59]:aa)) λ(l,x)=>(a8 (((((([105,102,32,97,59,32,116,104,101,110,10]:aa)++e)++([101,108,105,102,32,98,10,116,104,101,110,32,99,10,101,108,115,101,32]:aa)).length+l.length:Nat):Int)<=9223372036854775807)<|(a8 ((((((([105,102,32,97,59,32,116,104,101,110,10]:aa)++e)++([101,108,105,102,32,98,10,116,104,101,110,32,99,10,101,108,115,101,32]:aa))++l).length+([102,105,32,50,62,102]:aa).length:Nat):Int)<=9223372036854775807)<|some (((((([105,102,32,97,59,32,116,104,101,110,10]:aa)++e)++([101,108,105,102,32,98,10,116,104,101,110,32,99,10,101,108,115,101,32]:aa))++l)++([102,105,32,50,62,102]:aa)),(x0.1,x.2)))))))) else(bif(decide (c=5)) then(av (R.hc (x0.1,b.2) (W (a-1)) ([10]:aa)) λ(f,y)=>(a8 (((([119,104,105,108,101,32]:aa).length+f.length:Nat):Int)<=9223372036854775807)<|(a8 ((((([119,104,105,108,101,32]:aa)++f).length+([100,111,32]:aa).length:Nat):Int)<=9223372036854775807)<|(av (R.hc (x0.1,y.2) (W (a-1)) ([59]:aa)) λ(m,z)=>(a8 (((((([119,104,105,108,101,32]:aa)++f)++([100,111,32]:aa)).length+m.length:Nat):Int)<=9223372036854775807)<|(a8 ((((((([119,104,105,108,101,32]:aa)++f)++([100,111,32]:aa))++m).length+([32,100,111,110,101]:aa).length:Nat):Int)<=9223372036854775807)<|some (((((([119,104,105,108,101,32]:aa)++f)++([100,111,32]:aa))++m)++([32,100,111,110,101]:aa)),(x0.1,z.2)))))))) else(bif(decide (c=6)) then(av (R.nF (x0.1,b.2) (W (a-1))) λ(g,A)=>(a8 (((([102,111,114,32,120,32,105,110,32,97,32]:aa).length+g.length:Nat):Int)<=9223372036854775807)<|(a8 ((((([102,111,114,32,120,32,105,110,32,97,32]:aa)++g).length+([59,32,100,111,32]:aa).length:Nat):Int)<=9223372036854775807)<|(av (R.hc (x0.1,A.2) (W (a-1)) ([59]:aa)) λ(n,B)=>(a8 (((((([102,111,114,32,120,32,105,110,32,97,32]:aa)++g)++([59,32,100,111,32]:aa)).length+n.length:Nat):Int)<=9223372036854775807)<|(a8 ((((((([102,111,114,32,120,32,105,110,32,97,32]:aa)++g)++([59,32,100,111,32]:aa))++n).length+([100,111,110,101]:aa).length:Nat):Int)<=9223372036854775807)<|some (((((([102,111,114,32,120,32,105,110,32,97,32]:aa)++g)++([59,32,100,111,32]:aa))++n)++([100,111,110,101]:aa)),(x0.1,B.2)))))))) else(bif(decide (c=7)) then some (([102,111,114,32,120,10,100,111,32,97,10,100,111,110,101]:aa),(x0.1,b.2)) else(bif(decide (c=8)) then(av (R.nF (x0.1,b.2) (W (a-1))) λ(h,C)=>(a8 (((([99,97,115,101,32]:aa).length+h.length:Nat):Int)<=9223372036854775807)<|(a8 ((((([99,97,115,101,32]:aa)++h).length+([32,105,110,32,97,124,98,41,32]:aa).length:Nat):Int)<=9223372036854775807)<|(av (R.hc (x0.1,C.2) (W (a-1)) ([])) λ(o,D)=>(a8 (((((([99,97,115,101,32]:aa)++h)++([32,105,110,32,97,124,98,41,32]:aa)).length+o.length:Nat):Int)<=9223372036854775807)<|(a8 ((((((([99,97,115,101,32]:aa)++h)++([32,105,110,32,97,124,98,41,32]:aa))++o).length+([59,59,10,40,99,41,32,59,59,32,100,41,32,101,115,97,99]:aa).length:Nat):Int)<=9223372036854775807)<|some (((((([99,97,115,101,32]:aa)++h)++([32,105,110,32,97,124,98,41,32]:aa))++o)++([59,59,10,40,99,41,32,59,59,32,100,41,32,101,115,97,99]:aa)),(x0.1,D.2)))))))) else(bif(decide (c=9)) then(av (R.hc (x0.1,b.2) (W (a-1)) ([10]:aa)) λ(p,E)=>(a8 (((([102,40,41,32,123,10]:aa).length+p.length:Nat):Int)<=9223372036854775807)<|(a8 ((((([102,40,41,32,123,10]:aa)++p).length+([125,32,62,102]:aa).length:Nat):Int)<=9223372036854775807)<|some (((([102,40,41,32,123,10]:aa)++p)++([125,32,62,102]:aa)),(x0.1,E.2))))) else(av (B8 R (x0.1,b.2) a) λ(F,G)=>some (F,(x0.1,G.2))))))))))))) λq=>(bif(decide (a<=0)) then q 0 else q r)))
theorem Ey{R:bh}(a:hZ R){x0:aa×Int×Int}{d:Int}{a3:bL}{b:bL}{c:Nat}{r:aa×aa×Int×Int}(h:vv R x0 d=some r):
  gI Tryz.prog 36 [.pointer a3,.int .i64 d] [lM b x0.1 c] [lx a3 x0 b c] (λ_:Unit=>True) (λ_=> .string (a7 r.1)) (λ_=>[lx a3 (x0.1,r.2.2) b c]):=
 by
  refine V.jm (T:=ck) Tryz.call36 Tryz.func36 U λ_ _=>?_;unfold vv at h;refine V.bI ab 7 0 h wT [0] [0] U ?_;rintro⟨J,t⟩ _ h;refine V.e6 ab 2 0 h (ρ:=Unit) (λs q=>[(0,.bj ⟨a3,1,1⟩ 0),(1,.v (.int .i64 d)),(5,.v (.int .i64 s))]) .nil (λs q=>[lx a3 (x0.1,t.2) b c]) U ?_ ?_
  ·intro K _ h;refine V.co ab 5 0 h U (λh=>?_) (λh=>?_)
   ·exact V.a5 ab 3 0 h () [0] U
   exact V.a5 ab 1 0 h () [0] U
  rintro L _ h;refine V.co ab 11 0 h U (λh=>?_) (λh=>?_)
  ·refine V.bI ab 5 0 h a.hc [0] [0] U ?_;rintro⟨M,N⟩ _ h;obtain⟨u,h⟩:=bG h;obtain⟨v,h⟩:=bG h;cases h;exact V.rx ab 4 0 () [0] ⟨u,v,U⟩
  refine V.co ab 5 0 h U (λh=>?_) (λh=>?_)
  ·refine V.bI ab 5 0 h a.hc [0] [0] U ?_;rintro⟨O,P⟩ _ h;obtain⟨w,h⟩:=bG h;obtain⟨x,h⟩:=bG h;cases h;exact V.rx ab 4 0 () [0] ⟨w,x,U⟩
  refine V.co ab 5 0 h U (λh=>?_) (λh=>?_)
  ·refine V.bI ab 5 0 h a.hc [0] [0] U ?_;rintro⟨Q,S⟩ _ h;obtain⟨y,h⟩:=bG h;obtain⟨z,h⟩:=bG h;refine V.bI ab 5 0 h a.hc [0] [0] ⟨y,z,U⟩ ?_;rintro⟨W,X⟩ _ h;obtain⟨e,h⟩:=bG h;obtain⟨A,h⟩:=bG h;cases h;exact V.rx ab 4 0 () [0] ⟨e,A,U⟩
  refine V.co ab 5 0 h U (λh=>?_) (λh=>?_)
  ·refine V.bI ab 5 0 h a.hc [0] [0] U ?_;rintro⟨Y,Z⟩ _ h;obtain⟨B,h⟩:=bG h;obtain⟨C,h⟩:=bG h;refine V.bI ab 5 0 h a.hc [0] [0] ⟨B,C,U⟩ ?_;rintro⟨gi,ef⟩ _ h;obtain⟨D,h⟩:=bG h;obtain⟨f,h⟩:=bG h;cases h;exact V.rx ab 4 0 () [0] ⟨D,f,U⟩
  refine V.co ab 5 0 h U (λh=>?_) (λh=>?_)
  ·refine V.bI ab 5 0 h a.hc [0] [0] U ?_;rintro⟨lP,kM⟩ _ h;obtain⟨g,h⟩:=bG h;obtain⟨E,h⟩:=bG h;refine V.bI ab 5 0 h a.hc [0] [0] ⟨g,E,U⟩ ?_;rintro⟨jX,fS⟩ _ h;obtain⟨F,h⟩:=bG h;obtain⟨i,h⟩:=bG h;cases h;exact V.rx ab 4 0 () [0] ⟨F,i,U⟩
  refine V.co ab 5 0 h U (λh=>?_) (λh=>?_)
  ·refine V.bI ab 5 0 h a.nF [0] [0] U ?_;rintro⟨fT,pe⟩ _ h;obtain⟨G,h⟩:=bG h;obtain⟨H,h⟩:=bG h;refine V.bI ab 5 0 h a.hc [0] [0] ⟨G,H,U⟩ ?_;rintro⟨lV,nH⟩ _ h;obtain⟨j,h⟩:=bG h;obtain⟨I,h⟩:=bG h;cases h;exact V.rx ab 4 0 () [0] ⟨j,I,U⟩
  refine V.co ab 5 0 h U (λh=>?_) (λh=>?_)
  ·cases h;exact V.rx ab 4 0 () [0] U
  refine V.co ab 5 0 h U (λh=>?_) (λh=>?_)
  ·refine V.bI ab 5 0 h a.nF [0] [0] U ?_;rintro⟨jV,tX⟩ _ h;obtain⟨k,h⟩:=bG h;obtain⟨l,h⟩:=bG h;refine V.bI ab 5 0 h a.hc [0] [0] ⟨k,l,U⟩ ?_;rintro⟨jG,nh⟩ _ h;obtain⟨m,h⟩:=bG h;obtain⟨n,h⟩:=bG h;cases h;exact V.rx ab 4 0 () [0] ⟨m,n,U⟩
  refine V.co ab 5 0 h U (λh=>?_) (λh=>?_)
  ·refine V.bI ab 5 0 h a.hc [0] [0] U ?_;rintro⟨nJ,kN⟩ _ h;obtain⟨o,h⟩:=bG h;obtain⟨p,h⟩:=bG h;cases h;exact V.rx ab 4 0 () [0] ⟨o,p,U⟩
  refine V.bI ab 6 0 h (ahZ a) [0] [0] U ?_;rintro⟨mY,kk⟩ _ h;cases h;exact V.rx ab 2 0 () [0] U
def B9(R:bh)(x0:aa×Int×Int)(f:Int)(g:(aa×Int×Int)->Option (aa×aa×Int×Int))(h:(aa×Int×Int×Int)->Option (aa×aa×Int×Int)):(aa×Int×Int×Int)->Option (aa×aa×Int×Int):=λ(a,b,c,d)=>
 (bif(decide (0<b)) then(a9 (λ((i,j,k):aa×Int×Int)=>h (i,(W (b-1)),j,k)) λl=>(av (k9 (x0.1,c,d) 8) λ(y23,m)=>(a8 (0<=y23/\y23<(([([32,38,38,32]:aa),([32,124,124,32]:aa),([32,124,32]:aa),([59,32]:aa),([32,38,32]:aa),([10]:aa),([32,124,10]:aa),([59,32,35,32,114,10]:aa)]:bs).length:Int))<|(a8 (((a.length+(at' ([([32,38,38,32]:aa),([32,124,124,32]:aa),([32,124,32]:aa),([59,32]:aa),([32,38,32]:aa),([10]:aa),([32,124,10]:aa),([59,32,35,32,114,10]:aa)]:bs) y23).length:Nat):Int)<=9223372036854775807)<|(av (vv R (x0.1,m.2) f) λ(e,n)=>(a8 ((((a++(at' ([([32,38,38,32]:aa),([32,124,124,32]:aa),([32,124,32]:aa),([59,32]:aa),([32,38,32]:aa),([10]:aa),([32,124,10]:aa),([59,32,35,32,114,10]:aa)]:bs) y23)).length+e.length:Nat):Int)<=9223372036854775807)<|l (((a++(at' ([([32,38,38,32]:aa),([32,124,124,32]:aa),([32,124,32]:aa),([59,32]:aa),([32,38,32]:aa),([10]:aa),([32,124,10]:aa),([59,32,35,32,114,10]:aa)]:bs) y23))++e),n.2))))))) else g (a,c,d))
def HZ(R:bh)(x0:aa×Int×Int)(a:Int)(b:aa):Option (aa×aa×Int×Int):=
 (av (vv R x0 a) λ(f,c)=>(av (k9 (x0.1,c.2.1,c.2.2) 3) λ(g,d)=>(a9 (λ((e,h,i):aa×Int×Int)=>(a8 (((e.length+b.length:Nat):Int)<=9223372036854775807)<|some ((e++b),(x0.1,h,i)))) λj=>(fixF (B9 R x0 a j) bC (f,g,d.2.1,d.2.2)))))
theorem aib{R:bh}(e:hZ R){x0:aa×Int×Int}{i:Int}{j:aa}{a:bL}{f:bL}{g:Nat}{r:aa×aa×Int×Int}(h:HZ R x0 i j=some r):
  gI Tryz.prog 26 [.pointer a,.int .i64 i,.string (a7 j)] [lM f x0.1 g] [lx a x0 f g] (λ_:Unit=>True) (λ_=> .string (a7 r.1)) (λ_=>[lx a (x0.1,r.2.2) f g]):=
 by
  refine V.jm (T:=ck) Tryz.call26 Tryz.func26 U λ_ _=>?_;unfold HZ at h;refine V.bI ab 8 0 h (Ey e) [0] [0] U ?_;rintro⟨A,B⟩ _ h;refine V.bI ab 6 0 h wT [0] [0] U ?_;rintro⟨C,D⟩ _ h;refine V.c8 ab 2 0 h (ρ:=Unit) (λs q=>[(2,.v (.string (a7 j))),(7,.v (.string (a7 s.1)))]) .nil (λs q=>[lx a (x0.1,s.2) f g]) U ?_ ?_
  ·intro E _ h;refine V.e7 ab 0 0 h (ρ:=Unit) (λs q=>[(0,.bj ⟨a,1,1⟩ 0),(1,.v (.int .i64 i)),(2,.v (.string (a7 j))),(7,.v (.string (a7 s.1))),(8,.v (.int .i64 s.2.1))]) .nil (λs q=>[lx a (x0.1,s.2.2) f g]) () [0] U ?_;rintro x ⟨b,y,F,G⟩ _ h;rw[B9] at h;refine V.co ab 6 0 h U (λh=>?_) (λh=>?_)
   ·refine V.aed ab 3 0 h (ρ:=Unit) (λs q=>[(0,.bj ⟨a,1,1⟩ 0),(1,.v (.int .i64 i)),(2,.v (.string (a7 j))),(7,.v (.string (a7 s.1))),(8,.v (.int .i64 y))]) .nil (λs q=>[lx a (x0.1,s.2) f g]) U ?_ ?_
    ·intro H _ h;obtain⟨⟨y23,I⟩,w,h⟩:=jP h;obtain⟨c,h⟩:=bG h;obtain⟨k,h⟩:=bG h;obtain⟨⟨l,J⟩,m,h⟩:=jP h;obtain⟨n,h⟩:=bG h;refine V.jT (aR.rQ U .nil [] [] trivial U (λz=>?_));refine bE.eE ab gh true 8 [0,2,7,8] U (by kernel_rfl) [] [(18,.v (.string (a7 b))),(20,.bj ⟨a,1,1⟩ 0),(25,.bj ⟨a,1,1⟩ 0),(26,.v (.int .i64 i))] trivial [] U U (fD U) ?_;refine bE.all (rs:=[1,3]) (by kernel_rfl) U (xw.2 ⟨?_,xw.2 ⟨?_,(λ_ d=>absurd d qn)⟩⟩)
     ·refine cK.buildSlice ab U U U U U U U U U U U [] U .str [([32,38,38,32]:aa),([32,124,124,32]:aa),([32,124,32]:aa),([59,32]:aa),([32,38,32]:aa),([10]:aa),([32,124,10]:aa),([59,32,35,32,114,10]:aa)] ⟨U,U⟩ U U λo=>bE.next trivial [] U (bE.one 3 (by kernel_rfl) (cK.pW U U U U (wT w) U [1] U [0] U U λ_ _=>bE.next trivial [] U (cK.iY 2 U λp=>bE.eE ab gh true 5 [4] U (by kernel_rfl) [] [(22,.bj ⟨o,([([32,38,38,32]:aa),([32,124,124,32]:aa),([32,124,32]:aa),([59,32]:aa),([32,38,32]:aa),([10]:aa),([32,124,10]:aa),([59,32,35,32,114,10]:aa)]:bs).length,([([32,38,38,32]:aa),([32,124,124,32]:aa),([32,124,32]:aa),([59,32]:aa),([32,38,32]:aa),([10]:aa),([32,124,10]:aa),([59,32,35,32,114,10]:aa)]:bs).length⟩ (Int.toNat y23*1))] trivial [] U U ⟨p.ix c,⟨U,trivial⟩⟩ ?_)));refine bE.all (rs:=[5,9]) (by kernel_rfl) U (xw.2 ⟨?_,xw.2 ⟨?_,(λ_ d=>absurd d qn)⟩⟩)
      ·refine cK.load ab U U U U U U U 2 U U (Int.toNat y23) 0 (at' ([([32,38,38,32]:aa),([32,124,124,32]:aa),([32,124,32]:aa),([59,32]:aa),([32,38,32]:aa),([10]:aa),([32,124,10]:aa),([59,32,35,32,114,10]:aa)]:bs) y23) ⟨mN c,U⟩ U U (bE.next trivial [] U (bE.eE ab gh true 3 [6] U (by kernel_rfl) [] [(24,.v (.string (a7 (b++(at' ([([32,38,38,32]:aa),([32,124,124,32]:aa),([32,124,32]:aa),([59,32]:aa),([32,38,32]:aa),([10]:aa),([32,124,10]:aa),([59,32,35,32,114,10]:aa)]:bs) y23)))))] trivial [] U U ⟨k,⟨U,trivial⟩⟩ (bE.one 9 (by kernel_rfl) (cK.pW U U U U (Ey e m) U [0] U [0] U U λ_ _=>bE.next trivial [] U (bE.eE ab gh true 0 [10,11] U (by kernel_rfl) [] [(7,.v (.string (a7 ((b++(at' ([([32,38,38,32]:aa),([32,124,124,32]:aa),([32,124,32]:aa),([59,32]:aa),([32,38,32]:aa),([10]:aa),([32,124,10]:aa),([59,32,35,32,114,10]:aa)]:bs) y23))++l))))] trivial [] U U ⟨n,⟨U,trivial⟩⟩ (bE.done (by kernel_rfl) (aR.boxes (B':= .nil) trivial (V.iA ?_))))))));exact V.a5 ab 0 0 h () [0] U
      refine cK.pW U U U U (Ey e m) U [0] U [0] U U λ_ _=>bE.next trivial [] U (bE.one 5 (by kernel_rfl) (cK.load ab U U U U U U U 2 U U (Int.toNat y23) 0 (at' ([([32,38,38,32]:aa),([32,124,124,32]:aa),([32,124,32]:aa),([59,32]:aa),([32,38,32]:aa),([10]:aa),([32,124,10]:aa),([59,32,35,32,114,10]:aa)]:bs) y23) ⟨mN c,U⟩ U U (bE.next trivial [] U (bE.eE ab gh true 0 [6,10,11] U (by kernel_rfl) [] [(7,.v (.string (a7 ((b++(at' ([([32,38,38,32]:aa),([32,124,124,32]:aa),([32,124,32]:aa),([59,32]:aa),([32,38,32]:aa),([10]:aa),([32,124,10]:aa),([59,32,35,32,114,10]:aa)]:bs) y23))++l))))] trivial [] U U ⟨k,n,⟨U,trivial⟩⟩ (bE.done (by kernel_rfl) (aR.boxes (B':= .nil) trivial (V.iA ?_)))))));exact V.a5 ab 0 0 h () [0] U
     refine cK.pW U U U U (wT w) U [0] U [0] U U λ_ _=>bE.next trivial [] U ?_;refine bE.all (rs:=[1,9]) (by kernel_rfl) U (xw.2 ⟨?_,xw.2 ⟨?_,(λ_ d=>absurd d qn)⟩⟩)
     ·refine cK.buildSlice ab U U U U U U U U U U U [] U .str [([32,38,38,32]:aa),([32,124,124,32]:aa),([32,124,32]:aa),([59,32]:aa),([32,38,32]:aa),([10]:aa),([32,124,10]:aa),([59,32,35,32,114,10]:aa)] ⟨U,U⟩ U U λo=>bE.next trivial [] U (cK.iY 1 U λt=>bE.eE ab gh true 5 [4] U (by kernel_rfl) [] [(22,.bj ⟨o,([([32,38,38,32]:aa),([32,124,124,32]:aa),([32,124,32]:aa),([59,32]:aa),([32,38,32]:aa),([10]:aa),([32,124,10]:aa),([59,32,35,32,114,10]:aa)]:bs).length,([([32,38,38,32]:aa),([32,124,124,32]:aa),([32,124,32]:aa),([59,32]:aa),([32,38,32]:aa),([10]:aa),([32,124,10]:aa),([59,32,35,32,114,10]:aa)]:bs).length⟩ (Int.toNat y23*1))] trivial [] U U ⟨t.ix c,⟨U,trivial⟩⟩ ?_);refine bE.all (rs:=[5,9]) (by kernel_rfl) U (xw.2 ⟨?_,xw.2 ⟨?_,(λ_ d=>absurd d qn)⟩⟩)
      ·refine cK.load ab U U U U U U U 1 U U (Int.toNat y23) 0 (at' ([([32,38,38,32]:aa),([32,124,124,32]:aa),([32,124,32]:aa),([59,32]:aa),([32,38,32]:aa),([10]:aa),([32,124,10]:aa),([59,32,35,32,114,10]:aa)]:bs) y23) ⟨mN c,U⟩ U U (bE.next trivial [] U (bE.eE ab gh true 3 [6] U (by kernel_rfl) [] [(24,.v (.string (a7 (b++(at' ([([32,38,38,32]:aa),([32,124,124,32]:aa),([32,124,32]:aa),([59,32]:aa),([32,38,32]:aa),([10]:aa),([32,124,10]:aa),([59,32,35,32,114,10]:aa)]:bs) y23)))))] trivial [] U U ⟨k,⟨U,trivial⟩⟩ (bE.one 9 (by kernel_rfl) (cK.pW U U U U (Ey e m) U [1] U [0] U U λ_ _=>bE.next trivial [] U (bE.eE ab gh true 0 [10,11] U (by kernel_rfl) [] [(7,.v (.string (a7 ((b++(at' ([([32,38,38,32]:aa),([32,124,124,32]:aa),([32,124,32]:aa),([59,32]:aa),([32,38,32]:aa),([10]:aa),([32,124,10]:aa),([59,32,35,32,114,10]:aa)]:bs) y23))++l))))] trivial [] U U ⟨n,⟨U,trivial⟩⟩ (bE.done (by kernel_rfl) (aR.boxes (B':= .nil) trivial (V.iA ?_))))))));exact V.a5 ab 0 0 h () [0] U
      refine cK.pW U U U U (Ey e m) U [1] U [0] U U λ_ _=>bE.next trivial [] U (bE.one 5 (by kernel_rfl) (cK.load ab U U U U U U U 2 U U (Int.toNat y23) 0 (at' ([([32,38,38,32]:aa),([32,124,124,32]:aa),([32,124,32]:aa),([59,32]:aa),([32,38,32]:aa),([10]:aa),([32,124,10]:aa),([59,32,35,32,114,10]:aa)]:bs) y23) ⟨mN c,U⟩ U U (bE.next trivial [] U (bE.eE ab gh true 0 [6,10,11] U (by kernel_rfl) [] [(7,.v (.string (a7 ((b++(at' ([([32,38,38,32]:aa),([32,124,124,32]:aa),([32,124,32]:aa),([59,32]:aa),([32,38,32]:aa),([10]:aa),([32,124,10]:aa),([59,32,35,32,114,10]:aa)]:bs) y23))++l))))] trivial [] U U ⟨k,n,⟨U,trivial⟩⟩ (bE.done (by kernel_rfl) (aR.boxes (B':= .nil) trivial (V.iA ?_)))))));exact V.a5 ab 0 0 h () [0] U
     refine cK.pW U U U U (Ey e m) U [0] U [0] U U λ_ _=>bE.next trivial [] U (bE.one 1 (by kernel_rfl) (cK.buildSlice ab U U U U U U U U U U U [] U .str [([32,38,38,32]:aa),([32,124,124,32]:aa),([32,124,32]:aa),([59,32]:aa),([32,38,32]:aa),([10]:aa),([32,124,10]:aa),([59,32,35,32,114,10]:aa)] ⟨U,U⟩ U U λo=>bE.next trivial [] U (cK.iY 1 U λu=>bE.eE ab gh true 4 [4] U (by kernel_rfl) [] [(22,.bj ⟨o,([([32,38,38,32]:aa),([32,124,124,32]:aa),([32,124,32]:aa),([59,32]:aa),([32,38,32]:aa),([10]:aa),([32,124,10]:aa),([59,32,35,32,114,10]:aa)]:bs).length,([([32,38,38,32]:aa),([32,124,124,32]:aa),([32,124,32]:aa),([59,32]:aa),([32,38,32]:aa),([10]:aa),([32,124,10]:aa),([59,32,35,32,114,10]:aa)]:bs).length⟩ (Int.toNat y23*1))] trivial [] U U ⟨u.ix c,⟨U,trivial⟩⟩ (bE.one 5 (by kernel_rfl) (cK.load ab U U U U U U U 1 U U (Int.toNat y23) 0 (at' ([([32,38,38,32]:aa),([32,124,124,32]:aa),([32,124,32]:aa),([59,32]:aa),([32,38,32]:aa),([10]:aa),([32,124,10]:aa),([59,32,35,32,114,10]:aa)]:bs) y23) ⟨mN c,U⟩ U U (bE.next trivial [] U (bE.eE ab gh true 0 [6,10,11] U (by kernel_rfl) [] [(7,.v (.string (a7 ((b++(at' ([([32,38,38,32]:aa),([32,124,124,32]:aa),([32,124,32]:aa),([59,32]:aa),([32,38,32]:aa),([10]:aa),([32,124,10]:aa),([59,32,35,32,114,10]:aa)]:bs) y23))++l))))] trivial [] U U ⟨k,n,⟨U,trivial⟩⟩ (bE.done (by kernel_rfl) (aR.boxes (B':= .nil) trivial (V.iA ?_))))))))));exact V.a5 ab 0 0 h () [1] U
    rintro⟨K,L,M⟩ _ h
    try dsimp only at h
    exact V.el ab 6 0 h () [0] U
   exact V.a5 ab 1 0 h () [0] U
  rintro⟨N,O,P⟩ _ h;obtain⟨v,h⟩:=bG h;cases h;exact V.rx ab 7 0 () [0] ⟨v,U⟩
def H2(R:bh)(x0:aa×Int×Int)(c:Int):Option (aa×aa×Int×Int):=
 (av (k9 x0 14) λ(h,a)=>(a9 (λ(b:Int)=>(bif(decide (b=1)) then some (([39,113,32,114,39]:aa),(x0.1,a.2)) else(bif(decide (b=2)) then some (([34,97,32,98,34]:aa),(x0.1,a.2)) else(bif(decide (b=3)) then some (([97,92,32,98]:aa),(x0.1,a.2)) else(bif(decide (b=4)) then some (([36,120]:aa),(x0.1,a.2)) else(bif(decide (b=5)) then some (([36,40,40,49,43,40,50,41,41,41]:aa),(x0.1,a.2)) else(bif(decide (b=6)) then some (([96,99,32,100,96]:aa),(x0.1,a.2)) else(bif(decide (b=7)) then some (([45,108]:aa),(x0.1,a.2)) else(bif(decide (b=8)) then(av (R.hc (x0.1,a.2) (W (c-1)) ([])) λ(d,j)=>(a8 (((([36,40]:aa).length+d.length:Nat):Int)<=9223372036854775807)<|(a8 ((((([36,40]:aa)++d).length+([41]:aa).length:Nat):Int)<=9223372036854775807)<|some (((([36,40]:aa)++d)++([41]:aa)),(x0.1,j.2))))) else(bif(decide (b=9)) then(av (R.hc (x0.1,a.2) (W (c-1)) ([])) λ(e,k)=>(a8 (((([34,120,36,40]:aa).length+e.length:Nat):Int)<=9223372036854775807)<|(a8 ((((([34,120,36,40]:aa)++e).length+([41,34]:aa).length:Nat):Int)<=9223372036854775807)<|some (((([34,120,36,40]:aa)++e)++([41,34]:aa)),(x0.1,k.2))))) else(bif(decide (b=10)) then(av (R.nF (x0.1,a.2) (W (c-1))) λ(f,l)=>(a8 (((([36,123,120,58,45]:aa).length+f.length:Nat):Int)<=9223372036854775807)<|(a8 ((((([36,123,120,58,45]:aa)++f).length+([125]:aa).length:Nat):Int)<=9223372036854775807)<|some (((([36,123,120,58,45]:aa)++f)++([125]:aa)),(x0.1,l.2))))) else(bif(decide (b=11)) then some (([97,92,10,98]:aa),(x0.1,a.2)) else(av (k9 (x0.1,a.2) 7) λ(g,m)=>(a8 (0<=g/\g<(([([97]:aa),([98,49]:aa),([120,61,49]:aa),([102,105,108,101]:aa),([195,169]:aa),([105,110]:aa),([97,35,98]:aa)]:bs).length:Int))<|some ((at' ([([97]:aa),([98,49]:aa),([120,61,49]:aa),([102,105,108,101]:aa),([195,169]:aa),([105,110]:aa),([97,35,98]:aa)]:bs) g),(x0.1,m.2)))))))))))))))) λi=>(bif(bif(decide (c<=0)) then(decide (8<=h)) else false) then i 0 else i h)))
theorem aih{R:bh}(c:hZ R){x0:aa×Int×Int}{d:Int}{a3:bL}{a:bL}{b:Nat}{r:aa×aa×Int×Int}(h:H2 R x0 d=some r):
  gI Tryz.prog 54 [.pointer a3,.int .i64 d] [lM a x0.1 b] [lx a3 x0 a b] (λ_:Unit=>True) (λ_=> .string (a7 r.1)) (λ_=>[lx a3 (x0.1,r.2.2) a b]):=
 by
  refine V.jm (T:=ck) Tryz.call54 Tryz.func54 U λ_ _=>?_;unfold H2 at h;refine V.bI ab 7 0 h wT [0] [0] U ?_;rintro⟨p,i⟩ _ h;refine V.e6 ab 2 0 h (ρ:=Unit) (λs q=>[(0,.bj ⟨a3,1,1⟩ 0),(1,.v (.int .i64 d)),(5,.v (.int .i64 s))]) .nil (λs q=>[lx a3 (x0.1,i.2) a b]) U ?_ ?_
  ·intro t _ h;refine V.co ab 9 0 h U (λh=>?_) (λh=>?_)
   ·exact V.a5 ab 3 0 h () [0] U
   exact V.a5 ab 1 0 h () [0] U
  rintro u _ h;refine V.co ab 11 0 h U (λh=>?_) (λh=>?_)
  ·cases h;exact V.rx ab 4 0 () [0] U
  refine V.co ab 5 0 h U (λh=>?_) (λh=>?_)
  ·cases h;exact V.rx ab 4 0 () [0] U
  refine V.co ab 5 0 h U (λh=>?_) (λh=>?_)
  ·cases h;exact V.rx ab 4 0 () [0] U
  refine V.co ab 5 0 h U (λh=>?_) (λh=>?_)
  ·cases h;exact V.rx ab 4 0 () [0] U
  refine V.co ab 5 0 h U (λh=>?_) (λh=>?_)
  ·cases h;exact V.rx ab 4 0 () [0] U
  refine V.co ab 5 0 h U (λh=>?_) (λh=>?_)
  ·cases h;exact V.rx ab 4 0 () [0] U
  refine V.co ab 5 0 h U (λh=>?_) (λh=>?_)
  ·cases h;exact V.rx ab 4 0 () [0] U
  refine V.co ab 5 0 h U (λh=>?_) (λh=>?_)
  ·refine V.bI ab 5 0 h c.hc [0] [0] U ?_;rintro⟨v,w⟩ _ h;obtain⟨j,h⟩:=bG h;obtain⟨k,h⟩:=bG h;cases h;exact V.rx ab 4 0 () [0] ⟨j,k,U⟩
  refine V.co ab 5 0 h U (λh=>?_) (λh=>?_)
  ·refine V.bI ab 5 0 h c.hc [0] [0] U ?_;rintro⟨x,y⟩ _ h;obtain⟨l,h⟩:=bG h;obtain⟨m,h⟩:=bG h;cases h;exact V.rx ab 4 0 () [0] ⟨l,m,U⟩
  refine V.co ab 5 0 h U (λh=>?_) (λh=>?_)
  ·refine V.bI ab 5 0 h c.nF [0] [0] U ?_;rintro⟨z,A⟩ _ h;obtain⟨n,h⟩:=bG h;obtain⟨o,h⟩:=bG h;cases h;exact V.rx ab 4 0 () [0] ⟨n,o,U⟩
  refine V.co ab 5 0 h U (λh=>?_) (λh=>?_)
  ·cases h;exact V.rx ab 4 0 () [0] U
  refine V.go ab 4 0 U ?_;refine V.cl (aJ.kt U (cK.buildSlice ab U U U U U U U U U U U [] U .str [([97]:aa),([98,49]:aa),([120,61,49]:aa),([102,105,108,101]:aa),([195,169]:aa),([105,110]:aa),([97,35,98]:aa)] ⟨U,U⟩ U U λB=>aJ.ku (V.cz ?_)));refine V.bI ab 1 0 h wT [1] [0] U ?_;rintro⟨f,C⟩ _ h;refine V.cl (aJ.iY 2 U λe=>V.cz ?_);obtain⟨g,h⟩:=bG h;refine V.go ab 1 0 ⟨e.ix g,U⟩ ?_;refine V.cl (aJ.load ab U U U U U U U 2 U U (Int.toNat f) 0 (at' ([([97]:aa),([98,49]:aa),([120,61,49]:aa),([102,105,108,101]:aa),([195,169]:aa),([105,110]:aa),([97,35,98]:aa)]:bs) f) ⟨mN g,U⟩ U U (V.cz ?_));cases h;exact V.rx ab 2 0 () [0] U
def kz:Nat->bh
 |0=>⟨λ_ _ _=>none,λ_ _ _=>none,λ_ _ _ _=>none,λ_=>none,λ_ _ _=>none,λ_ _=>none⟩
 |n+1=>⟨D5 (kz n),Hw (kz n),Ev (kz n),HX (kz n),HZ (kz n),H2 (kz n)⟩
theorem B_:∀n,hZ (kz n)
 |0=>⟨λh=>(C5 _ (Eq.symm (show none=some _ from h))).elim,λh=>(C5 _ (Eq.symm (show none=some _ from h))).elim,λh=>(C5 _ (Eq.symm (show none=some _ from h))).elim,λh=>(C5 _ (Eq.symm (show none=some _ from h))).elim,λh=>(C5 _ (Eq.symm (show none=some _ from h))).elim,λh=>(C5 _ (Eq.symm (show none=some _ from h))).elim⟩
 |n+1=>⟨af4 (B_ n),agk (B_ n),ahI (B_ n),ahT (B_ n),aib (B_ n),aih (B_ n)⟩
def sc:bh:=kz bC
theorem Lp:hZ sc:=B_ bC
def Lq(x0:aa)(d:Int->Option (aa×Int×Int))(b:(Int×Int)->Option (aa×Int×Int)):(Int×Int)->Option (aa×Int×Int):=λ(c,a)=>
 (bif(bif(decide (a<(x0.length:Int))) then(decide (a<4000)) else false) then(a8 (0<=a/\a<(x0.length:Int))<|b ((W (((BitVec.ofInt (IntKind.bits .i64) (W ((W ((W (c*137))+((at' x0 a).toNat:Int)))+7))&&&BitVec.ofInt (IntKind.bits .i64) 1073741823).toNat:Int))),(W (a+1)))) else d c)
def Ez(x0:aa):Option (aa×Int×Int):=
 (a9 (λ(a:Int)=>some (x0,0,a)) λb=>(fixF (Lq x0 b) bC ((W (600128+(x0.length:Int))),0)))
theorem aik{x0:aa}{a2:bL}{a:Nat}{r:aa×Int×Int}(h:Ez x0=some r):
  FC Tryz.prog 20 [.slice a2 x0.length a] [lM a2 x0 a] (λ_:bL=>True) (λq=> .pointer q) (λq=>[lx q (x0,r.2) a2 a]):=
 by
  refine V.fE (T:=ck) Tryz.call20 Tryz.func20 U λ_=>?_;unfold Ez at h;refine V.c8 ab 16 0 h (ρ:=Unit) (λs q=>[(0,.v (.slice a2 x0.length a)),(3,.v (.int .i64 s))]) .nil (λs q=>[]) U ?_ ?_
  ·intro j _ h;refine V.e7 ab 0 0 h (ρ:=Unit) (λs q=>[(0,.v (.slice a2 x0.length a)),(3,.v (.int .i64 s.1)),(4,.v (.int .i64 s.2))]) .nil (λs q=>[]) () [] U ?_;rintro i ⟨c,b⟩ _ h;rw[Lq] at h;refine V.co ab 12 0 h U (λh=>?_) (λh=>?_)
   ·refine V.go ab 4 0 U ?_;refine V.cl (aJ.iY 0 U λe=>V.cz ?_);obtain⟨g,h⟩:=bG h;refine V.go ab 5 0 ⟨e.ix g,U⟩ ?_;refine V.cl (aJ.load ab U U U U U U U 0 U U (Int.toNat b) 0 (at' x0 b) ⟨mN g,U⟩ U U (V.cz ?_));refine V.cl (aJ.eE ab 5 [((at' x0 b).toNat:Int),(W ((W (c*137))+((at' x0 b).toNat:Int))),(W ((W ((W (c*137))+((at' x0 b).toNat:Int)))+7)),(W (((BitVec.ofInt (IntKind.bits .i64) (W ((W ((W (c*137))+((at' x0 b).toNat:Int)))+7))&&&BitVec.ofInt (IntKind.bits .i64) 1073741823).toNat:Int)))] [] [(3,.v (.int .i64 (W (((BitVec.ofInt (IntKind.bits .i64) (W ((W ((W (c*137))+((at' x0 b).toNat:Int)))+7))&&&BitVec.ofInt (IntKind.bits .i64) 1073741823).toNat:Int)))))] _ U ⟨⟨trivial,JU _⟩,⟨trivial,U⟩,⟨trivial,U⟩,⟨trivial,U⟩,⟨U,trivial⟩,U⟩ (V.cz ?_));exact V.el ab 7 0 h () [] U
   exact V.a5 ab 1 0 h () [] U
  rintro f _ h;refine V.jT (aR.Dv ab 5 [] [9] [(2,.eU 9 0),(31,.eU 9 0)] (.new 9 36 [.slice a2 x0.length a,.int .i64 0,.int .i64 f] .nil) ⟨(fD U),(jk U U)⟩ U U (V.iA ?_));refine V.jT (aR.unbox 9 U (B':= .nil) trivial U (.pair .val (.pair (.int .i64) (.int .i64))) ((bA.v ⟨a2,x0.length,a⟩),0,f) ⟨U,U,U⟩ (λd=>[(0,.v (.slice a2 x0.length a)),(2,.bj ⟨d,1,1⟩ 0),(3,.v (.int .i64 f)),(31,.bj ⟨d,1,1⟩ 0)]) (λ_=>(fD U)) λd=>V.iA ?_);cases h;exact V.rt ab 0 0 d [0] U
def EA(x0:aa):Option aa:=
 (av (Ez x0) λ(d:aa×Int×Int)=>(av (sc.hc (x0,d.2) 3 ([])) λ(a,e)=>(a9 (λ((f,h,i):aa×Int×Int)=>some f) λb=>(av (k9 (x0,e.2) 4) λ(g,c)=>(bif(decide (g=0)) then(a8 (((([99,97,116,32,60,60,69,59,32]:aa).length+a.length:Nat):Int)<=9223372036854775807)<|(a8 ((((([99,97,116,32,60,60,69,59,32]:aa)++a).length+([10,98,111,100,121,10,69,10]:aa).length:Nat):Int)<=9223372036854775807)<|b (((([99,97,116,32,60,60,69,59,32]:aa)++a)++([10,98,111,100,121,10,69,10]:aa)),c.2))) else b (a,c.2))))))
theorem aim{x0:aa}{a2:bL}{a:Nat}{r:aa}(h:EA x0=some r):
  FC Tryz.prog 17 [.slice a2 x0.length a] [lM a2 x0 a] (λ_:Unit=>True) (λ_=> .string (a7 r)) (λ_=>[]):=
 by
  refine V.fE (T:=ck) Tryz.call17 Tryz.func17 U λ_=>?_;unfold EA at h;refine V.cI ab 7 0 h aik [0] U λe b h=>?_;refine V.cl (aJ.ptr 6 b U (V.cz ?_));refine V.bI ab 5 0 h Lp.hc [0] [0] U ?_;rintro⟨f,g⟩ _ h;refine V.e6 ab 2 0 h (ρ:=Unit) (λs q=>[(4,.v (.string (a7 s.1)))]) .nil (λs q=>[lx b (x0,s.2) a2 a]) U ?_ ?_
  ·intro i _ h;refine V.bI ab 3 0 h wT [0] [0] U ?_;rintro⟨j,k⟩ _ h;refine V.co ab 2 0 h U (λh=>?_) (λh=>?_)
   ·obtain⟨c,h⟩:=bG h;obtain⟨d,h⟩:=bG h;exact V.a5 ab 6 0 h () [0] ⟨c,d,U⟩
   exact V.a5 ab 1 0 h () [0] U
  rintro⟨l,m,n⟩ _ h;cases h;exact V.rt ab 5 0 () [] U
def H3(x0:aa)(a:aa):Option Bool:=
 (a8 (((decide ((a.length:Int)<=(x0.length:Int)))=true)->0<=(W ((x0.length:Int)- (a.length:Int)))/\(W ((x0.length:Int)- (a.length:Int)))<=(x0.length:Int)/\(x0.length:Int)<=(x0.length:Int))<|some (bif(decide ((a.length:Int)<=(x0.length:Int))) then(decide ((b9 x0 (W ((x0.length:Int)- (a.length:Int))) (x0.length:Int))=a)) else false))
theorem ain{x0:aa}{a:aa}{r:Bool}(h:H3 x0 a=some r):
  FC Tryz.prog 35 [.string (a7 x0),.string (a7 a)] [] (λ_:Unit=>True) (λ_=> .bool r) (λ_=>[]):=
 by refine V.fE (T:=ck) Tryz.call35 Tryz.func35 U λ_=>?_;unfold H3 at h;obtain⟨b,h⟩:=bG h;cases h;exact V.rt ab 24 0 () [] ⟨b,U⟩
def Lt(x0:aa)(a:aa):Option Bool:=
 (av (H3 x0 a) λ(b:Bool)=>some b)
theorem aio{x0:aa}{a:aa}{r:Bool}(h:Lt x0 a=some r):
  FC Tryz.prog 25 [.string (a7 x0),.string (a7 a)] [] (λ_:Unit=>True) (λ_=> .bool r) (λ_=>[]):=
 by refine V.fE (T:=ck) Tryz.call25 Tryz.func25 U λ_=>?_;unfold Lt at h;refine V.cI ab 8 0 h ain [] U λb _ h=>?_;cases h;exact V.rt ab 2 0 () [] U
def Ca(x0:aa):Option aa:=
 (av (Lt x0 ([10]:aa)) λ(a:Bool)=>(bif a then some x0 else(a8 (((x0.length+([10]:aa).length:Nat):Int)<=9223372036854775807)<|some (x0++([10]:aa)))))
theorem QU{x0:aa}{r:aa}(h:Ca x0=some r):
  FC Tryz.prog 13 [.string (a7 x0)] [] (λ_:Unit=>True) (λ_=> .string (a7 r)) (λ_=>[]):=
 by
  refine V.fE (T:=ck) Tryz.call13 Tryz.func13 U λ_=>?_;unfold Ca at h;refine V.cI ab 8 0 h aio [] U λb _ h=>?_;refine V.co ab 1 0 h U (λh=>?_) (λh=>?_)
  ·cases h;exact V.rt ab 5 0 () [] U
  obtain⟨a,h⟩:=bG h;cases h;exact V.rt ab 7 0 () [] ⟨a,U⟩
theorem aip(aA a b:bL)(w:World):CallsD Tryz.prog 29 #[.pointer aA,.pointer a,.pointer b] .returning w λe c w'=>e= .returned (.tuple #[])/\c= .returning/\w'=w:=by refine callsD_of_wpS Tryz.func29 U λd cs hu=>?_;apply wpS_seq;apply wpS_region;simp[wpOpsS,go_sem,recoverD,hu,Tryz.ntmps29,Exit.thenS];apply wpS_seq;apply wpS_region;simp[wpOpsS,go_sem,recoverD,hu,Tryz.ntmps29,Exit.thenS,Op.equal];refine wpS_cond (t:=false) (by simp[Act.eval,Array.replicate]) ?_;simp only[eC,cm];refine wpS_of_wp (wp_skip ?_);cases d;simp_all [bodyPostS,results,Tryz.results29]
theorem QV:∀{e:Env}{t:Nat}{x:eW},c6 e t=some x->(t,x)∈e
 |[],t,x,h=>by simp[c6] at h
 |(k,y)::r,t,x,h=>by
  simp only[c6] at h;cases hk:Nat.beq k t with
  |true=>rw[hk,aK] at h;have:=v5 hk;cases h;subst this;exact List.mem_cons_self
  |false=>rw[hk,aS] at h;exact Nq _ (QV h)
theorem aR.enter{P:Program}{T:dQ}{X:bp}{w0:World}{nt:Nat}{x:Code}{Q:Exit->Act->World->Prop}{a:Act}{w:World}(β:Nat->Nat)(e:Env){O:bb}
  (he:∀p∈e,p.1<a.tmps.size/\p.2.is β a (a.tmps.getD p.1 undef)) (hf:e.all (λp=>flat p.2)=true) (ax:a.tmps.size=nt) (aH:a.defers=[])
  (hk:Keep X w0 w) {L:bp} (g:gu w O L) (c:L.Nodup) (bk:∀b∈L,w0.heap.size<=b\/b∈X)
  (h:∀fin,fin=Q->aR {P,T,X,w0,nt,fin} [.c x] e .nil [] O):x.wp P Q a w:=by
 have:=h Q U a w β ⟨λt y d=>he _ (QV d),λt y d=>oZ.1 hf _ (QV d),ax,aH,⟨hk,?_,L,g,by simpa[bN.ids] using c,λb i=>bk b (by simpa[bN.ids] using i),λf hf=>by cases hf⟩⟩
 ·refine wp_mono (show x.wp P (hG {P,T,X,w0,nt,fin:=Q} []) a w from this) ?_;intro e a w h;exact h
 ·intro k hk;simp[bN.ids] at hk
theorem aiq(code c:Int)(s:aa)(p:Int)(o:Value)(n:Int)(ao:bL)(lo g:Nat)(k:Int)(u x:Int)(y:Value)(aA i j f:bL)(w:World)(L:bp)
  (D:gu w [⟨.val,⟨aA,1,1⟩,[.pointer f]⟩,⟨.pair (.int .i64) (.int .i64),⟨i,1,1⟩,[(u,x)]⟩,⟨.val,⟨j,1,1⟩,[y]⟩,⟨DA,⟨f,1,1⟩,[(s,p,o,n,(bA.v ⟨ao,lo,g⟩),k)]⟩] L) (q:L.Nodup):
  CallsD Tryz.prog 29 #[.pointer aA,.pointer i,.pointer j] (.panicking [{v:= .iface 39 (.agg #[.int .i64 code,.int .i64 c]),recovered:=false}]) w λe E w'=>
   E= .panicking [{v:= .iface 39 (.agg #[.int .i64 code,.int .i64 c]),recovered:=true}]/\e= .returned (.tuple #[])/\Keep L w w'/\
   ∃L',gu w' [⟨.val,⟨aA,1,1⟩,[.pointer f]⟩,⟨.pair (.int .i64) (.int .i64),⟨i,1,1⟩,[(code,c)]⟩,⟨.val,⟨j,1,1⟩,[bA.v ⟨ao,lo,g⟩]⟩,⟨DA,⟨f,1,1⟩,[(s,p,o,n,(bA.v ⟨ao,lo,g⟩),k)]⟩] L'/\L'.Nodup/\∀b∈L',b∈L\/w.heap.size<=b:=by
 refine callsD_of_wpS Tryz.func29 U λH cs hu=>?_;apply wpS_seq;apply wpS_region;simp[wpOpsS,go_sem,recoverD,hu,Tryz.ntmps29,Exit.thenS];refine wpS_of_wp ?_;refine aR.enter (T:=ck) (X:=L) (w0:=w) (nt:=22) (λ_=>0) [(3,.v (.iface 39 (.agg #[.int .i64 code,.int .i64 c]))),(0,.v (.pointer aA)),(1,.v (.pointer i)),(2,.v (.pointer j))] ?_ U (by simp) U (Keep.refl _ _) D q (λb r=> .inr r) ?_
 ·simp[eW.is]
 intro fin z;have m:wk {P:=Tryz.prog,T:=ck,X:=L,w0:=w,nt:=22,fin:=fin}:=by subst z;intro I d v a w h;obtain⟨ad,F⟩:=h;exact⟨by rw[put_defers] at ad;exact ad,F⟩
 refine aR.ptr 0 aA U (aR.ptr 1 i U (aR.ptr 2 j U ?_));refine aR.seq (aR.region (aJ.eE ab 1 [] [] [(7,.v (.iface 39 (.agg #[.int .i64 code,.int .i64 c])))] _ U ⟨⟨U,trivial⟩,U⟩ (aJ.ad0 U U ⟨_,U⟩ U U Tryz.underlying20 ⟨_,U⟩ U (aJ.done U ?_))));refine aR.cond U (λl=>?_) (λl=>absurd l (by decide));refine aR.seq (aR.region (aJ.eE ab 1 [] [] [(10,.v (.iface 39 (.agg #[.int .i64 code,.int .i64 c])))] _ U ⟨⟨U,trivial⟩,U⟩ (aJ.ad1 ab U U U U U U U U ?_)));refine aJ.oz ab 6 [] [1] [(4,.eU 1 0),(5,.v (.bool true))] (.new 1 39 [.int .i64 code,.int .i64 c] .nil) U ⟨fD U,jk U U⟩ (aJ.done U ?_);refine aR.seq (aR.seq (aR.region (aJ.eE ab 2 [] [] [(15,.v (.bool false))] _ U ⟨⟨U,trivial⟩,U⟩ (aJ.done U ?_))));refine aR.cond U (λl=>absurd l (by decide)) (λl=>aR.skip ?_);refine aR.iY 3 U λhk=>?_;refine aR.rQ U (.new 1 39 [.int .i64 code,.int .i64 c] .nil) [0,3] [5,6] (jk U U) U (λJ=>?_);refine bE.eE ab m true 6 [0] U (by kernel_rfl) [] [(17,.v (.agg #[.int .i64 code,.int .i64 c]))] (jk U U) [0,3] U U ⟨U,trivial⟩ ?_;refine bE.kG ab m 1 U (by kernel_rfl) U U U U U 0 U U 0 0 (.pointer f) ⟨U,U⟩ U U U (jk U U) [0,3] U ?_;refine cK.ptr 18 f U ?_;refine bE.eE ab m true 3 [2,3] U (by kernel_rfl) [] [(20,.bj ⟨f,1,1⟩ 4)] (jk U U) [0,3] U U ⟨(hk.fQ fR).1,hk.fQ fR,⟨U,trivial⟩⟩ ?_;refine bE.kG ab m 4 U (by kernel_rfl) U U U U U 1 U U 0 4 (s,p,o,n,(bA.v ⟨ao,lo,g⟩),k) ⟨U,U⟩ U U U (jk U U) [0,3] U ?_;refine bE.one 5 (by kernel_rfl) (cK.qv ab U U U U U U U U U [1] (fs:=[]) U 0 0 (u,x) (code,c) ⟨U,U⟩ ⟨U,U,U⟩ (bE.nC U ?_));refine bE.one 6 (by kernel_rfl) (cK.qv ab U U U U U U U U U [2] (fs:=[]) U 0 0 y (bA.v ⟨ao,lo,g⟩) ⟨U,U⟩ ⟨U,U,U,U⟩ (bE.nC U ?_));refine bE.done (by kernel_rfl) (aR.boxes (B':= .nil) trivial ?_);intro a w' β t;subst z;obtain⟨_,_,G,A,B,C,_⟩:=t.inv.pick (idx:=[2,1,0,0]) rfl;simp only[bN.ids,List.map_nil,tD,rE] at A B C;exact⟨t.hU,_,U,_,by simp[results,Tryz.results29],U,U,t.inv.xC,G,A,B,λb r=>(C b r).symm⟩
def Lu(w0:World)(r:(Int×Int)×bs×Int):Ending->World->Prop:=
 JF w0 (λ_:bL×Nat=>True) (λq=> .tuple #[.agg #[.int .i64 r.1.1,.int .i64 r.1.2],.slice q.1 r.2.1.length q.2,.int .i64 r.2.2]) (λq=>[⟨.str,⟨q.1,r.2.1.length,q.2⟩,r.2.1⟩])
theorem WU{w:World}{O:bb}{L:bp}(h:gu w O L){f:Fact}(hf:f∈O):∃M,f.rep false w M:=by obtain⟨M,a,_⟩:=h.mem hf;exact⟨M,Fact.pO a⟩
theorem WV{tmps:Array Value}{w:World}{L:bp}{a2 a3:bL}{e5 a n:Int}{O:bb}(d:tmps.getD 2 undef= .pointer a2)(e:tmps.getD 3 undef= .pointer a3)(f:tmps.getD 4 undef= .int .i64 n)
  (c:gu w O L) (g:⟨.pair (.int .i64) (.int .i64),⟨a2,1,1⟩,[(e5,a)]⟩∈O) {ao:bL} {lo b:Nat} (h:⟨.val,⟨a3,1,1⟩,[bA.v ⟨ao,lo,b⟩]⟩∈O):
  (results Tryz.f23 tmps).run Tryz.prog w= .ok (.tuple #[.agg #[.int .i64 e5,.int .i64 a],.slice ao lo b,.int .i64 n]) w:=by
 obtain⟨r,i⟩:=WU c g;obtain⟨j,k⟩:=WU c h;have l:=Vg (P:=Tryz.prog) ab (q:=2) (t:=39) U d i U U U (v:= .agg #[.int .i64 e5,.int .i64 a]) U;have m:=Vg (P:=Tryz.prog) ab (q:=3) (t:=29) U e k U U U (v:= .slice ao lo b) U;have o:(xJ tmps (.tmp 4)).run Tryz.prog w= .ok (.int .i64 n) w:=by simp only[xJ,f];rfl
 have p:Tryz.f23.results= #[.cell 2 39,.cell 3 29,.tmp 4]:=U;rw[Uh,p,Array.mapM_eq_mapM_toList];simp only[o1,Sem.run_map,List.mapM_cons,List.mapM_nil,l,m,o,y8];rfl
theorem air{a:Act}{w0 w:World}{L:bp}{aA a2 a3:bL}{e5 b n:Int}{O:bb}(aH:a.defers=[{target:= .fn (.func 29) #[.pointer aA,.pointer a2,.pointer a3],args:= #[]}])
  (c:a.tmps.getD 2 undef= .pointer a2) (d:a.tmps.getD 3 undef= .pointer a3) (g:a.tmps.getD 4 undef= .int .i64 n) (hk:Keep [] w0 w)
  (h:gu w O L) (i:⟨.pair (.int .i64) (.int .i64),⟨a2,1,1⟩,[(e5,b)]⟩∈O) (j:⟨.val,⟨a3,1,1⟩,[bA.v ⟨none,0,0⟩]⟩∈O):
  Leaves Tryz.prog Tryz.f23 a.tmps (Lu w0 ((e5,b),[],n)) a.defers .returning w:=by
 rw[aH];refine leaves_cons (f:=29) (args:= #[.pointer aA,.pointer a2,.pointer a3]) (by simp) (by simp[go_sem,invoke]) ?_;refine(aip aA a2 a3 w).mono ?_;rintro e k w' ⟨rfl,rfl,rfl⟩;show Leaves Tryz.prog Tryz.f23 a.tmps (Lu w0 ((e5,b),[],n)) [] .returning w';refine⟨_,WV c d g h i j,(none,0),trivial,U,hk,[],⟨[],[],⟨U,.inl ⟨U,U,U⟩⟩,U,U⟩,List.nodup_nil,by simp⟩
theorem ais{a b c:World}{L:bp}(h:Keep [] a b)(k:Keep L b c)(bk:∀x∈L,a.heap.size<=x):Keep [] a c:=
 ⟨k.os.trans h.os,k.tape.trans h.tape,k.output.trans h.output,lF h.size k.size,λx d _=>(k.block x (Nat.lt_of_lt_of_le d h.size) λhm=>Nat.lt_irrefl _ (Nat.lt_of_lt_of_le d (bk x hm))).trans (h.block x d (by simp))⟩
theorem ait{a:Act}{w0 w:World}{L:bp}{aA a2 a3 h:bL}{code c n:Int}{s:aa}{p:Int}{i:Value}{j:Int}{ao:bL}{d:Nat}{op:bs}{k:Int}
  (aH:a.defers=[{target:= .fn (.func 29) #[.pointer aA,.pointer a2,.pointer a3],args:= #[]}])
  (y:a.tmps.getD 2 undef= .pointer a2) (z:a.tmps.getD 3 undef= .pointer a3) (A:a.tmps.getD 4 undef= .int .i64 n) (hk:Keep [] w0 w)
  {l m:Int} {o:Value} (B:gu w [⟨.val,⟨aA,1,1⟩,[.pointer h]⟩,⟨.pair (.int .i64) (.int .i64),⟨a2,1,1⟩,[(l,m)]⟩,⟨.val,⟨a3,1,1⟩,[o]⟩,⟨DA,⟨h,1,1⟩,[(s,p,i,j,(bA.v ⟨ao,op.length,d⟩),k)]⟩,⟨.str,⟨ao,op.length,d⟩,op⟩] L)
  (q:L.Nodup) (r:∀b∈L,w0.heap.size<=b):
  Leaves Tryz.prog Tryz.f23 a.tmps (Lu w0 ((code,c),op,n)) a.defers (.panicking [{v:= .iface 39 (.agg #[.int .i64 code,.int .i64 c]),recovered:=false}]) w:=by
 rw[aH];refine leaves_cons (f:=29) (args:= #[.pointer aA,.pointer a2,.pointer a3]) (by simp) (by simp[go_sem,invoke]) ?_;obtain⟨C,t,D,u,rfl⟩:=gu.split (fs:=[⟨.val,⟨aA,1,1⟩,[.pointer h]⟩,⟨.pair (.int .i64) (.int .i64),⟨a2,1,1⟩,[(l,m)]⟩,⟨.val,⟨a3,1,1⟩,[o]⟩,⟨DA,⟨h,1,1⟩,[(s,p,i,j,(bA.v ⟨ao,op.length,d⟩),k)]⟩]) (gs:=[⟨.str,⟨ao,op.length,d⟩,op⟩]) B;obtain⟨E,F,G⟩:=hF.1 q;refine(aiq code c s p i j ao op.length d k l m o aA a2 a3 h w C D E).mono ?_;rintro e M w' ⟨rfl,rfl,x,L',H,N,I⟩;have J:gu w' [⟨.str,⟨ao,op.length,d⟩,op⟩] t:=u.frame λb g=>x.block b (u.lt b g) λK=>G b K b g U;show Leaves Tryz.prog Tryz.f23 a.tmps (Lu w0 ((code,c),op,n)) [] .returning w';refine⟨_,WV y z A H (by simp) (by simp),(ao,d),trivial,U,ais hk x (λb g=>r b (by simp[g])),t,J,F,λb g=>r b (by simp[g])⟩
theorem Lv(a:bL):a.map (·.add 0)=a:=by cases a<;>simp[Addr.add]
def z9(x0:aa):Option ((Int×Int)×bs×Int):=
 (av (Ca x0) λy=>match sc.kg (y,0,[],0,[],0) 0 true with
  |none=>none
  |some (.inl e)=>some ((e.1,e.2.1),e.2.2.2.2.2.2.1,0)
  |some (.inr r)=>some ((0,(r.2.1.length:Int)),[],r.1))
set_option maxHeartbeats 1000000 in
theorem WW{x0:aa}{r:(Int×Int)×bs×Int}(h:z9 x0=some r):
  FC Tryz.prog 23 [.string (a7 x0)] [] (λ_:bL×Nat=>True) (λq=> .tuple #[.agg #[.int .i64 r.1.1,.int .i64 r.1.2],.slice q.1 r.2.1.length q.2,.int .i64 r.2.2]) (λq=>[⟨.str,⟨q.1,r.2.1.length,q.2⟩,r.2.1⟩]):=by
 refine⟨Tryz.call23,λw _=>calls_of_wp_defers Tryz.func23 U ?_⟩;unfold z9 at h;obtain⟨y,k,h⟩:=jP h;rw[Tryz.ntmps23];refine aR.enter (T:=ck) (X:=[]) (w0:=w) (nt:=20) (λ_=>0) [(0,.v (.string (a7 x0)))] (O:=[]) ?_ U (by simp) U (Keep.refl _ _) (L:=[]) U List.nodup_nil (by simp) ?_
 ·simp[eW.is]
 intro fin j;refine aR.seq (aR.region (aJ.oz ab 3 [] [1,2] [(2,.eU 1 0),(3,.eU 2 0),(4,.v (.int .i64 0))] (.new 1 39 [.int .i64 0,.int .i64 0] (.new 2 29 [.slice none 0 0] .nil)) U ⟨fD U,jk U U⟩ (aJ.done U ?_)));refine aR.seq (aR.region (aJ.eE ab 1 [] [] [(6,.v (.string (a7 x0)))] _ U ⟨⟨U,trivial⟩,U⟩ (aJ.call U U U U (QU k) U [] U U λ_ _=>?_)));refine aJ.oz ab 2 [] [3] [(9,.eU 3 0)] (.new 1 39 [.int .i64 0,.int .i64 0] (.new 2 29 [.slice none 0 0] (.new 3 55 [.string (a7 y),.int .i64 0,.slice none 0 0,.int .i64 0,.slice none 0 0,.int .i64 0] .nil))) U ⟨⟨U,trivial⟩,jk U U⟩ ?_;refine aJ.unbox 3 U (B':= .new 1 39 [.int .i64 0,.int .i64 0] (.new 2 29 [.slice none 0 0] .nil)) (jk U U) U DA (y,0,(bA.v ⟨none,0,0⟩),0,(bA.v ⟨none,0,0⟩),0) ⟨U,U,U,U⟩ (λa=>[(2,.eU 1 0),(3,.eU 2 0),(4,.v (.int .i64 0)),(9,.bj ⟨a,1,1⟩ 0)]) (λ_=>fD U) λd=>?_;refine aJ.oz ab 2 [] [4] [(5,.eU 4 0)] (.new 1 39 [.int .i64 0,.int .i64 0] (.new 2 29 [.slice none 0 0] (.new 4 52 [.pointer d] .nil))) U ⟨⟨U,trivial⟩,jk U U⟩ (aJ.done U ?_);refine aR.unbox 1 U (B':= .new 2 29 [.slice none 0 0] (.new 4 52 [.pointer d] .nil)) (jk U U) U (.pair (.int .i64) (.int .i64)) (0,0) ⟨U,U⟩ (λa=>[(2,.bj ⟨a,1,1⟩ 0),(3,.eU 2 0),(4,.v (.int .i64 0)),(5,.eU 4 0)]) (λ_=>fD U) λa2=>?_;refine aR.unbox 2 U (B':= .new 4 52 [.pointer d] .nil) (jk U U) U .val (bA.v ⟨none,0,0⟩) ⟨U,U,U⟩ (λa=>[(2,.bj ⟨a2,1,1⟩ 0),(3,.bj ⟨a,1,1⟩ 0),(4,.v (.int .i64 0)),(5,.eU 4 0)]) (λ_=>fD U) λa3=>?_;refine aR.unbox 4 U (B':= .nil) trivial U .val (.pointer d) ⟨U,U,U⟩ (λa=>[(2,.bj ⟨a2,1,1⟩ 0),(3,.bj ⟨a3,1,1⟩ 0),(4,.v (.int .i64 0)),(5,.bj ⟨a,1,1⟩ 0)]) (λ_=>fD U) λaA=>?_;refine aR.pV (.pair .str .bool) bA.nil U U (aR.pV .str bA.nil U U ?_);refine aR.seq (aR.region (aJ.adN U U U U U U (aJ.defer U U U U U (aJ.done U ?_))));refine aR.seq (aR.region (aJ.kG ab U U U U U U 2 U U 0 0 (.pointer d) ⟨U,U⟩ U U U (aJ.ptr 11 d U ?_)));rcases hm:sc.kg (y,0,[],0,[],0) 0 true with _|⟨e|az⟩
 ·rw[hm] at h;cases h
 ·rw[hm] at h;cases h;refine aJ.Vf U U U U (Lp.kg (Q:=(none,0,none,0)) hm) U [5,1,0] U [] U U (λ_=>by simp) (λs v _ he _=>?_) (λs l _ he a w' β c=>?_)
  ·simp at he
  ·simp only[Ending.panicked.injEq] at he;subst he;subst j;obtain⟨_,_,m,f,g,i,_⟩:=(c.inv.pick (idx:=[3,4,3,0,1]) rfl).drop;simp only[bN.ids,List.map_nil,tD,rE] at f g i;refine Bi (ait (aA:=aA) (a2:=a2) (a3:=a3) c.hU ?_ ?_ ?_ c.inv.xC f g λb n=>(i b n).resolve_right (by simp))
   ·exact(c.env 2 _ U).2.trans (by rw[Lv])
   ·exact(c.env 3 _ U).2.trans (by rw[Lv])
   ·exact(c.env 4 _ U).2
 ·rw[hm] at h;cases h;refine aJ.Vf U U U U (Lp.kg (Q:=(none,0,none,0)) hm) U [5,1,0] U [] U U (λ_=>by simp) (λs v _ he o=>?_) (λs l _ he=>?_)
  ·simp only[AO] at he;subst he;refine aJ.eE ab 1 [] [] [(4,.v (.int .i64 az.1))] _ U ⟨⟨U,trivial⟩,U⟩ (aJ.done U ?_);refine aR.iY 0 U λhk=>?_;refine aR.seq (aR.region (aJ.kG ab U U U U U U 3 U U 0 0 (.pointer d) ⟨U,U⟩ U U U (aJ.ptr 13 d U ?_)));refine aJ.eE ab 2 [] [] [(15,.bj ⟨d,1,1⟩ 0)] _ U ⟨(hk.fQ fR).1,hk.fQ fR,⟨U,trivial⟩,U⟩ ?_;refine aJ.kG ab U U U U U U 0 U U 0 0 _ ⟨U,U⟩ U U U ?_;refine aJ.eE ab 3 [] [] [(18,.v (.agg #[.int .i64 0,.int .i64 (az.2.1.length:Int)])),(19,.v (.int .i64 az.1))] _ U ⟨fD U,U⟩ ?_;refine aJ.qv ab U U U U U U U U U [5] (fs:=[]) U 0 0 (0,0) (0,(az.2.1.length:Int)) ⟨U,U⟩ ⟨U,U,U⟩ ?_;refine aJ.qv ab U U U U U U U U U [5] (fs:=[]) U 0 0 (bA.v ⟨none,0,0⟩) (bA.v ⟨none,0,0⟩) ⟨U,U⟩ ⟨U,U,U,U⟩ ?_;refine aJ.eE ab 1 [] [] [(4,.v (.int .i64 az.1))] _ U ⟨⟨U,trivial⟩,U⟩ (aJ.done U ?_);intro a w' β c;subst j;obtain⟨_,_,m,f,g,i,_⟩:=c.inv;refine wp_ret (A2 (air (aA:=aA) (a2:=a2) (a3:=a3) c.hU ?_ ?_ ?_ c.inv.xC f (by simp) (by simp)))
   ·exact(c.env 2 _ U).2.trans (by rw[Lv])
   ·exact(c.env 3 _ U).2.trans (by rw[Lv])
   ·exact(c.env 4 _ U).2
  ·simp at he
def EB(x0:aa):Option Int:=
 (av (z9 x0) λ(a,c,b)=>(bif(!(decide (a.1=0))) then some (-1) else some b))
theorem aiu{x0:aa}{r:Int}(h:EB x0=some r):
  FC Tryz.prog 14 [.string (a7 x0)] [] (λ_:Unit=>True) (λ_=> .int .i64 r) (λ_=>[]):=
 by
  refine V.fE (T:=ck) Tryz.call14 Tryz.func14 U λ_=>?_;unfold EB at h;refine V.cI ab 7 0 h WW [] U ?_;rintro⟨a,c,b⟩ ⟨d,e⟩ h;refine V.cl (aJ.oz ab 8 [] [8] [(3,.eU 8 0),(5,.v (.int .i64 b))] (.new 8 39 [.int .i64 a.1,.int .i64 a.2] .nil) U ⟨(fD U),(jk U U)⟩ (V.cz ?_));refine V.co ab 8 0 h U (λh=>?_) (λh=>?_)
  ·cases h;exact V.rt ab 4 0 () [] U
  cases h;exact V.rt ab 6 0 () [] U
def ED(x0:aa):Option aa:=
 (a8 (((decide (0<(x0.length:Int)))=true)->0<=(W ((x0.length:Int)-1))/\(W ((x0.length:Int)-1))<(x0.length:Int))<|(bif(bif(decide (0<(x0.length:Int))) then(decide (((at' x0 (W ((x0.length:Int)-1))).toNat:Int)=(10:Int))) else false) then some x0 else(a8 (((x0.length+([10]:aa).length:Nat):Int)<=9223372036854775807)<|some (x0++([10]:aa)))))
theorem aiv{x0:aa}{r:aa}(h:ED x0=some r):
  FC Tryz.prog 31 [.string (a7 x0)] [] (λ_:Unit=>True) (λ_=> .string (a7 r)) (λ_=>[]):=
 by
  refine V.fE (T:=ck) Tryz.call31 Tryz.func31 U λ_=>?_;unfold ED at h;obtain⟨a,h⟩:=bG h;refine V.co ab 19 0 h ⟨a,U⟩ (λh=>?_) (λh=>?_)
  ·cases h;exact V.rt ab 5 0 () [] U
  obtain⟨b,h⟩:=bG h;cases h;exact V.rt ab 7 0 () [] ⟨b,U⟩
def z_(x0:aa):Option (ah×Int):=
 (av (ED x0) λ(p:aa)=>(av (sc.nE (p,0,0,([]:aq),0,0,[],([]:bs),false) ([]) ([]:bs) false) λ(q,a)=>(a9 (λ((c,d,e,f,b,g,h,i,j):ah)=>(a9 (λ((k,r,s,t,l,u,v,w,x):ah)=>(a9 (λ(y:Int)=>some ((k,r,s,t,l,y,v,w,x),q)) λm=>(bif(!(decide (l=2))) then m (k.length:Int) else m u))) λn=>(bif(decide (b=1)) then(av (vq (c,d,e,f,b,g,h,i,j) ([10]:aa)) λ(z:ah)=>n z) else n (c,d,e,f,b,g,h,i,j)))) λo=>(bif(bif(decide (a.2.2.2.2.1=0)) then(bif a.2.2.2.2.2.2.2.2 then true else(decide (0<(a.2.2.2.1.length:Int)))) else false) then(av (g3 a ([])) λ(A:ah)=>o A) else o a))))
theorem aiw{x0:aa}{r:ah×Int}(h:z_ x0=some r):
  FC Tryz.prog 24 [.string (a7 x0)] [] (λ_:bL×bt=>True) (λq=> .tuple #[.pointer q.1,.int .i64 r.2]) (λq=>eR q.1 r.1 q.2):=
 by
  refine V.fE (T:=ck) Tryz.call24 Tryz.func24 U λ_=>?_;unfold z_ at h;refine V.cI ab 8 0 h aiv [] U λb _ h=>?_;refine V.cl (aJ.oz ab 3 [] [3] [(4,.eU 3 0),(9,.eU 3 0)] (.new 3 47 (aeg (b,0,0,[],0,0,[],[],false) none 0 none 0) .nil) U ⟨(fD U),(jk U U)⟩ (V.cz ?_));refine V.go ab 4 0 U ?_;obtain⟨⟨c,v⟩,d,h⟩:=jP h;refine V.cl (aJ.unbox 3 U (B':= .nil) trivial U (.pair .str (.pair (.int .i64) (.pair (.int .i64) (.pair .val (.pair (.int .i64) (.pair (.int .i64) (.pair .str (.pair .val .bool)))))))) (b,0,0,(bA.v ⟨none,0,0⟩),0,0,[],(bA.v ⟨none,0,0⟩),false) ⟨U,U,U,U⟩ (λa=>[(0,.v (.string (a7 x0))),(4,.bj ⟨a,1,1⟩ 0),(6,.v (.string (a7 x0))),(7,.v (.string (a7 b))),(9,.bj ⟨a,1,1⟩ 0),(10,.bj ⟨a,1,1⟩ 0)]) (λ_=>(fD U)) λa=>V.cz ?_);refine V.cl (aJ.pV (.pair .str .bool) bA.nil U U (V.cz ?_));refine V.cl (aJ.pV .str bA.nil U U (V.cz ?_));refine V.cl (aJ.JP .str bA.nil U U (V.cz ?_));refine V.cl (aJ.pW U U U U (Lp.nE (Q:=(none,0,none,0)) d) U [2,1,0] U [0] U U ?_);rintro e-;refine V.cz ?_;refine V.e6 ab 2 0 h (ρ:=bt) (λs q=>[(4,.bj ⟨a,1,1⟩ 0),(5,.v (.int .i64 c))]) .nil (λs q=>gJ a s q) U ?_ ?_
  ·intro w _ h;refine V.co ab 22 1 h ⟨U,U,U,U,U,U,U,U,U,U⟩ (λh=>?_) (λh=>?_)
   ·refine V.bI ab 2 0 h pt [0,0,0] [] U λx g h=>?_;exact V.a5 ab 1 0 h g [1,2,0] U
   exact V.a5 ab 1 0 h e [1,2,0] U
  rintro⟨y,z,A,B,C,D,E,F,G⟩ i h;refine V.e6 ab 0 0 h (ρ:=bt) (λs q=>[(4,.bj ⟨a,1,1⟩ 0),(5,.v (.int .i64 c))]) .nil (λs q=>gJ a s q) U ?_ ?_
  ·intro H _ h;refine V.co ab 8 3 h ⟨U,U,U,U⟩ (λh=>?_) (λh=>?_)
   ·refine V.bI ab 2 0 h Qe [2,0,0] [] U λI j h=>?_;exact V.a5 ab 1 0 h j [1,2,0] U
   exact V.a5 ab 1 0 h i [0,1,2] U
  rintro⟨k,l,m,n,o,J,p,t,u⟩ f h;refine V.e6 ab 0 0 h (ρ:=Unit) (λs q=>[(4,.bj ⟨a,1,1⟩ 0),(5,.v (.int .i64 c))]) .nil (λs q=>eR a (k,l,m,n,o,s,p,t,u) f) U ?_ ?_
  ·intro K _ h;refine V.co ab 8 3 h ⟨U,U,U,U⟩ (λh=>?_) (λh=>?_)
   ·exact V.a5 ab 11 3 h () [0,1,2] ⟨U,U,U,U,U,U,U⟩
   exact V.a5 ab 1 0 h () [2,0,1] U
  rintro L _ h;cases h;exact V.rt ab 7 0 (a,f) [0,0,0] U
def aq_(x0:aa):Option Int:=
 (av (z_ x0) λ(a,b)=>(bif(!(decide (a.2.2.2.2.1=0))) then some (-1) else some b))
def Aa(x0:aa):Option (Int×Int):=
 (av (z9 x0) λ(a,b,c)=>some a)
theorem WY{x0:aa}{r:Int×Int}(h:Aa x0=some r):
  FC Tryz.prog 11 [.string (a7 x0)] [] (λ_:Unit=>True) (λ_=> .tuple #[.int .i64 r.1,.int .i64 r.2]) (λ_=>[]):=
 by refine V.fE (T:=ck) Tryz.call11 Tryz.func11 U λ_=>?_;unfold Aa at h;refine V.cI ab 8 0 h WW [] U ?_;rintro⟨a,b,c⟩ ⟨d,e⟩ h;refine V.cl (aJ.oz ab 8 [] [8] [(4,.eU 8 0)] (.new 8 39 [.int .i64 a.1,.int .i64 a.2] .nil) U ⟨⟨U,trivial⟩,(jk U U)⟩ (V.cz ?_));refine V.jl ab 2 0 U (by kernel_rfl) ?_;cases h;exact V.rt ab 7 0 () [] U
def H4(x0:aa):Option (Int×Int):=
 (av (z_ x0) λ(a,b)=>some (a.2.2.2.2.1,a.2.2.2.2.2.1))
theorem aiz{x0:aa}{r:Int×Int}(h:H4 x0=some r):
  FC Tryz.prog 12 [.string (a7 x0)] [] (λ_:Unit=>True) (λ_=> .tuple #[.int .i64 r.1,.int .i64 r.2]) (λ_=>[]):=
 by refine V.fE (T:=ck) Tryz.call12 Tryz.func12 U λ_=>?_;unfold H4 at h;refine V.cI ab 8 0 h aiw [] U ?_;rintro⟨b,c⟩ ⟨a,d,e,f,g⟩ h;refine V.go ab 2 0 U ?_;refine V.cl (aJ.ptr 9 a U (V.cz ?_));refine V.jl ab 5 0 U (by kernel_rfl) ?_;cases h;exact V.rt ab 11 0 () [] ⟨U,U,U,U,U,U,U⟩
def Lw(b:aa)(e:Unit->Option Bool)(c:Int->Option Bool):Int->Option Bool:=λa=>
 (bif(decide (a<(b.length:Int))) then(a9 (λ(_:Unit)=>c (W (a+1))) λd=>(a8 (0<=a/\a<(b.length:Int))<|(bif(decide (((at' b a).toNat:Int)=(10:Int))) then(a8 (0<=(0:Int)/\(0:Int)<=(W (a+1))/\(W (a+1))<=(b.length:Int))<|(av (Aa (b9 b 0 (W (a+1)))) λ(f,y23)=>(bif(decide (f=2)) then some false else d ()))) else d ()))) else e ())
def M_l_FnPrefix(x0:aa):Option Bool:=
 (bif(decide (1048576<(x0.length:Int))) then some true else(av (EA x0) λ(a:aa)=>(av (Aa a) λ(b,h)=>(av (H4 a) λ(c,i)=>(cR ((!(decide (b=c)))=false) (Ca a) [] λ(d:aa)=>(bif(bif(!(decide (b=c))) then true else(decide (d=[]))) then some false else(bif(!(decide (b=0))) then some true else(av (Ca a) λ(e:aa)=>(a9 (λ(_:Unit)=>(av (EB a) λ(f:Int)=>some (decide (0<f)))) λg=>(fixF (Lw e g) bC 0))))))))))
theorem ok_l_FnPrefix{x0:aa}{a2:bL}{b:Nat}{r:Bool}(h:M_l_FnPrefix x0=some r):
  FC Tryz.prog 6 [.slice a2 x0.length b] [lM a2 x0 b] (λ_:Unit=>True) (λ_=> .bool r) (λ_=>[]):=
 by
  refine V.fE (T:=ck) Tryz.call6 Tryz.func6 U λ_=>?_;unfold M_l_FnPrefix at h;refine V.co ab 11 0 h U (λh=>?_) (λh=>?_)
  ·cases h;exact V.rt ab 4 0 () [] U
  refine V.cI ab 4 0 h aim [0] U λa _ h=>?_;refine V.cI ab 5 0 h WY [] U ?_;rintro⟨i,j⟩ _ h;refine V.cI ab 9 0 h aiz [] U ?_;rintro⟨k,l⟩ _ h;refine V.hX ab 14 0 h QU [] U (λ_=>id) λm h=>?_;refine V.co ab 3 0 h U (λh=>?_) (λh=>?_)
  ·cases h;exact V.rt ab 4 0 () [] U
  refine V.co ab 7 0 h U (λh=>?_) (λh=>?_)
  ·cases h;exact V.rt ab 4 0 () [] U
  refine V.cI ab 4 0 h QU [] U λc _ h=>?_;refine V.c8 ab 7 0 h (ρ:=Unit) (λs q=>[(3,.v (.string (a7 a)))]) .nil (λs q=>[]) U ?_ ?_
  ·intro n _ h;refine V.e7 ab 0 0 h (ρ:=Unit) (λs q=>[(3,.v (.string (a7 a))),(8,.v (.string (a7 c))),(9,.v (.int .i64 s))]) .nil (λs q=>[]) () [] U ?_;rintro d e _ h;rw[Lw] at h;refine V.co ab 8 0 h U (λh=>?_) (λh=>?_)
   ·refine V.c8 ab 2 0 h (ρ:=Unit) (λs q=>[(3,.v (.string (a7 a))),(8,.v (.string (a7 c))),(9,.v (.int .i64 e))]) .nil (λs q=>[]) U ?_ ?_
    ·intro o _ h;obtain⟨f,h⟩:=bG h;refine V.co ab 7 0 h ⟨f,U⟩ (λh=>?_) (λh=>?_)
     ·obtain⟨g,h⟩:=bG h;refine V.cI ab 6 0 h WY [] ⟨g,U⟩ ?_;rintro⟨p,y23⟩ _ h;refine V.co ab 11 0 h U (λh=>?_) (λh=>?_)
      ·cases h;exact V.rt ab 4 0 () [] U
      exact V.a5 ab 2 0 h () [] U
     exact V.a5 ab 2 0 h () [] U
    rintro _ _ h
    try dsimp only at h
    exact V.el ab 5 0 h () [] U
   exact V.a5 ab 1 0 h () [] U
  rintro _ _ h;refine V.cI ab 3 0 h aiu [] U λt _ h=>?_;cases h;exact V.rt ab 3 0 () [] U
end
end Go.Eng
namespace Go.Eng
inductive dt(α:Type) where
 |ok (a:α) (r:aa) (pd:aq)
 |more (op:bs) (nd:aa) (pd:aq)
 |bad (r:aa)
 |deep (r:aa)
abbrev ak(α:Type):=aa->aq->dt α
def aU{α:Type}(a:α):ak α:=λr pd=> .ok a r pd
def ae{α β:Type}(m:ak α)(k:α->ak β):ak β:=λr pd=>match m r pd with
 | .ok a r pd=>k a r pd
 | .more op nd ds=> .more op nd ds
 | .bad r=> .bad r
 | .deep r=> .deep r
def lB:aq->aa
 |[]=>[]
 |d::ds=>d.1++10::lB ds
def cO(nd:aa)(ds:aq):aa->aa×aq
 |[]=>(nd,ds)
 |b::x=>if b=10 then cO (nd++10::lB ds) [] x else cO (nd++[b]) ds x
def ak.aM{α:Type}(m:ak α)(x:aa):ak α:=λr pd=>match m r pd with
 | .more op nd ds=> .more op (cO nd ds x).1 (cO nd ds x).2
 |y=>y
def ak.named{α:Type}(m:ak α)(n:aa):ak α:=λr pd=>match m r pd with
 | .more op nd ds=> .more (n::op) nd ds
 |y=>y
def b6{α:Type}(x:aa):ak α:=λ_ pd=> .more [] (cO [] pd x).1 (cO [] pd x).2
def bK{α:Type}:ak α:=λr _=> .bad r
def uo{α:Type}:ak α:=λr _=> .deep r
def ca{σ α:Type}(f:σ->ak (σ⊕α))(s:σ):ak α:=λr pd=>match f s r pd with
 | .ok (.inl s') r' b=>if r'.length<r.length then ca f s' r' b else .bad r'
 | .ok (.inr a) r' b=> .ok a r' b
 | .more op nd ds=> .more op nd ds
 | .bad r=> .bad r
 | .deep r=> .deep r
termination_by r=>r.length
def f_(b:UInt8):Bool:=b==32||b==9
def k_:aa->aa
 |[]=>[]
 |b::t=>if b=10 then b::t else k_ t
theorem Ab:∀(r:aa),(k_ r).length<=r.length
 |[]=>cX _
 |b::t=>by
  unfold k_;split
  ·omega
  ·exact lF (Ab t) (Nat.le_succ _)
def bu:aa->Option aa
 |[]=>some []
 |b::t=>if f_ b then bu t else if b=35 then bu (k_ t) else
  if b=92 then match t with
   |10::u=>if u=[] then none else bu u
   |_=>some (b::t)
  else some (b::t)
termination_by r=>r.length
decreasing_by
 all_goals simp_wf
 ·grind[Ab]
 ·omega
def la:bs:=[[60,60,45],[38,38],[124,124],[59,59],[60,60],[60,38],[60,62],[62,62],[62,38],[62,124],[38],[124],[59],[60],[62],[40],[41]]
def br(r:aa):aa:=(la.find? (λo=>o.isPrefixOf r)).getD []
def c1:aa->Bool
 |[]=>true
 |b::t=>f_ b||b==10||br (b::t)!=[]
def ga:aa->Bool
 |36::40::_=>true
 |36::123::_=>true
 |_=>false
def c4:aa->aa×Bool
 |[]=>([],true)
 |b::t=>if c1 (b::t) then([],true) else
  if b=92\/b=39\/b=34\/b=96\/ga (b::t) then([],false) else
  match c4 t with
  |(w,true)=>(b::w,true)
  |(_,false)=>([],false)
inductive Tok where
 |eof
 |line
 |op (o:aa)
 |word (t:aa) (plain:Bool)
deriving DecidableEq
def au:aa->Tok
 |[]=> .eof
 |b::t=>if b=10 then .line else if br (b::t)≠[] then .op (br (b::t)) else .word (c4 (b::t)).1 (c4 (b::t)).2
def bP(x:aa):ak Tok:=λr pd=>match bu r with
 |none=>b6 x r pd
 |some r'=> .ok (au r') r' pd
def bZ(n:Nat):ak Unit:=λr pd=> .ok () (r.drop n) pd
def gb:aa->Option aa
 |[]=>none
 |b::t=>if b=39 then some t else gb t
def gX:aa->Option aa
 |[]=>none
 |b::t=>if b=96 then some t else if b=92 then(match t with|[]=>none|_::u=>gX u) else gX t
inductive WZ where
 |ok (r:aa)
 |more (n:Nat)
 |bad (r:aa)
def hL:Nat->aa->WZ
 |d,[]=> .more (d+2)
 |d,b::t=>if b=39\/b=34\/b=92\/b=96\/ga (b::t) then .bad (b::t) else
  if b=40 then hL (d+1) t else
  if b=41 then match d with
   |ev+1=>hL ev t
   |0=>match t with
    |[]=> .more 1
    |c::u=>if c=41 then .ok u else .bad (b::t)
  else hL d t
def iG:aa->aa×aa
 |[]=>([],[])
 |b::t=>if b=10 then([],t) else((b::(iG t).1),(iG t).2)
theorem Lx:∀(r:aa),r≠[]->(iG r).2.length<r.length
 |[],h=>absurd rfl h
 |b::t,_=>by
  unfold iG;split
  ·simp
  ·rcases t with _|⟨c,u⟩
   ·exact xz _
   ·exact Nat.lt_trans (Lx (c::u) (by simp)) (xz _)
def ni(d:aa)(tabs:Bool):aa->Option aa
 |[]=>none
 |b::t=>if(if tabs then(iG (b::t)).1.dropWhile (· ==9) else(iG (b::t)).1)=d then some (iG (b::t)).2 else ni d tabs (iG (b::t)).2
termination_by r=>r.length
decreasing_by grind[Lx]
def lY:aq->aa->aa⊕aa
 |[],r=> .inl r
 |d::ds,r=>match ni d.1 d.2 r with
  |some r'=>lY ds r'
  |none=> .inr (lB (d::ds))
def jb:ak Unit:=λr pd=>match r with
 |[]=> .ok () [] pd
 |_::t=>match lY pd t with
  | .inl r'=> .ok () r' []
  | .inr nd=> .more [[60,60]] nd []
def cS:ak Bool:=ca (λsome=>ae (bP []) λt=>if t= .line then ae jb λ_=>aU (.inl true) else aU (.inr some)) false
def jq(f:aa->Option aa)(n:aa):ak Unit:=λr pd=>match f r with
 |some r'=> .ok () r' pd
 |none=> .more [n] n pd
def cC(D:ak Unit)(dq:Option (ak Unit)):ak Unit:=λr pd=>match r with
 |[]=> .ok () [] pd
 |b::t=>
  if b=92 then .ok () (t.drop 1) pd
  else if b=96 then jq gX [96] t pd
  else if ga (b::t) then D (b::t) pd
  else match dq with
   |none=> .ok () t pd
   |some q=>if b=39 then jq gb [39] t pd else if b=34 then q t pd else .ok () t pd
def jc(c:UInt8)(part:ak Unit):ak Unit:=ca (λ_ r pd=>match r with
 |[]=>b6 [] r pd
 |b::t=>if b=c then .ok (.inr ()) t pd else(ae part λ_=>aU (.inl ())) r pd) ()
def eH(D:ak Unit):ak Unit:=((jc 34 (cC D none)).aM [34]).named [34]
def qJ(D:ak Unit):ak Unit:=(jc 125 (cC D (some (eH D)))).aM [125]
def cP(D:ak Unit):ak Unit:=ca (λ_ r pd=>match r with
 |[]=>b6 [] r pd
 |_::_=>if c1 r then .ok (.inr ()) r pd else(ae (cC D (some (eH D))) λ_=>aU (.inl ())) r pd) ()
def jH(D:ak Unit)(x:aa):ak Unit:=ae (bP x) λt=>match t with
 | .eof=>b6 x
 | .word _ _=>cP D
 |_=>bK
def yr(b:UInt8):Bool:=(97<=b&&b<=122)||(65<=b&&b<=90)||b==95
def cb(b:UInt8):Bool:=48<=b&&b<=57
def lZ:aa->Bool
 |[]=>false
 |b::t=>yr b&&t.all λc=>yr c||cb c
def m1:aa:=[105,102]
def iQ:aa:=[116,104,101,110]
def ib:aa:=[101,108,105,102]
def hM:aa:=[101,108,115,101]
def e8:aa:=[102,105]
def gN:aa:=[100,111]
def iH:aa:=[100,111,110,101]
def wU:aa:=[119,104,105,108,101]
def H6:aa:=[117,110,116,105,108]
def nj:aa:=[102,111,114]
def px:aa:=[99,97,115,101]
def ep:aa:=[101,115,97,99]
def fl:aa:=[105,110]
def rk(w:aa):Bool:=[m1,iQ,ib,hM,e8,gN,iH,wU,H6,nj,px,ep,[123],[125],[33]].contains w
def qK(w:aa):Bool:=[m1,wU,H6,nj,px,[123]].contains w
def eV(o:aa):Bool:=[[60,60,45],[60,60],[60,38],[60,62],[62,62],[62,38],[62,124],[60],[62]].contains o
theorem yt:∀(r q:aa),gb r=some q->q.length<r.length
 |[],q,h=>by grind[gb]
 |b::t,q,h=>by
  unfold gb at h;split at h
  ·grind
  ·exact Nat.lt_trans (yt t q h) (xz _)
inductive jd where
 |closed (o r:aa)
 |part
 |open_ (o:aa)
def jd.add(x:aa):jd->jd
 | .closed o r=> .closed (x++o) r
 | .part=> .part
 | .open_ o=> .open_ (x++o)
def Ac(c:UInt8):aa:=if c=36\/c=34\/c=92\/c=96 then [c] else if c=10 then [] else [92,c]
def eA:aa->jd
 |[]=> .open_ []
 |b::t=>if b=34 then .closed [] t else if b=36\/b=96 then .part else
  if b=92 then match t with
   |[]=> .part
   |c::u=>(eA u).add (Ac c)
  else(eA t).add [b]
theorem jd.QZ{x:aa}{q:jd}{o r:aa}(h:q.add x= .closed o r):∃a,q= .closed a r:=by cases q<;>simp[jd.add] at h;simp_all
theorem EE:∀(r:aa)(o q:aa),eA r= .closed o q->q.length<r.length
 |[],o,q,h=>by grind[eA]
 |b::t,o,q,h=>by
  unfold eA at h;split at h
  ·grind
  ·split at h
   ·cases h
   ·split at h
    ·match t,h with
     |[],h=>cases h
     |c::u,h=>obtain⟨a,ad⟩:=jd.QZ h;have:=EE u a q ad;grind
    ·obtain⟨a,ad⟩:=jd.QZ h;have:=EE t a q ad;grind
def dm:aa->Option (aa×aa×aa)
 |[]=>some ([],[],[])
 |b::t=>if c1 (b::t) then some ([],b::t,[]) else
  if b=92 then match t with
   |[]=>none
   |c::u=>(dm u).map λq=>((if c=10 then [] else [c])++q.1,q.2)
  else if b=39 then match h:gb t with
   |none=>none
   |some r=>(dm r).map λq=>(t.take (t.length-r.length-1)++q.1,q.2)
  else if b=36\/b=96 then none else
  if b=34 then match h:eA t with
   | .part=>none
   | .open_ o=>some (o,[],[34])
   | .closed o r=>(dm r).map λq=>(o++q.1,q.2)
  else(dm t).map λq=>(b::q.1,q.2)
termination_by r=>r.length
decreasing_by
 all_goals simp_wf
 ·omega
 ·have:=yt t r h;omega
 ·have:=EE t o r h;omega
def hi(tabs:Bool):ak Unit:=(λr pd=>match bu r with
 |none=> .more [] [120] (pd++[([120],tabs)])
 |some r'=>match au r' with
  | .eof=> .more [] [120] (pd++[([120],tabs)])
  | .word _ _=>match dm r' with
    |none=> .bad r'
    |some (d,q,a)=>if d.contains 10 then .bad r' else
     if tabs/\d.head?=some 9 then .bad r' else
     if a≠[] then .more [a] a (pd++[(d,tabs)]) else
     if q=[] then .more [] [] (pd++[(d,tabs)]) else .ok () q (pd++[(d,tabs)])
  |_=> .bad r')
def fF:ak (Option aa):=λr pd=>match bu r with
 |none=>b6 [] r pd
 |some r'=>let q:=r'.dropWhile cb
  if eV (br q) then .ok (some (br q)) (q.drop (br q).length) pd else .ok none r' pd
def dy(D:ak Unit):ak Bool:=ae fF λo=>match o with
 |none=>aU false
 |some o=>ae (if o=[60,60] then hi false else if o=[60,60,45] then hi true else jH D [120]) λ_=>aU true
def gO(D:ak Unit):ak Unit:=ca (λ_=>ae (dy D) λb=>aU (if b then .inl () else .inr ())) ()
inductive Ctx where
 |text|paren|qL|rl|p9|ke|py|done|item
deriving DecidableEq
def cE(t:Tok)(w:aa):Bool:=t== .word w true
def dR(c:Ctx)(t:Tok):Bool:=match c with
 | .text=>t== .eof
 | .paren=>t== .op [41]
 | .qL=>cE t [125]
 | .rl=>cE t iQ
 | .p9=>cE t ib||cE t hM||cE t e8
 | .ke=>cE t e8
 | .py=>cE t gN
 | .done=>cE t iH
 | .item=>t== .op [59,59]||cE t ep
def m2(b:Tok->Bool)(n:Nat):ak Unit:=ae (bP []) λt=>if t= .eof then b6 [] else if b t then bZ n else bK
def jI(o:aa):ak Unit:=m2 (· == .op o) o.length
def cV(w:aa):ak Unit:=m2 (cE · w) w.length
structure dS where
 ls:Ctx->Bool->ak Nat
 pm:ak Unit
 cp:Tok->ak Unit
 rd:ak Unit
 dl:ak Unit
 has:Bool
def nk:ak Unit:=λt pd=>match hL 0 t with
 | .ok r'=> .ok () r' pd
 | .more n=> .more [[36,40,40]] (List.replicate n 41) pd
 | .bad r'=> .bad r'
def sd(lo:Option dS)(n:Nat)(f:dS->ak Unit):ak Unit:=match lo with
 |none=>uo
 |some l=>ae (bZ n) λ_=>f l
def uq(l:dS):ak Unit:=ae (((l.ls .paren true).aM [41]).named [36,40]) λ_=>jI [41]
def dH(lo:Option dS):ak Unit:=λr pd=>
 if [36,40,40].isPrefixOf r then ae (bZ 3) (λ_=>nk) r pd
 else if [36,40].isPrefixOf r then sd lo 2 uq r pd
 else if [36,123].isPrefixOf r then sd lo 2 (λl=>l.pm.named [36,123]) r pd
 else .ok () (r.drop 1) pd
def hs(t:Tok):Bool:=t== .op [40]||(match t with| .word w true=>qK w|_=>false)
def hv(fr:Bool)(D:ak Unit):ak Unit:=ca (λ_=>ae (dy D) λb=>if b then aU (.inl ()) else ae (bP []) λt=>match t with
 | .word _ _=>ae (cP D) λ_=>aU (.inl ())
 | .op o=>if fr/\o=[40] then bK else aU (.inr ())
 |_=>aU (.inr ())) ()
def l1(fr:Bool)(lo:Option dS):ak Unit:=match lo with
 |none=>uo
 |some l=>if l.has then
   (ae (bZ 1) λ_=>ae (bP [41,32,123,32,120,10,125]) λt=>if t= .eof then b6 [41,32,123,32,120,10,125] else if t= .op [41] then
    ae (bZ 1) λ_=>ae (cS.aM [123,32,120,10,125]) λ_=>ae (bP [123,32,120,10,125]) λt=>if t= .eof then b6 [123,32,120,10,125] else
     if hs t then ae (l.cp t) λ_=>if fr then l.rd else aU () else bK
    else bK).named [102,40,41]
  else uo
def iI(l:dS)(x:aa):ak Unit:=ae ((cV gN).aM x) λ_=>ae ((l.ls .done false).aM (10::iH)) λ_=>cV iH
def qM(l:dS):ak Unit:=ca (λ_=>ae ((l.ls .rl false).aM ([10]++iQ++[32,120,10]++e8)) λ_=>ae (cV iQ) λ_=>ae ((l.ls .p9 false).aM (10::e8)) λ_=>
    ae (bP []) λt=>if cE t ib then ae (cV ib) λ_=>aU (.inl ()) else
     if cE t hM then ae (cV hM) λ_=>ae ((l.ls .ke false).aM (10::e8)) λ_=>ae (cV e8) λ_=>aU (.inr ()) else ae (cV e8) λ_=>aU (.inr ())) ()
def eh:aa:=[10]++gN++[32,120,10]++iH
def s7:aa:=120::eh
def pz(D:ak Unit):ak Unit:=ca (λ_=>ae (bP []) λt=>match t with
 | .eof=>b6 []
 | .word _ _=>ae (cP D) λ_=>aU (.inl ())
 | .line=>aU (.inr ())
 | .op o=>if o=[59] then ae (bZ 1) λ_=>aU (.inr ()) else bK) ()
def pA(l:dS)(D:ak Unit):ak Unit:=ae (bP s7) λt=>match t with
 | .eof=>b6 s7
 | .word w true=>if lZ w then ae (bZ w.length) λ_=>
   ae ((ae (bP []) λt=>if t= .op [59] then ae (bZ 1) λ_=>ae cS λ_=>aU () else
    ae cS λ_=>ae (bP []) λt=>if cE t fl then ae (bZ 2) λ_=>ae (pz D) λ_=>ae cS λ_=>aU () else aU ()).aM eh) λ_=>iI l eh
  else bK
 |_=>bK
def kO(D:ak Unit):ak Unit:=ca (λ_=>ae (bP [120,41]) λt=>match t with
 | .eof=>b6 [120,41]
 | .word _ _=>ae ((cP D).aM [41]) λ_=>ae (bP [41]) λt=>match t with
   | .eof=>b6 [41]
   | .op o=>if o=[124] then ae (bZ 1) λ_=>aU (.inl ()) else if o=[41] then ae (bZ 1) λ_=>aU (.inr ()) else bK
   |_=>bK
 |_=>bK) ()
def nn(l:dS)(D:ak Unit):ak Unit:=ca (λ_=>ae cS λ_=>ae (bP []) λt=>if t= .eof then b6 [] else if cE t ep then ae (bZ 4) λ_=>aU (.inr ()) else
 ae ((if t= .op [40] then bZ 1 else aU ())) λ_=>ae (kO D) λ_=>ae (l.ls .item true) λ_=>ae (bP []) λt=>if t= .op [59,59] then ae (bZ 2) λ_=>aU (.inl ()) else aU (.inl ())) ()
def qN(l:dS)(D:ak Unit):ak Unit:=ae (bP ([120,32]++fl++[10]++ep)) λt=>match t with
 | .eof=>b6 ([120,32]++fl++[10]++ep)
 | .word _ _=>ae ((ae (cP D) λ_=>ae cS λ_=>ae (bP []) λt=>if t= .eof then b6 [] else aU t).aM ([32]++fl++[10]++ep)) λt=>
  if cE t fl then ae (bZ 2) λ_=>(nn l D).aM (10::ep) else bK
 |_=>bK
def hN(l:dS)(t:Tok):ak Unit:=match t with
 | .op _=>ae (bZ 1) λ_=>ae ((l.ls .paren false).aM [41]) λ_=>jI [41]
 | .word w _=>ae (bZ w.length) λ_=>
  if w=[123] then ae ((l.ls .qL false).aM [10,125]) λ_=>cV [125]
  else if w=m1 then qM l
  else if w=nj then pA l l.dl
  else if w=px then qN l l.dl
  else ae ((l.ls .py false).aM eh) λ_=>iI l eh
 |_=>bK
def mx:Tok->aa
 | .word w _=>w
 |_=>[40]
def se(lo:Option dS)(t:Tok):ak Unit:=match lo with
 |none=>uo
 |some l=>(hN l t).named (mx t)
def gk(fr:Bool)(lo:Option dS)(D:ak Unit):ak Unit:=ae (bP [120]) λt=>
 if t= .eof then b6 [120] else if hs t then ae (se lo t) λ_=>gO D else match t with
  | .op o=>if eV o then ae (dy D) λ_=>hv fr D else bK
  | .word w p=>if p&&rk w then bK else ae (dy D) λb=>if b then hv fr D else ae (cP D) λ_=>
   if p&&lZ w then ae (bP []) λt=>if t= .op [40] then ae (l1 fr lo) λ_=>if fr then aU () else gO D else hv fr D else hv fr D
  |_=>bK
def fi(da:ak Unit):ak Unit:=ae (bP [120]) λt=>ae (if cE t [33] then bZ 1 else aU ()) λ_=>ae da λ_=>
 ca (λ_=>ae (bP []) λt=>if t= .op [124] then ae (bZ 1) λ_=>ae (cS.aM [120]) λ_=>ae da λ_=>aU (.inl ()) else aU (.inr ())) ()
def hj(a:ak Unit):ak Unit:=ae a λ_=>
 ca (λ_=>ae (bP []) λt=>if t= .op [38,38]\/t= .op [124,124] then ae (bZ 2) λ_=>ae (cS.aM [120]) λ_=>ae a λ_=>aU (.inl ()) else aU (.inr ())) ()
def od(ao:ak Unit)(c:Ctx)(none:Bool):ak Nat:=ae (cS.aM (if none then [] else [120])) λ_=>ca (λn=>ae (bP (if none||n>0 then [] else [120])) λt=>
 if t= .eof then(if c= .text then aU (.inr n) else b6 (if none||n>0 then [] else [120])) else if(none||n>0)&&dR c t then aU (.inr n) else
 ae ao λ_=>ae (bP []) λt=>match t with
  | .eof=>aU (.inl (n+1))
  | .line=>ae cS λ_=>aU (.inl (n+1))
  | .word _ _=>bK
  | .op o=>if o=[59]\/o=[38] then ae (bZ 1) λ_=>ae cS λ_=>aU (.inl (n+1)) else if dR c t then aU (.inr (n+1)) else bK) 0
def aZ(fr:Bool):Nat->dS
 |0=>let D:=dH none;{ls:=od (hj (fi (gk fr none D))),pm:=qJ D,cp:=se none,rd:=gO D,dl:=D,has:=false}
 |n+1=>let lo:=some (aZ fr n);let D:=dH lo;{ls:=od (hj (fi (gk fr lo D))),pm:=qJ D,cp:=se lo,rd:=gO D,dl:=D,has:=true}
def hO(fr:Bool)(n:Nat)(r:aa):dt Nat:=(aZ fr n).ls .text true r []
def du(u:aa):Prop:=u=[]\/∃t,u=t++[10]
theorem du.tail{b:UInt8}{t:aa}(h:du (b::t)):du t:=by
 rcases h with h|⟨s,h⟩
 ·cases h
 ·cases s with
  |nil=>simp at h;exact .inl h.2
  |cons c s=>simp at h;exact .inr ⟨s,h.2⟩
theorem du.head{b:UInt8}(h:du [b]):b=10:=by
 rcases h with h|⟨s,h⟩
 ·cases h
 ·cases s with
  |nil=>grind
  |cons c s=>simp at h
theorem du.ne{b:UInt8}{t:aa}(h:du (b::t))(a:b≠10):t≠[]:=by rintro rfl;exact a h.head
theorem du.sfx{u r:aa}(h:du u)(a:r<:+u):du r:=by
 obtain⟨p,rfl⟩:=a;induction p with
 |nil=>exact h
 |cons b p c=>exact c h.tail
structure ar{α:Type}(f:ak α):Prop where
 sfx:∀{r:aa}{pd:aq}{a:α}{r':aa}{aD:aq},f r pd= .ok a r' aD->r'<:+r
 ok:∀{u:aa}{pd:aq}{a:α}{r':aa}{aD:aq}(v:aa),du u->f u pd= .ok a r' aD->r'≠[]->f (u++v) pd= .ok a (r'++v) aD
 bad:∀{u:aa}{pd:aq}{r':aa}(v:aa),du u->f u pd= .bad r'->r'≠[]/\r'<:+u/\f (u++v) pd= .bad (r'++v)
 deep:∀{u:aa}{pd:aq}{r':aa}(v:aa),du u->f u pd= .deep r'->r'≠[]/\r'<:+u/\f (u++v) pd= .deep (r'++v)
 nil:∀(pd:aq),(∃op nd ds,f [] pd= .more op nd ds)\/∃a,f [] pd= .ok a [] pd
theorem ar.ret{α:Type}(a:α):ar (aU a) where
 sfx h:=by cases h;simp
 ok v _ h _:=by cases h;rfl
 bad v _ h:=by cases h
 deep v _ h:=by cases h
 nil pd:= .inr ⟨a,rfl⟩
theorem ar.ae{α β:Type}{m:ak α}{k:α->ak β}(hm:ar m)(hk:∀a,ar (k a)):ar (ae m k) where
 sfx {r pd b r' l} h:=by
  unfold Go.Eng.ae at h;split at h
  ·rename_i a r1 c ad;exact List.IsSuffix.trans ((hk a).sfx h) (hm.sfx ad)
  all_goals cases h
 ok {u pd b r' l} v hu h n:=by
  unfold Go.Eng.ae at h⊢;split at h
  ·rename_i a r1 c ad;by_cases e:r1=[]
   ·subst e;rcases(hk a).nil c with⟨op,nd,ds,d⟩|⟨j,d⟩
    ·grind
    grind
   ·rw[hm.ok v hu ad e];exact(hk a).ok v (hu.sfx (hm.sfx ad)) h n
  all_goals cases h
 bad {u pd r'} v hu h:=by
  unfold Go.Eng.ae at h⊢;split at h
  ·rename_i a r1 c ad;by_cases e:r1=[]
   ·subst e;rcases(hk a).nil c with⟨op,nd,ds,d⟩|⟨j,d⟩<;>(grind)
   ·rw[hm.ok v hu ad e];obtain⟨f,g,i⟩:=(hk a).bad v (hu.sfx (hm.sfx ad)) h;exact⟨f,g.trans (hm.sfx ad),i⟩
  ·cases h
  ·rename_i r1 ad;cases h;obtain⟨f,g,i⟩:=hm.bad v hu ad;grind
  grind
 deep {u pd r'} v hu h:=by
  unfold Go.Eng.ae at h⊢;split at h
  ·rename_i a r1 c ad;by_cases e:r1=[]
   ·subst e;rcases(hk a).nil c with⟨op,nd,ds,d⟩|⟨j,d⟩<;>(grind)
   ·rw[hm.ok v hu ad e];obtain⟨f,g,i⟩:=(hk a).deep v (hu.sfx (hm.sfx ad)) h;exact⟨f,g.trans (hm.sfx ad),i⟩
  ·cases h
  ·cases h
  ·rename_i r1 ad;cases h;obtain⟨f,g,i⟩:=hm.deep v hu ad;grind
 nil pd:=by
  unfold Go.Eng.ae;rcases hm.nil pd with⟨op,nd,ds,h⟩|⟨a,h⟩
  ·simp_all
  simp_all[nil]
theorem ar.W0{α:Type}{m c:ak α}(hm:ar m)(h:∀r pd,c r pd=m r pd\/∃op nd ds d f g,m r pd= .more op nd ds/\c r pd= .more d f g):ar c where
 sfx {r pd a r' i} e:=by
  rcases h r pd with ad|⟨_,_,_,_,_,_,ad,b⟩
  ·exact hm.sfx (ad▸e)
  grind
 ok {u pd a r' i} v hu e j:=by
  rcases h u pd with ad|⟨_,_,_,_,_,_,ad,b⟩
  ·have:=hm.ok v hu (ad▸e) j;grind
  grind
 bad {u pd r'} v hu e:=by
  rcases h u pd with ad|⟨_,_,_,_,_,_,ad,b⟩
  ·obtain⟨k,l,this⟩:=hm.bad v hu (ad▸e);grind
  grind
 deep {u pd r'} v hu e:=by
  rcases h u pd with ad|⟨_,_,_,_,_,_,ad,b⟩
  ·obtain⟨k,l,this⟩:=hm.deep v hu (ad▸e);grind
  grind
 nil pd:=by
  rcases h [] pd with ad|⟨_,_,_,_,_,_,ad,b⟩
  ·rw[ad];exact hm.nil pd
  grind
theorem ar.aM{α:Type}{m:ak α}(hm:ar m)(x:aa):ar (m.aM x):=hm.W0 λr pd=>by unfold ak.aM;grind
theorem ar.named{α:Type}{m:ak α}(hm:ar m)(x:aa):ar (m.named x):=hm.W0 λr pd=>by unfold ak.named;grind
theorem ar.b6{α:Type}(x:aa):ar (b6 x:ak α) where
 sfx h:=by cases h
 ok v _ h _:=by cases h
 bad v _ h:=by cases h
 deep v _ h:=by cases h
 nil pd:= .inl ⟨_,_,_,rfl⟩
theorem p_{σ α:Type}(f:σ->ak (σ⊕α))(s:σ)(r:aa)(pd:aq):ca f s r pd=match f s r pd with
 | .ok (.inl s') r' b=>if r'.length<r.length then ca f s' r' b else .bad r'
 | .ok (.inr a) r' b=> .ok a r' b
 | .more op nd ds=> .more op nd ds
 | .bad r=> .bad r
 | .deep r=> .deep r:=by
 grind[ca]
structure iv{σ α:Type}(f:σ->ak (σ⊕α)):Prop where
 ex:∀s,ar (f s)
 lt:∀{s:σ}{r:aa}{pd:aq}{s':σ}{r':aa}{aD:aq},f s r pd= .ok (.inl s') r' aD->r'.length<r.length
theorem ar.rep{σ α:Type}{f:σ->ak (σ⊕α)}(h:iv f)(s:σ):ar (ca f s):=by
 have nil:∀s (pd:aq),(∃op nd ds,ca f s [] pd= .more op nd ds)\/∃a,ca f s [] pd= .ok a [] pd:=by
  intro s pd;rw[p_];rcases(h.ex s).nil pd with⟨op,nd,ds,e⟩|⟨a,e⟩
  ·simp_all
  ·rw[e];cases a with
   |inl s'=>exact absurd (h.lt e) (by simp)
   |inr a=>simp
 have sfx:∀(n:Nat)(s:σ)(r:aa)(pd:aq)(a:α)(r':aa)(d:aq),r.length<=n->ca f s r pd= .ok a r' d->r'<:+r:=by
  intro n;induction n with
  |zero=>
   intro s r pd a r' d ax e;have:r=[]:=nw.1 (by omega);subst this;rcases nil s pd with⟨op,nd,ds,q⟩|⟨a,q⟩<;>rw[q] at e<;>cases e
   simp
  |succ n i=>
   intro s r pd a r' d ax e;rw[p_] at e;split at e
   ·rename_i s1 r1 g b;rw[bm (h.lt b)] at e;have:=h.lt b;exact(i s1 r1 g a r' d (by omega) e).trans ((h.ex s).sfx b)
   ·rename_i b;cases e;exact(h.ex s).sfx b
   all_goals cases e
 have c:∀(n:Nat)(s:σ)(u:aa)(pd:aq)(v:aa),u.length<=n->du u->
   (∀a r' d,ca f s u pd= .ok a r' d->r'≠[]->ca f s (u++v) pd= .ok a (r'++v) d)/\
   (∀r',ca f s u pd= .bad r'->r'≠[]/\r'<:+u/\ca f s (u++v) pd= .bad (r'++v))/\
   (∀r',ca f s u pd= .deep r'->r'≠[]/\r'<:+u/\ca f s (u++v) pd= .deep (r'++v)):=by
  intro n;induction n with
  |zero=>
   intro s u pd v ax hu;have:u=[]:=nw.1 (by omega);subst this;rcases nil s pd with⟨op,nd,ds,q⟩|⟨a,q⟩<;>rw[q]<;>refine⟨?_,?_,?_⟩
   ·simp
   ·simp
   ·simp
   ·simp
   ·simp
   simp
  |succ n i=>
   intro s u pd v ax hu;rw[p_ f s u pd];cases b:f s u pd with
   |ok x r1 g=>
    cases x with
    |inl s1=>
     simp only[h.lt b,cG];by_cases o:r1=[]
     ·subst o;rcases nil s1 g with⟨op,nd,ds,q⟩|⟨a,q⟩<;>rw[q]<;>refine⟨?_,?_,?_⟩
      ·simp
      ·simp
      ·simp
      ·simp
      ·simp
      simp
     ·have p:=(h.ex s).ok v hu b o;have j:=(h.ex s).sfx b;obtain⟨t,k,l⟩:=i s1 r1 g v (by have:=h.lt b;omega) (hu.sfx j);have w:ca f s (u++v) pd=ca f s1 (r1++v) g:=by rw[p_ f s (u++v) pd,p];simp only[h.lt p,cG]
      rw[w];exact⟨t,λr' e=>⟨(k r' e).1,(k r' e).2.1.trans j,(k r' e).2.2⟩,λr' e=>⟨(l r' e).1,(l r' e).2.1.trans j,(l r' e).2.2⟩⟩
    |inr a=>
     refine⟨?_,?_,?_⟩
     ·intro B r' d e m;cases e;rw[p_,(h.ex s).ok v hu b m]
     ·simp
     simp
   |more op nd ds=>simp
   |bad r1=>refine⟨λ_ _ _ e=>(by cases e),λr' e=>?_,λ_ e=>(by cases e)⟩;cases e;obtain⟨y,z,A⟩:=(h.ex s).bad v hu b;grind[p_]
   |deep r1=>refine⟨λ_ _ _ e=>(by cases e),λ_ e=>(by cases e),λr' e=>?_⟩;cases e;obtain⟨y,z,A⟩:=(h.ex s).deep v hu b;grind[p_]
 exact⟨λe=>sfx _ s _ _ _ _ _ (cX _) e,λv hu e m=>(c _ s _ _ v (cX _) hu).1 _ _ _ e m,λv hu e=>(c _ s _ _ v (cX _) hu).2.1 _ e,λv hu e=>(c _ s _ _ v (cX _) hu).2.2 _ e,nil s⟩
theorem Ly{o:aa}:∀{r:aa}(v:aa),10∉o->du r->r≠[]->o.isPrefixOf (r++v)=o.isPrefixOf r:=by
 induction o with
 |nil=>simp
 |cons c o d=>
  intro r v e a ax;cases r with
  |nil=>grind
  |cons b t=>
   simp only[hp,List.isPrefixOf];by_cases f:b=10
   ·grind
   ·rw[d v (λh=>e (Nq _ h)) a.tail (a.ne f)]
theorem Q2{r:aa}(v:aa)(a:du r)(ax:r≠[]):br (r++v)=br r:=by
 unfold br;congr 1
 have:∀(l:bs),(∀o∈l,(10:UInt8)∉o)->l.find? (λo=>o.isPrefixOf (r++v))=l.find? (λo=>o.isPrefixOf r):=by
  intro l;induction l with
  |nil=>simp
  |cons o l b=>grind[Ly,List.mem_cons_self,List.mem_cons_of_mem]
 simp_all[la]
theorem H7{r:aa}(v:aa)(a:du r)(ax:r≠[]):c1 (r++v)=c1 r:=by
 cases r with
 |nil=>grind
 |cons b t=>grind[Q2,c1]
theorem Q3{r:aa}(v:aa)(c:du r)(ax:r≠[]):ga (r++v)=ga r:=by
 match r,c,ax with
 |[b],c,_=>rw[c.head];rfl
 |a::b::t,c,_=>simp only[hp];unfold ga;grind
theorem Lz(t:aa):c1 (10::t)=true:=by rfl
theorem W1:∀{r:aa}(v:aa),du r->r≠[]->c4 (r++v)=c4 r
 |[],_,_,ax=>absurd rfl ax
 |b::t,v,a,ax=>by
  have ad:=H7 v a ax;have c:=Q3 v a ax;simp only[hp] at ad c;simp only[hp,c4,ad,c];by_cases d:b=10
  ·subst d;simp[Lz]
  ·rw[W1 v a.tail (a.ne d)]
theorem EF{r:aa}(v:aa)(a:du r)(ax:r≠[]):au (r++v)=au r:=by
 cases r with
 |nil=>grind
 |cons b t=>grind[Q2,W1,au]
theorem EG:∀(r:aa),k_ r<:+r
 |[]=>sG _
 |b::t=>by
  unfold k_;split
  ·exact sG _
  ·exact(EG t).trans (eb _ _)
theorem W2:∀{r:aa},du r->r≠[]->k_ r≠[]
 |[],_,ax=>absurd rfl ax
 |b::t,a,_=>by
  unfold k_;split
  ·simp
  ·rename_i c;exact W2 a.tail (a.ne c)
theorem W3:∀{r:aa}(v:aa),du r->r≠[]->k_ (r++v)=k_ r++v
 |[],_,_,ax=>absurd rfl ax
 |b::t,v,a,_=>by
  simp only[hp];rw[k_,k_];split
  ·rfl
  ·rename_i c;exact W3 v a.tail (a.ne c)
theorem nM(b:UInt8)(t:aa):bu (b::t)=(if f_ b then bu t else if b=35 then bu (k_ t) else
  if b=92 then match t with
   |10::u=>if u=[] then none else bu u
   |_=>some (b::t)
  else some (b::t)):=by
 grind[bu.eq_def]
theorem l2:bu []=some []:=by rw[bu]
theorem W4:∀(n:Nat)(r:aa)(v:aa),r.length<=n->(∀r',bu r=some r'->r'<:+r/\(du r->r≠[]->r'≠[]/\bu (r++v)=some (r'++v))):=by
 intro n;induction n with
 |zero=>intro r v ax r' h;have:r=[]:=nw.1 (by omega);subst this;rw[l2] at h;cases h;exact⟨sG _,λ_ h=>absurd rfl h⟩
 |succ n i=>
  intro r v ax r' h;cases r with
  |nil=>rw[l2] at h;cases h;exact⟨sG _,λ_ h=>absurd rfl h⟩
  |cons b t=>
   simp only[mi] at ax;rw[nM] at h;have f:bu (b::t++v)=_:=nM b (t++v);split at h
   ·rename_i d;obtain⟨ad,e⟩:=i t v (by omega) r' h;refine⟨ad.trans (eb _ _),λa _=>?_⟩;have j:b≠10:=by rintro rfl;grind[f_]
    rw[f,bm d];exact e a.tail (a.ne j)
   ·rename_i d;split at h
    ·rename_i g;subst g;obtain⟨ad,e⟩:=i (k_ t) v (by grind[Ab]) r' h;refine⟨ad.trans ((EG t).trans (eb _ _)),λa _=>?_⟩;rw[f,aW d,bm rfl,W3 v a.tail (a.ne (by decide))];exact e (a.tail.sfx (EG t)) (W2 a.tail (a.ne (by decide)))
    ·rename_i g;split at h
     ·rename_i k;subst k;split at h
      ·rename_i u;split at h
       ·cases h
       ·rename_i hu;obtain⟨ad,e⟩:=i u v (by grind) r' h;refine⟨ad.trans ((eb _ _).trans (eb _ _)),λa _=>?_⟩;rw[f,aW d,aW g,bm rfl];simp only[hp];rw[aW (by simp[hu])];exact e a.tail.tail hu
      ·rename_i hu;cases h;refine⟨sG _,λa l=>⟨l,?_⟩⟩;rw[f,aW d,aW g,bm rfl];cases t with
       |nil=>exact absurd a.head (by decide)
       |cons c u=>simp_all
     grind
theorem dT{r r':aa}(h:bu r=some r'):r'<:+r:=(W4 _ r [] (cX _) r' h).1
theorem s8{r r':aa}(v:aa)(h:bu r=some r')(a:du r)(ax:r≠[]):r'≠[]/\bu (r++v)=some (r'++v):=(W4 _ r v (cX _) r' h).2 a ax
theorem aiB{r:aa}(h:r<:+[]):r=[]:=List.suffix_nil.1 h
theorem ar.dD(x:aa):ar (bP x) where
 sfx {r pd a r' d} h:=by
  unfold bP at h;split at h
  ·cases h
  grind[dT]
 ok {u pd a r' d} v hu h c:=by
  unfold bP at h⊢;split at h
  ·cases h
  ·rename_i q b;cases h;have ax:u≠[]:=by rintro rfl;exact c (aiB (dT b))
   rw[(s8 v b hu ax).2];simp only[EF v (hu.sfx (dT b)) c]
 bad v _ h:=by unfold bP at h;split at h<;>cases h
 deep v _ h:=by unfold bP at h;split at h<;>cases h
 nil pd:=by unfold bP;rw[l2];exact .inr ⟨_,rfl⟩
theorem ar.dg(n:Nat):ar (bZ n) where
 sfx h:=by cases h;simp[lE]
 ok {u pd a r' b} v _ h c:=by
  cases h;have:n<=u.length:=by grind[Nat.lt_or_ge,absurd,List.drop_eq_nil_of_le,Nat.le_of_lt]
  grind[bZ]
 bad v _ h:=by cases h
 deep v _ h:=by cases h
 nil pd:= .inr ⟨(),by simp[bZ]⟩
theorem ar.ite{α:Type}{c:Prop}[Decidable c]{f g:ak α}(hf:ar f)(bq:ar g):ar (if c then f else g):=by grind
theorem H8:∀(r:aa)(v:aa)(q:aa),gb r=some q->q<:+r/\gb (r++v)=some (q++v)
 |[],v,q,h=>by grind[gb]
 |b::t,v,q,h=>by
  rw[gb] at h;simp only[hp];rw[gb];split at h
  ·grind
  ·rename_i a;obtain⟨ad,c⟩:=H8 t v q h;grind
theorem aiC:∀(n:Nat)(r:aa)(v:aa)(q:aa),r.length<=n->gX r=some q->q<:+r/\gX (r++v)=some (q++v):=by
 intro n;induction n with
 |zero=>grind[List.length_eq_zero_iff,gX]
 |succ n d=>
  intro r v q ax h
  match r,ax,h with
  |[],_,h=>grind[gX]
  |[b],ax,h=>grind[gX,List.suffix_cons,gX.eq_def]
  |b::c::t,ax,h=>
   simp only[mi] at ax;by_cases g:b=96
   ·grind[gX,List.suffix_cons]
   ·by_cases e:b=92
    ·subst e;have a:gX t=some q:=by grind[gX]
     obtain⟨ad,f⟩:=d t v q (by omega) a;grind[List.suffix_cons,trans,gX]
    ·have a:gX (c::t)=some q:=by grind[gX]
     obtain⟨ad,f⟩:=d (c::t) v q (by grind) a;grind[List.suffix_cons,gX]
theorem ar.to{f:aa->Option aa}(n:aa)(hf:∀r v q,f r=some q->q<:+r/\f (r++v)=some (q++v))(h0:f []=none):ar (jq f n) where
 sfx {r pd a r' b} h:=by
  unfold jq at h;split at h
  ·rename_i q c;cases h;exact(hf r [] _ c).1
  grind
 ok {u pd a r' b} v _ h d:=by
  unfold jq at h⊢;split at h
  ·grind
  grind
 bad v _ h:=by unfold jq at h;split at h<;>cases h
 deep v _ h:=by unfold jq at h;split at h<;>cases h
 nil pd:=by unfold jq;rw[h0];exact .inl ⟨_,_,_,rfl⟩
def mz{α:Type}(f:ak α):Prop:=∀{r:aa}{pd:aq}{a:α}{r':aa}{b:aq},r≠[]->f r pd= .ok a r' b->r'.length<r.length
def fI{σ α:Type}(f:ak (σ⊕α)):Prop:=∀{r:aa}{pd:aq}{s:σ}{r':aa}{a:aq},r≠[]->f r pd= .ok (.inl s) r' a->r'.length<r.length
def iR{σ α:Type}(f:ak (σ⊕α)):Prop:=∀{pd:aq}{s:σ}{r':aa}{a:aq},f [] pd≠ .ok (.inl s) r' a
theorem b0{α β:Type}{m:ak α}{k:α->ak β}{r:aa}{pd:aq}{b:β}{r':aa}{c:aq}(h:ae m k r pd= .ok b r' c):∃a r1 d,m r pd= .ok a r1 d/\k a r1 d= .ok b r' c:=by grind[ae]
theorem aY{α β:Type}{m:ak α}{k:α->ak β}{r:aa}{pd:aq}{a:α}{r1:aa}{b:aq}(h:m r pd= .ok a r1 b):ae m k r pd=k a r1 b:=by grind[ae]
theorem jv{α:Type}{m:ak α}{x r:aa}{pd:aq}{a:α}{r':aa}{b:aq}:m.aM x r pd= .ok a r' b↔m r pd= .ok a r' b:=by grind[ak.aM]
theorem Ce{α:Type}{m:ak α}{x r:aa}{pd:aq}{a:α}{r':aa}{b:aq}:m.named x r pd= .ok a r' b↔m r pd= .ok a r' b:=by grind[ak.named]
theorem iv.of{σ α:Type}{f:σ->ak (σ⊕α)}(h:∀s,ar (f s))(ad:∀s,fI (f s))(b:∀s,iR (f s)):iv f:=⟨h,λ{s r pd s' r' c} e=>by
 by_cases a:r=[]
 ·subst a;exact absurd e (b s)
 ·exact ad s a e⟩
theorem wV{r r':aa}(h:r'<:+r):r'.length<=r.length:=h.length_le
theorem lQ{r:aa}:au r= .eof↔r=[]:=by
 cases r with
 |nil=>decide
 |cons b t=>simp only[au,reduceCtorEq,iff_false];grind
theorem np{x r:aa}{pd:aq}{t:Tok}{r':aa}{a:aq}(h:bP x r pd= .ok t r' a):bu r=some r'/\t=au r'/\a=pd:=by
 unfold bP at h;split at h
 ·cases h
 grind
theorem fI.dD{σ α:Type}{x:aa}{k:Tok->ak (σ⊕α)}(h:∀t,t≠ .eof->fI (k t))(h0:iR (k .eof)):fI (ae (bP x) k):=by
 intro r pd s r' c d e;obtain⟨t,r1,f,ad,a⟩:=b0 e;obtain⟨b,rfl,rfl⟩:=np ad;have hl:=wV (dT b);by_cases ax:r1=[]
 ·subst ax;exact absurd a h0
 ·have:=h (au r1) (λhe=>ax (lQ.1 he)) ax a;omega
theorem iR.dD{σ α:Type}{x:aa}{k:Tok->ak (σ⊕α)}(h:iR (k .eof)):iR (ae (bP x) k):=by intro pd s r' c e;obtain⟨t,r1,d,ad,b⟩:=b0 e;obtain⟨a,rfl,rfl⟩:=np ad;rw[l2] at a;cases a;exact h b
theorem fI.inr{σ α:Type}(a:α):fI (aU (.inr a):ak (σ⊕α)):=by intro _ _ _ _ _ _ e;cases e
theorem iR.inr{σ α:Type}(a:α):iR (aU (.inr a):ak (σ⊕α)):=by intro _ _ _ _ e;cases e
theorem iR.more{σ α:Type}(x:aa):iR (b6 x:ak (σ⊕α)):=by intro _ _ _ _ e;cases e
theorem fI.bad{σ α:Type}:fI (bK:ak (σ⊕α)):=by intro _ _ _ _ _ _ e;cases e
theorem fI.Cf{σ α β:Type}{m:ak β}{k:β->ak (σ⊕α)}(hm:mz m)(hk:∀b,ar (k b)):fI (ae m k):=by intro r pd s r' d a e;obtain⟨t,r1,f,ad,c⟩:=b0 e;have:=hm a ad;have:=wV ((hk t).sfx c);omega
theorem fI.ite{σ α:Type}{c:Prop}[Decidable c]{f g:ak (σ⊕α)}(hf:fI f)(bq:fI g):fI (if c then f else g):=by grind
theorem mz.dg(n:Nat):mz (bZ (n+1)):=by
 intro r pd a r' c d e;cases e;cases r with
 |nil=>grind
 |cons b t=>grind
theorem W5:∀(r:aa),(iG r).2<:+r
 |[]=>sG _
 |b::t=>by
  unfold iG;split
  ·exact eb _ _
  ·exact(W5 t).trans (eb _ _)
theorem Q4:∀{r:aa}(v:aa),du r->r≠[]->iG (r++v)=((iG r).1,(iG r).2++v)
 |[],_,_,ax=>absurd rfl ax
 |b::t,v,a,_=>by
  simp only[hp];rw[iG,iG];split
  ·rfl
  ·rename_i c;rw[Q4 v a.tail (a.ne c)]
theorem Cg(d:aa)(tabs:Bool)(b:UInt8)(t:aa):ni d tabs (b::t)=(if(if tabs then(iG (b::t)).1.dropWhile (· ==9) else(iG (b::t)).1)=d then some (iG (b::t)).2 else ni d tabs (iG (b::t)).2):=by rw[ni]
theorem Q5(d:aa)(tabs:Bool):∀(n:Nat)(r v q:aa),r.length<=n->ni d tabs r=some q->q<:+r/\(du r->ni d tabs (r++v)=some (q++v)):=by
 intro n;induction n with
 |zero=>grind[List.length_eq_zero_iff,ni]
 |succ n f=>
  intro r v q ax h;cases r with
  |nil=>grind[ni]
  |cons b t=>
   rw[Cg] at h;have i:=Lx (b::t) (by simp);have c:=W5 (b::t);by_cases aG:(if tabs then(iG (b::t)).1.dropWhile (· ==9) else(iG (b::t)).1)=d
   ·rw[bm aG] at h;cases h;refine⟨c,λa=>?_⟩;have e:=Q4 v a (by simp);simp_all[hp,Cg,bm]
   ·rw[aW aG] at h;obtain⟨ad,g⟩:=f _ v q (by omega) h;refine⟨ad.trans c,λa=>?_⟩;have e:=Q4 v a (by simp);simp only[hp] at e⊢;rw[Cg,e,aW aG];exact g (a.sfx c)
theorem vw:∀(ds:aq)(r v q:aa),lY ds r= .inl q->q<:+r/\(du r->lY ds (r++v)= .inl (q++v))
 |[],r,v,q,h=>by cases h;exact⟨sG _,λ_=>rfl⟩
 |d::ds,r,v,q,h=>by
  rw[lY] at h;split at h
  ·rename_i r1 ad;obtain⟨a,a2⟩:=Q5 d.1 d.2 _ r v r1 (cX _) ad;obtain⟨c,e⟩:=vw ds r1 v q h;refine⟨c.trans a,λb=>?_⟩;rw[lY,a2 b];exact e (b.sfx a)
  grind
theorem s9(b:UInt8)(t:aa)(pd:aq):jb (b::t) pd=(match lY pd t with| .inl r'=> .ok () r' []| .inr nd=> .more [[60,60]] nd []):=rfl
theorem ar.nl:ar jb where
 sfx {r pd a r' d} h:=by
  cases r with
  |nil=>cases h;simp
  |cons b t=>
   rw[s9] at h;split at h
   ·rename_i q c;cases h;exact(vw pd t [] _ c).1.trans (eb _ _)
   grind
 ok {u pd a r' d} v hu h e:=by
  cases u with
  |nil=>cases h;grind
  |cons b t=>
   rw[s9] at h;simp only[hp];rw[s9];split at h
   ·rename_i q c;cases h;rw[(vw pd t v _ c).2 hu.tail]
   grind
 bad {u pd r'} v _ h:=by
  cases u with
  |nil=>cases h
  |cons b t=>grind[s9]
 deep {u pd r'} v _ h:=by
  cases u with
  |nil=>cases h
  |cons b t=>grind[s9]
 nil pd:= .inr ⟨(),rfl⟩
theorem mz.nl:mz jb:=by
 intro r pd a r' d f e;cases r with
 |nil=>grind
 |cons b t=>
  rw[s9] at e;split at e
  ·rename_i q c;cases e;have:=wV (vw pd t [] _ c).1;grind
  grind
theorem iv.lines:iv (λ(some:Bool)=>ae (bP []) λt=>if t= .line then ae jb λ_=>aU (.inl true) else aU (.inr some):Bool->ak (Bool⊕Bool)):=by
 refine iv.of (λs=>(ar.dD _).ae λt=>ar.ite (ar.nl.ae λ_=>ar.ret _) (ar.ret _)) (λs=>fI.dD (λt a=>fI.ite (fI.Cf mz.nl λ_=>ar.ret _) (fI.inr _)) ?_) (λs=>iR.dD ?_)
 ·simp[cm,iR.inr]
 simp[cm,iR.inr]
theorem ar.lines:ar cS:=ar.rep iv.lines false
structure hP(D:ak Unit):Prop where
 ex:ar D
 lt:∀{r:aa}{pd:aq}{r':aa}{aD:aq},ga r=true->D r pd= .ok () r' aD->r'.length<r.length
theorem W6{t:aa}(v:aa):t.drop 1≠[]->(t++v).drop 1=t.drop 1++v:=by intro h;rw[Nk];grind
theorem ar.tick:ar (jq gX [96]):=ar.to _ (λr v q h=>aiC _ r v q (cX _) h) (by decide)
theorem ar.single:ar (jq gb [39]):=ar.to _ (λr v q h=>H8 r v q h) (by decide)
theorem ar.part{D:ak Unit}(hD:hP D){dq:Option (ak Unit)}(m:∀q∈dq,ar q):ar (cC D dq):=by
 have d:∀(b:UInt8)(t v:aa),du (b::t)->∃(f:ak Unit)(g:aa->aa),ar f/\(∀pd,cC D dq (b::t) pd=f (g (b::t)) pd)/\(∀pd,cC D dq (b::t++v) pd=f (g (b::t)++v) pd\/g (b::t)=[]/\f=aU ())/\g (b::t)<:+b::t:=by
  intro b t v k;by_cases n:b=92
  ·refine⟨aU (),λr=>(r.drop 1).drop 1,ar.ret _,λpd=>by simp_all[cC,aU],λpd=>?_,(lE _ _).trans (lE _ _)⟩;by_cases ax:t.drop 1=[]
   ·grind
   ·left;simp only[hp,cC,n,cG,F5,v3];rw[W6 v ax];rfl
  ·by_cases x:b=96
   ·exact⟨jq gX [96],λr=>r.drop 1,ar.tick,λpd=>by simp_all[cC],λpd=> .inl (by simp_all[cC]),lE _ _⟩
   ·have o:=Q3 v k (by simp);simp only[hp] at o;by_cases y:ga (b::t)=true
    ·exact⟨D,id,hD.ex,λpd=>by simp_all[cC],λpd=> .inl (by simp_all[cC]),sG _⟩
    ·cases dq with
     |none=>exact⟨aU (),λr=>r.drop 1,ar.ret _,λpd=>by grind[cC,aU],λpd=> .inl (by grind[cC,aU]),lE _ _⟩
     |some q=>
      by_cases z:b=39
      ·exact⟨jq gb [39],λr=>r.drop 1,ar.single,λpd=>by grind[cC,ga],λpd=> .inl (by grind[cC,ga]),lE _ _⟩
      ·by_cases A:b=34
       ·exact⟨q,λr=>r.drop 1,m q rfl,λpd=>by grind[cC,ga],λpd=> .inl (by grind[cC,ga]),lE _ _⟩
       ·exact⟨aU (),λr=>r.drop 1,ar.ret _,λpd=>by grind[cC,aU],λpd=> .inl (by grind[cC,aU]),lE _ _⟩
 have sfx:∀(b:UInt8)(t:aa)(pd:aq)(r':aa)(j:aq),cC D dq (b::t) pd= .ok () r' j->r'<:+b::t:=by
  intro b t pd r' j h;unfold cC at h;simp only at h;split at h
  ·grind[List.drop_suffix,trans,List.suffix_cons]
  ·split at h
   ·exact(ar.tick.sfx h).trans (eb _ _)
   ·split at h
    ·exact hD.ex.sfx h
    ·cases dq with
     |none=>grind
     |some q=>
      simp only at h;split at h
      ·exact(ar.single.sfx h).trans (eb _ _)
      ·split at h
       ·exact((m q rfl).sfx h).trans (eb _ _)
       grind
 constructor
 ·intro r pd a r' j h;cases r with
  |nil=>cases h;simp
  |cons b t=>grind
 ·intro u pd a r' j v hu h k;cases u with
  |nil=>cases h;grind
  |cons b t=>
   obtain⟨f,g,ad,e,c,i⟩:=d b t v hu;rw[e] at h;rcases c pd with c|⟨l,rfl⟩
   ·rw[c];exact ad.ok v (hu.sfx i) h k
   ·rw[l] at h;cases h;grind
 ·intro u pd r' v hu h;cases u with
  |nil=>cases h
  |cons b t=>
   obtain⟨f,g,ad,e,c,i⟩:=d b t v hu;rw[e] at h;rcases c pd with c|⟨l,rfl⟩
   ·rw[c];obtain⟨p,s,w⟩:=ad.bad v (hu.sfx i) h;grind
   ·cases h
 ·intro u pd r' v hu h;cases u with
  |nil=>cases h
  |cons b t=>
   obtain⟨f,g,ad,e,c,i⟩:=d b t v hu;rw[e] at h;rcases c pd with c|⟨l,rfl⟩
   ·rw[c];obtain⟨p,s,w⟩:=ad.deep v (hu.sfx i) h;grind
   ·cases h
 ·intro pd;exact .inr ⟨(),rfl⟩
theorem mz.part{D:ak Unit}(hD:hP D){dq:Option (ak Unit)}(c:∀q∈dq,ar q):mz (cC D dq):=by
 intro r pd a r' d e h;cases r with
 |nil=>grind
 |cons b t=>
  unfold cC at h;simp only at h;split at h
  ·grind
  ·split at h
   ·have:=wV (ar.tick.sfx h);grind
   ·split at h
    ·exact hD.lt ‹_› h
    ·cases dq with
     |none=>grind
     |some q=>
      simp only at h;split at h
      ·have:=wV (ar.single.sfx h);grind
      ·split at h
       ·have:=wV ((c q rfl).sfx h);grind
       grind
theorem iv.bytes{α:Type}{stop:aa->Option (aa×α)}{part:ak Unit}(aC:ar part)(hl:mz part)
  {f:Unit->ak (Unit⊕α)} (h0:∀pd,f () [] pd=b6 [] [] pd) (ad:∀b t pd,f () (b::t) pd=match stop (b::t) with
   |some q=> .ok (.inr q.2) q.1 pd
   |none=>ae part (λ_=>aU (.inl ())) (b::t) pd)
  (k:∀b t q,stop (b::t)=some q->q.1<:+b::t) (l:∀b t q v,du (b::t)->stop (b::t)=some q->stop (b::t++v)=some (q.1++v,q.2)) (g:∀b t v,du (b::t)->stop (b::t)=none->stop (b::t++v)=none):iv f:=by
 have d:ar (ae part (λ_=>aU (.inl ()):Unit->ak (Unit⊕α))):=aC.ae λ_=>ar.ret _;refine⟨λs=>?_,?_⟩
 ·constructor
  ·intro r pd a r' i h;cases r with
   |nil=>rw[h0] at h;cases h
   |cons b t=>
    rw[ad] at h;split at h
    ·grind
    ·exact d.sfx h
  ·intro u pd a r' i v hu h j;cases u with
   |nil=>rw[h0] at h;cases h
   |cons b t=>
    rw[ad] at h;have e:=ad b (t++v) pd;simp only[hp] at e⊢;rw[e];split at h
    ·grind
    ·rename_i c;have:=g b t v hu c;simp only[hp] at this;rw[this];exact d.ok v hu h j
  ·intro u pd r' v hu h;cases u with
   |nil=>rw[h0] at h;cases h
   |cons b t=>
    rw[ad] at h;have e:=ad b (t++v) pd;simp only[hp] at e⊢;rw[e];split at h
    ·cases h
    ·rename_i c;have:=g b t v hu c;simp only[hp] at this;rw[this];exact d.bad v hu h
  ·intro u pd r' v hu h;cases u with
   |nil=>rw[h0] at h;cases h
   |cons b t=>
    rw[ad] at h;have e:=ad b (t++v) pd;simp only[hp] at e⊢;rw[e];split at h
    ·cases h
    ·rename_i c;have:=g b t v hu c;simp only[hp] at this;rw[this];exact d.deep v hu h
  ·intro pd;exact .inl ⟨_,_,_,h0 pd⟩
 ·intro s r pd s' r' i h;cases r with
  |nil=>rw[h0] at h;cases h
  |cons b t=>
   rw[ad] at h;split at h
   ·cases h
   ·exact fI.Cf hl (λ_=>ar.ret _) (by simp) h
theorem iv.Ad(c:UInt8){part:ak Unit}(aC:ar part)(hl:mz part):iv (λ(_:Unit)(r:aa)(pd:aq)=>(match r with
 |[]=>b6 [] r pd
 |b::t=>if b=c then .ok (.inr ()) t pd else(ae part λ_=>aU (.inl ())) r pd:dt (Unit⊕Unit))):=by
 refine iv.bytes (stop:=λr=>match r with|[]=>none|b::t=>if b=c then some (t,()) else none) aC hl (λ_=>rfl) (λb t pd=>?_) ?_ ?_ ?_
 ·grind
 ·simp
 ·simp
 simp
theorem ar.Ad(c:UInt8){part:ak Unit}(aC:ar part)(hl:mz part):ar (jc c part):=ar.rep (iv.Ad c aC hl) ()
theorem ar.double{D:ak Unit}(hD:hP D):ar (eH D):=((ar.Ad 34 (ar.part hD (by simp)) (mz.part hD (by simp))).aM _).named _
theorem ar.yu{D:ak Unit}(hD:hP D):ar (cC D (some (eH D))):=ar.part hD λq a=>by grind[ar.double]
theorem mz.yu{D:ak Unit}(hD:hP D):mz (cC D (some (eH D))):=mz.part hD λq a=>by grind[ar.double]
theorem ar.param{D:ak Unit}(hD:hP D):ar (qJ D):=(ar.Ad 125 (ar.yu hD) (mz.yu hD)).aM _
theorem iv.word{D:ak Unit}(hD:hP D):iv (λ(_:Unit)(r:aa)(pd:aq)=>(match r with
 |[]=>b6 [] r pd
 |_::_=>if c1 r then .ok (.inr ()) r pd else(ae (cC D (some (eH D))) λ_=>aU (.inl ())) r pd:dt (Unit⊕Unit))):=by
 refine iv.bytes (stop:=λr=>if c1 r then some (r,()) else none) (ar.yu hD) (mz.yu hD) (λ_=>rfl) (λb t pd=>?_) ?_ ?_ ?_
 ·grind
 ·simp
 ·intro b t q v a h;split at h
  ·rename_i c;cases h;rw[H7 v a (by simp),bm c]
  grind
 ·intro b t v a h;split at h
  ·cases h
  ·rename_i c;rw[H7 v a (by simp),aW c]
theorem ar.word{D:ak Unit}(hD:hP D):ar (cP D):=ar.rep (iv.word hD) ()
theorem vx{D:ak Unit}(hD:hP D){r:aa}{pd:aq}{r':aa}{a:aq}(f:r≠[])(c:c1 r=false)(h:cP D r pd= .ok () r' a):r'.length<r.length:=by
 unfold cP at h;rw[p_] at h;cases r with
 |nil=>grind
 |cons b t=>
  simp only[c,eC,cm] at h;split at h
  ·rename_i s1 r1 g ad;have d:=fI.Cf (mz.yu hD) (λ_=>ar.ret _) (by simp) ad;rw[bm d] at h;have:=wV ((ar.word hD).sfx h);omega
  ·rename_i ad;obtain⟨_,_,_,i,e⟩:=b0 ad;cases e
  all_goals cases h
theorem H_{b:UInt8}{t:aa}:(∃w p,au (b::t)= .word w p)->f_ b=false->c1 (b::t)=false:=by grind[au,c1]
theorem W7:∀(n:Nat)(r:aa),r.length<=n->∀b t,bu r=some (b::t)->f_ b=false:=by
 intro n;induction n with
 |zero=>simp[nw,l2]
 |succ n a=>
  intro r ax b t h;cases r with
  |nil=>grind
  |cons c u=>grind[List.length_cons,nM,Ab]
theorem fI.LA{σ α:Type}{D:ak Unit}(hD:hP D){x:aa}{k:Tok->ak (σ⊕α)}(h:∀t,t≠ .eof->(∀w p,t≠ .word w p)->fI (k t))(h0:iR (k .eof))
  (g:∀w p,∃(m:ak Unit)(k':Unit->ak (σ⊕α)),k (.word w p)=ae m k'/\(∀{r pd r' d},m r pd= .ok () r' d↔cP D r pd= .ok () r' d)/\∀u,ar (k' u)):fI (ae (bP x) k):=by
 intro r pd s r' d o e;obtain⟨t,r1,q,ad,a⟩:=b0 e;obtain⟨f,rfl,rfl⟩:=np ad;have hl:=wV (dT f);cases r1 with
 |nil=>exact absurd a h0
 |cons b u=>
  by_cases c:∃w p,au (b::u)= .word w p
  ·have i:=H_ c (W7 _ _ (cX _) _ _ f);obtain⟨w,p,c⟩:=c;rw[c] at a;obtain⟨m,k',hk,hm,j⟩:=g w p;rw[hk] at a;obtain⟨_,v,y,l,n⟩:=b0 a;have:=vx hD (by simp) i (hm.1 l);have:=wV ((j ()).sfx n);omega
  ·have:=h (au (b::u)) (λhe=>by grind[lQ]) (λw p he=>c ⟨w,p,he⟩) (by simp) a;omega
theorem aiD{r:aa}(v:aa){p:UInt8->Bool}(aC:p 10=false):du r->r≠[]->r.dropWhile p≠[]/\(r++v).dropWhile p=r.dropWhile p++v:=by
 induction r with
 |nil=>simp
 |cons b t c=>
  intro a _;simp only[hp,abw];cases e:p b with
  |false=>simp
  |true=>
   have d:b≠10:=by grind
   simpa using c a.tail (a.ne d)
theorem Ch{r:aa}{p:UInt8->Bool}:r.dropWhile p<:+r:=List.dropWhile_suffix _
theorem Q6{r:aa}:(br r).length<=r.length:=by
 unfold br;cases h:la.find? (λo=>o.isPrefixOf r) with
 |none=>simp
 |some o=>grind
theorem Q7{r:aa}:br r<+:r:=by
 unfold br;cases h:la.find? (λo=>o.isPrefixOf r) with
 |none=>simp
 |some o=>grind
theorem ar.W8:ar fF where
 sfx {r pd a r' c} h:=by
  unfold fF at h;split at h
  ·cases h
  ·rename_i q b;simp only at h;split at h
   ·cases h;exact((lE _ _).trans Ch).trans (dT b)
   grind[dT]
 ok {u pd a r' c} v hu h j:=by
  unfold fF at h⊢;split at h
  ·cases h
  ·rename_i q b;simp only at h;by_cases ax:u=[]
   ·simp_all[l2,br,la,eV,absurd]
   ·obtain⟨d,e⟩:=s8 v b hu ax;obtain⟨f,g⟩:=aiD v (p:=cb) (by decide) (hu.sfx (dT b)) d;have i:=Q2 v ((hu.sfx (dT b)).sfx Ch) f;rw[e];simp only[g,i];split at h
    ·simp_all[bm,Nk,Q6]
    grind
 bad v _ h:=by
  unfold fF at h;split at h
  ·cases h
  grind
 deep v _ h:=by
  unfold fF at h;split at h
  ·cases h
  grind
 nil pd:=by simp[fF,l2,br,la,eV]
theorem LB(b:UInt8)(t:aa):eA (b::t)=(if b=34 then .closed [] t else if b=36\/b=96 then .part else
  if b=92 then match t with
   |[]=> .part
   |c::u=>(eA u).add (Ac c)
  else(eA t).add [b]):=by
 grind[eA.eq_def]
def vy:jd->Prop
 | .closed o _=>(10:UInt8)∈o
 | .part=>True
 | .open_ o=>(10:UInt8)∈o
theorem vy.add{x:aa}{q:jd}(h:vy q):vy (q.add x):=by cases q<;>simp_all [vy,jd.add]
theorem vy.Q8{x:aa}{q:jd}(h:(10:UInt8)∈x):vy (q.add x):=by cases q<;>simp_all [vy,jd.add]
theorem W9:∀(n:Nat)(r v:aa),r.length<=n->du r->r≠[]->
  (∀o q,eA r= .closed o q->q<:+r/\eA (r++v)= .closed o (q++v))/\(eA r= .part->eA (r++v)= .part)/\(∀o,eA r= .open_ o->10∈o->vy (eA (r++v))):=by
 intro n;induction n with
 |zero=>grind
 |succ n k=>
  intro r v ax d bd;cases r with
  |nil=>grind
  |cons b t=>
   simp only[mi] at ax;simp only[hp];rw[LB,LB];by_cases l:b=34
   ·simp_all
   by_cases aC:b=36\/b=96
   ·grind
   by_cases m:b=92
   ·subst m;simp only[l,aC,cG,cm];cases t with
    |nil=>exact absurd d.head (by decide)
    |cons c u=>
     simp only[hp];by_cases hu:u=[]
     ·grind[eA,jd.add,Ac]
     ·obtain⟨f,g,j⟩:=k u v (by grind) d.tail.tail hu;refine⟨?_,?_,?_⟩
      ·intro o q e;cases a:eA u<;>rw[a] at e<;>simp[jd.add] at e;obtain⟨rfl,rfl⟩:=e;obtain⟨h,i⟩:=f _ _ a;exact⟨h.trans ((eb _ _).trans (eb _ _)),by rw[i];rfl⟩
      ·intro e;cases a:eA u<;>rw[a] at e<;>simp[jd.add] at e;rw[g a];rfl
      ·intro o e he;cases a:eA u<;>rw[a] at e<;>simp[jd.add] at e;subst e;rcases tC.1 he with he|he
       ·grind[vy.Q8]
       ·exact(j _ a he).add
   ·simp only[l,aC,m,cm];by_cases p:b=10
    ·subst p;by_cases s:t=[]
     ·grind[eA,jd.add,vy.Q8]
     ·obtain⟨f,g,j⟩:=k t v (by omega) d.tail s;refine⟨?_,?_,?_⟩
      ·intro o q e;cases a:eA t<;>rw[a] at e<;>simp[jd.add] at e;obtain⟨rfl,rfl⟩:=e;obtain⟨h,i⟩:=f _ _ a;exact⟨h.trans (eb _ _),by rw[i];rfl⟩
      ·intro e;cases a:eA t<;>rw[a] at e<;>simp[jd.add] at e;rw[g a];rfl
      simp[vy.Q8]
    ·obtain⟨f,g,j⟩:=k t v (by omega) d.tail (d.ne p);refine⟨?_,?_,?_⟩
     ·intro o q e;cases a:eA t<;>rw[a] at e<;>simp[jd.add] at e;obtain⟨rfl,rfl⟩:=e;obtain⟨h,i⟩:=f _ _ a;exact⟨h.trans (eb _ _),by rw[i];rfl⟩
     ·intro e;cases a:eA t<;>rw[a] at e<;>simp[jd.add] at e;rw[g a];rfl
     ·intro o e he;cases a:eA t<;>rw[a] at e<;>simp[jd.add] at e;subst e;rcases kU.1 he with he|he
      ·grind
      ·exact(j _ a he).add
theorem EH(b:UInt8)(t:aa):dm (b::t)=(if c1 (b::t) then some ([],b::t,[]) else
  if b=92 then match t with
   |[]=>none
   |c::u=>(dm u).map λq=>((if c=10 then [] else [c])++q.1,q.2)
  else if b=39 then match gb t with
   |none=>none
   |some r=>(dm r).map λq=>(t.take (t.length-r.length-1)++q.1,q.2)
  else if b=36\/b=96 then none else
  if b=34 then match eA t with
   | .part=>none
   | .open_ o=>some (o,[],[34])
   | .closed o r=>(dm r).map λq=>(o++q.1,q.2)
  else(dm t).map λq=>(b::q.1,q.2)):=by
 grind[dm.eq_def]
def sf(x:Option (aa×aa×aa)):Prop:=x=none\/∃d q c,x=some (d,q,c)/\(10:UInt8)∈d
theorem sf.map{x:Option (aa×aa×aa)}{f:aa->aa}(h:sf x)(hf:∀d,(10:UInt8)∈d->(10:UInt8)∈f d):sf (x.map λq=>(f q.1,q.2)):=by
 rcases h with rfl|⟨d,q,c,rfl,aH⟩
 ·exact .inl rfl
 ·exact .inr ⟨_,_,_,rfl,hf d aH⟩
theorem sf.LC{x:Option (aa×aa×aa)}{f:aa->aa}(hf:∀d,(10:UInt8)∈f d):sf (x.map λq=>(f q.1,q.2)):=by
 cases x with
 |none=>exact .inl rfl
 |some q=>exact .inr ⟨_,_,_,rfl,hf _⟩
theorem aiE:∀{t:aa}(v q:aa),gb t=none->gb (t++v)=some q->(t++v).take ((t++v).length-q.length-1)=t++(v.take (v.length-q.length-1)):=by
 intro t;induction t with
 |nil=>simp
 |cons b t c=>
  intro v q ad a;rw[gb] at ad;simp only[hp] at a⊢;rw[gb] at a;split at ad
  ·cases ad
  ·rename_i d;rw[aW d] at a;have:=c v q ad a;have hl:=yt _ _ a;have e:(b::(t++v)).length-q.length-1=((t++v).length-q.length-1)+1:=by grind
   grind
theorem W_{t:aa}(h:du t)(ax:t≠[]):(10:UInt8)∈t:=by
 rcases h with h|⟨s,rfl⟩
 ·grind
 ·simp
theorem Xa{t q v:aa}(h:q<:+t):(t++v).take ((t++v).length- (q++v).length-1)=t.take (t.length-q.length-1):=by grind
theorem Xb:∀(n:Nat)(r v:aa),r.length<=n->du r->r≠[]->
  (dm r=none->sf (dm (r++v)))/\(∀d q c,dm r=some (d,q,c)->q<:+r/\(10∈d->sf (dm (r++v)))/\(c=[]->q≠[]->dm (r++v)=some (d,q++v,[]))):=by
 intro n;induction n with
 |zero=>grind
 |succ n A=>
  intro r v ax g bd;cases r with
  |nil=>grind
  |cons b t=>
   simp only[mi] at ax;have m:=H7 v g bd;simp only[hp] at m⊢;rw[EH,EH,m];have step:∀(u:aa)(f:aa->aa),u<:+t->u.length<=n->(∀d,(10:UInt8)∈d->(10:UInt8)∈f d)->(∀d,(10:UInt8)∈f d->(10:UInt8)∈d\/∀d,(10:UInt8)∈f d)->
     ((dm u).map (λq=>(f q.1,q.2))=none->sf ((dm (u++v)).map λq=>(f q.1,q.2)))/\
     (∀d q c,(dm u).map (λq=>(f q.1,q.2))=some (d,q,c)->q<:+b::t/\(10∈d->sf ((dm (u++v)).map λq=>(f q.1,q.2)))/\(c=[]->q≠[]->(dm (u++v)).map (λq=>(f q.1,q.2))=some (d,q++v,[]))):=by
    intro u f hu i p s;by_cases w:u=[]
    ·subst w;have e0:dm []=some ([],[],[]):=by rw[dm]
     rw[e0];refine⟨λh=>by grind,λd q c h=>?_⟩;simp only[AS,eP,jh] at h;obtain⟨rfl,rfl,rfl⟩:=h;refine⟨ov,λaH=>?_,λ_ a=>absurd rfl a⟩;rcases s _ aH with h|h
     ·cases h
     ·exact sf.LC h
    ·obtain⟨B,C⟩:=A u v i (g.tail.sfx hu) w;refine⟨λh=>?_,λd q c h=>?_⟩
     ·simp only[Option.map_eq_none_iff] at h;exact(B h).map p
     ·simp only[v7,jh] at h;obtain⟨⟨K,L,M⟩,ad,rfl,rfl,rfl⟩:=h;obtain⟨D,E,N⟩:=C _ _ _ ad;refine⟨D.trans (hu.trans (eb _ _)),λaH=>?_,λaG a=>?_⟩
      ·rcases s _ aH with h|h
       ·exact(E h).map p
       ·exact sf.LC h
      grind
   by_cases e:c1 (b::t)=true
   ·simp only[e,cG];grind
   by_cases j:b=92
   ·subst j;simp only[e,cG,eC,cm];cases t with
    |nil=>exact absurd g.head (by decide)
    |cons c u=>
     simp only[hp];refine step u (λd=>(if c=10 then [] else [c])++d) (eb _ _) (by grind) ?_ ?_
     ·grind
     grind
   have F:t≠[]:=g.ne (by rintro rfl;grind[Lz]);by_cases k:b=39
   ·subst k;simp only[e,cG,eC,cm];rw[aW (by decide),aW (by decide)];cases x:gb t with
    |none=>
     refine⟨λ_=>?_,λd q c h=>by grind⟩;cases G:gb (t++v) with
     |none=>exact .inl rfl
     |some q=>simp only;rw[aiE v q x G];exact sf.LC (f:=λd=>t++List.take (v.length-q.length-1) v++d) λd=>by grind[W_]
    |some q=>obtain⟨s1,s2⟩:=H8 t v q x;rw[s2];simp only;rw[Xa s1];refine step q (λd=>List.take (t.length-q.length-1) t++d) s1 (by grind) (λd aH=>by grind) (λd aH=>?_);grind
   by_cases aC:b=36\/b=96
   ·simp only[e,j,k,aC,cG,eC,cm];exact⟨λ_=> .inl rfl,λd q c h=>by grind⟩
   by_cases y:b=34
   ·subst y;simp only[e,cG,eC,cm];rw[aW (by decide),aW (by decide),aW (by decide),aW (by decide),aW (by decide),aW (by decide)];obtain⟨H,I,J⟩:=W9 t.length t v (cX _) g.tail F;cases a:eA t with
    |part=>rw[I a];exact⟨λ_=> .inl rfl,λd q c h=>by grind⟩
    |open_ o=>
     refine⟨λh=>by grind,λd q c h=>?_⟩;simp only[eP,jh] at h;obtain⟨rfl,rfl,rfl⟩:=h;refine⟨ov,λaH=>?_,λh=>by simp⟩;have:=J o a aH;cases z:eA (t++v) with
     |part=>exact .inl rfl
     |open_ l=>rw[z] at this;exact .inr ⟨_,_,_,rfl,this⟩
     |closed l O=>rw[z] at this;exact sf.LC (f:=λd=>l++d) λd=>by simp[show(10:UInt8)∈l from this]
    |closed o q=>obtain⟨s1,s2⟩:=H o q a;rw[s2];refine step q (λd=>o++d) s1 (by grind) (λd aH=>by grind) (λd aH=>?_);grind
   simp only[e,j,k,aC,y,eC,cm];refine step t (λd=>b::d) (sG _) (by omega) (λd aH=>by grind) (λd aH=>?_);grind
theorem Q9:∀(n:Nat)(r o q:aa),r.length<=n->eA r= .closed o q->q<:+r:=by
 intro n;induction n with
 |zero=>grind[List.length_eq_zero_iff,eA]
 |succ n a=>
  intro r o q ax h;cases r with
  |nil=>grind
  |cons b t=>grind[List.length_cons,LB,List.suffix_cons,jd.QZ,trans]
theorem Q_:∀(n:Nat)(r:aa)(x:aa×aa×aa),r.length<=n->dm r=some x->x.2.1<:+r:=by
 intro n;induction n with
 |zero=>grind[List.length_eq_zero_iff,dm,List.suffix_refl]
 |succ n a=>
  intro r x ax h;cases r with
  |nil=>grind
  |cons b t=>
   simp only[mi] at ax
   have go:∀(u:aa)(f:aa->aa),u<:+t->(dm u).map (λq=>(f q.1,q.2))=some x->x.2.1<:+b::t:=by intro u f hu h;simp only[v7] at h;grind
   rw[EH] at h;split at h
   ·grind
   ·split at h
    ·split at h
     ·cases h
     ·rename_i c u _;exact go u (λd=>(if c=10 then [] else [c])++d) (eb _ _) h
    ·split at h
     ·split at h
      ·cases h
      ·rename_i r1 ad;exact go r1 (λd=>List.take (t.length-r1.length-1) t++d) (H8 t [] _ ad).1 h
     ·split at h
      ·cases h
      ·split at h
       ·split at h
        ·cases h
        ·grind
        ·rename_i o r1 ad;exact go r1 (λd=>o++d) (Q9 _ _ _ _ (cX _) ad) h
       ·exact go t (λd=>b::d) (sG _) h
def Ib(o:aa):jd->Prop
 | .closed a _=>o<+:a
 | .part=>True
 | .open_ a=>o<+:a
theorem Ib.add{x o:aa}{q:jd}(h:Ib o q):Ib (x++o) (q.add x):=by
 cases q with
 |part=>trivial
 |closed a r=>exact(List.prefix_append_right_inj _).2 h
 |open_ a=>exact(List.prefix_append_right_inj _).2 h
theorem aiF:∀(n:Nat)(r v o:aa),r.length<=n->du r->eA r= .open_ o->Ib o (eA (r++v)):=by
 intro n;induction n with
 |zero=>intro r v o ax _ h;have:r=[]:=nw.1 (by omega);subst this;simp[eA] at h;subst h;cases eA ([]++v)<;>simp[Ib]
 |succ n e=>
  intro r v o ax hl h;cases r with
  |nil=>grind
  |cons b t=>
   simp only[mi] at ax;simp only[hp];rw[LB] at h⊢;split at h
   ·cases h
   ·rename_i f;split at h
    ·cases h
    ·rename_i aC;rw[aW f,aW aC];split at h
     ·rename_i d;rw[bm d];cases t with
      |nil=>cases h
      |cons c u=>simp only[hp] at h⊢;cases a:eA u<;>rw[a] at h<;>simp[jd.add] at h;subst h;exact(e u v _ (by grind) hl.tail.tail a).add
     ·rename_i d;rw[aW d];cases a:eA t<;>rw[a] at h<;>simp[jd.add] at h;subst h;exact(e t v _ (by omega) hl.tail a).add (x:=[b])
def Ic(d:aa)(x:Option (aa×aa×aa)):Prop:=∀y,x=some y->d<+:y.1
theorem Ic.map{d:aa}{x:Option (aa×aa×aa)}(p:aa)(h:Ic d x):Ic (p++d) (x.map λq=>(p++q.1,q.2)):=by intro y a;simp only[v7] at a;obtain⟨z,b,rfl⟩:=a;exact(List.prefix_append_right_inj _).2 (h z b)
theorem aiG:∀(n:Nat)(r v:aa)(x:aa×aa×aa),r.length<=n->du r->dm r=some x->Ic x.1 (dm (r++v)):=by
 intro n;induction n with
 |zero=>intro r v x ax _ h;have:r=[]:=nw.1 (by omega);subst this;simp[dm] at h;subst h;intro y _;simp
 |succ n s=>
  intro r v x ax d h;cases r with
  |nil=>grind
  |cons b t=>
   simp only[mi] at ax;have j:=H7 v d (by simp);simp only[hp] at j⊢
   have go:∀(u p:aa),u<:+t->(dm u).map (λq=>(p++q.1,q.2))=some x->Ic x.1 ((dm (u++v)).map λq=>(p++q.1,q.2)):=by intro u p hu h;simp only[v7] at h;obtain⟨y,ad,rfl⟩:=h;exact(s u v y (by grind) (d.tail.sfx hu) ad).map p
   rw[EH] at h⊢;rw[j];split at h
   ·rename_i k;cases h;intro y _;simp
   ·rename_i k;rw[aW k];have w:t≠[]:=d.ne (by rintro rfl;grind[Lz]);split at h
    ·rename_i f;rw[bm f];cases t with
     |nil=>cases h
     |cons c u=>exact go u (if c=10 then [] else [c]) (eb _ _) h
    ·rename_i f;rw[aW f];split at h
     ·rename_i g;rw[bm g];cases l:gb t with
      |none=>grind
      |some q=>rw[l] at h;obtain⟨s1,s2⟩:=H8 t v q l;rw[s2];simp only at h⊢;rw[Xa s1];exact go q _ s1 h
     ·rename_i g;rw[aW g];split at h
      ·cases h
      ·rename_i aC;rw[aW aC];split at h
       ·rename_i i;rw[bm i];obtain⟨A,C,D⟩:=W9 t.length t v (cX _) d.tail w;cases e:eA t with
        |part=>grind
        |open_ o=>
         rw[e] at h;simp only[eP] at h;subst h;have:=aiF t.length t v o (cX _) d.tail e;cases m:eA (t++v) with
         |part=>intro y a;cases a
         |open_ B=>rw[m] at this;intro y a;cases a;exact this
         |closed B E=>rw[m] at this;intro y a;simp only[v7] at a;obtain⟨z,F,rfl⟩:=a;exact List.IsPrefix.trans this (List.prefix_append _ _)
        |closed o q=>rw[e] at h;obtain⟨s1,s2⟩:=A o q e;rw[s2];exact go q o s1 h
       ·rename_i i;rw[aW i];exact go t [b] (sG _) h
def vz(tabs:Bool)(r':aa)(pd:aq):dt Unit:=match dm r' with
 |none=> .bad r'
 |some (d,q,a)=>if d.contains 10 then .bad r' else
  if tabs/\d.head?=some 9 then .bad r' else
  if a≠[] then .more [a] a (pd++[(d,tabs)]) else
  if q=[] then .more [] [] (pd++[(d,tabs)]) else .ok () q (pd++[(d,tabs)])
theorem Xe{tabs:Bool}{r':aa}{pd:aq}(h:sf (dm r')):vz tabs r' pd= .bad r':=by
 unfold vz;rcases h with h|⟨d,q,c,h,aH⟩
 ·rw[h]
 grind
theorem Ci(tabs:Bool)(r:aa)(pd:aq):hi tabs r pd=match bu r with
 |none=> .more [] [120] (pd++[([120],tabs)])
 |some r'=>match au r' with
  | .eof=> .more [] [120] (pd++[([120],tabs)])
  | .word _ _=>vz tabs r' pd
  |_=> .bad r':=rfl
theorem ar.sg(tabs:Bool):ar (hi tabs) where
 sfx {r pd a r' n} h:=by
  rw[Ci] at h;split at h
  ·cases h
  ·rename_i q b;split at h
   ·cases h
   ·unfold vz at h;split at h
    ·cases h
    ·rename_i d f c aH;split at h
     ·cases h
     ·split at h
      ·cases h
      ·split at h
       ·cases h
       ·split at h
        ·cases h
        ·cases h;exact(Q_ _ _ _ (cX _) aH).trans (dT b)
   grind
 ok {u pd a r' n} v hu h o:=by
  rw[Ci] at h;split at h
  ·cases h
  ·rename_i q b;have ax:u≠[]:=by rintro rfl;grind[l2,au]
   obtain⟨e,f⟩:=s8 v b hu ax;have g:=hu.sfx (dT b);have i:hi tabs (u++v) pd=(match au q with
    | .eof=> .more [] [120] (pd++[([120],tabs)])
    | .word _ _=>vz tabs (q++v) pd
    |_=> .bad (q++v)):=by grind[Ci,EF]
   rw[i];split at h
   ·cases h
   ·rename_i p;unfold vz at h⊢;split at h
    ·cases h
    ·rename_i d f c aH;split at h
     ·cases h
     ·rename_i j;split at h
      ·cases h
      ·rename_i k;split at h
       ·cases h
       ·rename_i s;split at h
        ·cases h
        ·rename_i t;cases h;have l:c=[]:=by grind
         rw[((Xb _ q v (cX _) g e).2 d _ c aH).2.2 l o];simp_all
   grind
 bad {u pd r'} v hu h:=by
  rw[Ci] at h;split at h
  ·cases h
  ·rename_i q b;have ax:u≠[]:=by rintro rfl;grind[l2,au]
   obtain⟨e,f⟩:=s8 v b hu ax;have g:=hu.sfx (dT b);have i:hi tabs (u++v) pd=(match au q with
    | .eof=> .more [] [120] (pd++[([120],tabs)])
    | .word _ _=>vz tabs (q++v) pd
    |_=> .bad (q++v)):=by grind[Ci,EF]
   rw[i];obtain⟨A,a2⟩:=Xb _ q v (cX _) g e;split at h
   ·cases h
   ·rename_i p;unfold vz at h;split at h
    ·grind[dT,Xe]
    ·rename_i d f c aH;split at h
     ·grind[dT,Xe]
     ·rename_i j;split at h
      ·rename_i k;cases h;refine⟨e,dT b,?_⟩;have aC:=aiG _ r' v _ (cX _) g aH;unfold vz;cases w:dm (r'++v) with
       |none=>rfl
       |some y=>
        obtain⟨m,B,C⟩:=y;have x:d<+:m:=aC _ w;simp only;split
        ·rfl
        ·have D:m.head?=some 9:=by obtain⟨z,rfl⟩:=x;grind
         grind
      grind
   ·rename_i E F;cases h;exact⟨e,dT b,rfl⟩
 deep {u pd r'} v _ h:=by rw[Ci] at h;grind[vz]
 nil pd:=by unfold hi;rw[l2];exact .inl ⟨_,_,_,rfl⟩
structure dX{α:Type}(f:ak α):Prop where
 sfx:∀{r:aa}{pd:aq}{a:α}{r':aa}{aD:aq},f r pd= .ok a r' aD->r'<:+r
 ok:∀{u:aa}{pd:aq}{a:α}{r':aa}{aD:aq}(v:aa),du u->f u pd= .ok a r' aD->r'≠[]->f (u++v) pd= .ok a (r'++v) aD
 bad:∀{u:aa}{pd:aq}{r':aa}(v:aa),du u->u≠[]->f u pd= .bad r'->r'≠[]/\r'<:+u/\f (u++v) pd= .bad (r'++v)
 deep:∀{u:aa}{pd:aq}{r':aa}(v:aa),du u->u≠[]->f u pd= .deep r'->r'≠[]/\r'<:+u/\f (u++v) pd= .deep (r'++v)
theorem ar.n{α:Type}{f:ak α}(h:ar f):dX f:=⟨h.sfx,h.ok,λv hu _=>h.bad v hu,λv hu _=>h.deep v hu⟩
theorem dX.bK{α:Type}:dX (bK:ak α):=⟨λh=>(by cases h),λv _ h=>(by cases h),λv _ ax h=>(by cases h;exact⟨ax,sG _,rfl⟩),λv _ _ h=>(by cases h)⟩
theorem dX.uo{α:Type}:dX (uo:ak α):=⟨λh=>(by cases h),λv _ h=>(by cases h),λv _ _ h=>(by cases h),λv _ ax h=>(by cases h;exact⟨ax,sG _,rfl⟩)⟩
theorem dX.ite{α:Type}{c:Prop}[Decidable c]{f g:ak α}(hf:dX f)(bq:dX g):dX (if c then f else g):=by grind
theorem dX.ae{α β:Type}{m:ak α}{k:α->ak β}(hm:dX m)(hk:∀a,ar (k a)):dX (Go.Eng.ae m k):=by
 constructor
 ·intro r pd b r' l h;obtain⟨a,r1,d,ad,c⟩:=b0 h;exact((hk a).sfx c).trans (hm.sfx ad)
 ·intro u pd b r' l v hu h n;obtain⟨a,r1,d,ad,c⟩:=b0 h;by_cases e:r1=[]
  ·subst e;rcases(hk a).nil d with⟨op,nd,ds,o⟩|⟨j,o⟩
   ·grind
   grind
  ·rw[aY (hm.ok v hu ad e)];exact(hk a).ok v (hu.sfx (hm.sfx ad)) c n
 ·intro u pd r' v hu ax h;unfold Go.Eng.ae at h⊢;split at h
  ·rename_i a r1 d ad;by_cases e:r1=[]
   ·subst e;rcases(hk a).nil d with⟨op,nd,ds,c⟩|⟨j,c⟩<;>(grind)
   ·rw[hm.ok v hu ad e];obtain⟨f,g,i⟩:=(hk a).bad v (hu.sfx (hm.sfx ad)) h;exact⟨f,g.trans (hm.sfx ad),i⟩
  ·cases h
  ·rename_i r1 ad;cases h;obtain⟨f,g,i⟩:=hm.bad v hu ax ad;grind
  grind
 ·intro u pd r' v hu ax h;unfold Go.Eng.ae at h⊢;split at h
  ·rename_i a r1 d ad;by_cases e:r1=[]
   ·subst e;rcases(hk a).nil d with⟨op,nd,ds,c⟩|⟨j,c⟩<;>(grind)
   ·rw[hm.ok v hu ad e];obtain⟨f,g,i⟩:=(hk a).deep v (hu.sfx (hm.sfx ad)) h;exact⟨f,g.trans (hm.sfx ad),i⟩
  ·cases h
  ·cases h
  ·rename_i r1 ad;cases h;obtain⟨f,g,i⟩:=hm.deep v hu ax ad;grind
theorem ar.fJ{α:Type}{x:aa}{k:Tok->ak α}(h:∀t,t≠ .eof->dX (k t))(h0:ar (k .eof)):ar (Go.Eng.ae (bP x) k):=by
 have aC:=ar.dD x
 have c:∀{u:aa}{pd:aq}(v:aa),du u->u≠[]->∀r1,bu u=some r1->r1≠[]/\au r1≠ .eof/\Go.Eng.ae (bP x) k u pd=k (au r1) r1 pd/\Go.Eng.ae (bP x) k (u++v) pd=k (au r1) (r1++v) pd:=by
  intro u pd v hu ax r1 m;obtain⟨d,g⟩:=s8 v m hu ax;refine⟨d,λh=>d (lQ.1 h),?_,?_⟩
  ·exact aY (by grind[bP])
  ·have:bP x (u++v) pd= .ok (au r1) (r1++v) pd:=by unfold bP;rw[g];simp only[EF v (hu.sfx (dT m)) d]
   grind[aY]
 constructor
 ·intro r pd a r' p e;obtain⟨t,r1,f,ad,i⟩:=b0 e;obtain⟨b,rfl,rfl⟩:=np ad;by_cases n:au r1= .eof
  ·rw[n] at i;exact(h0.sfx i).trans (dT b)
  ·exact((h _ n).sfx i).trans (dT b)
 ·intro u pd a r' p v hu e q;obtain⟨t,r1,f,ad,i⟩:=b0 e;obtain⟨b,rfl,rfl⟩:=np ad;by_cases ax:u=[]
  ·subst ax;rw[l2] at b;cases b;have:=h0.sfx i;grind
  ·obtain⟨d,g,o,j⟩:=c (pd:=f) v hu ax r1 b;rw[j];exact(h _ g).ok v (hu.sfx (dT b)) i q
 ·intro u pd r' v hu e;unfold Go.Eng.ae at e;split at e
  ·rename_i t r1 f ad;obtain⟨b,rfl,rfl⟩:=np ad;by_cases ax:u=[]
   ·subst ax;rw[l2] at b;cases b;rcases h0.nil f with⟨_,_,_,h⟩|⟨_,h⟩<;>(rw[show au []= .eof from rfl,h] at e;cases e)
   ·obtain⟨d,g,o,j⟩:=c (pd:=f) v hu ax r1 b;rw[j];obtain⟨l,a2,a3⟩:=(h _ g).bad v (hu.sfx (dT b)) d e;exact⟨l,a2.trans (dT b),a3⟩
  ·cases e
  ·rename_i ad;exact absurd ad (by unfold bP;split<;>(intro h;cases h))
  grind
 ·intro u pd r' v hu e;unfold Go.Eng.ae at e;split at e
  ·rename_i t r1 f ad;obtain⟨b,rfl,rfl⟩:=np ad;by_cases ax:u=[]
   ·subst ax;rw[l2] at b;cases b;rcases h0.nil f with⟨_,_,_,h⟩|⟨_,h⟩<;>(rw[show au []= .eof from rfl,h] at e;cases e)
   ·obtain⟨d,g,o,j⟩:=c (pd:=f) v hu ax r1 b;rw[j];obtain⟨l,a2,a3⟩:=(h _ g).deep v (hu.sfx (dT b)) d e;exact⟨l,a2.trans (dT b),a3⟩
  ·cases e
  ·cases e
  ·rename_i ad;exact absurd ad (by unfold bP;split<;>(intro h;cases h))
 ·intro pd;have:Go.Eng.ae (bP x) k [] pd=k .eof [] pd:=aY (by unfold bP;rw[l2];rfl);rw[this];exact h0.nil pd
theorem ar.EJ{D:ak Unit}(hD:hP D)(x:aa):ar (jH D x):=by
 refine ar.fJ (λt a=>?_) (ar.b6 x);cases t with
 |word w p=>grind[ar.word,ar.n]
 |eof=>grind
 |_=>exact dX.bK
theorem ar.je{D:ak Unit}(hD:hP D):ar (dy D):=by
 refine ar.W8.ae λo=>?_;cases o with
 |none=>simp[ar.ret]
 |some o=>exact(ar.ite (ar.sg _) (ar.ite (ar.sg _) (ar.EJ hD _))).ae λ_=>ar.ret _
theorem aiK{o:aa}(h:eV o=true):o.length≠0:=by intro h0;simp_all[nw,eV]
theorem sh{D:ak Unit}(hD:hP D){r:aa}{pd:aq}{r':aa}{b:aq}(h:dy D r pd= .ok true r' b):r'.length<r.length:=by
 obtain⟨o,r1,f,ad,a⟩:=b0 h;cases o with
 |none=>cases a
 |some o=>
  obtain⟨_,g,i,c,d⟩:=b0 a;cases d;have j:r'.length<=r1.length:=by have ur:ar (if o=[60,60] then hi false else if o=[60,60,45] then hi true else jH D [120]):=ar.ite (ar.sg _) (ar.ite (ar.sg _) (ar.EJ hD _));exact(ur.sfx c).length_le
  unfold fF at ad;split at ad
  ·cases ad
  ·rename_i q e;simp only at ad;split at ad
   ·rename_i k;cases ad;have l:=(dT e).length_le;have a2:(q.dropWhile cb).length<=q.length:=Ch.length_le;grind[aiK,Q6,cb,List.length_drop]
   grind
theorem ar.mA{D:ak Unit}(hD:hP D):ar (gO D):=by
 refine ar.rep ⟨λ_=>(ar.je hD).ae λb=>ar.ret _,λ{s r pd s' r' c} h=>?_⟩ ();obtain⟨b,r1,d,ad,a⟩:=b0 h;cases b with
 |true=>cases a;exact sh hD ad
 |false=>cases a
theorem ar.simple{D:ak Unit}(hD:hP D)(fr:Bool):ar (hv fr D):=by
 have he:ar (Go.Eng.ae (bP []) λt=>match t with
  | .word _ _=>Go.Eng.ae (cP D) λ_=>aU (.inl ())
  | .op o=>if fr/\o=[40] then bK else aU (.inr ())
  |_=>aU (.inr ()):ak (Unit⊕Unit)):=by
  refine ar.fJ (λt c=>?_) (ar.ret _);cases t with
  |word w p=>grind[ar.word,ar.ae,ar.ret,ar.n]
  |op o=>simp[dX.ite,dX.bK,ar.ret,ar.n]
  |_=>simp[ar.ret,ar.n]
 have hl:fI (Go.Eng.ae (bP []) λt=>match t with
  | .word _ _=>Go.Eng.ae (cP D) λ_=>aU (.inl ())
  | .op o=>if fr/\o=[40] then bK else aU (.inr ())
  |_=>aU (.inr ()):ak (Unit⊕Unit)):=by
  refine fI.LA hD (λt c d=>?_) (iR.inr _) (λw p=>⟨cP D,_,rfl,Iff.rfl,λ_=>ar.ret _⟩);cases t with
  |word w p=>grind
  |op o=>simp[fI.ite,fI.bad,fI.inr]
  |_=>simp[fI.inr]
 refine ar.rep ⟨λ_=>(ar.je hD).ae λb=>ar.ite (ar.ret _) he,λ{s r pd s' r' e} h=>?_⟩ ();obtain⟨b,r1,f,ad,a⟩:=b0 h;cases b with
 |true=>cases a;exact sh hD ad
 |false=>
  have g:=((ar.je hD).sfx ad).length_le;by_cases ax:r1=[]
  ·subst ax;simp only[eC,cm] at a;have:iR (Go.Eng.ae (bP []) λt=>match t with
    | .word _ _=>Go.Eng.ae (cP D) λ_=>aU (.inl ())
    | .op o=>if fr/\o=[40] then bK else aU (.inr ())
    |_=>aU (.inr ()):ak (Unit⊕Unit)):=iR.dD (iR.inr _)
   exact absurd a this
  ·simp only[eC,cm] at a;have:=hl ax a;omega
structure uu(l:dS):Prop where
 ls:∀c n,ar (l.ls c n)
 pm:ar l.pm
 cp:∀t,dX (l.cp t)
 rd:ar l.rd
 dl:hP l.dl
theorem ar.exp(b:Tok->Bool)(n:Nat):ar (m2 b n):=by refine ar.fJ (λt a=>?_) (by simp[cG,ar.b6]);rw[aW a];exact dX.ite (ar.dg n).n dX.bK
theorem ar.op(o:aa):ar (jI o):=ar.exp _ _
theorem ar.res(w:aa):ar (cV w):=ar.exp _ _
theorem vA(d:Nat)(b:UInt8)(t:aa):hL d (b::t)=(if b=39\/b=34\/b=92\/b=96\/ga (b::t) then .bad (b::t) else
  if b=40 then hL (d+1) t else
  if b=41 then match d with
   |ev+1=>hL ev t
   |0=>match t with
    |[]=> .more 1
    |c::u=>if c=41 then .ok u else .bad (b::t)
  else hL d t):=by
 rfl
theorem Ra:∀(d:Nat)(r v:aa),du r->r≠[]->(∀q,hL d r= .ok q->q<:+r/\hL d (r++v)= .ok (q++v))/\(∀q,hL d r= .bad q->q≠[]/\q<:+r/\hL d (r++v)= .bad (q++v))
 |d,[],v,_,ax=>absurd rfl ax
 |d,b::t,v,f,ax=>by
  have g:=Q3 v f ax;simp only[hp] at g⊢;rw[vA,vA,g];split
  ·simp
  ·rename_i ad
   have go:∀a,(∀q,hL a t= .ok q->q<:+b::t/\hL a (t++v)= .ok (q++v))/\(∀q,hL a t= .bad q->q≠[]/\q<:+b::t/\hL a (t++v)= .bad (q++v)):=by
    intro a;by_cases h:t=[]
    ·grind[hL]
    ·obtain⟨i,j⟩:=Ra a t v f.tail h;grind
   split
   ·grind
   ·split
    ·rename_i k;cases d with
     |succ a=>grind
     |zero=>
      cases t with
      |nil=>simp
      |cons c u=>
       simp only[hp];split
       ·refine⟨λq e=>?_,λq e=>(by cases e)⟩;cases e;exact⟨(eb _ _).trans (eb _ _),rfl⟩
       simp
    grind
theorem Rb{b:Tok->Bool}{n:Nat}(ax:0<n){r:aa}{pd:aq}{r':aa}{c:aq}(h:m2 b n r pd= .ok () r' c):r'.length<r.length:=by
 obtain⟨t,r1,f,ad,a⟩:=b0 h;obtain⟨d,rfl,rfl⟩:=np ad;have hl:=wV (dT d);split at a
 ·cases a
 ·rename_i he;have:r1≠[]:=λe=>he (lQ.2 e);split at a
  ·cases a;grind[List.length_pos_iff,List.length_drop]
  ·cases a
theorem Xg(t:aa):bu (10::t)=some (10::t):=by simp[nM,f_]
theorem Xh{t:aa}{pd:aq}{b:Bool}{r':aa}{e:aq}(h:cS (10::t) pd= .ok b r' e):r'.length<(10::t).length:=by
 unfold cS at h;rw[p_] at h;split at h
 ·rename_i s1 r1 f ad;have g:=iv.lines.lt ad;rw[bm g] at h;have:=(ar.rep iv.lines s1).sfx h;grind
 ·rename_i a ad;obtain⟨k,r1,f,i,c⟩:=b0 ad;obtain⟨d,rfl,rfl⟩:=np i;rw[Xg] at d;cases d;simp only[au,cG] at c;obtain⟨_,_,_,_,j⟩:=b0 c;cases j
 all_goals cases h
theorem vB{r:aa}(h:au r= .line):∃t,r=10::t:=by
 cases r with
 |nil=>grind[au]
 |cons b t=>grind[au]
section
variable{fr:Bool}{l:dS}(hl:uu l)
include hl
theorem ar.body(x:aa):ar (iI l x):=((ar.res _).aM _).ae λ_=>((hl.ls _ _).aM _).ae λ_=>ar.res _
theorem ar.cond:ar (qM l):=by
 refine ar.rep ⟨λ_=>((hl.ls _ _).aM _).ae λ_=>(ar.res _).ae λ_=>((hl.ls _ _).aM _).ae λ_=>(ar.dD _).ae λt=>ar.ite ((ar.res _).ae λ_=>ar.ret _) (ar.ite ((ar.res _).ae λ_=>((hl.ls _ _).aM _).ae λ_=>(ar.res _).ae λ_=>ar.ret _) ((ar.res _).ae λ_=>ar.ret _)),λ{s r pd s' r' g} h=>?_⟩ ();obtain⟨_,r1,i,ad,h⟩:=b0 h;obtain⟨_,j,k,d,h⟩:=b0 h;obtain⟨_,m,n,e,h⟩:=b0 h;obtain⟨t,o,p,f,h⟩:=b0 h;have q:=((hl.ls _ _).sfx (jv.1 ad)).length_le;have a2:=((ar.res _).sfx d).length_le;have a3:=((hl.ls _ _).sfx (jv.1 e)).length_le;have u:=((ar.dD _).sfx f).length_le;split at h
 ·obtain⟨_,b,c,a,h⟩:=b0 h;cases h;have:=Rb (by decide) a;omega
 ·split at h
  ·obtain⟨_,b,c,a,h⟩:=b0 h;obtain⟨_,v,w,x,h⟩:=b0 h;obtain⟨_,y,z,A,h⟩:=b0 h;cases h
  ·obtain⟨_,b,c,a,h⟩:=b0 h;cases h
omit hl in
theorem ar.words{D:ak Unit}(hD:hP D):ar (pz D):=by
 refine ar.rep (iv.of (λ_=>ar.fJ (λt a=>?_) (ar.b6 _)) (λ_=>fI.LA hD (λt a b=>?_) (iR.more _) (λw p=>⟨cP D,_,rfl,Iff.rfl,λ_=>ar.ret _⟩)) λ_=>iR.dD (iR.more _)) ()
 ·cases t with
  |eof=>grind
  |word w p=>grind[ar.word,ar.ae,ar.ret,ar.n]
  |line=>simp[ar.ret,ar.n]
  |op o=>exact dX.ite ((ar.dg _).ae λ_=>ar.ret _).n dX.bK
 ·cases t with
  |eof=>grind
  |word w p=>grind
  |line=>simp[fI.inr]
  |op o=>exact fI.ite (by intro r pd s r' c d e;obtain⟨_,_,_,_,e⟩:=b0 e;cases e) fI.bad
theorem ar.for_{D:ak Unit}(hD:hP D):ar (pA l D):=by
 have a:ar (Go.Eng.ae (bP []) λt=>if t= .op [59] then Go.Eng.ae (bZ 1) λ_=>Go.Eng.ae cS λ_=>aU () else
   Go.Eng.ae cS λ_=>Go.Eng.ae (bP []) λt=>if cE t fl then Go.Eng.ae (bZ 2) λ_=>Go.Eng.ae (pz D) λ_=>Go.Eng.ae cS λ_=>aU () else aU ()):=
  (ar.dD _).ae λt=>ar.ite ((ar.dg _).ae λ_=>ar.lines.ae λ_=>ar.ret _) (ar.lines.ae λ_=>(ar.dD _).ae λt=>ar.ite ((ar.dg _).ae λ_=>(ar.words hD).ae λ_=>ar.lines.ae λ_=>ar.ret _) (ar.ret _))
 refine ar.fJ (λt b=>?_) (ar.b6 _);cases t with
 |eof=>grind
 |word w p=>
  cases p with
  |true=>exact dX.ite ((ar.dg _).ae λ_=>(a.aM _).ae λ_=>ar.body hl _).n dX.bK
  |false=>exact dX.bK
 |_=>exact dX.bK
omit hl in
theorem Rd{D:ak Unit}(hD:hP D):iv (λ(_:Unit)=>Go.Eng.ae (bP [120,41]) λt=>match t with
 | .eof=>b6 [120,41]
 | .word _ _=>Go.Eng.ae ((cP D).aM [41]) λ_=>Go.Eng.ae (bP [41]) λt=>match t with
   | .eof=>b6 [41]
   | .op o=>if o=[124] then Go.Eng.ae (bZ 1) λ_=>aU (.inl ()) else if o=[41] then Go.Eng.ae (bZ 1) λ_=>aU (.inr ()) else bK
   |_=>bK
 |_=>bK:Unit->ak (Unit⊕Unit)):=by
 have b:ar (Go.Eng.ae (bP [41]) λt=>match t with
  | .eof=>b6 [41]
  | .op o=>if o=[124] then Go.Eng.ae (bZ 1) λ_=>aU (.inl ()) else if o=[41] then Go.Eng.ae (bZ 1) λ_=>aU (.inr ()) else bK
  |_=>bK:ak (Unit⊕Unit)):=by
  refine ar.fJ (λt a=>?_) (ar.b6 _);cases t with
  |eof=>grind
  |op o=>exact dX.ite ((ar.dg _).ae λ_=>ar.ret _).n (dX.ite ((ar.dg _).ae λ_=>ar.ret _).n dX.bK)
  |_=>exact dX.bK
 refine iv.of (λ_=>ar.fJ (λt a=>?_) (ar.b6 _)) (λ_=>fI.LA hD (λt a c=>?_) (iR.more _) (λw p=>⟨(cP D).aM [41],_,rfl,jv,λ_=>b⟩)) λ_=>iR.dD (iR.more _)
 ·cases t with
  |eof=>grind
  |word w p=>exact(((ar.word hD).aM _).ae λ_=>b).n
  |_=>exact dX.bK
 ·cases t with
  |eof=>exact absurd rfl a
  |word w p=>exact absurd rfl (c w p)
  |_=>exact fI.bad
omit hl in
theorem ar.wX{D:ak Unit}(hD:hP D):ar (kO D):=ar.rep (Rd hD) ()
omit hl in
theorem Re{D:ak Unit}(hD:hP D){r:aa}{pd:aq}{r':aa}{j:aq}(h:kO D r pd= .ok () r' j):r'.length<r.length:=by
 unfold kO at h;rw[p_] at h;split at h
 ·rename_i s1 r1 k ad;have l:=(Rd hD).lt (s:=()) ad;rw[bm l] at h;have:=((ar.rep (Rd hD) s1).sfx h).length_le;omega
 ·rename_i a ad;cases h;obtain⟨t,r1,k,m,d⟩:=b0 ad;obtain⟨g,rfl,rfl⟩:=np m;have a0:=(dT g).length_le;cases e:au r1 with
  |word w p=>
   rw[e] at d;obtain⟨_,B,C,n,q⟩:=b0 d
   have u:∃b t,r1=b::t:=by
    cases r1 with
    |nil=>grind[au]
    |cons b t=>simp
   obtain⟨b,t,rfl⟩:=u;have v:=H_ ⟨w,p,e⟩ (W7 _ _ (cX _) _ _ g);have E:=vx hD (by simp) v (jv.1 n);obtain⟨F,x,G,y,c⟩:=b0 q;obtain⟨z,rfl,rfl⟩:=np y;have a2:=(dT z).length_le;cases i:au x with
   |op o=>
    rw[i] at c;simp only at c;split at c
    ·obtain⟨_,_,_,_,f⟩:=b0 c;cases f
    ·split at c
     ·obtain⟨_,H,I,f,A⟩:=b0 c;cases A;have:=((ar.dg 1).sfx f).length_le;omega
     ·cases c
   |_=>rw[i] at c;cases c
  |_=>rw[e] at d;cases d
 all_goals cases h
theorem ar.items{D:ak Unit}(hD:hP D):ar (nn l D):=by
 have a:ar (Go.Eng.ae (kO D) λ_=>Go.Eng.ae (l.ls .item true) λ_=>Go.Eng.ae (bP []) λt=>if t= .op [59,59] then Go.Eng.ae (bZ 2) λ_=>aU (.inl ()) else aU (.inl ()):ak (Unit⊕Unit)):=
  (ar.wX hD).ae λ_=>(hl.ls _ _).ae λ_=>(ar.dD _).ae λt=>ar.ite ((ar.dg _).ae λ_=>ar.ret _) (ar.ret _)
 refine ar.rep ⟨λ_=>ar.lines.ae λ_=>(ar.dD _).ae λt=>ar.ite (ar.b6 _) (ar.ite ((ar.dg _).ae λ_=>ar.ret _) ((ar.ite (ar.dg _) (ar.ret _)).ae λ_=>a)),λ{s r pd s' r' i} h=>?_⟩ ();obtain⟨_,r1,j,ad,h⟩:=b0 h;obtain⟨t,k,m,b,h⟩:=b0 h;have n:=(ar.lines.sfx ad).length_le;have a2:=((ar.dD _).sfx b).length_le;split at h
 ·cases h
 ·split at h
  ·obtain⟨_,_,_,_,h⟩:=b0 h;cases h
  ·obtain⟨_,o,p,c,h⟩:=b0 h;have a3:=((ar.ite (ar.dg 1) (ar.ret ())).sfx c).length_le;obtain⟨_,q,u,d,h⟩:=b0 h;have v:=Re hD d;obtain⟨_,w,x,e,h⟩:=b0 h;have y:=((hl.ls _ _).sfx e).length_le;obtain⟨_,z,A,f,h⟩:=b0 h;have B:=((ar.dD _).sfx f).length_le;split at h
   ·obtain⟨_,C,E,g,h⟩:=b0 h;cases h;have:=((ar.dg 2).sfx g).length_le;omega
   ·cases h;omega
omit hl in
theorem ar.aiL{α β:Type}{m:ak α}{k:α->ak β}(hm:ar m)(bd:∀{r pd a r' f},m r pd= .ok a r' f->r'≠[])(hk:∀a,dX (k a)):ar (Go.Eng.ae m k):=by
 constructor
 ·intro r pd b r' f h;obtain⟨a,r1,g,ad,i⟩:=b0 h;exact((hk a).sfx i).trans (hm.sfx ad)
 ·intro u pd b r' f v hu h j;obtain⟨a,r1,g,ad,i⟩:=b0 h;rw[aY (hm.ok v hu ad (bd ad))];exact(hk a).ok v (hu.sfx (hm.sfx ad)) i j
 ·intro u pd r' v hu h;unfold Go.Eng.ae at h⊢;split at h
  ·rename_i a r1 g ad;rw[hm.ok v hu ad (bd ad)];obtain⟨c,d,e⟩:=(hk a).bad v (hu.sfx (hm.sfx ad)) (bd ad) h;exact⟨c,d.trans (hm.sfx ad),e⟩
  ·cases h
  ·rename_i r1 ad;cases h;obtain⟨c,d,e⟩:=hm.bad v hu ad;grind
  grind
 ·intro u pd r' v hu h;unfold Go.Eng.ae at h⊢;split at h
  ·rename_i a r1 g ad;rw[hm.ok v hu ad (bd ad)];obtain⟨c,d,e⟩:=(hk a).deep v (hu.sfx (hm.sfx ad)) (bd ad) h;exact⟨c,d.trans (hm.sfx ad),e⟩
  ·cases h
  ·cases h
  ·rename_i r1 ad;cases h;obtain⟨c,d,e⟩:=hm.deep v hu ad;grind
 ·intro pd;rcases hm.nil pd with⟨op,nd,ds,h⟩|⟨a,h⟩
  ·left;unfold Go.Eng.ae;rw[h];exact⟨_,_,_,rfl⟩
  grind
theorem ar.wY{D:ak Unit}(hD:hP D):ar (qN l D):=by
 have ad:ar (Go.Eng.ae (cP D) λ_=>Go.Eng.ae cS λ_=>Go.Eng.ae (bP []) λt=>if t= .eof then Go.Eng.b6 [] else aU t):=
  (ar.word hD).ae λ_=>ar.lines.ae λ_=>(ar.dD _).ae λt=>ar.ite (ar.b6 _) (ar.ret _)
 refine ar.fJ (λt f=>?_) (ar.b6 _);cases t with
 |eof=>grind
 |word w p=>
  refine(ar.aiL (ad.aM _) (λ{r pd a r' g} h=>?_) λt=>dX.ite ((ar.dg _).ae λ_=>(ar.items hl hD).aM _).n dX.bK).n;obtain⟨_,i,j,k,c⟩:=b0 (jv.1 h);obtain⟨_,m,n,o,d⟩:=b0 c;obtain⟨t,q,s,e,b⟩:=b0 d;obtain⟨u,rfl,rfl⟩:=np e;split at b
  ·cases b
  ·rename_i he;cases b;grind[lQ]
 |_=>exact dX.bK
theorem dX.kind(t:Tok):dX (hN l t):=by
 cases t with
 |op o=>exact((ar.dg _).ae λ_=>((hl.ls _ _).aM _).ae λ_=>ar.op _).n
 |word w p=>exact((ar.dg _).ae λ_=>ar.ite (((hl.ls _ _).aM _).ae λ_=>ar.res _) (ar.ite (ar.cond hl) (ar.ite (ar.for_ hl hl.dl) (ar.ite (ar.wY hl hl.dl) (((hl.ls _ _).aM _).ae λ_=>ar.body hl _))))).n
 |_=>exact dX.bK
omit hl in
theorem dX.named{α:Type}{m:ak α}(hm:dX m)(x:aa):dX (m.named x):=by
 have d:∀r pd q,m.named x r pd= .bad q↔m r pd= .bad q:=by grind[ak.named]
 have aH:∀r pd q,m.named x r pd= .deep q↔m r pd= .deep q:=by grind[ak.named]
 exact⟨λh=>hm.sfx (Ce.1 h),λv hu h e=>Ce.2 (hm.ok v hu (Ce.1 h) e),
  λ{u pd r'} v hu ax h=>(by obtain⟨a,b,c⟩:=hm.bad v hu ax ((d _ _ _).1 h);grind),
  λ{u pd r'} v hu ax h=>(by obtain⟨a,b,c⟩:=hm.deep v hu ax ((aH _ _ _).1 h);grind)⟩
end
section
variable{fr:Bool}{lo:Option dS}(jY:∀l∈lo,uu l)
include jY
theorem dX.cp(t:Tok):dX (se lo t):=by
 cases lo with
 |none=>exact dX.uo
 |some l=>exact(dX.kind (jY l rfl) t).named _
theorem dX.function:dX (l1 fr lo):=by
 cases lo with
 |none=>exact dX.uo
 |some l=>have hl:=jY l rfl;unfold l1;simp only;refine dX.ite (dX.named ?_ _) dX.uo;refine((ar.dg _).ae λ_=>ar.fJ (λt a=>?_) (by simp[cG,ar.b6])).n;rw[aW a];refine dX.ite ?_ dX.bK;refine((ar.dg _).ae λ_=>(ar.lines.aM _).ae λ_=>ar.fJ (λt a=>?_) (by simp[cG,ar.b6])).n;rw[aW a];exact dX.ite ((hl.cp t).ae λ_=>ar.ite hl.rd (ar.ret _)) dX.bK
omit jY in
theorem Ae:∀(d:Nat)(r q:aa),hL d r= .ok q->q<:+r
 |d,[],q,h=>by grind[hL]
 |d,b::t,q,h=>by
  rw[vA] at h;split at h
  ·cases h
  ·split at h
   ·exact(Ae _ t q h).trans (eb _ _)
   ·split at h
    ·cases d with
     |succ a=>exact(Ae a t q h).trans (eb _ _)
     |zero=>
      cases t with
      |nil=>cases h
      |cons c u=>
       simp only at h;split at h
       ·cases h;exact(eb _ _).trans (eb _ _)
       ·cases h
    ·exact(Ae d t q h).trans (eb _ _)
omit jY in
theorem ar.nk:ar nk:=by
 constructor
 ·grind[Go.Eng.nk,Ae]
 ·intro u pd a r' e v hu h f;by_cases ax:u=[]
  ·subst ax;cases h
  ·unfold Go.Eng.nk at h⊢;split at h
   ·simp_all[Ra]
   ·cases h
   grind
 ·intro u pd r' v hu h;by_cases ax:u=[]
  ·subst ax;cases h
  ·unfold Go.Eng.nk at h⊢;split at h
   ·cases h
   ·cases h
   ·rename_i q d;cases h;obtain⟨a,b,c⟩:=(Ra 0 u v hu ax).2 _ d;grind
 ·grind[Go.Eng.nk]
 ·intro pd;exact .inl ⟨_,_,_,rfl⟩
omit jY in
theorem ar.Rg{o:aa}(b:(10:UInt8)∉o)(i:o≠[]){α:Type}{f g:ak α}(hf:dX f)(bq:ar g):ar (λr pd=>if o.isPrefixOf r then f r pd else g r pd):=by
 have h0:o.isPrefixOf ([]:aa)=false:=by grind
 constructor
 ·intro r pd a r' e h;split at h
  ·exact hf.sfx h
  ·exact bq.sfx h
 ·intro u pd a r' e v hu h d;by_cases ax:u=[]
  ·subst ax;simp only[h0] at h;have:=bq.sfx h;grind
  ·rw[Ly v b hu ax];split at h
   ·rename_i aG;rw[bm aG];exact hf.ok v hu h d
   ·rename_i aG;rw[aW aG];exact bq.ok v hu h d
 ·intro u pd r' v hu h;by_cases ax:u=[]
  ·subst ax;simp only[h0] at h;rcases bq.nil pd with⟨_,_,_,c⟩|⟨_,c⟩<;>(grind)
  ·rw[Ly v b hu ax];split at h
   ·rename_i aG;rw[bm aG];exact hf.bad v hu ax h
   ·rename_i aG;rw[aW aG];exact bq.bad v hu h
 ·intro u pd r' v hu h;by_cases ax:u=[]
  ·subst ax;simp only[h0] at h;rcases bq.nil pd with⟨_,_,_,c⟩|⟨_,c⟩<;>(grind)
  ·rw[Ly v b hu ax];split at h
   ·rename_i aG;rw[bm aG];exact hf.deep v hu ax h
   ·rename_i aG;rw[aW aG];exact bq.deep v hu h
 ·intro pd;simp only[h0];exact bq.nil pd
omit jY in
theorem dX.sd{n:Nat}{f:dS->ak Unit}(hf:∀l∈lo,ar (f l)):dX (sd lo n f):=by
 cases lo with
 |none=>exact dX.uo
 |some l=>exact((ar.dg _).ae λ_=>hf l rfl).n
theorem ar.vC:ar (dH lo):=by refine ar.Rg (by decide) (by decide) ((ar.dg 3).ae λ_=>ar.nk).n ?_;refine ar.Rg (by decide) (by decide) (dX.sd λl h=>((((jY l h).ls _ _).aM _).named _).ae λ_=>ar.op _) ?_;refine ar.Rg (by decide) (by decide) (dX.sd λl h=>(jY l h).pm.named _) ?_;exact ar.dg 1
theorem Cj:hP (dH lo):=by
 refine⟨ar.vC jY,λ{r pd r' b} g h=>?_⟩;have i:r≠[]:=by rintro rfl;grind[ga]
 have c:∀n (f:dS->ak Unit),(∀l∈lo,ar (f l))->0<n->sd lo n f r pd= .ok () r' b->r'.length<r.length:=by
  intro n f hf ax h;cases lo with
  |none=>cases h
  |some l=>have d:Go.Eng.ae (bZ n) (λ_=>f l) r pd= .ok () r' b:=h;obtain⟨_,r1,e,ad,a⟩:=b0 d;cases ad;have:=((hf l rfl).sfx a).length_le;grind[List.length_pos_iff,List.length_drop]
 unfold dH at h;split at h
 ·obtain⟨_,r1,e,ad,a⟩:=b0 h;cases ad;have:=(ar.nk.sfx a).length_le;grind
 ·split at h
  ·exact c 2 _ (λl h=>((((jY l h).ls _ _).aM _).named _).ae λ_=>ar.op _) (by decide) h
  ·split at h
   ·exact c 2 _ (λl h=>(jY l h).pm.named _) (by decide) h
   grind[List.length_pos_iff,List.length_drop]
theorem ar.command{D:ak Unit}(hD:hP D):ar (gk fr lo D):=by
 refine ar.fJ (λt a=>?_) (by simp[cG,ar.b6]);rw[aW a];refine dX.ite ((dX.cp jY t).ae λ_=>ar.mA hD) ?_;cases t with
 |eof=>grind
 |line=>exact dX.bK
 |op o=>exact dX.ite ((ar.je hD).ae λ_=>ar.simple hD _).n dX.bK
 |word w p=>
  refine dX.ite dX.bK ((ar.je hD).ae λb=>ar.ite (ar.simple hD _) ((ar.word hD).ae λ_=>ar.ite (ar.fJ (λt a=>?_) ?_) (ar.simple hD _))).n
  ·exact dX.ite ((dX.function jY).ae λ_=>ar.ite (ar.ret _) (ar.mA hD)) (ar.simple hD _).n
  simp_all[aW,ar.simple]
omit jY in
theorem ar.pipe{da:ak Unit}(aG:ar da):ar (fi da):=by
 have hk:ar (Go.Eng.ae (cS.aM [120]) λ_=>Go.Eng.ae da λ_=>aU (.inl ()):ak (Unit⊕Unit)):=(ar.lines.aM _).ae λ_=>aG.ae λ_=>ar.ret _;refine(ar.dD _).ae λt=>(ar.ite (ar.dg _) (ar.ret _)).ae λ_=>aG.ae λ_=>ar.rep (iv.of (λ_=>(ar.dD _).ae λt=>ar.ite ((ar.dg _).ae λ_=>hk) (ar.ret _)) (λ_=>fI.dD (λt a=>fI.ite (fI.Cf (mz.dg 0) λ_=>hk) (fI.inr _)) ?_) (λ_=>iR.dD ?_)) ()
 ·simp[cm,iR.inr]
 simp[cm,iR.inr]
omit jY in
theorem ar.pB{a:ak Unit}(aG:ar a):ar (hj a):=by
 have hk:ar (Go.Eng.ae (cS.aM [120]) λ_=>Go.Eng.ae a λ_=>aU (.inl ()):ak (Unit⊕Unit)):=(ar.lines.aM _).ae λ_=>aG.ae λ_=>ar.ret _;refine aG.ae λ_=>ar.rep (iv.of (λ_=>(ar.dD _).ae λt=>ar.ite ((ar.dg _).ae λ_=>hk) (ar.ret _)) (λ_=>fI.dD (λt b=>fI.ite (fI.Cf (mz.dg 1) λ_=>hk) (fI.inr _)) ?_) (λ_=>iR.dD ?_)) ()
 ·simp[or_self,cm,iR.inr]
 simp[or_self,cm,iR.inr]
end
def hQ(c:Ctx)(n:Nat)(t:Tok):ak (Nat⊕Nat):=match t with
    | .eof=>aU (.inl (n+1))
    | .line=>ae cS λ_=>aU (.inl (n+1))
    | .word _ _=>bK
    | .op o=>if o=[59]\/o=[38] then ae (bZ 1) λ_=>ae cS λ_=>aU (.inl (n+1)) else if dR c t then aU (.inr (n+1)) else bK
def ed(ao:ak Unit)(c:Ctx)(none:Bool)(n:Nat):ak (Nat⊕Nat):=ae (bP (if none||n>0 then [] else [120])) λt=>
 if t= .eof then(if c= .text then aU (.inr n) else b6 (if none||n>0 then [] else [120])) else if(none||n>0)&&dR c t then aU (.inr n) else
 ae ao λ_=>ae (bP []) (hQ c n)
theorem uw(ao:ak Unit)(c:Ctx)(none:Bool):od ao c none=ae (cS.aM (if none then [] else [120])) λ_=>ca (ed ao c none) 0:=rfl
theorem ar.aiM(c:Ctx)(n:Nat):ar (Go.Eng.ae (bP []) (hQ c n)):=by
 refine ar.fJ (λt a=>?_) (ar.ret _);cases t with
 |eof=>grind
 |line=>exact(ar.lines.ae λ_=>ar.ret _).n
 |word w p=>exact dX.bK
 |op o=>exact dX.ite ((ar.dg _).ae λ_=>ar.lines.ae λ_=>ar.ret _).n (dX.ite (ar.ret _).n dX.bK)
theorem iv.round{ao:ak Unit}(i:ar ao)(c:Ctx)(none:Bool):iv (ed ao c none):=by
 refine⟨λn=>(ar.dD _).ae λt=>ar.ite (ar.ite (ar.ret _) (ar.b6 _)) (ar.ite (ar.ret _) (i.ae λ_=>ar.aiM c n)),λ{n r pd z r' A} h=>?_⟩;obtain⟨t,r1,B,ad,b⟩:=b0 h;obtain⟨j,rfl,rfl⟩:=np ad;have C:=(dT j).length_le;split at b
 ·split at b<;>cases b
 ·rename_i bd;have D:0<r1.length:=No.2 λe=>bd (lQ.2 e);split at b
  ·cases b
  ·obtain⟨_,E,F,k,l⟩:=b0 b;have a2:=(i.sfx k).length_le;obtain⟨t,m,G,q,a⟩:=b0 l;obtain⟨s,rfl,rfl⟩:=np q;have a3:=(dT s).length_le;cases d:au m with
   |eof=>rw[d] at a;cases a;grind[lQ]
   |line=>rw[d] at a;obtain⟨t,rfl⟩:=vB d;obtain⟨_,u,v,f,g⟩:=b0 a;cases g;have:=Xh f;omega
   |word w p=>rw[d] at a;cases a
   |op o=>
    rw[d] at a;unfold hQ at a;simp only at a;split at a
    ·obtain⟨_,u,v,f,g⟩:=b0 a;cases f;obtain⟨_,H,I,x,y⟩:=b0 g;cases y;have J:=(ar.lines.sfx x).length_le;grind
    ·split at a<;>cases a
theorem ar.list{ao:ak Unit}(a:ar ao)(c:Ctx)(none:Bool):ar (od ao c none):=by rw[uw];exact(ar.lines.aM _).ae λ_=>ar.rep (iv.round a c none) 0
theorem Xj{fr:Bool}{lo:Option dS}(jY:∀l∈lo,uu l)(b:Bool):uu {ls:=od (hj (fi (gk fr lo (dH lo)))),pm:=qJ (dH lo),cp:=se lo,rd:=gO (dH lo),dl:=dH lo,has:=b}:=
 have hD:=Cj jY
 ⟨λc n=>ar.list (ar.pB (ar.pipe (ar.command jY hD))) c n,ar.param hD,dX.cp jY,ar.mA hD,hD⟩
theorem pC(fr:Bool):∀n,uu (aZ fr n)
 |0=>Xj (λl h=>by cases h) false
 |n+1=>Xj (λl h=>by cases h;exact pC fr n) true
theorem aiN{fr:Bool}{n:Nat}{u v r:aa}(hu:du u)(h:hO fr n u= .bad r):r<:+u/\hO fr n (u++v)= .bad (r++v):=
 ((pC fr n).ls .text true).bad v hu h|>.2
theorem aiO{fr:Bool}{n:Nat}{u v r:aa}(hu:du u)(h:hO fr n u= .deep r):r<:+u/\hO fr n (u++v)= .deep (r++v):=
 ((pC fr n).ls .text true).deep v hu h|>.2
def e9{α:Type}(f:ak α):Prop:=∀⦃u:aa⦄ ⦃pd:aq⦄ ⦃a:α⦄ ⦃r':aa⦄ ⦃b:aq⦄,du u->u≠[]->f u pd= .ok a r' b->r'≠[]
def NE{α:Type}(f:ak α):Prop:=∀⦃u:aa⦄ ⦃pd:aq⦄ ⦃a:α⦄ ⦃r':aa⦄ ⦃b:aq⦄,du u->f u pd= .ok a r' b->r'≠[]
theorem NE.k{α:Type}{f:ak α}(h:NE f):e9 f:=λ_ _ _ _ _ hu _ e=>h hu e
theorem NE.oM{α β:Type}{m:ak α}{k:α->ak β}(c:ar m)(hm:NE m)(hk:∀a,e9 (k a)):NE (ae m k):=by intro u pd b r' e hu h;obtain⟨a,r1,f,ad,d⟩:=b0 h;exact hk a (hu.sfx (c.sfx ad)) (hm hu ad) d
theorem NE.lg{α β:Type}{m:ak α}{k:α->ak β}(c:ar m)(hk:∀a,NE (k a)):NE (ae m k):=by intro u pd b r' e hu h;obtain⟨a,r1,f,ad,d⟩:=b0 h;exact hk a (hu.sfx (c.sfx ad)) d
theorem e9.ae{α β:Type}{m:ak α}{k:α->ak β}(c:ar m)(hm:e9 m)(hk:∀a,e9 (k a)):e9 (Go.Eng.ae m k):=by intro u pd b r' e hu ax h;obtain⟨a,r1,f,ad,d⟩:=b0 h;exact hk a (hu.sfx (c.sfx ad)) (hm hu ax ad) d
theorem e9.ret{α:Type}(a:α):e9 (aU a):=by intro u pd b r' c hu ax h;cases h;exact ax
theorem NE.more{α:Type}(x:aa):NE (b6 x:ak α):=by intro u pd b r' a hu h;cases h
theorem NE.bad{α:Type}:NE (bK:ak α):=by intro u pd b r' a hu h;cases h
theorem NE.deep{α:Type}:NE (uo:ak α):=by intro u pd b r' a hu h;cases h
theorem e9.ite{α:Type}{c:Prop}[Decidable c]{f g:ak α}(hf:e9 f)(bq:e9 g):e9 (if c then f else g):=by grind
theorem NE.ite{α:Type}{c:Prop}[Decidable c]{f g:ak α}(hf:NE f)(bq:NE g):NE (if c then f else g):=by grind
theorem NE.aM{α:Type}{m:ak α}(h:NE m)(x:aa):NE (m.aM x):=λ_ _ _ _ _ hu e=>h hu (jv.1 e)
theorem NE.named{α:Type}{m:ak α}(h:NE m)(x:aa):NE (m.named x):=λ_ _ _ _ _ hu e=>h hu (Ce.1 e)
theorem e9.dD(x:aa):e9 (bP x):=by intro u pd t r' a hu ax h;obtain⟨ad,_,_⟩:=np h;exact(s8 [] ad hu ax).1
theorem NE.fJ{α:Type}{x:aa}{k:Tok->ak α}(h:∀t r,t≠ .eof->du r->au r=t->∀{pd a r' c},k t r pd= .ok a r' c->r'≠[])(h0:NE (k .eof)):NE (ae (bP x) k):=by
 intro u pd b r' c hu e;obtain⟨t,r1,j,ad,d⟩:=b0 e;obtain⟨f,rfl,rfl⟩:=np ad;have g:=hu.sfx (dT f);by_cases i:au r1= .eof
 ·rw[i] at d;exact h0 g d
 grind
theorem LF{o r:aa}(a:(10:UInt8)∉o)(aC:o<+:r)(b:du r)(ax:r≠[]):r.drop o.length≠[]:=by obtain⟨t,rfl⟩:=aC;rw[o0];rintro rfl;grind[W_]
theorem aiP{r:aa}:br r∈la\/br r=[]:=by
 unfold br;cases h:la.find? (λo=>o.isPrefixOf r) with
 |none=>simp
 |some o=>grind
theorem Xk{r:aa}:(10:UInt8)∉br r:=by
 rcases aiP (r:=r) with h|h
 ·have:∀o∈la,(10:UInt8)∉o:=by decide
  grind
 grind
theorem ic{r o:aa}(h:au r= .op o):o=br r/\o<+:r/\(10:UInt8)∉o/\o≠[]:=by
 cases r with
 |nil=>grind[au]
 |cons b t=>
  simp only[au] at h;split at h
  ·cases h
  ·split at h
   ·rename_i ad;cases h;exact⟨rfl,Q7,Xk,ad⟩
   grind
theorem EL:∀(r w:aa),c4 r=(w,true)->w<+:r/\(10:UInt8)∉w
 |[],w,h=>by grind[c4]
 |b::t,w,h=>by
  rw[c4] at h;split at h
  ·grind
  ·rename_i d;split at h
   ·cases h
   ·split at h
    ·rename_i w' a;cases h;obtain⟨c,e⟩:=EL t w' a;refine⟨List.cons_prefix_cons.2 ⟨rfl,c⟩,?_⟩;simp only[kU,F9];grind[Lz]
    grind
theorem qd{r w:aa}(h:au r= .word w true):w<+:r/\(10:UInt8)∉w:=by
 cases r with
 |nil=>grind[au]
 |cons b t=>grind[au,Tok.word.injEq,EL]
theorem NE.exp{b:Tok->Bool}{n:Nat}(h:∀r t,du r->au r=t->b t=true->r.drop n≠[]):NE (m2 b n):=by
 refine NE.fJ (λt r c d he {pd a r' f} e=>?_) ?_
 ·rw[aW c] at e;split at e
  ·rename_i g;cases e;grind
  ·cases e
 ·rw[bm rfl];exact NE.more _
theorem NE.op(o:aa):NE (jI o):=by
 refine NE.exp λr t a he d=>?_;have:t= .op o:=by grind
 subst this;obtain⟨ad,b,c,e⟩:=ic he;exact LF c b a (by grind)
theorem NE.res(w:aa):NE (cV w):=by
 refine NE.exp λr t a he c=>?_;have:t= .word w true:=by grind[cE]
 subst this;obtain⟨ad,b⟩:=qd he;exact LF b ad a (by rintro rfl;grind[au])
theorem LG{σ α:Type}{f:σ->ak (σ⊕α)}(hf:iv f)(P:aa->Prop)(Q:aa->Prop)(ad:∀s r pd s' r' b,P r->f s r pd= .ok (.inl s') r' b->P r')(c:∀s r pd a r' b,P r->f s r pd= .ok (.inr a) r' b->Q r'):
  ∀(n:Nat)(s:σ)(r:aa)(pd:aq)(a:α)(r':aa)(b:aq),r.length<=n->P r->ca f s r pd= .ok a r' b->Q r':=by
 intro n;induction n with
 |zero=>grind[p_]
 |succ n d=>intro s r pd a r' b ax aC h;rw[p_] at h;grind
theorem NE.word{D:ak Unit}(hD:hP D):NE (cP D):=by
 intro u pd a r' b hu h;refine LG (iv.word hD) (λ_=>True) (λr=>r≠[]) (λ_ _ _ _ _ _ _ _=>trivial) ?_ _ _ _ _ _ _ _ (cX _) trivial h;intro s r pd a r' b _ e;split at e
 ·cases e
 ·split at e
  ·grind
  ·obtain⟨_,_,_,_,e⟩:=b0 e;cases e
theorem NE.sg(tabs:Bool):NE (hi tabs):=by intro u pd a r' b hu h;grind[Ci,vz]
theorem NE.EJ{D:ak Unit}(hD:hP D)(x:aa):NE (jH D x):=by
 refine NE.fJ (λt r c b he {pd a r' d} e=>?_) (NE.more x);cases t with
 |eof=>grind
 |word w p=>exact NE.word hD b e
 |_=>cases e
theorem e9.je{D:ak Unit}(hD:hP D):e9 (dy D):=by
 intro u pd a r' g hu ax h;obtain⟨o,r1,i,ad,b⟩:=b0 h;cases o with
 |none=>
  cases b;unfold fF at ad;split at ad
  ·cases ad
  ·rename_i q c;simp only at ad;split at ad
   ·cases ad
   ·cases ad;exact(s8 [] c hu ax).1
 |some o=>obtain⟨_,j,k,d,e⟩:=b0 b;cases e;have f:=hu.sfx (ar.W8.sfx ad);have:NE (if o=[60,60] then hi false else if o=[60,60,45] then hi true else jH D [120]):=NE.ite (NE.sg _) (NE.ite (NE.sg _) (NE.EJ hD _));exact this f d
theorem aiQ{D:ak Unit}(hD:hP D):iv (λ(_:Unit)=>ae (dy D) λb=>aU (if b then .inl () else .inr ()):Unit->ak (Unit⊕Unit)):=by
 refine⟨λ_=>(ar.je hD).ae λb=>ar.ret _,λ{s r pd s' r' c} h=>?_⟩;obtain⟨b,r1,d,ad,a⟩:=b0 h;cases b with
 |true=>cases a;exact sh hD ad
 |false=>cases a
theorem e9.rep{σ α:Type}{f:σ->ak (σ⊕α)}(hf:iv f)(hk:∀s,e9 (f s))(s:σ):e9 (ca f s):=by intro u pd a r' b hu ax h;have:=LG hf (λr=>du r/\r≠[]) (λr=>r≠[]) (λs r pd s' r' b aC e=>⟨aC.1.sfx ((hf.ex s).sfx e),hk s aC.1 aC.2 e⟩) (λs r pd a r' b aC e=>hk s aC.1 aC.2 e);exact this _ _ _ _ _ _ _ (cX _) ⟨hu,ax⟩ h
theorem e9.mA{D:ak Unit}(hD:hP D):e9 (gO D):=e9.rep (aiQ hD) (λ_=>e9.ae (ar.je hD) (e9.je hD) λb=>e9.ret _) ()
theorem aiR{D:ak Unit}(hD:hP D)(fr:Bool):iv (λ(_:Unit)=>ae (dy D) λb=>if b then aU (.inl ()) else ae (bP []) λt=>match t with
 | .word _ _=>ae (cP D) λ_=>aU (.inl ())
 | .op o=>if fr/\o=[40] then bK else aU (.inr ())
 |_=>aU (.inr ()):Unit->ak (Unit⊕Unit)):=by
 have he:ar (ae (bP []) λt=>match t with
  | .word _ _=>ae (cP D) λ_=>aU (.inl ())
  | .op o=>if fr/\o=[40] then bK else aU (.inr ())
  |_=>aU (.inr ()):ak (Unit⊕Unit)):=by
  refine ar.fJ (λt c=>?_) (ar.ret _);cases t with
  |word w p=>exact((ar.word hD).ae λ_=>ar.ret _).n
  |op o=>exact dX.ite dX.bK (ar.ret _).n
  |_=>exact(ar.ret _).n
 have hl:fI (ae (bP []) λt=>match t with
  | .word _ _=>ae (cP D) λ_=>aU (.inl ())
  | .op o=>if fr/\o=[40] then bK else aU (.inr ())
  |_=>aU (.inr ()):ak (Unit⊕Unit)):=by
  refine fI.LA hD (λt c d=>?_) (iR.inr _) (λw p=>⟨cP D,_,rfl,Iff.rfl,λ_=>ar.ret _⟩);cases t with
  |word w p=>grind
  |op o=>simp[fI.ite,fI.bad,fI.inr]
  |_=>simp[fI.inr]
 refine⟨λ_=>(ar.je hD).ae λb=>ar.ite (ar.ret _) he,λ{s r pd s' r' e} h=>?_⟩;obtain⟨b,r1,f,ad,a⟩:=b0 h;cases b with
 |true=>cases a;exact sh hD ad
 |false=>
  have g:=((ar.je hD).sfx ad).length_le;by_cases ax:r1=[]
  ·subst ax;simp only[eC,cm] at a;have:iR (ae (bP []) λt=>match t with
    | .word _ _=>ae (cP D) λ_=>aU (.inl ())
    | .op o=>if fr/\o=[40] then bK else aU (.inr ())
    |_=>aU (.inr ()):ak (Unit⊕Unit)):=iR.dD (iR.inr _)
   exact absurd a this
  ·simp only[eC,cm] at a;have:=hl ax a;omega
theorem e9.simple{D:ak Unit}(hD:hP D)(fr:Bool):e9 (hv fr D):=by
 refine e9.rep (aiR hD fr) (λ_=>e9.ae (ar.je hD) (e9.je hD) λb=>e9.ite (e9.ret _) ?_) ();refine e9.ae (ar.dD _) (e9.dD _) λt=>?_;cases t with
 |word w p=>exact e9.ae (ar.word hD) (NE.word hD).k λ_=>e9.ret _
 |op o=>exact e9.ite NE.bad.k (e9.ret _)
 |_=>simp[e9.ret]
structure LH(l:dS):Prop where
 cp:∀t,NE (l.cp t)
 rd:e9 l.rd
section
variable{l:dS}(hl:uu l)
include hl
theorem NE.body(x:aa):NE (iI l x):=NE.lg ((ar.res _).aM _) λ_=>NE.lg ((hl.ls _ _).aM _) λ_=>NE.res _
theorem NE.rep{σ α:Type}{f:σ->ak (σ⊕α)}(hf:iv f)(hk:∀s {u pd a r' b},du u->f s u pd= .ok (.inr a) r' b->r'≠[])(s:σ):NE (ca f s):=by intro u pd a r' b hu h;have:=LG hf (λr=>du r) (λr=>r≠[]) (λs r pd s' r' b aC e=>aC.sfx ((hf.ex s).sfx e)) (λs r pd a r' b aC e=>hk s aC e);exact this _ _ _ _ _ _ _ (cX _) hu h
theorem Xl:iv (λ(_:Unit)=>ae ((l.ls .rl false).aM ([10]++iQ++[32,120,10]++e8)) λ_=>ae (cV iQ) λ_=>ae ((l.ls .p9 false).aM (10::e8)) λ_=>
  ae (bP []) λt=>if cE t ib then ae (cV ib) λ_=>aU (.inl ()) else
   if cE t hM then ae (cV hM) λ_=>ae ((l.ls .ke false).aM (10::e8)) λ_=>ae (cV e8) λ_=>aU (.inr ()) else ae (cV e8) λ_=>aU (.inr ()):Unit->ak (Unit⊕Unit)):=by
 refine⟨λ_=>((hl.ls _ _).aM _).ae λ_=>(ar.res _).ae λ_=>((hl.ls _ _).aM _).ae λ_=>(ar.dD _).ae λt=>ar.ite ((ar.res _).ae λ_=>ar.ret _) (ar.ite ((ar.res _).ae λ_=>((hl.ls _ _).aM _).ae λ_=>(ar.res _).ae λ_=>ar.ret _) ((ar.res _).ae λ_=>ar.ret _)),λ{s r pd s' r' g} h=>?_⟩;obtain⟨_,r1,i,ad,h⟩:=b0 h;obtain⟨_,j,k,d,h⟩:=b0 h;obtain⟨_,m,n,e,h⟩:=b0 h;obtain⟨t,o,p,f,h⟩:=b0 h;have q:=((hl.ls _ _).sfx (jv.1 ad)).length_le;have a2:=((ar.res _).sfx d).length_le;have a3:=((hl.ls _ _).sfx (jv.1 e)).length_le;have u:=((ar.dD _).sfx f).length_le;split at h
 ·obtain⟨_,b,c,a,h⟩:=b0 h;cases h;have:=Rb (by decide) a;omega
 ·split at h
  ·obtain⟨_,b,c,a,h⟩:=b0 h;obtain⟨_,v,w,x,h⟩:=b0 h;obtain⟨_,y,z,A,h⟩:=b0 h;cases h
  ·obtain⟨_,b,c,a,h⟩:=b0 h;cases h
theorem NE.cond:NE (qM l):=by
 refine NE.rep hl (Xl hl) (λs {u pd a r' p} hu h=>?_) ();obtain⟨_,r1,q,ad,h⟩:=b0 h;obtain⟨_,r,v,f,h⟩:=b0 h;obtain⟨_,w,x,g,h⟩:=b0 h;obtain⟨t,y,z,i,h⟩:=b0 h;have j:=hu.sfx ((hl.ls _ _).sfx (jv.1 ad));have k:=j.sfx ((ar.res _).sfx f);have m:=k.sfx ((hl.ls _ _).sfx (jv.1 g));have c:=m.sfx ((ar.dD _).sfx i);split at h
 ·obtain⟨_,d,e,b,h⟩:=b0 h;cases h
 ·split at h
  ·obtain⟨_,d,e,b,h⟩:=b0 h;obtain⟨_,A,B,n,h⟩:=b0 h;obtain⟨_,C,D,o,h⟩:=b0 h;cases h;exact NE.res _ ((c.sfx ((ar.res _).sfx b)).sfx ((hl.ls _ _).sfx (jv.1 n))) o
  ·obtain⟨_,d,e,b,h⟩:=b0 h;cases h;exact NE.res _ c b
theorem NE.for_{D:ak Unit}(hD:hP D):NE (pA l D):=by
 have a:ar (ae (bP []) λt=>if t= .op [59] then ae (bZ 1) λ_=>ae cS λ_=>aU () else
   ae cS λ_=>ae (bP []) λt=>if cE t fl then ae (bZ 2) λ_=>ae (pz D) λ_=>ae cS λ_=>aU () else aU ()):=
  (ar.dD _).ae λt=>ar.ite ((ar.dg _).ae λ_=>ar.lines.ae λ_=>ar.ret _) (ar.lines.ae λ_=>(ar.dD _).ae λt=>ar.ite ((ar.dg _).ae λ_=>(ar.words hD).ae λ_=>ar.lines.ae λ_=>ar.ret _) (ar.ret _))
 refine NE.lg (ar.dD _) λt=>?_;cases t with
 |eof=>simp[NE.more]
 |word w p=>
  cases p with
  |true=>exact NE.ite (NE.lg (ar.dg _) λ_=>NE.lg (a.aM _) λ_=>NE.body hl _) NE.bad
  |false=>exact NE.bad
 |_=>exact NE.bad
end
theorem aiS{r w:aa}{n:Nat}(he:cE (au r) w=true)(ax:n=w.length)(a:du r):r.drop n≠[]:=by
 have:au r= .word w true:=by grind[cE]
 obtain⟨ad,b⟩:=qd this;subst ax;exact LF b ad a (by rintro rfl;grind[au])
theorem aiT{r o:aa}{n:Nat}(he:au r= .op o)(ax:n=o.length)(a:du r):r.drop n≠[]:=by obtain⟨ad,b,c,d⟩:=ic he;subst ax;exact LF c b a (by grind)
section
variable{l:dS}(hl:uu l)
include hl
theorem Xm{D:ak Unit}(hD:hP D):iv (λ(_:Unit)=>ae cS λ_=>ae (bP []) λt=>if t= .eof then b6 [] else if cE t ep then ae (bZ 4) λ_=>aU (.inr ()) else
 ae ((if t= .op [40] then bZ 1 else aU ())) λ_=>ae (kO D) λ_=>ae (l.ls .item true) λ_=>ae (bP []) λt=>if t= .op [59,59] then ae (bZ 2) λ_=>aU (.inl ()) else aU (.inl ()):Unit->ak (Unit⊕Unit)):=by
 have a:ar (ae (kO D) λ_=>ae (l.ls .item true) λ_=>ae (bP []) λt=>if t= .op [59,59] then ae (bZ 2) λ_=>aU (.inl ()) else aU (.inl ()):ak (Unit⊕Unit)):=
  (ar.wX hD).ae λ_=>(hl.ls _ _).ae λ_=>(ar.dD _).ae λt=>ar.ite ((ar.dg _).ae λ_=>ar.ret _) (ar.ret _)
 refine⟨λ_=>ar.lines.ae λ_=>(ar.dD _).ae λt=>ar.ite (ar.b6 _) (ar.ite ((ar.dg _).ae λ_=>ar.ret _) ((ar.ite (ar.dg _) (ar.ret _)).ae λ_=>a)),λ{s r pd s' r' i} h=>?_⟩;obtain⟨_,r1,j,ad,h⟩:=b0 h;obtain⟨t,k,m,b,h⟩:=b0 h;have n:=(ar.lines.sfx ad).length_le;have a2:=((ar.dD _).sfx b).length_le;split at h
 ·cases h
 ·split at h
  ·obtain⟨_,_,_,_,h⟩:=b0 h;cases h
  ·obtain⟨_,o,p,c,h⟩:=b0 h;have a3:=((ar.ite (ar.dg 1) (ar.ret ())).sfx c).length_le;obtain⟨_,q,u,d,h⟩:=b0 h;have v:=Re hD d;obtain⟨_,w,x,e,h⟩:=b0 h;have y:=((hl.ls _ _).sfx e).length_le;obtain⟨_,z,A,f,h⟩:=b0 h;have B:=((ar.dD _).sfx f).length_le;split at h
   ·obtain⟨_,C,E,g,h⟩:=b0 h;cases h;have:=((ar.dg 2).sfx g).length_le;omega
   ·cases h;omega
theorem NE.items{D:ak Unit}(hD:hP D):NE (nn l D):=by
 refine NE.rep hl (Xm hl hD) (λs {u pd a r' o} hu h=>?_) ();obtain⟨_,r1,p,ad,f⟩:=b0 h;obtain⟨t,q,r,g,b⟩:=b0 f;obtain⟨i,rfl,rfl⟩:=np g;have j:=(hu.sfx (ar.lines.sfx ad)).sfx (dT i);split at b
 ·cases b
 ·split at b
  ·rename_i he;obtain⟨_,_,_,e,c⟩:=b0 b;cases e;cases c;exact aiS he rfl j
  ·obtain⟨_,v,w,e,c⟩:=b0 b;obtain⟨_,x,y,z,k⟩:=b0 c;obtain⟨_,A,B,C,m⟩:=b0 k;obtain⟨_,E,F,G,d⟩:=b0 m;split at d
   ·obtain⟨_,H,I,J,n⟩:=b0 d;cases n
   ·cases d
theorem NE.wY{D:ak Unit}(hD:hP D):NE (qN l D):=by
 have ad:ar (ae (cP D) λ_=>ae cS λ_=>ae (bP []) λt=>if t= .eof then b6 [] else aU t):=
  (ar.word hD).ae λ_=>ar.lines.ae λ_=>(ar.dD _).ae λt=>ar.ite (ar.b6 _) (ar.ret _)
 refine NE.lg (ar.dD _) λt=>?_;cases t with
 |eof=>simp[NE.more]
 |word w p=>exact NE.lg (ad.aM _) λt=>NE.ite (NE.lg (ar.dg _) λ_=>NE.aM (NE.items hl hD) _) NE.bad
 |_=>exact NE.bad
theorem NE.kind(t:Tok):NE (hN l t):=by
 cases t with
 |op o=>show NE (ae (bZ 1) λ_=>ae ((l.ls .paren false).aM [41]) λ_=>jI [41]);exact NE.lg (ar.dg _) λ_=>NE.lg ((hl.ls _ _).aM _) λ_=>NE.op _
 |word w p=>unfold hN;exact NE.lg (ar.dg _) λ_=>NE.ite (NE.lg ((hl.ls _ _).aM _) λ_=>NE.res _) (NE.ite (NE.cond hl) (NE.ite (NE.for_ hl hl.dl) (NE.ite (NE.wY hl hl.dl) (NE.lg ((hl.ls _ _).aM _) λ_=>NE.body hl _))))
 |_=>exact NE.bad
end
section
variable{fr:Bool}{lo:Option dS}(jY:∀l∈lo,uu l)(hle:∀l∈lo,LH l)
include jY hle
omit hle in
theorem NE.cp(t:Tok):NE (se lo t):=by
 cases lo with
 |none=>exact NE.deep
 |some l=>exact NE.named (NE.kind (jY l rfl) t) _
theorem NE.function:NE (l1 fr lo):=by
 cases lo with
 |none=>exact NE.deep
 |some l=>
  have hl:=jY l rfl;have he:=hle l rfl;unfold l1;simp only;refine NE.ite (NE.named ?_ _) NE.deep;refine NE.lg (ar.dg _) λ_=>NE.lg (ar.dD _) λt=>NE.ite (NE.more _) (NE.ite ?_ NE.bad);refine NE.lg (ar.dg _) λ_=>NE.lg (ar.lines.aM _) λ_=>NE.lg (ar.dD _) λt=>NE.ite (NE.more _) (NE.ite ?_ NE.bad);intro u pd b r' e hu h;obtain⟨_,r1,f,ad,a⟩:=b0 h;have d:=hu.sfx ((hl.cp t).sfx ad);have c:=he.cp t hu ad;split at a
  ·exact he.rd d c a
  ·cases a;exact c
theorem NE.command{D:ak Unit}(hD:hP D):NE (gk fr lo D):=by
 refine NE.fJ (λt r m c he {pd a r' B} e=>?_) (by rw[bm rfl];exact NE.more _);have n:r≠[]:=by rintro rfl;exact m he.symm
 rw[aW m] at e;split at e
 ·obtain⟨_,r1,y,ad,d⟩:=b0 e;exact e9.mA hD (c.sfx ((dX.cp jY t).sfx ad)) (NE.cp jY t c ad) d
 ·cases t with
  |eof=>grind
  |line=>cases e
  |op o=>
   simp only at e;split at e
   ·exact e9.ae (ar.je hD) (e9.je hD) (λ_=>e9.simple hD fr) c n e
   ·cases e
  |word w p=>
   simp only at e;split at e
   ·cases e
   ·obtain⟨b,r1,y,ad,d⟩:=b0 e;have f:=c.sfx ((ar.je hD).sfx ad);have z:=e9.je hD c n ad;split at d
    ·exact e9.simple hD fr f z d
    ·obtain⟨_,C,E,q,g⟩:=b0 d;have h:=f.sfx ((ar.word hD).sfx q);have s:=NE.word hD f q;split at g
     ·obtain⟨F,G,H,u,i⟩:=b0 g;have j:=h.sfx ((ar.dD _).sfx u);have A:=e9.dD _ h s u;split at i
      ·obtain⟨_,I,J,v,k⟩:=b0 i;have l:=j.sfx ((dX.function jY).sfx v);have x:=NE.function jY hle j v;split at k
       ·cases k;exact x
       ·exact e9.mA hD l x k
      ·exact e9.simple hD fr j A i
     ·exact e9.simple hD fr h s g
end
theorem aiV{da:ak Unit}(aG:ar da):iv (λ(_:Unit)=>ae (bP []) λt=>if t= .op [124] then ae (bZ 1) λ_=>ae (cS.aM [120]) λ_=>ae da λ_=>aU (.inl ()) else aU (.inr ()):Unit->ak (Unit⊕Unit)):=by
 have hk:ar (ae (cS.aM [120]) λ_=>ae da λ_=>aU (.inl ()):ak (Unit⊕Unit)):=(ar.lines.aM _).ae λ_=>aG.ae λ_=>ar.ret _;refine iv.of (λ_=>(ar.dD _).ae λt=>ar.ite ((ar.dg _).ae λ_=>hk) (ar.ret _)) (λ_=>fI.dD (λt a=>fI.ite (fI.Cf (mz.dg 0) λ_=>hk) (fI.inr _)) ?_) (λ_=>iR.dD ?_)
 ·simp[cm,iR.inr]
 simp[cm,iR.inr]
theorem NE.pipe{da:ak Unit}(a:ar da)(aG:NE da):NE (fi da):=by refine NE.lg (ar.dD _) λt=>NE.lg (ar.ite (ar.dg _) (ar.ret _)) λ_=>NE.oM a aG λ_=>e9.rep (aiV a) (λ_=>e9.ae (ar.dD _) (e9.dD _) λt=>e9.ite ?_ (e9.ret _)) ();refine NE.k (NE.lg (ar.dg _) λ_=>NE.lg (ar.lines.aM _) λ_=>NE.oM a aG λ_=>e9.ret _)
theorem aiW{a:ak Unit}(aG:ar a):iv (λ(_:Unit)=>ae (bP []) λt=>if t= .op [38,38]\/t= .op [124,124] then ae (bZ 2) λ_=>ae (cS.aM [120]) λ_=>ae a λ_=>aU (.inl ()) else aU (.inr ()):Unit->ak (Unit⊕Unit)):=by
 have hk:ar (ae (cS.aM [120]) λ_=>ae a λ_=>aU (.inl ()):ak (Unit⊕Unit)):=(ar.lines.aM _).ae λ_=>aG.ae λ_=>ar.ret _;refine iv.of (λ_=>(ar.dD _).ae λt=>ar.ite ((ar.dg _).ae λ_=>hk) (ar.ret _)) (λ_=>fI.dD (λt b=>fI.ite (fI.Cf (mz.dg 1) λ_=>hk) (fI.inr _)) ?_) (λ_=>iR.dD ?_)
 ·simp[or_self,cm,iR.inr]
 simp[or_self,cm,iR.inr]
theorem NE.pB{a:ak Unit}(b:ar a)(aG:NE a):NE (hj a):=by refine NE.oM b aG λ_=>e9.rep (aiW b) (λ_=>e9.ae (ar.dD _) (e9.dD _) λt=>e9.ite ?_ (e9.ret _)) ();refine NE.k (NE.lg (ar.dg _) λ_=>NE.lg (ar.lines.aM _) λ_=>NE.oM b aG λ_=>e9.ret _)
theorem aiX(fr:Bool):∀n,LH (aZ fr n)
 |0=>⟨λt=>NE.cp (lo:=none) (λl h=>by cases h) t,e9.mA (Cj (lo:=none) λl h=>by cases h)⟩
 |n+1=>⟨λt=>NE.cp (lo:=some (aZ fr n)) (λl h=>by grind[pC]) t,e9.mA (Cj (lo:=some (aZ fr n)) λl h=>by grind[pC])⟩
def jf(fr:Bool):Nat->ak Unit
 |0=>hj (fi (gk fr none (dH none)))
 |n+1=>hj (fi (gk fr (some (aZ fr n)) (dH (some (aZ fr n)))))
theorem EN(fr:Bool)(n:Nat):(aZ fr n).ls=od (jf fr n):=by cases n<;>rfl
theorem Xo(fr:Bool):∀n,ar (jf fr n)/\NE (jf fr n)
 |0=>by
  have ad:∀l∈(none:Option dS),uu l:=λl h=>by cases h
  have b:∀l∈(none:Option dS),LH l:=λl h=>by cases h
  have a:=ar.command (fr:=fr) ad (Cj ad);exact⟨ar.pB (ar.pipe a),NE.pB (ar.pipe a) (NE.pipe a (NE.command ad b (Cj ad)))⟩
 |n+1=>by
  have ad:∀l∈some (aZ fr n),uu l:=λl h=>by grind[pC]
  have b:∀l∈some (aZ fr n),LH l:=λl h=>by grind[aiX]
  have a:=ar.command (fr:=fr) ad (Cj ad);exact⟨ar.pB (ar.pipe a),NE.pB (ar.pipe a) (NE.pipe a (NE.command ad b (Cj ad)))⟩
def cN{σ α:Type}(f:σ->ak (σ⊕α))(r:aa)(x:dt (σ⊕α)):dt α:=match x with
 | .ok (.inl s') r' b=>if r'.length<r.length then ca f s' r' b else .bad r'
 | .ok (.inr a) r' b=> .ok a r' b
 | .more op nd ds=> .more op nd ds
 | .bad r=> .bad r
 | .deep r=> .deep r
theorem cF{σ α:Type}(f:σ->ak (σ⊕α))(s:σ)(r:aa)(pd:aq):ca f s r pd=cN f r (f s r pd):=by grind[p_,cN]
theorem dc{α β:Type}{m:ak α}{k:α->ak β}{r:aa}{pd:aq}{op:bs}{nd:aa}{ds:aq}(h:m r pd= .more op nd ds):ae m k r pd= .more op nd ds:=by grind[ae]
theorem gY{α β:Type}{m:ak α}{k:α->ak β}{r:aa}{pd:aq}{q:aa}(h:m r pd= .bad q):ae m k r pd= .bad q:=by grind[ae]
theorem iw{x r:aa}{pd:aq}(h:bu r=none):bP x r pd=b6 x r pd:=by grind[bP]
theorem cA{x r r':aa}{pd:aq}(h:bu r=some r'):bP x r pd= .ok (au r') r' pd:=by grind[bP]
def h2(some:Bool):ak (Bool⊕Bool):=ae (bP []) λt=>if t= .line then ae jb λ_=>aU (.inl true) else aU (.inr some)
theorem si:cS=ca h2 false:=rfl
theorem ux{b:Bool}{r t:aa}{pd:aq}(h:bu r=some (10::t)):h2 b r pd=ae jb (λ_=>aU (.inl true)) (10::t) pd:=by
 have:bP [] r pd= .ok .line (10::t) pd:=by unfold bP;rw[h];rfl
 unfold h2;rw[aY this,bm rfl]
theorem rm{b:Bool}{r r1:aa}{pd:aq}(h:bu r=some r1)(a:au r1≠ .line):h2 b r pd= .ok (.inr b) r1 pd:=by
 have:bP [] r pd= .ok (au r1) r1 pd:=by grind[bP]
 unfold h2;rw[aY this,aW a];rfl
theorem Xp:∀(n:Nat)(b:Bool)(u:aa)(pd:aq)(d:Bool)(e:aq),u.length<=n->du u->u≠[]->ca h2 b u pd= .ok d [] e->
  e=[]/\d=true/\∀v,ca h2 b (u++v) pd=ca h2 true v []:=by
 intro n;induction n with
 |zero=>grind
 |succ n k=>
  intro b u pd d e ax hu bd h;rw[p_] at h;cases c:bu u with
  |none=>
   have:h2 b u pd= .more [] (cO [] pd []).1 (cO [] pd []).2:=by exact dc (iw c)
   grind
  |some r1=>
   have s1:=dT c;by_cases g:au r1= .line
   ·obtain⟨t,rfl⟩:=vB g;rw[ux c] at h;have nt:du t:=(hu.sfx s1).tail;cases f:lY pd t with
    |inr nd=>grind[ae,jb,aU,s9]
    |inl a=>
     have l:ae jb (λ_=>aU (.inl true)) (10::t) pd=(.ok (.inl true) a []:dt (Bool⊕Bool)):=by unfold ae;rw[s9,f];rfl
     rw[l] at h;have s2:=(vw pd t [] a f).1;have m:=s1.length_le;have o:=s2.length_le;simp only[mi] at m;simp only[show a.length<u.length by omega,cG] at h
     have step:∀v,ca h2 b (u++v) pd=ca h2 true (a++v) []:=by
      intro v;rw[p_];have i:=(s8 v c hu bd).2;simp only[hp] at i;rw[ux i];have p:ae jb (λ_=>aU (.inl true)) (10::(t++v)) pd=(.ok (.inl true) (a++v) []:dt (Bool⊕Bool)):=by unfold ae;rw[s9,(vw pd t v a f).2 nt];rfl
      grind
     by_cases j:a=[]
     ·subst j;have:ca h2 true [] []=(.ok true [] []:dt Bool):=by rw[p_,rm (r1:=[]) l2 (by decide)]
      grind
     ·obtain⟨q,r,s⟩:=k true a [] d e (by omega) (nt.sfx s2) j h;grind
   ·rw[rm c g] at h;cases h;exact absurd rfl (s8 [] c hu bd).1
theorem aiY{fr:Bool}{lo:Option dS}{D:ak Unit}{c:Ctx}{r:aa}{pd:aq}(e:bu r=some r)(he:dR c (au r)=true)(ax:au r≠ .eof):gk fr lo D r pd= .bad r:=by
 have aC:bP [120] r pd= .ok (au r) r pd:=by grind[bP]
 unfold gk;rw[aY aC,aW ax]
 have a:(∃w,au r= .word w true/\rk w=true/\qK w=false)\/∃o,au r= .op o/\eV o=false/\o≠[40]:=by
  cases c<;>simp[dR,cE] at he
  ·grind
  ·exact .inr ⟨_,he,by decide,by decide⟩
  ·exact .inl ⟨_,he,by decide,by decide⟩
  ·exact .inl ⟨_,he,by decide,by decide⟩
  ·rcases he with(he|he)|he<;>exact .inl ⟨_,he,by decide,by decide⟩
  ·exact .inl ⟨_,he,by decide,by decide⟩
  ·exact .inl ⟨_,he,by decide,by decide⟩
  ·exact .inl ⟨_,he,by decide,by decide⟩
  ·rcases he with he|he
   ·exact .inr ⟨_,he,by decide,by decide⟩
   ·exact .inl ⟨_,he,by decide,by decide⟩
 rcases a with⟨w,ad,b,d⟩|⟨o,ad,b,d⟩
 ·simp_all[hs,bK]
 simp_all[hs,bK]
theorem lD:∀(n:Nat)(r r':aa),r.length<=n->bu r=some r'->bu r'=some r':=by
 intro n;induction n with
 |zero=>grind[List.length_eq_zero_iff,l2]
 |succ n a=>
  intro r r' ax h;cases r with
  |nil=>grind
  |cons b t=>grind[List.length_cons,nM,Ab]
theorem aiZ{c:Ctx}{t:Tok}(he:dR c t=true):cE t [33]=false:=by
 cases t with
 |word w p=>
  cases h:cE (.word w p) [33] with
  |false=>rfl
  |true=>
   have:w=[33]/\p=true:=by grind[cE]
   obtain⟨rfl,rfl⟩:=this;cases c<;>simp[dR,cE,iQ,ib,hM,e8,gN,iH,ep] at he
 |_=>rfl
theorem ai0{fr:Bool}{m:Nat}{c:Ctx}{r:aa}{pd:aq}(b:bu r=some r)(he:dR c (au r)=true)(ax:au r≠ .eof):jf fr m r pd= .bad r:=by
 have aC:bP [120] r pd= .ok (au r) r pd:=by grind[bP]
 have a:∀(lo:Option dS)(D:ak Unit),hj (fi (gk fr lo D)) r pd= .bad r:=by
  intro lo D;have ad:=aiY (fr:=fr) (lo:=lo) (D:=D) (pd:=pd) b he ax;have d:fi (gk fr lo D) r pd= .bad r:=by unfold fi;rw[aY aC,aiZ he];simp only[eC,cm];rw[aY (show aU () r pd= .ok () r pd from rfl)];unfold ae;rw[ad]
  simp_all[hj,ae]
 cases m<;>exact a _ _
theorem Rh{ao:ak Unit}{c:Ctx}{none:Bool}{n:Nat}{pd:aq}:ed ao c none n [] pd=if c= .text then .ok (.inr n) [] pd else b6 (if none||n>0 then [] else [120]) [] pd:=by unfold ed;rw[aY (cA l2)];rw[show au []= .eof from rfl,bm rfl];split<;>rfl
theorem LI{ao:ak Unit}{c:Ctx}{none:Bool}{n:Nat}{r r1:aa}{pd:aq}(a:bu r=some r1)(ax:au r1≠ .eof)(he:dR c (au r1)=false):ed ao c none n r pd=ae ao (λ_=>ae (bP []) (hQ c n)) r1 pd:=by unfold ed;rw[aY (cA a),aW ax,he];simp
theorem ai1{ao:ak Unit}{c:Ctx}{none:Bool}{n:Nat}{r r1:aa}{pd:aq}(a:bu r=some r1)(ax:au r1≠ .eof)(he:dR c (au r1)=true)(b:(none||n>0)=true):ed ao c none n r pd= .ok (.inr n) r1 pd:=by unfold ed;rw[aY (cA a),aW ax,he,b];rfl
theorem ai2(fr:Bool)(m:Nat)(c:Ctx)(r:Bool):∀(N n:Nat)(u:aa)(pd:aq)(k:Nat)(l:aq),u.length<=N->du u->u≠[]->ca (ed (jf fr m) .text true) n u pd= .ok k [] l->
  l=[]/\n<k/\∀v,ca (ed (jf fr m) c r) n (u++v) pd=ae (ca h2 true) (λ_=>ca (ed (jf fr m) c r) k) v []:=by
 obtain⟨C,bd⟩:=Xo fr m;intro N;induction N with
 |zero=>grind
 |succ N T=>
  intro n u pd k l ax hu L h;rw[cF] at h;cases s:bu u with
  |none=>
   have:ed (jf fr m) .text true n u pd= .more [] (cO [] pd []).1 (cO [] pd []).2:=by unfold ed;exact dc (iw s)
   rw[this] at h;cases h
  |some r1=>
   have s1:=dT s;have A:=hu.sfx s1;obtain⟨M,_⟩:=s8 [] s hu L;have U:au r1≠ .eof:=λe=>M (lQ.1 e);have jZ:=lD _ _ _ (cX _) s;have D:dR .text (au r1)=false:=by grind[dR,beq_false_of_ne]
   rw[LI s U D] at h;cases i:jf fr m r1 pd with
   |more op nd ds=>rw[dc i] at h;cases h
   |bad q=>rw[gY i] at h;cases h
   |deep q=>unfold ae at h;rw[i] at h;cases h
   |ok x V j=>
    rw[aY i] at h;have E:=bd A i;have F:=A.sfx (C.sfx i);have W:dR c (au r1)=false:=by grind[dR,au,ai0]
    have j5:=s1.length_le;have jC:=(C.sfx i).length_le;cases t:bu V with
    |none=>rw[dc (iw t)] at h;cases h
    |some d=>
     rw[aY (cA t)] at h;have B:=F.sfx (dT t);have EP:=(dT t).length_le;obtain⟨O,_⟩:=s8 [] t F E
     have P:∀v,ed (jf fr m) c r n (u++v) pd=hQ c n (au d) (d++v) j:=by intro v;have a1:=EF v A M;rw[LI (s8 v s hu L).2 (by grind) (by grind),aY (C.ok v A i E),aY (cA (s8 v t F E).2),EF v B O]
     have a:∀(g:aa)(z:Nat),du g->g≠[]->g.length<=d.length->(∀v,ed (jf fr m) c r n (u++v) pd=ae cS (λ_=>aU (.inl z)) (g++v) j)->cN (ed (jf fr m) .text true) u (ae cS (λ_=>aU (.inl z)) g j)= .ok k [] l->n<z->
       l=[]/\n<k/\∀v,ca (ed (jf fr m) c r) n (u++v) pd=ae (ca h2 true) (λ_=>ca (ed (jf fr m) c r) k) v []:=by
      intro g z G X Y Q h H;cases hl:cS g j with
      |more op nd ds=>rw[dc hl] at h;cases h
      |bad q=>rw[gY hl] at h;cases h
      |deep q=>unfold ae at h;rw[hl] at h;cases h
      |ok b R Z=>
       rw[aY hl] at h;unfold cN at h;simp only[aU] at h;split at h
       ·rename_i eK;by_cases I:R=[]
        ·subst I;rw[p_,Rh] at h;simp only[if_true] at h;cases h;obtain⟨kv,pY,wm⟩:=Xp _ false g j b l (Nat.le_refl _) G X (by simp_all[si]);refine⟨kv,H,λv=>?_⟩;rw[cF,Q v];unfold cN;have J:cS (g++v) j=ca h2 true v []:=by simp_all[si]
         unfold ae;rw[J];cases aB:ca h2 true v [] with
         |ok fu v2 uv=>
          simp only[aU];have:v2.length<=v.length:=by have:=ar.rep (f:=h2) iv.lines true;exact(this.sfx aB).length_le
          grind
         |_=>rfl
        ·obtain⟨i1,i2,i3⟩:=T z R Z k l (by omega) (G.sfx (ar.lines.sfx hl)) I h;refine⟨i1,by omega,λv=>?_⟩;rw[cF,Q v,aY (ar.lines.ok v G hl I)];simp_all[cN,aU,bm]
       grind
     cases y:au d with
     |eof=>grind[absurd,lQ]
     |line=>rw[y] at h;unfold hQ at h;refine a d (n+1) B O (cX _) (λv=>by rw[P v,y];rfl) h (xz _)
     |word w p=>rw[y] at h;cases h
     |op o=>
      rw[y] at h;unfold hQ at h;simp only at h;by_cases S:o=[59]\/o=[38]
      ·rw[bm S] at h;have K:o.length=1:=by grind
       have aH:d.drop 1≠[]:=aiT y K.symm B;refine a (d.drop 1) (n+1) (B.sfx (lE _ _)) aH (by simp) (λv=>?_) h (xz _);rw[P v,y];unfold hQ;simp only;rw[bm S,aY (show bZ 1 (d++v) j= .ok () (d.drop 1++v) j from by grind[bZ,W6])]
      simp_all[aW,dR,bK,cN]
def Af{α:Type}(x y:dt α):Prop:=(∃q,x= .deep q)\/y=x\/∃op a nd ds,x= .more op nd ds/\y= .more a nd ds
def aN{α:Type}(f g:ak α):Prop:=∀r pd,Af (f r pd) (g r pd)
theorem aN.refl{α:Type}(f:ak α):aN f f:=λ_ _=> .inr (.inl rfl)
theorem aN.deep{α:Type}(g:ak α):aN uo g:=λr _=> .inl ⟨r,rfl⟩
theorem aN.ae{α β:Type}{m b:ak α}{k k':α->ak β}(hm:aN m b)(hk:∀a,aN (k a) (k' a)):aN (Go.Eng.ae m k) (Go.Eng.ae b k'):=by
 intro r pd;rcases hm r pd with⟨q,h⟩|h|⟨op,d,nd,ds,ad,e⟩
 ·left;simp_all[Go.Eng.ae]
 ·unfold Go.Eng.ae;rw[h];cases m r pd with
  |ok a r1 c=>exact hk a r1 c
  |more op nd ds=>exact .inr (.inl rfl)
  |bad q=>exact .inr (.inl rfl)
  |deep q=>exact .inl ⟨q,rfl⟩
 ·right;grind[Go.Eng.ae]
theorem aN.aM{α:Type}{m a:ak α}(hm:aN m a)(x:aa):aN (m.aM x) (a.aM x):=by
 intro r pd;unfold ak.aM;rcases hm r pd with⟨q,h⟩|h|⟨op,c,nd,ds,ad,b⟩
 ·left;grind
 ·rw[h];exact .inr (.inl rfl)
 ·rw[ad,b];exact .inr (.inr ⟨_,_,_,_,rfl,rfl⟩)
theorem aN.Xr{α:Type}{m a:ak α}(hm:aN m a)(x:aa):aN (m.named x) a:=by
 intro r pd;unfold ak.named;rcases hm r pd with⟨q,h⟩|h|⟨op,c,nd,ds,ad,b⟩
 ·left;grind
 ·rw[h];cases m r pd with
  |more op nd ds=>exact .inr (.inr ⟨_,_,_,_,rfl,rfl⟩)
  |_=>exact .inr (.inl rfl)
 ·rw[ad,b];exact .inr (.inr ⟨_,_,_,_,rfl,rfl⟩)
theorem aN.ai7{α:Type}{m a:ak α}(hm:aN m a)(x:aa):aN m (a.named x):=by
 intro r pd;unfold ak.named;rcases hm r pd with⟨q,h⟩|h|⟨op,c,nd,ds,ad,b⟩
 ·left;grind
 ·rw[h];cases m r pd with
  |more op nd ds=>exact .inr (.inr ⟨_,_,_,_,rfl,rfl⟩)
  |_=>exact .inr (.inl rfl)
 ·rw[ad,b];exact .inr (.inr ⟨_,_,_,_,rfl,rfl⟩)
theorem aN.named{α:Type}{m a:ak α}(hm:aN m a)(x y:aa):aN (m.named x) (a.named y):=(hm.Xr x).ai7 y
theorem aN.ite{α:Type}{c:Prop}[Decidable c]{f g a b:ak α}(hf:aN f a)(bq:aN g b):aN (if c then f else g) (if c then a else b):=by grind
theorem aN.rep{σ α:Type}{f c:σ->ak (σ⊕α)}(h:∀s,aN (f s) (c s))(s:σ):aN (ca f s) (ca c s):=by
 have b:∀(n:Nat)(s:σ)(r:aa)(pd:aq),r.length<=n->Af (ca f s r pd) (ca c s r pd):=by
  intro n;induction n with
  |zero=>
   intro s r pd ax;rw[cF,cF];have k:r=[]:=nw.1 (by omega);rcases h s r pd with⟨q,e⟩|e|⟨op,i,nd,ds,d,g⟩
   ·left;exact⟨q,by rw[e];rfl⟩
   ·rw[e];cases f s r pd with
    |ok x r1 j=>
     cases x with
     |inl s'=>right;simp_all[cN,aW]
     |inr a=>exact .inr (.inl rfl)
    |deep q=>exact .inl ⟨q,rfl⟩
    |_=>exact .inr (.inl rfl)
   ·rw[d,g];exact .inr (.inr ⟨_,_,_,_,rfl,rfl⟩)
  |succ n l=>
   intro s r pd ax;rw[cF,cF];rcases h s r pd with⟨q,e⟩|e|⟨op,i,nd,ds,d,g⟩
   ·left;exact⟨q,by rw[e];rfl⟩
   ·rw[e];cases f s r pd with
    |ok x r1 j=>
     cases x with
     |inl s'=>
      unfold cN;simp only;by_cases hl:r1.length<r.length
      ·grind
      ·rw[aW hl,aW hl];exact .inr (.inl rfl)
     |inr a=>exact .inr (.inl rfl)
    |deep q=>exact .inl ⟨q,rfl⟩
    |_=>exact .inr (.inl rfl)
   ·rw[d,g];exact .inr (.inr ⟨_,_,_,_,rfl,rfl⟩)
 exactλr pd=>b _ s r pd (cX _)
section
variable{D km:ak Unit}(hD:aN D km)
include hD
theorem aN.part{dq a:Option (ak Unit)}(c:match dq,a with|none,none=>True|some q,some d=>aN q d|_,_=>False):aN (cC D dq) (cC km a):=by
 intro r pd;cases r with
 |nil=>exact .inr (.inl rfl)
 |cons b t=>
  unfold cC;simp only;split
  ·exact .inr (.inl rfl)
  ·split
   ·exact .inr (.inl rfl)
   ·split
    ·exact hD _ _
    ·match dq,a,c with
     |none,none,_=>exact .inr (.inl rfl)
     |some q,some d,c=>
      simp only;split
      ·exact .inr (.inl rfl)
      ·split
       ·exact c _ _
       ·exact .inr (.inl rfl)
omit hD in
theorem aN.Ad(c:UInt8){p a:ak Unit}(aC:aN p a):aN (jc c p) (jc c a):=by
 refine aN.rep (λ_ r pd=>?_) ();cases r with
 |nil=>exact .inr (.inl rfl)
 |cons b t=>
  simp only;split
  ·exact .inr (.inl rfl)
  ·exact aN.ae aC (λ_=>aN.refl _) _ _
theorem aN.double:aN (eH D) (eH km):=((aN.Ad 34 (aN.part hD trivial)).aM _).named _ _
theorem aN.yu:aN (cC D (some (eH D))) (cC km (some (eH km))):=aN.part hD (aN.double hD)
theorem aN.param:aN (qJ D) (qJ km):=(aN.Ad 125 (aN.yu hD)).aM _
theorem aN.word:aN (cP D) (cP km):=by
 refine aN.rep (λ_ r pd=>?_) ();cases r with
 |nil=>exact .inr (.inl rfl)
 |cons b t=>
  simp only;split
  ·exact .inr (.inl rfl)
  ·exact aN.ae (aN.yu hD) (λ_=>aN.refl _) _ _
theorem aN.EJ(x:aa):aN (jH D x) (jH km x):=by refine aN.ae (aN.refl _) λt=>?_;grind[aN.word,aN.refl]
theorem aN.je:aN (dy D) (dy km):=by
 refine aN.ae (aN.refl _) λo=>?_;cases o with
 |none=>simp[aN.refl]
 |some o=>exact aN.ae (aN.ite (aN.refl _) (aN.ite (aN.refl _) (aN.EJ hD _))) λ_=>aN.refl _
theorem aN.mA:aN (gO D) (gO km):=aN.rep (λ_=>aN.ae (aN.je hD) λ_=>aN.refl _) ()
theorem aN.words:aN (pz D) (pz km):=by refine aN.rep (λ_=>aN.ae (aN.refl _) λt=>?_) ();grind[aN.word,aN.ae,aN.refl]
theorem aN.wX:aN (kO D) (kO km):=by refine aN.rep (λ_=>aN.ae (aN.refl _) λt=>?_) ();grind[aN.word,aN.ae,aN.aM,aN.refl]
end
structure yw(l fP:dS):Prop where
 ls:∀c n,aN (l.ls c n) (fP.ls c n)
 pm:aN l.pm fP.pm
 cp:∀t,aN (l.cp t) (fP.cp t)
 rd:aN l.rd fP.rd
 dl:aN l.dl fP.dl
 has:l.has=true->fP.has=true
section
variable{l fP:dS}(h:yw l fP)
include h
theorem aN.body(x:aa):aN (iI l x) (iI fP x):=aN.ae (aN.refl _) λ_=>aN.ae ((h.ls _ _).aM _) λ_=>aN.refl _
theorem aN.cond:aN (qM l) (qM fP):=aN.rep (λ_=>aN.ae ((h.ls _ _).aM _) λ_=>aN.ae (aN.refl _) λ_=>aN.ae ((h.ls _ _).aM _) λ_=>aN.ae (aN.refl _) λt=>aN.ite (aN.refl _) (aN.ite (aN.ae (aN.refl _) λ_=>aN.ae ((h.ls _ _).aM _) λ_=>aN.refl _) (aN.refl _))) ()
theorem aN.for_{D km:ak Unit}(hD:aN D km):aN (pA l D) (pA fP km):=by
 refine aN.ae (aN.refl _) λt=>?_;cases t with
 |word w p=>
  cases p with
  |true=>exact aN.ite (aN.ae (aN.refl _) λ_=>aN.ae (aN.aM (aN.ae (aN.refl _) λt=>aN.ite (aN.refl _) (aN.ae (aN.refl _) λ_=>aN.ae (aN.refl _) λt=>aN.ite (aN.ae (aN.refl _) λ_=>aN.ae (aN.words hD) λ_=>aN.refl _) (aN.refl _))) _) λ_=>aN.body h _) (aN.refl _)
  |false=>simp[aN.refl]
 |_=>simp[aN.refl]
theorem aN.items{D km:ak Unit}(hD:aN D km):aN (nn l D) (nn fP km):=
 aN.rep (λ_=>aN.ae (aN.refl _) λ_=>aN.ae (aN.refl _) λt=>aN.ite (aN.refl _) (aN.ite (aN.refl _) (aN.ae (aN.refl _) λ_=>aN.ae (aN.wX hD) λ_=>aN.ae (h.ls _ _) λ_=>aN.refl _))) ()
theorem aN.wY{D km:ak Unit}(hD:aN D km):aN (qN l D) (qN fP km):=by
 refine aN.ae (aN.refl _) λt=>?_;cases t with
 |word w p=>exact aN.ae (aN.aM (aN.ae (aN.word hD) λ_=>aN.refl _) _) λt=>aN.ite (aN.ae (aN.refl _) λ_=>(aN.items h hD).aM _) (aN.refl _)
 |_=>simp[aN.refl]
theorem aN.kind(t:Tok):aN (hN l t) (hN fP t):=by
 cases t with
 |op o=>show aN (Go.Eng.ae (bZ 1) λ_=>Go.Eng.ae ((l.ls .paren false).aM [41]) λ_=>jI [41]) (Go.Eng.ae (bZ 1) λ_=>Go.Eng.ae ((fP.ls .paren false).aM [41]) λ_=>jI [41]);exact aN.ae (aN.refl _) λ_=>aN.ae ((h.ls _ _).aM _) λ_=>aN.refl _
 |word w p=>unfold hN;exact aN.ae (aN.refl _) λ_=>aN.ite (aN.ae ((h.ls _ _).aM _) λ_=>aN.refl _) (aN.ite (aN.cond h) (aN.ite (aN.for_ h h.dl) (aN.ite (aN.wY h h.dl) (aN.ae ((h.ls _ _).aM _) λ_=>aN.body h _))))
 |_=>exact aN.refl _
end
def ES(lo a:Option dS):Prop:=∀l,lo=some l->∃fP,a=some fP/\yw l fP
theorem aN.sd{lo b:Option dS}(h:ES lo b){n:Nat}{f a:dS->ak Unit}(hf:∀l fP,yw l fP->aN (f l) (a fP)):aN (sd lo n f) (sd b n a):=by
 cases lo with
 |none=>exact aN.deep _
 |some l=>obtain⟨fP,rfl,hl⟩:=h l rfl;show aN (Go.Eng.ae (bZ n) λ_=>f l) (Go.Eng.ae (bZ n) λ_=>a fP);grind[aN.ae,aN.refl]
theorem aN.vC{lo a:Option dS}(h:ES lo a):aN (dH lo) (dH a):=by
 intro r pd;unfold dH;split
 ·exact .inr (.inl rfl)
 ·split
  ·exact aN.sd h (λl fP hl=>aN.ae (((hl.ls _ _).aM _).named _ _) λ_=>aN.refl _) r pd
  ·split
   ·exact aN.sd h (λl fP hl=>hl.pm.named _ _) r pd
   ·exact .inr (.inl rfl)
theorem aN.cp{lo a:Option dS}(h:ES lo a)(t:Tok):aN (se lo t) (se a t):=by
 cases lo with
 |none=>exact aN.deep _
 |some l=>obtain⟨fP,rfl,hl⟩:=h l rfl;exact(aN.kind hl t).named _ _
def Xs{α:Type}(x y:dt α):Prop:=Af x y\/∃t a pd,x= .bad (40::t)/\y= .ok a (40::t) pd
def e_{α:Type}(f g:ak α):Prop:=∀r pd,Xs (f r pd) (g r pd)
theorem aN.b{α:Type}{f g:ak α}(h:aN f g):e_ f g:=λr pd=> .inl (h r pd)
theorem e_.ite{α:Type}{c:Prop}[Decidable c]{f g a b:ak α}(hf:e_ f a)(bq:e_ g b):e_ (if c then f else g) (if c then a else b):=by grind
theorem e_.oM{α β:Type}{m b:ak α}{k k':α->ak β}(hm:aN m b)(hk:∀a,e_ (k a) (k' a)):e_ (ae m k) (ae b k'):=by
 intro r pd;rcases hm r pd with⟨q,h⟩|h|⟨op,d,nd,ds,ad,e⟩
 ·left;left;simp_all[ae]
 ·unfold ae;rw[h];cases m r pd with
  |ok a r1 c=>exact hk a r1 c
  |more op nd ds=>exact .inl (.inr (.inl rfl))
  |bad q=>exact .inl (.inr (.inl rfl))
  |deep q=>exact .inl (.inl ⟨q,rfl⟩)
 ·left;right;grind[ae]
theorem e_.lg{α β:Type}{m d:ak α}{k k':α->ak β}(hm:e_ m d)(hk:∀a,e_ (k a) (k' a))(f:∀a t pd,∃b e,k' a (40::t) pd= .ok b (40::t) e):e_ (ae m k) (ae d k'):=by
 intro r pd;rcases hm r pd with(⟨q,h⟩|h|⟨op,i,nd,ds,ad,g⟩)|⟨t,a,c,ad,g⟩
 ·left;left;simp_all[ae]
 ·unfold ae;rw[h];cases m r pd with
  |ok a r1 c=>exact hk a r1 c
  |more op nd ds=>exact .inl (.inr (.inl rfl))
  |bad q=>exact .inl (.inr (.inl rfl))
  |deep q=>exact .inl (.inl ⟨q,rfl⟩)
 ·left;right;grind[ae]
 ·right;obtain⟨b,e,j⟩:=f a t c;grind[gY,aY]
theorem e_.rep{σ α:Type}{f i:σ->ak (σ⊕α)}(h:∀s,e_ (f s) (i s))(k:∀s t pd,∃a j,i s (40::t) pd= .ok (.inr a) (40::t) j)(s:σ):e_ (ca f s) (ca i s):=by
 have g:∀(n:Nat)(s:σ)(r:aa)(pd:aq),r.length<=n->Xs (ca f s r pd) (ca i s r pd):=by
  intro n;induction n with
  |zero=>
   intro s r pd ax;rw[cF,cF];have o:r=[]:=nw.1 (by omega);rcases h s r pd with(⟨q,e⟩|e|⟨op,l,nd,ds,b,c⟩)|⟨t,a,d,b,c⟩
   ·left;left;exact⟨q,by rw[e];rfl⟩
   ·rw[e];cases f s r pd with
    |ok x r1 d=>
     cases x with
     |inl s'=>left;right;simp_all[cN,aW]
     |inr a=>exact .inl (.inr (.inl rfl))
    |deep q=>exact .inl (.inl ⟨q,rfl⟩)
    |_=>exact .inl (.inr (.inl rfl))
   ·rw[b,c];exact .inl (.inr (.inr ⟨_,_,_,_,rfl,rfl⟩))
   ·rw[b,c];cases a with
    |inr a=>exact .inr ⟨t,a,d,rfl,rfl⟩
    |inl s'=>left;right;simp_all[cN,aW]
  |succ n p=>
   intro s r pd ax;rw[cF,cF];rcases h s r pd with(⟨q,e⟩|e|⟨op,l,nd,ds,b,c⟩)|⟨t,a,d,b,c⟩
   ·left;left;exact⟨q,by rw[e];rfl⟩
   ·rw[e];cases f s r pd with
    |ok x r1 d=>
     cases x with
     |inl s'=>
      unfold cN;simp only;by_cases hl:r1.length<r.length
      ·grind
      ·rw[aW hl,aW hl];exact .inl (.inr (.inl rfl))
     |inr a=>exact .inl (.inr (.inl rfl))
    |deep q=>exact .inl (.inl ⟨q,rfl⟩)
    |_=>exact .inl (.inr (.inl rfl))
   ·rw[b,c];exact .inl (.inr (.inr ⟨_,_,_,_,rfl,rfl⟩))
   ·rw[b,c];cases a with
    |inr a=>exact .inr ⟨t,a,d,rfl,rfl⟩
    |inl s'=>
     unfold cN;simp only;by_cases hl:(40::t).length<r.length
     ·rw[bm hl];right;obtain⟨a,j,m⟩:=k s' t d;exact⟨t,a,j,rfl,by rw[cF,m];rfl⟩
     ·rw[aW hl];exact .inl (.inr (.inl rfl))
 exactλr pd=>g _ s r pd (cX _)
theorem Xt(t:aa):bu (40::t)=some (40::t):=by simp[nM,f_]
theorem ai8(t:aa):au (40::t)= .op [40]:=by rfl
theorem ai9{D:ak Unit}(t:aa)(pd:aq):dy D (40::t) pd= .ok false (40::t) pd:=by
 have:fF (40::t) pd= .ok none (40::t) pd:=by unfold fF;rw[Xt];rfl
 unfold dy;rw[aY this];rfl
theorem LL{x:aa}(t:aa)(pd:aq):bP x (40::t) pd= .ok (.op [40]) (40::t) pd:=by simp[cA,Xt,ai8]
theorem Xu(m:ak Unit):ae m (λ_=>aU ())=m:=by
 funext r pd
 unfold ae;cases m r pd<;>rfl
theorem kn{α β b:Type}(m:ak α)(k:α->ak β)(R:β->ak b):ae (ae m k) R=ae m (λa=>ae (k a) R):=by grind[ae]
theorem yx{α β:Type}{c:Prop}[Decidable c](f g:ak α)(R:α->ak β):ae (if c then f else g) R=if c then ae f R else ae g R:=by grind
theorem Xv{α β:Type}(x:aa)(R:α->ak β):ae (b6 x) R=b6 x:=rfl
theorem Xw{α β:Type}(R:α->ak β):ae bK R=bK:=rfl
theorem aN.ai_{α β:Type}{x:ak β}{g:ak α}{R:α->ak β}(h:aN x (Go.Eng.ae g R))(nm:aa):aN x (Go.Eng.ae (g.named nm) R):=by
 intro r pd
 have e:Go.Eng.ae (g.named nm) R r pd=Go.Eng.ae g R r pd\/∃op a nd ds,Go.Eng.ae g R r pd= .more op nd ds/\Go.Eng.ae (g.named nm) R r pd= .more a nd ds:=by unfold Go.Eng.ae ak.named;grind
 rcases e with e|⟨op,a,nd,ds,c,d⟩
 ·rw[e];exact h r pd
 ·rcases h r pd with⟨q,h⟩|h|⟨f,i,j,k,ad,b⟩
  ·exact .inl ⟨q,h⟩
  ·right;grind
  ·rw[c] at b;cases b;exact .inr (.inr ⟨_,_,_,_,ad,d⟩)
section
variable{fr nO:Bool}(hf:fr=nO\/fr=true/\nO=false)
include hf
theorem e_.simple{D km:ak Unit}(hD:aN D km):e_ (hv fr D) (hv nO km):=by
 rcases hf with rfl|⟨rfl,rfl⟩
 ·refine aN.b (aN.rep (λ_=>aN.ae (aN.je hD) λb=>aN.ite (aN.refl _) (aN.ae (aN.refl _) λt=>?_)) ());grind[aN.ae,aN.word,aN.refl]
 ·refine e_.rep (λ_=>e_.oM (aN.je hD) λb=>e_.ite (aN.b (aN.refl _)) (λr pd=>?_)) (λ_ t pd=>?_) ()
  ·cases a:bu r with
   |none=>rw[dc (iw a),dc (iw a)];exact .inl (.inr (.inl rfl))
   |some r1=>
    rw[aY (cA a),aY (cA a)];cases d:au r1 with
    |word w p=>exact .inl (aN.ae (aN.word hD) (λ_=>aN.refl _) r1 pd)
    |op o=>
     simp only;by_cases c:o=[40]
     ·subst c;obtain⟨_,e,_,_⟩:=ic d;obtain⟨t,rfl⟩:=e;exact .inr ⟨t,_,_,rfl,rfl⟩
     ·simp[c];exact .inl (.inr (.inl rfl))
    |_=>exact .inl (.inr (.inl rfl))
  ·refine⟨(),pd,?_⟩;rw[aY (ai9 t pd)];simp only[eC,cm];rw[aY (LL t pd)];rfl
theorem aN.fn{lo b:Option dS}{km:ak Unit}(h:ES lo b)(d:fr=true->nO=false->∀l,lo=some l->aN l.rd (gO km)){D:ak Unit}(hD:aN D km):
  aN (Go.Eng.ae (l1 fr lo) λ_=>if fr then aU () else gO D) (Go.Eng.ae (l1 nO b) λ_=>if nO then aU () else gO km):=by
 cases lo with
 |none=>intro r pd;exact .inl ⟨r,rfl⟩
 |some l=>
  obtain⟨fP,rfl,hl⟩:=h l rfl;by_cases a:l.has=true
  ·have c:=hl.has a;rcases hf with rfl|⟨rfl,rfl⟩
   ·refine aN.ae ?_ λ_=>aN.ite (aN.refl _) (aN.mA hD);unfold l1;simp only[a,c,cG];exact aN.named (aN.ae (aN.refl _) λ_=>aN.ae (aN.refl _) λt=>aN.ite (aN.refl _) (aN.ite (aN.ae (aN.refl _) λ_=>aN.ae (aN.refl _) λ_=>aN.ae (aN.refl _) λt=>aN.ite (aN.refl _) (aN.ite (aN.ae (hl.cp t) λ_=>aN.ite hl.rd (aN.refl _)) (aN.refl _))) (aN.refl _))) _ _
   ·have e:=d rfl rfl l rfl;simp only[cG,eC,cm];rw[Xu];unfold l1;simp only[a,c,cG,eC,cm];refine aN.Xr (aN.ai_ ?_ _) _;rw[kn];refine aN.ae (aN.refl _) λ_=>?_;rw[kn];refine aN.ae (aN.refl _) λt=>?_;rw[yx,Xv,yx,Xw];refine aN.ite (aN.refl _) (aN.ite ?_ (aN.refl _));rw[kn];refine aN.ae (aN.refl _) λ_=>?_;rw[kn];refine aN.ae (aN.refl _) λ_=>?_;rw[kn];refine aN.ae (aN.refl _) λt=>?_;rw[yx,Xv,yx,Xw];refine aN.ite (aN.refl _) (aN.ite ?_ (aN.refl _));rw[Xu];exact aN.ae (hl.cp t) λ_=>e
  ·intro r pd;left;refine⟨r,?_⟩;unfold l1;simp only[a,cm,eC];rfl
theorem e_.command{lo a:Option dS}{D km:ak Unit}(h:ES lo a)(hD:aN D km)(c:fr=true->nO=false->∀l,lo=some l->aN l.rd (gO km)):e_ (gk fr lo D) (gk nO a km):=by
 refine e_.oM (aN.refl _) λt=>e_.ite (aN.b (aN.refl _)) (e_.ite (aN.b (aN.ae (aN.cp h t) λ_=>aN.mA hD)) ?_);cases t with
 |op o=>exact e_.ite (e_.oM (aN.je hD) λ_=>e_.simple hf hD) (aN.b (aN.refl _))
 |word w p=>refine e_.ite (aN.b (aN.refl _)) (e_.oM (aN.je hD) λb=>e_.ite (e_.simple hf hD) (e_.oM (aN.word hD) λ_=>e_.ite (e_.oM (aN.refl _) λt=>e_.ite (aN.b (aN.fn hf h c hD)) (e_.simple hf hD)) (e_.simple hf hD)))
 |_=>simp[aN.b,aN.refl]
omit hf in
theorem e_.pipe{da b:ak Unit}(h:e_ da b):e_ (fi da) (fi b):=by
 have stop:∀(da:ak Unit)(s:Unit)(t:aa)(pd:aq),∃a c,(Go.Eng.ae (bP []) λt=>if t= .op [124] then Go.Eng.ae (bZ 1) λ_=>Go.Eng.ae (cS.aM [120]) λ_=>Go.Eng.ae da λ_=>aU (.inl ()) else aU (.inr ()):ak (Unit⊕Unit)) (40::t) pd= .ok (.inr a) (40::t) c:=by intro da s t pd;refine⟨(),pd,?_⟩;rw[aY (LL t pd)];rfl
 refine e_.oM (aN.refl _) λt=>e_.oM (aN.refl _) λ_=>e_.lg h (λ_=>e_.rep (λ_=>e_.oM (aN.refl _) λt=>e_.ite (e_.oM (aN.refl _) λ_=>e_.oM (aN.refl _) λ_=>e_.lg h (λ_=>aN.b (aN.refl _)) λ_ t pd=>⟨_,_,rfl⟩) (aN.b (aN.refl _))) (stop b) ()) λ_ t pd=>?_;obtain⟨a,c,e⟩:=stop b () t pd;exact⟨a,c,by rw[cF,e];rfl⟩
omit hf in
theorem e_.pB{b c:ak Unit}(h:e_ b c):e_ (hj b) (hj c):=by
 have stop:∀(b:ak Unit)(s:Unit)(t:aa)(pd:aq),∃a d,(Go.Eng.ae (bP []) λt=>if t= .op [38,38]\/t= .op [124,124] then Go.Eng.ae (bZ 2) λ_=>Go.Eng.ae (cS.aM [120]) λ_=>Go.Eng.ae b λ_=>aU (.inl ()) else aU (.inr ()):ak (Unit⊕Unit)) (40::t) pd= .ok (.inr a) (40::t) d:=by intro b s t pd;refine⟨(),pd,?_⟩;rw[aY (LL t pd)];rfl
 refine e_.lg h (λ_=>e_.rep (λ_=>e_.oM (aN.refl _) λt=>e_.ite (e_.oM (aN.refl _) λ_=>e_.oM (aN.refl _) λ_=>e_.lg h (λ_=>aN.b (aN.refl _)) λ_ t pd=>⟨_,_,rfl⟩) (aN.b (aN.refl _))) (stop c) ()) λ_ t pd=>?_;obtain⟨a,d,e⟩:=stop c () t pd;exact⟨a,d,by rw[cF,e];rfl⟩
omit hf in
theorem aN.list{ao f:ak Unit}(h:e_ ao f)(c:Ctx)(none:Bool):aN (od ao c none) (od f c none):=by
 rw[uw,uw];refine aN.ae (aN.refl _) λ_=>aN.rep (λn=>aN.ae (aN.refl _) λt=>aN.ite (aN.refl _) (aN.ite (aN.refl _) (λr pd=>?_))) 0;rcases h r pd with(⟨q,e⟩|e|⟨op,g,nd,ds,b,d⟩)|⟨t,a,i,b,d⟩
 ·left;simp_all[Go.Eng.ae]
 ·unfold Go.Eng.ae;rw[e];cases ao r pd with
  |deep q=>exact .inl ⟨q,rfl⟩
  |_=>exact .inr (.inl rfl)
 ·exact .inr (.inr ⟨op,g,nd,ds,dc b,dc d⟩)
 ·right;left;rw[gY b,aY d,aY (LL t i)];unfold hQ;cases c<;>simp[dR,cE,bK]
end
theorem yw.of{fr nO:Bool}(hf:fr=nO\/fr=true/\nO=false){lo a:Option dS}(h:ES lo a)(e:fr=true->nO=false->∀l,lo=some l->aN l.rd (gO (dH a))){b d:Bool}(f:b=true->d=true):
  yw {ls:=od (hj (fi (gk fr lo (dH lo)))),pm:=qJ (dH lo),cp:=se lo,rd:=gO (dH lo),dl:=dH lo,has:=b} {ls:=od (hj (fi (gk nO a (dH a)))),pm:=qJ (dH a),cp:=se a,rd:=gO (dH a),dl:=dH a,has:=d}:=
 ⟨λc n=>aN.list (e_.pB (e_.pipe (e_.command hf h (aN.vC h) e))) c n,aN.param (aN.vC h),λt=>aN.cp h t,aN.mA (aN.vC h),aN.vC h,f⟩
theorem Rm{fr nO:Bool}(hf:fr=nO\/fr=true/\nO=false):∀n m,n<=m->yw (aZ fr n) (aZ nO m)
 |0,0,_=>yw.of hf (λl h=>by cases h) (λ_ _ l h=>by cases h) (λh=>h)
 |0,m+1,_=>yw.of hf (λl h=>by cases h) (λ_ _ l h=>by cases h) (λh=>rfl)
 |n+1,m+1,h=>yw.of hf (λl e=>by cases e;exact⟨_,rfl,Rm hf n m (by omega)⟩) (λ_ _ l e=>by cases e;exact(Rm hf n (m+1) (by omega)).rd) (λh=>h)
theorem aja{fr nO:Bool}(hf:fr=nO\/fr=true/\nO=false){n m:Nat}(h:n<=m)(r:aa):Af (hO fr n r) (hO nO m r):=(Rm hf n m h).ls .text true r []
theorem ajb{fr:Bool}{m:Nat}{u:aa}{k:Nat}{r:aa}{pd:aq}(h:hO fr m u= .ok k r pd):r=[]:=by
 unfold hO at h;rw[EN,uw] at h;obtain⟨_,r1,f,ad,b⟩:=b0 h;refine LG (iv.round (Xo fr m).1 .text true) (λ_=>True) (λr=>r=[]) (λ_ _ _ _ _ _ _ _=>trivial) ?_ _ _ _ _ _ _ _ (cX _) trivial b;intro n r pd a r' l _ e;obtain⟨t,r1,f,ad,b⟩:=b0 e;obtain⟨q,rfl,rfl⟩:=np ad;split at b
 ·rename_i g;rw[bm rfl] at b;cases b;grind[lQ]
 ·rename_i g;split at b
  ·grind[dR,absurd]
  ·obtain⟨_,s,v,x,i⟩:=b0 b;obtain⟨t,y,z,A,c⟩:=b0 i;unfold hQ at c;cases t with
   |eof=>cases c
   |line=>obtain⟨_,_,_,_,d⟩:=b0 c;cases d
   |word w p=>cases c
   |op o=>
    simp only at c;split at c
    ·obtain⟨_,_,_,_,d⟩:=b0 c;obtain⟨_,_,_,_,j⟩:=b0 d;cases j
    grind[dR,bK]
def ajc(k:Nat):dt Nat->dt Nat
 | .ok n r pd=> .ok (n+k) r pd
 |x=>x
def vD(k:Nat):dt (Nat⊕Nat)->dt (Nat⊕Nat)
 | .ok (.inl s) r pd=> .ok (.inl (s+k)) r pd
 | .ok (.inr s) r pd=> .ok (.inr (s+k)) r pd
 | .more op nd ds=> .more op nd ds
 | .bad r=> .bad r
 | .deep r=> .deep r
theorem ET{α:Type}{j:Nat}{m:ak α}{k k':α->ak (Nat⊕Nat)}(h:∀a r pd,k' a r pd=vD j (k a r pd))(r:aa)(pd:aq):ae m k' r pd=vD j (ae m k r pd):=by
 unfold ae;cases m r pd with
 |ok a r1 b=>grind
 |_=>rfl
theorem LO{j:Nat}{c:Prop}[Decidable c]{f g a b:ak (Nat⊕Nat)}{r:aa}{pd:aq}(hf:a r pd=vD j (f r pd))(bq:b r pd=vD j (g r pd)):(if c then a else b) r pd=vD j ((if c then f else g) r pd):=by grind
theorem Rn{n k:Nat}{r:aa}{pd:aq}:(aU (.inl (n+k+1)):ak (Nat⊕Nat)) r pd=vD k (aU (.inl (n+1)) r pd):=by simp[aU,vD,Nat.add_right_comm]
theorem ajd{ao:ak Unit}(k n:Nat)(r:aa)(pd:aq):ed ao .text true (n+k) r pd=vD k (ed ao .text true n r pd):=by
 unfold ed;simp only[Bool.true_or,cG,Jf];refine ET (λt r pd=>LO rfl (LO rfl (ET (λ_ r pd=>ET (λt r pd=>?_) r pd) r pd))) r pd;unfold hQ;cases t with
 |eof=>exact Rn
 |line=>exact ET (λ_ r pd=>Rn) r pd
 |word w p=>rfl
 |op o=>exact LO (ET (λ_ r pd=>ET (λ_ r pd=>Rn) r pd) r pd) (LO (by simp[aU,vD,Nat.add_right_comm]) rfl)
theorem aje{ao:ak Unit}(k:Nat):∀(N n:Nat)(r:aa)(pd:aq),r.length<=N->ca (ed ao .text true) (n+k) r pd=ajc k (ca (ed ao .text true) n r pd):=by
 intro N;have b:=ajd (ao:=ao) k;induction N with
 |zero=>
  intro n r pd ax;rw[cF,cF,b];have d:r=[]:=nw.1 (by omega);cases ed ao .text true n r pd with
  |ok x r1 c=>
   cases x with
   |inl s=>unfold cN vD;simp only;rw[aW (by omega),aW (by omega)];rfl
   |inr a=>rfl
  |_=>rfl
 |succ N e=>
  intro n r pd ax;rw[cF,cF,b];cases ed ao .text true n r pd with
  |ok x r1 c=>
   cases x with
   |inl s=>
    unfold cN vD;simp only;by_cases hl:r1.length<r.length
    ·grind
    ·rw[aW hl,aW hl];rfl
   |inr a=>rfl
  |_=>rfl
theorem ajf:∀(N:Nat)(b:Bool)(r:aa)(pd:aq),r.length<=N->(∃r' d,(∃x,ca h2 b r pd= .ok x r' d)/\∃x,ca h2 (!b) r pd= .ok x r' d)\/ca h2 b r pd=ca h2 (!b) r pd:=by
 intro N b r pd ax;cases a:bu r with
 |none=>
  right;rw[cF,cF];have:∀b,h2 b r pd= .more [] (cO [] pd []).1 (cO [] pd []).2:=λb=>dc (iw a)
  grind
 |some r1=>
  by_cases c:au r1= .line
  ·obtain⟨t,rfl⟩:=vB c;grind[cF,ux]
  ·left;exact⟨r1,pd,⟨b,by rw[cF,rm a c];rfl⟩,⟨!b,by rw[cF,rm a c];rfl⟩⟩
def oN(b:UInt8):Bool:=b==60||b==62||b==38||b==124||b==59||b==40||b==41
theorem og{b:UInt8}{t:aa}(h:oN b=false):br (b::t)=[]:=by
 simp only[oN,Je,Nu,ne_eq] at h;obtain⟨⟨⟨⟨⟨⟨ad,a⟩,d⟩,f⟩,g⟩,i⟩,j⟩:=h
 have e:∀(c:UInt8)(o:aa),b≠c->(c::o).isPrefixOf (b::t)=false:=by grind
 simp_all[br,la,xv,List.find?_nil]
def rp(b:UInt8):Bool:= !f_ b&&b !=10&& !oN b&&b !=92&&b !=39&&b !=34&&b !=96&&b !=36
theorem Ih{b:UInt8}(h:rp b=true):f_ b=false/\b≠10/\oN b=false/\b≠92/\b≠39/\b≠34/\b≠96/\b≠36:=by simp_all[rp,hE,F2,bne_iff_ne,ne_eq]
theorem Ro{b:UInt8}{t:aa}(h:rp b=true):c1 (b::t)=false:=by grind[Ih,c1,og]
theorem Xz{b:UInt8}{t:aa}(h:b≠36):ga (b::t)=false:=by
 unfold ga;split
 ·rename_i ad;cases ad;exact absurd rfl h
 ·rename_i ad;cases ad;exact absurd rfl h
 ·rfl
theorem XA:∀(w r:aa),w.all rp=true->c1 r=true->c4 (w++r)=(w,true)
 |[],r,_,c=>by
  cases r with
  |nil=>rfl
  |cons b t=>grind[c4]
 |b::w,r,a,c=>by simp only[AP,hE] at a;obtain⟨ad,d,e,f,g,h,i,j⟩:=Ih a.1;simp only[hp];simp_all[c4,Ro,aW,Xz,XA]
theorem ta{w r:aa}(ax:w≠[])(a:w.all rp=true)(c:c1 r=true):au (w++r)= .word w true:=by
 have aC:=XA w r a c;cases w with
 |nil=>grind
 |cons b t=>simp only[AP,hE] at a;simp_all[Ih,hp,au,aW,og]
theorem kB{b:UInt8}{t:aa}(ad:f_ b=false)(a:b≠35)(c:b≠92):bu (b::t)=some (b::t):=by grind[nM]
theorem kP(t:aa):bu (32::t)=bu t:=by simp[nM,f_]
theorem XB{D:ak Unit}{dq:Option (ak Unit)}{b:UInt8}{t:aa}{pd:aq}(h:rp b=true):cC D dq (b::t) pd= .ok () t pd:=by obtain⟨ad,e,f,a,g,i,c,d⟩:=Ih h;unfold cC;simp only[a,c,Xz d,cm,eC];grind
theorem Ck{D:ak Unit}{b:UInt8}{t r':aa}{pd a:aq}(c:c1 (b::t)=false)(h:cC D (some (eH D)) (b::t) pd= .ok () r' a)(hl:r'.length<(b::t).length):cP D (b::t) pd=cP D r' a:=by unfold cP;rw[cF];simp only[c,eC,cm];rw[aY h];simp_all[cN,aU,cG]
theorem Rp{D:ak Unit}:∀(w r:aa)(pd:aq),w.all rp=true->cP D (w++r) pd=cP D r pd
 |[],r,pd,_=>rfl
 |b::w,r,pd,a=>by simp only[AP,hE] at a;simp only[hp];rw[Ck (Ro a.1) (XB a.1) (by simp),Rp w r pd a.2]
theorem LP{c b:UInt8}{part:ak Unit}{t r':aa}{pd a:aq}(d:b≠c)(h:part (b::t) pd= .ok () r' a)(hl:r'.length<(b::t).length):jc c part (b::t) pd=jc c part r' a:=by unfold jc;rw[cF];simp only[d,cm];rw[aY h];simp_all[cN,aU,cG]
theorem ajg{D:ak Unit}{v a:aa}{pd:aq}(b:bu v=some a)(h:eV (br (a.dropWhile cb))=false):dy D v pd= .ok false a pd/\gO D v pd= .ok () a pd:=by
 have e:dy D v pd= .ok false a pd:=by
  have:fF v pd= .ok none a pd:=by grind[fF]
  unfold dy;rw[aY this];rfl
 refine⟨e,?_⟩;unfold gO;rw[cF,aY e];rfl
theorem sk{r r1:aa}{pd:aq}(a:bu r=some r1)(b:au r1≠ .line):cS r pd= .ok false r1 pd:=by rw[si,cF,rm a b];rfl
theorem ajh{pd:aq}(a:lY pd []= .inl []):cS [10] pd= .ok true [] []:=by
 rw[si,cF,ux (Xg [])];have:ae jb (λ_=>aU (.inl true)) [10] pd=(.ok (.inl true) [] []:dt (Bool⊕Bool)):=by unfold ae;rw[s9,a];rfl
 rw[this];unfold cN;simp only[C3,Np,Nat.lt_one_iff,cG];rw[cF,rm l2 (by decide)];rfl
theorem aji{da:ak Unit}{x v a:aa}{pd b:aq}(d:bu x=some x)(f:cE (au x) [33]=false)(aG:da x pd= .ok () v b)(c:bu v=some a)(ad:au a≠ .op [124])(h:au a≠ .op [38,38])(i:au a≠ .op [124,124]):
  fi da x pd= .ok () a b/\hj (fi da) x pd= .ok () a b:=by
 have g:=lD _ _ _ (cX _) c;have e:fi da x pd= .ok () a b:=by unfold fi;rw[aY (cA d),f];simp only[eC,cm];rw[aY (show aU () x pd= .ok () x pd from rfl),aY aG,cF,aY (cA c),aW ad];rfl
 refine⟨e,?_⟩;unfold hj;rw[aY e,cF,aY (cA g),aW (by grind)];rfl
theorem nP{w r:aa}(ax:w≠[])(a:w.all rp=true)(d:w.head?≠some 35)(c:c1 r=true):au (w++r)= .word w true/\bu (w++r)=some (w++r):=by
 refine⟨ta ax a c,?_⟩;cases w with
 |nil=>grind
 |cons b t=>simp_all[AP,hE,Ih,kB]
theorem Cl(t:aa):c1 (32::t)=true:=by rfl
section
variable{fr:Bool}{n k:Nat}{u r:aa}{pd:aq}(hu:du u)(h:hO fr n u= .ok k r pd)(hk:k≠0)
include hu h hk
omit hu h hk in
theorem tb{w v:aa}{pd:aq}(ax:w≠[])(a:w.all rp=true)(b:w.head?≠some 35)(c:c1 v=true):cV w (w++v) pd= .ok () v pd:=by obtain⟨d,e⟩:=nP ax a b c;unfold cV m2;rw[aY (cA e),d,aW (by simp)];simp[bZ,cE]
omit hu h hk in
theorem XC{w v:aa}{pd:aq}:bZ w.length (w++v) pd= .ok () v pd:=by simp[bZ,o0]
end
theorem XD(t:aa):br (40::t)=[40]:=by rfl
theorem XE(t:aa):c1 (40::t)=true:=by rfl
theorem XF{D:ak Unit}{b:UInt8}{t:aa}{pd:aq}(a:bu (b::t)=some (b::t))(aH:cb b=false)(c:oN b=false):dy D (b::t) pd= .ok false (b::t) pd:=
 (ajg a (by
  have:(b::t).dropWhile cb=b::t:=by simp_all
  rw[this,og c];rfl)).1
theorem EU:∀(n:Nat)(r q:aa),r.length<=n->gX r=some q->q<:+r:=by
 intro n;induction n with
 |zero=>simp_all[nw,Nat.le_zero,gX]
 |succ n a=>
  intro r q ax h;cases r with
  |nil=>grind
  |cons b t=>unfold gX at h;grind
theorem Ag:∀(r q:aa),gb r=some q->q<:+r
 |[],q,h=>by grind[gb]
 |b::t,q,h=>by
  unfold gb at h;split at h
  ·cases h;exact eb b _
  ·exact(Ag t q h).trans (eb b t)
structure lh where
 T:aa
 N:aa->Nat
 c:Nat
 Q:aa->aq->Prop
structure lh.H(E:lh)(n:Nat)(r:aa)(pd:aq):Prop where
 sfx:r<:+E.T
 le:E.N r+E.c<=n
 q:E.Q r pd
def h3(E:lh){α:Type}(r0:aa):dt α->Prop
 | .ok _ r pd=>r<:+r0/\E.Q r pd
 | .deep _=>False
 |_=>True
def ai(E:lh)(n:Nat){α:Type}(f:ak α):Prop:=∀r pd,E.H n r pd->h3 E r (f r pd)
structure lh.mM(E:lh):Prop where
 e5:1<=E.c
 mono:∀r r',r'<:+r->r<:+E.T->E.N r'<=E.N r
 ajj:∀r r' pd,r'<:+r->r<:+E.T->E.Q r pd->E.Q r' pd
 ajk:∀r,r<:+E.T->E.Q r []
 sg:∀r pd o tabs r' aD,r<:+E.T->E.Q r pd->br r=o->(o=[60,60]/\tabs=false\/o=[60,60,45]/\tabs=true)->hi tabs (r.drop o.length) pd= .ok () r' aD->E.Q r' aD
 vC:∀u,36::40::u<:+E.T->u.head?≠some 40->E.N u+1<=E.N (36::40::u)\/∀n pd,E.c<=n->E.Q (36::40::u) pd->h3 E (36::40::u) ((aZ true n).dl (36::40::u) pd)
 qL:∀u,36::123::u<:+E.T->E.N u+1<=E.N (36::123::u)\/∀n pd,E.c<=n->E.Q (36::123::u) pd->h3 E (36::123::u) ((aZ true n).dl (36::123::u) pd)
 comp:∀r,r<:+E.T->bu r=some r->hs (au r)=true->E.N (r.drop (mx (au r)).length)+1<=E.N r\/∀n pd,E.c<=n->E.Q r pd->h3 E r ((aZ true n).cp (au r) r pd)
 func:∀u,40::u<:+E.T->E.N u+1<=E.N (40::u)\/∀n pd,E.c<=n+1->E.Q (40::u) pd->h3 E (40::u) (l1 true (some (aZ true n)) (40::u) pd)
section
variable{E:lh}(ok:E.mM){n:Nat}
theorem h3.mono{α:Type}{r0 r:aa}{x:dt α}(h:h3 E r x)(ad:r<:+r0):h3 E r0 x:=by
 cases x with
 |ok a r1 b=>exact⟨h.1.trans ad,h.2⟩
 |more _ _ _=>trivial
 |bad _=>trivial
 |deep _=>exact h
theorem h3.ae{α β:Type}{m:ak α}{k:α->ak β}{r0 r:aa}{pd:aq}(h:h3 E r0 (m r pd))(hk:∀a r' b,m r pd= .ok a r' b->r'<:+r0->E.Q r' b->h3 E r0 (k a r' b)):h3 E r0 (Go.Eng.ae m k r pd):=by
 unfold Go.Eng.ae;cases hm:m r pd with
 |ok a r1 c=>rw[hm] at h;exact hk a r1 c hm h.1 h.2
 |more _ _ _=>trivial
 |bad _=>trivial
 |deep q=>rw[hm] at h;exact h
theorem h3.aM{α:Type}{m:ak α}{r0 r:aa}{pd:aq}{x:aa}(h:h3 E r0 (m r pd)):h3 E r0 (m.aM x r pd):=by
 unfold ak.aM;cases hm:m r pd with
 |more _ _ _=>trivial
 |ok a r1 b=>grind
 |bad _=>trivial
 |deep q=>grind
theorem h3.named{α:Type}{m:ak α}{r0 r:aa}{pd:aq}{x:aa}(h:h3 E r0 (m r pd)):h3 E r0 (m.named x r pd):=by
 unfold ak.named;cases hm:m r pd with
 |more _ _ _=>trivial
 |ok a r1 b=>grind
 |bad _=>trivial
 |deep q=>grind
theorem ai.aM{α:Type}{m:ak α}(h:ai E n m)(x:aa):ai E n (m.aM x):=λr pd a=>(h r pd a).aM
theorem ai.named{α:Type}{m:ak α}(h:ai E n m)(x:aa):ai E n (m.named x):=λr pd a=>(h r pd a).named
theorem ai.b6{α:Type}(x:aa):ai E n (Go.Eng.b6 x:ak α):=λr pd _=>trivial
theorem ai.bK{α:Type}:ai E n (Go.Eng.bK:ak α):=λr pd _=>trivial
theorem ai.ret{α:Type}(a:α):ai E n (aU a):=λr pd h=>⟨fK,h.q⟩
theorem ai.ite{α:Type}{p:Prop}[Decidable p]{f g:ak α}(hf:ai E n f)(bq:ai E n g):ai E n (if p then f else g):=by grind
include ok
theorem lh.H.down{r r':aa}{pd a:aq}(h:E.H n r pd)(ad:r'<:+r)(b:E.Q r' a):E.H n r' a:=⟨ad.trans h.sfx,by have:=ok.mono r r' ad h.sfx;have:=h.le;omega,b⟩
theorem lh.H.qe{r r':aa}{pd:aq}(h:E.H n r pd)(ad:r'<:+r):E.H n r' pd:=h.down ok ad (ok.ajj r r' pd ad h.sfx h.q)
theorem ai.ae{α β:Type}{m:ak α}{k:α->ak β}(hm:ai E n m)(hk:∀a,ai E n (k a)):ai E n (Go.Eng.ae m k):=λr pd h=>
 (hm r pd h).ae λa r' b _ ad c=>(hk a r' b (h.down ok ad c)).mono ad
theorem ai.h4{f:ak Unit}(hf:∀r pd,match f r pd with| .ok _ r' b=>r'<:+r/\b=pd| .deep _=>False|_=>True):ai E n f:=λr pd h=>by
 have:=hf r pd;cases hm:f r pd with
 |ok a r1 c=>rw[hm] at this;obtain⟨ad,rfl⟩:=this;exact⟨ad,(h.qe ok ad).q⟩
 |more _ _ _=>trivial
 |bad _=>trivial
 |deep q=>grind
theorem ai.dg(k:Nat):ai E n (bZ k):=ai.h4 ok λr pd=>⟨lE _ _,rfl⟩
theorem ai.rep{σ α:Type}{f:σ->ak (σ⊕α)}(hf:∀s,ai E n (f s))(s:σ):ai E n (ca f s):=by
 have b:∀(N:Nat)(s:σ)(r:aa)(pd:aq),r.length<=N->E.H n r pd->h3 E r (ca f s r pd):=by
  intro N;induction N with
  |zero=>
   intro s r pd d h;rw[cF];have:=hf s r pd h;unfold cN;cases hm:f s r pd with
   |ok x r1 c=>
    rw[hm] at this;cases x with
    |inl s'=>simp only;rw[aW (by omega)];trivial
    |inr a=>exact this
   |more _ _ _=>trivial
   |bad _=>trivial
   |deep q=>rw[hm] at this;exact this
  |succ N e=>
   intro s r pd d h;rw[cF];have:=hf s r pd h;unfold cN;cases hm:f s r pd with
   |ok x r1 c=>
    rw[hm] at this;cases x with
    |inl s'=>
     simp only;split
     ·exact(e s' r1 c (by omega) (h.down ok this.1 this.2)).mono this.1
     ·trivial
    |inr a=>exact this
   |more _ _ _=>trivial
   |bad _=>trivial
   |deep q=>rw[hm] at this;exact this
 exactλr pd h=>b _ s r pd (cX _) h
theorem ai.dD{α:Type}{x:aa}{k:Tok->ak α}(hk:∀r pd,E.H n r pd->bu r=some r->h3 E r (k (au r) r pd)):ai E n (Go.Eng.ae (bP x) k):=by
 intro r pd h;cases a:bu r with
 |none=>rw[dc (iw a)];trivial
 |some r'=>rw[aY (cA a)];have b:=dT a;exact(hk r' pd (h.qe ok b) (lD _ _ _ (cX _) a)).mono b
theorem ai.fJ{α:Type}{x:aa}{k:Tok->ak α}(hk:∀t,ai E n (k t)):ai E n (Go.Eng.ae (bP x) k):=ai.dD ok λr pd h _=>hk _ r pd h
theorem ai.exp(b:Tok->Bool)(k:Nat):ai E n (m2 b k):=ai.fJ ok λt=>ai.ite (ai.b6 _) (ai.ite (ai.dg ok _) ai.bK)
theorem ai.jI(o:aa):ai E n (Go.Eng.jI o):=ai.exp ok _ _
theorem ai.cV(o:aa):ai E n (Go.Eng.cV o):=ai.exp ok _ _
theorem ai.nl:ai E n jb:=by
 intro r pd h;cases r with
 |nil=>exact⟨fK,h.q⟩
 |cons b t=>
  unfold jb;simp only;cases a:lY pd t with
  |inl r'=>have ad:=((vw pd t [] r' a).1).trans (eb b t);exact⟨ad,ok.ajk _ (ad.trans h.sfx)⟩
  |inr nd=>trivial
theorem ai.lines:ai E n cS:=ai.rep ok (λ_=>ai.fJ ok λt=>ai.ite (ai.ae ok (ai.nl ok) λ_=>ai.ret _) (ai.ret _)) _
theorem ai.part{D:ak Unit}(hD:ai E n D){dq:Option (ak Unit)}(c:∀q,dq=some q->ai E n q):ai E n (cC D dq):=by
 intro r pd h;cases r with
 |nil=>exact⟨fK,h.q⟩
 |cons b t=>
  have a:t<:+b::t:=eb b t
  have d:∀(f:aa->Option aa)(x:aa),(∀r q,f r=some q->q<:+r)->h3 E (b::t) (jq f x t pd):=by
   intro f x hf;unfold jq;cases hm:f t with
   |none=>trivial
   |some q=>have:=(hf _ _ hm).trans a;exact⟨this,(h.qe ok this).q⟩
  unfold cC;simp only;split
  ·have:=(lE 1 t).trans a;exact⟨this,(h.qe ok this).q⟩
  ·split
   ·exact d _ _ λr q e=>EU _ r q (cX _) e
   ·split
    ·exact hD _ _ h
    ·cases dq with
     |none=>exact⟨a,(h.qe ok a).q⟩
     |some q=>
      simp only;split
      ·grind[Ag]
      ·split
       ·exact(c q rfl t pd (h.qe ok a)).mono a
       ·exact⟨a,(h.qe ok a).q⟩
theorem ai.Cm{p:ak Unit}(aC:ai E n p)(c:UInt8):ai E n (jc c p):=by
 refine ai.rep ok (λ_=>?_) _;intro r pd h;cases r with
 |nil=>trivial
 |cons b t=>
  simp only;split
  ·exact⟨eb b t,(h.qe ok (eb b t)).q⟩
  ·exact ai.ae ok aC (λ_=>ai.ret _) _ _ h
theorem ai.double{D:ak Unit}(hD:ai E n D):ai E n (eH D):=((ai.Cm ok (ai.part ok hD (λq a=>by cases a)) _).aM _).named _
theorem ai.yy{D:ak Unit}(hD:ai E n D):ai E n (cC D (some (eH D))):=ai.part ok hD λq a=>by grind[ai.double]
theorem ai.param{D:ak Unit}(hD:ai E n D):ai E n (qJ D):=(ai.Cm ok (ai.yy ok hD) _).aM _
theorem ai.cP{D:ak Unit}(hD:ai E n D):ai E n (Go.Eng.cP D):=by
 refine ai.rep ok (λ_=>?_) _;intro r pd h;cases r with
 |nil=>trivial
 |cons b t=>
  simp only;split
  ·exact⟨fK,h.q⟩
  ·exact ai.ae ok (ai.yy ok hD) (λ_=>ai.ret _) _ _ h
theorem ai.jH{D:ak Unit}(hD:ai E n D)(x:aa):ai E n (Go.Eng.jH D x):=by refine ai.fJ ok λt=>?_;grind[ai.b6,ai.cP,ai.bK]
theorem ai.je{D:ak Unit}(hD:ai E n D):ai E n (dy D):=by
 intro r pd h;unfold dy;cases k:bu r with
 |none=>
  have:fF r pd=Go.Eng.b6 [] r pd:=by grind[fF]
  unfold Go.Eng.ae;rw[this];trivial
 |some r'=>
  have b:=dT k;have g:r'.dropWhile cb<:+r:=Ch.trans b;have c:=h.qe ok g;by_cases t:eV (br (r'.dropWhile cb))=true
  ·have:fF r pd= .ok (some (br (r'.dropWhile cb))) ((r'.dropWhile cb).drop (br (r'.dropWhile cb)).length) pd:=by simp_all[fF,bm]
   rw[aY this];generalize r'.dropWhile cb=q at*;have aH:q.drop (br q).length<:+q:=lE _ _;have e:=c.qe ok aH;simp only;refine h3.mono (r:=q) (h3.ae ?_ λ_ i j _ f l=>⟨f,l⟩) g
   have m:∀tabs,(br q=[60,60]/\tabs=false\/br q=[60,60,45]/\tabs=true)->h3 E q (hi tabs (q.drop (br q).length) pd):=by
    intro tabs o;cases hm:hi tabs (q.drop (br q).length) pd with
    |more _ _ _=>trivial
    |bad _=>trivial
    |deep x=>grind[hi]
    |ok a i j=>
     refine⟨?_,ok.sg q pd _ tabs i j c.sfx c.q rfl o hm⟩;refine List.IsSuffix.trans ?_ aH;generalize q.drop (br q).length=v at hm;unfold hi at hm;split at hm
     ·cases hm
     ·rename_i u p;split at hm
      ·cases hm
      ·split at hm
       ·cases hm
       ·rename_i d w y s
        repeat' (split at hm)
        all_goals cases hm
        exact(Q_ _ _ _ (cX _) s).trans (dT p)
      grind
   by_cases ad:br q=[60,60]
   ·grind
   ·rw[aW ad];by_cases f:br q=[60,60,45]
    ·grind
    ·rw[aW f];exact(ai.jH ok hD _ _ _ e).mono aH
  ·have:fF r pd= .ok none r' pd:=by simp_all[fF,aW]
   rw[aY this];exact⟨b,(h.qe ok b).q⟩
theorem ai.mA{D:ak Unit}(hD:ai E n D):ai E n (gO D):=ai.rep ok (λ_=>ai.ae ok (ai.je ok hD) λb=>ai.ret _) _
theorem ai.simple{D:ak Unit}(hD:ai E n D)(fr:Bool):ai E n (hv fr D):=by
 refine ai.rep ok (λ_=>ai.ae ok (ai.je ok hD) λb=>ai.ite (ai.ret _) (ai.fJ ok λt=>?_)) _;cases t with
 |word _ _=>grind[ai.ae,ai.cP,ai.ret]
 |op o=>simp[ai.ite,ai.bK,ai.ret]
 |_=>simp[ai.ret]
theorem ai.pipe{da:ak Unit}(h:ai E n da):ai E n (fi da):=ai.fJ ok λt=>ai.ae ok (ai.ite (ai.dg ok _) (ai.ret _)) λ_=>ai.ae ok h λ_=>
 ai.rep ok (λ_=>ai.fJ ok λt=>ai.ite (ai.ae ok (ai.dg ok _) λ_=>ai.ae ok ((ai.lines ok).aM _) λ_=>ai.ae ok h λ_=>ai.ret _) (ai.ret _)) _
theorem ai.pB{a:ak Unit}(h:ai E n a):ai E n (hj a):=ai.ae ok h λ_=>
 ai.rep ok (λ_=>ai.fJ ok λt=>ai.ite (ai.ae ok (ai.dg ok _) λ_=>ai.ae ok ((ai.lines ok).aM _) λ_=>ai.ae ok h λ_=>ai.ret _) (ai.ret _)) _
theorem ai.list{ao:ak Unit}(h:ai E n ao)(c:Ctx)(no:Bool):ai E n (od ao c no):=ai.ae ok ((ai.lines ok).aM _) λ_=>ai.rep ok (λk=>ai.fJ ok λt=>
 ai.ite (ai.ite (ai.ret _) (ai.b6 _)) (ai.ite (ai.ret _) (ai.ae ok h λ_=>ai.fJ ok λt=>by
  cases t with
  |eof=>simp[ai.ret]
  |line=>grind[ai.ae,ai.lines,ai.ret]
  |word _ _=>exact ai.bK
  |op o=>exact ai.ite (ai.ae ok (ai.dg ok _) λ_=>ai.ae ok (ai.lines ok) λ_=>ai.ret _) (ai.ite (ai.ret _) ai.bK)))) _
end
structure wZ(E:lh)(n:Nat):Prop where
 ls:∀c no,ai E n ((aZ true n).ls c no)
 pm:ai E n (aZ true n).pm
 cp:∀r pd,E.H n r pd->bu r=some r->hs (au r)=true->h3 E r ((aZ true n).cp (au r) r pd)
 rd:ai E n (aZ true n).rd
 dl:ai E n (aZ true n).dl
section
variable{E:lh}(ok:E.mM){n:Nat}
include ok
theorem lh.H.pos{r:aa}{pd:aq}(h:E.H n r pd):1<=n:=by have:=ok.e5;have:=h.le;omega
theorem ai.nk:ai E n Go.Eng.nk:=by
 refine ai.h4 ok λr pd=>?_;unfold Go.Eng.nk;cases h:hL 0 r with
 |ok q=>exact⟨Ae 0 r q h,rfl⟩
 |more _=>trivial
 |bad _=>trivial
theorem ai.Rq{lo:Option dS}{k:Nat}(hl:(lo=none/\k=0)\/∃m,lo=some (aZ true m)/\k=m+1/\wZ E m):ai E k (dH lo):=by
 intro r pd h;have hk:=h.pos ok;rcases hl with⟨_,rfl⟩|⟨m,rfl,rfl,hm⟩
 ·omega
 have i:(aZ true (m+1)).dl=dH (some (aZ true m)):=rfl;have a:∀k,r.drop k<:+r:=λk=>lE _ _
 unfold dH;split
 ·exact((ai.dg ok _).ae ok (λ_=>ai.nk ok)) r pd h
 ·rename_i j;split
  ·rename_i b;rw[C1] at b;obtain⟨u,rfl⟩:=b;have hu:u.head?≠some 40:=by
    intro f;cases u with
    |nil=>cases f
    |cons c v=>grind
   rcases ok.vC u h.sfx hu with g|bq
   ·have d:E.H m u pd:=⟨(a 2).trans h.sfx,by have:=h.le;grind,(h.qe ok (a 2)).q⟩;have:sd (some (aZ true m)) 2 uq ([36,40]++u) pd=uq (aZ true m) u pd:=rfl;rw[this];refine h3.mono ?_ (a 2);exact ai.ae ok (((hm.ls _ _).aM _).named _) (λ_=>ai.jI ok _) _ _ d
   ·have:=bq (m+1) pd (by have:=h.le;omega) h.q;simp_all[dH,aa,aW,bm,List.isPrefixOf]
  ·rename_i b;split
   ·rename_i e;rw[C1] at e;obtain⟨u,rfl⟩:=e;rcases ok.qL u h.sfx with g|bq
    ·have d:E.H m u pd:=⟨(a 2).trans h.sfx,by have:=h.le;grind,(h.qe ok (a 2)).q⟩;have:sd (some (aZ true m)) 2 (λl=>l.pm.named [36,123]) ([36,123]++u) pd=((aZ true m).pm.named [36,123]) u pd:=rfl;rw[this];exact((hm.pm.named _) _ _ d).mono (a 2)
    ·have:=bq (m+1) pd (by have:=h.le;omega) h.q;simp_all[dH,aa,aW,bm,List.isPrefixOf]
   ·exact⟨a 1,(h.qe ok (a 1)).q⟩
section
variable{m:Nat}(hm:wZ E m)
include hm
theorem ai.body(x:aa):ai E m (iI (aZ true m) x):=ai.ae ok ((ai.cV ok _).aM _) λ_=>ai.ae ok ((hm.ls _ _).aM _) λ_=>ai.cV ok _
theorem ai.cond:ai E m (qM (aZ true m)):=ai.rep ok (λ_=>ai.ae ok ((hm.ls _ _).aM _) λ_=>ai.ae ok (ai.cV ok _) λ_=>ai.ae ok ((hm.ls _ _).aM _) λ_=>
 ai.fJ ok λt=>ai.ite (ai.ae ok (ai.cV ok _) λ_=>ai.ret _) (ai.ite (ai.ae ok (ai.cV ok _) λ_=>ai.ae ok ((hm.ls _ _).aM _) λ_=>ai.ae ok (ai.cV ok _) λ_=>ai.ret _) (ai.ae ok (ai.cV ok _) λ_=>ai.ret _))) _
theorem ai.words:ai E m (pz (aZ true m).dl):=ai.rep ok (λ_=>ai.fJ ok λt=>by
 cases t with
 |eof=>simp[ai.b6]
 |word _ _=>exact ai.ae ok (ai.cP ok hm.dl) λ_=>ai.ret _
 |line=>simp[ai.ret]
 |op o=>exact ai.ite (ai.ae ok (ai.dg ok _) λ_=>ai.ret _) ai.bK) _
theorem ai.for_:ai E m (pA (aZ true m) (aZ true m).dl):=ai.fJ ok λt=>by
 cases t with
 |eof=>simp[ai.b6]
 |word w p=>
  cases p with
  |true=>
   refine ai.ite (ai.ae ok (ai.dg ok _) λ_=>ai.ae ok (ai.aM (ai.fJ ok λt=>?_) _) λ_=>ai.body ok hm _) ai.bK;exact ai.ite (ai.ae ok (ai.dg ok _) λ_=>ai.ae ok (ai.lines ok) λ_=>ai.ret _) (ai.ae ok (ai.lines ok) λ_=>ai.fJ ok λt=>
    ai.ite (ai.ae ok (ai.dg ok _) λ_=>ai.ae ok (ai.words ok hm) λ_=>ai.ae ok (ai.lines ok) λ_=>ai.ret _) (ai.ret _))
  |false=>exact ai.bK
 |_=>exact ai.bK
theorem ai.wX:ai E m (kO (aZ true m).dl):=ai.rep ok (λ_=>ai.fJ ok λt=>by
 cases t with
 |eof=>simp[ai.b6]
 |word _ _=>
  refine ai.ae ok ((ai.cP ok hm.dl).aM _) λ_=>ai.fJ ok λt=>?_;cases t with
  |op o=>exact ai.ite (ai.ae ok (ai.dg ok _) λ_=>ai.ret _) (ai.ite (ai.ae ok (ai.dg ok _) λ_=>ai.ret _) ai.bK)
  |eof=>simp[ai.b6]
  |_=>exact ai.bK
 |_=>exact ai.bK) _
theorem ai.items:ai E m (nn (aZ true m) (aZ true m).dl):=ai.rep ok (λ_=>ai.ae ok (ai.lines ok) λ_=>ai.fJ ok λt=>ai.ite (ai.b6 _) (ai.ite (ai.ae ok (ai.dg ok _) λ_=>ai.ret _)
 (ai.ae ok (ai.ite (ai.dg ok _) (ai.ret _)) λ_=>ai.ae ok (ai.wX ok hm) λ_=>ai.ae ok (hm.ls _ _) λ_=>ai.fJ ok λt=>ai.ite (ai.ae ok (ai.dg ok _) λ_=>ai.ret _) (ai.ret _)))) _
theorem ai.wY:ai E m (qN (aZ true m) (aZ true m).dl):=ai.fJ ok λt=>by
 cases t with
 |eof=>simp[ai.b6]
 |word _ _=>exact ai.ae ok (ai.aM (ai.ae ok (ai.cP ok hm.dl) λ_=>ai.ae ok (ai.lines ok) λ_=>ai.fJ ok λt=>ai.ite (ai.b6 _) (ai.ret _)) _) λt=>ai.ite (ai.ae ok (ai.dg ok _) λ_=>(ai.items ok hm).aM _) ai.bK
 |_=>exact ai.bK
theorem h3.kind{r:aa}{pd:aq}(h:E.H m (r.drop (mx (au r)).length) pd)(aG:hs (au r)=true):h3 E r (hN (aZ true m) (au r) r pd):=by
 have aH:∀k,r.drop k<:+r:=λk=>lE _ _
 cases a:au r with
 |eof=>grind[hs]
 |line=>grind[hs]
 |op o=>rw[a] at h;have:hN (aZ true m) (.op o) r pd=Go.Eng.ae (((aZ true m).ls .paren false).aM [41]) (λ_=>Go.Eng.jI [41]) (r.drop 1) pd:=rfl;rw[this];exact(ai.ae ok ((hm.ls _ _).aM _) (λ_=>ai.jI ok _) _ _ h).mono (aH _)
 |word w p=>
  rw[a] at h;have:hN (aZ true m) (.word w p) r pd=(if w=[123] then Go.Eng.ae (((aZ true m).ls .qL false).aM [10,125]) λ_=>Go.Eng.cV [125]
   else if w=m1 then qM (aZ true m)
   else if w=nj then pA (aZ true m) (aZ true m).dl
   else if w=px then qN (aZ true m) (aZ true m).dl
   else Go.Eng.ae (((aZ true m).ls .py false).aM eh) λ_=>iI (aZ true m) eh:ak Unit) (r.drop w.length) pd:=rfl
  rw[this];refine h3.mono ?_ (aH w.length);refine ai.ite ?_ (ai.ite (ai.cond ok hm) (ai.ite (ai.for_ ok hm) (ai.ite (ai.wY ok hm) ?_))) _ _ h
  ·exact ai.ae ok ((hm.ls _ _).aM _) λ_=>ai.cV ok _
  ·exact ai.ae ok ((hm.ls _ _).aM _) λ_=>ai.body ok hm _
theorem h3.cp{r:aa}{pd:aq}(h:E.H (m+1) r pd)(a:bu r=some r)(aG:hs (au r)=true):h3 E r ((aZ true (m+1)).cp (au r) r pd):=by
 rcases ok.comp r h.sfx a aG with b|bq
 ·have aH:r.drop (mx (au r)).length<:+r:=lE _ _;have c:E.H m (r.drop (mx (au r)).length) pd:=⟨aH.trans h.sfx,by have:=h.le;omega,(h.qe ok aH).q⟩;have:(aZ true (m+1)).cp (au r) r pd=((hN (aZ true m) (au r)).named (mx (au r))) r pd:=rfl;grind[h3.kind,h3.named]
 ·exact bq _ _ (by have:=h.le;omega) h.q
theorem h3.function{u:aa}{pd:aq}(h:E.H (m+1) (40::u) pd):h3 E (40::u) (l1 true (some (aZ true m)) (40::u) pd):=by
 rcases ok.func u h.sfx with j|bq
 ·have hu:u<:+40::u:=eb 40 u;have b:E.H m u pd:=⟨hu.trans h.sfx,by have:=h.le;omega,(h.qe ok hu).q⟩;have e:(aZ true m).has=true:=by
   cases m with
   |zero=>have:=b.pos ok;omega
   |succ _=>rfl
  unfold l1;simp only;rw[bm e];refine h3.named ?_;refine h3.mono ?_ hu;refine ai.fJ ok (λt=>ai.ite (ai.b6 _) (ai.ite ?_ ai.bK)) u pd b;refine ai.ae ok (ai.dg ok _) λ_=>ai.ae ok ((ai.lines ok).aM _) λ_=>ai.dD ok λr pd c f=>?_;by_cases ad:au r= .eof
  ·rw[bm ad];trivial
  rw[aW ad];by_cases a:hs (au r)=true
  ·rw[bm a];exact h3.ae (hm.cp r pd c f a) λ_ r1 g _ d i=>(hm.rd r1 g (c.down ok d i)).mono d
  ·rw[aW a];trivial
 ·exact bq m pd (by have:=h.le;omega) h.q
theorem ai.command:ai E (m+1) (gk true (some (aZ true m)) (aZ true (m+1)).dl):=by
 have hD:ai E (m+1) (aZ true (m+1)).dl:=ai.Rq ok (.inr ⟨m,rfl,rfl,hm⟩);refine ai.dD ok λr pd h e=>?_;by_cases ad:au r= .eof
 ·rw[bm ad];trivial
 rw[aW ad];by_cases c:hs (au r)=true
 ·rw[bm c];exact h3.ae (h3.cp ok hm h e c) λ_ r1 f _ a d=>(ai.mA ok hD r1 f (h.down ok a d)).mono a
 rw[aW c];cases i:au r with
 |eof=>grind
 |line=>trivial
 |op o=>exact ai.ite (ai.ae ok (ai.je ok hD) λ_=>ai.simple ok hD true) ai.bK r pd h
 |word w p=>
  refine ai.ite ai.bK (ai.ae ok (ai.je ok hD) λb=>ai.ite (ai.simple ok hD true) (ai.ae ok (ai.cP ok hD) λ_=>ai.ite (ai.dD ok λr pd h e=>?_) (ai.simple ok hD true))) r pd h;by_cases a:au r= .op [40]
  ·rw[bm a];obtain⟨u,rfl⟩:=(ic a).2.1;exact h3.ae (h3.function ok hm h) λ_ r1 f _ d g=>⟨d,g⟩
  ·rw[aW a];exact ai.simple ok hD true r pd h
end
omit n in
theorem oh:∀n,wZ E n
 |0=>by
  have a:∀{r pd},¬E.H 0 r pd:=λh=>by have:=h.pos ok;omega
  exact⟨λc no r pd h=>absurd h a,λr pd h=>absurd h a,λr pd h=>absurd h a,λr pd h=>absurd h a,λr pd h=>absurd h a⟩
 |m+1=>by have hm:=oh m;have hD:ai E (m+1) (aZ true (m+1)).dl:=ai.Rq ok (.inr ⟨m,rfl,rfl,hm⟩);exact⟨λc no=>ai.list ok (ai.pB ok (ai.pipe ok (ai.command ok hm))) c no,ai.param ok hD,λr pd h b aG=>h3.cp ok hm h b aG,ai.mA ok hD,hD⟩
end
end Go.Eng
namespace Go.Eng
open Go Go.Proofs
theorem aO{α β:Type}{m:Option α}{k:α->Option β}{y:α}(h:m=some y):av m k=k y:=by rw[h];rfl
theorem ajm{α β:Type}{c:Prop}[Decidable c]{x d:α}{k:α->Option β}(h:c):cR c (some x) d k=k x:=by unfold cR;rw[bm h];rfl
theorem vE{α:Type}[Inhabited α]{l:List α}{k:Int}(h0:0<=k)(h:k<(l.length:Int)):l.drop k.toNat=at' l k::l.drop (k+1).toNat:=by grind[List.drop_eq_getElem_cons,at']
theorem LQ{α:Type}{l:List α}{k:Int}(h0:0<=k):b9 l k (l.length:Int)=l.drop k.toNat:=by simp[b9,Jk]
def rq(c:UInt8):aa->bs
 |[]=>[[]]
 |b::l=>if b=c then []::rq c l else match rq c l with
  |[]=>[[b]]
  |x::xs=>(b::x)::xs
theorem XG(c:UInt8):∀(l:aa),(Lib.indexByte l c= -1/\rq c l=[l]/\l.count c=0)\/
  ∃p:Nat,Lib.indexByte l c=p/\p<l.length/\rq c l=l.take p::rq c (l.drop (p+1))/\l.count c=(l.drop (p+1)).count c+1
 |[]=> .inl ⟨rfl,rfl,rfl⟩
 |b::l=>by
  by_cases h:b=c
  ·grind[Lib.indexByte,rq]
  ·have e:(b==c)=false:=by grind
   rcases XG c l with⟨ad,a,d⟩|⟨p,ad,a,d,f⟩
   ·grind[Lib.indexByte,rq]
   ·refine .inr ⟨p+1,?_,?_,?_,?_⟩
    ·grind[Lib.indexByte]
    ·grind
    ·grind[rq]
    grind
theorem ajn(a:bs)(s:aa)(i:Nat)(bg:i<a.length):b9 (List.set a i s) 0 ((i:Int)+1)=a.take i++[s]:=by
 unfold b9;have b:((i:Int)+1).toNat=i+1:=by omega
 simp only[F4,v3,Nat.sub_zero,b];rw[List.take_set,List.take_succ_eq_append_getElem bg,List.set_append_right _ _ (by grind)];simp only[List.length_take,Nat.min_eq_left (show i<=a.length by omega),Nat.sub_self,List.set_cons_zero]
theorem ajo(a:bs)(s:aa)(i:Nat)(bg:i<a.length):(List.set a i s).take (i+1)=a.take i++[s]:=by rw[List.take_set,List.take_succ_eq_append_getElem bg,List.set_append_right _ _ (by grind)];simp only[List.length_take,Nat.min_eq_left (show i<=a.length by omega),Nat.sub_self,List.set_cons_zero]
theorem ajp(x0:aa)(c:UInt8)(n:Nat)(w:(x0.length:Int)<=1048576)(ax:(n:Int)=x0.count c+1)(j:aa×bs×Int->Option bs)
  (e:∀(s:aa)(a:bs)(i:Nat),a.length=n->i<n->j (s,a,(i:Int))=some (a.take i++[s])):
  ∀(m:Nat)(s:aa)(a:bs)(i:Nat),a.length=n->n=i+s.count c+1->s.length<=x0.length->(s.count c:Int)<m->0<m->
  fixF (GQ x0 [c] 0 (n:Int) j) m (s,a,(i:Int))=some (a.take i++rq c s):=by
 have kb:=List.count_le_length (a:=c) (l:=x0);have f:min (n:Int) (W ((x0.length:Int)+1))=n:=by grind[dU]
 intro m;induction m with
 |zero=>omega
 |succ m g=>
  intro s a i h bg x hm _;simp only[fixF,GQ,a8,ou,f];have k:W ((n:Int)-1)=(n:Int)-1:=dU (by omega) (by omega);have o:W ((i:Int)+1)=(i:Int)+1:=dU (by omega) (by omega);rw[k];rcases XG c s with⟨ad,b,d⟩|⟨p,ad,b,d,y⟩
  ·rw[aW (by omega),e _ _ _ h (by omega),b]
  ·rw[bm (by omega)];simp only[O6,av,ad];have q:W ((p:Int)+0)=p:=by grind[dU]
   have r:W ((p:Int)+(([c]:aa).length:Int))=p+1:=by rw[dU (by omega) (by grind)];simp
   rw[q,r,if_neg (by omega),if_pos ⟨by omega,by omega,by omega⟩,if_pos ⟨by omega,by omega⟩,if_pos ⟨by omega,by omega,by omega⟩,o];have t:b9 s ((p:Int)+1) (s.length:Int)=s.drop (p+1):=by rw[LQ (by omega)];congr 1
   have u:b9 s 0 (p:Int)=s.take p:=by rfl
   have v:(((i+1:Nat)):Int)=(i:Int)+1:=by omega
   rw[t,u,<-v];rw[g (s.drop (p+1)) _ (i+1) (by grind) (by omega) (by grind) (by omega) (by omega),d];simp only[Int.toNat_natCast];rw[ajo _ _ _ (by omega),List.append_assoc];rfl
theorem XH(x0:aa)(c:UInt8)(b:(x0.length:Int)<=1048576):DG x0 [c]=some (rq c x0):=by
 have kb:=List.count_le_length (a:=c) (l:=x0);have bq:GR x0 [c] 0 (-1)=some (rq c x0):=by
  unfold GR;simp only[a9,Bool.cond_decide,O7,av,Lib.countByte,a8];have d:W (((x0.count c:Nat):Int)+1)=((x0.count c+1:Nat):Int):=by grind[dU]
  have e:min ((x0.count c+1:Nat):Int) (W ((x0.length:Int)+1))=((x0.count c+1:Nat):Int):=by grind[dU]
  rw[aW (by decide),aW (by simp),bm (by decide),d,e,bm ⟨by omega,by omega⟩];have f:(List.replicate (((x0.count c+1:Nat):Int).toNat) ([]:aa)).length=x0.count c+1:=by simp
  refine Eq.trans (ajp x0 c (x0.count c+1) b (by omega) _ (λs a i h bg=>?_) bC x0 _ 0 f (by omega) (by omega) (by grind[gg]) (by simp[gg])) (by simp);have g:W ((i:Int)+1)=(i:Int)+1:=dU (by omega) (by omega);simp only[g];rw[bm ⟨by omega,by omega⟩,bm ⟨by omega,by omega,by grind⟩];grind[ajn]
 grind[DG,aO]
theorem ajq(x:aa)(ys:bs)(hl:(ys.length:Int)<=1048576)(j:Unit->Option Bool):∀(m:Nat)(k:Int),0<=k->k<=(ys.length:Int)->(ys.length:Int)-k<m->0<m->
  fixF (Kq x ys j) m k=if(ys.drop k.toNat).contains x then some true else j ():=by
 intro m;induction m with
 |zero=>omega
 |succ m a=>
  intro k hk b hm _;simp only[fixF,Kq,a8,ou];by_cases ad:k<(ys.length:Int)
  ·simp only[ad,hk,cG,nx];rw[dU (by omega) (by omega),vE hk ad];grind
  ·simp only[ad,cm];grind[List.drop_eq_nil_of_le]
theorem Rs(x w:aa)(a:(w.length:Int)<=1048576)(hl:((rq 32 w).length:Int)<=1048576):Bt x w=some ((rq 32 w).contains x):=by unfold Bt;rw[XH w 32 a];simp only[av,a9];rw[ajq x _ hl _ bC 0 (by omega) (by omega) (by grind[gg]) (by simp[gg])];grind
theorem ajr(s p:aa):Lib.hasPrefix s p=decide (s.take p.length=p):=by unfold Lib.hasPrefix;rw[Bool.eq_iff_iff,C1,List.prefix_iff_eq_take];grind
theorem XI(l:aa)(a:Int)(b:0<=a)(c:a<(l.length:Int))(n:(l.length:Int)<=1048576)(ys:bs)(hl:(ys.length:Int)<=1048576)(d:∀y∈ys,(y.length:Int)<=100)(j:Unit->Option aa):
  ∀(m:Nat)(k:Int),0<=k->k<=(ys.length:Int)->(ys.length:Int)-k<m->0<m->
  fixF (HC l a ys j) m k=(match(ys.drop k.toNat).find? (λy=>Lib.hasPrefix (l.drop a.toNat) y) with|some y=>some y|none=>j ())/\
  fixF (GV l a ys j) m k=(match(ys.drop k.toNat).find? (λy=>Lib.hasPrefix (l.drop a.toNat) y) with|some y=>some y|none=>j ()):=by
 intro m;induction m with
 |zero=>omega
 |succ m e=>
  intro k hk o hm _;simp only[fixF,HC,GV,a8,ou,Pf,av];by_cases ad:k<(ys.length:Int)
  ·have f:=d (at' ys k) (sF (mN ⟨hk,ad⟩));simp only[ad,hk,cG,nx];have g:W (k+1)=k+1:=dU (by omega) (by omega);have h:W ((l.length:Int)-a)=(l.length:Int)-a:=dU (by omega) (by omega);have i:W (a+((at' ys k).length:Int))=a+((at' ys k).length:Int):=dU (by omega) (by omega);obtain⟨p,q⟩:=e (k+1) (by omega) (by omega) (by omega) (by omega);rw[g,h,i,vE hk ad,LQ b];simp only[xv,b,uN,nx,cG,true_and,show a<=(l.length:Int) by omega];rw[ajr];have r:b9 l a (a+((at' ys k).length:Int))=(l.drop a.toNat).take (at' ys k).length:=by unfold b9;congr 1;omega
   by_cases s:(l.drop a.toNat).take (at' ys k).length=at' ys k
   ·have t:((at' ys k).length:Int)<=(l.length:Int)-a:=by grind
    grind
   grind
  ·simp only[ad,cm];grind[List.drop_eq_nil_of_le]
theorem mB(b c:UInt8)(z:Int)(h:z=(c.toNat:Int)):((b.toNat:Int)=z)=(b=c):=by subst h;apply propext;grind[UInt8.toNat_inj]
theorem Rt(l:aa)(c:UInt8):Lib.indexByte l c<=l.length:=by
 induction l with
 |nil=>simp[Lib.indexByte]
 |cons b l a=>grind[Lib.indexByte,List.length_cons]
theorem ajs(c:UInt8):∀(l:aa),0<=Lib.indexByte l c->Lib.indexByte l c<l.length:=by
 intro l;induction l with
 |nil=>simp[Lib.indexByte]
 |cons b l a=>unfold Lib.indexByte;grind
theorem ajt(l:aa)(hl:(l.length:Int)<=1048576)(j:Int->Option Int):∀(m:Nat)(k:Int),0<=k->k<=(l.length:Int)->(l.length:Int)-k<m->0<m->
  fixF (HA l j) m k=j (if Lib.indexByte (l.drop k.toNat) 10<0 then(l.length:Int) else k+Lib.indexByte (l.drop k.toNat) 10):=by
 intro m;induction m with
 |zero=>omega
 |succ m a=>
  intro k hk b hm _;simp only[fixF,HA,a8,ou];by_cases ad:k<(l.length:Int)
  ·simp only[ad,hk,cG,nx,imp_true_iff,mB _ 10 10 rfl,bx];rw[dU (by omega) (by omega),vE hk ad,Lib.indexByte];grind
  ·simp only[ad,cm,bF,aS,eC,false_imp_iff,cG];rw[vZ (by omega)];have e:(if Lib.indexByte ([]:aa) 10<0 then(l.length:Int) else k+Lib.indexByte ([]:aa) 10)=k:=by rw[bm (by decide)];omega
   rw[e]
theorem XJ{l:aa}{k e:Int}(h0:0<=k)(h:k<e)(he:e<=(l.length:Int)):b9 l k e=at' l k::b9 l (k+1) e:=by
 unfold b9;rw[vE h0 (by omega)];have:e.toNat-k.toNat=(e.toNat- (k+1).toNat)+1:=by omega
 grind
theorem aju{l:aa}{e:Int}:b9 l e e=[]:=by simp[b9]
theorem ajv(l:aa)(hl:(l.length:Int)<=1048576)(e:Int)(he:e<=(l.length:Int))(j:Int->Option Int):∀(m:Nat)(k:Int),0<=k->k<=e->e-k<m->0<m->
  ∃k',k<=k'/\k'<=e/\fixF (D_ l true e j) m k=j k'/\b9 l k' e=(b9 l k e).dropWhile (· ==9):=by
 intro m;induction m with
 |zero=>omega
 |succ m a=>
  intro k hk d hm _;simp only[fixF,D_,a8,ou,aK];by_cases ad:k<e
  ·have b:k<(l.length:Int):=by omega
   simp only[ad,b,hk,cG,nx,imp_true_iff,mB _ 9 9 rfl,bx,aK];rw[dU (by omega) (by omega),XJ hk ad he];by_cases f:at' l k=9
   ·obtain⟨k',r1,c,g,h⟩:=a (k+1) (by omega) (by omega) (by omega) (by omega);refine⟨k',by omega,c,?_,?_⟩
    ·grind
    simp_all
   ·refine⟨k,by omega,by omega,?_,?_⟩
    ·grind
    simp_all[XJ]
  ·have:k=e:=by omega
   subst this;refine⟨k,by omega,by omega,?_,?_⟩
   ·simp
   simp[aju]
theorem ajw(l:aa)(e k:Int)(j:Int->Option Int):fixF (D_ l false e j) bC k=j k:=by grind[bC,gg,fixF,D_,a8]
theorem ajx(j:aa->Option aa):∀(m:Nat)(x:aa),(x.length:Int)<=1048576->x.length<m->fixF (Kn 9 j) m x=j (x.dropWhile (· ==9)):=by
 intro m;induction m with
 |zero=>omega
 |succ m c=>
  intro x i hm;simp only[fixF,Kn,a8,ou];cases x with
  |nil=>simp
  |cons b x=>
   have h0:at' (b::x) (0:Int)=b:=rfl;have d:b9 (b::x) 1 ((b::x).length:Int)=x:=by simp[b9]
   have a:(0:Int)<((b::x).length:Int):=by simp
   have e:(1:Int)<=((b::x).length:Int):=by omega
   have f:x.length<m:=by grind
   have g:=mB b 9 ((9:UInt8).toNat:Int) rfl;rw[h0,d];simp only[g,a,e,bx,aK,uN,nx,imp_true_iff,cG];by_cases h:b=9
   ·subst h;simp only[bx,cG,true_and,show(0:Int)<=1 from by decide];rw[c x (by grind) f];simp
   simp_all
theorem XK(x:aa)(b:(x.length:Int)<=1048576):Bo x [9]=some (x.dropWhile (· ==9)):=by
 unfold Bo;by_cases h:x=[]
 ·simp_all
 ·have c:G0 x (at' [9] 0)=some (x.dropWhile (· ==9)):=by unfold G0;have a:at' ([9]:aa) (0:Int)=9:=rfl;grind[a9,ajx,bC,gg]
  have a:((at' ([9]:aa) (0:Int)).toNat:Int)<128:=by decide
  have d:(decide (x=[]))=false:=by grind
  simp_all[aS,a8,aO]
theorem ajy(l d:aa)(t:Bool)(hl:(l.length:Int)<=1048576):∀(m:Nat)(k:Int),0<=k->k<=(l.length:Int)->(l.length:Int)-k<m->0<m->
  ∃r,fixF (wJ l d t λ_=>some (-1)) m k=some r/\fixF (q9 l d t λ_=>some (-1)) m k=some r:=by
 intro m;induction m with
 |zero=>omega
 |succ m G=>
  intro k hk g hm _;by_cases ad:k<(l.length:Int)
  ·
   have u:=Rt (l.drop k.toNat) 10;have H:=Jg (l.drop k.toNat) 10;have n:=ajs 10 (l.drop k.toNat);simp only[F6] at u n;have h:b9 l k (l.length:Int)=l.drop k.toNat:=LQ hk;have c:∀(e a:Int),k<=e->e<=(l.length:Int)->k<a->a<=(l.length:Int)->
     (∀j,fixF (HA l j) bC k=j e)->(if e<(l.length:Int) then W (e+1) else e)=a->
     (∃r,fixF (wJ l d t λ_=>some (-1)) (m+1) k=some r/\
      (bif decide ((if t then(b9 l k e).dropWhile (· ==9) else b9 l k e)=d) then some a else fixF (q9 l d t λ_=>some (-1)) m a)=some r):=by
    intro e a i o I J v w;simp only[fixF,wJ,a9,ou,ad,cG];rw[v];have fin:∀k',k<=k'->k'<=e->b9 l k' e=(if t then(b9 l k e).dropWhile (· ==9) else b9 l k e)->
      ∃r,(if e<(l.length:Int) then a8 (0<=k'/\k'<=e/\e<=(l.length:Int)) (if b9 l k' e=d then some (W (e+1)) else fixF (wJ l d t λ_=>some (-1)) m (W (e+1)))
       else a8 (0<=k'/\k'<=e/\e<=(l.length:Int)) (if b9 l k' e=d then some e else fixF (wJ l d t λ_=>some (-1)) m e))=some r/\
      (if((if t then(b9 l k e).dropWhile (· ==9) else b9 l k e)=d) then some a else fixF (q9 l d t λ_=>some (-1)) m a)=some r:=by
     intro k' x q y;have bq:0<=k'/\k'<=e/\e<=(l.length:Int):=⟨by omega,q,o⟩;simp only[a8,bq,cG,nx];grind
    cases t with
    |true=>
     obtain⟨k',x,q,y,K⟩:=ajv l hl e o (λb=>if e<(l.length:Int) then a8 (0<=b/\b<=e/\e<=(l.length:Int)) (if b9 l b e=d then some (W (e+1)) else fixF (wJ l d true λ_=>some (-1)) m (W (e+1)))
      else a8 (0<=b/\b<=e/\e<=(l.length:Int)) (if b9 l b e=d then some e else fixF (wJ l d true λ_=>some (-1)) m e)) bC k hk i (by grind[gg]) (by simp[gg])
     grind
    |false=>rw[ajw];grind
   have bg:∀(line:aa)(a:Int),(line.length:Int)<=1048576->
     (bif t then av (Bo line [9]) λ(z:aa)=>(if z=d then some a else fixF (q9 l d t λ_=>some (-1)) m a) else(if line=d then some a else fixF (q9 l d t λ_=>some (-1)) m a))=
     (bif decide ((if t then line.dropWhile (· ==9) else line)=d) then some a else fixF (q9 l d t λ_=>some (-1)) m a):=by
    intro line a A;cases t with
    |true=>simp_all[aK,aO,XK]
    |false=>simp
   have B:=λj=>ajt l hl j bC k hk g (by grind[gg]) (by simp[gg]);generalize aC:Lib.indexByte (l.drop k.toNat) 10=p at*;by_cases L:p<0
   ·obtain⟨r,r1,s⟩:=c (l.length:Int) (l.length:Int) g (uN _) ad (uN _) (λj=>by grind) (by simp);refine⟨r,r1,?_⟩;simp only[fixF,q9,a9,ou,ad,cG,a8,DJ,av,h,aC,hk,g,uN,nx];rw[aW (by omega)];rw[h] at s;have:=bg (l.drop k.toNat) (l.length:Int) (by grind);grind[av]
   ·have M:=n (by omega);have C:W (k+p+1)=k+p+1:=dU (by omega) (by omega);have D:W (k+p)=k+p:=dU (by omega) (by omega);obtain⟨r,r1,s⟩:=c (k+p) (k+p+1) (by omega) (by omega) (by omega) (by omega) (λj=>by grind) (by omega);refine⟨r,r1,?_⟩;simp only[fixF,q9,a9,ou,ad,cG,a8,DJ,av,h,aC,hk,g,uN,nx];have e5:0<=p:=by omega
    have E:(0:Int)<=0/\0<=p/\p<=((l.drop k.toNat).length:Int):=⟨by omega,by omega,by grind⟩;rw[D,C];simp only[e5,cG,true_and,show p<=((l.drop k.toNat).length:Int) from E.2.2];have F:b9 (l.drop k.toNat) 0 p=b9 l k (k+p):=by unfold b9;simp only[F4,v3,Nat.sub_zero];congr 1;omega
    rw[F];have f:((b9 l k (k+p)).length:Int)<=1048576:=by grind[b9]
    have:=bg (b9 l k (k+p)) (k+p+1) f;grind[av]
  ·simp only[fixF,wJ,q9,ou,ad,cm];simp
def dl:aa->UInt8->Option aa
 |[],q=>if q=0 then some [] else none
 |b::r,q=>
  if q=39 then(if b=39 then dl r 0 else(dl r 39).map (b::·))
  else if b=92 then
   match r with
   |[]=>none
   |n::r'=>if n=10 then dl r' q else if q=0\/n=36\/n=34\/n=92\/n=96 then(dl r' q).map (n::·) else(dl (n::r') q).map (b::·)
  else if b=36\/b=96 then none
  else if b=34 then(if q=0 then dl r 34 else dl r 0)
  else if b=39/\q=0 then dl r 39
  else(dl r q).map (b::·)
termination_by l _=>l.length
decreasing_by all_goals grind
def nR(j:aa->Option (aa×Bool))(o:aa)(m:Option aa):Option (aa×Bool):=match m with
 |some s=>j (o++s)
 |none=>some ([],false)
theorem oO(j:aa->Option (aa×Bool))(o:aa)(b:UInt8)(m:Option aa):nR j o (m.map (b::·))=nR j (o++[b]) m:=by
 cases m with
 |none=>rfl
 |some s=>simp[nR]
theorem td(j:aa->Option (aa×Bool))(o:aa):nR j o none=some ([],false):=rfl
theorem ajA(l:aa)(hl:(l.length:Int)<=200000000)(j:aa×UInt8->Option (aa×Bool))(B:∀o q,q≠0->j (o,q)=some ([],false)):
  ∀(m:Nat)(o:aa)(q:UInt8)(k:Int),0<=k->k<=(l.length:Int)->(o.length:Int)<=k->(l.length:Int)-k<m->0<m->(q=0\/q=34\/q=39)->
  fixF (BV l j) m (o,q,k)=nR (λo=>j (o,0)) o (dl (l.drop k.toNat) q):=by
 intro m;induction m with
 |zero=>omega
 |succ m u=>
  intro o q k hk H I hm _ e;by_cases ad:k<(l.length:Int)
  ·have p:∀f a,(f.length:Int)<=k+1->(a=0\/a=34\/a=39)->fixF (BV l j) m (f,a,k+1)=nR (λo=>j (o,0)) f (dl (l.drop (k+1).toNat) a):=λf a i t=>u f a (k+1) (by omega) (by omega) i (by omega) (by omega) t
   have C:k+1<(l.length:Int)->∀f a,(f.length:Int)<=k+1->(a=0\/a=34\/a=39)->fixF (BV l j) m (f,a,k+2)=nR (λo=>j (o,0)) f (dl (l.drop (k+2).toNat) a):=λh0 f a i t=>u f a (k+2) (by omega) (by omega) (by omega) (by omega) (by omega) t
   have D:W (k+1)=k+1:=dU (by omega) (by omega);have E:W (k+1+1)=k+2:=by grind[dU]
   have bq:∀b:UInt8,o.length+([b]:aa).length<=536870912:=by grind
   have g:∀b:UInt8,((o++[b]).length:Int)<=k+1:=by grind
   simp only[fixF,BV,a8,a9,ou,D,E,ad,hk,cG,nx,bq,mB _ 39 39 rfl,mB _ 92 92 rfl,mB _ 10 10 rfl,mB _ 36 36 rfl,mB _ 34 34 rfl,mB _ 96 96 rfl,mB _ 0 0 rfl];rw[vE hk ad];generalize at' l k=b at*;by_cases i:k+1=(l.length:Int)
   ·have eo:l.drop (k+1).toNat=[]:=vZ (by omega);rw[eo] at p⊢;simp only[i,bx,gP,aS];rw[dl];have c:=λ(b:UInt8)(a:UInt8)(h:a=0\/a=34\/a=39)=>p (o++[b]) a (g b) h;have d:=λ(a:UInt8)(h:a=0\/a=34\/a=39)=>p o a (by omega) h;rw[i] at c d;by_cases qQ:b=39
    ·subst qQ;rcases e with rfl|rfl|rfl<;>simp[c,d,oO]
    by_cases mC:b=92
    ·subst mC;rcases e with rfl|rfl|rfl<;>simp[c,d,oO,td]
    by_cases qf:b=36
    ·subst qf;rcases e with rfl|rfl|rfl<;>simp[c,d,oO,td]
    by_cases nS:b=96
    ·subst nS;rcases e with rfl|rfl|rfl<;>simp[c,d,oO,td]
    by_cases nT:b=34
    ·subst nT;rcases e with rfl|rfl|rfl<;>simp[c,d,oO,td]
    rcases e with rfl|rfl|rfl<;>simp[c,d,oO,qQ,mC,qf,nS,nT]
   ·have t:k+1<(l.length:Int):=by omega
    have eo:l.drop (k+1).toNat=at' l (k+1)::l.drop (k+2).toNat:=by grind[vE]
    have v:=C t;rw[eo] at p⊢;generalize at' l (k+1)=n at*;have F:¬(k+1=(l.length:Int)):=i;have G:0<=k+1/\k+1<(l.length:Int):=by omega
    simp only[F,G,bF,e3,aK,cG,nx];rw[dl];have c:=λ(b:UInt8)(a:UInt8)(h:a=0\/a=34\/a=39)=>p (o++[b]) a (g b) h;have d:=λ(a:UInt8)(h:a=0\/a=34\/a=39)=>p o a (by omega) h;have r:=λ(b:UInt8)(a:UInt8)(h:a=0\/a=34\/a=39)=>v (o++[b]) a (g b) h;have s:=λ(a:UInt8)(h:a=0\/a=34\/a=39)=>v o a (by omega) h;by_cases qQ:b=39
    ·subst qQ;rcases e with rfl|rfl|rfl<;>simp[c,d,oO]
    by_cases mC:b=92
    ·subst mC;by_cases w:n=10
     ·subst w;rcases e with rfl|rfl|rfl<;>simp[c,d,r,s,oO]
     by_cases x:n=36
     ·subst x;rcases e with rfl|rfl|rfl<;>simp[c,d,r,s,oO]
     by_cases y:n=34
     ·subst y;rcases e with rfl|rfl|rfl<;>simp[c,d,r,s,oO]
     by_cases z:n=92
     ·subst z;rcases e with rfl|rfl|rfl<;>simp[c,d,r,s,oO]
     by_cases A:n=96
     ·subst A;rcases e with rfl|rfl|rfl<;>simp[c,d,r,s,oO]
     rcases e with rfl|rfl|rfl<;>simp[c,d,r,s,oO,w,x,y,z,A]
    by_cases qf:b=36
    ·subst qf;rcases e with rfl|rfl|rfl<;>simp[c,d,oO,td]
    by_cases nS:b=96
    ·subst nS;rcases e with rfl|rfl|rfl<;>simp[c,d,oO,td]
    by_cases nT:b=34
    ·subst nT;rcases e with rfl|rfl|rfl<;>simp[c,d,oO,td]
    rcases e with rfl|rfl|rfl<;>simp[c,d,oO,qQ,mC,qf,nS,nT]
  ·simp only[fixF,BV,a8,a9,ou,ad,cm];rw[vZ (by omega)];simp only[dl];by_cases i:q=0
   ·grind[nR]
   ·rw[B _ _ i,aW i];rfl
theorem ajB(l:aa):dl l 39=if Lib.indexByte l 39<0 then none else(dl (l.drop (Lib.indexByte l 39+1).toNat) 0).map ((l.take (Lib.indexByte l 39).toNat)++·):=by
 induction l with
 |nil=>simp[dl,Lib.indexByte]
 |cons b l a=>
  rw[dl.eq_def,Lib.indexByte];by_cases h:b=39
  ·simp_all
  ·have c:(b==39)=false:=by grind
   have g:=Jg l 39;simp only[cG,h,cm,c,eC];rw[a];generalize Lib.indexByte l 39=p at*;by_cases i:p= -1
   ·grind
   ·have d:(p== -1)=false:=by grind
    simp only[d,eC,cm];rw[aW (by omega),aW (by omega)];have e:(p+1+1).toNat=(p+1).toNat+1:=by omega
    have f:(p+1).toNat=p.toNat+1:=by omega
    rw[e,f,F5,Nr,Option.map_map];rfl
theorem ajC(l:aa)(hl:(l.length:Int)<=1048576)(j:Unit->Option (aa×Int))(E:j ()=some ([], -1)):
  ∀(m:Nat)(o:aa)(k:Int),0<=k->k<=(l.length:Int)->(o.length:Int)<=k->(l.length:Int)-k<m->0<m->
  (fixF (r3 l j) m (o,k)=some ([], -1)/\dl (l.drop k.toNat) 34=none)\/
  ∃(s:aa)(k':Int),fixF (r3 l j) m (o,k)=some (o++s,k')/\k<k'/\k'<=(l.length:Int)/\((o++s).length:Int)<=k'/\dl (l.drop k.toNat) 34=(dl (l.drop k'.toNat) 0).map (s++·):=by
 intro m;induction m with
 |zero=>omega
 |succ m w=>
  intro o k hk F G hm _;by_cases ad:k<(l.length:Int)
  ·have x:W (k+1)=k+1:=dU (by omega) (by omega);have y:W (k+1+1)=k+2:=by grind[dU]
   have bq:∀b:UInt8,o.length+([b]:aa).length<=536870912:=by grind
   have e:∀b c:UInt8,o.length+([b,c]:aa).length<=536870912:=by grind
   simp only[fixF,r3,a8,a9,ou,x,y,ad,hk,cG,nx,bq,e,mB _ 39 39 rfl,mB _ 92 92 rfl,mB _ 10 10 rfl,mB _ 36 36 rfl,mB _ 34 34 rfl,mB _ 96 96 rfl];rw[vE hk ad];have f:∀(t:aa),(t.length:Int)<=1->dl (at' l k::l.drop (k+1).toNat) 34=(dl (l.drop (k+1).toNat) 34).map (t++·)->
     (fixF (r3 l j) m (o++t,k+1)=some ([], -1)/\dl (at' l k::l.drop (k+1).toNat) 34=none)\/
     ∃(s:aa)(k':Int),fixF (r3 l j) m (o++t,k+1)=some (o++s,k')/\k<k'/\k'<=(l.length:Int)/\((o++s).length:Int)<=k'/\dl (at' l k::l.drop (k+1).toNat) 34=(dl (l.drop k'.toNat) 0).map (s++·):=by
    intro t z he;rcases w (o++t) (k+1) (by omega) (by omega) (by grind) (by omega) (by omega) with⟨r1,g⟩|⟨s,k',r1,g,h,A,i⟩
    ·grind
    ·refine .inr ⟨t++s,k',by grind,by omega,h,by grind,?_⟩;rw[he,i,Option.map_map];congr 1;grind
   have a:∀(t:aa),k+1<(l.length:Int)->(t.length:Int)<=2->dl (at' l k::l.drop (k+1).toNat) 34=(dl (l.drop (k+2).toNat) 34).map (t++·)->
     (fixF (r3 l j) m (o++t,k+2)=some ([], -1)/\dl (at' l k::l.drop (k+1).toNat) 34=none)\/
     ∃(s:aa)(k':Int),fixF (r3 l j) m (o++t,k+2)=some (o++s,k')/\k<k'/\k'<=(l.length:Int)/\((o++s).length:Int)<=k'/\dl (at' l k::l.drop (k+1).toNat) 34=(dl (l.drop k'.toNat) 0).map (s++·):=by
    intro t h0 z he;rcases w (o++t) (k+2) (by omega) (by omega) (by grind) (by omega) (by omega) with⟨r1,g⟩|⟨s,k',r1,g,h,A,i⟩
    ·grind
    ·refine .inr ⟨t++s,k',by grind,by omega,h,by grind,?_⟩;rw[he,i,Option.map_map];congr 1;grind
   by_cases B:k+1=(l.length:Int)
   ·have eo:l.drop (k+1).toNat=[]:=vZ (by omega);rw[eo] at f⊢;generalize at' l k=b at*;by_cases nT:b=34
    ·subst nT;grind[dl]
    by_cases mC:b=92
    ·grind[dl]
    by_cases qf:b=36
    ·grind[dl]
    by_cases nS:b=96
    ·grind[dl]
    grind[dl]
   ·have d:k+1<(l.length:Int):=by omega
    have eo:l.drop (k+1).toNat=at' l (k+1)::l.drop (k+2).toNat:=by grind[vE]
    rw[eo] at f a⊢;generalize at' l (k+1)=n at*;generalize at' l k=b at*;have C:¬(k+1=(l.length:Int)):=B;have D:0<=k+1/\k+1<(l.length:Int):=by omega
    simp only[C,D,cm,cG,nx];by_cases nT:b=34
    ·subst nT;refine .inr ⟨[],k+1,by simp,by omega,by omega,by grind,?_⟩;simp_all[dl]
    by_cases mC:b=92
    ·subst mC;by_cases p:n=10
     ·subst p;grind[dl]
     by_cases q:n=36
     ·subst q;simpa using a [36] d (by simp) (by simp[dl])
     by_cases r:n=34
     ·subst r;simpa using a [34] d (by simp) (by simp[dl])
     by_cases u:n=92
     ·subst u;simpa using a [92] d (by simp) (by simp[dl])
     by_cases v:n=96
     ·subst v;simpa using a [96] d (by simp) (by simp[dl])
     have:=a [92,n] d (by simp) (by rw[dl];simp[p,q,r,u,v];rw[dl.eq_def];simp[p,q,r,u,v];rfl);grind
    by_cases qf:b=36
    ·grind[dl]
    by_cases nS:b=96
    ·grind[dl]
    have:=f [b] (by simp) (by simp_all[dl]);grind
  ·simp only[fixF,r3,a8,a9,ou,ad,cm];grind[List.drop_eq_nil_of_le,dl]
theorem ajE(l:aa)(hl:(l.length:Int)<=1048576)(a:Int)(h0:0<=a)(ad:a<=(l.length:Int)):
  vh l a=some (if Lib.indexByte (l.drop a.toNat) 39<0 then-1 else a+Lib.indexByte (l.drop a.toNat) 39+1):=by
 have b:=Rt (l.drop a.toNat) 39;have c:=Jg (l.drop a.toNat) 39;simp only[F6] at b;unfold vh wy DJ;have e:max (0:Int) (min a (l.length:Int))=a:=by omega
 simp only[av,a8,e];rw[bm ⟨h0,ad,uN _⟩,LQ h0];generalize Lib.indexByte (l.drop a.toNat) 39=p at*;simp only[ou];grind[dU]
theorem XN(j:aa->Option (aa×Bool))(o s:aa)(m:Option aa):nR j o (m.map (s++·))=nR j (o++s) m:=by
 cases m with
 |none=>rfl
 |some t=>simp[nR]
theorem ajF(l:aa)(hl:(l.length:Int)<=1048576)(j:aa->Option (aa×Bool)):
  ∀(m:Nat)(o:aa)(k:Int),0<=k->k<=(l.length:Int)->(o.length:Int)<=k->(l.length:Int)-k<m->0<m->
  fixF (BK l j) m (o,k)=nR j o (dl (l.drop k.toNat) 0):=by
 intro m;induction m with
 |zero=>omega
 |succ m e=>
  intro o k hk A B hm _;by_cases ad:k<(l.length:Int)
  ·have g:W (k+1)=k+1:=dU (by omega) (by omega);have h:W (k+2)=k+2:=dU (by omega) (by omega)
   have bq:∀b:UInt8,o.length+([b]:aa).length<=536870912:=by grind
   have i:=ajE l hl (k+1) (by omega) (by omega);simp only[fixF,BK,a8,a9,ou,g,h,ad,hk,cG,nx,bq,mB _ 39 39 rfl,mB _ 92 92 rfl,mB _ 10 10 rfl,mB _ 36 36 rfl,mB _ 34 34 rfl,mB _ 96 96 rfl];rw[aO i,vE hk ad]
   have f:∀a,(a.length:Int)<=k+1->fixF (BK l j) m (a,k+1)=nR j a (dl (l.drop (k+1).toNat) 0):=λa c=>e a (k+1) (by omega) (by omega) c (by omega) (by omega)
   have d:∀b:UInt8,((o++[b]).length:Int)<=k+1:=by grind
   by_cases qQ:at' l k=39
   ·rw[qQ];simp only[show¬((39:UInt8)=92) by decide,cm,cG];have aH:dl (39::l.drop (k+1).toNat) 0=dl (l.drop (k+1).toNat) 39:=by grind[dl.eq_def]
    rw[aH,ajB];have q:=Rt (l.drop (k+1).toNat) 39;have C:=Jg (l.drop (k+1).toNat) 39;simp only[F6] at q;generalize aC:Lib.indexByte (l.drop (k+1).toNat) 39=p at*;have r:0<=p->k+1+p<(l.length:Int):=by
     intro h0
     have:∀(l:aa),0<=Lib.indexByte l 39->Lib.indexByte l 39<l.length:=by
      intro l;induction l with
      |nil=>decide
      |cons b l e=>unfold Lib.indexByte;grind
     grind
    by_cases ax:p<0
    ·simp_all[cG,td]
    ·simp only[ax,cm];have:=r (by omega);rw[aW (by omega),dU (x:=k+1+p+1-1) (by omega) (by omega)];have t:k+1+p+1-1=k+1+p:=by omega
     rw[t,bm ⟨by omega,by omega,by omega⟩];have u:b9 l (k+1) (k+1+p)=(l.drop (k+1).toNat).take p.toNat:=by grind[b9]
     have D:((b9 l (k+1) (k+1+p)).length:Int)<=p:=by grind
     rw[bm (by omega),u,XN,List.drop_drop];grind
   ·by_cases nT:at' l k=34
    ·rw[nT];simp only[show¬((34:UInt8)=92) by decide,show¬((34:UInt8)=39) by decide,cm,cG];have aH:dl (34::l.drop (k+1).toNat) 0=dl (l.drop (k+1).toNat) 34:=by grind[dl.eq_def]
     rw[aH];have v:BJ l (k+1) o=fixF (r3 l λ_=>some ([], -1)) bC (o,k+1):=rfl;rcases ajC l hl (λ_=>some ([], -1)) rfl bC o (k+1) (by omega) (by omega) (by omega) (by grind[gg]) (by simp[gg]) with⟨r1,w⟩|⟨s,k',r1,w,E,F,y⟩
     ·grind[aO,td]
     ·rw[aO (v.trans r1),y,XN];grind
    ·simp only[qQ,nT,cm];by_cases c:k+1=(l.length:Int)
     ·have eo:l.drop (k+1).toNat=[]:=vZ (by omega);rw[eo] at f⊢;generalize at' l k=b at*;by_cases mC:b=92
      ·grind[dl,td]
      by_cases qf:b=36
      ·grind[dl,td]
      by_cases nS:b=96
      ·grind[dl,td]
      simp only[mC,qf,nS,cm,bF,aS,eC];rw[f _ (d b),show [b]=b::([]:aa) from rfl];grind[dl.eq_def,oO]
     ·have G:k+1<(l.length:Int):=by omega
      have eo:l.drop (k+1).toNat=at' l (k+1)::l.drop (k+2).toNat:=by grind[vE]
      have H:∀a,(a.length:Int)<=k+2->fixF (BK l j) m (a,k+2)=nR j a (dl (l.drop (k+2).toNat) 0):=λa c=>e a (k+2) (by omega) (by omega) c (by omega) (by omega)
      have z:0<=k+1/\k+1<(l.length:Int):=by omega
      rw[eo] at f⊢;generalize at' l (k+1)=n at*;generalize at' l k=b at*;simp only[c,z,cm,cG,nx];grind[dl,dl.eq_def,oO,td]
  ·simp only[fixF,BK,a8,a9,ou,ad,cm];grind[List.drop_eq_nil_of_le,dl,nR]
theorem XO:∀(n:Nat)(l:aa),l.length<=n->∀(q:UInt8)(s:aa),dl l q=some s->s.length<=l.length:=by
 intro n;induction n with
 |zero=>simp[nw,dl,eP]
 |succ n g=>
  intro l ax q s h
  match l with
  |[]=>grind
  |b::r=>
   simp only[mi] at ax⊢
   have a:∀(d:UInt8),dl r d=some s->s.length<=r.length+1:=λd f=>by grind
   have e:∀(d c:UInt8),(dl r d).map (c::·)=some s->s.length<=r.length+1:=by
    intro d c f;cases aH:dl r d with
    |none=>grind
    |some t=>grind
   rw[dl.eq_def] at h;simp only at h;split at h
   ·grind
   ·split at h
    ·match r,a,e,h with
     |[],_,_,h=>cases h
     |x::r',a,e,h=>
      simp only at h;simp only[mi] at ax a e⊢;split at h
      ·grind
      ·split at h
       ·cases aH:dl r' q with
        |none=>grind
        |some t=>grind
       grind
    grind
theorem ajG(l:aa)(hl:(l.length:Int)<=200000000):∀(m:Nat)(k:Int),0<=k->k<=(l.length:Int)->(l.length:Int)-k<m->0<m->
  fixF (K6 l λ_=>some (l,true)) m k=if 0<=Lib.indexByte (l.drop k.toNat) 10 then some ([],false) else some (l,true):=by
 intro m;induction m with
 |zero=>omega
 |succ m a=>
  intro k hk b hm _;simp only[fixF,K6,a8,ou];by_cases ad:k<(l.length:Int)
  ·simp only[ad,hk,cG,nx,mB _ 10 10 rfl];rw[dU (by omega) (by omega),vE hk ad,Lib.indexByte];grind
  ·simp only[ad,cm];simp_all[vZ,Lib.indexByte]
theorem ajH(l:aa)(hl:(l.length:Int)<=200000000):Ek l=nR (λs=>if 0<=Lib.indexByte s 10 then some ([],false) else some (s,true)) [] (dl l 0):=by
 unfold Ek;simp only[a9];rw[ajA l hl _ (by intro o q a;simp only[mB _ 0 0 rfl,a,bF,e3,aK]) bC [] 0 0 (by omega) (by omega) (by simp) (by grind[gg]) (by simp[gg]) (.inl rfl)];simp only[F4,v3];cases aH:dl l 0 with
 |none=>rfl
 |some s=>
  have b:=XO _ l (cX _) 0 s aH;simp only[nR,tD];have:(!decide (((0:UInt8).toNat:Int)=0))=false:=by decide
  simp only[this,aS];grind[ajG,bC,gg]
theorem ajI(l:aa)(hl:(l.length:Int)<=1048576):wI l=nR (λs=>if 0<=Lib.indexByte s 10 then some ([],false) else some (s,true)) [] (dl l 0):=by
 unfold wI;simp only[a9];rw[ajF l hl _ bC [] 0 (by omega) (by omega) (by simp) (by grind[gg]) (by simp[gg])];simp only[F4,v3];cases aH:dl l 0 with
 |none=>rfl
 |some s=>simp[nR,tD,PR,av,ou]
def ay(S r:aa):Int:=(S.length:Int)-r.length
theorem eI{r S:aa}(h:r<:+S):r.length<=S.length:=h.length_le
theorem dY{b:UInt8}{t S:aa}(h:b::t<:+S):t<:+S:=(eb b t).trans h
theorem jw{b:UInt8}{t S:aa}(h:b::t<:+S):at' S (ay S (b::t))=b:=by obtain⟨u,rfl⟩:=h;simp[ay,at']
theorem iK{b:UInt8}{t S:aa}(dd:S.length<=1000000)(h:b::t<:+S):W (ay S (b::t)+1)=ay S t:=by grind[eI,List.length_cons,dU,ay]
theorem ko{w t S:aa}(dd:S.length<=1000000)(h:w++t<:+S):W (ay S (w++t)+w.length)=ay S t:=by grind[eI,List.length_append,dU,ay]
theorem hR{b:UInt8}{t S:aa}(h:b::t<:+S):0<=ay S (b::t)/\ay S (b::t)<S.length:=by grind[eI,List.length_cons,ay]
theorem m4{b:UInt8}{t S:aa}(h:b::t<:+S):ay S (b::t)<S.length:=(hR h).2
theorem ig(S:aa):ay S []=S.length:=by rfl
theorem Ii(S:aa):ay S S=0:=by simp[ay]
theorem oQ{r S:aa}:ay S r<=S.length:=by grind[ay]
theorem yz{r S:aa}:ay S r=S.length↔r=[]:=by
 unfold ay;constructor
 ·grind[List.length_eq_zero_iff]
 grind
theorem qR{b c:UInt8}:((b.toNat:Int)=(c.toNat:Int))↔b=c:=by
 constructor
 ·grind[UInt8.toNat_inj]
 grind
theorem Ij(b:UInt8):((b.toNat:Int)=9)↔b=9:=qR (c:=9)
theorem pD(b:UInt8):((b.toNat:Int)=10)↔b=10:=qR (c:=10)
theorem Ry(b:UInt8):((b.toNat:Int)=32)↔b=32:=qR (c:=32)
theorem nT(b:UInt8):((b.toNat:Int)=34)↔b=34:=qR (c:=34)
theorem XP(b:UInt8):((b.toNat:Int)=35)↔b=35:=qR (c:=35)
theorem qf(b:UInt8):((b.toNat:Int)=36)↔b=36:=qR (c:=36)
theorem qQ(b:UInt8):((b.toNat:Int)=39)↔b=39:=qR (c:=39)
theorem Cp(b:UInt8):((b.toNat:Int)=40)↔b=40:=qR (c:=40)
theorem XQ(b:UInt8):((b.toNat:Int)=41)↔b=41:=qR (c:=41)
theorem mC(b:UInt8):((b.toNat:Int)=92)↔b=92:=qR (c:=92)
theorem nS(b:UInt8):((b.toNat:Int)=96)↔b=96:=qR (c:=96)
theorem Cq(b:UInt8):((b.toNat:Int)=123)↔b=123:=qR (c:=123)
theorem b8{α:Type}{c:Prop}[Decidable c]{k:Option α}(h:c):a8 c k=k:=bm h
structure cH where
 S:aa
 ne:Int
 op:bs
 j1:Int
def cH.st(e:cH)(r:aa)(pd:aq):an:=(e.S,ay e.S r,pd,e.ne,e.op,e.j1)
structure dP(e:cH)(r:aa)(pd:aq):Prop where
 bY:e.S.length<=1000000
 sfx:r<:+e.S
 jJ:pd.length+r.length<=e.S.length
 ops:e.op.length+r.length<=e.S.length+1
theorem dP.mono{e:cH}{r r':aa}{pd:aq}(h:dP e r pd)(ad:r'<:+r):dP e r' pd:=
 ⟨h.bY,ad.trans h.sfx,by have:=h.jJ;grind,by have:=h.ops;grind⟩
def aT{α β:Type}(e:cH)(r0:aa)(m:dt α)(cv:α->aa->aq->β)(y:Option (bo an β)):Prop:=match m with
 | .ok a r pd=>r<:+r0/\dP e r pd/\y=some (.inr (cv a r pd))
 | .more op _ _=>∃st:an,y=some (.inl (1,e.S.length,st))/\st.2.2.2.2.1=e.op++op
 | .bad r=>r<:+e.S/\∃st:an,y=some (.inl (2,ay e.S r,st))
 | .deep _=>True
theorem aT.mono{α β:Type}{e:cH}{r0 r1:aa}{m:dt α}{cv:α->aa->aq->β}{y:Option (bo an β)}(h:aT e r0 m cv y)(ad:r0<:+r1):aT e r1 m cv y:=by
 cases m with
 |ok a r pd=>exact⟨h.1.trans ad,h.2⟩
 |_=>exact h
structure c2{α β:Type}(C:dt α->dt β):Prop where
 more:∀op nd ds,C (.more op nd ds)= .more op nd ds
 bad:∀r,C (.bad r)= .bad r
 deep:∀r,C (.deep r)= .deep r
theorem c2.id{α:Type}:c2 (λx:dt α=>x):=⟨λ_ _ _=>rfl,λ_=>rfl,λ_=>rfl⟩
theorem c2.k{σ α:Type}{f:σ->ak (σ⊕α)}{r:aa}:c2 (cN f r):=⟨λ_ _ _=>rfl,λ_=>rfl,λ_=>rfl⟩
theorem aT.iy{α d g β i:Type}{C:dt d->dt g}(c:c2 C){e:cH}{r0 r:aa}{pd:aq}{m:ak α}{k:α->ak d}{cv:α->aa->aq->β}{cv':g->aa->aq->i}{y:Option (bo an β)}{k':β->Option (bo an i)}{f:an->an}
  (h:aT e r0 (m r pd) cv y) (hf:∀st,(f st).2.2.2.2.1=st.2.2.2.2.1) (hk:∀a r1 b,m r pd= .ok a r1 b->r1<:+r0->dP e r1 b->aT e r0 (C (k a r1 b)) cv' (k' (cv a r1 b))):
  aT e r0 (C (Go.Eng.ae m k r pd)) cv' (ba y f k'):=by
 unfold Go.Eng.ae;cases hm:m r pd with
 |ok a r1 b=>rw[hm] at h;obtain⟨ad,j,rfl⟩:=h;exact hk a r1 b hm ad j
 |more op nd ds=>rw[hm] at h;obtain⟨st,rfl,j⟩:=h;rw[c.more];exact⟨f st,rfl,by grind⟩
 |bad q=>rw[hm] at h;obtain⟨ad,st,rfl⟩:=h;rw[c.bad];exact⟨ad,f st,rfl⟩
 |deep q=>rw[c.deep];trivial
theorem aT.XR{α a β:Type}{C:dt α->dt a}(b:c2 C){e:cH}{r0 r:aa}{pd:aq}{cv:a->aa->aq->β}{x:aa}{st:an}{f:an->an}{k:Empty->Option (bo an β)}(ad:st.1=e.S)(c:(f st).2.2.2.2.1=e.op):aT e r0 (C ((b6 x:ak α) r pd)) cv (ba (q6 st) f k):=by unfold b6;rw[b.more];exact⟨f st,by grind[q6,ba],by grind⟩
theorem aT.inl{σ α β:Type}{e:cH}{f:σ->ak (σ⊕α)}{r0 r r':aa}{a:aq}{s':σ}{cv:α->aa->aq->β}{y:Option (bo an β)}(hl:r'.length<r.length)(h:aT e r0 (ca f s' r' a) cv y):aT e r0 (cN f r (aU (.inl s') r' a)) cv y:=by simp_all[aU,cN,bm]
theorem aT.inr{σ α β:Type}{e:cH}{f:σ->ak (σ⊕α)}{r0 r r':aa}{b:aq}{a:α}{cv:α->aa->aq->β}{y:Option (bo an β)}(ad:r'<:+r0)(c:dP e r' b)(h:y=some (.inr (cv a r' b))):aT e r0 (cN f r (aU (.inr a) r' b)) cv y:=⟨ad,c,h⟩
theorem aT.rep{σ α τ β:Type}{e:cH}{f:σ->ak (σ⊕α)}{cv:α->aa->aq->β}{en:σ->aa->aq->τ}{body:(τ->Option (bo an β))->τ->Option (bo an β)}
  (b:∀(k:τ->Option (bo an β))(s:σ)(r:aa)(pd:aq),dP e r pd->(∀s' r' a,r'<:+r->dP e r' a->r'.length<r.length->aT e r (ca f s' r' a) cv (k (en s' r' a)))->aT e r (cN f r (f s r pd)) cv (body k (en s r pd))):
  ∀(n:Nat)(s:σ)(r:aa)(pd:aq),r.length<n->dP e r pd->aT e r (ca f s r pd) cv (fixF body n (en s r pd)):=by
 intro n;induction n with
 |zero=>omega
 |succ n c=>grind[cF,aT,fixF,aT.mono]
theorem lk{n:Nat}(h:n<=1000000):n<bC:=by grind[gg]
theorem eZ{σ α:Type}{f:(σ->Option α)->σ->Option α}{n:Nat}{s:σ}:fixF f (n+1) s=f (fixF f n) s:=rfl
theorem ajJ{e:cH}(x0:an)(c:x0.1=e.S){j:Int->Option (bo an an)}(dd:e.S.length<=1000000):∀(n:Nat)(r:aa),r.length<n->r<:+e.S->fixF (GM x0 j) n (ay e.S r)=j (ay e.S (k_ r)):=by
 intro n;induction n with
 |zero=>omega
 |succ n d=>
  intro r ax a;rw[eZ];generalize fixF (GM x0 j) n=k at d;unfold GM;rw[c];cases r with
  |nil=>simp[ig,a8,k_]
  |cons b t=>
   rw[b8 (λ_=>hR a),jw a,iK dd a];simp only[m4 a,bx,aK,pD];unfold k_;by_cases f:b=10
   ·grind
   ·simp only[f,bF,e3,aK,cm];grind[List.length_cons,dY]
def Ik(e:cH)(r:aa)(pd:aq)(y:Option (bo an an)):Prop:=match bu r with
 |some r'=>y=some (.inr (e.st r' pd))
 |none=>∃st:an,y=some (.inl (1,e.S.length,st))/\st.2.2.2.2.1=e.op
theorem Rz{c:UInt8}{u:aa}(aG:c≠10):bu (92::c::u)=some (92::c::u):=by rw[nM,aW (by decide),aW (by decide),bm rfl];grind
theorem RA{u:aa}:bu (92::10::u)=if u=[] then none else bu u:=by rw[nM,aW (by decide),aW (by decide),bm rfl];rfl
theorem XS:bu [92]=some [92]:=by rw[nM,aW (by decide),aW (by decide),bm rfl]
theorem RB{t:aa}:bu (35::t)=bu (k_ t):=by rw[nM,aW (by decide),bm rfl]
theorem RC{b:UInt8}{t:aa}(a:¬f_ b=true)(c:b≠35)(d:b≠92):bu (b::t)=some (b::t):=by simp_all[nM,aW]
theorem E1{b:UInt8}{t:aa}(a:f_ b=true):bu (b::t)=bu t:=by rw[nM,bm a]
theorem ajK{e:cH}{pd:aq}(dd:e.S.length<=1000000)(x0:an)(ad:x0.1=e.S)(i:x0.2.2.1=pd)(j:x0.2.2.2.1=e.ne)(l:x0.2.2.2.2.1=e.op)(m:x0.2.2.2.2.2=e.j1):∀(n:Nat)(r:aa),r.length<n->r<:+e.S->
  Ik e r pd (fixF (GN x0 λo=>some (.inr (x0.1,o,x0.2.2.1,x0.2.2.2.1,x0.2.2.2.2.1,x0.2.2.2.2.2))) n (ay e.S r)):=by
 intro n;induction n with
 |zero=>omega
 |succ n d=>
  intro r ax a;rw[eZ];generalize fixF (GN x0 _) n=k at d;unfold GN a9;simp only[ad,i,j,l,m];cases r with
  |nil=>simp only[ig,Int.lt_irrefl,bF,aS];simp[Ik,l2,cH.st,ig]
  |cons b t=>
   have g:t.length<n:=by grind
   rw[b8 (hR a),jw a,iK dd a];simp only[m4 a,bx,aK,Ry,Ij,mC,XP];unfold Ik;by_cases f:f_ b=true
   ·rw[E1 f];have:(bif decide (b=32) then true else decide (b=9))=true:=by simp[f_] at f;rcases f with rfl|rfl<;>rfl
    rw[this];exact d t g (dY a)
   ·have p:(bif decide (b=32) then true else decide (b=9))=false:=by grind[f_]
    rw[p];simp only[aS];by_cases q:b=92
    ·subst q;cases t with
     |nil=>simp[ig,a8,cH.st,XS]
     |cons c u=>
      rw[b8 (λ_=>hR (dY a)),jw (dY a)];simp only[bx,aK,m4 (dY a),pD];by_cases aG:c=10
      ·subst aG;have s:W (ay e.S (92::10::u)+2)=ay e.S u:=ko (w:=[92,10]) dd a;rw[s];simp only[bx,aK,RA];by_cases hu:u=[]
       ·subst hu;rw[bm rfl];simp only[ig,bx,aK];exact⟨_,rfl,rfl⟩
       ·rw[aW hu];have:decide (ay e.S u=(e.S.length:Int))=false:=by grind[yz]
        rw[this];simp only[aS];exact d u (by grind) (dY (dY a))
      simp_all[bF,aS,Rz,cH.st]
    ·have v:decide (b=92)=false:=by grind
     rw[v];simp only[aS];rw[b8 (λh=>by grind)];by_cases x:b=35
     ·subst x;rw[RB];simp only[decide_true,cond_true];rw[ajJ (e:=e) x0 ad dd _ _ (lk (Nat.le_trans (eI a) dd)) a];have:k_ (35::t)=k_ t:=by rfl
      rw[this];exact d _ (Nat.lt_of_le_of_lt (Ab t) g) ((EG t).trans (dY a))
     grind[RC,cH.st]
theorem ajL{e:cH}{r:aa}{pd:aq}(h:dP e r pd):Ik e r pd (Kg (e.st r pd)):=
 ajK h.bY (e.st r pd) rfl rfl rfl rfl rfl _ r (lk (lF (eI h.sfx) h.bY)) h.sfx
theorem RE{r S:aa}(h:r<:+S):S.drop (ay S r).toNat=r:=by obtain⟨u,rfl⟩:=h;simp[ay,o0]
theorem Il{r t S:aa}(h:r<:+S)(a:t<:+r):b9 S (ay S r) (ay S t)=r.take (r.length-t.length):=by grind[b9,RE,eI,ay]
theorem RF{S r:aa}(dd:S.length<=1000000)(b:r<:+S):zv S (ay S r)=some (br r):=by
 have ad:¬ay S r<0:=by grind[eI,ay]
 unfold zv;by_cases c:(S.length:Int)<=ay S r
 ·have d:r=[]:=yz.1 (show ay S r=S.length by have:= @oQ r S;omega);simp_all[br,la,xv,List.isPrefixOf]
 ·simp only[ad,c,bF,aS];have e0:rq 32 [60,60,45,32,38,38,32,124,124,32,59,59,32,60,60,32,60,38,32,60,62,32,62,62,32,62,38,32,62,124,32,38,32,124,32,59,32,60,32,62,32,40,32,41]=la:=by decide
  have a:=XH [60,60,45,32,38,38,32,124,124,32,59,59,32,60,60,32,60,38,32,60,62,32,62,62,32,62,38,32,62,124,32,38,32,124,32,59,32,60,32,62,32,40,32,41] 32 (by decide);rw[e0] at a;rw[aO a];unfold a9;show fixF (GV S (ay S r) la λ_=>some []) bC 0=_;rw[(XI S (ay S r) (by omega) (by omega) (by omega) la (by decide) (by decide) (λ_=>some []) bC 0 (by omega) (by decide) (by rw[gg];decide) (by simp[gg])).2];rw[RE b];grind[br,Lib.hasPrefix,List.isPrefixOf,List.find?,la]
theorem fV{α β:Type}{g:Prop}[Decidable g]{v d:α}{k:α->Option β}:cR g (some v) d k=k (if g then v else d):=by grind[cR,av]
theorem RG{S r:aa}(dd:S.length<=1000000)(a:r<:+S):wx S (ay S r)=some (c1 r):=by
 unfold wx;rw[RF dd a,fV];cases r with
 |nil=>simp[ig,a8,c1]
 |cons b t=>
  have hl:¬(S.length:Int)<=ay S (b::t):=by simp_all[m4]
  rw[b8 (λ_=>hR a),b8 (λ_=>hR a),b8 (λ_=>hR a),jw a];simp only[hl,bF,aS,Ry,Ij,pD];grind[c1,f_,br]
theorem XT{S t:aa}{b:UInt8}(dd:S.length<=1000000)(a:b::t<:+S):Bn S (ay S (b::t))=some (ga (b::t)):=by
 unfold Bn;rw[b8 (hR a),jw a,iK dd a];simp only[qf,Cp,Cq];cases t with
 |nil=>simp[ig,a8,ga]
 |cons c u=>
  rw[b8 (λ_=>hR (dY a)),b8 (λ_ _=>hR (dY a)),jw (dY a)];simp only[m4 (dY a),bx];by_cases ad:b=36
  ·subst ad;by_cases d:c=40
   ·grind[ga]
   by_cases e:c=123
   ·grind[ga]
   simp_all[ga]
  simp_all[ga]
theorem ajM:∀(r w:aa),c4 r=(w,false)->w=[]
 |[],w,h=>by grind[c4]
 |b::t,w,h=>by grind[c4]
def E2(S:aa)(j:Int->Option (aa×Bool))(r:aa):aa×Bool->Option (aa×Bool)
 |(w,true)=>j (ay S (r.drop w.length))
 |(_,false)=>some ([],false)
theorem ajN{S:aa}(dd:S.length<=1000000)(j:Int->Option (aa×Bool)):∀(n:Nat)(r:aa),r.length<n->r<:+S->fixF (DI S j) n (ay S r)=E2 S j r (c4 r):=by
 intro n;induction n with
 |zero=>omega
 |succ n d=>
  intro r ax a;rw[eZ];generalize fixF (DI S j) n=k at d;unfold DI;rw[RG dd a,aO rfl];cases r with
  |nil=>rfl
  |cons b t=>
   unfold c4;by_cases e:c1 (b::t)=true
   ·rw[e,bm rfl];rfl
   ·have f:c1 (b::t)=false:=by grind
    rw[f,aW (by simp)];simp only[e3,aK];rw[b8 (hR a),XT dd a,fV,jw a,iK dd a];simp only[mC,qQ,nT,nS];by_cases g:b=92
    ·grind[E2]
    by_cases h:b=39
    ·grind[E2]
    by_cases i:b=34
    ·grind[E2]
    by_cases l:b=96
    ·grind[E2]
    by_cases m:ga (b::t)=true
    ·grind[E2]
    ·simp only[g,h,i,l,bF,aS,cG,m,cm,or_self];rw[d t (by grind) (dY a)];cases aC:c4 t with
     |mk w c=>cases c<;>rfl
theorem ajO{S r:aa}(dd:S.length<=1000000)(a:r<:+S):GY S (ay S r)=some (c4 r):=by
 unfold GY a9;show fixF (DI S _) bC (ay S r)=_;rw[ajN dd _ _ r (lk (Nat.le_trans (eI a) dd)) a];cases aC:c4 r with
 |mk w c=>
  cases c with
  |false=>rw[ajM _ _ aC];rfl
  |true=>have b:=(EL _ _ aC).1;obtain⟨q,rfl⟩:=b;have d:q<:+S:=(List.suffix_append w q).trans a;show a8 _ _=_;rw[List.drop_left,b8 (by grind[eI,List.length_append,ay]),Il a (gQ w q)];simp
def jg:Tok->Int×aa×Bool
 | .eof=>(0,[],false)
 | .line=>(1,[],false)
 | .op o=>(2,o,false)
 | .word w p=>(3,w,p)
theorem XU{e:cH}{x r:aa}{pd:aq}(h:dP e r pd):aT e r (bP x r pd) (λt r pd=>(jg t,e.st r pd)) (lU (e.st r pd)):=by
 have c:=ajL h;unfold Ik at c;unfold lU;cases hk:bu r with
 |none=>rw[hk] at c;obtain⟨st,ad,i⟩:=c;rw[iw hk,ad];exact⟨st,rfl,by grind⟩
 |some r'=>
  rw[hk] at c;rw[cA hk,c];have d:=dT hk;have a:=h.mono d;refine⟨d,a,?_⟩;unfold ba;simp only[cH.st];cases r' with
  |nil=>simp[ig,au,jg]
  |cons b t=>
   have bd:¬ay e.S (b::t)=(e.S.length:Int):=by simp[yz]
   simp only[bd,bF,aS];refine(b8 (hR a.sfx)).trans ?_;simp only[jw a.sfx,pD];unfold au;by_cases f:b=10
   ·grind[jg]
   ·simp only[f,bF,aS,cm];rw[RF a.bY a.sfx,aO rfl];by_cases g:br (b::t)=[]
    ·simp only[g,bx,gP,aS,ne_eq,not_true,cm];rw[ajO a.bY a.sfx,aO rfl];rfl
    grind[jg]
theorem e1{σ τ α β:Type}{m:Option (bo σ α)}{f:σ->τ}{k:α->Option (bo τ β)}{y:α}(h:m=some (.inr y)):ba m f k=k y:=by rw[h];rfl
theorem hy{σ τ α β:Type}{m:Option (bo σ α)}{f:σ->τ}{k:α->Option (bo τ β)}{c p:Int}{s:σ}(h:m=some (.inl (c,p,s))):ba m f k=some (.inl (c,p,f s)):=by rw[h];rfl
theorem yA{σ τ α β:Type}{g:Prop}[Decidable g]{m:Option (bo σ α)}{f:σ->τ}{d:α}{k:α->Option (bo τ β)}(h:g):m8 g m f d k=ba m f k:=bm h
theorem XV{σ τ α β:Type}{g:Prop}[Decidable g]{m:Option (bo σ α)}{f:σ->τ}{d:α}{k:α->Option (bo τ β)}(h:¬g):m8 g m f d k=k d:=aW h
def w1{β:Type}(e:cH)(y:Option (bo an β)):Prop:=∃st:an,y=some (.inl (1,e.S.length,st))/\st.2.2.2.2.1=e.op
theorem w1.bind{β a:Type}{e:cH}{y:Option (bo an β)}{f:an->an}{k:β->Option (bo an a)}(h:w1 e y)(hf:∀st,(f st).2.2.2.2.1=st.2.2.2.2.1\/(f st).2.2.2.2.1=e.op):w1 e (ba y f k):=by obtain⟨st,ad,b⟩:=h;refine⟨f st,hy ad,?_⟩;grind
theorem w1.more{β:Type}{e:cH}{st:an}{f:an->an}{k:Empty->Option (bo an β)}(ad:st.1=e.S)(a:(f st).2.2.2.2.1=e.op):w1 e (ba (q6 st) f k):=
 ⟨f st,by grind[q6,ba],a⟩
theorem w1.rr{α β:Type}{e:cH}{r0:aa}{cv:α->aa->aq->β}{nd:aa}{ds:aq}{y:Option (bo an β)}(h:w1 e y):aT e r0 (.more [] nd ds) cv y:=by obtain⟨st,ad,a⟩:=h;exact⟨st,ad,by grind⟩
structure oi{β:Type}(e:cH)(f:Tok->β)(F:an->Option (bo an (β×an))):Prop where
 some:∀{r r' pd},dP e r pd->bu r=some r'->F (e.st r pd)= .some (.inr (f (au r'),e.st r' pd))
 none:∀{r pd},dP e r pd->bu r=none->w1 e (F (e.st r pd))
theorem kR(e:cH):oi e jg lU:=by
 constructor
 ·intro r r' pd h a;have:=XU (x:=[]) h;rw[cA a] at this;exact this.2.2
 ·intro r pd h a;have:=XU (x:=[]) h;rw[iw a] at this;obtain⟨st,ad,b⟩:=this;exact⟨st,ad,by grind⟩
theorem qS(e:cH)(w:aa):oi e (λt=>cE t w) (λx=>pa x w):=by
 constructor
 ·intro r r' pd h a;refine(e1 ((kR e).some h a)).trans ?_;cases au r' with
  |word t p=>cases p<;>by_cases b:t=w<;>simp[jg,cE,b]<;>rfl
  |_=>rfl
 ·intro r pd h a;exact((kR e).none h a).bind λ_=> .inl rfl
theorem ru(e:cH)(w:aa):oi e (λt=>t== .op w) (λx=>na x w):=by
 constructor
 ·intro r r' pd h a;refine(e1 ((kR e).some h a)).trans ?_;cases au r' with
  |op t=>by_cases b:t=w<;>simp[jg,b]<;>rfl
  |_=>rfl
 ·intro r pd h a;exact((kR e).none h a).bind λ_=> .inl rfl
def Cr:Ctx->Int
 | .text=>0| .paren=>1| .qL=>2| .rl=>3| .p9=>4| .ke=>5| .py=>6| .done=>7| .item=>8
theorem oi.or{e:cH}{f g:Tok->Bool}{F G:an->Option (bo an (Bool×an))}(hf:oi e f F)(bq:oi e g G):
  oi e (λt=>f t||g t) (λx0=>ba (F x0) (λx=>x) λy=>m8 (y.1=false) (G (y.2.1,y.2.2.1,x0.2.2.1,y.2.2.2.2.1,x0.2.2.2.2.1,y.2.2.2.2.2.2)) (λx=>x) (false,(y.2.1,y.2.2.1,x0.2.2.1,y.2.2.2.2.1,x0.2.2.2.2.1,y.2.2.2.2.2.2)) λz=>
   Option.some (.inr ((bif y.1 then true else z.1),(z.2.1,z.2.2.1,x0.2.2.1,z.2.2.2.2.1,x0.2.2.2.2.1,z.2.2.2.2.2.2)))):=by
 constructor
 ·intro r r' pd h a;refine(e1 (hf.some h a)).trans ?_;cases b:f (au r') with
  |true=>rfl
  |false=>refine(yA rfl).trans ((e1 (bq.some (h.mono (dT a)) (lD _ _ _ (cX _) a))).trans ?_);rfl
 ·intro r pd h a;exact(hf.none h a).bind λ_=> .inl rfl
theorem oi.ret{β:Type}{e:cH}{f:Tok->β}{F:an->Option (bo an (β×an))}(hf:oi e f F):oi e f (λx0=>ba (F x0) (λx=>x) λy=>Option.some (.inr (y.1,(y.2.1,y.2.2.1,x0.2.2.1,y.2.2.2.2.1,x0.2.2.2.2.1,y.2.2.2.2.2.2)))):=by
 constructor
 ·intro r r' pd h a;exact(e1 (hf.some h a)).trans rfl
 ·intro r pd h a;exact(hf.none h a).bind λ_=> .inl rfl
theorem ajP(e:cH):oi e (λt=>t== .eof) (λx0=>ba (lU x0) (λx=>x) λy=>some (.inr (decide (y.1.1=0),(y.2.1,y.2.2.1,x0.2.2.1,y.2.2.2.2.1,x0.2.2.2.2.1,y.2.2.2.2.2.2)))):=by
 constructor
 ·intro r r' pd h a;refine(e1 ((kR e).some h a)).trans ?_;cases au r'<;>simp[jg]<;>rfl
 ·intro r pd h a;exact((kR e).none h a).bind λ_=> .inl rfl
theorem oi.ajQ{e:cH}{f g i:Tok->Bool}{F G I:an->Option (bo an (Bool×an))}(hf:oi e f F)(bq:oi e g G)(bg:oi e i I):
  oi e (λt=>f t||g t||i t) (λx0=>ba (F x0) (λx=>x) λy=>m8 (y.1=false) (G (y.2.1,y.2.2.1,x0.2.2.1,y.2.2.2.2.1,x0.2.2.2.2.1,y.2.2.2.2.2.2)) (λx=>x) (false,(y.2.1,y.2.2.1,x0.2.2.1,y.2.2.2.2.1,x0.2.2.2.2.1,y.2.2.2.2.2.2)) λz=>
   m8 ((bif y.1 then true else z.1)=false) (I (z.2.1,z.2.2.1,x0.2.2.1,z.2.2.2.2.1,x0.2.2.2.2.1,z.2.2.2.2.2.2)) (λx=>x) (false,(z.2.1,z.2.2.1,x0.2.2.1,z.2.2.2.2.1,x0.2.2.2.2.1,z.2.2.2.2.2.2)) λw=>
   Option.some (.inr ((bif(bif y.1 then true else z.1) then true else w.1),(w.2.1,w.2.2.1,x0.2.2.1,w.2.2.2.2.1,x0.2.2.2.2.1,w.2.2.2.2.2.2)))):=by
 constructor
 ·intro r r' pd h a;have b:=lD _ _ _ (cX _) a;have c:=h.mono (dT a);refine(e1 (hf.some h a)).trans ?_;cases d:f (au r') with
  |true=>rfl
  |false=>
   refine(yA rfl).trans ((e1 (bq.some c b)).trans ?_);cases j:g (au r') with
   |true=>rfl
   |false=>refine(yA rfl).trans ((e1 (bg.some c b)).trans ?_);rfl
 ·intro r pd h a;exact(hf.none h a).bind λ_=> .inl rfl
theorem RI(e:cH)(c:Ctx):oi e (dR c) (λx=>DL x (Cr c)):=by
 cases c with
 |text=>exact ajP e
 |paren=>exact(ru e _).ret
 |qL=>exact(qS e _).ret
 |rl=>exact(qS e _).ret
 |ke=>exact(qS e _).ret
 |py=>exact(qS e _).ret
 |done=>exact(qS e _).ret
 |item=>exact(ru e _).or (qS e _)
 |p9=>exact(qS e _).ajQ (qS e _) (qS e _)
theorem te{e:cH}{r r':aa}{pd:aq}(h:dP e r pd)(a:bu r=some r'):
  (au r'= .eof->w1 e (ky (e.st r pd)))/\(au r'≠ .eof->ky (e.st r pd)=some (.inl (2,ay e.S r',e.st r' pd))):=by
 constructor
 ·intro b;have:ky (e.st r pd)=ba (q6 (e.st r' pd)) (λx=>x) λy=>Empty.elim y:=by unfold ky a9;refine(e1 ((kR e).some h a)).trans ?_;rw[b];rfl
  rw[this];exact w1.more rfl rfl
 ·intro b;unfold ky a9;refine(e1 ((kR e).some h a)).trans ?_;cases hk:au r' with
  |eof=>grind
  |_=>rfl
theorem XW{e:cH}{r:aa}{pd:aq}{w:aa}{t:Tok->Bool}{F:an->Option (bo an (Bool×an))}(c:oi e t F)(f:∀{r:aa},t (au r)=true->au r≠ .eof/\w<+:r)(h:dP e r pd):
  aT e r (m2 t w.length r pd) (λ_=>e.st) (ba (F (e.st r pd)) (λx=>x) λy=>bif !y.1 then ba (ky (y.2.1,y.2.2.1,pd,y.2.2.2.2.1,e.op,y.2.2.2.2.2.2)) (λx=>x) (λy=>Empty.elim y) else some (.inr (y.2.1,W (y.2.2.1+(w.length:Int)),pd,y.2.2.2.2.1,e.op,y.2.2.2.2.2.2))):=by
 unfold m2;cases a:bu r with
 |none=>rw[dc (iw a)];exact((c.none h a).bind λ_=> .inl rfl).rr
 |some r'=>
  rw[aY (cA a),e1 (c.some h a)];have g:=dT a;have b:=h.mono g;have d:=lD _ _ _ (cX _) a;cases hk:t (au r') with
  |true=>obtain⟨ad,q,rfl⟩:=f hk;rw[aW ad,bm rfl];refine⟨by grind[List.drop_left,List.suffix_append,trans],by rw[o0];exact b.mono (gQ w q),?_⟩;rw[o0];show some (Sum.inr (e.S,W (ay e.S (w++q)+(w.length:Int)),pd,e.ne,e.op,e.j1))=_;rw[ko h.bY b.sfx];rfl
  |false=>
   simp only[e3,aK];by_cases he:au r'= .eof
   ·rw[bm he];exact(((te b d).1 he).bind λ_=> .inl rfl).rr
   ·rw[aW he,aW (by simp)];exact⟨b.sfx,_,hy ((te b d).2 he)⟩
theorem Im{e:cH}{r:aa}{pd:aq}(w:aa)(h:dP e r pd):aT e r (cV w r pd) (λ_=>e.st) (nb (e.st r pd) w):=by refine XW (qS e w) (λ{r} hk=>?_) h;grind[au,cE,qd]
theorem LR{e:cH}{r:aa}{pd:aq}(o:aa)(h:dP e r pd):aT e r (jI o r pd) (λ_=>e.st) (rV (e.st r pd) o):=by
 refine XW (ru e o) (λ{r} hk=>?_) h;have:au r= .op o:=by grind
 simp_all[ic]
theorem RJ:∀r:aa,(Lib.indexByte r 10= -1/\(iG r).1=r/\(iG r).2=[])\/(Lib.indexByte r 10=((iG r).1.length:Int)/\r=(iG r).1++10::(iG r).2)
 |[]=> .inl ⟨rfl,rfl,rfl⟩
 |b::t=>by have:=RJ t;unfold iG Lib.indexByte;grind
theorem LS{r S:aa}(h:r<:+S):b9 S (ay S r) S.length=r:=by rw[<-ig S,Il h ov];simp
theorem ajR{S d:aa}{tabs:Bool}{j:Unit->Option Int}(dd:S.length<=1000000):∀(n:Nat)(r:aa),r.length<n->r<:+S->
  fixF (q9 S d tabs j) n (ay S r)=match ni d tabs r with|some q=>some (ay S q)|none=>j ():=by
 intro n;induction n with
 |zero=>omega
 |succ n f=>
  intro r ax a;rw[eZ];generalize fixF (q9 S d tabs j) n=k at f;unfold q9 a9;cases r with
  |nil=>simp[ig,ni]
  |cons b t=>
   have u:=eI a;simp only[m4 a,bx,aK];rw[b8 (by have:=hR a;omega),LS a];have i:∀(l q:aa),q<:+S->q.length<(b::t).length->(iG (b::t)).1=l->(iG (b::t)).2=q->
     (bif tabs then av (Bo l [9]) λm=>bif decide (m=d) then some (ay S q) else k (ay S q) else bif decide (l=d) then some (ay S q) else k (ay S q))=
     match ni d tabs (b::t) with|some q=>some (ay S q)|none=>j ():=by
    intro l q g hl ad e;rw[Cg,ad,e];have bg:=f q (by omega) g;have v:l.length<=(b::t).length:=by
     rcases RJ (b::t) with⟨_,h,_⟩|⟨_,h⟩
     ·grind
     grind
    cases tabs with
    |true=>rw[XK l (by omega)];simp only[aK,cG];rw[aO rfl];grind
    |false=>grind
   show av (some (Lib.indexByte (b::t) 10)) _=_;rw[aO rfl];rcases RJ (b::t) with⟨ad,e,h⟩|⟨ad,e⟩
   ·grind[ig]
   ·have c:=mj List.length e;simp only[C2,mi] at c;have o:decide ((0:Int)<=Lib.indexByte (b::t) 10)=true:=by grind
    have g:(iG (b::t)).2<:+S:=((eb 10 _).trans (by grind)).trans a
    have p:b9 (b::t) 0 (Lib.indexByte (b::t) 10)=(iG (b::t)).1:=by grind[iG,b9]
    have w:(b::t).length=t.length+1:=rfl;have s:W (W (ay S (b::t)+Lib.indexByte (b::t) 10)+1)=ay S (iG (b::t)).2:=by grind[ay,dU]
    rw[o];simp only[aK];rw[b8 (by omega),p,s];grind
theorem XY{S d:aa}{tabs:Bool}{r:aa}(dd:S.length<=1000000)(a:r<:+S):Bp S (ay S r) d tabs=some (match ni d tabs r with|some q=>ay S q|none=> -1):=by
 unfold Bp wy;have ad:max (0:Int) (min (ay S r) S.length)=ay S r:=by grind[oQ,eI,ay]
 rw[aO rfl,ad];unfold a9;show fixF (q9 S d tabs _) bC (ay S r)=_;grind[ajR,lk,Nat.le_trans,eI,ni]
def LV{β:Type}(e:cH)(op:bs)(y:Option (bo an β)):Prop:=∃st:an,y=some (.inl (1,e.S.length,st))/\st.2.2.2.2.1=e.op++op
theorem LW{β:Type}{e:cH}{st:an}{x:aa}{f:an->an}{k:Empty->Option (bo an β)}(ad:st.1=e.S)(a:st.2.2.2.2.1=e.op)(b:e.op.length<=2000000)(hf:∀s,(f s).2.2.2.2.1=s.2.2.2.2.1):LV e [x] (ba (wB st x) f k):=by
 unfold wB;rw[b8 (by grind)];refine⟨f (st.1,st.2.1,st.2.2.1,st.2.2.2.1,st.2.2.2.2.1++[x],st.2.2.2.2.2),?_,?_⟩
 ·grind[q6,ba]
 grind
theorem ajS{e:cH}{pd:aq}{x0 y23:an}{j:Int->Option (bo an (Bool×an))}(dd:e.S.length<=1000000)(f:e.op.length<=2000000)(o:pd.length<=1000000)(g:x0.2.2.2.2.1=e.op)(h:y23.1=e.S):∀(n i:Nat)(q:aa),pd.length-i<n->i<=pd.length->q<:+e.S->
  match lY (pd.drop i) q with
  | .inl r'=>fixF (Bq x0 pd y23 j) n ((i:Int),ay e.S q)=j (ay e.S r')
  | .inr _=>LV e [[60,60]] (fixF (Bq x0 pd y23 j) n ((i:Int),ay e.S q)):=by
 intro n;induction n with
 |zero=>omega
 |succ n l=>
  intro i q ax bg d;rw[eZ];generalize fixF (Bq x0 pd y23 j) n=k at l;unfold Bq a9;simp only[h,g];by_cases p:i<pd.length
  ·have a:(i:Int)<(pd.length:Int):=by omega
   have b:pd.drop i=at' pd (i:Int)::pd.drop (i+1):=by grind[List.drop_eq_getElem_cons,at',List.getElem?_eq_getElem]
   rw[b];simp only[a,bx,aK];rw[b8 (show 0<=(i:Int)/\True from⟨by omega,trivial⟩),XY dd d,aO rfl,dU (x:=(i:Int)+1) (by omega) (by omega)];unfold lY;cases m:ni (at' pd (i:Int)).1 (at' pd (i:Int)).2 q with
   |none=>simp only[show((-1:Int)<0) from by decide,bx,aK];exact LW rfl rfl f λ_=>rfl
   |some c=>
    have r:c<:+e.S:=((Q5 _ _ _ q [] c (cX _) m).1).trans d;have h0:¬ay e.S c<0:=by grind[eI,ay]
    grind
  ·have a:¬(i:Int)<(pd.length:Int):=by omega
   have b:pd.drop i=[]:=vZ (by omega);rw[b];simp only[a,bF,aS];rfl
theorem dP.w2{e:cH}{r:aa}{pd:aq}(h:dP e r pd):e.op.length<=2000000:=by have:=h.ops;have:=h.bY;omega
theorem dP.RM{e:cH}{r:aa}{pd:aq}(h:dP e r pd):pd.length<=1000000:=by have:=h.jJ;have:=h.bY;omega
theorem XZ{e:cH}{r:aa}{pd:aq}(h:dP e r pd):aT e r (cS r pd) (λb r pd=>(b,e.st r pd)) (k3 (e.st r pd)):=by
 unfold k3 a9;rw[si];refine aT.rep (en:=λb r pd=>(b,e.S,ay e.S r,pd,e.ne,e.j1)) (λk b r1 a ad hk=>?_) bC false r pd (lk (lF (eI h.sfx) h.bY)) h;unfold Pl a9;cases d:bu r1 with
 |none=>have:h2 b r1 a= .more [] (cO [] a []).1 (cO [] a []).2:=dc (iw d);rw[this];exact(((kR e).none ad d).bind λ_=> .inr rfl).rr
 |some o=>
  have l:=dT d;have c:=ad.mono l;refine cast (mj _ (e1 ((kR e).some ad d)).symm) ?_;by_cases m:au o= .line
  ·obtain⟨t,rfl⟩:=vB m;rw[ux d,m];have p:t<:+e.S:=dY c.sfx;have g:=ajS (e:=e) (pd:=a) (x0:=e.st r pd) (y23:=e.st (10::t) a) (j:=λn=>k (true,e.S,n,[],e.ne,e.j1)) h.bY c.w2 c.RM rfl rfl bC 0 t (lk (by have:=c.RM;omega)) (by omega) p;have u:W (ay e.S (10::t)+1)=ay e.S t:=iK c.bY c.sfx;simp only[v3] at g
   have v:∀y,y=fixF (Bq (e.st r pd) a (e.st (10::t) a) λn=>k (true,e.S,n,[],e.ne,e.j1)) bC ((0:Nat),ay e.S t)->aT e r1 (cN h2 r1 (ae jb (λ_=>aU (.inl true)) (10::t) a)) (λb r pd=>(b,e.st r pd)) y:=by
    rintro y rfl;cases i:lY a t with
    |inr nd=>
     rw[i] at g;have:ae jb (λ_=>aU (.inl true)) (10::t) a=(.more [[60,60]] nd []:dt (Bool⊕Bool)):=by grind[ae,s9]
     rw[this];exact g
    |inl f=>
     rw[i] at g;have w:ae jb (λ_=>aU (.inl true)) (10::t) a=(.ok (.inl true) f []:dt (Bool⊕Bool)):=by unfold ae;rw[s9,i];rfl
     rw[w];have x:fixF _ _ _=_:=g;rw[x];have q:f<:+t:=(vw _ _ [] _ i).1;have z:f<:+r1:=q.trans ((eb 10 t).trans l);have s:f.length<r1.length:=by grind
     have A:dP e f []:=⟨c.bY,q.trans p,by grind,by have:=ad.ops;omega⟩;exact aT.inl s (hk true f [] z A s)
   refine v _ ?_;rw[<-u];rfl
  ·rw[rm d m];refine⟨l,c,?_⟩;cases B:au o with
   |line=>grind
   |_=>rfl
theorem ajT(w:aa):G8 w=some (qK w):=by
 unfold G8;have e0:rq 32 [105,102,32,119,104,105,108,101,32,117,110,116,105,108,32,102,111,114,32,99,97,115,101,32,123]=([m1,wU,H6,nj,px,[123]]:bs):=by decide
 rw[aO (Rs w _ (by decide) (by simp_all)),e0];rfl
theorem ajU(w:aa):Hr w=some (rk w):=by unfold Hr;rw[aO (Rs w _ (by decide) (by decide))];rfl
theorem ajV(w:aa):D1 w=some (eV w):=by unfold D1;rw[aO (Rs w _ (by decide) (by decide))];rfl
theorem X0(e:cH):oi e hs DM:=by
 constructor
 ·intro r r' pd h a;refine(e1 ((kR e).some h a)).trans ?_;simp only[ajT,fV];cases au r' with
  |word t p=>cases p<;>simp[jg,hs,cH.st]
  |op o=>grind[jg,hs,cH.st]
  |_=>rfl
 ·intro r pd h a;exact((kR e).none h a).bind λ_=> .inl rfl
def cH.fj(e:cH)(x:aa):cH:=⟨e.S,e.ne+1,e.op++[x],e.j1⟩
theorem LX{e:cH}{r:aa}{pd:aq}{p:Int}{x:aa}(h:dP e r pd)(ad:0<=e.ne)(b:e.ne<30):x1 (e.st r pd) p x=some (.inr ((e.fj x).st r pd)):=by
 unfold x1 a9;have:¬(e.st r pd).2.2.2.1=30:=by show¬e.ne=30;omega
 simp only[this,bF,aS];have c:=h.w2;refine(b8 (show(e.st r pd).2.2.2.2.1.length+_<=536870912 by show e.op.length+1<=_;omega)).trans ?_;have a:W (e.ne+1)=e.ne+1:=dU (by omega) (by omega);show some (Sum.inr (e.S,ay e.S r,pd,W (e.ne+1),e.op++[x],e.j1))=_;rw[a];rfl
theorem LY{e:cH}{r:aa}{pd:aq}{x:aa}(c:e.op.length<=2000000)(ad:0<=e.ne)(d:e.ne<30):tV ((e.fj x).st r pd)=some (e.st r pd):=by
 unfold tV;have hl:((e.fj x).st r pd).2.2.2.2.1=e.op++[x]:=rfl;have ax:((e.fj x).st r pd).2.2.2.1=e.ne+1:=rfl;have a:W (((e.op++[x]).length:Int)-1)=e.op.length:=by grind[dU,List.length_append,List.length_singleton]
 have b:W (e.ne+1-1)=e.ne:=by grind[dU]
 simp only[hl,ax,a,b];rw[b8 (by grind)];have:b9 (e.op++[x]) 0 (e.op.length:Int)=e.op:=by simp[b9]
 rw[this];rfl
theorem aT.named{α β:Type}{e:cH}{r0 r:aa}{pd:aq}{m:ak α}{x:aa}{cv:α->aa->aq->β}{y:Option (bo an β)}(h:aT (e.fj x) r0 (m r pd) cv y):match(m.named x) r pd with
  | .ok a r pd=>r<:+r0/\dP (e.fj x) r pd/\y=some (.inr (cv a r pd))
  | .more op _ _=>LV e op y
  | .bad r=>r<:+e.S/\∃st,y=some (.inl (2,ay e.S r,st))
  | .deep _=>True:=by
 unfold ak.named;cases hm:m r pd with
 |ok a r1 b=>rw[hm] at h;exact h
 |more op nd ds=>rw[hm] at h;obtain⟨st,ad,c⟩:=h;exact⟨st,ad,by grind[cH.fj]⟩
 |bad q=>rw[hm] at h;exact h
 |deep q=>trivial
theorem Ip{S r:aa}(a:r<:+S):wy (ay S r) S.length=some (ay S r):=by unfold wy;grind[max,min,ay,oQ,eI]
def kS(S:aa):Option aa->Int
 |some q=>ay S q
 |none=> -1
theorem ajW{S:aa}(dd:S.length<=1000000):∀(n:Nat)(r:aa),r.length<n->r<:+S->fixF (wH S λ_=>some (-1)) n (ay S r)=some (kS S (gX r)):=by
 intro n;induction n with
 |zero=>omega
 |succ n e=>
  intro r ax a;rw[eZ];cases r with
  |nil=>simp[wH,ig,gX,kS]
  |cons b t=>
   have i:=eI a;have g:t.length<n:=by grind
   have f:=e t g (dY a);cases t with
   |nil=>
    obtain⟨m,rfl⟩:∃m,n=m+1:=⟨n-1,by omega⟩
    have h:fixF (wH S λ_=>some (-1)) (m+1) (W (ay S []+1))=some (-1):=by
     rw[eZ];unfold wH;have:¬W (ay S []+1)<(S.length:Int):=by grind[ig,dU]
     grind
    generalize fixF (wH S _) (m+1)=k at f h;unfold wH a9;simp only[m4 a,bx,aK];rw[b8 ⟨(hR a).1,trivial⟩,jw a,iK dd a];grind[mC,nS,gX,kS]
   |cons c u=>have d:=e u (by grind) (dY (dY a));generalize fixF (wH S _) n=k at f d;unfold wH a9;simp only[m4 a,bx,aK];rw[b8 ⟨(hR a).1,trivial⟩,jw a,iK dd a,iK dd (dY a)];grind[mC,nS,gX,kS]
theorem ajY{S r:aa}(dd:S.length<=1000000)(a:r<:+S):Bz S (ay S r)=some (kS S (gX r)):=by unfold Bz;rw[Ip a,aO rfl];grind[a9,ajW,lk,Nat.le_trans,eI]
theorem X1:∀r:aa,(Lib.indexByte r 39= -1/\gb r=none)\/∃q,gb r=some q/\q<:+r/\Lib.indexByte r 39=(r.length:Int)-q.length-1
 |[]=> .inl ⟨rfl,rfl⟩
 |b::t=>by
  unfold gb Lib.indexByte;by_cases a:b=39
  ·subst a;exact .inr ⟨t,by simp,eb 39 t,by simp;omega⟩
  ·rcases X1 t with⟨ad,c⟩|⟨q,ad,c,d⟩
   ·left;simp[a,ad,c]
   ·right;refine⟨q,by simp[a,ad],c.trans (eb b t),?_⟩;have e:=yt t q ad;have:¬Lib.indexByte t 39= -1:=by rw[d];omega
    simp[a,this,d];omega
theorem X2{S r:aa}(dd:S.length<=1000000)(a:r<:+S):vh S (ay S r)=some (kS S (gb r)):=by
 unfold vh;have hl:=eI a;have aC:ay S r=(S.length:Int)-r.length:=rfl;rw[Ip a,aO rfl,b8 (by omega),LS a];show av (some (Lib.indexByte r 39)) _=_;rw[aO rfl];rcases X1 r with⟨ad,b⟩|⟨q,ad,b,c⟩
 ·rw[ad,b];rfl
 ·have d:=yt r q ad;rw[ad,c];have h0:¬((r.length:Int)-q.length-1<0):=by omega
  simp only[h0,bF,aS];rw[dU (x:=ay S r+_) (by omega) (by omega),dU (by omega) (by omega)];unfold kS;simp only;congr 1;have:ay S q=(S.length:Int)-q.length:=rfl;omega
def qg(S:aa):WZ->Int×Int
 | .ok r=>(ay S r,0)
 | .more n=>(-1,n)
 | .bad r=>(-2,ay S r)
theorem sm(b:UInt8)(t:aa):ga (b::t)=(decide (b=36)&&match t with|[]=>false|c::_=>decide (c=40)||decide (c=123)):=by
 cases t with
 |nil=>simp[ga]
 |cons c u=>
  by_cases ad:b=36
  ·subst ad;by_cases a:c=40
   ·subst a;rfl
   ·by_cases d:c=123
    ·subst d;rfl
    simp_all[ga]
  simp_all[ga]
theorem ajZ{S:aa}(dd:S.length<=1000000):∀(n:Nat)(d:Nat)(r:aa),r.length<n->r<:+S->d+r.length<=1000000->fixF (Bv S λl=>some ((-1),(W (l+2)))) n ((d:Int),ay S r)=some (qg S (hL d r)):=by
 intro n;induction n with
 |zero=>omega
 |succ n f=>
  intro d r ax a aH;rw[eZ];generalize fixF (Bv S _) n=k at f;unfold Bv a9;cases r with
  |nil=>simp only[ig,Int.lt_irrefl,bF,aS];grind[dU,hL,qg]
  |cons b t=>
   have y:=eI a;have m:t.length<n:=by grind
   have z:(b::t).length=t.length+1:=rfl;simp only[m4 a,bx,aK];rw[b8 ⟨(hR a).1,trivial⟩];have o:=iK dd a;simp only[jw a,o,Cp,XQ,qQ,nT,mC,nS,qf];have A:=λd h=>f d t m (dY a) h;unfold hL;rw[sm];by_cases e:b=40
   ·subst e;have g:W ((d:Int)+1)=((d+1:Nat):Int):=by grind[dU]
    grind
   by_cases i:b=41
   ·subst i;simp only[e,bF,bx,aK,aS];cases d with
    |succ j=>
     have g:W (((j+1:Nat):Int)-1)=(j:Int):=by grind[dU]
     grind
    |zero=>
     simp only[show¬((0:Int)<((0:Nat):Int)) by decide,bF,aS];cases t with
     |nil=>simp[ig,qg]
     |cons c u=>
      have bd:¬ay S (c::u)=(S.length:Int):=by simp[yz]
      simp only[bd,bF,aS];rw[b8 (hR (dY a))];simp only[jw (dY a),XQ];have g:W (ay S (41::c::u)+2)=ay S u:=ko (w:=[41,c]) dd a;grind[qg]
   simp only[e,i,bF,aS,cm];by_cases p:b=39
   ·grind[qg]
   by_cases q:b=34
   ·grind[qg]
   by_cases s:b=92
   ·grind[qg]
   by_cases v:b=96
   ·grind[qg]
   simp only[p,q,s,v,bF,aS,false_or];by_cases x:b=36
   ·subst x;simp only[bx,aK,Jf];cases t with
    |nil=>simp only[ig,Int.lt_irrefl,bF,aS];grind[b8,ig]
    |cons c u=>rw[b8 (λ_=>hR (dY a)),b8 (λ_ _=>hR (dY a))];simp only[m4 (dY a),bx,aK,jw (dY a),Cp,Cq];grind[qg]
   grind
theorem X3{S r:aa}(dd:S.length<=1000000)(a:r<:+S):Bw S (ay S r)=some (qg S (hL 0 r)):=by unfold Bw;rw[Ip a,aO rfl];unfold a9;exact ajZ dd _ 0 r (lk (lF (eI a) dd)) a (by grind)
def qh{α β:Type}(e:cH)(m:ak α)(cv:α->aa->aq->β)(F:an->Option (bo an β)):Prop:=∀r pd,dP e r pd->aT e r (m r pd) cv (F (e.st r pd))
def a_(fr:Bool):Nat->ak Unit
 |0=>dH none
 |n+1=>dH (some (aZ fr n))
theorem w3(fr:Bool)(n:Nat):(aZ fr n).dl=a_ fr n:=by cases n<;>rfl
structure Cs(R:bh)(n:Nat):Prop where
 im:∀e:cH,e.ne=30- (n:Int)->qh e (jc 34 (cC (a_ false n) none)) (λ_=>e.st) (λx=>R.xS x 34 false)
structure LZ(R:bh)(n:Nat):Prop where
 im:∀e:cH,e.ne=30- (n:Int)->qh e (jc 125 (cC (a_ false n) (some (eH (a_ false n))))) (λ_=>e.st) (λx=>R.xS x 125 true)
structure w4(R:bh)(n:Nat):Prop where
 im:∀(e:cH)(c:Ctx)(no:Bool),c≠ .text->e.ne=30- (n:Int)->qh e ((aZ false n).ls c no) (λa r pd=>((a:Int),e.st r pd)) (λx=>R.kg x (Cr c) no)
theorem aT.aM{α β:Type}{e:cH}{r0 r:aa}{pd:aq}{m:ak α}{x:aa}{cv:α->aa->aq->β}{y:Option (bo an β)}(h:aT e r0 (m r pd) cv y):aT e r0 (m.aM x r pd) cv y:=by
 unfold ak.aM;cases hm:m r pd with
 |more op nd ds=>rw[hm] at h;exact h
 |ok a r1 b=>grind
 |bad q=>grind
 |deep q=>trivial
def cH.nm(e:cH)(x:aa):cH:=⟨e.S,e.ne,e.op++[x],e.j1⟩
theorem aj0{R:bh}{n:Nat}(gF:Cs R n){e:cH}(bd:e.ne=30- (n:Int)){t:aa}{pd:aq}(h:dP e (34::t) pd):aT e t (eH (a_ false n) t pd) (λ_=>e.st) (Hc R (e.st (34::t) pd)):=by
 unfold Hc;have l:=h.w2;refine cast (mj _ (b8 (show(e.st (34::t) pd).2.2.2.2.1.length+_<=536870912 by show e.op.length+1<=_;omega)).symm) ?_
 have c:dP (e.nm [34]) t pd:=⟨h.bY,dY h.sfx,by have:=h.jJ;simp only[mi] at this;show _<=e.S.length;omega,by have:=h.ops;simp only[mi] at this;show(e.op++[[34]]).length+_<=_;simp only[C2,Np];show _<=e.S.length+1;omega⟩
 have hu:=gF.im (e.nm [34]) bd t pd c;have d:W (ay e.S (34::t)+1)=ay e.S t:=iK h.bY h.sfx;have f:((e.st (34::t) pd).1,(W ((e.st (34::t) pd).2.1+1)),(e.st (34::t) pd).2.2.1,(e.st (34::t) pd).2.2.2.1,((e.st (34::t) pd).2.2.2.2.1++([([34]:aa)]:bs)),(e.st (34::t) pd).2.2.2.2.2)=(e.nm [34]).st t pd:=by show(e.S,W (ay e.S (34::t)+1),pd,e.ne,e.op++[[34]],e.j1)=_;rw[d];rfl
 rw[f];unfold eH ak.named ak.aM;cases hm:jc 34 (cC (a_ false n) none) t pd with
 |ok a r1 g=>
  rw[hm] at hu;obtain⟨ad,b,i⟩:=hu
  refine⟨ad,⟨h.bY,b.sfx,b.jJ,by have:=b.ops;have j:(e.nm [34]).op.length=e.op.length+1:=by simp[cH.nm]
                                rw[j] at this;have m:(e.nm [34]).S=e.S:=rfl;grind⟩,?_⟩
  rw[e1 i];have k:W (((e.op++[[34]]).length:Int)-1)=e.op.length:=by grind[dU,List.length_append,List.length_singleton]
  have hl:((e.nm [34]).st r1 g).2.2.2.2.1=e.op++[[34]]:=rfl;simp only[hl,k];refine(b8 (by grind)).trans ?_;have:b9 (e.op++[[34]]) 0 (e.op.length:Int)=e.op:=by simp[b9]
  rw[this];rfl
 |more op nd ds=>rw[hm] at hu;obtain⟨st,ad,b⟩:=hu;exact⟨st,hy ad,by grind[cH.nm]⟩
 |bad q=>rw[hm] at hu;obtain⟨ad,st,b⟩:=hu;exact⟨ad,st,hy b⟩
 |deep q=>trivial
def L0(e:cH)(b:UInt8)(t:aa)(pd:aq)(m:dt Unit)(y:Option (bo an (Bool×an))):Prop:=match m with
 | .ok _ r' a=>r'<:+t/\dP e r' a/\(y=some (.inr (true,e.st r' a))\/(y=some (.inr (false,e.st (b::t) pd))/\r'=t/\a=pd))
 | .more op _ _=>LV e op y
 | .bad r=>r<:+e.S/\∃st,y=some (.inl (2,ay e.S r,st))
 | .deep _=>True
theorem dP.fj{e:cH}{r t:aa}{pd:aq}{x:aa}(h:dP e r pd)(a:t<:+r)(hl:t.length<r.length):dP (e.fj x) t pd:=
 ⟨h.bY,a.trans h.sfx,by have:=h.jJ;show _<=e.S.length;omega,by have:=h.ops;show(e.op++[x]).length+_<=e.S.length+1;grind⟩
theorem dP.out{e:cH}{r:aa}{pd:aq}{x:aa}(h:dP (e.fj x) r pd):dP e r pd:=
 ⟨h.bY,h.sfx,h.jJ,by
  have:=h.ops;have a:(e.fj x).op.length=e.op.length+1:=by simp[cH.fj]
  have b:(e.fj x).S=e.S:=rfl;grind⟩
theorem aj1{α β:Type}{R:bh}{e:cH}{r t:aa}{pd:aq}{x:aa}{p:Int}{m:ak α}{cv:α->aa->aq->β}{F:an->Option (bo an β)}{k:β->Option (bo an an)}{G:an->an}
  (ad:0<=e.ne) (f:e.ne<30) (h:dP e r pd) (i:t<:+r) (hl:t.length<r.length) (g:G ((e.fj x).st r pd)=(e.fj x).st t pd)
  (hm:aT (e.fj x) t (m t pd) cv (F ((e.fj x).st t pd)))
  (hk:∀a r1 b,m t pd= .ok a r1 b->dP (e.fj x) r1 b->k (cv a r1 b)=some (.inr (e.st r1 b))):
  aT e t (ae (m.named x) (λ_=>aU ()) t pd) (λ_=>e.st) (ba (x1 (e.st r pd) p x) (λx=>x) λy=>ba (F (G y)) (λx=>x) k):=by
 rw[e1 (LX h ad f),g];have:=hm.named;unfold ae;cases ax:(m.named x) t pd with
 |ok a r1 b=>rw[ax] at this;obtain⟨c,d,j⟩:=this;have l:=Ce.1 ax;exact⟨c,d.out,by grind[e1]⟩
 |more op nd ds=>rw[ax] at this;obtain⟨st,c,d⟩:=this;exact⟨st,hy c,d⟩
 |bad q=>rw[ax] at this;obtain⟨c,st,d⟩:=this;exact⟨c,st,hy d⟩
 |deep q=>trivial
theorem aT.dV{α β:Type}{e:cH}{r0:aa}{m:dt α}{cv:α->aa->aq->β}{y a:Option (bo an β)}(h:aT e r0 m cv y)(b:a=y):aT e r0 m cv a:=b▸h
theorem E5(m:ak Unit)(r:aa)(pd:aq):ae m (λ_=>aU ()) r pd=m r pd:=by unfold ae;cases m r pd<;>rfl
theorem X4(fr:Bool)(n:Nat):(aZ fr n).pm=qJ (a_ fr n):=by cases n<;>rfl
theorem aj2{R:bh}{n:Nat}(gF:∀m,n=m+1->LZ R m){e:cH}(bd:e.ne=30- (n:Int))(ax:n<=30){u:aa}{pd:aq}(h:dP e (36::123::u) pd):
  aT e u (a_ false n (36::123::u) pd) (λ_=>e.st) (wG R (e.st (36::123::u) pd)):=by
 cases n with
 |zero=>show aT e u (dH none _ _) _ _;unfold dH;rw[aW (by simp),aW (by simp),bm (by simp)];trivial
 |succ m=>
  have hu:=(gF m rfl).im (e.fj [36,123]) (by show e.ne+1=_;omega);have f:W (ay e.S (36::123::u)+2)=ay e.S u:=ko (w:=[36,123]) h.bY h.sfx;have c:W (ay e.S (36::123::u)+1)=ay e.S (123::u):=iK h.bY h.sfx;have d:u<:+36::123::u:=(eb 123 u).trans (eb 36 _);have hm:=aT.aM (x:=[125]) (hu u pd (h.fj d (by grind)));have:=aj1 (R:=R) (p:=ay e.S (36::123::u)) (F:=λx=>R.xS x 125 true) (G:=λy=>(y.1,(W (y.2.1+2)),y.2.2.1,y.2.2.2.1,y.2.2.2.2.1,y.2.2.2.2.2)) (k:=λg=>av (tV g) λb=>some (.inr (b.1,b.2.1,b.2.2.1,b.2.2.2.1,b.2.2.2.2.1,b.2.2.2.2.2)))
   (by omega) (by omega) h d (by grind) (by show(e.S,W (ay e.S (36::123::u)+2),pd,e.ne+1,e.op++[[36,123]],e.j1)=_;rw[f];rfl) hm
   (λa r1 i _ _=>by rw[LY h.w2 (by omega) (by omega)];rfl)
  rw[E5] at this;have aC:a_ false (m+1) (36::123::u) pd=((aZ false m).pm.named [36,123]) u pd:=by rfl
  rw[aC,X4];refine aT.dV this ?_
  ·unfold wG a9;refine(b8 (show 0<=W (ay e.S (36::123::u)+1)/\W (ay e.S (36::123::u)+1)<(e.S.length:Int) by rw[c];exact hR (dY h.sfx))).trans ?_;have:((at' (e.st (36::123::u) pd).1 (W ((e.st (36::123::u) pd).2.1+1))).toNat:Int)=123:=by show((at' e.S (W (ay e.S (36::123::u)+1))).toNat:Int)=123;rw[c,jw (dY h.sfx)];rfl
   simp only[this,bx,aK];rfl
theorem X5:∀(r:aa)(d:Nat)(q:aa),hL d r= .bad q->q<:+r
 |[],d,q,h=>by grind[hL]
 |b::t,d,q,h=>by
  have a:=λd=>X5 t d;unfold hL at h;split at h
  ·cases h;exact fK
  ·split at h
   ·exact((a _) q h).trans (eb b t)
   ·split at h
    ·split at h
     ·exact((a _) q h).trans (eb b t)
     ·split at h
      ·cases h
      ·split at h
       ·cases h
       ·cases h;exact fK
    ·exact((a _) q h).trans (eb b t)
theorem aj3{R:bh}{n:Nat}{e:cH}{u:aa}{pd:aq}(h:dP e (36::40::40::u) pd):
  aT e u (a_ false n (36::40::40::u) pd) (λ_=>e.st) (wG R (e.st (36::40::40::u) pd)):=by
 have aC:a_ false n (36::40::40::u) pd=nk u pd:=by
  cases n with
  |zero=>rfl
  |succ m=>rfl
 rw[aC];have c:W (ay e.S (36::40::40::u)+1)=ay e.S (40::40::u):=iK h.bY h.sfx;have d:W (ay e.S (36::40::40::u)+2)=ay e.S (40::u):=ko (w:=[36,40]) h.bY h.sfx;have f:W (ay e.S (36::40::40::u)+3)=ay e.S u:=ko (w:=[36,40,40]) h.bY h.sfx;have hu:u<:+e.S:=dY (dY (dY h.sfx));have g:u<:+36::40::40::u:=(gQ [36,40,40] u);unfold wG a9;simp only[cH.st,c,d,f,jw (dY h.sfx),jw (dY (dY h.sfx)),Cq,Cp];refine aT.dV ?_ (b8 (hR (dY h.sfx)));simp only[show¬((40:UInt8)=123) by decide,bF,aS];refine aT.dV ?_ (b8 (λ_=>hR (dY (dY h.sfx))));simp only[m4 (dY (dY h.sfx)),bx,aK,X3 h.bY hu];refine aT.dV ?_ (aO rfl);unfold nk;cases b:hL 0 u with
 |ok q=>
  have a:=Ae 0 u q b;have h0:¬ay e.S q= -1:=by grind[eI,ay]
  have ad:¬ay e.S q= -2:=by grind[eI,ay]
  refine⟨a,h.mono (a.trans g),?_⟩;simp[qg,h0,ad];rfl
 |more k=>simp only[qg,bx,aK];exact LW rfl rfl h.w2 λ_=>rfl
 |bad q=>have a:=X5 u 0 q b;refine⟨a.trans hu,?_⟩;simp only[qg,show¬((-2:Int)= -1) by decide,bF,aS,bx,aK];exact⟨_,rfl⟩
theorem X6{σ α:Type}{f:σ->ak (σ⊕α)}{Q:aa->Prop}(hf:∀s r pd a r' b,f s r pd= .ok (.inr a) r' b->Q r'):∀(N:Nat)(s:σ)(r:aa)(pd:aq)(a:α)(r':aa)(b:aq),r.length<=N->ca f s r pd= .ok a r' b->Q r':=by
 intro N;induction N with
 |zero=>intro s r pd a r' b c h;rw[cF] at h;unfold cN at h;grind
 |succ N d=>intro s r pd a r' b c h;rw[cF] at h;unfold cN at h;grind
theorem Iq{x r:aa}{pd:aq}{t:Tok}{r':aa}{a:aq}(h:bP x r pd= .ok t r' a):bu r=some r'/\t=au r'/\a=pd:=by
 unfold bP at h;split at h
 ·grind[b6]
 grind
theorem yC{ao:ak Unit}{c:Ctx}{no:Bool}(aG:c≠ .text){r:aa}{pd:aq}{a:Nat}{r':aa}{d:aq}(h:od ao c no r pd= .ok a r' d):bu r'=some r'/\dR c (au r')=true:=by
 rw[uw] at h;obtain⟨_,r1,v,_,h⟩:=b0 h;refine X6 (Q:=λr'=>bu r'=some r'/\dR c (au r')=true) (λs r pd a r' d h=>?_) _ _ _ _ _ _ _ (cX _) h;unfold ed at h;generalize (if(no||decide (s>0))=true then([]:aa) else [120])=k at h;obtain⟨t,e,x,ad,g⟩:=b0 h;clear h;obtain⟨l,rfl,rfl⟩:=Iq ad;have y:=lD _ _ _ (cX _) l;by_cases he:au e= .eof
 ·simp_all[bm,aW,b6]
 rw[aW he] at g;by_cases f:((no||decide (s>0))&&dR c (au e))=true
 ·rw[bm f] at g;cases g;grind
 rw[aW f] at g;obtain⟨_,z,A,_,g⟩:=b0 g;obtain⟨t,m,B,n,b⟩:=b0 g;clear g;obtain⟨q,rfl,rfl⟩:=Iq n;have u:=lD _ _ _ (cX _) q;cases hk:au m with
 |eof=>rw[hk] at b;cases b
 |line=>rw[hk] at b;obtain⟨_,_,_,_,b⟩:=b0 b;cases b
 |word w p=>rw[hk] at b;cases b
 |op o=>
  rw[hk] at b;unfold hQ at b;simp only at b;by_cases i:o=[59]\/o=[38]
  ·rw[bm i] at b;obtain⟨_,_,_,_,b⟩:=b0 b;obtain⟨_,_,_,_,b⟩:=b0 b;cases b
  ·rw[aW i] at b;by_cases j:dR c (.op o)=true
   ·rw[bm j] at b;cases b;grind
   ·rw[aW j] at b;cases b
theorem E6{o v:aa}{pd:aq}(a:bu v=some v)(b:au v= .op o):jI o v pd= .ok () (v.drop o.length) pd:=by unfold jI m2;rw[aY (cA a),b,aW (by simp)];simp[bZ]
theorem X7{e:cH}{v:aa}{pd:aq}{o:aa}(h:dP e v pd)(a:bu v=some v)(b:au v= .op o):v.drop o.length<:+v/\rV (e.st v pd) o=some (.inr (e.st (v.drop o.length) pd)):=by have:=LR o h;rw[E6 a b] at this;exact⟨this.1,this.2.2⟩
theorem X8{R:bh}{n:Nat}(bk:∀m,n=m+1->w4 R m){e:cH}(bd:e.ne=30- (n:Int))(ax:n<=30){u:aa}{pd:aq}(hu:u.head?≠some 40)(h:dP e (36::40::u) pd):
  aT e u (a_ false n (36::40::u) pd) (λ_=>e.st) (wG R (e.st (36::40::u) pd)):=by
 have g:¬([36,40,40]:aa).isPrefixOf (36::40::u)=true:=by
  cases u with
  |nil=>simp
  |cons c v=>grind
 cases n with
 |zero=>show aT e u (dH none _ _) _ _;unfold dH;rw[aW g,bm (by simp)];trivial
 |succ m=>
  have hl:=(bk m rfl).im (e.fj [36,40]) .paren true (by simp) (by show e.ne+1=_;omega);have i:W (ay e.S (36::40::u)+2)=ay e.S u:=ko (w:=[36,40]) h.bY h.sfx;have j:W (ay e.S (36::40::u)+1)=ay e.S (40::u):=iK h.bY h.sfx;have t:u<:+36::40::u:=(eb 40 u).trans (eb 36 _);have y:=h.fj (x:=[36,40]) t (by grind);have hm:=aT.aM (x:=[41]) (hl u pd y);have aC:a_ false (m+1) (36::40::u) pd=uq (aZ false m) u pd:=by show dH (some (aZ false m)) _ _=_;unfold dH;rw[aW g,bm (by simp)];rfl
  rw[aC];unfold wG a9;refine aT.dV ?_ (b8 (show 0<=W (ay e.S (36::40::u)+1)/\W (ay e.S (36::40::u)+1)<(e.S.length:Int) by rw[j];exact hR (dY h.sfx)));simp only[cH.st,j,i,jw (dY h.sfx),Cq,Cp];simp only[show¬((40:UInt8)=123) by decide,bF,aS];have bq:decide (ay e.S u<(e.S.length:Int))=true->0<=ay e.S u/\ay e.S u<(e.S.length:Int):=by
   intro z;cases u with
   |nil=>grind[ig]
   |cons c v=>exact hR (dY (dY h.sfx))
  refine aT.dV ?_ (b8 bq);have hf:(bif decide (ay e.S u<(e.S.length:Int)) then decide (at' e.S (ay e.S u)=40) else false)=false:=by
   cases u with
   |nil=>simp[ig]
   |cons c v=>have:¬c=40:=λz=>hu (by grind);simp[jw (dY (dY h.sfx)),this]
  simp only[hf,aS];have A:=LX (p:=ay e.S (36::40::u)) (x:=[36,40]) h (by omega) (by omega);refine aT.dV ?_ (e1 A);have B:(((e.fj [36,40]).st (36::40::u) pd).1,(W (((e.fj [36,40]).st (36::40::u) pd).2.1+2)),((e.fj [36,40]).st (36::40::u) pd).2.2.1,((e.fj [36,40]).st (36::40::u) pd).2.2.2.1,((e.fj [36,40]).st (36::40::u) pd).2.2.2.2.1,((e.fj [36,40]).st (36::40::u) pd).2.2.2.2.2)=(e.fj [36,40]).st u pd:=by show(e.S,W (ay e.S (36::40::u)+2),pd,e.ne+1,e.op++[[36,40]],e.j1)=_;rw[i];rfl
  rw[B];unfold uq;have b:=hm.named;unfold ae;cases hk:(((aZ false m).ls .paren true).aM [41]).named [36,40] u pd with
  |ok a r1 C=>
   rw[hk] at b;obtain⟨f,d,D⟩:=b;have k:=jv.1 (Ce.1 hk);rw[EN] at k;obtain⟨l,H⟩:=yC (by simp) k;have o:au r1= .op [41]:=by grind[dR]
   obtain⟨s,E⟩:=X7 d l o;simp only;rw[E6 l o];have F:=(d.mono s);refine⟨s.trans f,F.out,?_⟩;refine(e1 D).trans ((e1 E).trans ?_);have G:=LY (r:=r1.drop 1) (pd:=C) (x:=[36,40]) h.w2 (show 0<=e.ne by omega) (by omega);exact(aO G).trans rfl
  |more op nd ds=>rw[hk] at b;obtain⟨st,f,d⟩:=b;exact⟨st,hy f,d⟩
  |bad q=>rw[hk] at b;obtain⟨f,st,d⟩:=b;exact⟨f,st,hy d⟩
  |deep q=>trivial
structure Below(R:bh)(n:Nat):Prop where
 le:n<=30
 u1:∀m,n=m+1->LZ R m
 ls:∀m,n=m+1->w4 R m
theorem X9{R:bh}{n:Nat}(a:Below R n){e:cH}(bd:e.ne=30- (n:Int)){b:UInt8}{t:aa}{pd:aq}(f:ga (b::t)=true)(h:dP e (b::t) pd):
  aT e t (a_ false n (b::t) pd) (λ_=>e.st) (wG R (e.st (b::t) pd)):=by
 rw[sm] at f;cases t with
 |nil=>grind
 |cons c u=>
  simp only[hE,AN,TQ] at f;obtain⟨rfl,rfl|rfl⟩:=f
  ·cases u with
   |nil=>exact(X8 a.ls bd a.le (by simp) h).mono (eb _ _)
   |cons d v=>
    by_cases aH:d=40
    ·subst aH;exact(aj3 (n:=n) h).mono ((eb _ _).trans (eb _ _))
    ·exact(X8 a.ls bd a.le (by grind) h).mono (List.suffix_cons _ _)
  ·exact(aj2 a.u1 bd a.le h).mono (eb _ _)
theorem X_{R:bh}{n:Nat}(M:Below R n)(i:Bool)(gF:i=true->Cs R n){e:cH}(bd:e.ne=30- (n:Int)){b:UInt8}{t:aa}{pd:aq}(h:dP e (b::t) pd):
  L0 e b t pd (cC (a_ false n) (if i then some (eH (a_ false n)) else none) (b::t) pd) (zA R (e.st (b::t) pd) i):=by
 have j:t<:+b::t:=eb b t;have D:=iK h.bY h.sfx;have v:W (ay e.S (b::t)+1)=ay e.S t:=D;unfold zA a9;have bq:0<=(e.st (b::t) pd).2.1/\(e.st (b::t) pd).2.1<((e.st (b::t) pd).1.length:Int):=hR h.sfx;rw[b8 bq];have E:at' (e.st (b::t) pd).1 (e.st (b::t) pd).2.1=b:=jw h.sfx;simp only[E,mC,qQ,nS,nT];unfold cC;simp only;by_cases k:b=92
 ·subst k;simp only[bx,aK,cG];have F:min (W (ay e.S (92::t)+2)) (e.S.length:Int)=ay e.S (t.drop 1):=by
   have hl:=eI h.sfx;have N:=h.bY;cases t with
   |nil=>
    have:W (ay e.S [92]+2)=(e.S.length:Int)+1:=by grind[ay,dU,List.length_singleton]
    grind[ig]
   |cons c u=>have O:W (ay e.S (92::c::u)+2)=ay e.S u:=ko (w:=[92,c]) h.bY h.sfx;grind[oQ]
  refine⟨lE 1 t,h.mono ((lE 1 t).trans j),.inl ?_⟩;show some (Sum.inr (true,e.S,min (W (ay e.S (92::t)+2)) (e.S.length:Int),pd,e.ne,e.op,e.j1))=_;rw[F];rfl
 rw[aW k];simp only[k,bF,aS];have z:∀(o:Option aa)(x:aa),(∀q,o=some q->q<:+t)->L0 e b t pd (match o with|some r'=>dt.ok () r' pd|none=> .more [x] x pd)
   (bif decide (kS e.S o<0) then ba (wB ((e.st (b::t) pd).1,kS e.S o,(e.st (b::t) pd).2.2.1,(e.st (b::t) pd).2.2.2.1,(e.st (b::t) pd).2.2.2.2.1,(e.st (b::t) pd).2.2.2.2.2) x) (λx=>x) (λy=>Empty.elim y)
    else some (.inr (true,(e.st (b::t) pd).1,kS e.S o,(e.st (b::t) pd).2.2.1,(e.st (b::t) pd).2.2.2.1,(e.st (b::t) pd).2.2.2.2.1,(e.st (b::t) pd).2.2.2.2.2))):=by
  intro o x l;cases o with
  |none=>simp only[kS,show((-1:Int)<0) from by decide,bx,aK];exact LW rfl rfl h.w2 λ_=>rfl
  |some q=>
   have d:=l q rfl;have h0:¬ay e.S q<0:=by have:=eI (d.trans (j.trans h.sfx));grind[ay]
   simp only[kS,h0,bF,aS];exact⟨d,h.mono (d.trans j),.inl rfl⟩
 have G:Bz (e.st (b::t) pd).1 (W ((e.st (b::t) pd).2.1+1))=some (kS e.S (gX t)):=by show Bz e.S (W (ay e.S (b::t)+1))=_;rw[v];exact ajY h.bY (dY h.sfx)
 have H:vh (e.st (b::t) pd).1 (W ((e.st (b::t) pd).2.1+1))=some (kS e.S (gb t)):=by show vh e.S (W (ay e.S (b::t)+1))=_;rw[v];exact X2 h.bY (dY h.sfx)
 have A:Bn (e.st (b::t) pd).1 (e.st (b::t) pd).2.1=some (ga (b::t)):=XT h.bY h.sfx
 have I:∀(m:dt Unit)(y:Option (bo an an)),aT e t m (λ_=>e.st) y->L0 e b t pd m (ba y (λx=>x) λy=>some (.inr (true,y.1,y.2.1,y.2.2.1,y.2.2.2.1,y.2.2.2.2.1,y.2.2.2.2.2))):=by
  intro m y hm;cases m with
  |ok a r1 P=>obtain⟨f,g,J⟩:=hm;exact⟨f,g,.inl (by rw[e1 J])⟩
  |more op nd ds=>obtain⟨st,f,g⟩:=hm;exact⟨st,hy f,g⟩
  |bad q=>obtain⟨f,st,g⟩:=hm;exact⟨f,st,hy g⟩
  |deep q=>trivial
 have K:L0 e b t pd (dt.ok () t pd) (some (.inr (false,e.st (b::t) pd))):=⟨fK,h.mono j,.inr ⟨rfl,rfl,rfl⟩⟩;by_cases r:b=96
 ·subst r;simp only[bx,aK,cG,show¬((96:UInt8)=39) by decide,bF,aS];rw[G,aO rfl];unfold jq;exact z (gX t) [96] λq d=>EU _ _ q (cX _) d
 rw[aW r];simp only[r,bF,aS];cases i with
 |true=>
  by_cases B:b=39
  ·subst B;simp only[bx,aK,cG];have s:ga (39::t)=false:=by rfl
   rw[s,H,aO rfl];unfold jq;exact z (gb t) [39] λq d=>Ag _ q d
  simp only[B,bF,aS];by_cases C:b=34
  ·subst C;have s:ga (34::t)=false:=by rfl
   rw[s];simp only[bx,aK,cG,eC,cm,show¬((34:UInt8)=39) by decide];exact I _ _ (aj0 (gF rfl) bd h)
  simp only[C,bF,aS];rw[A,aO rfl];cases l:ga (b::t) with
  |true=>simp_all[aK,cG,X9]
  |false=>grind
 |false=>
  have L:∀p:Prop,∀[Decidable p],(bif decide p then false else false)=false:=by simp
  simp only[L,aS];rw[A,aO rfl];cases l:ga (b::t) with
  |true=>simp_all[aK,cG,X9]
  |false=>grind
theorem Ya{R:bh}{n:Nat}(w:Below R n)(g:Bool)(gF:g=true->Cs R n){e:cH}(bd:e.ne=30- (n:Int))(c:UInt8):
  qh e (jc c (cC (a_ false n) (if g then some (eH (a_ false n)) else none))) (λ_=>e.st) (λx=>Hw R x c g):=by
 intro r pd h;unfold jc Hw;refine aT.rep (en:=λ_ r pd=>e.st r pd) (λk s r1 d ad hk=>?_) bC () r pd (lk (lF (eI h.sfx) h.bY)) h;unfold Qa a9;cases r1 with
 |nil=>
  have hl:decide (((e.st [] d).1.length:Int)<=(e.st [] d).2.1)=true:=by simp[cH.st,ig]
  show aT e [] (cN _ [] (b6 [] [] d)) _ (bif decide (((e.st [] d).1.length:Int)<=(e.st [] d).2.1) then _ else _);rw[hl];exact aT.XR (k:=λy=>Empty.elim y) (f:=λx=>(x.1,x.2.1,d,x.2.2.2.1,e.op,x.2.2.2.2.2)) c2.k rfl rfl
 |cons b t=>
  have hl:decide (((e.st (b::t) d).1.length:Int)<=(e.st (b::t) d).2.1)=false:=by grind[m4,ay,cH.st]
  show aT e (b::t) (cN _ (b::t) (if b=c then _ else _)) _ (bif decide (((e.st (b::t) d).1.length:Int)<=(e.st (b::t) d).2.1) then _ else _);rw[hl];simp only[aS];refine aT.dV ?_ (b8 (hR ad.sfx));have A:at' (e.st (b::t) d).1 (e.st (b::t) d).2.1=b:=jw ad.sfx;have m:t<:+b::t:=eb b t;by_cases aG:b=c
  ·subst aG;rw[bm rfl];refine aT.dV ?_ (show(bif decide (((at' (e.st (b::t) d).1 (e.st (b::t) d).2.1).toNat:Int)=(b.toNat:Int)) then _ else _)=some (.inr (e.S,W (ay e.S (b::t)+1),d,e.ne,e.op,e.j1)) by grind);rw[iK ad.bY ad.sfx];exact aT.inr m (ad.mono m) rfl
  ·rw[aW aG];have aH:decide (((at' (e.st (b::t) d).1 (e.st (b::t) d).2.1).toNat:Int)=(c.toNat:Int))=false:=by grind[qR]
   refine aT.dV (y:=ba (zA R (e.st (b::t) d) g) (λx=>x) λz=>bif !z.1 then k (z.2.1,W (z.2.2.1+1),z.2.2.2.1,z.2.2.2.2.1,z.2.2.2.2.2.1,z.2.2.2.2.2.2) else k z.2) ?_ (by show(bif decide (((at' (e.st (b::t) d).1 (e.st (b::t) d).2.1).toNat:Int)=(c.toNat:Int)) then _ else _)=_;rw[aH];rfl)
   have aC:=X_ w g gF bd ad;unfold ae;cases hm:cC (a_ false n) (if g=true then some (eH (a_ false n)) else none) (b::t) d with
   |ok a o p=>
    rw[hm] at aC;obtain⟨i,j,l⟩:=aC;have u:o.length<(b::t).length:=by grind
    refine aT.inl u ?_;have v:=hk () o p (i.trans m) j u;rcases l with l|⟨l,rfl,rfl⟩
    ·rw[e1 l];exact v
    ·rw[e1 l];show aT e _ _ _ (k (e.S,W (ay e.S (b::o)+1),p,e.ne,e.op,e.j1));rw[iK ad.bY ad.sfx];exact v
   |more op nd ds=>rw[hm] at aC;obtain⟨st,i,j⟩:=aC;exact⟨st,hy i,j⟩
   |bad q=>rw[hm] at aC;obtain⟨i,st,j⟩:=aC;exact⟨i,st,hy j⟩
   |deep q=>trivial
theorem aj4{k n:Nat}(a:Below (kz k) n):Cs (kz (k+1)) n:=⟨λe bd=>Ya a false (λh=>by cases h) bd 34⟩
theorem aj5{k n:Nat}(a:Below (kz k) n)(gF:Cs (kz k) n):LZ (kz (k+1)) n:=⟨λe bd=>Ya a true (λ_=>gF) bd 125⟩
structure th(R:bh)(n:Nat):Prop extends Below R n where
 u0:Cs R n
theorem L1{t:Tok}:(jg t).1=3↔ ∃w p,t= .word w p:=by cases t<;>simp[jg]
def aj6:an->Option (bo an an):=λx=>bif decide (x.2.1=(x.1.length:Int)) then ba (q6 x) (λy=>(y.1,y.2.1,x.2.2.1,y.2.2.2.1,x.2.2.2.2.1,y.2.2.2.2.2)) λy=>Empty.elim y else some (.inr x)
end Go.Eng
