/- The walks of the functions that FnExactEmacsKey reaches: what each computes, as a plain function (M_..), and that the model computes it (ok_..). Condition of each: that the plain function answers. -/
import Derived.Test.YtlpgcohnjhomgaaGreatEngB
import Derived.Test.YtlpgcohnjhomgaaGreatChecked
set_option linter.unusedVariables false
set_option linter.unusedSimpArgs false
namespace Go.Eng
open Go Go.Proofs
noncomputable section

abbrev EdQ:=Bool×Int×(List Int×Int)×Int×Int×Int×Int×Int×Int×Int×List (List Int)×(List (List Int×Int))×Int×(List Int×Int)×List Int×Int×List Int×Int
@[reducible] def oP (x:Bool×Int×(List Int×Int)×Int×Int×Int×Int×Int×Int×Int×List (List Int)×(List (List Int×Int))×Int×(List Int×Int)×List Int×Int×List Int×Int) (a1:Option Addr) (c1:Nat) (a2:Option Addr) (c2:Nat) (a3:Option Addr) (c3:Nat) (a4:Option Addr) (c4:Nat) (a5:Option Addr) (c5:Nat) (a6:Option Addr) (c6:Nat):List Value:=[.bool x.1,.int .i64 x.2.1,.slice a1 x.2.2.1.1.length c1,.int .i64 x.2.2.1.2,.int .i64 x.2.2.2.1,.int .i64 x.2.2.2.2.1,.int .i64 x.2.2.2.2.2.1,.int .i64 x.2.2.2.2.2.2.1,.int .i64 x.2.2.2.2.2.2.2.1,.int .i64 x.2.2.2.2.2.2.2.2.1,.int .i64 x.2.2.2.2.2.2.2.2.2.1,.slice a2 x.2.2.2.2.2.2.2.2.2.2.1.length c2,.slice a3 x.2.2.2.2.2.2.2.2.2.2.2.1.length c3,.int .i64 x.2.2.2.2.2.2.2.2.2.2.2.2.1,.slice a4 x.2.2.2.2.2.2.2.2.2.2.2.2.2.1.1.length c4,.int .i64 x.2.2.2.2.2.2.2.2.2.2.2.2.2.1.2,.slice a5 x.2.2.2.2.2.2.2.2.2.2.2.2.2.2.1.length c5,.int .i64 x.2.2.2.2.2.2.2.2.2.2.2.2.2.2.2.1,.slice a6 x.2.2.2.2.2.2.2.2.2.2.2.2.2.2.2.2.1.length c6,.int .i64 x.2.2.2.2.2.2.2.2.2.2.2.2.2.2.2.2.2]
@[reducible] def oO (x:Bool×Int×(List Int×Int)×Int×Int×Int×Int×Int×Int×Int×List (List Int)×(List (List Int×Int))×Int×(List Int×Int)×List Int×Int×List Int×Int) (a1:Option Addr) (c1:Nat) (a2:Option Addr) (c2:Nat) (a3:Option Addr) (c3:Nat) (a4:Option Addr) (c4:Nat) (a5:Option Addr) (c5:Nat) (a6:Option Addr) (c6:Nat):List Value:=[.bool x.1,.int .i64 x.2.1,.slice a1 x.2.2.1.1.length c1,.int .i64 x.2.2.1.2,.int .i64 x.2.2.2.1,.int .i64 x.2.2.2.2.1,.int .i64 x.2.2.2.2.2.1,.int .i64 x.2.2.2.2.2.2.1,.int .i64 x.2.2.2.2.2.2.2.1,.int .i64 x.2.2.2.2.2.2.2.2.1,.int .i64 x.2.2.2.2.2.2.2.2.2.1,.slice a2 x.2.2.2.2.2.2.2.2.2.2.1.length c2,.slice a3 x.2.2.2.2.2.2.2.2.2.2.2.1.length c3,.int .i64 x.2.2.2.2.2.2.2.2.2.2.2.2.1,.slice a4 x.2.2.2.2.2.2.2.2.2.2.2.2.2.1.1.length c4,.int .i64 x.2.2.2.2.2.2.2.2.2.2.2.2.2.1.2,.slice a5 x.2.2.2.2.2.2.2.2.2.2.2.2.2.2.1.length c5,.int .i64 x.2.2.2.2.2.2.2.2.2.2.2.2.2.2.2.1,.slice a6 x.2.2.2.2.2.2.2.2.2.2.2.2.2.2.2.2.1.length c6,.int .i64 x.2.2.2.2.2.2.2.2.2.2.2.2.2.2.2.2.2]
theorem E {α:Sort _} {a:α}:a=a:=rfl
theorem V:True:=trivial
@[reducible] def I (x:Int):Value:=.int .i64 x
abbrev Q4 {A0 A1 A2 A3 A4:Type} (x:A0×A1×A2×A3×A4):A4:=x.2.2.2.2
abbrev Q8 {A0 A1 A2 A3 A4 A5 A6 A7 A8:Type} (x:A0×A1×A2×A3×A4×A5×A6×A7×A8):A8:=x.2.2.2.2.2.2.2.2
abbrev Q12 {A0 A1 A2 A3 A4 A5 A6 A7 A8 A9 A10 A11 A12:Type} (x:A0×A1×A2×A3×A4×A5×A6×A7×A8×A9×A10×A11×A12):A12:=x.2.2.2.2.2.2.2.2.2.2.2.2
abbrev Q16 {A0 A1 A2 A3 A4 A5 A6 A7 A8 A9 A10 A11 A12 A13 A14 A15 A16:Type} (x:A0×A1×A2×A3×A4×A5×A6×A7×A8×A9×A10×A11×A12×A13×A14×A15×A16):A16:=x.2.2.2.2.2.2.2.2.2.2.2.2.2.2.2.2
abbrev Q20 {A0 A1 A2 A3 A4 A5 A6 A7 A8 A9 A10 A11 A12 A13 A14 A15 A16 A17 A18 A19 A20:Type} (x:A0×A1×A2×A3×A4×A5×A6×A7×A8×A9×A10×A11×A12×A13×A14×A15×A16×A17×A18×A19×A20):A20:=x.2.2.2.2.2.2.2.2.2.2.2.2.2.2.2.2.2.2.2.2
abbrev Q24 {A0 A1 A2 A3 A4 A5 A6 A7 A8 A9 A10 A11 A12 A13 A14 A15 A16 A17 A18 A19 A20 A21 A22 A23 A24:Type} (x:A0×A1×A2×A3×A4×A5×A6×A7×A8×A9×A10×A11×A12×A13×A14×A15×A16×A17×A18×A19×A20×A21×A22×A23×A24):A24:=x.2.2.2.2.2.2.2.2.2.2.2.2.2.2.2.2.2.2.2.2.2.2.2.2
abbrev Q28 {A0 A1 A2 A3 A4 A5 A6 A7 A8 A9 A10 A11 A12 A13 A14 A15 A16 A17 A18 A19 A20 A21 A22 A23 A24 A25 A26 A27 A28:Type} (x:A0×A1×A2×A3×A4×A5×A6×A7×A8×A9×A10×A11×A12×A13×A14×A15×A16×A17×A18×A19×A20×A21×A22×A23×A24×A25×A26×A27×A28):A28:=x.2.2.2.2.2.2.2.2.2.2.2.2.2.2.2.2.2.2.2.2.2.2.2.2.2.2.2.2
abbrev Q32 {A0 A1 A2 A3 A4 A5 A6 A7 A8 A9 A10 A11 A12 A13 A14 A15 A16 A17 A18 A19 A20 A21 A22 A23 A24 A25 A26 A27 A28 A29 A30 A31 A32:Type} (x:A0×A1×A2×A3×A4×A5×A6×A7×A8×A9×A10×A11×A12×A13×A14×A15×A16×A17×A18×A19×A20×A21×A22×A23×A24×A25×A26×A27×A28×A29×A30×A31×A32):A32:=x.2.2.2.2.2.2.2.2.2.2.2.2.2.2.2.2.2.2.2.2.2.2.2.2.2.2.2.2.2.2.2.2
@[reducible] def cz32:List Value:=oP (false,0,([],0),0,0,0,0,0,0,0,[],[],0,([],0),[],0,([],0)) none 0 none 0 none 0 none 0 none 0 none 0
@[reducible] def bF:List Value:=oO (false,0,([],0),0,0,0,0,0,0,0,[],[],0,([],0),[],0,([],0)) none 0 none 0 none 0 none 0 none 0 none 0
@[reducible] def fl32 (x:Bool×Int×(List Int×Int)×Int×Int×Int×Int×Int×Int×Int×List (List Int)×(List (List Int×Int))×Int×(List Int×Int)×List Int×Int×List Int×Int) (a0:Option Addr) (c0:Nat) (a1:Option Addr) (c1:Nat) (a2:Option Addr) (c2:Nat) (a3:Option Addr) (c3:Nat) (a4:Option Addr) (c4:Nat) (a5:Option Addr) (c5:Nat) (l:List Fact):List Fact:=⟨(.int .i64),⟨a0,x.2.2.1.1.length,c0⟩,x.2.2.1.1⟩ :: ⟨(.sl (.int .i64)),⟨a1,x.2.2.2.2.2.2.2.2.2.2.1.length,c1⟩,x.2.2.2.2.2.2.2.2.2.2.1⟩ :: ⟨(.pair (.sl (.int .i64)) (.int .i64)),⟨a2,x.2.2.2.2.2.2.2.2.2.2.2.1.length,c2⟩,x.2.2.2.2.2.2.2.2.2.2.2.1⟩ :: ⟨(.int .i64),⟨a3,x.2.2.2.2.2.2.2.2.2.2.2.2.2.1.1.length,c3⟩,x.2.2.2.2.2.2.2.2.2.2.2.2.2.1.1⟩ :: ⟨(.int .i64),⟨a4,x.2.2.2.2.2.2.2.2.2.2.2.2.2.2.1.length,c4⟩,x.2.2.2.2.2.2.2.2.2.2.2.2.2.2.1⟩ :: ⟨(.int .i64),⟨a5,x.2.2.2.2.2.2.2.2.2.2.2.2.2.2.2.2.1.length,c5⟩,x.2.2.2.2.2.2.2.2.2.2.2.2.2.2.2.2.1⟩ :: l
@[reducible] def fl46 (x:Bool×Int×(List Int×Int)×Int×Int×Int×Int×Int×Int×Int×List (List Int)×(List (List Int×Int))×Int×(List Int×Int)×List Int×Int×List Int×Int) (a0:Option Addr) (c0:Nat) (a1:Option Addr) (c1:Nat) (a2:Option Addr) (c2:Nat) (a3:Option Addr) (c3:Nat) (a4:Option Addr) (c4:Nat) (a5:Option Addr) (c5:Nat) (l:List Fact):List Fact:=⟨(.int .i64),⟨a0,x.2.2.1.1.length,c0⟩,x.2.2.1.1⟩ :: ⟨(.sl (.int .i64)),⟨a1,x.2.2.2.2.2.2.2.2.2.2.1.length,c1⟩,x.2.2.2.2.2.2.2.2.2.2.1⟩ :: ⟨(.pair (.sl (.int .i64)) (.int .i64)),⟨a2,x.2.2.2.2.2.2.2.2.2.2.2.1.length,c2⟩,x.2.2.2.2.2.2.2.2.2.2.2.1⟩ :: ⟨(.int .i64),⟨a3,x.2.2.2.2.2.2.2.2.2.2.2.2.2.1.1.length,c3⟩,x.2.2.2.2.2.2.2.2.2.2.2.2.2.1.1⟩ :: ⟨(.int .i64),⟨a4,x.2.2.2.2.2.2.2.2.2.2.2.2.2.2.1.length,c4⟩,x.2.2.2.2.2.2.2.2.2.2.2.2.2.2.1⟩ :: ⟨(.int .i64),⟨a5,x.2.2.2.2.2.2.2.2.2.2.2.2.2.2.2.2.1.length,c5⟩,x.2.2.2.2.2.2.2.2.2.2.2.2.2.2.2.2.1⟩ :: l
abbrev P6:=Option Addr×Nat×Option Addr×Nat×Option Addr×Nat×Option Addr×Nat×Option Addr×Nat×Option Addr×Nat
@[reducible] def cC (x:Bool×Int×(List Int×Int)×Int×Int×Int×Int×Int×Int×Int×List (List Int)×(List (List Int×Int))×Int×(List Int×Int)×List Int×Int×List Int×Int) (p:P6):List Value:=oP x p.1 p.2.1 p.2.2.1 p.2.2.2.1 p.2.2.2.2.1 p.2.2.2.2.2.1 p.2.2.2.2.2.2.1 p.2.2.2.2.2.2.2.1 p.2.2.2.2.2.2.2.2.1 p.2.2.2.2.2.2.2.2.2.1 p.2.2.2.2.2.2.2.2.2.2.1 p.2.2.2.2.2.2.2.2.2.2.2
@[reducible] def bW (x:Bool×Int×(List Int×Int)×Int×Int×Int×Int×Int×Int×Int×List (List Int)×(List (List Int×Int))×Int×(List Int×Int)×List Int×Int×List Int×Int) (p:P6) (l:List Fact):List Fact:=fl32 x p.1 p.2.1 p.2.2.1 p.2.2.2.1 p.2.2.2.2.1 p.2.2.2.2.2.1 p.2.2.2.2.2.2.1 p.2.2.2.2.2.2.2.1 p.2.2.2.2.2.2.2.2.1 p.2.2.2.2.2.2.2.2.2.1 p.2.2.2.2.2.2.2.2.2.2.1 p.2.2.2.2.2.2.2.2.2.2.2 l
@[reducible] def aI (x:Bool×Int×(List Int×Int)×Int×Int×Int×Int×Int×Int×Int×List (List Int)×(List (List Int×Int))×Int×(List Int×Int)×List Int×Int×List Int×Int) (p:P6):List Value:=oO x p.1 p.2.1 p.2.2.1 p.2.2.2.1 p.2.2.2.2.1 p.2.2.2.2.2.1 p.2.2.2.2.2.2.1 p.2.2.2.2.2.2.2.1 p.2.2.2.2.2.2.2.2.1 p.2.2.2.2.2.2.2.2.2.1 p.2.2.2.2.2.2.2.2.2.2.1 p.2.2.2.2.2.2.2.2.2.2.2
@[reducible] def fL46 (x:Bool×Int×(List Int×Int)×Int×Int×Int×Int×Int×Int×Int×List (List Int)×(List (List Int×Int))×Int×(List Int×Int)×List Int×Int×List Int×Int) (p:P6) (l:List Fact):List Fact:=fl46 x p.1 p.2.1 p.2.2.1 p.2.2.2.1 p.2.2.2.2.1 p.2.2.2.2.2.1 p.2.2.2.2.2.2.1 p.2.2.2.2.2.2.2.1 p.2.2.2.2.2.2.2.2.1 p.2.2.2.2.2.2.2.2.2.1 p.2.2.2.2.2.2.2.2.2.2.1 p.2.2.2.2.2.2.2.2.2.2.2 l
abbrev U2 {A0 A1 A2 R:Type} (x:A0×A1×A2×R) (v:A2):A0×A1×A2×R:=(x.1,x.2.1,v,x.2.2.2)
abbrev U3 {A0 A1 A2 A3 R:Type} (x:A0×A1×A2×A3×R) (v:A3):A0×A1×A2×A3×R:=(x.1,x.2.1,x.2.2.1,v,x.2.2.2.2)
abbrev U4 {A0 A1 A2 A3 A4 R:Type} (x:A0×A1×A2×A3×A4×R) (v:A4):A0×A1×A2×A3×A4×R:=(x.1,x.2.1,x.2.2.1,x.2.2.2.1,v,x.2.2.2.2.2)
abbrev U5 {A0 A1 A2 A3 A4 A5 R:Type} (x:A0×A1×A2×A3×A4×A5×R) (v:A5):A0×A1×A2×A3×A4×A5×R:=(x.1,x.2.1,x.2.2.1,x.2.2.2.1,x.2.2.2.2.1,v,x.2.2.2.2.2.2)
abbrev U6 {A0 A1 A2 A3 A4 A5 A6 R:Type} (x:A0×A1×A2×A3×A4×A5×A6×R) (v:A6):A0×A1×A2×A3×A4×A5×A6×R:=(x.1,x.2.1,x.2.2.1,x.2.2.2.1,x.2.2.2.2.1,x.2.2.2.2.2.1,v,x.2.2.2.2.2.2.2)
abbrev U10 {A0 A1 A2 A3 A4 A5 A6 A7 A8 A9 A10 R:Type} (x:A0×A1×A2×A3×A4×A5×A6×A7×A8×A9×A10×R) (v:A10):A0×A1×A2×A3×A4×A5×A6×A7×A8×A9×A10×R:=(x.1,x.2.1,x.2.2.1,x.2.2.2.1,x.2.2.2.2.1,x.2.2.2.2.2.1,x.2.2.2.2.2.2.1,x.2.2.2.2.2.2.2.1,x.2.2.2.2.2.2.2.2.1,x.2.2.2.2.2.2.2.2.2.1,v,x.2.2.2.2.2.2.2.2.2.2.2)
abbrev U11 {A0 A1 A2 A3 A4 A5 A6 A7 A8 A9 A10 A11 R:Type} (x:A0×A1×A2×A3×A4×A5×A6×A7×A8×A9×A10×A11×R) (v:A11):A0×A1×A2×A3×A4×A5×A6×A7×A8×A9×A10×A11×R:=(x.1,x.2.1,x.2.2.1,x.2.2.2.1,x.2.2.2.2.1,x.2.2.2.2.2.1,x.2.2.2.2.2.2.1,x.2.2.2.2.2.2.2.1,x.2.2.2.2.2.2.2.2.1,x.2.2.2.2.2.2.2.2.2.1,x.2.2.2.2.2.2.2.2.2.2.1,v,x.2.2.2.2.2.2.2.2.2.2.2.2)
abbrev U12 {A0 A1 A2 A3 A4 A5 A6 A7 A8 A9 A10 A11 A12 R:Type} (x:A0×A1×A2×A3×A4×A5×A6×A7×A8×A9×A10×A11×A12×R) (v:A12):A0×A1×A2×A3×A4×A5×A6×A7×A8×A9×A10×A11×A12×R:=(x.1,x.2.1,x.2.2.1,x.2.2.2.1,x.2.2.2.2.1,x.2.2.2.2.2.1,x.2.2.2.2.2.2.1,x.2.2.2.2.2.2.2.1,x.2.2.2.2.2.2.2.2.1,x.2.2.2.2.2.2.2.2.2.1,x.2.2.2.2.2.2.2.2.2.2.1,x.2.2.2.2.2.2.2.2.2.2.2.1,v,x.2.2.2.2.2.2.2.2.2.2.2.2.2)
abbrev U13 {A0 A1 A2 A3 A4 A5 A6 A7 A8 A9 A10 A11 A12 A13 R:Type} (x:A0×A1×A2×A3×A4×A5×A6×A7×A8×A9×A10×A11×A12×A13×R) (v:A13):A0×A1×A2×A3×A4×A5×A6×A7×A8×A9×A10×A11×A12×A13×R:=(x.1,x.2.1,x.2.2.1,x.2.2.2.1,x.2.2.2.2.1,x.2.2.2.2.2.1,x.2.2.2.2.2.2.1,x.2.2.2.2.2.2.2.1,x.2.2.2.2.2.2.2.2.1,x.2.2.2.2.2.2.2.2.2.1,x.2.2.2.2.2.2.2.2.2.2.1,x.2.2.2.2.2.2.2.2.2.2.2.1,x.2.2.2.2.2.2.2.2.2.2.2.2.1,v,x.2.2.2.2.2.2.2.2.2.2.2.2.2.2)
abbrev U14 {A0 A1 A2 A3 A4 A5 A6 A7 A8 A9 A10 A11 A12 A13 A14 R:Type} (x:A0×A1×A2×A3×A4×A5×A6×A7×A8×A9×A10×A11×A12×A13×A14×R) (v:A14):A0×A1×A2×A3×A4×A5×A6×A7×A8×A9×A10×A11×A12×A13×A14×R:=(x.1,x.2.1,x.2.2.1,x.2.2.2.1,x.2.2.2.2.1,x.2.2.2.2.2.1,x.2.2.2.2.2.2.1,x.2.2.2.2.2.2.2.1,x.2.2.2.2.2.2.2.2.1,x.2.2.2.2.2.2.2.2.2.1,x.2.2.2.2.2.2.2.2.2.2.1,x.2.2.2.2.2.2.2.2.2.2.2.1,x.2.2.2.2.2.2.2.2.2.2.2.2.1,x.2.2.2.2.2.2.2.2.2.2.2.2.2.1,v,x.2.2.2.2.2.2.2.2.2.2.2.2.2.2.2)
def TTx:TT:=[
  (2,⟨.int .i64,1,8,[.int .i64 0]⟩),
  (3,⟨.int .i64,1,8,[.int .i64 0]⟩),
  (4,⟨.bool,1,1,[.bool false]⟩),
  (5,⟨.int .u8,1,1,[.int .u8 0]⟩),
  (6,⟨.int .u8,1,1,[.int .u8 0]⟩),
  (7,⟨.struct [(0,2),(1,3),(2,4),(3,6)],4,24,[.int .i64 0,.int .i64 0,.bool false,.int .u8 0]⟩),
  (8,⟨.struct [(0,2),(1,3),(2,4),(3,6)],4,24,[.int .i64 0,.int .i64 0,.bool false,.int .u8 0]⟩),
  (9,⟨.str,1,16,[.string ByteArray.empty]⟩),
  (10,⟨.str,1,16,[.string ByteArray.empty]⟩),
  (11,⟨.str,1,16,[.string ByteArray.empty]⟩),
  (12,⟨.int .u64,1,8,[.int .u64 0]⟩),
  (13,⟨.struct [(0,9),(1,12)],2,24,[.string ByteArray.empty,.int .u64 0]⟩),
  (14,⟨.struct [(0,9),(1,12)],2,24,[.string ByteArray.empty,.int .u64 0]⟩),
  (21,⟨.int .i32,1,4,[.int .i32 0]⟩),
  (22,⟨.slice 3,1,24,[.slice none 0 0]⟩),
  (23,⟨.struct [(0,22),(1,3)],2,32,[.slice none 0 0,.int .i64 0]⟩),
  (24,⟨.struct [(0,22),(1,3)],2,32,[.slice none 0 0,.int .i64 0]⟩),
  (25,⟨.slice 193,1,24,[.slice none 0 0]⟩),
  (26,⟨.struct [(0,25)],1,24,[.slice none 0 0]⟩),
  (27,⟨.struct [(0,25)],1,24,[.slice none 0 0]⟩),
  (28,⟨.slice 24,1,24,[.slice none 0 0]⟩),
  (29,⟨.struct [(0,28)],1,24,[.slice none 0 0]⟩),
  (30,⟨.struct [(0,28)],1,24,[.slice none 0 0]⟩),
  (31,⟨.struct [(0,4),(1,3),(2,24),(4,3),(5,3),(6,3),(7,3),(8,3),(9,3),(10,3),(11,27),(12,30),(13,3),(14,24),(16,22),(17,3),(18,24)],20,256,[.bool false,.int .i64 0,.slice none 0 0,.int .i64 0,.int .i64 0,.int .i64 0,.int .i64 0,.int .i64 0,.int .i64 0,.int .i64 0,.int .i64 0,.slice none 0 0,.slice none 0 0,.int .i64 0,.slice none 0 0,.int .i64 0,.slice none 0 0,.int .i64 0,.slice none 0 0,.int .i64 0]⟩),
  (32,⟨.struct [(0,4),(1,3),(2,24),(4,3),(5,3),(6,3),(7,3),(8,3),(9,3),(10,3),(11,27),(12,30),(13,3),(14,24),(16,22),(17,3),(18,24)],20,256,[.bool false,.int .i64 0,.slice none 0 0,.int .i64 0,.int .i64 0,.int .i64 0,.int .i64 0,.int .i64 0,.int .i64 0,.int .i64 0,.int .i64 0,.slice none 0 0,.slice none 0 0,.int .i64 0,.slice none 0 0,.int .i64 0,.slice none 0 0,.int .i64 0,.slice none 0 0,.int .i64 0]⟩),
  (33,⟨.slice 9,1,24,[.slice none 0 0]⟩),
  (34,⟨.struct [(0,3),(1,33)],2,32,[.int .i64 0,.slice none 0 0]⟩),
  (35,⟨.struct [(0,3),(1,33)],2,32,[.int .i64 0,.slice none 0 0]⟩),
  (38,⟨.struct [(0,22),(1,3)],2,32,[.slice none 0 0,.int .i64 0]⟩),
  (39,⟨.slice 174,1,24,[.slice none 0 0]⟩),
  (40,⟨.struct [(0,39)],1,24,[.slice none 0 0]⟩),
  (41,⟨.struct [(0,39)],1,24,[.slice none 0 0]⟩),
  (42,⟨.slice 38,1,24,[.slice none 0 0]⟩),
  (43,⟨.struct [(0,42)],1,24,[.slice none 0 0]⟩),
  (44,⟨.struct [(0,42)],1,24,[.slice none 0 0]⟩),
  (45,⟨.struct [(0,4),(1,3),(2,38),(4,3),(5,3),(6,3),(7,3),(8,3),(9,3),(10,3),(11,41),(12,44),(13,3),(14,38),(16,22),(17,3),(18,38)],20,256,[.bool false,.int .i64 0,.slice none 0 0,.int .i64 0,.int .i64 0,.int .i64 0,.int .i64 0,.int .i64 0,.int .i64 0,.int .i64 0,.int .i64 0,.slice none 0 0,.slice none 0 0,.int .i64 0,.slice none 0 0,.int .i64 0,.slice none 0 0,.int .i64 0,.slice none 0 0,.int .i64 0]⟩),
  (46,⟨.struct [(0,4),(1,3),(2,38),(4,3),(5,3),(6,3),(7,3),(8,3),(9,3),(10,3),(11,41),(12,44),(13,3),(14,38),(16,22),(17,3),(18,38)],20,256,[.bool false,.int .i64 0,.slice none 0 0,.int .i64 0,.int .i64 0,.int .i64 0,.int .i64 0,.int .i64 0,.int .i64 0,.int .i64 0,.int .i64 0,.slice none 0 0,.slice none 0 0,.int .i64 0,.slice none 0 0,.int .i64 0,.slice none 0 0,.int .i64 0,.slice none 0 0,.int .i64 0]⟩),
  (50,⟨.struct [(0,3),(1,33)],2,32,[.int .i64 0,.slice none 0 0]⟩),
  (60,⟨.struct [(0,3),(1,3)],2,16,[.int .i64 0,.int .i64 0]⟩),
  (61,⟨.struct [(0,3),(1,3)],2,16,[.int .i64 0,.int .i64 0]⟩),
  (64,⟨.struct [(0,3),(1,3)],2,16,[.int .i64 0,.int .i64 0]⟩),
  (69,⟨.slice 5,1,24,[.slice none 0 0]⟩),
  (73,⟨.slice 64,1,24,[.slice none 0 0]⟩),
  (74,⟨.slice 4,1,24,[.slice none 0 0]⟩),
  (163,⟨.struct [(0,69),(1,3),(2,3)],3,40,[.slice none 0 0,.int .i64 0,.int .i64 0]⟩),
  (164,⟨.struct [(0,69),(1,3),(2,3)],3,40,[.slice none 0 0,.int .i64 0,.int .i64 0]⟩),
  (173,⟨.struct [(0,22)],1,24,[.slice none 0 0]⟩),
  (174,⟨.struct [(0,22)],1,24,[.slice none 0 0]⟩),
  (193,⟨.struct [(0,22)],1,24,[.slice none 0 0]⟩),
  (197,⟨.int .u64,1,8,[.int .u64 0]⟩),
  (214,⟨.int .u32,1,4,[.int .u32 0]⟩),
  (225,⟨.int .u8,1,1,[.int .u8 0]⟩),
  (226,⟨.int .u8,1,1,[.int .u8 0]⟩),
  (229,⟨.int .i32,1,4,[.int .i32 0]⟩),
  (230,⟨.int .i32,1,4,[.int .i32 0]⟩)]

set_option maxRecDepth 100000 in
theorem aA:cF Tryz.prog TTx:=cF.of (by
  simp only [TTx,List.forall_mem_cons]
  exact ⟨⟨⟨_,_,rfl,rfl,rfl,rfl,rfl⟩,rfl⟩,⟨⟨_,_,rfl,rfl,rfl,rfl,rfl⟩,rfl⟩,⟨⟨_,_,rfl,rfl,rfl,rfl,rfl⟩,rfl⟩,⟨⟨_,_,rfl,rfl,rfl,rfl,rfl⟩,rfl⟩,⟨⟨_,_,rfl,rfl,rfl,rfl,rfl⟩,rfl⟩,⟨⟨_,_,rfl,rfl,rfl,rfl,rfl⟩,⟨_,rfl,rfl⟩⟩,⟨⟨_,_,rfl,rfl,rfl,rfl,rfl⟩,⟨_,rfl,rfl⟩⟩,⟨⟨_,_,rfl,rfl,rfl,rfl,rfl⟩,rfl⟩,⟨⟨_,_,rfl,rfl,rfl,rfl,rfl⟩,rfl⟩,⟨⟨_,_,rfl,rfl,rfl,rfl,rfl⟩,rfl⟩,⟨⟨_,_,rfl,rfl,rfl,rfl,rfl⟩,rfl⟩,⟨⟨_,_,rfl,rfl,rfl,rfl,rfl⟩,⟨_,rfl,rfl⟩⟩,⟨⟨_,_,rfl,rfl,rfl,rfl,rfl⟩,⟨_,rfl,rfl⟩⟩,⟨⟨_,_,rfl,rfl,rfl,rfl,rfl⟩,rfl⟩,⟨⟨_,_,rfl,rfl,rfl,rfl,rfl⟩,rfl⟩,⟨⟨_,_,rfl,rfl,rfl,rfl,rfl⟩,⟨_,rfl,rfl⟩⟩,⟨⟨_,_,rfl,rfl,rfl,rfl,rfl⟩,⟨_,rfl,rfl⟩⟩,⟨⟨_,_,rfl,rfl,rfl,rfl,rfl⟩,rfl⟩,⟨⟨_,_,rfl,rfl,rfl,rfl,rfl⟩,⟨_,rfl,rfl⟩⟩,⟨⟨_,_,rfl,rfl,rfl,rfl,rfl⟩,⟨_,rfl,rfl⟩⟩,⟨⟨_,_,rfl,rfl,rfl,rfl,rfl⟩,rfl⟩,⟨⟨_,_,rfl,rfl,rfl,rfl,rfl⟩,⟨_,rfl,rfl⟩⟩,⟨⟨_,_,rfl,rfl,rfl,rfl,rfl⟩,⟨_,rfl,rfl⟩⟩,⟨⟨_,_,rfl,rfl,rfl,rfl,rfl⟩,⟨_,rfl,rfl⟩⟩,⟨⟨_,_,rfl,rfl,rfl,rfl,rfl⟩,⟨_,rfl,rfl⟩⟩,⟨⟨_,_,rfl,rfl,rfl,rfl,rfl⟩,rfl⟩,⟨⟨_,_,rfl,rfl,rfl,rfl,rfl⟩,⟨_,rfl,rfl⟩⟩,⟨⟨_,_,rfl,rfl,rfl,rfl,rfl⟩,⟨_,rfl,rfl⟩⟩,⟨⟨_,_,rfl,rfl,rfl,rfl,rfl⟩,⟨_,rfl,rfl⟩⟩,⟨⟨_,_,rfl,rfl,rfl,rfl,rfl⟩,rfl⟩,⟨⟨_,_,rfl,rfl,rfl,rfl,rfl⟩,⟨_,rfl,rfl⟩⟩,⟨⟨_,_,rfl,rfl,rfl,rfl,rfl⟩,⟨_,rfl,rfl⟩⟩,⟨⟨_,_,rfl,rfl,rfl,rfl,rfl⟩,rfl⟩,⟨⟨_,_,rfl,rfl,rfl,rfl,rfl⟩,⟨_,rfl,rfl⟩⟩,⟨⟨_,_,rfl,rfl,rfl,rfl,rfl⟩,⟨_,rfl,rfl⟩⟩,⟨⟨_,_,rfl,rfl,rfl,rfl,rfl⟩,⟨_,rfl,rfl⟩⟩,⟨⟨_,_,rfl,rfl,rfl,rfl,rfl⟩,⟨_,rfl,rfl⟩⟩,⟨⟨_,_,rfl,rfl,rfl,rfl,rfl⟩,⟨_,rfl,rfl⟩⟩,⟨⟨_,_,rfl,rfl,rfl,rfl,rfl⟩,⟨_,rfl,rfl⟩⟩,⟨⟨_,_,rfl,rfl,rfl,rfl,rfl⟩,⟨_,rfl,rfl⟩⟩,⟨⟨_,_,rfl,rfl,rfl,rfl,rfl⟩,⟨_,rfl,rfl⟩⟩,⟨⟨_,_,rfl,rfl,rfl,rfl,rfl⟩,rfl⟩,⟨⟨_,_,rfl,rfl,rfl,rfl,rfl⟩,rfl⟩,⟨⟨_,_,rfl,rfl,rfl,rfl,rfl⟩,rfl⟩,⟨⟨_,_,rfl,rfl,rfl,rfl,rfl⟩,⟨_,rfl,rfl⟩⟩,⟨⟨_,_,rfl,rfl,rfl,rfl,rfl⟩,⟨_,rfl,rfl⟩⟩,⟨⟨_,_,rfl,rfl,rfl,rfl,rfl⟩,⟨_,rfl,rfl⟩⟩,⟨⟨_,_,rfl,rfl,rfl,rfl,rfl⟩,⟨_,rfl,rfl⟩⟩,⟨⟨_,_,rfl,rfl,rfl,rfl,rfl⟩,⟨_,rfl,rfl⟩⟩,⟨⟨_,_,rfl,rfl,rfl,rfl,rfl⟩,rfl⟩,⟨⟨_,_,rfl,rfl,rfl,rfl,rfl⟩,rfl⟩,⟨⟨_,_,rfl,rfl,rfl,rfl,rfl⟩,rfl⟩,⟨⟨_,_,rfl,rfl,rfl,rfl,rfl⟩,rfl⟩,⟨⟨_,_,rfl,rfl,rfl,rfl,rfl⟩,rfl⟩,⟨⟨_,_,rfl,rfl,rfl,rfl,rfl⟩,rfl⟩,by simp⟩)

def nY (x0:List Int) (x1:Int):Option Int:=
  (bif (decide ((W (x1 - (x0.length:Int)))<0)) then
  some (-1)
  else
  some (W (x1 - (x0.length:Int))))

theorem yB (x0:List Int) (x1:Int) (a3:Option Addr) (c4:Nat) (r:Int) (h:nY x0 x1=some r):
  FC Tryz.prog 44 [.slice a3 x0.length c4,.int .i64 x1] [⟨(.int .i64),⟨a3,x0.length,c4⟩,x0⟩] (fun _:Unit=>True) (fun _=>.int .i64 r) (fun _=>[]):=
 by
  refine FC.of (T:=TTx) Tryz.call44 Tryz.func44 E E fun w0=>?_
  unfold nY at h
  refine aC aA 1 [] ⟨V,E⟩ E E (sD aA 5 [(W (x1 - (x0.length:Int)))] [] [(1,.v (I (W (x1 - (x0.length:Int)))))] _ ⟨⟨V,E⟩,⟨E,V⟩,E⟩ E E (JS.seq (aC aA 2 [(10,.v (.bool (decide ((W (x1 - (x0.length:Int)))<0))))] ⟨⟨E,V⟩,E⟩ E E ?_)))
  refine aK E h (fun h=>?_) (fun h=>?_)
  ·
   refine aC aA 1 [(4,.v (I (-1)))] ⟨⟨E,V⟩,E⟩ E E ?_
   cases h
   exact JS.ret aA () V E E [] E
  refine JS.skip (aC aA 2 [(4,.v (I (W (x1 - (x0.length:Int)))))] ⟨⟨E,V⟩,E⟩ E E ?_)
  cases h
  exact JS.ret aA () V E E [] E

def lH (x0:List Int×Int) (x1:Int):Option Int:=
  (aG (nY x0.1 x1) fun (y7:Int)=>
  (bif (decide (y7<0)) then
  some (-1)
  else
  some y7))

theorem uM (x0:List Int×Int) (x1:Int) (a3:Option Addr) (c4:Nat) (r:Int) (h:lH x0 x1=some r):
  FC Tryz.prog 41 [.agg #[.slice a3 x0.1.length c4,.int .i64 x0.2],.int .i64 x1] [⟨(.int .i64),⟨a3,x0.1.length,c4⟩,x0.1⟩] (fun _:Unit=>True) (fun _=>.int .i64 r) (fun _=>[]):=
 by
  refine FC.of (T:=TTx) Tryz.call41 Tryz.func41 E E fun w0=>?_
  unfold lH at h
  refine aL aA 2 [] [2] [(2,.bp 2 0)] (.new 2 24 [.slice a3 x0.1.length c4,.int .i64 x0.2] .nil) ⟨⟨E,V⟩,(Bs E E)⟩ E E (JS.seq (JS.region (aB aA 3 [] [] [(6,.v (.slice a3 x0.1.length c4)),(7,.v (I x1))] _ E ⟨(Es E),E⟩ ?_)))
  refine bnw h fun y7 hy8 h=>JO.call E E E E (yB x0.1 x1 a3 c4 _ hy8) E [0] E E fun _ _=>aB aA 1 [] [] [(1,.v (I y7))] _ E ⟨⟨E,V⟩,E⟩ (aD E (JS.seq (aC aA 2 [(10,.v (.bool (decide (y7<0))))] ⟨⟨E,V⟩,E⟩ E E ?_)))
  refine aK E h (fun h=>?_) (fun h=>?_)
  ·
   refine aC aA 1 [(4,.v (I (-1)))] ⟨⟨E,V⟩,E⟩ E E ?_
   cases h
   exact JS.ret aA () V E E [] E
  refine JS.skip (aC aA 2 [(4,.v (I y7))] ⟨⟨E,V⟩,E⟩ E E ?_)
  cases h
  exact JS.ret aA () V E E [] E

def rS (x0:List Int) (x1:Int):Option Int:=
  (aG (nY x0 x1) fun (y7:Int)=>
  (bif (decide (y7<0)) then
  some (-1)
  else
  some y7))

theorem aIq (x0:List Int) (x1:Int) (a3:Option Addr) (c4:Nat) (r:Int) (h:rS x0 x1=some r):
  FC Tryz.prog 226 [.agg #[.slice a3 x0.length c4],.int .i64 x1] [⟨(.int .i64),⟨a3,x0.length,c4⟩,x0⟩] (fun _:Unit=>True) (fun _=>.int .i64 r) (fun _=>[]):=
 by
  refine FC.of (T:=TTx) Tryz.call226 Tryz.func226 E E fun w0=>?_
  unfold rS at h
  refine aL aA 2 [] [2] [(2,.bp 2 0)] (.new 2 193 [.slice a3 x0.length c4] .nil) ⟨⟨E,V⟩,(Bs E E)⟩ E E (JS.seq (JS.region (aB aA 3 [] [] [(6,.v (.slice a3 x0.length c4)),(7,.v (I x1))] _ E ⟨(Es E),E⟩ ?_)))
  refine bnw h fun y7 hy8 h=>JO.call E E E E (yB x0 x1 a3 c4 _ hy8) E [0] E E fun _ _=>aB aA 1 [] [] [(1,.v (I y7))] _ E ⟨⟨E,V⟩,E⟩ (aD E (JS.seq (aC aA 2 [(10,.v (.bool (decide (y7<0))))] ⟨⟨E,V⟩,E⟩ E E ?_)))
  refine aK E h (fun h=>?_) (fun h=>?_)
  ·
   refine aC aA 1 [(4,.v (I (-1)))] ⟨⟨E,V⟩,E⟩ E E ?_
   cases h
   exact JS.ret aA () V E E [] E
  refine JS.skip (aC aA 2 [(4,.v (I y7))] ⟨⟨E,V⟩,E⟩ E E ?_)
  cases h
  exact JS.ret aA () V E E [] E

def jP (x0:List (List Int)) (j26:Int→Option Int) (k20:(Int×Int)→Option Int):(Int×Int)→Option Int:=fun (x7,x8)=>
  (bif (decide (x8<(x0.length:Int))) then
  (aN (0≤x8∧x8<(x0.length:Int)) <|
  (aG (rS (at' x0 x8) x7) fun (y16:Int)=>
  (bif (decide (y16<0)) then
  some (-1)
  else
  k20 (y16,(W (x8+1))))))
  else
  j26 x7)

def pL (x0:List (List Int)) (x1:Int):Option Int:=
  (bif (decide ((W (x1 - (x0.length:Int)))<0)) then
  some (-1)
  else
  (aU (fun (x25:Int)=>
  some x25) fun j26=>
  (bC (jP x0 j26) bM ((W (x1 - (x0.length:Int))),0))))

theorem aGm (x0:List (List Int)) (x1:Int) (a3:Option Addr) (c4:Nat) (r:Int) (h:pL x0 x1=some r):
  FC Tryz.prog 126 [.slice a3 x0.length c4,.int .i64 x1] [⟨(.sl (.int .i64)),⟨a3,x0.length,c4⟩,x0⟩] (fun _:Unit=>True) (fun _=>.int .i64 r) (fun _=>[]):=
 by
  refine FC.of (T:=TTx) Tryz.call126 Tryz.func126 E E fun w0=>?_
  unfold pL at h
  refine aC aA 1 [] ⟨V,E⟩ E E (sD aA 5 [(W (x1 - (x0.length:Int)))] [] [(1,.v (I (W (x1 - (x0.length:Int)))))] _ ⟨⟨V,E⟩,⟨E,V⟩,E⟩ E E (JS.seq (aC aA 2 [(11,.v (.bool (decide ((W (x1 - (x0.length:Int)))<0))))] ⟨⟨E,V⟩,E⟩ E E ?_)))
  refine aK E h (fun h=>?_) (fun h=>?_)
  ·
   refine aC aA 1 [(4,.v (I (-1)))] ⟨⟨E,V⟩,E⟩ E E ?_
   cases h
   exact JS.ret aA () V E E [] E
  refine JS.skip (JS.seq (aC aA 1 [(5,.v (I 0))] ⟨⟨E,V⟩,E⟩ E E ?_))
  obtain ⟨j26,hj35,h⟩:=aQ h
  refine bA (ι:=Int) ⟨fun z=>j26 z=some r,fun z=>[(1,.v (I z))],fun z=>.nil,fun z=>[],fun z=>[],fun z=>0⟩ ?_ ?_
  ·
   refine JS.loop (ι:=Nat×Int×Int) ⟨fun z=>bC (jP x0 j26) z.1 z.2=some r,fun z=>[(0,.v (.slice a3 x0.length c4)),(1,.v (I z.2.1)),(5,.v (I z.2.2))],fun z=>.nil,fun z=>[⟨(.sl (.int .i64)),⟨a3,x0.length,c4⟩,x0⟩],fun z=>[],fun z=>z.1⟩ (bM,(W (x1 - (x0.length:Int))),0) h (Es E) V [0] E [] E ?_
   rintro ⟨n21,x7,x8⟩ h
   obtain ⟨n21,rfl,h⟩:=bH h
   rw [jP] at h
   refine JS.seq (aC aA 4 [(15,.v (.bool (decide (x8<(x0.length:Int)))))] ⟨⟨E,V⟩,E⟩ E E ?_)
   refine aK E h (fun h=>?_) (fun h=>?_)
   ·
    refine JS.skip (JS.seq (JS.block (JS.seq (JS.region (bJ 0 E fun hs32=>?_)))))
    obtain ⟨g10,h⟩:=aH h
    refine aB aA 3 [] [] [(20,.ep ⟨a3,x0.length,c4⟩ (Int.toNat x8*1))] _ E ⟨hs32.ix g10,⟨E,V⟩,E⟩ (eU 0 E (Int.toNat x8) (at' x0 x8) E fun a11 c12 ys13 hl14 hy15=>cP aA E E E E E E 0 E E (Int.toNat x8) 0 (Sl.v ⟨a11,(at' x0 x8).length,c12⟩) ⟨hy15 (kG g10),E⟩ E E E (aB aA 1 [] [] [(22,.v (I x7))] _ E ⟨⟨E,V⟩,E⟩ ?_))
    refine bnw h fun y16 hy17 h=>JO.call E E E E (aIq (at' x0 x8) x7 a11 c12 _ hy17) E [1] E E fun _ _=>aB aA 1 [] [] [(1,.v (I y16))] _ E ⟨⟨E,V⟩,E⟩ (aD E (aC aA 2 [(25,.v (.bool (decide (y16<0))))] ⟨⟨E,V⟩,E⟩ E E ?_))
    refine aK E h (fun h=>?_) (fun h=>?_)
    ·
     refine aC aA 1 [(4,.v (I (-1)))] ⟨⟨E,V⟩,E⟩ E E ?_
     cases h
     exact JS.ret aA () V E E [] E
    refine JS.skip (aZ (bZ aA 3 [(W (x8+1))] [] [(5,.v (I (W (x8+1))))] _ ⟨⟨V,E⟩,⟨E,V⟩,E⟩ E E (bQ (n21,y16,(W (x8+1))) h (Nat.lt_succ_self _) (Es E) V [2] E [] E)))
   refine JS.exit E (aT x7 h ⟨E,V⟩ V [] E [] E)
  rintro x25 h
  subst hj35
  refine aC aA 2 [(4,.v (I x25))] ⟨⟨E,V⟩,E⟩ E E ?_
  cases h
  exact JS.ret aA () V E E [] E

def tV (x0:List (List Int)) (x1:Int):Option Int:=
  (aG (pL x0 x1) fun (y7:Int)=>
  (bif (decide (y7<0)) then
  some (-1)
  else
  some y7))

theorem aKm (x0:List (List Int)) (x1:Int) (a3:Option Addr) (c4:Nat) (r:Int) (h:tV x0 x1=some r):
  FC Tryz.prog 42 [.agg #[.slice a3 x0.length c4],.int .i64 x1] [⟨(.sl (.int .i64)),⟨a3,x0.length,c4⟩,x0⟩] (fun _:Unit=>True) (fun _=>.int .i64 r) (fun _=>[]):=
 by
  refine FC.of (T:=TTx) Tryz.call42 Tryz.func42 E E fun w0=>?_
  unfold tV at h
  refine aL aA 2 [] [2] [(2,.bp 2 0)] (.new 2 27 [.slice a3 x0.length c4] .nil) ⟨⟨E,V⟩,(Bs E E)⟩ E E (JS.seq (JS.region (aB aA 3 [] [] [(6,.v (.slice a3 x0.length c4)),(7,.v (I x1))] _ E ⟨(Es E),E⟩ ?_)))
  refine bnw h fun y7 hy8 h=>JO.call E E E E (aGm x0 x1 a3 c4 _ hy8) E [0] E E fun _ _=>aB aA 1 [] [] [(1,.v (I y7))] _ E ⟨⟨E,V⟩,E⟩ (aD E (JS.seq (aC aA 2 [(10,.v (.bool (decide (y7<0))))] ⟨⟨E,V⟩,E⟩ E E ?_)))
  refine aK E h (fun h=>?_) (fun h=>?_)
  ·
   refine aC aA 1 [(4,.v (I (-1)))] ⟨⟨E,V⟩,E⟩ E E ?_
   cases h
   exact JS.ret aA () V E E [] E
  refine JS.skip (aC aA 2 [(4,.v (I y7))] ⟨⟨E,V⟩,E⟩ E E ?_)
  cases h
  exact JS.ret aA () V E E [] E

def lG (x0:List (List Int×Int)) (j26:Int→Option Int) (k20:(Int×Int)→Option Int):(Int×Int)→Option Int:=fun (x7,x8)=>
  (bif (decide (x8<(x0.length:Int))) then
  (aN (0≤x8∧x8<(x0.length:Int)) <|
  (aG (lH ((at' x0 x8).1,(at' x0 x8).2) x7) fun (y16:Int)=>
  (bif (decide (y16<0)) then
  some (-1)
  else
  k20 (y16,(W (x8+1))))))
  else
  j26 x7)

def rT (x0:List (List Int×Int)) (x1:Int):Option Int:=
  (bif (decide ((W (x1 - (x0.length:Int)))<0)) then
  some (-1)
  else
  (aU (fun (x25:Int)=>
  some x25) fun j26=>
  (bC (lG x0 j26) bM ((W (x1 - (x0.length:Int))),0))))

theorem aIr (x0:List (List Int×Int)) (x1:Int) (a3:Option Addr) (c4:Nat) (r:Int) (h:rT x0 x1=some r):
  FC Tryz.prog 127 [.slice a3 x0.length c4,.int .i64 x1] [⟨(.pair (.sl (.int .i64)) (.int .i64)),⟨a3,x0.length,c4⟩,x0⟩] (fun _:Unit=>True) (fun _=>.int .i64 r) (fun _=>[]):=
 by
  refine FC.of (T:=TTx) Tryz.call127 Tryz.func127 E E fun w0=>?_
  unfold rT at h
  refine aC aA 1 [] ⟨V,E⟩ E E (sD aA 5 [(W (x1 - (x0.length:Int)))] [] [(1,.v (I (W (x1 - (x0.length:Int)))))] _ ⟨⟨V,E⟩,⟨E,V⟩,E⟩ E E (JS.seq (aC aA 2 [(11,.v (.bool (decide ((W (x1 - (x0.length:Int)))<0))))] ⟨⟨E,V⟩,E⟩ E E ?_)))
  refine aK E h (fun h=>?_) (fun h=>?_)
  ·
   refine aC aA 1 [(4,.v (I (-1)))] ⟨⟨E,V⟩,E⟩ E E ?_
   cases h
   exact JS.ret aA () V E E [] E
  refine JS.skip (JS.seq (aC aA 1 [(5,.v (I 0))] ⟨⟨E,V⟩,E⟩ E E ?_))
  obtain ⟨j26,hj35,h⟩:=aQ h
  refine bA (ι:=Int) ⟨fun z=>j26 z=some r,fun z=>[(1,.v (I z))],fun z=>.nil,fun z=>[],fun z=>[],fun z=>0⟩ ?_ ?_
  ·
   refine JS.loop (ι:=Nat×Int×Int) ⟨fun z=>bC (lG x0 j26) z.1 z.2=some r,fun z=>[(0,.v (.slice a3 x0.length c4)),(1,.v (I z.2.1)),(5,.v (I z.2.2))],fun z=>.nil,fun z=>[⟨(.pair (.sl (.int .i64)) (.int .i64)),⟨a3,x0.length,c4⟩,x0⟩],fun z=>[],fun z=>z.1⟩ (bM,(W (x1 - (x0.length:Int))),0) h (Es E) V [0] E [] E ?_
   rintro ⟨n21,x7,x8⟩ h
   obtain ⟨n21,rfl,h⟩:=bH h
   rw [lG] at h
   refine JS.seq (aC aA 4 [(15,.v (.bool (decide (x8<(x0.length:Int)))))] ⟨⟨E,V⟩,E⟩ E E ?_)
   refine aK E h (fun h=>?_) (fun h=>?_)
   ·
    refine JS.skip (JS.seq (JS.block (JS.seq (JS.region (bJ 0 E fun hs32=>?_)))))
    obtain ⟨g10,h⟩:=aH h
    refine aB aA 3 [] [] [(20,.ep ⟨a3,x0.length,c4⟩ (Int.toNat x8*2))] _ E ⟨hs32.ix g10,⟨E,V⟩,E⟩ (eU 0 E (Int.toNat x8) (at' x0 x8) E fun a11 c12 ys13 hl14 hy15=>cP aA E E E E E E 0 E E (Int.toNat x8) 0 ((Sl.v ⟨a11,((at' x0 x8).1).length,c12⟩),(at' x0 x8).2) ⟨hy15 (kG g10),E⟩ E E E (aB aA 1 [] [] [(22,.v (I x7))] _ E ⟨⟨E,V⟩,E⟩ ?_))
    refine bnw h fun y16 hy17 h=>JO.call E E E E (uM ((at' x0 x8).1,(at' x0 x8).2) x7 a11 c12 _ hy17) E [1] E E fun _ _=>aB aA 1 [] [] [(1,.v (I y16))] _ E ⟨⟨E,V⟩,E⟩ (aD E (aC aA 2 [(25,.v (.bool (decide (y16<0))))] ⟨⟨E,V⟩,E⟩ E E ?_))
    refine aK E h (fun h=>?_) (fun h=>?_)
    ·
     refine aC aA 1 [(4,.v (I (-1)))] ⟨⟨E,V⟩,E⟩ E E ?_
     cases h
     exact JS.ret aA () V E E [] E
    refine JS.skip (aZ (bZ aA 3 [(W (x8+1))] [] [(5,.v (I (W (x8+1))))] _ ⟨⟨V,E⟩,⟨E,V⟩,E⟩ E E (bQ (n21,y16,(W (x8+1))) h (Nat.lt_succ_self _) (Es E) V [2] E [] E)))
   refine JS.exit E (aT x7 h ⟨E,V⟩ V [] E [] E)
  rintro x25 h
  subst hj35
  refine aC aA 2 [(4,.v (I x25))] ⟨⟨E,V⟩,E⟩ E E ?_
  cases h
  exact JS.ret aA () V E E [] E

def tU (x0:List (List Int×Int)) (x1:Int):Option Int:=
  (aG (rT x0 x1) fun (y7:Int)=>
  (bif (decide (y7<0)) then
  some (-1)
  else
  some y7))

theorem aKl (x0:List (List Int×Int)) (x1:Int) (a3:Option Addr) (c4:Nat) (r:Int) (h:tU x0 x1=some r):
  FC Tryz.prog 43 [.agg #[.slice a3 x0.length c4],.int .i64 x1] [⟨(.pair (.sl (.int .i64)) (.int .i64)),⟨a3,x0.length,c4⟩,x0⟩] (fun _:Unit=>True) (fun _=>.int .i64 r) (fun _=>[]):=
 by
  refine FC.of (T:=TTx) Tryz.call43 Tryz.func43 E E fun w0=>?_
  unfold tU at h
  refine aL aA 2 [] [2] [(2,.bp 2 0)] (.new 2 30 [.slice a3 x0.length c4] .nil) ⟨⟨E,V⟩,(Bs E E)⟩ E E (JS.seq (JS.region (aB aA 3 [] [] [(6,.v (.slice a3 x0.length c4)),(7,.v (I x1))] _ E ⟨(Es E),E⟩ ?_)))
  refine bnw h fun y7 hy8 h=>JO.call E E E E (aIr x0 x1 a3 c4 _ hy8) E [0] E E fun _ _=>aB aA 1 [] [] [(1,.v (I y7))] _ E ⟨⟨E,V⟩,E⟩ (aD E (JS.seq (aC aA 2 [(10,.v (.bool (decide (y7<0))))] ⟨⟨E,V⟩,E⟩ E E ?_)))
  refine aK E h (fun h=>?_) (fun h=>?_)
  ·
   refine aC aA 1 [(4,.v (I (-1)))] ⟨⟨E,V⟩,E⟩ E E ?_
   cases h
   exact JS.ret aA () V E E [] E
  refine JS.skip (aC aA 2 [(4,.v (I y7))] ⟨⟨E,V⟩,E⟩ E E ?_)
  cases h
  exact JS.ret aA () V E E [] E

def wC (x0:EdQ) (x1:Int):Option Int:=
  (aG (lH x0.2.2.1 x1) fun (y27:Int)=>
  (bif (decide (y27<0)) then
  some (-1)
  else
  (aG (tV x0.2.2.2.2.2.2.2.2.2.2.1 y27) fun (y29:Int)=>
  (bif (decide (y29<0)) then
  some (-1)
  else
  (aG (tU x0.2.2.2.2.2.2.2.2.2.2.2.1 y29) fun (y31:Int)=>
  (bif (decide (y31<0)) then
  some (-1)
  else
  (aG (lH x0.2.2.2.2.2.2.2.2.2.2.2.2.2.1 y31) fun (y33:Int)=>
  (bif (decide (y33<0)) then
  some (-1)
  else
  (aG (nY x0.2.2.2.2.2.2.2.2.2.2.2.2.2.2.1 y33) fun (y35:Int)=>
  (bif (decide (y35<0)) then
  some (-1)
  else
  (aG (lH x0.2.2.2.2.2.2.2.2.2.2.2.2.2.2.2.2 y35) fun (y37:Int)=>
  (bif (decide (y37<0)) then
  some (-1)
  else
  some y37))))))))))))

theorem aPt (x0:EdQ) (x1:Int) (q3:P6) (r:Int) (h:wC x0 x1=some r):
  FC Tryz.prog 10 [.agg (cC x0 q3).toArray,.int .i64 x1] (bW x0 q3 []) (fun _:Unit=>True) (fun _=>.int .i64 r) (fun _=>[]):=
 by
  refine FC.of (T:=TTx) Tryz.call10 Tryz.func10 E E fun w0=>?_
  unfold wC at h
  refine aL aA 2 [] [7] [(2,.bp 7 0)] (.new 7 32 (cC x0 q3) .nil) ⟨⟨E,V⟩,(Bs E E)⟩ E E (JS.seq (JS.region (aB aA 3 [] [] [(6,.v (.agg #[.slice q3.1 x0.2.2.1.1.length q3.2.1,.int .i64 x0.2.2.1.2])),(7,.v (I x1))] _ E ⟨(Es E),E⟩ ?_)))
  refine bnw h fun y27 hy28 h=>JO.call E E E E (uM x0.2.2.1 x1 q3.1 q3.2.1 _ hy28) E [0] E E fun _ _=>aB aA 1 [] [] [(1,.v (I y27))] _ E ⟨⟨E,V⟩,E⟩ (aD E (JS.seq (aC aA 2 [(10,.v (.bool (decide (y27<0))))] ⟨⟨E,V⟩,E⟩ E E ?_)))
  refine aK E h (fun h=>?_) (fun h=>?_)
  ·
   refine aC aA 1 [(4,.v (I (-1)))] ⟨⟨E,V⟩,E⟩ E E ?_
   cases h
   exact JS.ret aA () V E E [] E
  refine JS.skip (JS.seq (JS.region (aB aA 3 [] [] [(12,.v (.agg #[.slice q3.2.2.1 (Q8 x0).2.2.1.length q3.2.2.2.1])),(13,.v (I y27))] _ E ⟨(Es E),E⟩ ?_)))
  refine bnw h fun y29 hy30 h=>JO.call E E E E (aKm (Q8 x0).2.2.1 y27 q3.2.2.1 q3.2.2.2.1 _ hy30) E [1] E E fun _ _=>aB aA 1 [] [] [(1,.v (I y29))] _ E ⟨⟨E,V⟩,E⟩ (aD E (JS.seq (aC aA 2 [(16,.v (.bool (decide (y29<0))))] ⟨⟨E,V⟩,E⟩ E E ?_)))
  refine aK E h (fun h=>?_) (fun h=>?_)
  ·
   refine aC aA 1 [(4,.v (I (-1)))] ⟨⟨E,V⟩,E⟩ E E ?_
   cases h
   exact JS.ret aA () V E E [] E
  refine JS.skip (JS.seq (JS.region (aB aA 3 [] [] [(18,.v (.agg #[.slice (Q4 q3).1 (Q8 x0).2.2.2.1.length (Q4 q3).2.1])),(19,.v (I y29))] _ E ⟨(Es E),E⟩ ?_)))
  refine bnw h fun y31 hy32 h=>JO.call E E E E (aKl (Q8 x0).2.2.2.1 y29 (Q4 q3).1 (Q4 q3).2.1 _ hy32) E [2] E E fun _ _=>aB aA 1 [] [] [(1,.v (I y31))] _ E ⟨⟨E,V⟩,E⟩ (aD E (JS.seq (aC aA 2 [(22,.v (.bool (decide (y31<0))))] ⟨⟨E,V⟩,E⟩ E E ?_)))
  refine aK E h (fun h=>?_) (fun h=>?_)
  ·
   refine aC aA 1 [(4,.v (I (-1)))] ⟨⟨E,V⟩,E⟩ E E ?_
   cases h
   exact JS.ret aA () V E E [] E
  refine JS.skip (JS.seq (JS.region (aB aA 3 [] [] [(24,.v (.agg #[.slice (Q4 q3).2.2.1 (Q12 x0).2.1.1.length (Q4 q3).2.2.2.1,.int .i64 (Q12 x0).2.1.2])),(25,.v (I y31))] _ E ⟨(Es E),E⟩ ?_)))
  refine bnw h fun y33 hy34 h=>JO.call E E E E (uM (Q12 x0).2.1 y31 (Q4 q3).2.2.1 (Q4 q3).2.2.2.1 _ hy34) E [3] E E fun _ _=>aB aA 1 [] [] [(1,.v (I y33))] _ E ⟨⟨E,V⟩,E⟩ (aD E (JS.seq (aC aA 2 [(28,.v (.bool (decide (y33<0))))] ⟨⟨E,V⟩,E⟩ E E ?_)))
  refine aK E h (fun h=>?_) (fun h=>?_)
  ·
   refine aC aA 1 [(4,.v (I (-1)))] ⟨⟨E,V⟩,E⟩ E E ?_
   cases h
   exact JS.ret aA () V E E [] E
  refine JS.skip (JS.seq (JS.region (aB aA 3 [] [] [(30,.v (.slice (Q8 q3).1 (Q12 x0).2.2.1.length (Q8 q3).2.1)),(31,.v (I y33))] _ E ⟨(Es E),E⟩ ?_)))
  refine bnw h fun y35 hy36 h=>JO.call E E E E (yB (Q12 x0).2.2.1 y33 (Q8 q3).1 (Q8 q3).2.1 _ hy36) E [4] E E fun _ _=>aB aA 1 [] [] [(1,.v (I y35))] _ E ⟨⟨E,V⟩,E⟩ (aD E (JS.seq (aC aA 2 [(34,.v (.bool (decide (y35<0))))] ⟨⟨E,V⟩,E⟩ E E ?_)))
  refine aK E h (fun h=>?_) (fun h=>?_)
  ·
   refine aC aA 1 [(4,.v (I (-1)))] ⟨⟨E,V⟩,E⟩ E E ?_
   cases h
   exact JS.ret aA () V E E [] E
  refine JS.skip (JS.seq (JS.region (aB aA 3 [] [] [(36,.v (.agg #[.slice (Q8 q3).2.2.1 (Q16 x0).1.length (Q8 q3).2.2.2,.int .i64 (Q16 x0).2])),(37,.v (I y35))] _ E ⟨(Es E),E⟩ ?_)))
  refine bnw h fun y37 hy38 h=>JO.call E E E E (uM (Q16 x0) y35 (Q8 q3).2.2.1 (Q8 q3).2.2.2 _ hy38) E [5] E E fun _ _=>aB aA 1 [] [] [(1,.v (I y37))] _ E ⟨⟨E,V⟩,E⟩ (aD E (JS.seq (aC aA 2 [(40,.v (.bool (decide (y37<0))))] ⟨⟨E,V⟩,E⟩ E E ?_)))
  refine aK E h (fun h=>?_) (fun h=>?_)
  ·
   refine aC aA 1 [(4,.v (I (-1)))] ⟨⟨E,V⟩,E⟩ E E ?_
   cases h
   exact JS.ret aA () V E E [] E
  refine JS.skip (aC aA 2 [(4,.v (I y37))] ⟨⟨E,V⟩,E⟩ E E ?_)
  cases h
  exact JS.ret aA () V E E [] E

def iM (x0:List (List UInt8)) (j19:Int→Option Int) (k13:(Int×Int)→Option Int):(Int×Int)→Option Int:=fun (x7,x8)=>
  (bif (decide (x8<(x0.length:Int))) then
  (aN (0≤x8∧x8<(x0.length:Int)) <|
  (bif (decide ((W (x7 - ((at' x0 x8).length:Int)))<0)) then
  some (-1)
  else
  k13 ((W (x7 - ((at' x0 x8).length:Int))),(W (x8+1)))))
  else
  j19 x7)

def nD (x0:List (List UInt8)) (x1:Int):Option Int:=
  (bif (decide ((W (x1 - (x0.length:Int)))<0)) then
  some (-1)
  else
  (aU (fun (x18:Int)=>
  some x18) fun j19=>
  (bC (iM x0 j19) bM ((W (x1 - (x0.length:Int))),0))))

theorem aEw (x0:List (List UInt8)) (x1:Int) (a3:Option Addr) (c4:Nat) (r:Int) (h:nD x0 x1=some r):
  FC Tryz.prog 45 [.slice a3 x0.length c4,.int .i64 x1] [⟨.str,⟨a3,x0.length,c4⟩,x0⟩] (fun _:Unit=>True) (fun _=>.int .i64 r) (fun _=>[]):=
 by
  refine FC.of (T:=TTx) Tryz.call45 Tryz.func45 E E fun w0=>?_
  unfold nD at h
  refine aC aA 1 [] ⟨V,E⟩ E E (sD aA 5 [(W (x1 - (x0.length:Int)))] [] [(1,.v (I (W (x1 - (x0.length:Int)))))] _ ⟨⟨V,E⟩,⟨E,V⟩,E⟩ E E (JS.seq (aC aA 2 [(11,.v (.bool (decide ((W (x1 - (x0.length:Int)))<0))))] ⟨⟨E,V⟩,E⟩ E E ?_)))
  refine aK E h (fun h=>?_) (fun h=>?_)
  ·
   refine aC aA 1 [(4,.v (I (-1)))] ⟨⟨E,V⟩,E⟩ E E ?_
   cases h
   exact JS.ret aA () V E E [] E
  refine JS.skip (JS.seq (aC aA 1 [(5,.v (I 0))] ⟨⟨E,V⟩,E⟩ E E ?_))
  obtain ⟨j19,hj28,h⟩:=aQ h
  refine bA (ι:=Int) ⟨fun z=>j19 z=some r,fun z=>[(1,.v (I z))],fun z=>.nil,fun z=>[],fun z=>[],fun z=>0⟩ ?_ ?_
  ·
   refine JS.loop (ι:=Nat×Int×Int) ⟨fun z=>bC (iM x0 j19) z.1 z.2=some r,fun z=>[(0,.v (.slice a3 x0.length c4)),(1,.v (I z.2.1)),(5,.v (I z.2.2))],fun z=>.nil,fun z=>[⟨.str,⟨a3,x0.length,c4⟩,x0⟩],fun z=>[],fun z=>z.1⟩ (bM,(W (x1 - (x0.length:Int))),0) h (Es E) V [0] E [] E ?_
   rintro ⟨n14,x7,x8⟩ h
   obtain ⟨n14,rfl,h⟩:=bH h
   rw [iM] at h
   refine JS.seq (aC aA 4 [(15,.v (.bool (decide (x8<(x0.length:Int)))))] ⟨⟨E,V⟩,E⟩ E E ?_)
   refine aK E h (fun h=>?_) (fun h=>?_)
   ·
    refine JS.skip (JS.seq (JS.block (JS.seq (JS.region (bJ 0 E fun hs25=>?_)))))
    obtain ⟨g10,h⟩:=aH h
    refine aB aA 4 [] [] [(18,.v (I x7)),(21,.ep ⟨a3,x0.length,c4⟩ (Int.toNat x8*1))] _ E ⟨hs25.ix g10,(Es E),E⟩ (JO.load aA E E E E E E E 0 E E (Int.toNat x8) 0 (at' x0 x8) ⟨bD g10,E⟩ E E (aB aA 3 [(W (x7 - ((at' x0 x8).length:Int)))] [] [(1,.v (I (W (x7 - ((at' x0 x8).length:Int)))))] _ E ⟨⟨V,E⟩,⟨E,V⟩,E⟩ (aD E (aC aA 2 [(26,.v (.bool (decide ((W (x7 - ((at' x0 x8).length:Int)))<0))))] ⟨⟨E,V⟩,E⟩ E E ?_))))
    refine aK E h (fun h=>?_) (fun h=>?_)
    ·
     refine aC aA 1 [(4,.v (I (-1)))] ⟨⟨E,V⟩,E⟩ E E ?_
     cases h
     exact JS.ret aA () V E E [] E
    refine JS.skip (aZ (bZ aA 3 [(W (x8+1))] [] [(5,.v (I (W (x8+1))))] _ ⟨⟨V,E⟩,⟨E,V⟩,E⟩ E E (bQ (n14,(W (x7 - ((at' x0 x8).length:Int))),(W (x8+1))) h (Nat.lt_succ_self _) (Es E) V [0] E [] E)))
   refine JS.exit E (aT x7 h ⟨E,V⟩ V [] E [] E)
  rintro x18 h
  subst hj28
  refine aC aA 2 [(4,.v (I x18))] ⟨⟨E,V⟩,E⟩ E E ?_
  cases h
  exact JS.ret aA () V E E [] E

def tW (x0:Int×List (List UInt8)) (x1:Int):Option Int:=
  (aG (nD x0.2 x1) fun (y7:Int)=>
  (bif (decide (y7<0)) then
  some (-1)
  else
  some y7))

theorem aKn (x0:Int×List (List UInt8)) (x1:Int) (a3:Option Addr) (c4:Nat) (r:Int) (h:tW x0 x1=some r):
  FC Tryz.prog 11 [.agg #[.int .i64 x0.1,.slice a3 x0.2.length c4],.int .i64 x1] [⟨.str,⟨a3,x0.2.length,c4⟩,x0.2⟩] (fun _:Unit=>True) (fun _=>.int .i64 r) (fun _=>[]):=
 by
  refine FC.of (T:=TTx) Tryz.call11 Tryz.func11 E E fun w0=>?_
  unfold tW at h
  refine aL aA 2 [] [2] [(2,.bp 2 0)] (.new 2 35 [.int .i64 x0.1,.slice a3 x0.2.length c4] .nil) ⟨⟨E,V⟩,(Bs E E)⟩ E E (JS.seq (JS.region (aB aA 3 [] [] [(6,.v (.slice a3 x0.2.length c4)),(7,.v (I x1))] _ E ⟨(Es E),E⟩ ?_)))
  refine bnw h fun y7 hy8 h=>JO.call E E E E (aEw x0.2 x1 a3 c4 _ hy8) E [0] E E fun _ _=>aB aA 1 [] [] [(1,.v (I y7))] _ E ⟨⟨E,V⟩,E⟩ (aD E (JS.seq (aC aA 2 [(10,.v (.bool (decide (y7<0))))] ⟨⟨E,V⟩,E⟩ E E ?_)))
  refine aK E h (fun h=>?_) (fun h=>?_)
  ·
   refine aC aA 1 [(4,.v (I (-1)))] ⟨⟨E,V⟩,E⟩ E E ?_
   cases h
   exact JS.ret aA () V E E [] E
  refine JS.skip (aC aA 2 [(4,.v (I y7))] ⟨⟨E,V⟩,E⟩ E E ?_)
  cases h
  exact JS.ret aA () V E E [] E

def nC (x0:List Int) (j25:(List Int)→Option (List Int)) (k17:(List Int×Int)→Option (List Int)):(List Int×Int)→Option (List Int):=fun (x8,x11)=>
  (bif (decide (x11<(x0.length:Int))) then
  (aN (0≤x11∧x11<(x0.length:Int)) <|
  (aN (0≤x11∧x11<(x8.length:Int)) <|
  k17 ((List.set x8 (Int.toNat x11) (at' x0 x11)),(W (x11+1)))))
  else
  j25 x8)

def nX (x0:List Int):Option (List Int):=
  (aN (x0.length≤536870912) <|
  (aU (fun (x22:List Int)=>
  some x22) fun j25=>
  (bC (nC x0 j25) bM ((List.replicate x0.length (0:Int)),0))))

theorem yA (x0:List Int) (a2:Option Addr) (c3:Nat) (r:List Int) (h:nX x0=some r):
  FC Tryz.prog 15 [.slice a2 x0.length c3] [⟨(.int .i64),⟨a2,x0.length,c3⟩,x0⟩] (fun _:Option Addr×Nat=>True) (fun q=>.slice q.1 r.length q.2) (fun q=>[⟨(.int .i64),⟨q.1,r.length,q.2⟩,r⟩]):=
 by
  refine FC.of (T:=TTx) Tryz.call15 Tryz.func15 E E fun w0=>?_
  unfold nX at h
  refine aC aA 1 [] ⟨V,E⟩ E E (JS.seq (JS.region (aB aA 2 [] [] [(6,.v (I (x0.length:Int)))] _ E ⟨⟨E,V⟩,E⟩ ?_)))
  obtain ⟨g6,h⟩:=aH h
  refine JO.makeSlice aA E E E E E E E E x0.length E g6 (.int .i64) E E E E E fun a7=>aB aA 1 [] [] [(3,.v (.slice a7 x0.length x0.length))] _ E ⟨⟨E,V⟩,E⟩ (aD E (JS.seq (aC aA 1 [(4,.v (I 0))] ⟨⟨E,V⟩,E⟩ E E ?_)))
  obtain ⟨j25,hj33,h⟩:=aQ h
  refine bA (ι:=List Int×Option Addr×Nat) ⟨fun z=>j25 z.1=some r,fun z=>[(3,.v (.slice z.2.1 z.1.length z.2.2))],fun z=>.nil,fun z=>[],fun z=>[⟨(.int .i64),⟨z.2.1,z.1.length,z.2.2⟩,z.1⟩],fun z=>0⟩ ?_ ?_
  ·
   refine JS.loop (ι:=Nat×List Int×Int×Option Addr×Nat) ⟨fun z=>bC (nC x0 j25) z.1 (z.2.1,z.2.2.1)=some r,fun z=>[(0,.v (.slice a2 x0.length c3)),(3,.v (.slice z.2.2.2.1 z.2.1.length (Q4 z))),(4,.v (I z.2.2.1))],fun z=>.nil,fun z=>[⟨(.int .i64),⟨a2,x0.length,c3⟩,x0⟩],fun z=>[⟨(.int .i64),⟨z.2.2.2.1,z.2.1.length,(Q4 z)⟩,z.2.1⟩],fun z=>z.1⟩ (bM,(List.replicate x0.length (0:Int)),0,a7,x0.length) h ⟨E,(by simp only [List.length_set,List.length_replicate,bY,dN,oP,oO];rfl),E,V⟩ V [0] E [0] (by simp only [List.length_set,List.length_replicate,bY,dN,oP,oO];rfl) ?_
   rintro ⟨n18,x8,x11,a9,c10⟩ h
   obtain ⟨n18,rfl,h⟩:=bH h
   rw [nC] at h
   refine JS.seq (aC aA 4 [(11,.v (.bool (decide (x11<(x0.length:Int)))))] ⟨⟨E,V⟩,E⟩ E E ?_)
   refine aK E h (fun h=>?_) (fun h=>?_)
   ·
    refine JS.skip (JS.seq (JS.block (JS.region (bJ 0 E fun hs30=>?_))))
    obtain ⟨g13,h⟩:=aH h
    refine aB aA 5 [] [] [(14,.v (.slice a9 x8.length c10)),(15,.v (I x11)),(18,.ep ⟨a2,x0.length,c3⟩ (Int.toNat x11*1))] _ E ⟨hs30.ix g13,(Es E),E⟩ (JO.load aA E E E E E E E 0 E E (Int.toNat x11) 0 (at' x0 x11) ⟨bD g13,E⟩ E E (bJ 1 E fun hs31=>?_))
    obtain ⟨g15,h⟩:=aH h
    refine aB aA 1 [] [] [(20,.ep ⟨a9,x8.length,c10⟩ (Int.toNat x11*1))] _ E ⟨hs31.ix g15,⟨E,V⟩,E⟩ (kD aA E E E E E E E E E [0] (fs:=[]) E (Int.toNat x11) 0 (at' x8 x11) (at' x0 x11) ⟨bD g15,E⟩ ⟨E,E,E⟩ (aD E (aZ (bZ aA 3 [(W (x11+1))] [] [(4,.v (I (W (x11+1))))] _ ⟨⟨V,E⟩,⟨E,V⟩,E⟩ E E (bQ (n18,(List.set x8 (Int.toNat x11) (at' x0 x11)),(W (x11+1)),a9,c10) h (Nat.lt_succ_self _) ⟨E,(by simp only [List.length_set,List.length_replicate,bY,dN,oP,oO];rfl),E,V⟩ V [0] E [0] (by simp only [List.length_set,List.length_replicate,bY,dN,oP,oO];rfl))))))
   refine JS.exit E (aT (x8,a9,c10) h ⟨E,V⟩ V [] E [0] E)
  rintro ⟨x22,a23,c24⟩ h
  subst hj33
  refine aC aA 2 [(2,.v (.slice a23 x22.length c24))] ⟨⟨E,V⟩,E⟩ E E ?_
  cases h
  exact JS.ret aA (a23,c24) V E E [0] E

def lE (x0:List Int×Int):Option (List Int×Int):=
  (aG (nX x0.1) fun (y6:List Int)=>
  some (y6,x0.2))

theorem uL (x0:List Int×Int) (a2:Option Addr) (c3:Nat) (r:List Int×Int) (h:lE x0=some r):
  FC Tryz.prog 53 [.agg #[.slice a2 x0.1.length c3,.int .i64 x0.2]] [⟨(.int .i64),⟨a2,x0.1.length,c3⟩,x0.1⟩] (fun _:Option Addr×Nat=>True) (fun q=>.agg #[.slice q.1 r.1.length q.2,.int .i64 r.2]) (fun q=>[⟨(.int .i64),⟨q.1,r.1.length,q.2⟩,r.1⟩]):=
 by
  refine FC.of (T:=TTx) Tryz.call53 Tryz.func53 E E fun w0=>?_
  unfold lE at h
  refine aL aA 2 [] [2,3] [(1,.bp 2 0),(2,.bp 3 0)] (.new 2 24 [.slice a2 x0.1.length c3,.int .i64 x0.2] (.new 3 38 [.slice none 0 0,.int .i64 0] .nil)) ⟨(Es E),(Bs E E)⟩ E E (aL aA 1 [] [4] [(3,.bp 4 0)] (.new 2 24 [.slice a2 x0.1.length c3,.int .i64 x0.2] (.new 3 38 [.slice none 0 0,.int .i64 0] (.new 4 38 [.slice none 0 0,.int .i64 0] .nil))) ⟨⟨E,V⟩,(Bs E E)⟩ E E (JS.seq (JS.region (aB aA 2 [] [] [(5,.v (.slice a2 x0.1.length c3))] _ E ⟨⟨E,V⟩,E⟩ ?_))))
  refine bnw h fun y6 hy7 h=>JO.call E E E E (yA x0.1 a2 c3 _ hy7) E [0] E E ?_
  rintro ⟨a8,c9⟩ -
  refine aP aA 2 [] [] [] (.new 2 24 [.slice a2 x0.1.length c3,.int .i64 x0.2] (.new 3 38 [.slice none 0 0,.int .i64 0] (.new 4 38 [.slice a8 y6.length c9,.int .i64 0] .nil))) E ⟨V,(Bs E E)⟩ (aD E (aL aA 4 [] [] [] (.new 3 38 [.slice none 0 0,.int .i64 0] (.new 4 38 [.slice a8 y6.length c9,.int .i64 x0.2] .nil)) ⟨V,(Bs E E)⟩ E E (aL aA 2 [] [] [] (.new 3 38 [.slice a8 y6.length c9,.int .i64 x0.2] .nil) ⟨V,(Bs E E)⟩ E E ?_)))
  cases h
  exact JS.ret aA (a8,c9) V E E [0] E

def rR (x0:List Int):Option (List Int):=
  (aG (nX x0) fun (y6:List Int)=>
  some y6)

theorem aIo (x0:List Int) (a2:Option Addr) (c3:Nat) (r:List Int) (h:rR x0=some r):
  FC Tryz.prog 232 [.agg #[.slice a2 x0.length c3]] [⟨(.int .i64),⟨a2,x0.length,c3⟩,x0⟩] (fun _:Option Addr×Nat=>True) (fun q=>.agg #[.slice q.1 r.length q.2]) (fun q=>[⟨(.int .i64),⟨q.1,r.length,q.2⟩,r⟩]):=
 by
  refine FC.of (T:=TTx) Tryz.call232 Tryz.func232 E E fun w0=>?_
  unfold rR at h
  refine aL aA 2 [] [2,3] [(1,.bp 2 0),(2,.bp 3 0)] (.new 2 193 [.slice a2 x0.length c3] (.new 3 174 [.slice none 0 0] .nil)) ⟨(Es E),(Bs E E)⟩ E E (aL aA 1 [] [4] [(3,.bp 4 0)] (.new 2 193 [.slice a2 x0.length c3] (.new 3 174 [.slice none 0 0] (.new 4 174 [.slice none 0 0] .nil))) ⟨⟨E,V⟩,(Bs E E)⟩ E E (JS.seq (JS.region (aB aA 2 [] [] [(5,.v (.slice a2 x0.length c3))] _ E ⟨⟨E,V⟩,E⟩ ?_))))
  refine bnw h fun y6 hy7 h=>JO.call E E E E (yA x0 a2 c3 _ hy7) E [0] E E ?_
  rintro ⟨a8,c9⟩ -
  refine aP aA 2 [] [] [] (.new 3 174 [.slice none 0 0] (.new 4 174 [.slice a8 y6.length c9] .nil)) E ⟨V,(Bs E E)⟩ (aD E (aL aA 2 [] [] [] (.new 3 174 [.slice a8 y6.length c9] .nil) ⟨V,(Bs E E)⟩ E E ?_))
  cases h
  exact JS.ret aA (a8,c9) V E E [0] E

def jO (x0:List (List Int)) (j34:(List (List Int))→Option (List (List Int))) (k26:(List (List Int)×Int)→Option (List (List Int))):(List (List Int)×Int)→Option (List (List Int)):=fun (x8,x11)=>
  (bif (decide (x11<(x0.length:Int))) then
  (aN (0≤x11∧x11<(x0.length:Int)) <|
  (aG (rR (at' x0 x11)) fun (y19:List Int)=>
  (aN (0≤x11∧x11<(x8.length:Int)) <|
  k26 ((List.set x8 (Int.toNat x11) y19),(W (x11+1))))))
  else
  j34 x8)

def sO (x0:List (List Int)):Option (List (List Int)):=
  (aN (x0.length≤536870912) <|
  (aU (fun (x31:List (List Int))=>
  some x31) fun j34=>
  (bC (jO x0 j34) bM ((List.replicate x0.length []),0))))

theorem aGl (x0:List (List Int)) (a2:Option Addr) (c3:Nat) (r:List (List Int)) (h:sO x0=some r):
  FC Tryz.prog 139 [.slice a2 x0.length c3] [⟨(.sl (.int .i64)),⟨a2,x0.length,c3⟩,x0⟩] (fun _:Option Addr×Nat=>True) (fun q=>.slice q.1 r.length q.2) (fun q=>[⟨(.sl (.int .i64)),⟨q.1,r.length,q.2⟩,r⟩]):=
 by
  refine FC.of (T:=TTx) Tryz.call139 Tryz.func139 E E fun w0=>?_
  unfold sO at h
  refine aC aA 1 [] ⟨V,E⟩ E E (JS.seq (JS.region (aB aA 2 [] [] [(6,.v (I (x0.length:Int)))] _ E ⟨⟨E,V⟩,E⟩ ?_)))
  obtain ⟨g6,h⟩:=aH h
  refine JO.makeSlice aA E E E E E E E E x0.length E g6 (.sl (.int .i64)) E E E E E fun a7=>aB aA 1 [] [] [(3,.v (.slice a7 x0.length x0.length))] _ E ⟨⟨E,V⟩,E⟩ (aD E (JS.seq (aC aA 1 [(4,.v (I 0))] ⟨⟨E,V⟩,E⟩ E E ?_)))
  obtain ⟨j34,hj42,h⟩:=aQ h
  refine bA (ι:=List (List Int)×Option Addr×Nat) ⟨fun z=>j34 z.1=some r,fun z=>[(3,.v (.slice z.2.1 z.1.length z.2.2))],fun z=>.nil,fun z=>[],fun z=>[⟨(.sl (.int .i64)),⟨z.2.1,z.1.length,z.2.2⟩,z.1⟩],fun z=>0⟩ ?_ ?_
  ·
   refine JS.loop (ι:=Nat×List (List Int)×Int×Option Addr×Nat) ⟨fun z=>bC (jO x0 j34) z.1 (z.2.1,z.2.2.1)=some r,fun z=>[(0,.v (.slice a2 x0.length c3)),(3,.v (.slice z.2.2.2.1 z.2.1.length (Q4 z))),(4,.v (I z.2.2.1))],fun z=>.nil,fun z=>[⟨(.sl (.int .i64)),⟨a2,x0.length,c3⟩,x0⟩],fun z=>[⟨(.sl (.int .i64)),⟨z.2.2.2.1,z.2.1.length,(Q4 z)⟩,z.2.1⟩],fun z=>z.1⟩ (bM,(List.replicate x0.length []),0,a7,x0.length) h ⟨E,(by simp only [List.length_set,List.length_replicate,bY,dN,oP,oO];rfl),E,V⟩ V [0] E [0] (by simp only [List.length_set,List.length_replicate,bY,dN,oP,oO];rfl) ?_
   rintro ⟨n27,x8,x11,a9,c10⟩ h
   obtain ⟨n27,rfl,h⟩:=bH h
   rw [jO] at h
   refine JS.seq (aC aA 4 [(11,.v (.bool (decide (x11<(x0.length:Int)))))] ⟨⟨E,V⟩,E⟩ E E ?_)
   refine aK E h (fun h=>?_) (fun h=>?_)
   ·
    refine JS.skip (JS.seq (JS.block (JS.region (bJ 0 E fun hs39=>?_))))
    obtain ⟨g13,h⟩:=aH h
    refine aB aA 5 [] [] [(14,.v (.slice a9 x8.length c10)),(15,.v (I x11)),(18,.ep ⟨a2,x0.length,c3⟩ (Int.toNat x11*1))] _ E ⟨hs39.ix g13,(Es E),E⟩ (eU 0 E (Int.toNat x11) (at' x0 x11) E fun a14 c15 ys16 hl17 hy18=>cP aA E E E E E E 0 E E (Int.toNat x11) 0 (Sl.v ⟨a14,(at' x0 x11).length,c15⟩) ⟨hy18 (kG g13),E⟩ E E E ?_)
    refine bnw h fun y19 hy20 h=>JO.call E E E E (aIo (at' x0 x11) a14 c15 _ hy20) E [1] E E ?_
    rintro ⟨a21,c22⟩ -
    refine bJ 4 E fun hs40=>?_
    obtain ⟨g24,h⟩:=aH h
    refine aB aA 1 [] [] [(21,.ep ⟨a9,x8.length,c10⟩ (Int.toNat x11*1))] _ E ⟨hs40.ix g24,⟨E,V⟩,E⟩ (kD aA E E E E E E E E E [1,0] (fs:=[⟨(.int .i64),⟨a21,y19.length,c22⟩,y19⟩]) E (Int.toNat x11) 0 (at' x8 x11) y19 ⟨bD g24,E⟩ ⟨E,E,E,E⟩ (aD E (aZ (bZ aA 3 [(W (x11+1))] [] [(4,.v (I (W (x11+1))))] _ ⟨⟨V,E⟩,⟨E,V⟩,E⟩ E E (bQ (n27,(List.set x8 (Int.toNat x11) y19),(W (x11+1)),a9,c10) h (Nat.lt_succ_self _) ⟨E,(by simp only [List.length_set,List.length_replicate,bY,dN,oP,oO];rfl),E,V⟩ V [2] E [0] (by simp only [List.length_set,List.length_replicate,bY,dN,oP,oO];rfl))))))
   refine JS.exit E (aT (x8,a9,c10) h ⟨E,V⟩ V [] E [0] E)
  rintro ⟨x31,a32,c33⟩ h
  subst hj42
  refine aC aA 2 [(2,.v (.slice a32 x31.length c33))] ⟨⟨E,V⟩,E⟩ E E ?_
  cases h
  exact JS.ret aA (a32,c33) V E E [0] E

def tT (x0:List (List Int)):Option (List (List Int)):=
  (aG (sO x0) fun (y6:List (List Int))=>
  some y6)

theorem aKk (x0:List (List Int)) (a2:Option Addr) (c3:Nat) (r:List (List Int)) (h:tT x0=some r):
  FC Tryz.prog 54 [.agg #[.slice a2 x0.length c3]] [⟨(.sl (.int .i64)),⟨a2,x0.length,c3⟩,x0⟩] (fun _:Option Addr×Nat=>True) (fun q=>.agg #[.slice q.1 r.length q.2]) (fun q=>[⟨(.sl (.int .i64)),⟨q.1,r.length,q.2⟩,r⟩]):=
 by
  refine FC.of (T:=TTx) Tryz.call54 Tryz.func54 E E fun w0=>?_
  unfold tT at h
  refine aL aA 2 [] [2,3] [(1,.bp 2 0),(2,.bp 3 0)] (.new 2 27 [.slice a2 x0.length c3] (.new 3 41 [.slice none 0 0] .nil)) ⟨(Es E),(Bs E E)⟩ E E (aL aA 1 [] [4] [(3,.bp 4 0)] (.new 2 27 [.slice a2 x0.length c3] (.new 3 41 [.slice none 0 0] (.new 4 41 [.slice none 0 0] .nil))) ⟨⟨E,V⟩,(Bs E E)⟩ E E (JS.seq (JS.region (aB aA 2 [] [] [(5,.v (.slice a2 x0.length c3))] _ E ⟨⟨E,V⟩,E⟩ ?_))))
  refine bnw h fun y6 hy7 h=>JO.call E E E E (aGl x0 a2 c3 _ hy7) E [0] E E ?_
  rintro ⟨a8,c9⟩ -
  refine aP aA 2 [] [] [] (.new 3 41 [.slice none 0 0] (.new 4 41 [.slice a8 y6.length c9] .nil)) E ⟨V,(Bs E E)⟩ (aD E (aL aA 2 [] [] [] (.new 3 41 [.slice a8 y6.length c9] .nil) ⟨V,(Bs E E)⟩ E E ?_))
  cases h
  exact JS.ret aA (a8,c9) V E E [0] E

def lD (x0:List (List Int×Int)) (j34:(List (List Int×Int))→Option (List (List Int×Int))) (k26:((List (List Int×Int))×Int)→Option (List (List Int×Int))):((List (List Int×Int))×Int)→Option (List (List Int×Int)):=fun (x8,x11)=>
  (bif (decide (x11<(x0.length:Int))) then
  (aN (0≤x11∧x11<(x0.length:Int)) <|
  (aG (lE ((at' x0 x11).1,(at' x0 x11).2)) fun (y19:List Int×Int)=>
  (aN (0≤x11∧x11<(x8.length:Int)) <|
  k26 ((List.set x8 (Int.toNat x11) y19),(W (x11+1))))))
  else
  j34 x8)

def uU (x0:List (List Int×Int)):Option (List (List Int×Int)):=
  (aN (x0.length≤536870912) <|
  (aU (fun (x31:List (List Int×Int))=>
  some x31) fun j34=>
  (bC (lD x0 j34) bM ((List.replicate x0.length ([],(0:Int))),0))))

theorem aIp (x0:List (List Int×Int)) (a2:Option Addr) (c3:Nat) (r:List (List Int×Int)) (h:uU x0=some r):
  FC Tryz.prog 140 [.slice a2 x0.length c3] [⟨(.pair (.sl (.int .i64)) (.int .i64)),⟨a2,x0.length,c3⟩,x0⟩] (fun _:Option Addr×Nat=>True) (fun q=>.slice q.1 r.length q.2) (fun q=>[⟨(.pair (.sl (.int .i64)) (.int .i64)),⟨q.1,r.length,q.2⟩,r⟩]):=
 by
  refine FC.of (T:=TTx) Tryz.call140 Tryz.func140 E E fun w0=>?_
  unfold uU at h
  refine aC aA 1 [] ⟨V,E⟩ E E (JS.seq (JS.region (aB aA 2 [] [] [(6,.v (I (x0.length:Int)))] _ E ⟨⟨E,V⟩,E⟩ ?_)))
  obtain ⟨g6,h⟩:=aH h
  refine JO.makeSlice aA E E E E E E E E x0.length E g6 (.pair (.sl (.int .i64)) (.int .i64)) E E E E E fun a7=>aB aA 1 [] [] [(3,.v (.slice a7 x0.length x0.length))] _ E ⟨⟨E,V⟩,E⟩ (aD E (JS.seq (aC aA 1 [(4,.v (I 0))] ⟨⟨E,V⟩,E⟩ E E ?_)))
  obtain ⟨j34,hj42,h⟩:=aQ h
  refine bA (ι:=(List (List Int×Int))×Option Addr×Nat) ⟨fun z=>j34 z.1=some r,fun z=>[(3,.v (.slice z.2.1 z.1.length z.2.2))],fun z=>.nil,fun z=>[],fun z=>[⟨(.pair (.sl (.int .i64)) (.int .i64)),⟨z.2.1,z.1.length,z.2.2⟩,z.1⟩],fun z=>0⟩ ?_ ?_
  ·
   refine JS.loop (ι:=Nat×(List (List Int×Int))×Int×Option Addr×Nat) ⟨fun z=>bC (lD x0 j34) z.1 (z.2.1,z.2.2.1)=some r,fun z=>[(0,.v (.slice a2 x0.length c3)),(3,.v (.slice z.2.2.2.1 z.2.1.length (Q4 z))),(4,.v (I z.2.2.1))],fun z=>.nil,fun z=>[⟨(.pair (.sl (.int .i64)) (.int .i64)),⟨a2,x0.length,c3⟩,x0⟩],fun z=>[⟨(.pair (.sl (.int .i64)) (.int .i64)),⟨z.2.2.2.1,z.2.1.length,(Q4 z)⟩,z.2.1⟩],fun z=>z.1⟩ (bM,(List.replicate x0.length ([],(0:Int))),0,a7,x0.length) h ⟨E,(by simp only [List.length_set,List.length_replicate,bY,dN,oP,oO];rfl),E,V⟩ V [0] E [0] (by simp only [List.length_set,List.length_replicate,bY,dN,oP,oO];rfl) ?_
   rintro ⟨n27,x8,x11,a9,c10⟩ h
   obtain ⟨n27,rfl,h⟩:=bH h
   rw [lD] at h
   refine JS.seq (aC aA 4 [(11,.v (.bool (decide (x11<(x0.length:Int)))))] ⟨⟨E,V⟩,E⟩ E E ?_)
   refine aK E h (fun h=>?_) (fun h=>?_)
   ·
    refine JS.skip (JS.seq (JS.block (JS.region (bJ 0 E fun hs39=>?_))))
    obtain ⟨g13,h⟩:=aH h
    refine aB aA 5 [] [] [(14,.v (.slice a9 x8.length c10)),(15,.v (I x11)),(18,.ep ⟨a2,x0.length,c3⟩ (Int.toNat x11*2))] _ E ⟨hs39.ix g13,(Es E),E⟩ (eU 0 E (Int.toNat x11) (at' x0 x11) E fun a14 c15 ys16 hl17 hy18=>cP aA E E E E E E 0 E E (Int.toNat x11) 0 ((Sl.v ⟨a14,((at' x0 x11).1).length,c15⟩),(at' x0 x11).2) ⟨hy18 (kG g13),E⟩ E E E ?_)
    refine bnw h fun y19 hy20 h=>JO.call E E E E (uL ((at' x0 x11).1,(at' x0 x11).2) a14 c15 _ hy20) E [1] E E ?_
    rintro ⟨a21,c22⟩ -
    refine bJ 4 E fun hs40=>?_
    obtain ⟨g24,h⟩:=aH h
    refine aB aA 1 [] [] [(21,.ep ⟨a9,x8.length,c10⟩ (Int.toNat x11*2))] _ E ⟨hs40.ix g24,⟨E,V⟩,E⟩ (kD aA E E E E E E E E E [1,0] (fs:=[⟨(.int .i64),⟨a21,y19.1.length,c22⟩,y19.1⟩]) E (Int.toNat x11) 0 (at' x8 x11) y19 ⟨bD g24,E⟩ ⟨E,E,E,E⟩ (aD E (aZ (bZ aA 3 [(W (x11+1))] [] [(4,.v (I (W (x11+1))))] _ ⟨⟨V,E⟩,⟨E,V⟩,E⟩ E E (bQ (n27,(List.set x8 (Int.toNat x11) y19),(W (x11+1)),a9,c10) h (Nat.lt_succ_self _) ⟨E,(by simp only [List.length_set,List.length_replicate,bY,dN,oP,oO];rfl),E,V⟩ V [2] E [0] (by simp only [List.length_set,List.length_replicate,bY,dN,oP,oO];rfl))))))
   refine JS.exit E (aT (x8,a9,c10) h ⟨E,V⟩ V [] E [0] E)
  rintro ⟨x31,a32,c33⟩ h
  subst hj42
  refine aC aA 2 [(2,.v (.slice a32 x31.length c33))] ⟨⟨E,V⟩,E⟩ E E ?_
  cases h
  exact JS.ret aA (a32,c33) V E E [0] E

def tS (x0:List (List Int×Int)):Option (List (List Int×Int)):=
  (aG (uU x0) fun (y6:List (List Int×Int))=>
  some y6)

theorem aKj (x0:List (List Int×Int)) (a2:Option Addr) (c3:Nat) (r:List (List Int×Int)) (h:tS x0=some r):
  FC Tryz.prog 55 [.agg #[.slice a2 x0.length c3]] [⟨(.pair (.sl (.int .i64)) (.int .i64)),⟨a2,x0.length,c3⟩,x0⟩] (fun _:Option Addr×Nat=>True) (fun q=>.agg #[.slice q.1 r.length q.2]) (fun q=>[⟨(.pair (.sl (.int .i64)) (.int .i64)),⟨q.1,r.length,q.2⟩,r⟩]):=
 by
  refine FC.of (T:=TTx) Tryz.call55 Tryz.func55 E E fun w0=>?_
  unfold tS at h
  refine aL aA 2 [] [2,3] [(1,.bp 2 0),(2,.bp 3 0)] (.new 2 30 [.slice a2 x0.length c3] (.new 3 44 [.slice none 0 0] .nil)) ⟨(Es E),(Bs E E)⟩ E E (aL aA 1 [] [4] [(3,.bp 4 0)] (.new 2 30 [.slice a2 x0.length c3] (.new 3 44 [.slice none 0 0] (.new 4 44 [.slice none 0 0] .nil))) ⟨⟨E,V⟩,(Bs E E)⟩ E E (JS.seq (JS.region (aB aA 2 [] [] [(5,.v (.slice a2 x0.length c3))] _ E ⟨⟨E,V⟩,E⟩ ?_))))
  refine bnw h fun y6 hy7 h=>JO.call E E E E (aIp x0 a2 c3 _ hy7) E [0] E E ?_
  rintro ⟨a8,c9⟩ -
  refine aP aA 2 [] [] [] (.new 3 44 [.slice none 0 0] (.new 4 44 [.slice a8 y6.length c9] .nil)) E ⟨V,(Bs E E)⟩ (aD E (aL aA 2 [] [] [] (.new 3 44 [.slice a8 y6.length c9] .nil) ⟨V,(Bs E E)⟩ E E ?_))
  cases h
  exact JS.ret aA (a8,c9) V E E [0] E

def pK (x0:EdQ):Option EdQ:=
  (aG (lE x0.2.2.1) fun (y26:List Int×Int)=>
  (aG (tT x0.2.2.2.2.2.2.2.2.2.2.1) fun (y30:List (List Int))=>
  (aG (tS x0.2.2.2.2.2.2.2.2.2.2.2.1) fun (y34:List (List Int×Int))=>
  (aG (lE x0.2.2.2.2.2.2.2.2.2.2.2.2.2.1) fun (y38:List Int×Int)=>
  (aG (nX x0.2.2.2.2.2.2.2.2.2.2.2.2.2.2.1) fun (y42:List Int)=>
  (aG (lE x0.2.2.2.2.2.2.2.2.2.2.2.2.2.2.2.2) fun (y46:List Int×Int)=>
  some (x0.1,x0.2.1,y26,x0.2.2.2.1,x0.2.2.2.2.1,x0.2.2.2.2.2.1,x0.2.2.2.2.2.2.1,x0.2.2.2.2.2.2.2.1,x0.2.2.2.2.2.2.2.2.1,x0.2.2.2.2.2.2.2.2.2.1,y30,y34,x0.2.2.2.2.2.2.2.2.2.2.2.2.1,y38,y42,x0.2.2.2.2.2.2.2.2.2.2.2.2.2.2.2.1,y46)))))))

theorem sS (x0:EdQ) (q2:P6) (r:EdQ) (h:pK x0=some r):
  FC Tryz.prog 13 [.agg (cC x0 q2).toArray] (bW x0 q2 []) (fun _:P6=>True) (fun q=>.agg (aI r q).toArray) (fun q=>(bW r q [])):=
 by
  refine FC.of (T:=TTx) Tryz.call13 Tryz.func13 E E fun w0=>?_
  unfold pK at h
  refine aL aA 2 [] [7,8] [(1,.bp 7 0),(2,.bp 8 0)] (.new 7 32 (cC x0 q2) (.new 8 46 bF .nil)) ⟨(Es E),(Bs E E)⟩ E E (aL aA 1 [] [9] [(3,.bp 9 0)] (.new 7 32 (cC x0 q2) (.new 8 46 bF (.new 9 46 bF .nil))) ⟨⟨E,V⟩,(Bs E E)⟩ E E (aL aA 4 [] [] [] (.new 7 32 (cC x0 q2) (.new 8 46 bF (.new 9 46 (aI (x0.1,0,([],0),0,0,0,0,0,0,0,[],[],0,([],0),[],0,([],0)) (none,0,none,0,none,0,none,0,none,0,none,0)) .nil))) ⟨V,(Bs E E)⟩ E E (aL aA 4 [] [] [] (.new 7 32 (cC x0 q2) (.new 8 46 bF (.new 9 46 (aI (x0.1,x0.2.1,([],0),0,0,0,0,0,0,0,[],[],0,([],0),[],0,([],0)) (none,0,none,0,none,0,none,0,none,0,none,0)) .nil))) ⟨V,(Bs E E)⟩ E E (JS.seq (JS.region (aB aA 2 [] [] [(11,.v (.agg #[.slice q2.1 x0.2.2.1.1.length q2.2.1,.int .i64 x0.2.2.1.2]))] _ E ⟨⟨E,V⟩,E⟩ ?_))))))
  refine bnw h fun y26 hy27 h=>JO.call E E E E (uL x0.2.2.1 q2.1 q2.2.1 _ hy27) E [0] E E ?_
  rintro ⟨a28,c29⟩ -
  refine aP aA 2 [] [] [] (.new 7 32 (cC x0 q2) (.new 8 46 bF (.new 9 46 (aI (x0.1,x0.2.1,y26,0,0,0,0,0,0,0,[],[],0,([],0),[],0,([],0)) (a28,c29,none,0,none,0,none,0,none,0,none,0)) .nil))) E ⟨V,(Bs E E)⟩ (aD E (aL aA 4 [] [] [] (.new 7 32 (cC x0 q2) (.new 8 46 bF (.new 9 46 (aI (x0.1,x0.2.1,y26,x0.2.2.2.1,0,0,0,0,0,0,[],[],0,([],0),[],0,([],0)) (a28,c29,none,0,none,0,none,0,none,0,none,0)) .nil))) ⟨V,(Bs E E)⟩ E E (aL aA 4 [] [] [] (.new 7 32 (cC x0 q2) (.new 8 46 bF (.new 9 46 (aI (x0.1,x0.2.1,y26,x0.2.2.2.1,(Q4 x0).1,0,0,0,0,0,[],[],0,([],0),[],0,([],0)) (a28,c29,none,0,none,0,none,0,none,0,none,0)) .nil))) ⟨V,(Bs E E)⟩ E E (aL aA 4 [] [] [] (.new 7 32 (cC x0 q2) (.new 8 46 bF (.new 9 46 (aI (x0.1,x0.2.1,y26,x0.2.2.2.1,(Q4 x0).1,(Q4 x0).2.1,0,0,0,0,[],[],0,([],0),[],0,([],0)) (a28,c29,none,0,none,0,none,0,none,0,none,0)) .nil))) ⟨V,(Bs E E)⟩ E E (aL aA 4 [] [] [] (.new 7 32 (cC x0 q2) (.new 8 46 bF (.new 9 46 (aI (x0.1,x0.2.1,y26,x0.2.2.2.1,(Q4 x0).1,(Q4 x0).2.1,(Q4 x0).2.2.1,0,0,0,[],[],0,([],0),[],0,([],0)) (a28,c29,none,0,none,0,none,0,none,0,none,0)) .nil))) ⟨V,(Bs E E)⟩ E E (aL aA 4 [] [] [] (.new 7 32 (cC x0 q2) (.new 8 46 bF (.new 9 46 (aI (x0.1,x0.2.1,y26,x0.2.2.2.1,(Q4 x0).1,(Q4 x0).2.1,(Q4 x0).2.2.1,(Q4 x0).2.2.2.1,0,0,[],[],0,([],0),[],0,([],0)) (a28,c29,none,0,none,0,none,0,none,0,none,0)) .nil))) ⟨V,(Bs E E)⟩ E E (aL aA 4 [] [] [] (.new 7 32 (cC x0 q2) (.new 8 46 bF (.new 9 46 (aI (x0.1,x0.2.1,y26,x0.2.2.2.1,(Q4 x0).1,(Q4 x0).2.1,(Q4 x0).2.2.1,(Q4 x0).2.2.2.1,(Q8 x0).1,0,[],[],0,([],0),[],0,([],0)) (a28,c29,none,0,none,0,none,0,none,0,none,0)) .nil))) ⟨V,(Bs E E)⟩ E E (aL aA 4 [] [] [] (.new 7 32 (cC x0 q2) (.new 8 46 bF (.new 9 46 (aI (x0.1,x0.2.1,y26,x0.2.2.2.1,(Q4 x0).1,(Q4 x0).2.1,(Q4 x0).2.2.1,(Q4 x0).2.2.2.1,(Q8 x0).1,(Q8 x0).2.1,[],[],0,([],0),[],0,([],0)) (a28,c29,none,0,none,0,none,0,none,0,none,0)) .nil))) ⟨V,(Bs E E)⟩ E E (JS.seq (JS.region (aB aA 2 [] [] [(36,.v (.agg #[.slice q2.2.2.1 (Q8 x0).2.2.1.length q2.2.2.2.1]))] _ E ⟨⟨E,V⟩,E⟩ ?_)))))))))))
  refine bnw h fun y30 hy31 h=>JO.call E E E E (aKk (Q8 x0).2.2.1 q2.2.2.1 q2.2.2.2.1 _ hy31) E [1] E E ?_
  rintro ⟨a32,c33⟩ -
  refine aP aA 2 [] [] [] (.new 7 32 (cC x0 q2) (.new 8 46 bF (.new 9 46 (aI (x0.1,x0.2.1,y26,x0.2.2.2.1,(Q4 x0).1,(Q4 x0).2.1,(Q4 x0).2.2.1,(Q4 x0).2.2.2.1,(Q8 x0).1,(Q8 x0).2.1,y30,[],0,([],0),[],0,([],0)) (a28,c29,a32,c33,none,0,none,0,none,0,none,0)) .nil))) E ⟨V,(Bs E E)⟩ (aD E (JS.seq (JS.region (aB aA 2 [] [] [(40,.v (.agg #[.slice (Q4 q2).1 (Q8 x0).2.2.2.1.length (Q4 q2).2.1]))] _ E ⟨⟨E,V⟩,E⟩ ?_))))
  refine bnw h fun y34 hy35 h=>JO.call E E E E (aKj (Q8 x0).2.2.2.1 (Q4 q2).1 (Q4 q2).2.1 _ hy35) E [2] E E ?_
  rintro ⟨a36,c37⟩ -
  refine aP aA 2 [] [] [] (.new 7 32 (cC x0 q2) (.new 8 46 bF (.new 9 46 (aI (x0.1,x0.2.1,y26,x0.2.2.2.1,(Q4 x0).1,(Q4 x0).2.1,(Q4 x0).2.2.1,(Q4 x0).2.2.2.1,(Q8 x0).1,(Q8 x0).2.1,y30,y34,0,([],0),[],0,([],0)) (a28,c29,a32,c33,a36,c37,none,0,none,0,none,0)) .nil))) E ⟨V,(Bs E E)⟩ (aD E (aL aA 4 [] [] [] (.new 7 32 (cC x0 q2) (.new 8 46 bF (.new 9 46 (aI (x0.1,x0.2.1,y26,x0.2.2.2.1,(Q4 x0).1,(Q4 x0).2.1,(Q4 x0).2.2.1,(Q4 x0).2.2.2.1,(Q8 x0).1,(Q8 x0).2.1,y30,y34,(Q12 x0).1,([],0),[],0,([],0)) (a28,c29,a32,c33,a36,c37,none,0,none,0,none,0)) .nil))) ⟨V,(Bs E E)⟩ E E (JS.seq (JS.region (aB aA 2 [] [] [(47,.v (.agg #[.slice (Q4 q2).2.2.1 (Q12 x0).2.1.1.length (Q4 q2).2.2.2.1,.int .i64 (Q12 x0).2.1.2]))] _ E ⟨⟨E,V⟩,E⟩ ?_)))))
  refine bnw h fun y38 hy39 h=>JO.call E E E E (uL (Q12 x0).2.1 (Q4 q2).2.2.1 (Q4 q2).2.2.2.1 _ hy39) E [3] E E ?_
  rintro ⟨a40,c41⟩ -
  refine aP aA 2 [] [] [] (.new 7 32 (cC x0 q2) (.new 8 46 bF (.new 9 46 (aI (x0.1,x0.2.1,y26,x0.2.2.2.1,(Q4 x0).1,(Q4 x0).2.1,(Q4 x0).2.2.1,(Q4 x0).2.2.2.1,(Q8 x0).1,(Q8 x0).2.1,y30,y34,(Q12 x0).1,y38,[],0,([],0)) (a28,c29,a32,c33,a36,c37,a40,c41,none,0,none,0)) .nil))) E ⟨V,(Bs E E)⟩ (aD E (JS.seq (JS.region (aB aA 2 [] [] [(51,.v (.slice (Q8 q2).1 (Q12 x0).2.2.1.length (Q8 q2).2.1))] _ E ⟨⟨E,V⟩,E⟩ ?_))))
  refine bnw h fun y42 hy43 h=>JO.call E E E E (yA (Q12 x0).2.2.1 (Q8 q2).1 (Q8 q2).2.1 _ hy43) E [4] E E ?_
  rintro ⟨a44,c45⟩ -
  refine aP aA 2 [] [] [] (.new 7 32 (cC x0 q2) (.new 8 46 bF (.new 9 46 (aI (x0.1,x0.2.1,y26,x0.2.2.2.1,(Q4 x0).1,(Q4 x0).2.1,(Q4 x0).2.2.1,(Q4 x0).2.2.2.1,(Q8 x0).1,(Q8 x0).2.1,y30,y34,(Q12 x0).1,y38,y42,0,([],0)) (a28,c29,a32,c33,a36,c37,a40,c41,a44,c45,none,0)) .nil))) E ⟨V,(Bs E E)⟩ (aD E (aL aA 4 [] [] [] (.new 7 32 (cC x0 q2) (.new 8 46 bF (.new 9 46 (aI (x0.1,x0.2.1,y26,x0.2.2.2.1,(Q4 x0).1,(Q4 x0).2.1,(Q4 x0).2.2.1,(Q4 x0).2.2.2.1,(Q8 x0).1,(Q8 x0).2.1,y30,y34,(Q12 x0).1,y38,y42,(Q12 x0).2.2.2.1,([],0)) (a28,c29,a32,c33,a36,c37,a40,c41,a44,c45,none,0)) .nil))) ⟨V,(Bs E E)⟩ E E (JS.seq (JS.region (aB aA 2 [] [] [(58,.v (.agg #[.slice (Q8 q2).2.2.1 (Q16 x0).1.length (Q8 q2).2.2.2,.int .i64 (Q16 x0).2]))] _ E ⟨⟨E,V⟩,E⟩ ?_)))))
  refine bnw h fun y46 hy47 h=>JO.call E E E E (uL (Q16 x0) (Q8 q2).2.2.1 (Q8 q2).2.2.2 _ hy47) E [5] E E ?_
  rintro ⟨a48,c49⟩ -
  refine aP aA 2 [] [] [] (.new 8 46 bF (.new 9 46 (aI (x0.1,x0.2.1,y26,x0.2.2.2.1,(Q4 x0).1,(Q4 x0).2.1,(Q4 x0).2.2.1,(Q4 x0).2.2.2.1,(Q8 x0).1,(Q8 x0).2.1,y30,y34,(Q12 x0).1,y38,y42,(Q12 x0).2.2.2.1,y46) (a28,c29,a32,c33,a36,c37,a40,c41,a44,c45,a48,c49)) .nil)) E ⟨V,(Bs E E)⟩ (aD E (aL aA 2 [] [] [] (.new 8 46 (aI (x0.1,x0.2.1,y26,x0.2.2.2.1,(Q4 x0).1,(Q4 x0).2.1,(Q4 x0).2.2.1,(Q4 x0).2.2.2.1,(Q8 x0).1,(Q8 x0).2.1,y30,y34,(Q12 x0).1,y38,y42,(Q12 x0).2.2.2.1,y46) (a28,c29,a32,c33,a36,c37,a40,c41,a44,c45,a48,c49)) .nil) ⟨V,(Bs E E)⟩ E E ?_))
  cases h
  exact JS.ret aA (a28,c29,a32,c33,a36,c37,a40,c41,a44,c45,a48,c49) V E E [5,4,3,2,1,0] E

def iL (x0:List (List UInt8)) (j25:(List (List UInt8))→Option (List (List UInt8))) (k17:(List (List UInt8)×Int)→Option (List (List UInt8))):(List (List UInt8)×Int)→Option (List (List UInt8)):=fun (x8,x11)=>
  (bif (decide (x11<(x0.length:Int))) then
  (aN (0≤x11∧x11<(x0.length:Int)) <|
  (aN (0≤x11∧x11<(x8.length:Int)) <|
  k17 ((List.set x8 (Int.toNat x11) (at' x0 x11)),(W (x11+1)))))
  else
  j25 x8)

def nB (x0:List (List UInt8)):Option (List (List UInt8)):=
  (aN (x0.length≤536870912) <|
  (aU (fun (x22:List (List UInt8))=>
  some x22) fun j25=>
  (bC (iL x0 j25) bM ((List.replicate x0.length []),0))))

theorem aEv (x0:List (List UInt8)) (a2:Option Addr) (c3:Nat) (r:List (List UInt8)) (h:nB x0=some r):
  FC Tryz.prog 56 [.slice a2 x0.length c3] [⟨.str,⟨a2,x0.length,c3⟩,x0⟩] (fun _:Option Addr×Nat=>True) (fun q=>.slice q.1 r.length q.2) (fun q=>[⟨.str,⟨q.1,r.length,q.2⟩,r⟩]):=
 by
  refine FC.of (T:=TTx) Tryz.call56 Tryz.func56 E E fun w0=>?_
  unfold nB at h
  refine aC aA 1 [] ⟨V,E⟩ E E (JS.seq (JS.region (aB aA 2 [] [] [(6,.v (I (x0.length:Int)))] _ E ⟨⟨E,V⟩,E⟩ ?_)))
  obtain ⟨g6,h⟩:=aH h
  refine JO.makeSlice aA E E E E E E E E x0.length E g6 .str E E E E E fun a7=>aB aA 1 [] [] [(3,.v (.slice a7 x0.length x0.length))] _ E ⟨⟨E,V⟩,E⟩ (aD E (JS.seq (aC aA 1 [(4,.v (I 0))] ⟨⟨E,V⟩,E⟩ E E ?_)))
  obtain ⟨j25,hj33,h⟩:=aQ h
  refine bA (ι:=List (List UInt8)×Option Addr×Nat) ⟨fun z=>j25 z.1=some r,fun z=>[(3,.v (.slice z.2.1 z.1.length z.2.2))],fun z=>.nil,fun z=>[],fun z=>[⟨.str,⟨z.2.1,z.1.length,z.2.2⟩,z.1⟩],fun z=>0⟩ ?_ ?_
  ·
   refine JS.loop (ι:=Nat×List (List UInt8)×Int×Option Addr×Nat) ⟨fun z=>bC (iL x0 j25) z.1 (z.2.1,z.2.2.1)=some r,fun z=>[(0,.v (.slice a2 x0.length c3)),(3,.v (.slice z.2.2.2.1 z.2.1.length (Q4 z))),(4,.v (I z.2.2.1))],fun z=>.nil,fun z=>[⟨.str,⟨a2,x0.length,c3⟩,x0⟩],fun z=>[⟨.str,⟨z.2.2.2.1,z.2.1.length,(Q4 z)⟩,z.2.1⟩],fun z=>z.1⟩ (bM,(List.replicate x0.length []),0,a7,x0.length) h ⟨E,(by simp only [List.length_set,List.length_replicate,bY,dN,oP,oO];rfl),E,V⟩ V [0] E [0] (by simp only [List.length_set,List.length_replicate,bY,dN,oP,oO];rfl) ?_
   rintro ⟨n18,x8,x11,a9,c10⟩ h
   obtain ⟨n18,rfl,h⟩:=bH h
   rw [iL] at h
   refine JS.seq (aC aA 4 [(11,.v (.bool (decide (x11<(x0.length:Int)))))] ⟨⟨E,V⟩,E⟩ E E ?_)
   refine aK E h (fun h=>?_) (fun h=>?_)
   ·
    refine JS.skip (JS.seq (JS.block (JS.region (bJ 0 E fun hs30=>?_))))
    obtain ⟨g13,h⟩:=aH h
    refine aB aA 5 [] [] [(14,.v (.slice a9 x8.length c10)),(15,.v (I x11)),(18,.ep ⟨a2,x0.length,c3⟩ (Int.toNat x11*1))] _ E ⟨hs30.ix g13,(Es E),E⟩ (JO.load aA E E E E E E E 0 E E (Int.toNat x11) 0 (at' x0 x11) ⟨bD g13,E⟩ E E (bJ 1 E fun hs31=>?_))
    obtain ⟨g15,h⟩:=aH h
    refine aB aA 1 [] [] [(20,.ep ⟨a9,x8.length,c10⟩ (Int.toNat x11*1))] _ E ⟨hs31.ix g15,⟨E,V⟩,E⟩ (kD aA E E E E E E E E E [0] (fs:=[]) E (Int.toNat x11) 0 (at' x8 x11) (at' x0 x11) ⟨bD g15,E⟩ ⟨E,E,E⟩ (aD E (aZ (bZ aA 3 [(W (x11+1))] [] [(4,.v (I (W (x11+1))))] _ ⟨⟨V,E⟩,⟨E,V⟩,E⟩ E E (bQ (n18,(List.set x8 (Int.toNat x11) (at' x0 x11)),(W (x11+1)),a9,c10) h (Nat.lt_succ_self _) ⟨E,(by simp only [List.length_set,List.length_replicate,bY,dN,oP,oO];rfl),E,V⟩ V [0] E [0] (by simp only [List.length_set,List.length_replicate,bY,dN,oP,oO];rfl))))))
   refine JS.exit E (aT (x8,a9,c10) h ⟨E,V⟩ V [] E [0] E)
  rintro ⟨x22,a23,c24⟩ h
  subst hj33
  refine aC aA 2 [(2,.v (.slice a23 x22.length c24))] ⟨⟨E,V⟩,E⟩ E E ?_
  cases h
  exact JS.ret aA (a23,c24) V E E [0] E

def lF (x0:Int×List (List UInt8)):Option (Int×List (List UInt8)):=
  (aG (nB x0.2) fun (y6:List (List UInt8))=>
  some (x0.1,y6))

theorem iR (x0:Int×List (List UInt8)) (a2:Option Addr) (c3:Nat) (r:Int×List (List UInt8)) (h:lF x0=some r):
  FC Tryz.prog 14 [.agg #[.int .i64 x0.1,.slice a2 x0.2.length c3]] [⟨.str,⟨a2,x0.2.length,c3⟩,x0.2⟩] (fun _:Option Addr×Nat=>True) (fun q=>.agg #[.int .i64 r.1,.slice q.1 r.2.length q.2]) (fun q=>[⟨.str,⟨q.1,r.2.length,q.2⟩,r.2⟩]):=
 by
  refine FC.of (T:=TTx) Tryz.call14 Tryz.func14 E E fun w0=>?_
  unfold lF at h
  refine aL aA 2 [] [2,3] [(1,.bp 2 0),(2,.bp 3 0)] (.new 2 35 [.int .i64 x0.1,.slice a2 x0.2.length c3] (.new 3 50 [.int .i64 0,.slice none 0 0] .nil)) ⟨(Es E),(Bs E E)⟩ E E (aL aA 1 [] [4] [(3,.bp 4 0)] (.new 2 35 [.int .i64 x0.1,.slice a2 x0.2.length c3] (.new 3 50 [.int .i64 0,.slice none 0 0] (.new 4 50 [.int .i64 0,.slice none 0 0] .nil))) ⟨⟨E,V⟩,(Bs E E)⟩ E E (aL aA 4 [] [] [] (.new 2 35 [.int .i64 x0.1,.slice a2 x0.2.length c3] (.new 3 50 [.int .i64 0,.slice none 0 0] (.new 4 50 [.int .i64 x0.1,.slice none 0 0] .nil))) ⟨V,(Bs E E)⟩ E E (JS.seq (JS.region (aB aA 2 [] [] [(8,.v (.slice a2 x0.2.length c3))] _ E ⟨⟨E,V⟩,E⟩ ?_)))))
  refine bnw h fun y6 hy7 h=>JO.call E E E E (aEv x0.2 a2 c3 _ hy7) E [0] E E ?_
  rintro ⟨a8,c9⟩ -
  refine aP aA 2 [] [] [] (.new 3 50 [.int .i64 0,.slice none 0 0] (.new 4 50 [.int .i64 x0.1,.slice a8 y6.length c9] .nil)) E ⟨V,(Bs E E)⟩ (aD E (aL aA 2 [] [] [] (.new 3 50 [.int .i64 x0.1,.slice a8 y6.length c9] .nil) ⟨V,(Bs E E)⟩ E E ?_))
  cases h
  exact JS.ret aA (a8,c9) V E E [0] E

def wB (x0:Int×Int):Option (Int×Int):=
  some x0

theorem gX (x0:Int×Int) (r:Int×Int) (h:wB x0=some r) :
  FC Tryz.prog 25 [.agg #[.int .i64 x0.1,.int .i64 x0.2]] [] (fun _:Unit=>True) (fun _=>.agg #[.int .i64 r.1,.int .i64 r.2]) (fun _=>[]):=
 by
  refine FC.of (T:=TTx) Tryz.call25 Tryz.func25 E E fun w0=>?_
  unfold wB at h
  refine aL aA 2 [] [1,2] [(1,.bp 1 0),(2,.bp 2 0)] (.new 1 61 [.int .i64 x0.1,.int .i64 x0.2] (.new 2 64 [.int .i64 0,.int .i64 0] .nil)) ⟨(Es E),(Bs E E)⟩ E E (aL aA 1 [] [3] [(3,.bp 3 0)] (.new 1 61 [.int .i64 x0.1,.int .i64 x0.2] (.new 2 64 [.int .i64 0,.int .i64 0] (.new 3 64 [.int .i64 0,.int .i64 0] .nil))) ⟨⟨E,V⟩,(Bs E E)⟩ E E (aL aA 4 [] [] [] (.new 1 61 [.int .i64 x0.1,.int .i64 x0.2] (.new 2 64 [.int .i64 0,.int .i64 0] (.new 3 64 [.int .i64 x0.1,.int .i64 0] .nil))) ⟨V,(Bs E E)⟩ E E (aL aA 4 [] [] [] (.new 2 64 [.int .i64 0,.int .i64 0] (.new 3 64 [.int .i64 x0.1,.int .i64 x0.2] .nil)) ⟨V,(Bs E E)⟩ E E (aL aA 2 [] [] [] (.new 2 64 [.int .i64 x0.1,.int .i64 x0.2] .nil) ⟨V,(Bs E E)⟩ E E ?_))))
  cases h
  exact JS.ret aA () V E E [] E

def kY (x0:Int):Option Bool:=
  some (bif (bif (decide (0≤x0)) then (decide (x0≤1114111)) else false) then (bif (decide (x0<55296)) then true else (decide (57343<x0))) else false)

theorem aC9 (x0:Int) (r:Bool) (h:kY x0=some r) :
  FC Tryz.prog 230 [.int .i64 x0] [] (fun _:Unit=>True) (fun _=>.bool r) (fun _=>[]):=
 by
  refine FC.of (T:=TTx) Tryz.call230 Tryz.func230 E E fun w0=>?_
  unfold kY at h
  refine aC aA 1 [] ⟨V,E⟩ E E (aC aA 15 [(2,.v (.bool (bif (bif (decide (0≤x0)) then (decide (x0≤1114111)) else false) then (bif (decide (x0<55296)) then true else (decide (57343<x0))) else false)))] ⟨⟨E,V⟩,E⟩ E E ?_)
  cases h
  exact JS.ret aA () V E E [] E

def dR (x0:Int):Option Bool:=
  (aG (kY x0) fun (y2:Bool)=>
  some (bif (bif y2 then (decide (32≤x0)) else false) then (bif (decide (x0<127)) then true else (decide (159<x0))) else false))

theorem kL (x0:Int) (r:Bool) (h:dR x0=some r) :
  FC Tryz.prog 132 [.int .i64 x0] [] (fun _:Unit=>True) (fun _=>.bool r) (fun _=>[]):=
 by
  refine FC.of (T:=TTx) Tryz.call132 Tryz.func132 E E fun w0=>?_
  unfold dR at h
  refine aC aA 1 [] ⟨V,E⟩ E E (JS.seq (JS.region (aB aA 1 [] [] [(3,.v (I x0))] _ E ⟨⟨E,V⟩,E⟩ ?_)))
  refine bnw h fun y2 hy3 h=>JO.call E E E E (aC9 x0 _ hy3) E [] E E fun _ _=>aB aA 13 [] [] [(2,.v (.bool (bif (bif y2 then (decide (32≤x0)) else false) then (bif (decide (x0<127)) then true else (decide (159<x0))) else false)))] _ E ⟨⟨E,V⟩,E⟩ (aD E ?_)
  cases h
  exact JS.ret aA () V E E [] E

def pA (x0:Int):Option Bool:=
  (aG (dR x0) fun (y2:Bool)=>
  some (bif (bif y2 then true else (decide (x0=9))) then true else (decide (x0=10))))

theorem aGd (x0:Int) (r:Bool) (h:pA x0=some r) :
  FC Tryz.prog 283 [.int .i64 x0] [] (fun _:Unit=>True) (fun _=>.bool r) (fun _=>[]):=
 by
  refine FC.of (T:=TTx) Tryz.call283 Tryz.func283 E E fun w0=>?_
  unfold pA at h
  refine aC aA 1 [] ⟨V,E⟩ E E (JS.seq (JS.region (aB aA 1 [] [] [(3,.v (I x0))] _ E ⟨⟨E,V⟩,E⟩ ?_)))
  refine bnw h fun y2 hy3 h=>JO.call E E E E (kL x0 _ hy3) E [] E E fun _ _=>aB aA 9 [] [] [(2,.v (.bool (bif (bif y2 then true else (decide (x0=9))) then true else (decide (x0=10)))))] _ E ⟨⟨E,V⟩,E⟩ (aD E ?_)
  cases h
  exact JS.ret aA () V E E [] E

def eG (x0:List Int) (j18:Unit→Option Bool) (k13:Int→Option Bool):Int→Option Bool:=fun x6=>
  (bif (decide (x6<(x0.length:Int))) then
  (aN (0≤x6∧x6<(x0.length:Int)) <|
  (aG (pA (at' x0 x6)) fun (y9:Bool)=>
  (bif (!y9) then
  some false
  else
  k13 (W (x6+1)))))
  else
  j18 ())

def gC (x0:List Int):Option Bool:=
  (aU (fun (_:Unit)=>
  some true) fun j18=>
  (bC (eG x0 j18) bM 0))

theorem vR (x0:List Int) (a2:Option Addr) (c3:Nat) (r:Bool) (h:gC x0=some r):
  FC Tryz.prog 227 [.slice a2 x0.length c3] [⟨(.int .i64),⟨a2,x0.length,c3⟩,x0⟩] (fun _:Unit=>True) (fun _=>.bool r) (fun _=>[]):=
 by
  refine FC.of (T:=TTx) Tryz.call227 Tryz.func227 E E fun w0=>?_
  unfold gC at h
  refine aC aA 1 [] ⟨V,E⟩ E E (JS.seq (aC aA 3 [(5,.v (.slice a2 x0.length c3)),(6,.v (I (x0.length:Int))),(7,.v (I 0))] ⟨(Es E),E⟩ E E ?_))
  obtain ⟨j18,hj26,h⟩:=aQ h
  refine bA (ι:=Unit) ⟨fun _=>j18 ()=some r,fun _=>[],fun _=>.nil,fun _=>[],fun _=>[],fun _=>0⟩ ?_ ?_
  ·
   refine JS.loop (ι:=Nat×Int) ⟨fun z=>bC (eG x0 j18) z.1 z.2=some r,fun z=>[(5,.v (.slice a2 x0.length c3)),(6,.v (I (x0.length:Int))),(7,.v (I z.2))],fun z=>.nil,fun z=>[⟨(.int .i64),⟨a2,x0.length,c3⟩,x0⟩],fun z=>[],fun z=>z.1⟩ (bM,0) h (Es E) V [0] E [] E ?_
   rintro ⟨n14,x6⟩ h
   obtain ⟨n14,rfl,h⟩:=bH h
   rw [eG] at h
   refine aC aA 1 [(8,.v (.bool (decide (x6<(x0.length:Int)))))] ⟨⟨E,V⟩,E⟩ E E (JS.seq ?_)
   refine aK E h (fun h=>?_) (fun h=>?_)
   ·
    refine JS.skip (JS.seq (JS.block (JS.seq (JS.region (bJ 0 E fun hs23=>?_)))))
    obtain ⟨g8,h⟩:=aH h
    refine aB aA 1 [] [] [(9,.ep ⟨a2,x0.length,c3⟩ (Int.toNat x6*1))] _ E ⟨hs23.ix g8,⟨E,V⟩,E⟩ (JO.load aA E E E E E E E 0 E E (Int.toNat x6) 0 (at' x0 x6) ⟨bD g8,E⟩ E E (aB aA 1 [] [] [(4,.v (I (at' x0 x6)))] _ E ⟨⟨E,V⟩,E⟩ (aD E (JS.seq (JS.region (aB aA 1 [] [] [(11,.v (I (at' x0 x6)))] _ E ⟨⟨E,V⟩,E⟩ ?_))))))
    refine bnw h fun y9 hy10 h=>JO.call E E E E (aGd (at' x0 x6) _ hy10) E [] E E fun _ _=>aB aA 1 [] [] [(13,.v (.bool (!y9)))] _ E ⟨⟨E,V⟩,E⟩ (aD E ?_)
    refine aK E h (fun h=>?_) (fun h=>?_)
    ·
     refine aC aA 1 [(2,.v (.bool false))] ⟨⟨E,V⟩,E⟩ E E ?_
     cases h
     exact JS.ret aA () V E E [] E
    refine JS.skip (aZ (bZ aA 2 [(W (x6+1))] [] [(7,.v (I (W (x6+1))))] _ ⟨⟨V,E⟩,⟨E,V⟩,E⟩ E E (bQ (n14,(W (x6+1))) h (Nat.lt_succ_self _) (Es E) V [0] E [] E)))
   refine JS.exit E (aT () h V V [] E [] E)
  rintro _ h
  subst hj26
  refine aC aA 1 [(2,.v (.bool true))] ⟨⟨E,V⟩,E⟩ E E ?_
  cases h
  exact JS.ret aA () V E E [] E

def dE (x0:List Int×Int):Option Bool:=
  (bU ((decide ((x0.1.length:Int)≤400))=true) (gC x0.1) false fun (y6:Bool)=>
  some (bif (bif (bif (decide ((x0.1.length:Int)≤400)) then y6 else false) then (decide (0≤x0.2)) else false) then (decide (x0.2≤(x0.1.length:Int))) else false))

theorem eO (x0:List Int×Int) (a2:Option Addr) (c3:Nat) (r:Bool) (h:dE x0=some r):
  FC Tryz.prog 128 [.agg #[.slice a2 x0.1.length c3,.int .i64 x0.2]] [⟨(.int .i64),⟨a2,x0.1.length,c3⟩,x0.1⟩] (fun _:Unit=>True) (fun _=>.bool r) (fun _=>[]):=
 by
  refine FC.of (T:=TTx) Tryz.call128 Tryz.func128 E E fun w0=>?_
  unfold dE at h
  refine aL aA 2 [] [2] [(1,.bp 2 0)] (.new 2 38 [.slice a2 x0.1.length c3,.int .i64 x0.2] .nil) ⟨⟨E,V⟩,(Bs E E)⟩ E E (JS.seq (JS.region (aB aA 7 [] [] [(7,.v (.bool (decide ((x0.1.length:Int)≤400)))),(9,.cd [(7,true)] (.v (.slice a2 x0.1.length c3)))] _ E ⟨(Es E),E⟩ ?_)))
  obtain ⟨y6,hy7,-,h⟩:=aV h
  refine bI E E E E (fun q9=>vR x0.1 a2 c3 _ (hy7 q9)) E [0] E E (aB aA 15 [] [] [(2,.v (.bool (bif (bif (bif (decide ((x0.1.length:Int)≤400)) then y6 else false) then (decide (0≤x0.2)) else false) then (decide (x0.2≤(x0.1.length:Int))) else false)))] _ E ⟨⟨E,V⟩,E⟩ (aD E ?_))
  cases h
  exact JS.ret aA () V E E [] E

def mD (x0:List Int×Int):Option Bool:=
  some (bif (decide ((x0.1.length:Int)=0)) then (decide (x0.2=0)) else false)

theorem aAd (x0:List Int×Int) (a2:Option Addr) (c3:Nat) (r:Bool) (h:mD x0=some r):
  FC Tryz.prog 133 [.agg #[.slice a2 x0.1.length c3,.int .i64 x0.2]] [⟨(.int .i64),⟨a2,x0.1.length,c3⟩,x0.1⟩] (fun _:Unit=>True) (fun _=>.bool r) (fun _=>[]):=
 by
  refine FC.of (T:=TTx) Tryz.call133 Tryz.func133 E E fun w0=>?_
  unfold mD at h
  refine aL aA 2 [] [2] [(1,.bp 2 0)] (.new 2 38 [.slice a2 x0.1.length c3,.int .i64 x0.2] .nil) ⟨⟨E,V⟩,(Bs E E)⟩ E E (aC aA 10 [(2,.v (.bool (bif (decide ((x0.1.length:Int)=0)) then (decide (x0.2=0)) else false)))] ⟨⟨E,V⟩,E⟩ E E ?_)
  cases h
  exact JS.ret aA () V E E [] E

def iJ (x0:List Int) (x1:Int) (j17:Unit→Option Bool) (k12:Int→Option Bool):Int→Option Bool:=fun x7=>
  (bif (decide (x7<(x0.length:Int))) then
  (aN (0≤x7∧x7<(x0.length:Int)) <|
  (bif (decide ((at' x0 x7)=x1)) then
  some true
  else
  k12 (W (x7+1))))
  else
  j17 ())

def qX (x0:List Int) (x1:Int):Option Bool:=
  (aU (fun (_:Unit)=>
  some false) fun j17=>
  (bC (iJ x0 x1 j17) bM 0))

theorem aEs (x0:List Int) (x1:Int) (a3:Option Addr) (c4:Nat) (r:Bool) (h:qX x0 x1=some r):
  FC Tryz.prog 284 [.slice a3 x0.length c4,.int .i64 x1] [⟨(.int .i64),⟨a3,x0.length,c4⟩,x0⟩] (fun _:Unit=>True) (fun _=>.bool r) (fun _=>[]):=
 by
  refine FC.of (T:=TTx) Tryz.call284 Tryz.func284 E E fun w0=>?_
  unfold qX at h
  refine aC aA 1 [] ⟨V,E⟩ E E (JS.seq (aC aA 3 [(7,.v (.slice a3 x0.length c4)),(8,.v (I (x0.length:Int))),(9,.v (I 0))] ⟨(Es E),E⟩ E E ?_))
  obtain ⟨j17,hj25,h⟩:=aQ h
  refine bA (ι:=Unit) ⟨fun _=>j17 ()=some r,fun _=>[],fun _=>.nil,fun _=>[],fun _=>[],fun _=>0⟩ ?_ ?_
  ·
   refine JS.loop (ι:=Nat×Int) ⟨fun z=>bC (iJ x0 x1 j17) z.1 z.2=some r,fun z=>[(1,.v (I x1)),(7,.v (.slice a3 x0.length c4)),(8,.v (I (x0.length:Int))),(9,.v (I z.2))],fun z=>.nil,fun z=>[⟨(.int .i64),⟨a3,x0.length,c4⟩,x0⟩],fun z=>[],fun z=>z.1⟩ (bM,0) h (Es E) V [0] E [] E ?_
   rintro ⟨n13,x7⟩ h
   obtain ⟨n13,rfl,h⟩:=bH h
   rw [iJ] at h
   refine aC aA 1 [(10,.v (.bool (decide (x7<(x0.length:Int)))))] ⟨⟨E,V⟩,E⟩ E E (JS.seq ?_)
   refine aK E h (fun h=>?_) (fun h=>?_)
   ·
    refine JS.skip (JS.seq (JS.block (JS.seq (JS.region (bJ 0 E fun hs22=>?_)))))
    obtain ⟨g9,h⟩:=aH h
    refine aB aA 1 [] [] [(11,.ep ⟨a3,x0.length,c4⟩ (Int.toNat x7*1))] _ E ⟨hs22.ix g9,⟨E,V⟩,E⟩ (JO.load aA E E E E E E E 0 E E (Int.toNat x7) 0 (at' x0 x7) ⟨bD g9,E⟩ E E (aB aA 1 [] [] [(6,.v (I (at' x0 x7)))] _ E ⟨⟨E,V⟩,E⟩ (aD E (aC aA 3 [(15,.v (.bool (decide ((at' x0 x7)=x1))))] ⟨⟨E,V⟩,E⟩ E E ?_))))
    refine aK E h (fun h=>?_) (fun h=>?_)
    ·
     refine aC aA 1 [(4,.v (.bool true))] ⟨⟨E,V⟩,E⟩ E E ?_
     cases h
     exact JS.ret aA () V E E [] E
    refine JS.skip (aZ (bZ aA 2 [(W (x7+1))] [] [(9,.v (I (W (x7+1))))] _ ⟨⟨V,E⟩,⟨E,V⟩,E⟩ E E (bQ (n13,(W (x7+1))) h (Nat.lt_succ_self _) (Es E) V [0] E [] E)))
   refine JS.exit E (aT () h V V [] E [] E)
  rintro _ h
  subst hj25
  refine aC aA 1 [(4,.v (.bool false))] ⟨⟨E,V⟩,E⟩ E E ?_
  cases h
  exact JS.ret aA () V E E [] E

def mE (x0:Int) (x1:List Int):Option Bool:=
  (aG (qX x1 x0) fun (y7:Bool)=>
  some y7)

theorem aAe (x0:Int) (x1:List Int) (a3:Option Addr) (c4:Nat) (r:Bool) (h:mE x0 x1=some r):
  FC Tryz.prog 228 [.int .i64 x0,.slice a3 x1.length c4] [⟨(.int .i64),⟨a3,x1.length,c4⟩,x1⟩] (fun _:Unit=>True) (fun _=>.bool r) (fun _=>[]):=
 by
  refine FC.of (T:=TTx) Tryz.call228 Tryz.func228 E E fun w0=>?_
  unfold mE at h
  refine aC aA 1 [] ⟨V,E⟩ E E (JS.seq (JS.region (aB aA 2 [] [] [(5,.v (.slice a3 x1.length c4)),(6,.v (I x0))] _ E ⟨(Es E),E⟩ ?_)))
  refine bnw h fun y7 hy8 h=>JO.call E E E E (aEs x1 x0 a3 c4 _ hy8) E [0] E E fun _ _=>aB aA 1 [] [] [(4,.v (.bool y7))] _ E ⟨⟨E,V⟩,E⟩ (aD E ?_)
  cases h
  exact JS.ret aA () V E E [] E

def rM (x0:EdQ):Option Bool:=
  (bif (bif (bif (bif (bif (decide (x0.2.1=0)) then x0.1 else false) then true else (bif (bif (decide (x0.2.1=1)) then true else (decide (x0.2.1=2))) then (!x0.1) else false)) then true else (decide (x0.2.1<0))) then true else (decide (3<x0.2.1))) then
  some false
  else
  (bif (bif (bif (decide (x0.2.1=2)) then (decide (0<(x0.2.2.1.1.length:Int))) else false) then (decide (x0.2.2.1.2=(x0.2.2.1.1.length:Int))) else false) then
  some false
  else
  (bif (bif (!(decide (x0.2.1=2))) then (bif (bif (!(decide (x0.2.2.2.2.1=0))) then true else (!(decide (x0.2.2.2.2.2.1=0)))) then true else (!(decide (x0.2.2.2.2.2.2.1=0)))) else false) then
  some false
  else
  (bU ((bif (decide (0<(x0.2.2.2.2.2.2.2.2.2.2.2.2.2.2.1.length:Int))) then true else (!(decide (x0.2.2.2.2.2.2.2.2.2.2.2.2.2.2.2.1=0))))=false∧(!(decide (x0.2.1=3)))=true) (mD x0.2.2.2.2.2.2.2.2.2.2.2.2.2.2.2.2) false fun (y26:Bool)=>
  (bif (bif (!(decide (x0.2.1=3))) then (bif (bif (decide (0<(x0.2.2.2.2.2.2.2.2.2.2.2.2.2.2.1.length:Int))) then true else (!(decide (x0.2.2.2.2.2.2.2.2.2.2.2.2.2.2.2.1=0)))) then true else (!y26)) else false) then
  some false
  else
  (aG (mE x0.2.2.2.2.1 ([0,100,99,121]:List Int)) fun (y31:Bool)=>
  (bU (y31=true) (mE x0.2.2.2.2.2.2.1 (gl y31 ([0,102,70,116,84,114]:List Int))) false fun (y34:Bool)=>
  some (bif (bif y31 then y34 else false) then (bif (!(decide (x0.2.2.2.2.1=0))) then true else (decide (x0.2.2.2.2.2.1=0))) else false))))))))

theorem aIj (x0:EdQ) (q2:P6) (r:Bool) (h:rM x0=some r):
  FC Tryz.prog 129 [.agg (cC x0 q2).toArray] (bW x0 q2 []) (fun _:Unit=>True) (fun _=>.bool r) (fun _=>[]):=
 by
  refine FC.of (T:=TTx) Tryz.call129 Tryz.func129 E E fun w0=>?_
  unfold rM at h
  refine aL aA 2 [] [7] [(1,.bp 7 0)] (.new 7 46 (aI x0 q2) .nil) ⟨⟨E,V⟩,(Bs E E)⟩ E E (JS.seq (aC aA 32 [(34,.v (.bool (bif (bif (bif (bif (decide (x0.2.1=0)) then x0.1 else false) then true else (bif (bif (decide (x0.2.1=1)) then true else (decide (x0.2.1=2))) then (!x0.1) else false)) then true else (decide (x0.2.1<0))) then true else (decide (3<x0.2.1)))))] ⟨⟨E,V⟩,E⟩ E E ?_))
  refine aK E h (fun h=>?_) (fun h=>?_)
  ·
   refine aC aA 1 [(2,.v (.bool false))] ⟨⟨E,V⟩,E⟩ E E ?_
   cases h
   exact JS.ret aA () V E E [] E
  refine JS.skip (JS.seq (aC aA 20 [(54,.v (.bool (bif (bif (decide (x0.2.1=2)) then (decide (0<(x0.2.2.1.1.length:Int))) else false) then (decide (x0.2.2.1.2=(x0.2.2.1.1.length:Int))) else false)))] ⟨⟨E,V⟩,E⟩ E E ?_))
  refine aK E h (fun h=>?_) (fun h=>?_)
  ·
   refine aC aA 1 [(2,.v (.bool false))] ⟨⟨E,V⟩,E⟩ E E ?_
   cases h
   exact JS.ret aA () V E E [] E
  refine JS.skip (JS.seq (aC aA 18 [(72,.v (.bool (bif (!(decide (x0.2.1=2))) then (bif (bif (!(decide ((Q4 x0).1=0))) then true else (!(decide ((Q4 x0).2.1=0)))) then true else (!(decide ((Q4 x0).2.2.1=0)))) else false)))] ⟨⟨E,V⟩,E⟩ E E ?_))
  refine aK E h (fun h=>?_) (fun h=>?_)
  ·
   refine aC aA 1 [(2,.v (.bool false))] ⟨⟨E,V⟩,E⟩ E E ?_
   cases h
   exact JS.ret aA () V E E [] E
  refine JS.skip (JS.seq (JS.seq (JS.region (aB aA 16 [] [] [(76,.v (.bool (!(decide (x0.2.1=3))))),(86,.cd [(76,true)] (.v (.bool (bif (decide (0<((Q12 x0).2.2.1.length:Int))) then true else (!(decide ((Q12 x0).2.2.2.1=0))))))),(88,.cd [(86,false),(76,true)] (.v (.agg #[.slice (Q8 q2).2.2.1 (Q16 x0).1.length (Q8 q2).2.2.2,.int .i64 (Q16 x0).2])))] _ E ⟨(Es E),E⟩ ?_))))
  obtain ⟨y26,hy27,-,h⟩:=aV h
  refine bI E E E E (fun q41 q42=>aAd (Q16 x0) (Q8 q2).2.2.1 (Q8 q2).2.2.2 _ (hy27 ⟨q41,q42⟩)) E [5] E E (aB aA 3 [] [] [(92,.v (.bool (bif (!(decide (x0.2.1=3))) then (bif (bif (decide (0<((Q12 x0).2.2.1.length:Int))) then true else (!(decide ((Q12 x0).2.2.2.1=0)))) then true else (!y26)) else false)))] _ E ⟨⟨E,V⟩,E⟩ (aD E ?_))
  refine aK E h (fun h=>?_) (fun h=>?_)
  ·
   refine aC aA 1 [(2,.v (.bool false))] ⟨⟨E,V⟩,E⟩ E E ?_
   cases h
   exact JS.ret aA () V E E [] E
  refine JS.skip (JS.seq (JS.region (aB aA 2 [] [] [(94,.v (I (Q4 x0).1))] _ E ⟨⟨E,V⟩,E⟩ ?_)))
  refine jH E (JK.buildSlice aA E E E E E E E E E E E [] E (.int .i64) [0,100,99,121] ⟨E,E⟩ E E fun a30=>jG ?_)
  refine bnw h fun y31 hy32 h=>JO.call E E E E (aAe (Q4 x0).1 ([0,100,99,121]:List Int) a30 (([0,100,99,121]:List Int).length) _ hy32) E [6] E E fun _ _=>aB aA 3 [] [] [(97,.v (.bool y31)),(99,.cd [(97,true)] (.v (I (Q4 x0).2.2.1)))] _ E ⟨(Es E),E⟩ (aF1 aA E E E E E E E E E E E E (.int .i64) [0,102,70,116,84,114] ⟨E,E⟩ E y31 aSo E fun a33=>?_)
  obtain ⟨y34,hy35,-,h⟩:=aV h
  refine bI E E E E (fun q43=>aAe (Q4 x0).2.2.1 (gl y31 ([0,102,70,116,84,114]:List Int)) a33 ((gl y31 ([0,102,70,116,84,114]:List Int)).length) _ (hy35 q43)) E [6] E E (aB aA 12 [] [] [(2,.v (.bool (bif (bif y31 then y34 else false) then (bif (!(decide ((Q4 x0).1=0))) then true else (decide ((Q4 x0).2.1=0))) else false)))] _ E ⟨⟨E,V⟩,E⟩ (aD E ?_))
  cases h
  exact JS.ret aA () V E E [] E

def gG (x0:List Int):Option Bool:=
  (bU ((decide ((x0.length:Int)≤400))=true) (gC x0) false fun (y6:Bool)=>
  some (bif (decide ((x0.length:Int)≤400)) then y6 else false))

theorem aAf (x0:List Int) (a2:Option Addr) (c3:Nat) (r:Bool) (h:gG x0=some r):
  FC Tryz.prog 229 [.slice a2 x0.length c3] [⟨(.int .i64),⟨a2,x0.length,c3⟩,x0⟩] (fun _:Unit=>True) (fun _=>.bool r) (fun _=>[]):=
 by
  refine FC.of (T:=TTx) Tryz.call229 Tryz.func229 E E fun w0=>?_
  unfold gG at h
  refine aC aA 1 [] ⟨V,E⟩ E E (JS.seq (JS.region (aB aA 5 [] [] [(6,.v (.bool (decide ((x0.length:Int)≤400)))),(7,.cd [(6,true)] (.v (.slice a2 x0.length c3)))] _ E ⟨(Es E),E⟩ ?_)))
  obtain ⟨y6,hy7,-,h⟩:=aV h
  refine bI E E E E (fun q9=>vR x0 a2 c3 _ (hy7 q9)) E [0] E E (aB aA 2 [] [] [(2,.v (.bool (bif (decide ((x0.length:Int)≤400)) then y6 else false)))] _ E ⟨⟨E,V⟩,E⟩ (aD E ?_))
  cases h
  exact JS.ret aA () V E E [] E

def mZ (x0:List (List Int)) (j32:Unit→Option Bool) (k26:Int→Option Bool):Int→Option Bool:=fun x6=>
  (bif (decide (x6<(x0.length:Int))) then
  (aN (0≤x6∧x6<(x0.length:Int)) <|
  (bU ((decide (((at' x0 x6).length:Int)=0))=false) (gG (at' x0 x6)) false fun (y17:Bool)=>
  (bif (bif (decide (((at' x0 x6).length:Int)=0)) then true else (!y17)) then
  some false
  else
  k26 (W (x6+1)))))
  else
  j32 ())

def kZ (x0:List (List Int)):Option Bool:=
  (aU (fun (_:Unit)=>
  some (decide ((x0.length:Int)≤6))) fun j32=>
  (bC (mZ x0 j32) bM 0))

theorem uJ (x0:List (List Int)) (a2:Option Addr) (c3:Nat) (r:Bool) (h:kZ x0=some r):
  FC Tryz.prog 130 [.agg #[.slice a2 x0.length c3]] [⟨(.sl (.int .i64)),⟨a2,x0.length,c3⟩,x0⟩] (fun _:Unit=>True) (fun _=>.bool r) (fun _=>[]):=
 by
  refine FC.of (T:=TTx) Tryz.call130 Tryz.func130 E E fun w0=>?_
  unfold kZ at h
  refine aL aA 2 [] [2] [(1,.bp 2 0)] (.new 2 41 [.slice a2 x0.length c3] .nil) ⟨⟨E,V⟩,(Bs E E)⟩ E E (JS.seq (aC aA 4 [(6,.v (.slice a2 x0.length c3)),(7,.v (I (x0.length:Int))),(8,.v (I 0))] ⟨(Es E),E⟩ E E ?_))
  obtain ⟨j32,hj42,h⟩:=aQ h
  refine bA (ι:=Unit) ⟨fun _=>j32 ()=some r,fun _=>[(1,.bp 2 0)],fun _=>(.new 2 41 [.slice a2 x0.length c3] .nil),fun _=>[⟨(.sl (.int .i64)),⟨a2,x0.length,c3⟩,x0⟩],fun _=>[],fun _=>0⟩ ?_ ?_
  ·
   refine JS.loop (ι:=Nat×Int) ⟨fun z=>bC (mZ x0 j32) z.1 z.2=some r,fun z=>[(1,.bp 2 0),(6,.v (.slice a2 x0.length c3)),(7,.v (I (x0.length:Int))),(8,.v (I z.2))],fun z=>(.new 2 41 [.slice a2 x0.length c3] .nil),fun z=>[⟨(.sl (.int .i64)),⟨a2,x0.length,c3⟩,x0⟩],fun z=>[],fun z=>z.1⟩ (bM,0) h (Es E) (Bs E E) [0] E [] E ?_
   rintro ⟨n27,x6⟩ h
   obtain ⟨n27,rfl,h⟩:=bH h
   rw [mZ] at h
   refine aC aA 1 [(9,.v (.bool (decide (x6<(x0.length:Int)))))] ⟨⟨E,V⟩,E⟩ E E (JS.seq ?_)
   refine aK E h (fun h=>?_) (fun h=>?_)
   ·
    refine JS.skip (JS.seq (JS.block (JS.seq (JS.region (bJ 0 E fun hs38=>?_)))))
    obtain ⟨g11,h⟩:=aH h
    refine aB aA 1 [] [] [(10,.ep ⟨a2,x0.length,c3⟩ (Int.toNat x6*1))] _ E ⟨hs38.ix g11,⟨E,V⟩,E⟩ (eU 0 E (Int.toNat x6) (at' x0 x6) E fun a12 c13 ys14 hl15 hy16=>cP aA E E E E E E 0 E E (Int.toNat x6) 0 (Sl.v ⟨a12,(at' x0 x6).length,c13⟩) ⟨hy16 (kG g11),E⟩ E E E (aP aA 2 [] [16] [(4,.bp 16 0)] (.new 2 41 [.slice a2 x0.length c3] (.new 16 174 [.slice a12 (at' x0 x6).length c13] .nil)) E ⟨⟨E,V⟩,(Bs E E)⟩ (aD E (JS.seq (JS.region (aB aA 7 [] [] [(16,.v (.bool (decide (((at' x0 x6).length:Int)=0)))),(18,.cd [(16,false)] (.v (.slice a12 (at' x0 x6).length c13)))] _ E ⟨(Es E),E⟩ ?_))))))
    obtain ⟨y17,hy18,-,h⟩:=aV h
    refine bI E E E E (fun q39=>aAf (at' x0 x6) a12 c13 _ (hy18 q39)) E [1] E E (aB aA 2 [] [] [(21,.v (.bool (bif (decide (((at' x0 x6).length:Int)=0)) then true else (!y17))))] _ E ⟨⟨E,V⟩,E⟩ (aD E ?_))
    refine aK E h (fun h=>?_) (fun h=>?_)
    ·
     refine aC aA 1 [(2,.v (.bool false))] ⟨⟨E,V⟩,E⟩ E E ?_
     cases h
     exact JS.ret aA () V E E [] E
    refine JS.skip (aZ (bZ aA 2 [(W (x6+1))] [] [(8,.v (I (W (x6+1))))] _ ⟨⟨V,E⟩,⟨E,V⟩,E⟩ E E (bQ (n27,(W (x6+1))) h (Nat.lt_succ_self _) (Es E) (Bs E E) [2] E [] E)))
   refine JS.exit E (aT () h ⟨E,V⟩ (Bs E E) [0] E [] E)
  rintro _ h
  subst hj42
  refine aC aA 5 [(2,.v (.bool (decide ((x0.length:Int)≤6))))] ⟨⟨E,V⟩,E⟩ E E ?_
  cases h
  exact JS.ret aA () V E E [] E

def mX (x0:List (List Int×Int)) (j29:Unit→Option Bool) (k24:Int→Option Bool):Int→Option Bool:=fun x6=>
  (bif (decide (x6<(x0.length:Int))) then
  (aN (0≤x6∧x6<(x0.length:Int)) <|
  (aG (dE ((at' x0 x6).1,(at' x0 x6).2)) fun (y17:Bool)=>
  (bif (!y17) then
  some false
  else
  k24 (W (x6+1)))))
  else
  j29 ())

def nW (x0:List (List Int×Int)):Option Bool:=
  (aU (fun (_:Unit)=>
  some (decide ((x0.length:Int)≤20))) fun j29=>
  (bC (mX x0 j29) bM 0))

theorem xZ (x0:List (List Int×Int)) (a2:Option Addr) (c3:Nat) (r:Bool) (h:nW x0=some r):
  FC Tryz.prog 131 [.agg #[.slice a2 x0.length c3]] [⟨(.pair (.sl (.int .i64)) (.int .i64)),⟨a2,x0.length,c3⟩,x0⟩] (fun _:Unit=>True) (fun _=>.bool r) (fun _=>[]):=
 by
  refine FC.of (T:=TTx) Tryz.call131 Tryz.func131 E E fun w0=>?_
  unfold nW at h
  refine aL aA 2 [] [2] [(1,.bp 2 0)] (.new 2 44 [.slice a2 x0.length c3] .nil) ⟨⟨E,V⟩,(Bs E E)⟩ E E (JS.seq (aC aA 4 [(6,.v (.slice a2 x0.length c3)),(7,.v (I (x0.length:Int))),(8,.v (I 0))] ⟨(Es E),E⟩ E E ?_))
  obtain ⟨j29,hj37,h⟩:=aQ h
  refine bA (ι:=Unit) ⟨fun _=>j29 ()=some r,fun _=>[(1,.bp 2 0)],fun _=>(.new 2 44 [.slice a2 x0.length c3] .nil),fun _=>[⟨(.pair (.sl (.int .i64)) (.int .i64)),⟨a2,x0.length,c3⟩,x0⟩],fun _=>[],fun _=>0⟩ ?_ ?_
  ·
   refine JS.loop (ι:=Nat×Int) ⟨fun z=>bC (mX x0 j29) z.1 z.2=some r,fun z=>[(1,.bp 2 0),(6,.v (.slice a2 x0.length c3)),(7,.v (I (x0.length:Int))),(8,.v (I z.2))],fun z=>(.new 2 44 [.slice a2 x0.length c3] .nil),fun z=>[⟨(.pair (.sl (.int .i64)) (.int .i64)),⟨a2,x0.length,c3⟩,x0⟩],fun z=>[],fun z=>z.1⟩ (bM,0) h (Es E) (Bs E E) [0] E [] E ?_
   rintro ⟨n25,x6⟩ h
   obtain ⟨n25,rfl,h⟩:=bH h
   rw [mX] at h
   refine aC aA 1 [(9,.v (.bool (decide (x6<(x0.length:Int)))))] ⟨⟨E,V⟩,E⟩ E E (JS.seq ?_)
   refine aK E h (fun h=>?_) (fun h=>?_)
   ·
    refine JS.skip (JS.seq (JS.block (JS.seq (JS.region (bJ 0 E fun hs34=>?_)))))
    obtain ⟨g11,h⟩:=aH h
    refine aB aA 1 [] [] [(10,.ep ⟨a2,x0.length,c3⟩ (Int.toNat x6*2))] _ E ⟨hs34.ix g11,⟨E,V⟩,E⟩ (eU 0 E (Int.toNat x6) (at' x0 x6) E fun a12 c13 ys14 hl15 hy16=>cP aA E E E E E E 0 E E (Int.toNat x6) 0 ((Sl.v ⟨a12,((at' x0 x6).1).length,c13⟩),(at' x0 x6).2) ⟨hy16 (kG g11),E⟩ E E E (aP aA 2 [] [16] [(4,.bp 16 0)] (.new 2 44 [.slice a2 x0.length c3] (.new 16 38 [.slice a12 ((at' x0 x6).1).length c13,.int .i64 (at' x0 x6).2] .nil)) E ⟨⟨E,V⟩,(Bs E E)⟩ (aD E (JS.seq (JS.region (aB aA 1 [] [] [(12,.v (.agg #[.slice a12 ((at' x0 x6).1).length c13,.int .i64 (at' x0 x6).2]))] _ E ⟨⟨E,V⟩,E⟩ ?_))))))
    refine bnw h fun y17 hy18 h=>JO.call E E E E (eO ((at' x0 x6).1,(at' x0 x6).2) a12 c13 _ hy18) E [1] E E fun _ _=>aB aA 1 [] [] [(14,.v (.bool (!y17)))] _ E ⟨⟨E,V⟩,E⟩ (aD E ?_)
    refine aK E h (fun h=>?_) (fun h=>?_)
    ·
     refine aC aA 1 [(2,.v (.bool false))] ⟨⟨E,V⟩,E⟩ E E ?_
     cases h
     exact JS.ret aA () V E E [] E
    refine JS.skip (aZ (bZ aA 2 [(W (x6+1))] [] [(8,.v (I (W (x6+1))))] _ ⟨⟨V,E⟩,⟨E,V⟩,E⟩ E E (bQ (n25,(W (x6+1))) h (Nat.lt_succ_self _) (Es E) (Bs E E) [2] E [] E)))
   refine JS.exit E (aT () h ⟨E,V⟩ (Bs E E) [0] E [] E)
  rintro _ h
  subst hj37
  refine aC aA 5 [(2,.v (.bool (decide ((x0.length:Int)≤20))))] ⟨⟨E,V⟩,E⟩ E E ?_
  cases h
  exact JS.ret aA () V E E [] E

def rQ (x0:EdQ) (j63:Unit→Option Bool) (k58:Int→Option Bool):Int→Option Bool:=fun x51=>
  (bif (decide (x51<(x0.2.2.2.2.2.2.2.2.2.2.2.2.2.2.1.length:Int))) then
  (aN (0≤x51∧x51<(x0.2.2.2.2.2.2.2.2.2.2.2.2.2.2.1.length:Int)) <|
  (aG (dR (at' x0.2.2.2.2.2.2.2.2.2.2.2.2.2.2.1 x51)) fun (y54:Bool)=>
  (bif (!y54) then
  some false
  else
  k58 (W (x51+1)))))
  else
  j63 ())

def pJ (x0:EdQ):Option Bool:=
  (aG (dE x0.2.2.1) fun (y26:Bool)=>
  (bU ((!y26)=false) (dE x0.2.2.2.2.2.2.2.2.2.2.2.2.2.1) false fun (y28:Bool)=>
  (bU ((bif (!y26) then true else (!y28))=false) (dE x0.2.2.2.2.2.2.2.2.2.2.2.2.2.2.2.2) false fun (y31:Bool)=>
  (bU ((bif (bif (!y26) then true else (!y28)) then true else (!y31))=false) (rM x0) false fun (y34:Bool)=>
  (bU ((bif (bif (bif (bif (bif (bif (bif (bif (bif (!y26) then true else (!y28)) then true else (!y31)) then true else (!y34)) then true else (decide (x0.2.2.2.1<0))) then true else (decide (999<x0.2.2.2.1))) then true else (decide (x0.2.2.2.2.2.1<0))) then true else (decide (999<x0.2.2.2.2.2.1))) then true else (decide (x0.2.2.2.2.2.2.2.2.2.1<0))) then true else (decide (3<x0.2.2.2.2.2.2.2.2.2.1)))=false) (kZ x0.2.2.2.2.2.2.2.2.2.2.1) false fun (y37:Bool)=>
  (bU ((bif (bif (bif (bif (bif (bif (bif (bif (bif (bif (!y26) then true else (!y28)) then true else (!y31)) then true else (!y34)) then true else (decide (x0.2.2.2.1<0))) then true else (decide (999<x0.2.2.2.1))) then true else (decide (x0.2.2.2.2.2.1<0))) then true else (decide (999<x0.2.2.2.2.2.1))) then true else (decide (x0.2.2.2.2.2.2.2.2.2.1<0))) then true else (decide (3<x0.2.2.2.2.2.2.2.2.2.1))) then true else (!y37))=false) (nW x0.2.2.2.2.2.2.2.2.2.2.2.1) false fun (y40:Bool)=>
  (bif (bif (bif (bif (bif (bif (bif (bif (bif (bif (bif (bif (!y26) then true else (!y28)) then true else (!y31)) then true else (!y34)) then true else (decide (x0.2.2.2.1<0))) then true else (decide (999<x0.2.2.2.1))) then true else (decide (x0.2.2.2.2.2.1<0))) then true else (decide (999<x0.2.2.2.2.2.1))) then true else (decide (x0.2.2.2.2.2.2.2.2.2.1<0))) then true else (decide (3<x0.2.2.2.2.2.2.2.2.2.1))) then true else (!y37)) then true else (!y40)) then
  some false
  else
  (bU ((!(decide (x0.2.2.2.2.2.2.2.1=0)))=true∧(bif (decide (x0.2.2.2.2.2.2.2.1=0)) then (!(decide (x0.2.2.2.2.2.2.2.2.1=0))) else false)=false) (dR x0.2.2.2.2.2.2.2.1) false fun (y43:Bool)=>
  (bif (bif (bif (decide (x0.2.2.2.2.2.2.2.1=0)) then (!(decide (x0.2.2.2.2.2.2.2.2.1=0))) else false) then true else (bif (!(decide (x0.2.2.2.2.2.2.2.1=0))) then (bif (bif (!y43) then true else (decide (x0.2.2.2.2.2.2.2.2.1<0))) then true else (decide (3<x0.2.2.2.2.2.2.2.2.1))) else false)) then
  some false
  else
  (bU ((decide (x0.2.2.2.2.2.2.2.2.2.2.2.2.1=0))=true∧(bif (bif (bif (decide (x0.2.2.2.2.2.2.2.2.2.2.2.2.1<0)) then true else (decide (1000000060<x0.2.2.2.2.2.2.2.2.2.2.2.2.1))) then true else (decide (x0.2.2.2.2.2.2.2.2.2.2.2.2.2.2.2.1<0))) then true else (decide (1000000060<x0.2.2.2.2.2.2.2.2.2.2.2.2.2.2.2.1)))=false) (mD x0.2.2.2.2.2.2.2.2.2.2.2.2.2.1) false fun (y47:Bool)=>
  (bif (bif (bif (bif (bif (bif (decide (x0.2.2.2.2.2.2.2.2.2.2.2.2.1<0)) then true else (decide (1000000060<x0.2.2.2.2.2.2.2.2.2.2.2.2.1))) then true else (decide (x0.2.2.2.2.2.2.2.2.2.2.2.2.2.2.2.1<0))) then true else (decide (1000000060<x0.2.2.2.2.2.2.2.2.2.2.2.2.2.2.2.1))) then true else (bif (decide (x0.2.2.2.2.2.2.2.2.2.2.2.2.1=0)) then (!y47) else false)) then true else (decide (40<(x0.2.2.2.2.2.2.2.2.2.2.2.2.2.2.1.length:Int)))) then
  some false
  else
  (aU (fun (_:Unit)=>
  some true) fun j63=>
  (bC (rQ x0 j63) bM 0)))))))))))))

theorem zP (x0:EdQ) (q2:P6) (r:Bool) (h:pJ x0=some r):
  FC Tryz.prog 46 [.agg (cC x0 q2).toArray] (bW x0 q2 []) (fun _:Unit=>True) (fun _=>.bool r) (fun _=>[]):=
 by
  refine FC.of (T:=TTx) Tryz.call46 Tryz.func46 E E fun w0=>?_
  unfold pJ at h
  refine aL aA 2 [] [7] [(1,.bp 7 0)] (.new 7 46 (aI x0 q2) .nil) ⟨⟨E,V⟩,(Bs E E)⟩ E E (JS.seq (JS.seq (JS.region (aB aA 2 [] [] [(7,.v (.agg #[.slice q2.1 x0.2.2.1.1.length q2.2.1,.int .i64 x0.2.2.1.2]))] _ E ⟨⟨E,V⟩,E⟩ ?_))))
  refine bnw h fun y26 hy27 h=>JO.call E E E E (eO x0.2.2.1 q2.1 q2.2.1 _ hy27) E [0] E E fun _ _=>aB aA 4 [] [] [(10,.v (.bool (!y26))),(12,.cd [(10,false)] (.v (.agg #[.slice (Q4 q2).2.2.1 (Q12 x0).2.1.1.length (Q4 q2).2.2.2.1,.int .i64 (Q12 x0).2.1.2])))] _ E ⟨(Es E),E⟩ ?_
  obtain ⟨y28,hy29,-,h⟩:=aV h
  refine bI E E E E (fun q71=>eO (Q12 x0).2.1 (Q4 q2).2.2.1 (Q4 q2).2.2.2.1 _ (hy29 q71)) E [3] E E (aB aA 5 [] [] [(16,.v (.bool (bif (!y26) then true else (!y28)))),(18,.cd [(16,false)] (.v (.agg #[.slice (Q8 q2).2.2.1 (Q16 x0).1.length (Q8 q2).2.2.2,.int .i64 (Q16 x0).2])))] _ E ⟨(Es E),E⟩ ?_)
  obtain ⟨y31,hy32,-,h⟩:=aV h
  refine bI E E E E (fun q72=>eO (Q16 x0) (Q8 q2).2.2.1 (Q8 q2).2.2.2 _ (hy32 q72)) E [5] E E (aB aA 4 [] [] [(22,.v (.bool (bif (bif (!y26) then true else (!y28)) then true else (!y31)))),(23,.cd [(22,false)] (.v (.agg (aI x0 q2).toArray)))] _ E ⟨(Es E),E⟩ ?_)
  obtain ⟨y34,hy35,-,h⟩:=aV h
  refine bI E E E E (fun q73=>aIj x0 q2 _ (hy35 q73)) E [0,1,2,3,4,5] E E (aB aA 35 [] [] [(57,.v (.bool (bif (bif (bif (bif (bif (bif (bif (bif (bif (!y26) then true else (!y28)) then true else (!y31)) then true else (!y34)) then true else (decide (x0.2.2.2.1<0))) then true else (decide (999<x0.2.2.2.1))) then true else (decide ((Q4 x0).2.1<0))) then true else (decide (999<(Q4 x0).2.1))) then true else (decide ((Q8 x0).2.1<0))) then true else (decide (3<(Q8 x0).2.1))))),(59,.cd [(57,false)] (.v (.agg #[.slice q2.2.2.1 (Q8 x0).2.2.1.length q2.2.2.2.1])))] _ E ⟨(Es E),E⟩ ?_)
  obtain ⟨y37,hy38,-,h⟩:=aV h
  refine bI E E E E (fun q74=>uJ (Q8 x0).2.2.1 q2.2.2.1 q2.2.2.2.1 _ (hy38 q74)) E [1] E E (aB aA 5 [] [] [(63,.v (.bool (bif (bif (bif (bif (bif (bif (bif (bif (bif (bif (!y26) then true else (!y28)) then true else (!y31)) then true else (!y34)) then true else (decide (x0.2.2.2.1<0))) then true else (decide (999<x0.2.2.2.1))) then true else (decide ((Q4 x0).2.1<0))) then true else (decide (999<(Q4 x0).2.1))) then true else (decide ((Q8 x0).2.1<0))) then true else (decide (3<(Q8 x0).2.1))) then true else (!y37)))),(65,.cd [(63,false)] (.v (.agg #[.slice (Q4 q2).1 (Q8 x0).2.2.2.1.length (Q4 q2).2.1])))] _ E ⟨(Es E),E⟩ ?_)
  obtain ⟨y40,hy41,-,h⟩:=aV h
  refine bI E E E E (fun q75=>xZ (Q8 x0).2.2.2.1 (Q4 q2).1 (Q4 q2).2.1 _ (hy41 q75)) E [2] E E (aB aA 2 [] [] [(68,.v (.bool (bif (bif (bif (bif (bif (bif (bif (bif (bif (bif (bif (!y26) then true else (!y28)) then true else (!y31)) then true else (!y34)) then true else (decide (x0.2.2.2.1<0))) then true else (decide (999<x0.2.2.2.1))) then true else (decide ((Q4 x0).2.1<0))) then true else (decide (999<(Q4 x0).2.1))) then true else (decide ((Q8 x0).2.1<0))) then true else (decide (3<(Q8 x0).2.1))) then true else (!y37)) then true else (!y40))))] _ E ⟨⟨E,V⟩,E⟩ (aD E ?_))
  refine aK E h (fun h=>?_) (fun h=>?_)
  ·
   refine aC aA 1 [(2,.v (.bool false))] ⟨⟨E,V⟩,E⟩ E E ?_
   cases h
   exact JS.ret aA () V E E [] E
  refine JS.skip (JS.seq (JS.seq (JS.region (aB aA 15 [] [] [(77,.v (.bool (bif (decide ((Q4 x0).2.2.2.1=0)) then (!(decide ((Q8 x0).1=0))) else false))),(81,.cd [(77,false)] (.v (.bool (!(decide ((Q4 x0).2.2.2.1=0)))))),(83,.cd [(81,true),(77,false)] (.v (I (Q4 x0).2.2.2.1)))] _ E ⟨(Es E),E⟩ ?_))))
  obtain ⟨y43,hy44,-,h⟩:=aV h
  refine bI E E E E (fun q76 q77=>kL (Q4 x0).2.2.2.1 _ (hy44 ⟨q76,q77⟩)) E [] E E (aB aA 13 [] [] [(97,.v (.bool (bif (bif (decide ((Q4 x0).2.2.2.1=0)) then (!(decide ((Q8 x0).1=0))) else false) then true else (bif (!(decide ((Q4 x0).2.2.2.1=0))) then (bif (bif (!y43) then true else (decide ((Q8 x0).1<0))) then true else (decide (3<(Q8 x0).1))) else false))))] _ E ⟨⟨E,V⟩,E⟩ (aD E ?_))
  refine aK E h (fun h=>?_) (fun h=>?_)
  ·
   refine aC aA 1 [(2,.v (.bool false))] ⟨⟨E,V⟩,E⟩ E E ?_
   cases h
   exact JS.ret aA () V E E [] E
  refine JS.skip (aC aA 1 [(3,.v (I 1000000060))] ⟨⟨E,V⟩,E⟩ E E (JS.seq (JS.seq (JS.region (aB aA 27 [] [] [(118,.v (.bool (bif (bif (bif (decide ((Q12 x0).1<0)) then true else (decide (1000000060<(Q12 x0).1))) then true else (decide ((Q12 x0).2.2.2.1<0))) then true else (decide (1000000060<(Q12 x0).2.2.2.1))))),(122,.cd [(118,false)] (.v (.bool (decide ((Q12 x0).1=0))))),(124,.cd [(122,true),(118,false)] (.v (.agg #[.slice (Q4 q2).2.2.1 (Q12 x0).2.1.1.length (Q4 q2).2.2.2.1,.int .i64 (Q12 x0).2.1.2])))] _ E ⟨(Es E),E⟩ ?_)))))
  obtain ⟨y47,hy48,-,h⟩:=aV h
  refine bI E E E E (fun q78 q79=>aAd (Q12 x0).2.1 (Q4 q2).2.2.1 (Q4 q2).2.2.2.1 _ (hy48 ⟨q78,q79⟩)) E [3] E E (aB aA 9 [] [] [(134,.v (.bool (bif (bif (bif (bif (bif (decide ((Q12 x0).1<0)) then true else (decide (1000000060<(Q12 x0).1))) then true else (decide ((Q12 x0).2.2.2.1<0))) then true else (decide (1000000060<(Q12 x0).2.2.2.1))) then true else (bif (decide ((Q12 x0).1=0)) then (!y47) else false)) then true else (decide (40<((Q12 x0).2.2.1.length:Int))))))] _ E ⟨⟨E,V⟩,E⟩ (aD E ?_))
  refine aK E h (fun h=>?_) (fun h=>?_)
  ·
   refine aC aA 1 [(2,.v (.bool false))] ⟨⟨E,V⟩,E⟩ E E ?_
   cases h
   exact JS.ret aA () V E E [] E
  refine JS.skip (JS.seq (aC aA 4 [(136,.v (.slice (Q8 q2).1 (Q12 x0).2.2.1.length (Q8 q2).2.1)),(137,.v (I ((Q12 x0).2.2.1.length:Int))),(138,.v (I 0))] ⟨(Es E),E⟩ E E ?_))
  obtain ⟨j63,hj83,h⟩:=aQ h
  refine bA (ι:=Unit) ⟨fun _=>j63 ()=some r,fun _=>[],fun _=>.nil,fun _=>[],fun _=>[],fun _=>0⟩ ?_ ?_
  ·
   refine JS.loop (ι:=Nat×Int) ⟨fun z=>bC (rQ x0 j63) z.1 z.2=some r,fun z=>[(136,.v (.slice (Q8 q2).1 (Q12 x0).2.2.1.length (Q8 q2).2.1)),(137,.v (I ((Q12 x0).2.2.1.length:Int))),(138,.v (I z.2))],fun z=>.nil,fun z=>[⟨(.int .i64),⟨(Q8 q2).1,(Q12 x0).2.2.1.length,(Q8 q2).2.1⟩,(Q12 x0).2.2.1⟩],fun z=>[],fun z=>z.1⟩ (bM,0) h (Es E) V [4] E [] E ?_
   rintro ⟨n59,x51⟩ h
   obtain ⟨n59,rfl,h⟩:=bH h
   rw [rQ] at h
   refine aC aA 1 [(139,.v (.bool (decide (x51<((Q12 x0).2.2.1.length:Int)))))] ⟨⟨E,V⟩,E⟩ E E (JS.seq ?_)
   refine aK E h (fun h=>?_) (fun h=>?_)
   ·
    refine JS.skip (JS.seq (JS.block (JS.seq (JS.region (bJ 0 E fun hs80=>?_)))))
    obtain ⟨g53,h⟩:=aH h
    refine aB aA 1 [] [] [(140,.ep ⟨(Q8 q2).1,(Q12 x0).2.2.1.length,(Q8 q2).2.1⟩ (Int.toNat x51*1))] _ E ⟨hs80.ix g53,⟨E,V⟩,E⟩ (JO.load aA E E E E E E E 0 E E (Int.toNat x51) 0 (at' (Q12 x0).2.2.1 x51) ⟨bD g53,E⟩ E E (aB aA 1 [] [] [(5,.v (I (at' (Q12 x0).2.2.1 x51)))] _ E ⟨⟨E,V⟩,E⟩ (aD E (JS.seq (JS.region (aB aA 1 [] [] [(142,.v (I (at' (Q12 x0).2.2.1 x51)))] _ E ⟨⟨E,V⟩,E⟩ ?_))))))
    refine bnw h fun y54 hy55 h=>JO.call E E E E (kL (at' (Q12 x0).2.2.1 x51) _ hy55) E [] E E fun _ _=>aB aA 1 [] [] [(144,.v (.bool (!y54)))] _ E ⟨⟨E,V⟩,E⟩ (aD E ?_)
    refine aK E h (fun h=>?_) (fun h=>?_)
    ·
     refine aC aA 1 [(2,.v (.bool false))] ⟨⟨E,V⟩,E⟩ E E ?_
     cases h
     exact JS.ret aA () V E E [] E
    refine JS.skip (aZ (bZ aA 2 [(W (x51+1))] [] [(138,.v (I (W (x51+1))))] _ ⟨⟨V,E⟩,⟨E,V⟩,E⟩ E E (bQ (n59,(W (x51+1))) h (Nat.lt_succ_self _) (Es E) V [0] E [] E)))
   refine JS.exit E (aT () h V V [] E [] E)
  rintro _ h
  subst hj83
  refine aC aA 1 [(2,.v (.bool true))] ⟨⟨E,V⟩,E⟩ E E ?_
  cases h
  exact JS.ret aA () V E E [] E

def nA (x0:Int×List (List UInt8)) (j23:Unit→Option Bool) (k18:Int→Option Bool):Int→Option Bool:=fun x6=>
  (bif (decide (x6<(x0.2.length:Int))) then
  (aN (0≤x6∧x6<(x0.2.length:Int)) <|
  (bif (bif (decide (((at' x0.2 x6).length:Int)<1)) then true else (decide (1000<((at' x0.2 x6).length:Int)))) then
  some false
  else
  k18 (W (x6+1))))
  else
  j23 ())

def lB (x0:Int×List (List UInt8)):Option Bool:=
  (aU (fun (_:Unit)=>
  some (bif (bif (decide (1≤x0.1)) then (decide (x0.1≤1000000000)) else false) then (decide ((x0.2.length:Int)≤60)) else false)) fun j23=>
  (bC (nA x0 j23) bM 0))

theorem uK (x0:Int×List (List UInt8)) (a2:Option Addr) (c3:Nat) (r:Bool) (h:lB x0=some r):
  FC Tryz.prog 78 [.agg #[.int .i64 x0.1,.slice a2 x0.2.length c3]] [⟨.str,⟨a2,x0.2.length,c3⟩,x0.2⟩] (fun _:Unit=>True) (fun _=>.bool r) (fun _=>[]):=
 by
  refine FC.of (T:=TTx) Tryz.call78 Tryz.func78 E E fun w0=>?_
  unfold lB at h
  refine aL aA 2 [] [2] [(1,.bp 2 0)] (.new 2 50 [.int .i64 x0.1,.slice a2 x0.2.length c3] .nil) ⟨⟨E,V⟩,(Bs E E)⟩ E E (JS.seq (aC aA 4 [(6,.v (.slice a2 x0.2.length c3)),(7,.v (I (x0.2.length:Int))),(8,.v (I 0))] ⟨(Es E),E⟩ E E ?_))
  obtain ⟨j23,hj31,h⟩:=aQ h
  refine bA (ι:=Unit) ⟨fun _=>j23 ()=some r,fun _=>[(1,.bp 2 0)],fun _=>(.new 2 50 [.int .i64 x0.1,.slice a2 x0.2.length c3] .nil),fun _=>[⟨.str,⟨a2,x0.2.length,c3⟩,x0.2⟩],fun _=>[],fun _=>0⟩ ?_ ?_
  ·
   refine JS.loop (ι:=Nat×Int) ⟨fun z=>bC (nA x0 j23) z.1 z.2=some r,fun z=>[(1,.bp 2 0),(6,.v (.slice a2 x0.2.length c3)),(7,.v (I (x0.2.length:Int))),(8,.v (I z.2))],fun z=>(.new 2 50 [.int .i64 x0.1,.slice a2 x0.2.length c3] .nil),fun z=>[⟨.str,⟨a2,x0.2.length,c3⟩,x0.2⟩],fun z=>[],fun z=>z.1⟩ (bM,0) h (Es E) (Bs E E) [0] E [] E ?_
   rintro ⟨n19,x6⟩ h
   obtain ⟨n19,rfl,h⟩:=bH h
   rw [nA] at h
   refine aC aA 1 [(9,.v (.bool (decide (x6<(x0.2.length:Int)))))] ⟨⟨E,V⟩,E⟩ E E (JS.seq ?_)
   refine aK E h (fun h=>?_) (fun h=>?_)
   ·
    refine JS.skip (JS.seq (JS.block (JS.seq (JS.region (bJ 0 E fun hs28=>?_)))))
    obtain ⟨g12,h⟩:=aH h
    refine aB aA 1 [] [] [(10,.ep ⟨a2,x0.2.length,c3⟩ (Int.toNat x6*1))] _ E ⟨hs28.ix g12,⟨E,V⟩,E⟩ (JO.load aA E E E E E E E 0 E E (Int.toNat x6) 0 (at' x0.2 x6) ⟨bD g12,E⟩ E E (aB aA 1 [] [] [(4,.v (.string (bs (at' x0.2 x6))))] _ E ⟨⟨E,V⟩,E⟩ (aD E (aC aA 8 [(19,.v (.bool (bif (decide (((at' x0.2 x6).length:Int)<1)) then true else (decide (1000<((at' x0.2 x6).length:Int))))))] ⟨⟨E,V⟩,E⟩ E E ?_))))
    refine aK E h (fun h=>?_) (fun h=>?_)
    ·
     refine aC aA 1 [(2,.v (.bool false))] ⟨⟨E,V⟩,E⟩ E E ?_
     cases h
     exact JS.ret aA () V E E [] E
    refine JS.skip (aZ (bZ aA 2 [(W (x6+1))] [] [(8,.v (I (W (x6+1))))] _ ⟨⟨V,E⟩,⟨E,V⟩,E⟩ E E (bQ (n19,(W (x6+1))) h (Nat.lt_succ_self _) (Es E) (Bs E E) [0] E [] E)))
   refine JS.exit E (aT () h ⟨E,V⟩ (Bs E E) [0] E [] E)
  rintro _ h
  subst hj31
  refine aC aA 15 [(2,.v (.bool (bif (bif (decide (1≤x0.1)) then (decide (x0.1≤1000000000)) else false) then (decide ((x0.2.length:Int)≤60)) else false)))] ⟨⟨E,V⟩,E⟩ E E ?_
  cases h
  exact JS.ret aA () V E E [] E

def sX (x0:Int×Int):Option Bool:=
  (bif (decide (x0.1=1)) then
  (aG (dR x0.2) fun (y2:Bool)=>
  some y2)
  else
  (bif (decide (x0.1=2)) then
  some (bif (decide (x0.2=95)) then true else (bif (bif (bif (bif (bif (decide (97≤x0.2)) then (decide (x0.2≤122)) else false) then (!(decide (x0.2=104))) else false) then (!(decide (x0.2=105))) else false) then (!(decide (x0.2=106))) else false) then (!(decide (x0.2=109))) else false))
  else
  (bif (decide (x0.1=3)) then
  some (bif (decide (33≤x0.2)) then (decide (x0.2≤126)) else false)
  else
  some (bif (bif (decide (4≤x0.1)) then (decide (x0.1≤16)) else false) then (decide (x0.2=0)) else false))))

theorem aEu (x0:Int×Int) (r:Bool) (h:sX x0=some r) :
  FC Tryz.prog 79 [.agg #[.int .i64 x0.1,.int .i64 x0.2]] [] (fun _:Unit=>True) (fun _=>.bool r) (fun _=>[]):=
 by
  refine FC.of (T:=TTx) Tryz.call79 Tryz.func79 E E fun w0=>?_
  unfold sX at h
  refine aL aA 2 [] [1] [(1,.bp 1 0)] (.new 1 64 [.int .i64 x0.1,.int .i64 x0.2] .nil) ⟨⟨E,V⟩,(Bs E E)⟩ E E (JS.seq (aC aA 2 [(4,.v (I x0.1))] ⟨⟨E,V⟩,E⟩ E E (JS.block (aC aA 2 [(5,.v (.bool (decide (x0.1=1))))] ⟨⟨E,V⟩,E⟩ E E ?_))))
  refine aK E h (fun h=>?_) (fun h=>?_)
  ·
   refine JS.seq (JS.region (aB aA 2 [] [] [(8,.v (I x0.2))] _ E ⟨⟨E,V⟩,E⟩ ?_))
   refine bnw h fun y2 hy3 h=>JO.call E E E E (kL x0.2 _ hy3) E [] E E fun _ _=>aB aA 1 [] [] [(2,.v (.bool y2))] _ E ⟨⟨E,V⟩,E⟩ (aD E ?_)
   cases h
   exact JS.ret aA () V E E [] E
  refine aC aA 2 [(10,.v (.bool (decide (x0.1=2))))] ⟨⟨E,V⟩,E⟩ E E ?_
  refine aK E h (fun h=>?_) (fun h=>?_)
  ·
   refine aC aA 34 [(2,.v (.bool (bif (decide (x0.2=95)) then true else (bif (bif (bif (bif (bif (decide (97≤x0.2)) then (decide (x0.2≤122)) else false) then (!(decide (x0.2=104))) else false) then (!(decide (x0.2=105))) else false) then (!(decide (x0.2=106))) else false) then (!(decide (x0.2=109))) else false))))] ⟨⟨E,V⟩,E⟩ E E ?_
   cases h
   exact JS.ret aA () V E E [] E
  refine aC aA 2 [(45,.v (.bool (decide (x0.1=3))))] ⟨⟨E,V⟩,E⟩ E E ?_
  refine aK E h (fun h=>?_) (fun h=>?_)
  ·
   refine aC aA 9 [(2,.v (.bool (bif (decide (33≤x0.2)) then (decide (x0.2≤126)) else false)))] ⟨⟨E,V⟩,E⟩ E E ?_
   cases h
   exact JS.ret aA () V E E [] E
  refine JS.skip (aZ (aC aA 14 [(2,.v (.bool (bif (bif (decide (4≤x0.1)) then (decide (x0.1≤16)) else false) then (decide (x0.2=0)) else false)))] ⟨⟨E,V⟩,E⟩ E E ?_))
  cases h
  exact JS.ret aA () V E E [] E

def rJ (x0:EdQ):Option Int:=
  (bif (decide (x0.2.2.2.1<1)) then
  some 1
  else
  some x0.2.2.2.1)

theorem zO (x0:EdQ) (q2:P6) (r:Int) (h:rJ x0=some r):
  FC Tryz.prog 110 [.agg (cC x0 q2).toArray] (bW x0 q2 []) (fun _:Unit=>True) (fun _=>.int .i64 r) (fun _=>[]):=
 by
  refine FC.of (T:=TTx) Tryz.call110 Tryz.func110 E E fun w0=>?_
  unfold rJ at h
  refine aL aA 2 [] [7] [(1,.bp 7 0)] (.new 7 46 (aI x0 q2) .nil) ⟨⟨E,V⟩,(Bs E E)⟩ E E (JS.seq (aC aA 3 [(5,.v (.bool (decide (x0.2.2.2.1<1))))] ⟨⟨E,V⟩,E⟩ E E ?_))
  refine aK E h (fun h=>?_) (fun h=>?_)
  ·
   refine aC aA 1 [(2,.v (I 1))] ⟨⟨E,V⟩,E⟩ E E ?_
   cases h
   exact JS.ret aA () V E E [] E
  refine JS.skip (aC aA 3 [(2,.v (I x0.2.2.2.1))] ⟨⟨E,V⟩,E⟩ E E ?_)
  cases h
  exact JS.ret aA () V E E [] E

def dA (x0:Int) (x1:Int):Option Int:=
  (bif (decide (x0<0)) then
  some 0
  else
  (bif (decide (x1<x0)) then
  some x1
  else
  some x0))

theorem cE (x0:Int) (x1:Int) (r:Int) (h:dA x0 x1=some r) :
  FC Tryz.prog 122 [.int .i64 x0,.int .i64 x1] [] (fun _:Unit=>True) (fun _=>.int .i64 r) (fun _=>[]):=
 by
  refine FC.of (T:=TTx) Tryz.call122 Tryz.func122 E E fun w0=>?_
  unfold dA at h
  refine aC aA 1 [] ⟨V,E⟩ E E (JS.seq (aC aA 2 [(6,.v (.bool (decide (x0<0))))] ⟨⟨E,V⟩,E⟩ E E ?_))
  refine aK E h (fun h=>?_) (fun h=>?_)
  ·
   refine aC aA 1 [(4,.v (I 0))] ⟨⟨E,V⟩,E⟩ E E ?_
   cases h
   exact JS.ret aA () V E E [] E
  refine JS.skip (JS.seq (aC aA 3 [(9,.v (.bool (decide (x1<x0))))] ⟨⟨E,V⟩,E⟩ E E ?_))
  refine aK E h (fun h=>?_) (fun h=>?_)
  ·
   refine aC aA 2 [(4,.v (I x1))] ⟨⟨E,V⟩,E⟩ E E ?_
   cases h
   exact JS.ret aA () V E E [] E
  refine JS.skip (aC aA 2 [(4,.v (I x0))] ⟨⟨E,V⟩,E⟩ E E ?_)
  cases h
  exact JS.ret aA () V E E [] E

def fM (x0:Int):Option Int:=
  (bif (bif (bif (decide (x0=9)) then true else (decide (x0=10))) then true else (decide (x0=32))) then
  some 0
  else
  (bU ((decide (159<x0))=true∧(bif (bif (bif (bif (decide (97≤x0)) then (decide (x0≤122)) else false) then true else (bif (decide (65≤x0)) then (decide (x0≤90)) else false)) then true else (bif (decide (48≤x0)) then (decide (x0≤57)) else false)) then true else (decide (x0=95)))=false) (dR x0) false fun (y2:Bool)=>
  (bif (bif (bif (bif (bif (bif (decide (97≤x0)) then (decide (x0≤122)) else false) then true else (bif (decide (65≤x0)) then (decide (x0≤90)) else false)) then true else (bif (decide (48≤x0)) then (decide (x0≤57)) else false)) then true else (decide (x0=95))) then true else (bif (decide (159<x0)) then y2 else false)) then
  some 1
  else
  some 2)))

theorem oT (x0:Int) (r:Int) (h:fM x0=some r) :
  FC Tryz.prog 255 [.int .i64 x0] [] (fun _:Unit=>True) (fun _=>.int .i64 r) (fun _=>[]):=
 by
  refine FC.of (T:=TTx) Tryz.call255 Tryz.func255 E E fun w0=>?_
  unfold fM at h
  refine aC aA 1 [] ⟨V,E⟩ E E (JS.seq (aC aA 10 [(12,.v (.bool (bif (bif (decide (x0=9)) then true else (decide (x0=10))) then true else (decide (x0=32)))))] ⟨⟨E,V⟩,E⟩ E E ?_))
  refine aK E h (fun h=>?_) (fun h=>?_)
  ·
   refine aC aA 1 [(2,.v (I 0))] ⟨⟨E,V⟩,E⟩ E E ?_
   cases h
   exact JS.ret aA () V E E [] E
  refine JS.skip (JS.seq (JS.seq (JS.region (aB aA 31 [] [] [(39,.v (.bool (bif (bif (bif (bif (decide (97≤x0)) then (decide (x0≤122)) else false) then true else (bif (decide (65≤x0)) then (decide (x0≤90)) else false)) then true else (bif (decide (48≤x0)) then (decide (x0≤57)) else false)) then true else (decide (x0=95))))),(42,.cd [(39,false)] (.v (.bool (decide (159<x0))))),(43,.cd [(42,true),(39,false)] (.v (I x0)))] _ E ⟨(Es E),E⟩ ?_))))
  obtain ⟨y2,hy3,-,h⟩:=aV h
  refine bI E E E E (fun q8 q9=>kL x0 _ (hy3 ⟨q8,q9⟩)) E [] E E (aB aA 2 [] [] [(46,.v (.bool (bif (bif (bif (bif (bif (decide (97≤x0)) then (decide (x0≤122)) else false) then true else (bif (decide (65≤x0)) then (decide (x0≤90)) else false)) then true else (bif (decide (48≤x0)) then (decide (x0≤57)) else false)) then true else (decide (x0=95))) then true else (bif (decide (159<x0)) then y2 else false))))] _ E ⟨⟨E,V⟩,E⟩ (aD E ?_))
  refine aK E h (fun h=>?_) (fun h=>?_)
  ·
   refine aC aA 1 [(2,.v (I 1))] ⟨⟨E,V⟩,E⟩ E E ?_
   cases h
   exact JS.ret aA () V E E [] E
  refine JS.skip (aC aA 1 [(2,.v (I 2))] ⟨⟨E,V⟩,E⟩ E E ?_)
  cases h
  exact JS.ret aA () V E E [] E

def iZ (x0:Int) (x1:Bool):Option Int:=
  (aG (fM x0) fun (y3:Int)=>
  (bif (bif x1 then (decide (y3=2)) else false) then
  some 1
  else
  some y3))

theorem uY (x0:Int) (x1:Bool) (r:Int) (h:iZ x0 x1=some r) :
  FC Tryz.prog 244 [.int .i64 x0,.bool x1] [] (fun _:Unit=>True) (fun _=>.int .i64 r) (fun _=>[]):=
 by
  refine FC.of (T:=TTx) Tryz.call244 Tryz.func244 E E fun w0=>?_
  unfold iZ at h
  refine aC aA 1 [] ⟨V,E⟩ E E (JS.seq (JS.region (aB aA 1 [] [] [(6,.v (I x0))] _ E ⟨⟨E,V⟩,E⟩ ?_)))
  refine bnw h fun y3 hy4 h=>JO.call E E E E (oT x0 _ hy4) E [] E E fun _ _=>aB aA 1 [] [] [(5,.v (I y3))] _ E ⟨⟨E,V⟩,E⟩ (aD E (JS.seq (aC aA 5 [(12,.v (.bool (bif x1 then (decide (y3=2)) else false)))] ⟨⟨E,V⟩,E⟩ E E ?_)))
  refine aK E h (fun h=>?_) (fun h=>?_)
  ·
   refine aC aA 1 [(4,.v (I 1))] ⟨⟨E,V⟩,E⟩ E E ?_
   cases h
   exact JS.ret aA () V E E [] E
  refine JS.skip (aC aA 2 [(4,.v (I y3))] ⟨⟨E,V⟩,E⟩ E E ?_)
  cases h
  exact JS.ret aA () V E E [] E

def gI (x0:List Int) (x2:Bool) (j29:Int→Option Int) (k20:Int→Option Int):Int→Option Int:=fun x10=>
  (aN (((decide (0<x10))=true)→0≤(W (x10 - 1))∧(W (x10 - 1))<(x0.length:Int)) <|
  (bU ((decide (0<x10))=true) (iZ (at' x0 (W (x10 - 1))) x2) (0:Int) fun (y16:Int)=>
  (bif (bif (decide (0<x10)) then (decide (y16=0)) else false) then
  k20 (W (x10 - 1))
  else
  j29 x10)))

def gH (x0:List Int) (x2:Bool) (y38:Int) (j59:Int→Option Int) (k50:Int→Option Int):Int→Option Int:=fun x40=>
  (aN (((decide (0<x40))=true)→0≤(W (x40 - 1))∧(W (x40 - 1))<(x0.length:Int)) <|
  (bU ((decide (0<x40))=true) (iZ (at' x0 (W (x40 - 1))) x2) (0:Int) fun (y46:Int)=>
  (bif (bif (decide (0<x40)) then (decide (y46=y38)) else false) then
  k50 (W (x40 - 1))
  else
  j59 x40)))

def kX (x0:List Int) (x1:Int) (x2:Bool):Option Int:=
  (aG (dA x1 (x0.length:Int)) fun (y8:Int)=>
  (aU (fun (x28:Int)=>
  (bif (decide (x28=0)) then
  some 0
  else
  (aN (0≤(W (x28 - 1))∧(W (x28 - 1))<(x0.length:Int)) <|
  (aG (iZ (at' x0 (W (x28 - 1))) x2) fun (y38:Int)=>
  (aU (fun (x58:Int)=>
  some x58) fun j59=>
  (bC (gH x0 x2 y38 j59) bM x28)))))) fun j29=>
  (bC (gI x0 x2 j29) bM y8)))

theorem aDq (x0:List Int) (x1:Int) (x2:Bool) (a4:Option Addr) (c5:Nat) (r:Int) (h:kX x0 x1 x2=some r):
  FC Tryz.prog 164 [.slice a4 x0.length c5,.int .i64 x1,.bool x2] [⟨(.int .i64),⟨a4,x0.length,c5⟩,x0⟩] (fun _:Unit=>True) (fun _=>.int .i64 r) (fun _=>[]):=
 by
  refine FC.of (T:=TTx) Tryz.call164 Tryz.func164 E E fun w0=>?_
  unfold kX at h
  refine aC aA 1 [] ⟨V,E⟩ E E (JS.seq (JS.region (aB aA 3 [] [] [(8,.v (I x1)),(10,.v (I (x0.length:Int)))] _ E ⟨(Es E),E⟩ ?_)))
  refine bnw h fun y8 hy9 h=>JO.call E E E E (cE x1 (x0.length:Int) _ hy9) E [] E E fun _ _=>aB aA 1 [] [] [(1,.v (I y8))] _ E ⟨⟨E,V⟩,E⟩ (aD E (JS.seq ?_))
  obtain ⟨j29,hj84,h⟩:=aQ h
  refine bA (ι:=Int) ⟨fun z=>j29 z=some r,fun z=>[(0,.v (.slice a4 x0.length c5)),(1,.v (I z)),(2,.v (.bool x2))],fun z=>.nil,fun z=>[⟨(.int .i64),⟨a4,x0.length,c5⟩,x0⟩],fun z=>[],fun z=>0⟩ ?_ ?_
  ·
   refine JS.loop (ι:=Nat×Int) ⟨fun z=>bC (gI x0 x2 j29) z.1 z.2=some r,fun z=>[(0,.v (.slice a4 x0.length c5)),(1,.v (I z.2)),(2,.v (.bool x2))],fun z=>.nil,fun z=>[⟨(.int .i64),⟨a4,x0.length,c5⟩,x0⟩],fun z=>[],fun z=>z.1⟩ (bM,y8) h (Es E) V [0] E [] E ?_
   rintro ⟨n21,x10⟩ h
   obtain ⟨n21,rfl,h⟩:=bH h
   rw [gI] at h
   refine JS.seq (JS.seq (JS.region (bJ 0 E fun hs70=>?_)))
   obtain ⟨g13,h⟩:=aH h
   refine aB aA 7 [(W (x10 - 1))] [] [(14,.v (.bool (decide (0<x10)))),(18,.cd [(14,true)] (.ep ⟨a4,x0.length,c5⟩ (Int.toNat (W (x10 - 1))*1)))] _ E ⟨(fun q69=>⟨V,E⟩),(fun q71=>hs70.ix (g13 q71)),(Es E),E⟩ (JO.load aA E E E E E E E 0 E E (Int.toNat (W (x10 - 1))) 0 (at' x0 (W (x10 - 1))) (fun q72=>⟨bD (g13 q72),E⟩) E E (aB aA 1 [] [] [(20,.cd [(14,true)] (.v (.bool x2)))] _ E ⟨⟨E,V⟩,E⟩ ?_))
   obtain ⟨y16,hy17,-,h⟩:=aV h
   refine bI E E E E (fun q73=>uY (at' x0 (W (x10 - 1))) x2 _ (hy17 q73)) E [] E E (aB aA 2 [] [] [(23,.v (.bool (bif (decide (0<x10)) then (decide (y16=0)) else false)))] _ E ⟨⟨E,V⟩,E⟩ (aD E ?_))
   refine aK E h (fun h=>?_) (fun h=>?_)
   ·
    refine JS.skip (JS.block (bZ aA 3 [(W (x10 - 1))] [] [(1,.v (I (W (x10 - 1))))] _ ⟨⟨V,E⟩,⟨E,V⟩,E⟩ E E (aZ (bQ (n21,(W (x10 - 1))) h (Nat.lt_succ_self _) (Es E) V [0] E [] E))))
   refine JS.exit E (aT x10 h (Es E) V [0] E [] E)
  rintro x28 h
  subst hj84
  refine JS.seq (aC aA 2 [(27,.v (.bool (decide (x28=0))))] ⟨⟨E,V⟩,E⟩ E E ?_)
  refine aK E h (fun h=>?_) (fun h=>?_)
  ·
   refine aC aA 1 [(6,.v (I 0))] ⟨⟨E,V⟩,E⟩ E E ?_
   cases h
   exact JS.ret aA () V E E [] E
  refine JS.skip (JS.seq (JS.region (bJ 0 E fun hs75=>?_)))
  obtain ⟨g37,h⟩:=aH h
  refine aB aA 4 [(W (x28 - 1))] [] [(31,.ep ⟨a4,x0.length,c5⟩ (Int.toNat (W (x28 - 1))*1))] _ E ⟨⟨V,E⟩,hs75.ix g37,⟨E,V⟩,E⟩ (JO.load aA E E E E E E E 0 E E (Int.toNat (W (x28 - 1))) 0 (at' x0 (W (x28 - 1))) ⟨bD g37,E⟩ E E (aB aA 1 [] [] [(33,.v (.bool x2))] _ E ⟨⟨E,V⟩,E⟩ ?_))
  refine bnw h fun y38 hy39 h=>JO.call E E E E (uY (at' x0 (W (x28 - 1))) x2 _ hy39) E [] E E fun _ _=>aB aA 1 [] [] [(7,.v (I y38))] _ E ⟨⟨E,V⟩,E⟩ (aD E (JS.seq ?_))
  obtain ⟨j59,hj82,h⟩:=aQ h
  refine bA (ι:=Int) ⟨fun z=>j59 z=some r,fun z=>[(1,.v (I z))],fun z=>.nil,fun z=>[],fun z=>[],fun z=>0⟩ ?_ ?_
  ·
   refine JS.loop (ι:=Nat×Int) ⟨fun z=>bC (gH x0 x2 y38 j59) z.1 z.2=some r,fun z=>[(0,.v (.slice a4 x0.length c5)),(1,.v (I z.2)),(2,.v (.bool x2)),(7,.v (I y38))],fun z=>.nil,fun z=>[⟨(.int .i64),⟨a4,x0.length,c5⟩,x0⟩],fun z=>[],fun z=>z.1⟩ (bM,x28) h (Es E) V [0] E [] E ?_
   rintro ⟨n51,x40⟩ h
   obtain ⟨n51,rfl,h⟩:=bH h
   rw [gH] at h
   refine JS.seq (JS.seq (JS.region (bJ 0 E fun hs77=>?_)))
   obtain ⟨g43,h⟩:=aH h
   refine aB aA 7 [(W (x40 - 1))] [] [(37,.v (.bool (decide (0<x40)))),(41,.cd [(37,true)] (.ep ⟨a4,x0.length,c5⟩ (Int.toNat (W (x40 - 1))*1)))] _ E ⟨(fun q76=>⟨V,E⟩),(fun q78=>hs77.ix (g43 q78)),(Es E),E⟩ (JO.load aA E E E E E E E 0 E E (Int.toNat (W (x40 - 1))) 0 (at' x0 (W (x40 - 1))) (fun q79=>⟨bD (g43 q79),E⟩) E E (aB aA 1 [] [] [(43,.cd [(37,true)] (.v (.bool x2)))] _ E ⟨⟨E,V⟩,E⟩ ?_))
   obtain ⟨y46,hy47,-,h⟩:=aV h
   refine bI E E E E (fun q80=>uY (at' x0 (W (x40 - 1))) x2 _ (hy47 q80)) E [] E E (aB aA 3 [] [] [(47,.v (.bool (bif (decide (0<x40)) then (decide (y46=y38)) else false)))] _ E ⟨⟨E,V⟩,E⟩ (aD E ?_))
   refine aK E h (fun h=>?_) (fun h=>?_)
   ·
    refine JS.skip (JS.block (bZ aA 3 [(W (x40 - 1))] [] [(1,.v (I (W (x40 - 1))))] _ ⟨⟨V,E⟩,⟨E,V⟩,E⟩ E E (aZ (bQ (n51,(W (x40 - 1))) h (Nat.lt_succ_self _) (Es E) V [0] E [] E))))
   refine JS.exit E (aT x40 h ⟨E,V⟩ V [] E [] E)
  rintro x58 h
  subst hj82
  refine aC aA 2 [(6,.v (I x58))] ⟨⟨E,V⟩,E⟩ E E ?_
  cases h
  exact JS.ret aA () V E E [] E

def oI (x0:List Int×Int) (x1:Int) (x2:Int):Option Bool:=
  (aG (dE x0) fun (y8:Bool)=>
  some (bif (bif (bif y8 then (decide (0≤x1)) else false) then (decide (x1≤x2)) else false) then (decide (x2≤(x0.1.length:Int))) else false))

theorem aBo (x0:List Int×Int) (x1:Int) (x2:Int) (a4:Option Addr) (c5:Nat) (r:Bool) (h:oI x0 x1 x2=some r):
  FC Tryz.prog 253 [.agg #[.slice a4 x0.1.length c5,.int .i64 x0.2],.int .i64 x1,.int .i64 x2] [⟨(.int .i64),⟨a4,x0.1.length,c5⟩,x0.1⟩] (fun _:Unit=>True) (fun _=>.bool r) (fun _=>[]):=
 by
  refine FC.of (T:=TTx) Tryz.call253 Tryz.func253 E E fun w0=>?_
  unfold oI at h
  refine aL aA 2 [] [2] [(3,.bp 2 0)] (.new 2 38 [.slice a4 x0.1.length c5,.int .i64 x0.2] .nil) ⟨⟨E,V⟩,(Bs E E)⟩ E E (JS.seq (JS.region (aB aA 1 [] [] [(7,.v (.agg #[.slice a4 x0.1.length c5,.int .i64 x0.2]))] _ E ⟨⟨E,V⟩,E⟩ ?_)))
  refine bnw h fun y8 hy9 h=>JO.call E E E E (eO x0 a4 c5 _ hy9) E [0] E E fun _ _=>aB aA 17 [] [] [(6,.v (.bool (bif (bif (bif y8 then (decide (0≤x1)) else false) then (decide (x1≤x2)) else false) then (decide (x2≤(x0.1.length:Int))) else false)))] _ E ⟨⟨E,V⟩,E⟩ (aD E ?_)
  cases h
  exact JS.ret aA () V E E [] E

def cW (x0:List Int) (x1:List Int) (x2:List Int):Option (List Int):=
  (aN (([]:List Int).length+x0.length≤536870912) <|
  (aN ((([]:List Int) ++ x0).length+x1.length≤536870912) <|
  (aN (((([]:List Int) ++ x0) ++ x1).length+x2.length≤536870912) <|
  some (((([]:List Int) ++ x0) ++ x1) ++ x2))))

theorem fH (x0:List Int) (x1:List Int) (x2:List Int) (a4:Option Addr) (c5:Nat) (a8:Option Addr) (c9:Nat) (a12:Option Addr) (c13:Nat) (r:List Int) (h:cW x0 x1 x2=some r):
  FC Tryz.prog 82 [.slice a4 x0.length c5,.slice a8 x1.length c9,.slice a12 x2.length c13] [⟨(.int .i64),⟨a4,x0.length,c5⟩,x0⟩,⟨(.int .i64),⟨a8,x1.length,c9⟩,x1⟩,⟨(.int .i64),⟨a12,x2.length,c13⟩,x2⟩] (fun _:Option Addr×Nat=>True) (fun q=>.slice q.1 r.length q.2) (fun q=>[⟨(.int .i64),⟨q.1,r.length,q.2⟩,r⟩]):=
 by
  refine FC.of (T:=TTx) Tryz.call82 Tryz.func82 E E fun w0=>?_
  unfold cW at h
  refine aC aA 1 [] ⟨V,E⟩ E E (JS.seq (JS.region ?_))
  refine jH E (JK.buildSlice aA E E E E E E E E E E E [] E (.int .i64) [] ⟨E,E⟩ E E fun a16=>jG ?_)
  refine aB aA 1 [] [] [(8,.v (.slice a4 x0.length c5))] _ E ⟨⟨E,V⟩,E⟩ ?_
  obtain ⟨g17,h⟩:=aH h
  refine fP aA E E E E ⟨E,E,E,E,V,E,E,E,E⟩ E E E [0] E 0 E g17 E fun a18 c19=>aB aA 1 [] [] [(10,.v (.slice a8 x1.length c9))] _ E ⟨⟨E,V⟩,E⟩ ?_
  obtain ⟨g20,h⟩:=aH h
  refine fP aA E E E E ⟨E,E,E,E,V,E,E,E,E⟩ E E E [0] E 1 E g20 E fun a21 c22=>aB aA 1 [] [] [(12,.v (.slice a12 x2.length c13))] _ E ⟨⟨E,V⟩,E⟩ ?_
  obtain ⟨g23,h⟩:=aH h
  refine fP aA E E E E ⟨E,E,E,E,V,E,E,E,E⟩ E E E [0] E 2 E g23 E fun a24 c25=>aB aA 1 [] [] [(6,.v (.slice a24 (((([]:List Int) ++ x0) ++ x1) ++ x2).length c25))] _ E ⟨⟨E,V⟩,E⟩ (aD E ?_)
  cases h
  exact JS.ret aA (a24,c25) V E E [0] E

def lA (x0:List Int×Int) (x1:Int) (x2:Int):Option ((List Int×Int)×List Int×Bool):=
  (aG (oI x0 x1 x2) fun (y8:Bool)=>
  (bif (!y8) then
  some (([],0),[],false)
  else
  (aU (fun (x12:Int)=>
  (aN (0≤(0:Int)∧(0:Int)≤x1∧x1≤(x0.1.length:Int)) <|
  (aN (0≤x2∧x2≤(x0.1.length:Int)∧(x0.1.length:Int)≤(x0.1.length:Int)) <|
  (aG (cW (bN x0.1 (0:Int) x1) ([]:List Int) (bN x0.1 x2 (x0.1.length:Int))) fun (y25:List Int)=>
  (aN (0≤x1∧x1≤x2∧x2≤(x0.1.length:Int)) <|
  (aG (cW ([]:List Int) (bN x0.1 x1 x2) ([]:List Int)) fun (y33:List Int)=>
  some ((y25,x12),y33,true))))))) fun j13=>
  (bif (decide (x2≤x0.2)) then
  j13 (W (x0.2 - (W (x2 - x1))))
  else
  (bif (decide (x1<x0.2)) then
  j13 x1
  else
  j13 x0.2)))))

theorem fI (x0:List Int×Int) (x1:Int) (x2:Int) (a4:Option Addr) (c5:Nat) (r:(List Int×Int)×List Int×Bool) (h:lA x0 x1 x2=some r):
  FC Tryz.prog 186 [.agg #[.slice a4 x0.1.length c5,.int .i64 x0.2],.int .i64 x1,.int .i64 x2] [⟨(.int .i64),⟨a4,x0.1.length,c5⟩,x0.1⟩] (fun _:Option Addr×Nat×Option Addr×Nat=>True) (fun q=>.tuple #[.agg #[.slice q.1 r.1.1.length q.2.1,.int .i64 r.1.2],.slice q.2.2.1 r.2.1.length q.2.2.2,.bool r.2.2]) (fun q=>[⟨(.int .i64),⟨q.1,r.1.1.length,q.2.1⟩,r.1.1⟩,⟨(.int .i64),⟨q.2.2.1,r.2.1.length,q.2.2.2⟩,r.2.1⟩]):=
 by
  refine FC.of (T:=TTx) Tryz.call186 Tryz.func186 E E fun w0=>?_
  unfold lA at h
  refine aL aA 4 [] [2,3] [(3,.bp 2 0),(6,.bp 3 0)] (.new 2 38 [.slice a4 x0.1.length c5,.int .i64 x0.2] (.new 3 38 [.slice none 0 0,.int .i64 0] .nil)) ⟨(Es E),(Bs E E)⟩ E E (JS.seq (JS.seq (JS.region (aB aA 3 [] [] [(10,.v (.agg #[.slice a4 x0.1.length c5,.int .i64 x0.2])),(11,.v (I x1)),(12,.v (I x2))] _ E ⟨(Es E),E⟩ ?_))))
  refine bnw h fun y8 hy9 h=>JO.call E E E E (aBo x0 x1 x2 a4 c5 _ hy9) E [0] E E fun _ _=>aB aA 1 [] [] [(14,.v (.bool (!y8)))] _ E ⟨⟨E,V⟩,E⟩ (aD E ?_)
  refine aK E h (fun h=>?_) (fun h=>?_)
  ·
   refine aL aA 4 [] [] [(7,.v (.slice none 0 0)),(8,.v (.bool false))] (.new 3 38 [.slice none 0 0,.int .i64 0] .nil) ⟨(Es E),(Bs E E)⟩ E E ?_
   cases h
   refine aX (.int .i64) Sl.nil E E (aX (.int .i64) Sl.nil E E (JS.ret aA (none,0,none,0) V E E [1,0] E))
  refine JS.skip (aC aA 3 [(9,.v (I x0.2))] ⟨⟨E,V⟩,E⟩ E E ?_)
  obtain ⟨j13,hj47,h⟩:=aQ h
  refine dM (ι:=Int) ⟨fun z=>j13 z=some r,fun z=>[(1,.v (I x1)),(2,.v (I x2)),(3,.bp 2 0),(6,.bp 3 0),(9,.v (I z))],fun z=>(.new 2 38 [.slice a4 x0.1.length c5,.int .i64 x0.2] (.new 3 38 [.slice none 0 0,.int .i64 0] .nil)),fun z=>[⟨(.int .i64),⟨a4,x0.1.length,c5⟩,x0.1⟩],fun z=>[],fun z=>0⟩ ?_ ?_
  ·
   refine aC aA 3 [(20,.v (.bool (decide (x2≤x0.2))))] ⟨⟨E,V⟩,E⟩ E E ?_
   refine aK E h (fun h=>?_) (fun h=>?_)
   ·
    refine bZ aA 6 [(W (x2 - x1)),(W (x0.2 - (W (x2 - x1))))] [] [(9,.v (I (W (x0.2 - (W (x2 - x1))))))] _ ⟨⟨V,E⟩,⟨V,E⟩,⟨E,V⟩,E⟩ E E (aT (W (x0.2 - (W (x2 - x1)))) h (Es E) (Bs E E) [0] E [] E)
   refine aC aA 3 [(28,.v (.bool (decide (x1<x0.2))))] ⟨⟨E,V⟩,E⟩ E E ?_
   refine aK E h (fun h=>?_) (fun h=>?_)
   ·
    refine vL aA 2 [(9,.v (I x1))] ⟨⟨E,V⟩,E⟩ E E (aT x1 h (Es E) (Bs E E) [0] E [] E)
   refine JS.skip (aT x0.2 h (Es E) (Bs E E) [0] E [] E)
  rintro x12 h
  subst hj47
  refine JS.seq ?_
  obtain ⟨g16,h⟩:=aH h
  obtain ⟨g21,h⟩:=aH h
  obtain ⟨y25,hy26,h⟩:=aE h
  obtain ⟨g29,h⟩:=aH h
  refine bnw h fun y33 hy34 h=>iC 0 E (0:Int) x1 fun a17 c18 hu19=>iC 1 E x2 (x0.1.length:Int) fun a22 c23 hu24=>iC 2 E x1 x2 fun a30 c31 hu32=>cD 3 E fun hs46=>?_
  refine bB E (.new 2 38 [.slice a4 x0.1.length c5,.int .i64 x0.2] .nil) [] [16,17,18,19] ⟨E,E,E,E,V⟩ E (fun be39=>?_)
  refine bR aA aF true 10 [0,1,2,4,5,6,11,12,13,14] E (by kernel_rfl) [] [(31,.v (.slice a4 x0.1.length c5)),(32,.v (I x1)),(35,.v (.slice a4 x0.1.length c5)),(36,.v (I x2)),(42,.v (.slice a4 x0.1.length c5)),(43,.v (I x1)),(44,.v (I x2))] ⟨E,E,E,E,V⟩ [] E E (Es E) (aS aA aF 9 [9] E (by kernel_rfl) [] [(39,.v (I x12))] E ⟨E,V⟩ (dB aA aF 3 E (by kernel_rfl) E E E E E E (0:Int) x1 E E ⟨g16.1,g16.2.1,g16.2.2,hs46.cap,hu19 g16⟩ E (dB aA aF 7 E (by kernel_rfl) E E E E E E x2 (x0.1.length:Int) E E ⟨g21.1,g21.2.1,g21.2.2,hs46.cap,hu24 g21⟩ E (dB aA aF 15 E (by kernel_rfl) E E E E E E x1 x2 E E ⟨g29.1,g29.2.1,g29.2.2,hs46.cap,hu32 g29⟩ E (JA.one 8 (by kernel_rfl) (zV (.int .i64) Sl.nil E E (JK.call E E E E (fH (bN x0.1 (0:Int) x1) ([]:List Int) (bN x0.1 x2 (x0.1.length:Int)) a17 c18 none 0 a22 c23 _ hy26) E [3,0,2] E E ?_)))))))
  rintro ⟨a27,c28⟩ -
  refine aR ⟨E,E,E,E,V⟩ [] E (aS aA aF 4 [10] E (by kernel_rfl) [] [(40,.v (.agg #[.slice a27 y25.length c28,.int .i64 x12]))] E ⟨E,V⟩ (JA.one 16 (by kernel_rfl) (zV (.int .i64) Sl.nil E E (zV (.int .i64) Sl.nil E E (JK.call E E E E (fH ([]:List Int) (bN x0.1 x1 x2) ([]:List Int) none 0 a30 c31 none 0 _ hy34) E [1,3,0] E E ?_)))))
  rintro ⟨a35,c36⟩ -
  refine aM E (JA.one 17 (by kernel_rfl) (aY aA E E E E E E E E (aM E (aS aA aF 0 [18,19] E (by kernel_rfl) [] [(7,.v (.slice a35 y33.length c36)),(8,.v (.bool true))] E (Es E) (bE (by kernel_rfl) (aW (B':=(.new 3 38 [.slice a27 y25.length c28,.int .i64 x12] .nil)) (Bs E E) ?_))))))
  cases h
  exact JS.ret aA (a27,c28,a35,c36) V E E [1,0] E

def dK (x0:List Int×Int):Option (List Int×Int):=
  (aN (([]:List Int).length+x0.1.length≤536870912) <|
  some ((([]:List Int) ++ x0.1),x0.2))

theorem fG (x0:List Int×Int) (a2:Option Addr) (c3:Nat) (r:List Int×Int) (h:dK x0=some r):
  FC Tryz.prog 52 [.agg #[.slice a2 x0.1.length c3,.int .i64 x0.2]] [⟨(.int .i64),⟨a2,x0.1.length,c3⟩,x0.1⟩] (fun _:Option Addr×Nat=>True) (fun q=>.agg #[.slice q.1 r.1.length q.2,.int .i64 r.2]) (fun q=>[⟨(.int .i64),⟨q.1,r.1.length,q.2⟩,r.1⟩]):=
 by
  refine FC.of (T:=TTx) Tryz.call52 Tryz.func52 E E fun w0=>?_
  unfold dK at h
  refine aL aA 2 [] [2,3] [(1,.bp 2 0),(2,.bp 3 0)] (.new 2 38 [.slice a2 x0.1.length c3,.int .i64 x0.2] (.new 3 38 [.slice none 0 0,.int .i64 0] .nil)) ⟨(Es E),(Bs E E)⟩ E E (JS.seq ?_)
  obtain ⟨g7,h⟩:=aH h
  refine bB E (.new 2 38 [.slice a2 x0.1.length c3,.int .i64 x0.2] .nil) [] [6,7] ⟨E,E,E,E,V⟩ E (fun be10=>?_)
  refine bR aA aF true 4 [1,2,4,5] E (by kernel_rfl) [] [(5,.v (.slice a2 x0.1.length c3)),(8,.v (I x0.2))] ⟨E,E,E,E,V⟩ [] E E (Es E) (JA.one 0 (by kernel_rfl) (JK.buildSlice aA E E E E E E E E E E E [] E (.int .i64) [] ⟨E,E⟩ E E fun a6=>aR ⟨E,E,E,E,V⟩ [] E (JA.one 3 (by kernel_rfl) (cY aA E E E E ⟨E,E,E,E,V,E,E,E,E⟩ E E E [0] E 0 E g7 E fun a8 c9=>aR ⟨E,E,E,E,V⟩ [] E (aS aA aF 1 [6] E (by kernel_rfl) [] [(9,.v (.agg #[.slice a8 (([]:List Int) ++ x0.1).length c9,.int .i64 x0.2]))] E ⟨E,V⟩ (JA.one 7 (by kernel_rfl) (aY aA E E E E E E E E (aM E (bE (by kernel_rfl) (aW (B':=(.new 3 38 [.slice a8 (([]:List Int) ++ x0.1).length c9,.int .i64 x0.2] .nil)) (Bs E E) ?_))))))))))
  cases h
  exact JS.ret aA (a8,c9) V E E [0] E

def kV (x0:List (List Int)) (j39:(List (List Int))→Option (List (List Int))) (k32:(Int×List (List Int))→Option (List (List Int))):(Int×List (List Int))→Option (List (List Int)):=fun (x6,x10)=>
  (bif (decide (x6<(x0.length:Int))) then
  (aN (0≤x6∧x6<(x0.length:Int)) <|
  (aN (([]:List Int).length+(at' x0 x6).length≤536870912) <|
  (aN (x10.length+([(([]:List Int) ++ (at' x0 x6))]:List (List Int)).length≤536870912) <|
  k32 ((W (x6+1)),(x10 ++ ([(([]:List Int) ++ (at' x0 x6))]:List (List Int)))))))
  else
  j39 x10)

def kW (x0:List (List Int)):Option (List (List Int)):=
  (aU (fun (x36:List (List Int))=>
  some x36) fun j39=>
  (bC (kV x0 j39) bM (0,([]:List (List Int)))))

theorem wW (x0:List (List Int)) (a2:Option Addr) (c3:Nat) (r:List (List Int)) (h:kW x0=some r):
  FC Tryz.prog 137 [.agg #[.slice a2 x0.length c3]] [⟨(.sl (.int .i64)),⟨a2,x0.length,c3⟩,x0⟩] (fun _:Option Addr×Nat=>True) (fun q=>.agg #[.slice q.1 r.length q.2]) (fun q=>[⟨(.sl (.int .i64)),⟨q.1,r.length,q.2⟩,r⟩]):=
 by
  refine FC.of (T:=TTx) Tryz.call137 Tryz.func137 E E fun w0=>?_
  unfold kW at h
  refine aL aA 2 [] [2,3] [(1,.bp 2 0),(2,.bp 3 0)] (.new 2 41 [.slice a2 x0.length c3] (.new 3 41 [.slice none 0 0] .nil)) ⟨(Es E),(Bs E E)⟩ E E (aL aA 3 [] [4] [(3,.bp 4 0)] (.new 2 41 [.slice a2 x0.length c3] (.new 3 41 [.slice none 0 0] (.new 4 41 [.slice none 0 0] .nil))) ⟨⟨E,V⟩,(Bs E E)⟩ E E (JS.seq (aC aA 4 [(8,.v (.slice a2 x0.length c3)),(9,.v (I (x0.length:Int))),(10,.v (I 0))] ⟨(Es E),E⟩ E E ?_)))
  obtain ⟨j39,hj45,h⟩:=aQ h
  refine bA (ι:=List (List Int)×Option Addr×Nat) ⟨fun z=>j39 z.1=some r,fun z=>[(2,.bp 3 0),(3,.bp 4 0)],fun z=>(.new 3 41 [.slice none 0 0] (.new 4 41 [.slice z.2.1 z.1.length z.2.2] .nil)),fun z=>[],fun z=>[⟨(.sl (.int .i64)),⟨z.2.1,z.1.length,z.2.2⟩,z.1⟩],fun z=>0⟩ ?_ ?_
  ·
   refine aX (.sl (.int .i64)) Sl.nil E E (JS.loop (ι:=Nat×Int×List (List Int)×Option Addr×Nat) ⟨fun z=>bC (kV x0 j39) z.1 (z.2.1,z.2.2.1)=some r,fun z=>[(2,.bp 3 0),(3,.bp 4 0),(8,.v (.slice a2 x0.length c3)),(9,.v (I (x0.length:Int))),(10,.v (I z.2.1))],fun z=>(.new 3 41 [.slice none 0 0] (.new 4 41 [.slice z.2.2.2.1 z.2.2.1.length (Q4 z)] .nil)),fun z=>[⟨(.sl (.int .i64)),⟨a2,x0.length,c3⟩,x0⟩],fun z=>[⟨(.sl (.int .i64)),⟨z.2.2.2.1,z.2.2.1.length,(Q4 z)⟩,z.2.2.1⟩],fun z=>z.1⟩ (bM,0,([]:List (List Int)),none,0) h (Es E) (Bs E E) [0] E [0] E ?_)
   rintro ⟨n33,x6,x10,a11,c12⟩ h
   obtain ⟨n33,rfl,h⟩:=bH h
   rw [kV] at h
   refine aC aA 1 [(11,.v (.bool (decide (x6<(x0.length:Int)))))] ⟨⟨E,V⟩,E⟩ E E (JS.seq ?_)
   refine aK E h (fun h=>?_) (fun h=>?_)
   ·
    refine JS.skip (JS.seq (JS.block (JS.seq (JS.region (bJ 0 E fun hs43=>?_)))))
    obtain ⟨g14,h⟩:=aH h
    refine aB aA 1 [] [] [(12,.ep ⟨a2,x0.length,c3⟩ (Int.toNat x6*1))] _ E ⟨hs43.ix g14,⟨E,V⟩,E⟩ (eU 0 E (Int.toNat x6) (at' x0 x6) E fun a15 c16 ys17 hl18 hy19=>cP aA E E E E E E 0 E E (Int.toNat x6) 0 (Sl.v ⟨a15,(at' x0 x6).length,c16⟩) ⟨hy19 (kG g14),E⟩ E E E (aP aA 2 [] [22] [(5,.bp 22 0)] (.new 3 41 [.slice none 0 0] (.new 4 41 [.slice a11 x10.length c12] (.new 22 174 [.slice a15 (at' x0 x6).length c16] .nil))) E ⟨⟨E,V⟩,(Bs E E)⟩ (aD E ?_)))
    obtain ⟨g21,h⟩:=aH h
    obtain ⟨g25,h⟩:=aH h
    refine bB E (.new 4 41 [.slice a11 x10.length c12] (.new 22 174 [.slice a15 (at' x0 x6).length c16] .nil)) [] [8,9,10] ⟨E,E,E,E,E,E,E,E,V⟩ E (fun be28=>?_)
    refine bR aA aF true 7 [0,1,3,4] E (by kernel_rfl) [] [(15,.v (.slice a11 x10.length c12)),(18,.v (.slice a15 (at' x0 x6).length c16))] ⟨E,E,E,E,E,E,E,E,V⟩ [] E E (Es E) (JA.one 2 (by kernel_rfl) (JK.buildSlice aA E E E E E E E E E E E [] E (.int .i64) [] ⟨E,E⟩ E E fun a20=>aR ⟨E,E,E,E,E,E,E,E,V⟩ [] E (JA.one 5 (by kernel_rfl) (cY aA E E E E ⟨E,E,E,E,V,E,E,E,E⟩ E E E [0] E 1 E g21 E fun a22 c23=>aR ⟨E,E,E,E,E,E,E,E,V⟩ [] E (bR aA aF true 4 [6] E (by kernel_rfl) [] [(20,.v (.agg #[.slice a22 (([]:List Int) ++ (at' x0 x6)).length c23]))] ⟨E,E,E,E,E,E,E,E,V⟩ [] E E ⟨E,V⟩ (JA.one 7 (by kernel_rfl) (JK.buildSlice aA E E E E E E E E E E E [0] E (.sl (.int .i64)) [(([]:List Int) ++ (at' x0 x6))] ⟨E,E,E⟩ E E fun a24=>aR ⟨E,E,E,E,E,E,E,E,V⟩ [] E (JA.one 8 (by kernel_rfl) (gS aA E E E E ⟨E,E,E,E,V,E,E,E,E⟩ E E [1,0] E g25 E fun a26 c27=>aM E (aS aA aF 1 [9] E (by kernel_rfl) [] [(23,.bp 4 0)] E ⟨E,V⟩ (JA.one 10 (by kernel_rfl) (aY aA E E E E E E E E (aM E (bE (by kernel_rfl) (aW (B':=(.new 3 41 [.slice none 0 0] (.new 4 41 [.slice a26 (x10 ++ ([(([]:List Int) ++ (at' x0 x6))]:List (List Int))).length c27] .nil))) (Bs E E) ?_)))))))))))))))
    refine aZ (bZ aA 2 [(W (x6+1))] [] [(10,.v (I (W (x6+1))))] _ ⟨⟨V,E⟩,⟨E,V⟩,E⟩ E E (bQ (n33,(W (x6+1)),(x10 ++ ([(([]:List Int) ++ (at' x0 x6))]:List (List Int))),a26,c27) h (Nat.lt_succ_self _) (Es E) (Bs E E) [2] E [0] E))
   refine JS.exit E (aT (x10,a11,c12) h (Es E) (Bs E E) [] E [0] E)
  rintro ⟨x36,a37,c38⟩ h
  subst hj45
  refine aL aA 2 [] [] [] (.new 3 41 [.slice a37 x36.length c38] .nil) ⟨V,(Bs E E)⟩ E E ?_
  cases h
  exact JS.ret aA (a37,c38) V E E [0] E

def jK (x0:List (List Int×Int)) (j39:(List (List Int×Int))→Option (List (List Int×Int))) (k32:(Int×(List (List Int×Int)))→Option (List (List Int×Int))):(Int×(List (List Int×Int)))→Option (List (List Int×Int)):=fun (x6,x10)=>
  (bif (decide (x6<(x0.length:Int))) then
  (aN (0≤x6∧x6<(x0.length:Int)) <|
  (aG (dK ((at' x0 x6).1,(at' x0 x6).2)) fun (y20:List Int×Int)=>
  (aN (x10.length+([y20]:List (List Int×Int)).length≤536870912) <|
  k32 ((W (x6+1)),(x10 ++ ([y20]:List (List Int×Int)))))))
  else
  j39 x10)

def iY (x0:List (List Int×Int)):Option (List (List Int×Int)):=
  (aU (fun (x36:List (List Int×Int))=>
  some x36) fun j39=>
  (bC (jK x0 j39) bM (0,([]:List (List Int×Int)))))

theorem uX (x0:List (List Int×Int)) (a2:Option Addr) (c3:Nat) (r:List (List Int×Int)) (h:iY x0=some r):
  FC Tryz.prog 138 [.agg #[.slice a2 x0.length c3]] [⟨(.pair (.sl (.int .i64)) (.int .i64)),⟨a2,x0.length,c3⟩,x0⟩] (fun _:Option Addr×Nat=>True) (fun q=>.agg #[.slice q.1 r.length q.2]) (fun q=>[⟨(.pair (.sl (.int .i64)) (.int .i64)),⟨q.1,r.length,q.2⟩,r⟩]):=
 by
  refine FC.of (T:=TTx) Tryz.call138 Tryz.func138 E E fun w0=>?_
  unfold iY at h
  refine aL aA 2 [] [2,3] [(1,.bp 2 0),(2,.bp 3 0)] (.new 2 44 [.slice a2 x0.length c3] (.new 3 44 [.slice none 0 0] .nil)) ⟨(Es E),(Bs E E)⟩ E E (aL aA 3 [] [4] [(3,.bp 4 0)] (.new 2 44 [.slice a2 x0.length c3] (.new 3 44 [.slice none 0 0] (.new 4 44 [.slice none 0 0] .nil))) ⟨⟨E,V⟩,(Bs E E)⟩ E E (JS.seq (aC aA 4 [(8,.v (.slice a2 x0.length c3)),(9,.v (I (x0.length:Int))),(10,.v (I 0))] ⟨(Es E),E⟩ E E ?_)))
  obtain ⟨j39,hj45,h⟩:=aQ h
  refine bA (ι:=(List (List Int×Int))×Option Addr×Nat) ⟨fun z=>j39 z.1=some r,fun z=>[(2,.bp 3 0),(3,.bp 4 0)],fun z=>(.new 3 44 [.slice none 0 0] (.new 4 44 [.slice z.2.1 z.1.length z.2.2] .nil)),fun z=>[],fun z=>[⟨(.pair (.sl (.int .i64)) (.int .i64)),⟨z.2.1,z.1.length,z.2.2⟩,z.1⟩],fun z=>0⟩ ?_ ?_
  ·
   refine aX (.pair (.sl (.int .i64)) (.int .i64)) Sl.nil E E (JS.loop (ι:=Nat×Int×(List (List Int×Int))×Option Addr×Nat) ⟨fun z=>bC (jK x0 j39) z.1 (z.2.1,z.2.2.1)=some r,fun z=>[(2,.bp 3 0),(3,.bp 4 0),(8,.v (.slice a2 x0.length c3)),(9,.v (I (x0.length:Int))),(10,.v (I z.2.1))],fun z=>(.new 3 44 [.slice none 0 0] (.new 4 44 [.slice z.2.2.2.1 z.2.2.1.length (Q4 z)] .nil)),fun z=>[⟨(.pair (.sl (.int .i64)) (.int .i64)),⟨a2,x0.length,c3⟩,x0⟩],fun z=>[⟨(.pair (.sl (.int .i64)) (.int .i64)),⟨z.2.2.2.1,z.2.2.1.length,(Q4 z)⟩,z.2.2.1⟩],fun z=>z.1⟩ (bM,0,([]:List (List Int×Int)),none,0) h (Es E) (Bs E E) [0] E [0] E ?_)
   rintro ⟨n33,x6,x10,a11,c12⟩ h
   obtain ⟨n33,rfl,h⟩:=bH h
   rw [jK] at h
   refine aC aA 1 [(11,.v (.bool (decide (x6<(x0.length:Int)))))] ⟨⟨E,V⟩,E⟩ E E (JS.seq ?_)
   refine aK E h (fun h=>?_) (fun h=>?_)
   ·
    refine JS.skip (JS.seq (JS.block (JS.seq (JS.region (bJ 0 E fun hs43=>?_)))))
    obtain ⟨g14,h⟩:=aH h
    refine aB aA 1 [] [] [(12,.ep ⟨a2,x0.length,c3⟩ (Int.toNat x6*2))] _ E ⟨hs43.ix g14,⟨E,V⟩,E⟩ (eU 0 E (Int.toNat x6) (at' x0 x6) E fun a15 c16 ys17 hl18 hy19=>cP aA E E E E E E 0 E E (Int.toNat x6) 0 ((Sl.v ⟨a15,((at' x0 x6).1).length,c16⟩),(at' x0 x6).2) ⟨hy19 (kG g14),E⟩ E E E (aP aA 2 [] [22] [(5,.bp 22 0)] (.new 3 44 [.slice none 0 0] (.new 4 44 [.slice a11 x10.length c12] (.new 22 38 [.slice a15 ((at' x0 x6).1).length c16,.int .i64 (at' x0 x6).2] .nil))) E ⟨⟨E,V⟩,(Bs E E)⟩ (aD E ?_)))
    obtain ⟨y20,hy21,h⟩:=aE h
    obtain ⟨g25,h⟩:=aH h
    refine bB E (.new 4 44 [.slice a11 x10.length c12] (.new 22 38 [.slice a15 ((at' x0 x6).1).length c16,.int .i64 (at' x0 x6).2] .nil)) [] [5,6,7] ⟨E,E,E,E,E,E,E,E,V⟩ E (fun be28=>?_)
    refine bR aA aF true 5 [0,1,2] E (by kernel_rfl) [] [(15,.v (.slice a11 x10.length c12)),(16,.v (.agg #[.slice a15 ((at' x0 x6).1).length c16,.int .i64 (at' x0 x6).2]))] ⟨E,E,E,E,E,E,E,E,V⟩ [] E E (Es E) (JA.one 3 (by kernel_rfl) (JK.call E E E E (fG ((at' x0 x6).1,(at' x0 x6).2) a15 c16 _ hy21) E [1] E E ?_))
    rintro ⟨a22,c23⟩ -
    refine aR ⟨E,E,E,E,E,E,E,E,V⟩ [] E (JA.one 4 (by kernel_rfl) (JK.buildSlice aA E E E E E E E E E E E [0] E (.pair (.sl (.int .i64)) (.int .i64)) [y20] ⟨E,E,E⟩ E E fun a24=>aR ⟨E,E,E,E,E,E,E,E,V⟩ [] E (JA.one 5 (by kernel_rfl) (gS aA E E E E ⟨E,E,E,E,V,E,E,E,E⟩ E E [1,0] E g25 E fun a26 c27=>aM E (aS aA aF 1 [6] E (by kernel_rfl) [] [(20,.bp 4 0)] E ⟨E,V⟩ (JA.one 7 (by kernel_rfl) (aY aA E E E E E E E E (aM E (bE (by kernel_rfl) (aW (B':=(.new 3 44 [.slice none 0 0] (.new 4 44 [.slice a26 (x10 ++ ([y20]:List (List Int×Int))).length c27] .nil))) (Bs E E) (aZ (bZ aA 2 [(W (x6+1))] [] [(10,.v (I (W (x6+1))))] _ ⟨⟨V,E⟩,⟨E,V⟩,E⟩ E E (bQ (n33,(W (x6+1)),(x10 ++ ([y20]:List (List Int×Int))),a26,c27) h (Nat.lt_succ_self _) (Es E) (Bs E E) [2] E [0] E)))))))))))))
   refine JS.exit E (aT (x10,a11,c12) h (Es E) (Bs E E) [] E [0] E)
  rintro ⟨x36,a37,c38⟩ h
  subst hj45
  refine aL aA 2 [] [] [] (.new 3 44 [.slice a37 x36.length c38] .nil) ⟨V,(Bs E E)⟩ E E ?_
  cases h
  exact JS.ret aA (a37,c38) V E E [0] E

def cH (x0:EdQ):Option EdQ:=
  (aG (dK x0.2.2.1) fun (y26:List Int×Int)=>
  (aG (dK x0.2.2.2.2.2.2.2.2.2.2.2.2.2.1) fun (y30:List Int×Int)=>
  (aG (dK x0.2.2.2.2.2.2.2.2.2.2.2.2.2.2.2.2) fun (y34:List Int×Int)=>
  (aG (kW x0.2.2.2.2.2.2.2.2.2.2.1) fun (y38:List (List Int))=>
  (aG (iY x0.2.2.2.2.2.2.2.2.2.2.2.1) fun (y42:List (List Int×Int))=>
  (aN (([]:List Int).length+x0.2.2.2.2.2.2.2.2.2.2.2.2.2.2.1.length≤536870912) <|
  some (x0.1,x0.2.1,y26,x0.2.2.2.1,x0.2.2.2.2.1,x0.2.2.2.2.2.1,x0.2.2.2.2.2.2.1,x0.2.2.2.2.2.2.2.1,x0.2.2.2.2.2.2.2.2.1,x0.2.2.2.2.2.2.2.2.2.1,y38,y42,x0.2.2.2.2.2.2.2.2.2.2.2.2.1,y30,(([]:List Int) ++ x0.2.2.2.2.2.2.2.2.2.2.2.2.2.2.1),x0.2.2.2.2.2.2.2.2.2.2.2.2.2.2.2.1,y34)))))))

theorem dU (x0:EdQ) (q2:P6) (r:EdQ) (h:cH x0=some r):
  FC Tryz.prog 51 [.agg (cC x0 q2).toArray] (bW x0 q2 []) (fun _:P6=>True) (fun q=>.agg (aI r q).toArray) (fun q=>(bW r q [])):=
 by
  refine FC.of (T:=TTx) Tryz.call51 Tryz.func51 E E fun w0=>?_
  unfold cH at h
  refine aL aA 2 [] [7,8] [(1,.bp 7 0),(2,.bp 8 0)] (.new 7 46 (aI x0 q2) (.new 8 46 bF .nil)) ⟨(Es E),(Bs E E)⟩ E E (JS.seq (JS.region (aB aA 2 [] [] [(4,.v (.agg #[.slice q2.1 x0.2.2.1.1.length q2.2.1,.int .i64 x0.2.2.1.2]))] _ E ⟨⟨E,V⟩,E⟩ ?_)))
  refine bnw h fun y26 hy27 h=>JO.call E E E E (fG x0.2.2.1 q2.1 q2.2.1 _ hy27) E [0] E E ?_
  rintro ⟨a28,c29⟩ -
  refine aP aA 2 [] [] [] (.new 7 46 (aI (x0.1,x0.2.1,y26,x0.2.2.2) (a28,c29,q2.2.2)) (.new 8 46 bF .nil)) E ⟨V,(Bs E E)⟩ (aD E (JS.seq (JS.region (aB aA 2 [] [] [(8,.v (.agg #[.slice (Q4 q2).2.2.1 (Q12 x0).2.1.1.length (Q4 q2).2.2.2.1,.int .i64 (Q12 x0).2.1.2]))] _ E ⟨⟨E,V⟩,E⟩ ?_))))
  refine bnw h fun y30 hy31 h=>JO.call E E E E (fG (Q12 x0).2.1 (Q4 q2).2.2.1 (Q4 q2).2.2.2.1 _ hy31) E [3] E E ?_
  rintro ⟨a32,c33⟩ -
  refine aP aA 2 [] [] [] (.new 7 46 (aI (U13 (U2 x0 y26) y30) (a28,c29,q2.2.2.1,q2.2.2.2.1,(Q4 q2).1,(Q4 q2).2.1,a32,c33,(Q8 q2))) (.new 8 46 bF .nil)) E ⟨V,(Bs E E)⟩ (aD E (JS.seq (JS.region (aB aA 2 [] [] [(12,.v (.agg #[.slice (Q8 q2).2.2.1 (Q16 x0).1.length (Q8 q2).2.2.2,.int .i64 (Q16 x0).2]))] _ E ⟨⟨E,V⟩,E⟩ ?_))))
  refine bnw h fun y34 hy35 h=>JO.call E E E E (fG (Q16 x0) (Q8 q2).2.2.1 (Q8 q2).2.2.2 _ hy35) E [5] E E ?_
  rintro ⟨a36,c37⟩ -
  refine aP aA 2 [] [] [] (.new 7 46 (aI (x0.1,x0.2.1,y26,x0.2.2.2.1,(Q4 x0).1,(Q4 x0).2.1,(Q4 x0).2.2.1,(Q4 x0).2.2.2.1,(Q8 x0).1,(Q8 x0).2.1,(Q8 x0).2.2.1,(Q8 x0).2.2.2.1,(Q12 x0).1,y30,(Q12 x0).2.2.1,(Q12 x0).2.2.2.1,y34) (a28,c29,q2.2.2.1,q2.2.2.2.1,(Q4 q2).1,(Q4 q2).2.1,a32,c33,(Q8 q2).1,(Q8 q2).2.1,a36,c37)) (.new 8 46 bF .nil)) E ⟨V,(Bs E E)⟩ (aD E (JS.seq (JS.region (aB aA 2 [] [] [(16,.v (.agg #[.slice q2.2.2.1 (Q8 x0).2.2.1.length q2.2.2.2.1]))] _ E ⟨⟨E,V⟩,E⟩ ?_))))
  refine bnw h fun y38 hy39 h=>JO.call E E E E (wW (Q8 x0).2.2.1 q2.2.2.1 q2.2.2.2.1 _ hy39) E [1] E E ?_
  rintro ⟨a40,c41⟩ -
  refine aP aA 2 [] [] [] (.new 7 46 (aI (x0.1,x0.2.1,y26,x0.2.2.2.1,(Q4 x0).1,(Q4 x0).2.1,(Q4 x0).2.2.1,(Q4 x0).2.2.2.1,(Q8 x0).1,(Q8 x0).2.1,y38,(Q8 x0).2.2.2.1,(Q12 x0).1,y30,(Q12 x0).2.2.1,(Q12 x0).2.2.2.1,y34) (a28,c29,a40,c41,(Q4 q2).1,(Q4 q2).2.1,a32,c33,(Q8 q2).1,(Q8 q2).2.1,a36,c37)) (.new 8 46 bF .nil)) E ⟨V,(Bs E E)⟩ (aD E (JS.seq (JS.region (aB aA 2 [] [] [(20,.v (.agg #[.slice (Q4 q2).1 (Q8 x0).2.2.2.1.length (Q4 q2).2.1]))] _ E ⟨⟨E,V⟩,E⟩ ?_))))
  refine bnw h fun y42 hy43 h=>JO.call E E E E (uX (Q8 x0).2.2.2.1 (Q4 q2).1 (Q4 q2).2.1 _ hy43) E [2] E E ?_
  rintro ⟨a44,c45⟩ -
  refine aP aA 2 [] [] [] (.new 7 46 (aI (x0.1,x0.2.1,y26,x0.2.2.2.1,(Q4 x0).1,(Q4 x0).2.1,(Q4 x0).2.2.1,(Q4 x0).2.2.2.1,(Q8 x0).1,(Q8 x0).2.1,y38,y42,(Q12 x0).1,y30,(Q12 x0).2.2.1,(Q12 x0).2.2.2.1,y34) (a28,c29,a40,c41,a44,c45,a32,c33,(Q8 q2).1,(Q8 q2).2.1,a36,c37)) (.new 8 46 bF .nil)) E ⟨V,(Bs E E)⟩ (aD E (JS.seq (JS.region ?_)))
  refine jH E (JK.buildSlice aA E E E E E E E E E E E [] E (.int .i64) [] ⟨E,E⟩ E E fun a46=>jG ?_)
  refine aB aA 2 [] [] [(25,.v (.slice (Q8 q2).1 (Q12 x0).2.2.1.length (Q8 q2).2.1))] _ E ⟨⟨E,V⟩,E⟩ ?_
  obtain ⟨g47,h⟩:=aH h
  refine fP aA E E E E ⟨E,E,E,E,V,E,E,E,E⟩ E E E [0] E 4 E g47 E fun a48 c49=>aP aA 2 [] [] [] (.new 7 46 (aI (x0.1,x0.2.1,y26,x0.2.2.2.1,(Q4 x0).1,(Q4 x0).2.1,(Q4 x0).2.2.1,(Q4 x0).2.2.2.1,(Q8 x0).1,(Q8 x0).2.1,y38,y42,(Q12 x0).1,y30,(([]:List Int) ++ (Q12 x0).2.2.1),(Q12 x0).2.2.2.1,y34) (a28,c29,a40,c41,a44,c45,a32,c33,a48,c49,a36,c37)) (.new 8 46 bF .nil)) E ⟨V,(Bs E E)⟩ (aD E (aL aA 2 [] [] [] (.new 8 46 (aI (x0.1,x0.2.1,y26,x0.2.2.2.1,(Q4 x0).1,(Q4 x0).2.1,(Q4 x0).2.2.1,(Q4 x0).2.2.2.1,(Q8 x0).1,(Q8 x0).2.1,y38,y42,(Q12 x0).1,y30,(([]:List Int) ++ (Q12 x0).2.2.1),(Q12 x0).2.2.2.1,y34) (a28,c29,a40,c41,a44,c45,a32,c33,a48,c49,a36,c37)) .nil) ⟨V,(Bs E E)⟩ E E ?_))
  cases h
  exact JS.ret aA (a28,c29,a40,c41,a44,c45,a32,c33,a48,c49,a36,c37) V E E [5,2,1,2,0,0] E

def eQ (x0:EdQ):Option EdQ:=
  some (x0.1,x0.2.1,x0.2.2.1,0,0,0,0,x0.2.2.2.2.2.2.2.1,x0.2.2.2.2.2.2.2.2.1,x0.2.2.2.2.2.2.2.2.2.1,x0.2.2.2.2.2.2.2.2.2.2.1,x0.2.2.2.2.2.2.2.2.2.2.2.1,x0.2.2.2.2.2.2.2.2.2.2.2.2.1,x0.2.2.2.2.2.2.2.2.2.2.2.2.2.1,x0.2.2.2.2.2.2.2.2.2.2.2.2.2.2.1,x0.2.2.2.2.2.2.2.2.2.2.2.2.2.2.2.1,x0.2.2.2.2.2.2.2.2.2.2.2.2.2.2.2.2)

theorem oS (x0:EdQ) (q2:P6) (r:EdQ) (h:eQ x0=some r):
  FC Tryz.prog 121 [.agg (cC x0 q2).toArray] (bW x0 q2 []) (fun _:Unit=>True) (fun _=>.agg #[.bool r.1,.int .i64 r.2.1,.slice q2.1 x0.2.2.1.1.length q2.2.1,.int .i64 r.2.2.1.2,.int .i64 r.2.2.2.1,.int .i64 (Q4 r).1,.int .i64 (Q4 r).2.1,.int .i64 (Q4 r).2.2.1,.int .i64 (Q4 r).2.2.2.1,.int .i64 (Q8 r).1,.int .i64 (Q8 r).2.1,.slice q2.2.2.1 (Q8 x0).2.2.1.length q2.2.2.2.1,.slice (Q4 q2).1 (Q8 x0).2.2.2.1.length (Q4 q2).2.1,.int .i64 (Q12 r).1,.slice (Q4 q2).2.2.1 (Q12 x0).2.1.1.length (Q4 q2).2.2.2.1,.int .i64 (Q12 r).2.1.2,.slice (Q8 q2).1 (Q12 x0).2.2.1.length (Q8 q2).2.1,.int .i64 (Q12 r).2.2.2.1,.slice (Q8 q2).2.2.1 (Q16 x0).1.length (Q8 q2).2.2.2,.int .i64 (Q16 r).2]) (fun _=>[]):=
 by
  refine FC.of (T:=TTx) Tryz.call121 Tryz.func121 E E fun w0=>?_
  unfold eQ at h
  refine aL aA 2 [] [7,8] [(1,.bp 7 0),(2,.bp 8 0)] (.new 7 46 (aI x0 q2) (.new 8 46 bF .nil)) ⟨(Es E),(Bs E E)⟩ E E (aL aA 2 [] [] [] (.new 7 46 (aI (U3 x0 0) q2) (.new 8 46 bF .nil)) ⟨V,(Bs E E)⟩ E E (aL aA 2 [] [] [] (.new 7 46 (aI (U4 (U3 x0 0) 0) q2) (.new 8 46 bF .nil)) ⟨V,(Bs E E)⟩ E E (aL aA 2 [] [] [] (.new 7 46 (aI (U5 (U4 (U3 x0 0) 0) 0) q2) (.new 8 46 bF .nil)) ⟨V,(Bs E E)⟩ E E (aL aA 2 [] [] [] (.new 7 46 (aI (U6 (U5 (U4 (U3 x0 0) 0) 0) 0) q2) (.new 8 46 bF .nil)) ⟨V,(Bs E E)⟩ E E (aL aA 2 [] [] [] (.new 8 46 (aI (U6 (U5 (U4 (U3 x0 0) 0) 0) 0) q2) .nil) ⟨V,(Bs E E)⟩ E E ?_)))))
  cases h
  exact JS.ret aA () V E E [] E

def kT (x0:List Int) (x1:List Int) (j28:Unit→Option Bool) (k20:Int→Option Bool):Int→Option Bool:=fun x11=>
  (bif (decide (x11<(x0.length:Int))) then
  (aN (0≤x11∧x11<(x0.length:Int)) <|
  (aN (0≤x11∧x11<(x1.length:Int)) <|
  (bif (!(decide ((at' x0 x11)=(at' x1 x11)))) then
  some false
  else
  k20 (W (x11+1)))))
  else
  j28 ())

def kU (x0:List Int) (x1:List Int):Option Bool:=
  (bif (!(decide ((x0.length:Int)=(x1.length:Int)))) then
  some false
  else
  (aU (fun (_:Unit)=>
  some true) fun j28=>
  (bC (kT x0 x1 j28) bM 0)))

theorem wV (x0:List Int) (x1:List Int) (a3:Option Addr) (c4:Nat) (a7:Option Addr) (c8:Nat) (r:Bool) (h:kU x0 x1=some r):
  FC Tryz.prog 249 [.slice a3 x0.length c4,.slice a7 x1.length c8] [⟨(.int .i64),⟨a3,x0.length,c4⟩,x0⟩,⟨(.int .i64),⟨a7,x1.length,c8⟩,x1⟩] (fun _:Unit=>True) (fun _=>.bool r) (fun _=>[]):=
 by
  refine FC.of (T:=TTx) Tryz.call249 Tryz.func249 E E fun w0=>?_
  unfold kU at h
  refine aC aA 1 [] ⟨V,E⟩ E E (JS.seq (aC aA 5 [(10,.v (.bool (!(decide ((x0.length:Int)=(x1.length:Int))))))] ⟨⟨E,V⟩,E⟩ E E ?_))
  refine aK E h (fun h=>?_) (fun h=>?_)
  ·
   refine aC aA 1 [(4,.v (.bool false))] ⟨⟨E,V⟩,E⟩ E E ?_
   cases h
   exact JS.ret aA () V E E [] E
  refine JS.skip (JS.seq (aC aA 3 [(12,.v (I (x0.length:Int))),(13,.v (I 0))] ⟨(Es E),E⟩ E E ?_))
  obtain ⟨j28,hj43,h⟩:=aQ h
  refine bA (ι:=Unit) ⟨fun _=>j28 ()=some r,fun _=>[],fun _=>.nil,fun _=>[],fun _=>[],fun _=>0⟩ ?_ ?_
  ·
   refine JS.loop (ι:=Nat×Int) ⟨fun z=>bC (kT x0 x1 j28) z.1 z.2=some r,fun z=>[(0,.v (.slice a3 x0.length c4)),(1,.v (.slice a7 x1.length c8)),(12,.v (I (x0.length:Int))),(13,.v (I z.2))],fun z=>.nil,fun z=>[⟨(.int .i64),⟨a3,x0.length,c4⟩,x0⟩,⟨(.int .i64),⟨a7,x1.length,c8⟩,x1⟩],fun z=>[],fun z=>z.1⟩ (bM,0) h (Es E) V [0,1] E [] E ?_
   rintro ⟨n21,x11⟩ h
   obtain ⟨n21,rfl,h⟩:=bH h
   rw [kT] at h
   refine aC aA 1 [(14,.v (.bool (decide (x11<(x0.length:Int)))))] ⟨⟨E,V⟩,E⟩ E E (JS.seq ?_)
   refine aK E h (fun h=>?_) (fun h=>?_)
   ·
    refine JS.skip (JS.seq (JS.block (aC aA 2 [(5,.v (I x11))] ⟨⟨E,V⟩,E⟩ E E (JS.seq ?_))))
    obtain ⟨g13,h⟩:=aH h
    obtain ⟨g15,h⟩:=aH h
    refine cD 0 E fun hs39=>cD 1 E fun hs40=>hZ E (by kernel_rfl) (eT aA 3 [] [(18,.ep ⟨a3,x0.length,c4⟩ (Int.toNat x11*1))] E ⟨hs39.ix g13,⟨E,V⟩⟩ (JQ.load aA E E E E E E E 0 E E (Int.toNat x11) 0 (at' x0 x11) ⟨bD g13,E⟩ E E (eT aA 3 [] [(22,.ep ⟨a7,x1.length,c8⟩ (Int.toNat x11*1))] E ⟨hs40.ix g15,⟨E,V⟩⟩ (JQ.load aA E E E E E E E 1 E E (Int.toNat x11) 0 (at' x1 x11) ⟨bD g15,E⟩ E E (eT aA 1 [] [(24,.v (.bool (!(decide ((at' x0 x11)=(at' x1 x11))))))] E ⟨E,V⟩ (rB E ?_))))))
    refine aK E h (fun h=>?_) (fun h=>?_)
    ·
     refine aC aA 1 [(4,.v (.bool false))] ⟨⟨E,V⟩,E⟩ E E ?_
     cases h
     exact JS.ret aA () V E E [] E
    refine JS.skip (aZ (bZ aA 2 [(W (x11+1))] [] [(13,.v (I (W (x11+1))))] _ ⟨⟨V,E⟩,⟨E,V⟩,E⟩ E E (bQ (n21,(W (x11+1))) h (Nat.lt_succ_self _) (Es E) V [0,1] E [] E)))
   refine JS.exit E (aT () h V V [] E [] E)
  rintro _ h
  subst hj43
  refine aC aA 1 [(4,.v (.bool true))] ⟨⟨E,V⟩,E⟩ E E ?_
  cases h
  exact JS.ret aA () V E E [] E

def rN (x0:List (List Int×Int)) (x1:List Int×Int):Option ((List (List Int×Int))×Bool):=
  (aG (nW x0) fun (y11:Bool)=>
  (bU ((!y11)=false) (dE x1) false fun (y13:Bool)=>
  (bif (bif (!y11) then true else (!y13)) then
  some ([],false)
  else
  (aG (iY x0) fun (y16:List (List Int×Int))=>
  (aN (((decide (0<(y16.length:Int)))=true)→0≤(W ((y16.length:Int) - 1))∧(W ((y16.length:Int) - 1))<(y16.length:Int)) <|
  (bU ((decide (0<(y16.length:Int)))=true) (kU ((at' y16 (W ((y16.length:Int) - 1))).1) x1.1) false fun (y30:Bool)=>
  (bif (bif (decide (0<(y16.length:Int))) then y30 else false) then
  some (y16,true)
  else
  (aG (dK x1) fun (y45:List Int×Int)=>
  (aN (y16.length+([y45]:List (List Int×Int)).length≤536870912) <|
  (aU (fun (x58:List (List Int×Int))=>
  some (x58,true)) fun j61=>
  (bif (decide ((y16.length:Int)=20)) then
  (aN (0≤(1:Int)∧(1:Int)≤((y16 ++ ([y45]:List (List Int×Int))).length:Int)∧((y16 ++ ([y45]:List (List Int×Int))).length:Int)≤((y16 ++ ([y45]:List (List Int×Int))).length:Int)) <|
  j61 (bN (y16 ++ ([y45]:List (List Int×Int))) 1 ((y16 ++ ([y45]:List (List Int×Int))).length:Int)))
  else
  j61 (y16 ++ ([y45]:List (List Int×Int))))))))))))))

theorem aIk (x0:List (List Int×Int)) (x1:List Int×Int) (a3:Option Addr) (c4:Nat) (a7:Option Addr) (c8:Nat) (r:(List (List Int×Int))×Bool) (h:rN x0 x1=some r):
  FC Tryz.prog 182 [.agg #[.slice a3 x0.length c4],.agg #[.slice a7 x1.1.length c8,.int .i64 x1.2]] [⟨(.pair (.sl (.int .i64)) (.int .i64)),⟨a3,x0.length,c4⟩,x0⟩,⟨(.int .i64),⟨a7,x1.1.length,c8⟩,x1.1⟩] (fun _:Option Addr×Nat=>True) (fun q=>.tuple #[.agg #[.slice q.1 r.1.length q.2],.bool r.2]) (fun q=>[⟨(.pair (.sl (.int .i64)) (.int .i64)),⟨q.1,r.1.length,q.2⟩,r.1⟩]):=
 by
  refine FC.of (T:=TTx) Tryz.call182 Tryz.func182 E E fun w0=>?_
  unfold rN at h
  refine aL aA 4 [] [3,4,5] [(2,.bp 3 0),(3,.bp 4 0),(4,.bp 5 0)] (.new 3 44 [.slice a3 x0.length c4] (.new 4 38 [.slice a7 x1.1.length c8,.int .i64 x1.2] (.new 5 44 [.slice none 0 0] .nil))) ⟨(Es E),(Bs E E)⟩ E E (JS.seq (JS.seq (JS.region (aB aA 1 [] [] [(8,.v (.agg #[.slice a3 x0.length c4]))] _ E ⟨⟨E,V⟩,E⟩ ?_))))
  refine bnw h fun y11 hy12 h=>JO.call E E E E (xZ x0 a3 c4 _ hy12) E [0] E E fun _ _=>aB aA 3 [] [] [(11,.v (.bool (!y11))),(12,.cd [(11,false)] (.v (.agg #[.slice a7 x1.1.length c8,.int .i64 x1.2])))] _ E ⟨(Es E),E⟩ ?_
  obtain ⟨y13,hy14,-,h⟩:=aV h
  refine bI E E E E (fun q66=>eO x1 a7 c8 _ (hy14 q66)) E [1] E E (aB aA 2 [] [] [(15,.v (.bool (bif (!y11) then true else (!y13))))] _ E ⟨⟨E,V⟩,E⟩ (aD E ?_))
  refine aK E h (fun h=>?_) (fun h=>?_)
  ·
   refine aL aA 3 [] [] [(5,.v (.bool false))] (.new 5 44 [.slice none 0 0] .nil) ⟨⟨E,V⟩,(Bs E E)⟩ E E ?_
   cases h
   refine aX (.pair (.sl (.int .i64)) (.int .i64)) Sl.nil E E (JS.ret aA (none,0) V E E [0] E)
  refine JS.skip (JS.seq (JS.region (aB aA 1 [] [] [(17,.v (.agg #[.slice a3 x0.length c4]))] _ E ⟨⟨E,V⟩,E⟩ ?_)))
  refine bnw h fun y16 hy17 h=>JO.call E E E E (uX x0 a3 c4 _ hy17) E [0] E E ?_
  rintro ⟨a18,c19⟩ -
  refine aP aA 2 [] [15] [(6,.bp 15 0)] (.new 4 38 [.slice a7 x1.1.length c8,.int .i64 x1.2] (.new 5 44 [.slice none 0 0] (.new 15 44 [.slice a18 y16.length c19] .nil))) E ⟨⟨E,V⟩,(Bs E E)⟩ (aD E (aC aA 4 [(7,.v (I (y16.length:Int)))] ⟨⟨E,V⟩,E⟩ E E (JS.seq (JS.seq ?_))))
  obtain ⟨g22,h⟩:=aH h
  obtain ⟨y30,hy31,-,h⟩:=aV h
  refine vM (id:=0) (uW [0] E (Int.toNat (W ((y16.length:Int) - 1))) (at' y16 (W ((y16.length:Int) - 1))) E ?_)
  intro a25 c26 l27 hl28
  obtain rfl:([.slice a25 ((at' y16 (W ((y16.length:Int) - 1))).1).length c26,.int .i64 (at' y16 (W ((y16.length:Int) - 1))).2]:List Value)=l27:=Option.some.inj hl28
  refine vN (cD 2 E fun hs80=>hZ E (by kernel_rfl) (eT aA 9 [(W ((y16.length:Int) - 1))] [(24,.v (.bool (decide (0<(y16.length:Int))))),(30,.cd [(24,true)] (.ep ⟨a18,y16.length,c19⟩ (Int.toNat (W ((y16.length:Int) - 1))*2)))] E ⟨(fun q79=>⟨V,E⟩),(fun q81=>(hs80.cast (fQ _ _ _)).ix (g22 q81)),(fun q82=>(hs80.cast (fQ _ _ _)).fa (g22 q82)),(Es E)⟩ (wI aA E E E E E E 2 E E (Int.toNat (W ((y16.length:Int) - 1))) 0 (Sum.inr [.slice a25 ((at' y16 (W ((y16.length:Int) - 1))).1).length c26,.int .i64 (at' y16 (W ((y16.length:Int) - 1))).2]) (fun q83=>⟨mQ (bD (g22 q83)),E⟩) E E E (eT aA 2 [] [(33,.cd [(24,true)] (.v (.slice a7 x1.1.length c8)))] E ⟨E,V⟩ (JQ.call E E E E (fun q84=>wV ((at' y16 (W ((y16.length:Int) - 1))).1) x1.1 a25 c26 a7 c8 _ (hy31 q84)) E [3,1] E E (eT aA 1 [] [(35,.v (.bool (bif (decide (0<(y16.length:Int))) then y30 else false)))] E ⟨E,V⟩ (rB E ?_)))))))
  refine vM (id:=0) (aA9 [0,0] E (at' y16 (W ((y16.length:Int) - 1))) E ⟨E,E,E⟩ (vN ?_))
  refine aK E h (fun h=>?_) (fun h=>?_)
  ·
   refine aL aA 3 [] [] [(5,.v (.bool true))] (.new 5 44 [.slice a18 y16.length c19] .nil) ⟨⟨E,V⟩,(Bs E E)⟩ E E ?_
   cases h
   exact JS.ret aA (a18,c19) V E E [0] E
  refine JS.skip (JS.seq ?_)
  obtain ⟨y45,hy46,h⟩:=aE h
  obtain ⟨g50,h⟩:=aH h
  refine bB E (.new 4 38 [.slice a7 x1.1.length c8,.int .i64 x1.2] (.new 15 44 [.slice a18 y16.length c19] .nil)) [] [5,6,7] ⟨E,E,E,E,E,E,E,E,V⟩ E (fun be53=>?_)
  refine bR aA aF true 5 [0,1,2] E (by kernel_rfl) [] [(38,.v (.slice a18 y16.length c19)),(39,.v (.agg #[.slice a7 x1.1.length c8,.int .i64 x1.2]))] ⟨E,E,E,E,E,E,E,E,V⟩ [] E E (Es E) (JA.one 3 (by kernel_rfl) (JK.call E E E E (fG x1 a7 c8 _ hy46) E [1] E E ?_))
  rintro ⟨a47,c48⟩ -
  refine aR ⟨E,E,E,E,E,E,E,E,V⟩ [] E (JA.one 4 (by kernel_rfl) (JK.buildSlice aA E E E E E E E E E E E [0] E (.pair (.sl (.int .i64)) (.int .i64)) [y45] ⟨E,E,E⟩ E E fun a49=>aR ⟨E,E,E,E,E,E,E,E,V⟩ [] E (JA.one 5 (by kernel_rfl) (gS aA E E E E ⟨E,E,E,E,V,E,E,E,E⟩ E E [1,0] E g50 E fun a51 c52=>aM E (aS aA aF 1 [6] E (by kernel_rfl) [] [(43,.bp 15 0)] E ⟨E,V⟩ (JA.one 7 (by kernel_rfl) (aY aA E E E E E E E E (aM E (bE (by kernel_rfl) (aW (B':=(.new 5 44 [.slice none 0 0] (.new 15 44 [.slice a51 (y16 ++ ([y45]:List (List Int×Int))).length c52] .nil))) (Bs E E) ?_))))))))))
  obtain ⟨j61,hj86,h⟩:=aQ h
  refine dM (ι:=(List (List Int×Int))×Option Addr×Nat) ⟨fun z=>j61 z.1=some r,fun z=>[(4,.bp 5 0),(6,.bp 15 0)],fun z=>(.new 5 44 [.slice none 0 0] (.new 15 44 [.slice z.2.1 z.1.length z.2.2] .nil)),fun z=>[],fun z=>[⟨(.pair (.sl (.int .i64)) (.int .i64)),⟨z.2.1,z.1.length,z.2.2⟩,z.1⟩],fun z=>0⟩ ?_ ?_
  ·
   refine aC aA 2 [(45,.v (.bool (decide ((y16.length:Int)=20))))] ⟨⟨E,V⟩,E⟩ E E ?_
   refine aK E h (fun h=>?_) (fun h=>?_)
   ·
    refine JS.region (aB aA 2 [] [] [(47,.v (.slice a51 (y16 ++ ([y45]:List (List Int×Int))).length c52))] _ E ⟨⟨E,V⟩,E⟩ ?_)
    obtain ⟨g54,h⟩:=aH h
    refine xI aA E E E E E E E E [0] E (1:Int) ((y16 ++ ([y45]:List (List Int×Int))).length:Int) E E g54 E fun a55 c56=>aP aA 2 [] [] [] (.new 5 44 [.slice none 0 0] (.new 15 44 [.slice a55 (bN (y16 ++ ([y45]:List (List Int×Int))) 1 ((y16 ++ ([y45]:List (List Int×Int))).length:Int)).length c56] .nil)) E ⟨V,(Bs E E)⟩ (aD E (aT ((bN (y16 ++ ([y45]:List (List Int×Int))) 1 ((y16 ++ ([y45]:List (List Int×Int))).length:Int)),a55,c56) h (Es E) (Bs E E) [] E [0] E))
   refine JS.skip (aT ((y16 ++ ([y45]:List (List Int×Int))),a51,c52) h (Es E) (Bs E E) [] E [0] E)
  rintro ⟨x58,a59,c60⟩ h
  subst hj86
  refine aL aA 3 [] [] [(5,.v (.bool true))] (.new 5 44 [.slice a59 x58.length c60] .nil) ⟨⟨E,V⟩,(Bs E E)⟩ E E ?_
  cases h
  exact JS.ret aA (a59,c60) V E E [0] E

def kS (x0:EdQ):Option EdQ:=
  (aU (fun (x27:Int)=>
  some (x0.1,x0.2.1,(x0.2.2.1.1,x27),x0.2.2.2.1,x0.2.2.2.2.1,x0.2.2.2.2.2.1,x0.2.2.2.2.2.2.1,x0.2.2.2.2.2.2.2.1,x0.2.2.2.2.2.2.2.2.1,x0.2.2.2.2.2.2.2.2.2.1,x0.2.2.2.2.2.2.2.2.2.2.1,x0.2.2.2.2.2.2.2.2.2.2.2.1,x0.2.2.2.2.2.2.2.2.2.2.2.2.1,x0.2.2.2.2.2.2.2.2.2.2.2.2.2.1,x0.2.2.2.2.2.2.2.2.2.2.2.2.2.2.1,x0.2.2.2.2.2.2.2.2.2.2.2.2.2.2.2.1,x0.2.2.2.2.2.2.2.2.2.2.2.2.2.2.2.2)) fun j28=>
  (bif (bif (bif (decide (x0.2.1=2)) then (decide (x0.2.2.1.2=(x0.2.2.1.1.length:Int))) else false) then (decide (0<x0.2.2.1.2)) else false) then
  j28 (W (x0.2.2.1.2 - 1))
  else
  j28 x0.2.2.1.2))

theorem wU (x0:EdQ) (q2:P6) (r:EdQ) (h:kS x0=some r):
  FC Tryz.prog 155 [.agg (cC x0 q2).toArray] (bW x0 q2 []) (fun _:Unit=>True) (fun _=>.agg #[.bool r.1,.int .i64 r.2.1,.slice q2.1 x0.2.2.1.1.length q2.2.1,.int .i64 r.2.2.1.2,.int .i64 r.2.2.2.1,.int .i64 (Q4 r).1,.int .i64 (Q4 r).2.1,.int .i64 (Q4 r).2.2.1,.int .i64 (Q4 r).2.2.2.1,.int .i64 (Q8 r).1,.int .i64 (Q8 r).2.1,.slice q2.2.2.1 (Q8 x0).2.2.1.length q2.2.2.2.1,.slice (Q4 q2).1 (Q8 x0).2.2.2.1.length (Q4 q2).2.1,.int .i64 (Q12 r).1,.slice (Q4 q2).2.2.1 (Q12 x0).2.1.1.length (Q4 q2).2.2.2.1,.int .i64 (Q12 r).2.1.2,.slice (Q8 q2).1 (Q12 x0).2.2.1.length (Q8 q2).2.1,.int .i64 (Q12 r).2.2.2.1,.slice (Q8 q2).2.2.1 (Q16 x0).1.length (Q8 q2).2.2.2,.int .i64 (Q16 r).2]) (fun _=>[]):=
 by
  refine FC.of (T:=TTx) Tryz.call155 Tryz.func155 E E fun w0=>?_
  unfold kS at h
  refine aL aA 2 [] [7,8] [(1,.bp 7 0),(2,.bp 8 0)] (.new 7 46 (aI x0 q2) (.new 8 46 bF .nil)) ⟨(Es E),(Bs E E)⟩ E E ?_
  obtain ⟨j28,hj32,h⟩:=aQ h
  refine dM (ι:=Int) ⟨fun z=>j28 z=some r,fun z=>[(1,.bp 7 0),(2,.bp 8 0)],fun z=>(.new 7 46 (aI (x0.1,x0.2.1,(x0.2.2.1.1,z),x0.2.2.2) q2) (.new 8 46 bF .nil)),fun z=>(bW x0 q2 []),fun z=>[],fun z=>0⟩ ?_ ?_
  ·
   refine aC aA 19 [(21,.v (.bool (bif (bif (decide (x0.2.1=2)) then (decide (x0.2.2.1.2=(x0.2.2.1.1.length:Int))) else false) then (decide (0<x0.2.2.1.2)) else false)))] ⟨⟨E,V⟩,E⟩ E E ?_
   refine aK E h (fun h=>?_) (fun h=>?_)
   ·
    refine aC0 aA 7 [(W (x0.2.2.1.2 - 1))] [] [] (.new 7 46 (aI (x0.1,x0.2.1,(x0.2.2.1.1,(W (x0.2.2.1.2 - 1))),x0.2.2.2) q2) (.new 8 46 bF .nil)) ⟨⟨V,E⟩,V,(Bs E E)⟩ E E (aT (W (x0.2.2.1.2 - 1)) h (Es E) (Bs E E) [0,1,2,3,4,5] E [] E)
   refine JS.skip (aT x0.2.2.1.2 h (Es E) (Bs E E) [0,1,2,3,4,5] E [] E)
  rintro x27 h
  subst hj32
  refine aL aA 2 [] [] [] (.new 8 46 (aI (x0.1,x0.2.1,(x0.2.2.1.1,x27),x0.2.2.2) q2) .nil) ⟨V,(Bs E E)⟩ E E ?_
  cases h
  exact JS.ret aA () V E E [] E

def sY (x0:EdQ) (x1:List Int×Int) (x2:Int):Option (EdQ×Bool):=
  (aG (pJ x0) fun (y32:Bool)=>
  (bU ((!y32)=false) (dE x1) false fun (y34:Bool)=>
  (bif (bif (bif (bif (!y32) then true else (!y34)) then true else (decide (x2<0))) then true else (decide (3<x2))) then
  some ((false,0,([],0),0,0,0,0,0,0,0,[],[],0,([],0),[],0,([],0)),false)
  else
  (aG (cH x0) fun (y37:EdQ)=>
  (aG (eQ y37) fun (y51:EdQ)=>
  (aU (fun (x61:List (List Int×Int))=>
  (aG (dK x1) fun (y66:List Int×Int)=>
  (aG (kS (y51.1,y51.2.1,y66,y51.2.2.2.1,y51.2.2.2.2.1,y51.2.2.2.2.2.1,y51.2.2.2.2.2.2.1,y51.2.2.2.2.2.2.2.1,y51.2.2.2.2.2.2.2.2.1,x2,y37.2.2.2.2.2.2.2.2.2.2.1,x61,y51.2.2.2.2.2.2.2.2.2.2.2.2.1,(y37.2.2.2.2.2.2.2.2.2.2.2.2.2.1.1,y51.2.2.2.2.2.2.2.2.2.2.2.2.2.1.2),y37.2.2.2.2.2.2.2.2.2.2.2.2.2.2.1,y51.2.2.2.2.2.2.2.2.2.2.2.2.2.2.2.1,(y37.2.2.2.2.2.2.2.2.2.2.2.2.2.2.2.2.1,y51.2.2.2.2.2.2.2.2.2.2.2.2.2.2.2.2.2))) fun (y70:EdQ)=>
  some ((y70.1,y70.2.1,(y66.1,y70.2.2.1.2),y70.2.2.2.1,y70.2.2.2.2.1,y70.2.2.2.2.2.1,y70.2.2.2.2.2.2.1,y70.2.2.2.2.2.2.2.1,y70.2.2.2.2.2.2.2.2.1,y70.2.2.2.2.2.2.2.2.2.1,y37.2.2.2.2.2.2.2.2.2.2.1,x61,y70.2.2.2.2.2.2.2.2.2.2.2.2.1,(y37.2.2.2.2.2.2.2.2.2.2.2.2.2.1.1,y70.2.2.2.2.2.2.2.2.2.2.2.2.2.1.2),y37.2.2.2.2.2.2.2.2.2.2.2.2.2.2.1,y70.2.2.2.2.2.2.2.2.2.2.2.2.2.2.2.1,(y37.2.2.2.2.2.2.2.2.2.2.2.2.2.2.2.2.1,y70.2.2.2.2.2.2.2.2.2.2.2.2.2.2.2.2.2)),true)))) fun j64=>
  (aG (kU x0.2.2.1.1 x1.1) fun (y53:Bool)=>
  (bif (bif (!y53) then (!(bif (decide (x2=1)) then (decide (x0.2.2.2.2.2.2.2.2.2.1=1)) else false)) else false) then
  (aG (rN y37.2.2.2.2.2.2.2.2.2.2.2.1 x0.2.2.1) fun (y55,y56)=>
  j64 y55)
  else
  j64 y37.2.2.2.2.2.2.2.2.2.2.2.1))))))))

theorem aM8 (x0:EdQ) (x1:List Int×Int) (x2:Int) (q4:P6) (a28:Option Addr) (c29:Nat) (r:EdQ×Bool) (h:sY x0 x1 x2=some r):
  FC Tryz.prog 254 [.agg (cC x0 q4).toArray,.agg #[.slice a28 x1.1.length c29,.int .i64 x1.2],.int .i64 x2] (bW x0 q4 [⟨(.int .i64),⟨a28,x1.1.length,c29⟩,x1.1⟩]) (fun _:P6=>True) (fun q=>.tuple #[.agg (aI r.1 q).toArray,.bool r.2]) (fun q=>(bW r.1 q [])):=
 by
  refine FC.of (T:=TTx) Tryz.call254 Tryz.func254 E E fun w0=>?_
  unfold sY at h
  refine aL aA 4 [] [8,9,10] [(3,.bp 8 0),(4,.bp 9 0),(6,.bp 10 0)] (.new 8 46 (aI x0 q4) (.new 9 38 [.slice a28 x1.1.length c29,.int .i64 x1.2] (.new 10 46 bF .nil))) ⟨(Es E),(Bs E E)⟩ E E (JS.seq (JS.seq (JS.region (aB aA 1 [] [] [(9,.v (.agg (aI x0 q4).toArray))] _ E ⟨⟨E,V⟩,E⟩ ?_))))
  refine bnw h fun y32 hy33 h=>JO.call E E E E (zP x0 q4 _ hy33) E [0,1,2,3,4,5] E E fun _ _=>aB aA 3 [] [] [(12,.v (.bool (!y32))),(13,.cd [(12,false)] (.v (.agg #[.slice a28 x1.1.length c29,.int .i64 x1.2])))] _ E ⟨(Es E),E⟩ ?_
  obtain ⟨y34,hy35,-,h⟩:=aV h
  refine bI E E E E (fun q74=>eO x1 a28 c29 _ (hy35 q74)) E [6] E E (aB aA 10 [] [] [(24,.v (.bool (bif (bif (bif (!y32) then true else (!y34)) then true else (decide (x2<0))) then true else (decide (3<x2)))))] _ E ⟨⟨E,V⟩,E⟩ (aD E ?_))
  refine aK E h (fun h=>?_) (fun h=>?_)
  ·
   refine aL aA 3 [] [] [(7,.v (.bool false))] (.new 10 46 bF .nil) ⟨⟨E,V⟩,(Bs E E)⟩ E E ?_
   cases h
   refine aX (.int .i64) Sl.nil E E (aX (.sl (.int .i64)) Sl.nil E E (aX (.pair (.sl (.int .i64)) (.int .i64)) Sl.nil E E (aX (.int .i64) Sl.nil E E (aX (.int .i64) Sl.nil E E (aX (.int .i64) Sl.nil E E (JS.ret aA (none,0,none,0,none,0,none,0,none,0,none,0) V E E [5,4,3,2,1,0] E))))))
  refine JS.skip (JS.seq (JS.region (aB aA 1 [] [] [(26,.v (.agg (aI x0 q4).toArray))] _ E ⟨⟨E,V⟩,E⟩ ?_)))
  refine bnw h fun y37 hy38 h=>JO.call E E E E (dU x0 q4 _ hy38) E [0,1,2,3,4,5] E E fun q39 _=>bnw h fun y51 hy52 h=>JO.call E E E E (oS y37 q39 _ hy52) E [7,8,9,10,11,12] E E fun _ _=>aP aA 2 [] [37] [(8,.bp 37 0)] (.new 8 46 (aI x0 q4) (.new 9 38 [.slice a28 x1.1.length c29,.int .i64 x1.2] (.new 10 46 bF (.new 37 46 (aI (y51.1,y51.2.1,(y37.2.2.1.1,y51.2.2.1.2),y51.2.2.2.1,(Q4 y51).1,(Q4 y51).2.1,(Q4 y51).2.2.1,(Q4 y51).2.2.2.1,(Q8 y51).1,(Q8 y51).2.1,(Q8 y37).2.2.1,(Q8 y37).2.2.2.1,(Q12 y51).1,((Q12 y37).2.1.1,(Q12 y51).2.1.2),(Q12 y37).2.2.1,(Q12 y51).2.2.2.1,((Q16 y37).1,(Q16 y51).2)) q39) .nil)))) E ⟨⟨E,V⟩,(Bs E E)⟩ (aD E ?_)
  obtain ⟨j64,hj76,h⟩:=aQ h
  refine dM (ι:=(List (List Int×Int))×Option Addr×Nat) ⟨fun z=>j64 z.1=some r,fun z=>[(2,.v (I x2)),(4,.bp 9 0),(6,.bp 10 0),(8,.bp 37 0)],fun z=>(.new 9 38 [.slice a28 x1.1.length c29,.int .i64 x1.2] (.new 10 46 bF (.new 37 46 (aI (y51.1,y51.2.1,(y37.2.2.1.1,y51.2.2.1.2),y51.2.2.2.1,(Q4 y51).1,(Q4 y51).2.1,(Q4 y51).2.2.1,(Q4 y51).2.2.2.1,(Q8 y51).1,(Q8 y51).2.1,(Q8 y37).2.2.1,z.1,(Q12 y51).1,((Q12 y37).2.1.1,(Q12 y51).2.1.2),(Q12 y37).2.2.1,(Q12 y51).2.2.2.1,((Q16 y37).1,(Q16 y51).2)) (q39.1,q39.2.1,q39.2.2.1,q39.2.2.2.1,z.2.1,z.2.2,(Q4 q39).2.2)) .nil))),fun z=>[⟨(.int .i64),⟨a28,x1.1.length,c29⟩,x1.1⟩],fun z=>[⟨(.pair (.sl (.int .i64)) (.int .i64)),⟨z.2.1,z.1.length,z.2.2⟩,z.1⟩,⟨(.int .i64),⟨q39.1,y37.2.2.1.1.length,q39.2.1⟩,y37.2.2.1.1⟩,⟨(.sl (.int .i64)),⟨q39.2.2.1,(Q8 y37).2.2.1.length,q39.2.2.2.1⟩,(Q8 y37).2.2.1⟩,⟨(.int .i64),⟨(Q4 q39).2.2.1,(Q12 y37).2.1.1.length,(Q4 q39).2.2.2.1⟩,(Q12 y37).2.1.1⟩,⟨(.int .i64),⟨(Q8 q39).1,(Q12 y37).2.2.1.length,(Q8 q39).2.1⟩,(Q12 y37).2.2.1⟩,⟨(.int .i64),⟨(Q8 q39).2.2.1,(Q16 y37).1.length,(Q8 q39).2.2.2⟩,(Q16 y37).1⟩],fun z=>0⟩ ?_ ?_
  ·
   refine JS.seq (JS.region (aB aA 5 [] [] [(31,.v (.slice q4.1 x0.2.2.1.1.length q4.2.1)),(33,.v (.slice a28 x1.1.length c29))] _ E ⟨(Es E),E⟩ ?_))
   refine bnw h fun y53 hy54 h=>JO.call E E E E (wV x0.2.2.1.1 x1.1 q4.1 q4.2.1 a28 c29 _ hy54) E [0,6] E E fun _ _=>aB aA 11 [] [] [(45,.v (.bool (bif (!y53) then (!(bif (decide (x2=1)) then (decide ((Q8 x0).2.1=1)) else false)) else false)))] _ E ⟨⟨E,V⟩,E⟩ (aD E ?_)
   refine aK E h (fun h=>?_) (fun h=>?_)
   ·
    refine JS.region (aB aA 4 [] [] [(48,.v (.agg #[.slice (Q4 q39).1 (Q8 y37).2.2.2.1.length (Q4 q39).2.1])),(50,.v (.agg #[.slice q4.1 x0.2.2.1.1.length q4.2.1,.int .i64 x0.2.2.1.2]))] _ E ⟨(Es E),E⟩ ?_)
    obtain ⟨⟨y55,y56⟩,hy57,h⟩:=aE h
    refine JO.call E E E E (aIk (Q8 y37).2.2.2.1 x0.2.2.1 (Q4 q39).1 (Q4 q39).2.1 q4.1 q4.2.1 _ hy57) E [9,0] E E ?_
    rintro ⟨a58,c59⟩ -
    refine aP aA 5 [] [] [] (.new 9 38 [.slice a28 x1.1.length c29,.int .i64 x1.2] (.new 10 46 bF (.new 37 46 (aI (y51.1,y51.2.1,(y37.2.2.1.1,y51.2.2.1.2),y51.2.2.2.1,(Q4 y51).1,(Q4 y51).2.1,(Q4 y51).2.2.1,(Q4 y51).2.2.2.1,(Q8 y51).1,(Q8 y51).2.1,(Q8 y37).2.2.1,y55,(Q12 y51).1,((Q12 y37).2.1.1,(Q12 y51).2.1.2),(Q12 y37).2.2.1,(Q12 y51).2.2.2.1,((Q16 y37).1,(Q16 y51).2)) (q39.1,q39.2.1,q39.2.2.1,q39.2.2.2.1,a58,c59,(Q4 q39).2.2)) .nil))) E ⟨V,(Bs E E)⟩ (aD E (bV (y55,a58,c59) h (Es E) (Bs E E) [6] E [0,1,2,4,5,6] E E))
   refine JS.skip (bV ((Q8 y37).2.2.2.1,(Q4 q39).1,(Q4 q39).2.1) h (Es E) (Bs E E) [6] E [2,0,1,3,4,5] E E)
  rintro ⟨x61,a62,c63⟩ h
  subst hj76
  refine JS.seq (JS.region (aB aA 1 [] [] [(55,.v (.agg #[.slice a28 x1.1.length c29,.int .i64 x1.2]))] _ E ⟨⟨E,V⟩,E⟩ ?_))
  refine bnw h fun y66 hy67 h=>JO.call E E E E (fG x1 a28 c29 _ hy67) E [0] E E ?_
  rintro ⟨a68,c69⟩ -
  refine aP aA 2 [] [] [] (.new 10 46 bF (.new 37 46 (aI (y51.1,y51.2.1,y66,y51.2.2.2.1,(Q4 y51).1,(Q4 y51).2.1,(Q4 y51).2.2.1,(Q4 y51).2.2.2.1,(Q8 y51).1,(Q8 y51).2.1,(Q8 y37).2.2.1,x61,(Q12 y51).1,((Q12 y37).2.1.1,(Q12 y51).2.1.2),(Q12 y37).2.2.1,(Q12 y51).2.2.2.1,((Q16 y37).1,(Q16 y51).2)) (a68,c69,q39.2.2.1,q39.2.2.2.1,a62,c63,(Q4 q39).2.2)) .nil)) E ⟨V,(Bs E E)⟩ (aD E (aL aA 3 [] [] [] (.new 10 46 bF (.new 37 46 (aI (y51.1,y51.2.1,y66,y51.2.2.2.1,(Q4 y51).1,(Q4 y51).2.1,(Q4 y51).2.2.1,(Q4 y51).2.2.2.1,(Q8 y51).1,x2,(Q8 y37).2.2.1,x61,(Q12 y51).1,((Q12 y37).2.1.1,(Q12 y51).2.1.2),(Q12 y37).2.2.1,(Q12 y51).2.2.2.1,((Q16 y37).1,(Q16 y51).2)) (a68,c69,q39.2.2.1,q39.2.2.2.1,a62,c63,(Q4 q39).2.2)) .nil)) ⟨V,(Bs E E)⟩ E E (JS.seq (JS.region (aB aA 1 [] [] [(60,.v (.agg (aI (y51.1,y51.2.1,y66,y51.2.2.2.1,(Q4 y51).1,(Q4 y51).2.1,(Q4 y51).2.2.1,(Q4 y51).2.2.2.1,(Q8 y51).1,x2,(Q8 y37).2.2.1,x61,(Q12 y51).1,((Q12 y37).2.1.1,(Q12 y51).2.1.2),(Q12 y37).2.2.1,(Q12 y51).2.2.2.1,((Q16 y37).1,(Q16 y51).2)) (a68,c69,q39.2.2.1,q39.2.2.2.1,a62,c63,(Q4 q39).2.2)).toArray))] _ E ⟨⟨E,V⟩,E⟩ ?_)))))
  refine bnw h fun y70 hy71 h=>JO.call E E E E (wU (y51.1,y51.2.1,y66,y51.2.2.2.1,(Q4 y51).1,(Q4 y51).2.1,(Q4 y51).2.2.1,(Q4 y51).2.2.2.1,(Q8 y51).1,x2,(Q8 y37).2.2.1,x61,(Q12 y51).1,((Q12 y37).2.1.1,(Q12 y51).2.1.2),(Q12 y37).2.2.1,(Q12 y51).2.2.2.1,((Q16 y37).1,(Q16 y51).2)) (a68,c69,q39.2.2.1,q39.2.2.2.1,a62,c63,(Q4 q39).2.2) _ hy71) E [1,4,2,5,6,7] E E fun _ _=>aP aA 2 [] [] [(7,.v (.bool true))] (.new 10 46 (aI (y70.1,y70.2.1,(y66.1,y70.2.2.1.2),y70.2.2.2.1,(Q4 y70).1,(Q4 y70).2.1,(Q4 y70).2.2.1,(Q4 y70).2.2.2.1,(Q8 y70).1,(Q8 y70).2.1,(Q8 y37).2.2.1,x61,(Q12 y70).1,((Q12 y37).2.1.1,(Q12 y70).2.1.2),(Q12 y37).2.2.1,(Q12 y70).2.2.2.1,((Q16 y37).1,(Q16 y70).2)) (a68,c69,q39.2.2.1,q39.2.2.2.1,a62,c63,(Q4 q39).2.2)) .nil) E ⟨⟨E,V⟩,(Bs E E)⟩ (aD E ?_)
  cases h
  exact JS.ret aA (a68,c69,q39.2.2.1,q39.2.2.2.1,a62,c63,(Q4 q39).2.2) V E E [0,2,0,1,1,1] E

def dG (x0:EdQ):Option (EdQ×Int):=
  (aG (cH x0) fun (y26:EdQ)=>
  (aG (eQ y26) fun (y40:EdQ)=>
  some ((y40.1,y40.2.1,(y26.2.2.1.1,y40.2.2.1.2),y40.2.2.2.1,y40.2.2.2.2.1,y40.2.2.2.2.2.1,y40.2.2.2.2.2.2.1,y40.2.2.2.2.2.2.2.1,y40.2.2.2.2.2.2.2.2.1,0,y26.2.2.2.2.2.2.2.2.2.2.1,y26.2.2.2.2.2.2.2.2.2.2.2.1,y40.2.2.2.2.2.2.2.2.2.2.2.2.1,(y26.2.2.2.2.2.2.2.2.2.2.2.2.2.1.1,y40.2.2.2.2.2.2.2.2.2.2.2.2.2.1.2),y26.2.2.2.2.2.2.2.2.2.2.2.2.2.2.1,y40.2.2.2.2.2.2.2.2.2.2.2.2.2.2.2.1,(y26.2.2.2.2.2.2.2.2.2.2.2.2.2.2.2.2.1,y40.2.2.2.2.2.2.2.2.2.2.2.2.2.2.2.2.2)),1)))

theorem fF (x0:EdQ) (q2:P6) (r:EdQ×Int) (h:dG x0=some r):
  FC Tryz.prog 112 [.agg (cC x0 q2).toArray] (bW x0 q2 []) (fun _:P6=>True) (fun q=>.tuple #[.agg (aI r.1 q).toArray,.int .i64 r.2]) (fun q=>(bW r.1 q [])):=
 by
  refine FC.of (T:=TTx) Tryz.call112 Tryz.func112 E E fun w0=>?_
  unfold dG at h
  refine aL aA 3 [] [7,8] [(1,.bp 7 0),(2,.bp 8 0)] (.new 7 46 (aI x0 q2) (.new 8 46 bF .nil)) ⟨(Es E),(Bs E E)⟩ E E (JS.seq (JS.region (aB aA 1 [] [] [(5,.v (.agg (aI x0 q2).toArray))] _ E ⟨⟨E,V⟩,E⟩ ?_)))
  refine bnw h fun y26 hy27 h=>JO.call E E E E (dU x0 q2 _ hy27) E [0,1,2,3,4,5] E E fun q28 _=>bnw h fun y40 hy41 h=>JO.call E E E E (oS y26 q28 _ hy41) E [6,7,8,9,10,11] E E fun _ _=>aP aA 2 [] [31] [(4,.bp 31 0)] (.new 8 46 bF (.new 31 46 (aI (y40.1,y40.2.1,(y26.2.2.1.1,y40.2.2.1.2),y40.2.2.2.1,(Q4 y40).1,(Q4 y40).2.1,(Q4 y40).2.2.1,(Q4 y40).2.2.2.1,(Q8 y40).1,(Q8 y40).2.1,(Q8 y26).2.2.1,(Q8 y26).2.2.2.1,(Q12 y40).1,((Q12 y26).2.1.1,(Q12 y40).2.1.2),(Q12 y26).2.2.1,(Q12 y40).2.2.2.1,((Q16 y26).1,(Q16 y40).2)) q28) .nil)) E ⟨⟨E,V⟩,(Bs E E)⟩ (aD E (aL aA 2 [] [] [] (.new 8 46 bF (.new 31 46 (aI (y40.1,y40.2.1,(y26.2.2.1.1,y40.2.2.1.2),y40.2.2.2.1,(Q4 y40).1,(Q4 y40).2.1,(Q4 y40).2.2.1,(Q4 y40).2.2.2.1,(Q8 y40).1,0,(Q8 y26).2.2.1,(Q8 y26).2.2.2.1,(Q12 y40).1,((Q12 y26).2.1.1,(Q12 y40).2.1.2),(Q12 y26).2.2.1,(Q12 y40).2.2.2.1,((Q16 y26).1,(Q16 y40).2)) q28) .nil)) ⟨V,(Bs E E)⟩ E E (aL aA 3 [] [] [(3,.v (I 1))] (.new 8 46 (aI (y40.1,y40.2.1,(y26.2.2.1.1,y40.2.2.1.2),y40.2.2.2.1,(Q4 y40).1,(Q4 y40).2.1,(Q4 y40).2.2.1,(Q4 y40).2.2.2.1,(Q8 y40).1,0,(Q8 y26).2.2.1,(Q8 y26).2.2.2.1,(Q12 y40).1,((Q12 y26).2.1.1,(Q12 y40).2.1.2),(Q12 y26).2.2.1,(Q12 y40).2.2.2.1,((Q16 y26).1,(Q16 y40).2)) q28) .nil) ⟨⟨E,V⟩,(Bs E E)⟩ E E ?_)))
  cases h
  exact JS.ret aA q28 V E E [0,0,0,0,0,0] E

def dX (x0:EdQ) (x1:List Int×Int) (x2:Bool) (x3:Int):Option (EdQ×Int):=
  (aG (sY x0 x1 x3) fun (y33,y34)=>
  (bif (bif (!x2) then true else (!y34)) then
  (aG (dG x0) fun (y48,y49)=>
  some (y48,y49))
  else
  some (y33,0)))

theorem kK (x0:EdQ) (x1:List Int×Int) (x2:Bool) (x3:Int) (q5:P6) (a29:Option Addr) (c30:Nat) (r:EdQ×Int) (h:dX x0 x1 x2 x3=some r):
  FC Tryz.prog 187 [.agg (cC x0 q5).toArray,.agg #[.slice a29 x1.1.length c30,.int .i64 x1.2],.bool x2,.int .i64 x3] (bW x0 q5 [⟨(.int .i64),⟨a29,x1.1.length,c30⟩,x1.1⟩]) (fun _:P6=>True) (fun q=>.tuple #[.agg (aI r.1 q).toArray,.int .i64 r.2]) (fun q=>(bW r.1 q [])):=
 by
  refine FC.of (T:=TTx) Tryz.call187 Tryz.func187 E E fun w0=>?_
  unfold dX at h
  refine aL aA 4 [] [8,9,10] [(4,.bp 8 0),(5,.bp 9 0),(8,.bp 10 0)] (.new 8 46 (aI x0 q5) (.new 9 38 [.slice a29 x1.1.length c30,.int .i64 x1.2] (.new 10 46 bF .nil))) ⟨(Es E),(Bs E E)⟩ E E (JS.seq (JS.region (aB aA 3 [] [] [(13,.v (.agg (aI x0 q5).toArray)),(14,.v (.agg #[.slice a29 x1.1.length c30,.int .i64 x1.2])),(15,.v (I x3))] _ E ⟨(Es E),E⟩ ?_)))
  obtain ⟨⟨y33,y34⟩,hy35,h⟩:=aE h
  refine JO.call E E E E (aM8 x0 x1 x3 q5 a29 c30 _ hy35) E [0,1,2,3,4,5,6] E E fun q36 _=>aP aA 6 [] [32] [(10,.bp 32 0),(11,.v (.bool y34))] (.new 8 46 (aI x0 q5) (.new 10 46 bF (.new 32 46 (aI y33 q36) .nil))) E ⟨(Es E),(Bs E E)⟩ (aD E (JS.seq (aC aA 6 [(24,.v (.bool (bif (!x2) then true else (!y34))))] ⟨⟨E,V⟩,E⟩ E E ?_)))
  refine aK E h (fun h=>?_) (fun h=>?_)
  ·
   refine JS.seq (JS.region (aB aA 1 [] [] [(25,.v (.agg (aI x0 q5).toArray))] _ E ⟨⟨E,V⟩,E⟩ ?_))
   obtain ⟨⟨y48,y49⟩,hy50,h⟩:=aE h
   refine JO.call E E E E (fF x0 q5 _ hy50) E [0,1,2,3,4,5] E E fun q51 _=>aP aA 4 [] [] [(9,.v (I y49))] (.new 10 46 (aI y48 q51) .nil) E ⟨⟨E,V⟩,(Bs E E)⟩ (aD E ?_)
   cases h
   exact JS.ret aA q51 V E E [0,0,0,0,0,0] E
  refine JS.skip (aL aA 3 [] [] [(9,.v (I 0))] (.new 10 46 (aI y33 q36) .nil) ⟨⟨E,V⟩,(Bs E E)⟩ E E ?_)
  cases h
  exact JS.ret aA q36 V E E [0,0,0,0,0,0] E

def rP (x0:List (List Int)) (x1:List Int) (x2:Int):Option (List (List Int)×Bool):=
  (aG (kZ x0) fun (y12:Bool)=>
  (bU ((bif (bif (!y12) then true else (decide (x2<0))) then true else (decide (2<x2)))=false) (gG x1) false fun (y14:Bool)=>
  (bif (bif (bif (bif (!y12) then true else (decide (x2<0))) then true else (decide (2<x2))) then true else (!y14)) then
  some ([],false)
  else
  (aG (kW x0) fun (y17:List (List Int))=>
  (bif (decide ((x1.length:Int)=0)) then
  some (y17,true)
  else
  (aN (((bif (!(decide (x2=0))) then (decide (0<(x0.length:Int))) else false)=true)→0≤(0:Int)∧0<(x0.length:Int)) <|
  (bif (bif (bif (!(decide (x2=0))) then (decide (0<(x0.length:Int))) else false) then (decide ((W (((at' x0 0).length:Int)+(x1.length:Int)))≤400)) else false) then
  (aN (0≤(0:Int)∧0<(x0.length:Int)) <|
  (aG (cW (at' x0 0) x1 ([]:List Int)) fun (y33:List Int)=>
  (aU (fun (x43:List Int)=>
  (aN (0≤(0:Int)∧0<(y17.length:Int)) <|
  some ((List.set y17 (Int.toNat 0) x43),true))) fun j46=>
  (bif (decide (x2=2)) then
  (aN (0≤(0:Int)∧0<(x0.length:Int)) <|
  (aG (cW x1 (at' x0 0) ([]:List Int)) fun (y38:List Int)=>
  j46 y38))
  else
  j46 y33))))
  else
  (aN (([]:List Int).length+x1.length≤536870912) <|
  (aN (([(([]:List Int) ++ x1)]:List (List Int)).length+y17.length≤536870912) <|
  (aU (fun (x64:List (List Int))=>
  some (x64,true)) fun j67=>
  (bif (decide (6<((([(([]:List Int) ++ x1)]:List (List Int)) ++ y17).length:Int))) then
  (aN (0≤(0:Int)∧(0:Int)≤(6:Int)∧(6:Int)≤((([(([]:List Int) ++ x1)]:List (List Int)) ++ y17).length:Int)) <|
  j67 (bN (([(([]:List Int) ++ x1)]:List (List Int)) ++ y17) 0 (6:Int)))
  else
  j67 (([(([]:List Int) ++ x1)]:List (List Int)) ++ y17))))))))))))

theorem aIm (x0:List (List Int)) (x1:List Int) (x2:Int) (a4:Option Addr) (c5:Nat) (a8:Option Addr) (c9:Nat) (r:List (List Int)×Bool) (h:rP x0 x1 x2=some r):
  FC Tryz.prog 174 [.agg #[.slice a4 x0.length c5],.slice a8 x1.length c9,.int .i64 x2] [⟨(.sl (.int .i64)),⟨a4,x0.length,c5⟩,x0⟩,⟨(.int .i64),⟨a8,x1.length,c9⟩,x1⟩] (fun _:Option Addr×Nat=>True) (fun q=>.tuple #[.agg #[.slice q.1 r.1.length q.2],.bool r.2]) (fun q=>[⟨(.sl (.int .i64)),⟨q.1,r.1.length,q.2⟩,r.1⟩]):=
 by
  refine FC.of (T:=TTx) Tryz.call174 Tryz.func174 E E fun w0=>?_
  unfold rP at h
  refine aL aA 3 [] [3,4] [(3,.bp 3 0),(6,.bp 4 0)] (.new 3 41 [.slice a4 x0.length c5] (.new 4 41 [.slice none 0 0] .nil)) ⟨(Es E),(Bs E E)⟩ E E (JS.seq (JS.seq (JS.region (aB aA 1 [] [] [(11,.v (.agg #[.slice a4 x0.length c5]))] _ E ⟨⟨E,V⟩,E⟩ ?_))))
  refine bnw h fun y12 hy13 h=>JO.call E E E E (uJ x0 a4 c5 _ hy13) E [0] E E fun _ _=>aB aA 11 [] [] [(22,.v (.bool (bif (bif (!y12) then true else (decide (x2<0))) then true else (decide (2<x2))))),(23,.cd [(22,false)] (.v (.slice a8 x1.length c9)))] _ E ⟨(Es E),E⟩ ?_
  obtain ⟨y14,hy15,-,h⟩:=aV h
  refine bI E E E E (fun q73=>aAf x1 a8 c9 _ (hy15 q73)) E [1] E E (aB aA 2 [] [] [(26,.v (.bool (bif (bif (bif (!y12) then true else (decide (x2<0))) then true else (decide (2<x2))) then true else (!y14))))] _ E ⟨⟨E,V⟩,E⟩ (aD E ?_))
  refine aK E h (fun h=>?_) (fun h=>?_)
  ·
   refine aL aA 3 [] [] [(7,.v (.bool false))] (.new 4 41 [.slice none 0 0] .nil) ⟨⟨E,V⟩,(Bs E E)⟩ E E ?_
   cases h
   refine aX (.sl (.int .i64)) Sl.nil E E (JS.ret aA (none,0) V E E [0] E)
  refine JS.skip (JS.seq (JS.region (aB aA 1 [] [] [(28,.v (.agg #[.slice a4 x0.length c5]))] _ E ⟨⟨E,V⟩,E⟩ ?_)))
  refine bnw h fun y17 hy18 h=>JO.call E E E E (wW x0 a4 c5 _ hy18) E [0] E E ?_
  rintro ⟨a19,c20⟩ -
  refine aP aA 2 [] [14] [(8,.bp 14 0)] (.new 3 41 [.slice a4 x0.length c5] (.new 4 41 [.slice none 0 0] (.new 14 41 [.slice a19 y17.length c20] .nil))) E ⟨⟨E,V⟩,(Bs E E)⟩ (aD E (JS.seq (aC aA 3 [(32,.v (.bool (decide ((x1.length:Int)=0))))] ⟨⟨E,V⟩,E⟩ E E ?_)))
  refine aK E h (fun h=>?_) (fun h=>?_)
  ·
   refine aL aA 3 [] [] [(7,.v (.bool true))] (.new 4 41 [.slice a19 y17.length c20] .nil) ⟨⟨E,V⟩,(Bs E E)⟩ E E ?_
   cases h
   exact JS.ret aA (a19,c20) V E E [0] E
  refine JS.skip (JS.seq (JS.seq (JS.region (bJ 0 E fun hs74=>?_))))
  obtain ⟨g22,h⟩:=aH h
  refine aB aA 13 [] [] [(42,.v (.bool (bif (!(decide (x2=0))) then (decide (0<(x0.length:Int))) else false))),(46,.cd [(42,true)] (.ep ⟨a4,x0.length,c5⟩ (Int.toNat 0*1)))] _ E ⟨(fun q75=>hs74.ix (g22 q75)),(fun q76=>hs74.fa (g22 q76)),(Es E),E⟩ (eU 0 E (Int.toNat 0) (at' x0 0) E fun a25 c26 ys27 hl28 hy29=>cP aA E E E E E E 0 E E (Int.toNat 0) 0 (Sl.v ⟨a25,(at' x0 0).length,c26⟩) (fun q77=>⟨hy29 (kG (g22 q77)),E⟩) E E E (aB aA 6 [(W (((at' x0 0).length:Int)+(x1.length:Int)))] [] [(53,.v (.bool (bif (bif (!(decide (x2=0))) then (decide (0<(x0.length:Int))) else false) then (decide ((W (((at' x0 0).length:Int)+(x1.length:Int)))≤400)) else false)))] _ E ⟨(fun q78=>⟨V,E⟩),⟨E,V⟩,E⟩ (aD E ?_)))
  refine aK E h (fun h=>?_) (fun h=>?_)
  ·
   refine JS.seq (JS.region ?_)
   obtain ⟨g32,h⟩:=aH h
   refine aB aA 4 [] [] [(57,.ep ⟨a4,x0.length,c5⟩ (Int.toNat 0*1))] _ E ⟨hs74.ix g32,hs74.fa g32,⟨E,V⟩,E⟩ (cP aA E E E E E E 0 E E (Int.toNat 0) 0 (Sl.v ⟨a25,(at' x0 0).length,c26⟩) ⟨hy29 (kG g32),E⟩ E E E (aB aA 1 [] [] [(59,.v (.slice a8 x1.length c9))] _ E ⟨⟨E,V⟩,E⟩ ?_))
   refine bnw h fun y33 hy34 h=>zU (.int .i64) Sl.nil E E (JO.call E E E E (fH (at' x0 0) x1 ([]:List Int) a25 c26 a8 c9 none 0 _ hy34) E [2,4,0] E E ?_)
   rintro ⟨a35,c36⟩ -
   refine aB aA 1 [] [] [(9,.v (.slice a35 y33.length c36))] _ E ⟨⟨E,V⟩,E⟩ (aD E ?_)
   obtain ⟨j46,hj81,h⟩:=aQ h
   refine dM (ι:=List Int×Option Addr×Nat) ⟨fun z=>j46 z.1=some r,fun z=>[(6,.bp 4 0),(8,.bp 14 0),(9,.v (.slice z.2.1 z.1.length z.2.2))],fun z=>(.new 4 41 [.slice none 0 0] (.new 14 41 [.slice a19 y17.length c20] .nil)),fun z=>[],fun z=>[⟨(.int .i64),⟨z.2.1,z.1.length,z.2.2⟩,z.1⟩,⟨(.sl (.int .i64)),⟨a19,y17.length,c20⟩,y17⟩],fun z=>0⟩ ?_ ?_
   ·
    refine aC aA 2 [(62,.v (.bool (decide (x2=2))))] ⟨⟨E,V⟩,E⟩ E E ?_
    refine aK E h (fun h=>?_) (fun h=>?_)
    ·
     refine JS.region ?_
     obtain ⟨g37,h⟩:=aH h
     refine aB aA 5 [] [] [(63,.v (.slice a8 x1.length c9)),(67,.ep ⟨a4,x0.length,c5⟩ (Int.toNat 0*1))] _ E ⟨hs74.ix g37,hs74.fa g37,(Es E),E⟩ (cP aA E E E E E E 1 E E (Int.toNat 0) 0 (Sl.v ⟨a25,(at' x0 0).length,c26⟩) ⟨hy29 (kG g37),E⟩ E E E ?_)
     refine bnw h fun y38 hy39 h=>zU (.int .i64) Sl.nil E E (JO.call E E E E (fH x1 (at' x0 0) ([]:List Int) a8 c9 a25 c26 none 0 _ hy39) E [5,3,0] E E ?_)
     rintro ⟨a40,c41⟩ -
     refine aB aA 1 [] [] [(9,.v (.slice a40 y38.length c41))] _ E ⟨⟨E,V⟩,E⟩ (aD E (aT (y38,a40,c41) h (Es E) (Bs E E) [] E [0,1] E))
    refine JS.skip (aT (y33,a35,c36) h (Es E) (Bs E E) [] E [0,0] E)
   rintro ⟨x43,a44,c45⟩ h
   subst hj81
   refine JS.seq (JS.region (bJ 1 E fun hs80=>?_))
   obtain ⟨g49,h⟩:=aH h
   refine aB aA 5 [] [] [(73,.v (.agg #[.slice a44 x43.length c45])),(74,.ep ⟨a19,y17.length,c20⟩ (Int.toNat 0*1))] _ E ⟨hs80.ix g49,(Es E),E⟩ (kD aA E E E E E E E E E [1,0] (fs:=[⟨(.int .i64),⟨a44,x43.length,c45⟩,x43⟩]) E (Int.toNat 0) 0 (at' y17 0) x43 ⟨bD g49,E⟩ ⟨E,E,E,E⟩ (aD E (aL aA 3 [] [] [(7,.v (.bool true))] (.new 4 41 [.slice a19 y17.length c20] .nil) ⟨⟨E,V⟩,(Bs E E)⟩ E E ?_)))
   cases h
   exact JS.ret aA (a19,c20) V E (by simp only [List.length_set,List.length_replicate,bY,dN,oP,oO];rfl) [0] (by simp only [List.length_set,List.length_replicate,bY,dN,oP,oO];rfl)
  refine JS.skip (JS.seq ?_)
  obtain ⟨g52,h⟩:=aH h
  obtain ⟨g56,h⟩:=aH h
  refine bB E (.new 14 41 [.slice a19 y17.length c20] .nil) [] [7,8] ⟨E,E,E,E,V⟩ E (fun be59=>?_)
  refine bR aA aF true 6 [1,5,6] E (by kernel_rfl) [] [(77,.v (.slice a8 x1.length c9)),(82,.v (.slice a19 y17.length c20))] ⟨E,E,E,E,V⟩ [] E E (Es E) (JA.one 0 (by kernel_rfl) (JK.buildSlice aA E E E E E E E E E E E [] E (.int .i64) [] ⟨E,E⟩ E E fun a51=>aR ⟨E,E,E,E,V⟩ [] E (JA.one 2 (by kernel_rfl) (cY aA E E E E ⟨E,E,E,E,V,E,E,E,E⟩ E E E [0] E 3 E g52 E fun a53 c54=>aR ⟨E,E,E,E,V⟩ [] E (bR aA aF true 3 [3] E (by kernel_rfl) [] [(79,.v (.agg #[.slice a53 (([]:List Int) ++ x1).length c54]))] ⟨E,E,E,E,V⟩ [] E E ⟨E,V⟩ (JA.one 4 (by kernel_rfl) (JK.buildSlice aA E E E E E E E E E E E [0] E (.sl (.int .i64)) [(([]:List Int) ++ x1)] ⟨E,E,E⟩ E E fun a55=>aR ⟨E,E,E,E,V⟩ [] E (JA.one 7 (by kernel_rfl) (gS aA E E E E ⟨E,E,E,E,V,E,E,E,E⟩ E E [0,0] E g56 E fun a57 c58=>aM E (aS aA aF 0 [8] E (by kernel_rfl) [] [(10,.v (.slice a57 (([(([]:List Int) ++ x1)]:List (List Int)) ++ y17).length c58))] E ⟨E,V⟩ (bE (by kernel_rfl) (aW (B':=(.new 4 41 [.slice none 0 0] .nil)) (Bs E E) ?_))))))))))))
  obtain ⟨j67,hj83,h⟩:=aQ h
  refine dM (ι:=List (List Int)×Option Addr×Nat) ⟨fun z=>j67 z.1=some r,fun z=>[(6,.bp 4 0),(10,.v (.slice z.2.1 z.1.length z.2.2))],fun z=>(.new 4 41 [.slice none 0 0] .nil),fun z=>[],fun z=>[⟨(.sl (.int .i64)),⟨z.2.1,z.1.length,z.2.2⟩,z.1⟩],fun z=>0⟩ ?_ ?_
  ·
   refine aC aA 3 [(86,.v (.bool (decide (6<((([(([]:List Int) ++ x1)]:List (List Int)) ++ y17).length:Int)))))] ⟨⟨E,V⟩,E⟩ E E ?_
   refine aK E h (fun h=>?_) (fun h=>?_)
   ·
    refine JS.region (aB aA 1 [] [] [(87,.v (.slice a57 (([(([]:List Int) ++ x1)]:List (List Int)) ++ y17).length c58))] _ E ⟨⟨E,V⟩,E⟩ ?_)
    obtain ⟨g60,h⟩:=aH h
    refine xI aA E E E E E E E E [0] E (0:Int) (6:Int) E E g60 E fun a61 c62=>aB aA 1 [] [] [(10,.v (.slice a61 (bN (([(([]:List Int) ++ x1)]:List (List Int)) ++ y17) 0 (6:Int)).length c62))] _ E ⟨⟨E,V⟩,E⟩ (aD E (aT ((bN (([(([]:List Int) ++ x1)]:List (List Int)) ++ y17) 0 (6:Int)),a61,c62) h (Es E) (Bs E E) [] E [0] E))
   refine JS.skip (aT ((([(([]:List Int) ++ x1)]:List (List Int)) ++ y17),a57,c58) h (Es E) (Bs E E) [] E [0] E)
  rintro ⟨x64,a65,c66⟩ h
  subst hj83
  refine aL aA 4 [] [] [(7,.v (.bool true))] (.new 4 41 [.slice a65 x64.length c66] .nil) ⟨⟨E,V⟩,(Bs E E)⟩ E E ?_
  cases h
  exact JS.ret aA (a65,c66) V E E [0] E

def gF (x0:EdQ) (x1:Int) (x2:Int) (x3:Int):Option (EdQ×Int):=
  (aU (fun ((x42,x45,x46,x49):List Int×Bool×List Int×Int)=>
  (aU (fun (x52:Int)=>
  (aG (dX x0 (x46,x49) (bif x45 then (decide ((x46.length:Int)<(x0.2.2.1.1.length:Int))) else false) 2) fun (y55,y56)=>
  (aU (fun (x76:List (List Int))=>
  some ((y55.1,y55.2.1,y55.2.2.1,y55.2.2.2.1,y55.2.2.2.2.1,y55.2.2.2.2.2.1,y55.2.2.2.2.2.2.1,y55.2.2.2.2.2.2.2.1,y55.2.2.2.2.2.2.2.2.1,y55.2.2.2.2.2.2.2.2.2.1,x76,y55.2.2.2.2.2.2.2.2.2.2.2.1,y55.2.2.2.2.2.2.2.2.2.2.2.2.1,y55.2.2.2.2.2.2.2.2.2.2.2.2.2.1,y55.2.2.2.2.2.2.2.2.2.2.2.2.2.2.1,y55.2.2.2.2.2.2.2.2.2.2.2.2.2.2.2.1,y55.2.2.2.2.2.2.2.2.2.2.2.2.2.2.2.2),y56)) fun j79=>
  (bif (decide (y56=0)) then
  (aG (rP x0.2.2.2.2.2.2.2.2.2.2.1 x42 x52) fun (y70,y71)=>
  j79 y70)
  else
  j79 y55.2.2.2.2.2.2.2.2.2.2.1)))) fun j53=>
  (bif (!(decide (x0.2.2.2.2.2.2.2.2.2.1=2))) then
  j53 0
  else
  j53 x3))) fun j50=>
  (aG (dA x1 (x0.2.2.1.1.length:Int)) fun (y29:Int)=>
  (aG (dA x2 (x0.2.2.1.1.length:Int)) fun (y31:Int)=>
  (aG (lA x0.2.2.1 y29 y31) fun (y33,y34,y35)=>
  j50 (y34,y35,y33.1,y33.2)))))

theorem oR (x0:EdQ) (x1:Int) (x2:Int) (x3:Int) (q5:P6) (r:EdQ×Int) (h:gF x0 x1 x2 x3=some r):
  FC Tryz.prog 108 [.agg (cC x0 q5).toArray,.int .i64 x1,.int .i64 x2,.int .i64 x3] (bW x0 q5 []) (fun _:P6=>True) (fun q=>.tuple #[.agg (aI r.1 q).toArray,.int .i64 r.2]) (fun q=>(bW r.1 q [])):=
 by
  refine FC.of (T:=TTx) Tryz.call108 Tryz.func108 E E fun w0=>?_
  unfold gF at h
  refine aL aA 3 [] [7,8] [(4,.bp 7 0),(8,.bp 8 0)] (.new 7 46 (aI x0 q5) (.new 8 46 bF .nil)) ⟨(Es E),(Bs E E)⟩ E E (aC aA 5 [(10,.v (I (x0.2.2.1.1.length:Int)))] ⟨⟨E,V⟩,E⟩ E E (JS.seq ?_))
  obtain ⟨j50,hj88,h⟩:=aQ h
  refine mK (ι:=List Int×Bool×List Int×Int×Option Addr×Nat×Option Addr×Nat) ⟨fun z=>j50 (z.1,z.2.1,z.2.2.1,z.2.2.2.1)=some r,fun z=>[(3,.v (I x3)),(4,.bp 7 0),(8,.bp 8 0),(10,.v (I (x0.2.2.1.1.length:Int))),(11,.bp 23 0),(12,.v (.slice (Q4 z).1 z.1.length (Q4 z).2.1)),(13,.v (.bool z.2.1))],fun z=>(.new 7 46 (aI x0 q5) (.new 8 46 bF (.new 23 38 [.slice (Q4 z).2.2.1 z.2.2.1.length (Q4 z).2.2.2,.int .i64 z.2.2.2.1] .nil))),fun z=>(bW x0 q5 []),fun z=>[⟨(.int .i64),⟨(Q4 z).1,z.1.length,(Q4 z).2.1⟩,z.1⟩,⟨(.int .i64),⟨(Q4 z).2.2.1,z.2.2.1.length,(Q4 z).2.2.2⟩,z.2.2.1⟩],fun z=>0⟩ ?_ ?_
  ·
   obtain ⟨y29,hy30,h⟩:=aE h
   obtain ⟨y31,hy32,h⟩:=aE h
   obtain ⟨⟨y33,y34,y35⟩,hy36,h⟩:=aE h
   refine bB E (.new 7 46 (aI x0 q5) .nil) [] [8,9,10,11,12,14,15,16] ⟨E,E,E,E,V⟩ E (fun be41=>?_)
   refine bR aA aF true 11 [0,1,2,3,5,6] E (by kernel_rfl) [] [(22,.v (.agg #[.slice q5.1 x0.2.2.1.1.length q5.2.1,.int .i64 x0.2.2.1.2])),(23,.v (I x1)),(24,.v (I (x0.2.2.1.1.length:Int))),(26,.v (I x2)),(27,.v (I (x0.2.2.1.1.length:Int)))] ⟨E,E,E,E,V⟩ [] E E (Es E) ?_
   refine JA.all (rs:=[4,13]) (by kernel_rfl) E (List.forall_mem_cons.2 ⟨?_,List.forall_mem_cons.2 ⟨?_,(fun _ hx=>absurd hx List.not_mem_nil)⟩⟩)
   ·
    refine JK.call E E E E (cE x1 (x0.2.2.1.1.length:Int) _ hy30) E [] E E fun _ _=>aR ⟨E,E,E,E,V⟩ [] E ?_
    refine JA.all (rs:=[7,13]) (by kernel_rfl) E (List.forall_mem_cons.2 ⟨?_,List.forall_mem_cons.2 ⟨?_,(fun _ hx=>absurd hx List.not_mem_nil)⟩⟩)
    ·
     refine JK.call E E E E (cE x2 (x0.2.2.1.1.length:Int) _ hy32) E [] E E fun _ _=>aR ⟨E,E,E,E,V⟩ [] E ?_
     refine JA.all (rs:=[8,13]) (by kernel_rfl) E (List.forall_mem_cons.2 ⟨?_,List.forall_mem_cons.2 ⟨?_,(fun _ hx=>absurd hx List.not_mem_nil)⟩⟩)
     ·
      refine JK.call E E E E (fI x0.2.2.1 y29 y31 q5.1 q5.2.1 _ hy36) E [0] E E ?_
      rintro ⟨a37,c38,a39,c40⟩ -
      refine aM E (aS aA aF 4 [9,10,11,12] E (by kernel_rfl) [] [(30,.v (.agg #[.slice a37 y33.1.length c38,.int .i64 y33.2])),(31,.v (.slice a39 y34.length c40)),(32,.v (.bool y35))] E (Es E) (JA.one 13 (by kernel_rfl) (JK.alloc aA E E E E E 23 E (cK _ E) (aR ⟨E,E,E,E,V⟩ [] E (JA.one 14 (by kernel_rfl) (aY aA E E E E E E E E (aM E (aS aA aF 0 [15,16] E (by kernel_rfl) [] [(12,.v (.slice a39 y34.length c40)),(13,.v (.bool y35))] E (Es E) (bE (by kernel_rfl) (aW (B':=(.new 7 46 (aI x0 q5) (.new 8 46 bF (.new 23 38 [.slice a37 y33.1.length c38,.int .i64 y33.2] .nil)))) (Bs E E) (aT (y34,y35,y33.1,y33.2,a39,c40,a37,c38) h (Es E) (Bs E E) [0,1,2,3,4,5] E [1,0] E)))))))))))
     refine JK.alloc aA E E E E E 23 E (cK _ E) (aR ⟨E,E,E,E,V⟩ [] E (JA.one 8 (by kernel_rfl) (JK.call E E E E (fI x0.2.2.1 y29 y31 q5.1 q5.2.1 _ hy36) E [0] E E ?_)))
     rintro ⟨a37,c38,a39,c40⟩ -
     refine aM E (aS aA aF 3 [9,10,11,12] E (by kernel_rfl) [] [(30,.v (.agg #[.slice a37 y33.1.length c38,.int .i64 y33.2])),(31,.v (.slice a39 y34.length c40)),(32,.v (.bool y35))] E (Es E) (JA.one 14 (by kernel_rfl) (aY aA E E E E E E E E (aM E (aS aA aF 0 [15,16] E (by kernel_rfl) [] [(12,.v (.slice a39 y34.length c40)),(13,.v (.bool y35))] E (Es E) (bE (by kernel_rfl) (aW (B':=(.new 7 46 (aI x0 q5) (.new 8 46 bF (.new 23 38 [.slice a37 y33.1.length c38,.int .i64 y33.2] .nil)))) (Bs E E) (aT (y34,y35,y33.1,y33.2,a39,c40,a37,c38) h (Es E) (Bs E E) [0,1,2,3,4,5] E [1,0] E))))))))
    refine JK.alloc aA E E E E E 23 E (cK _ E) (aR ⟨E,E,E,E,V⟩ [] E (JA.one 7 (by kernel_rfl) (JK.call E E E E (cE x2 (x0.2.2.1.1.length:Int) _ hy32) E [] E E fun _ _=>aR ⟨E,E,E,E,V⟩ [] E (JA.one 8 (by kernel_rfl) (JK.call E E E E (fI x0.2.2.1 y29 y31 q5.1 q5.2.1 _ hy36) E [0] E E ?_)))))
    rintro ⟨a37,c38,a39,c40⟩ -
    refine aM E (aS aA aF 3 [9,10,11,12] E (by kernel_rfl) [] [(30,.v (.agg #[.slice a37 y33.1.length c38,.int .i64 y33.2])),(31,.v (.slice a39 y34.length c40)),(32,.v (.bool y35))] E (Es E) (JA.one 14 (by kernel_rfl) (aY aA E E E E E E E E (aM E (aS aA aF 0 [15,16] E (by kernel_rfl) [] [(12,.v (.slice a39 y34.length c40)),(13,.v (.bool y35))] E (Es E) (bE (by kernel_rfl) (aW (B':=(.new 7 46 (aI x0 q5) (.new 8 46 bF (.new 23 38 [.slice a37 y33.1.length c38,.int .i64 y33.2] .nil)))) (Bs E E) (aT (y34,y35,y33.1,y33.2,a39,c40,a37,c38) h (Es E) (Bs E E) [0,1,2,3,4,5] E [1,0] E))))))))
   refine JK.alloc aA E E E E E 23 E (cK _ E) (aR ⟨E,E,E,E,V⟩ [] E (JA.one 4 (by kernel_rfl) (JK.call E E E E (cE x1 (x0.2.2.1.1.length:Int) _ hy30) E [] E E fun _ _=>aR ⟨E,E,E,E,V⟩ [] E (JA.one 7 (by kernel_rfl) (JK.call E E E E (cE x2 (x0.2.2.1.1.length:Int) _ hy32) E [] E E fun _ _=>aR ⟨E,E,E,E,V⟩ [] E (JA.one 8 (by kernel_rfl) (JK.call E E E E (fI x0.2.2.1 y29 y31 q5.1 q5.2.1 _ hy36) E [0] E E ?_)))))))
   rintro ⟨a37,c38,a39,c40⟩ -
   refine aM E (aS aA aF 3 [9,10,11,12] E (by kernel_rfl) [] [(30,.v (.agg #[.slice a37 y33.1.length c38,.int .i64 y33.2])),(31,.v (.slice a39 y34.length c40)),(32,.v (.bool y35))] E (Es E) (JA.one 14 (by kernel_rfl) (aY aA E E E E E E E E (aM E (aS aA aF 0 [15,16] E (by kernel_rfl) [] [(12,.v (.slice a39 y34.length c40)),(13,.v (.bool y35))] E (Es E) (bE (by kernel_rfl) (aW (B':=(.new 7 46 (aI x0 q5) (.new 8 46 bF (.new 23 38 [.slice a37 y33.1.length c38,.int .i64 y33.2] .nil)))) (Bs E E) (aT (y34,y35,y33.1,y33.2,a39,c40,a37,c38) h (Es E) (Bs E E) [0,1,2,3,4,5] E [1,0] E))))))))
  rintro ⟨x42,x45,x46,x49,a43,c44,a47,c48⟩ h
  subst hj88
  obtain ⟨j53,hj87,h⟩:=aQ h
  refine dM (ι:=Int) ⟨fun z=>j53 z=some r,fun z=>[(3,.v (I z)),(4,.bp 7 0),(8,.bp 8 0),(10,.v (I (x0.2.2.1.1.length:Int))),(11,.bp 23 0),(12,.v (.slice a43 x42.length c44)),(13,.v (.bool x45))],fun z=>(.new 7 46 (aI x0 q5) (.new 8 46 bF (.new 23 38 [.slice a47 x46.length c48,.int .i64 x49] .nil))),fun z=>(bW x0 q5 []),fun z=>[⟨(.int .i64),⟨a43,x42.length,c44⟩,x42⟩,⟨(.int .i64),⟨a47,x46.length,c48⟩,x46⟩],fun z=>0⟩ ?_ ?_
  ·
   refine aC aA 3 [(35,.v (.bool (!(decide ((Q8 x0).2.1=2)))))] ⟨⟨E,V⟩,E⟩ E E ?_
   refine aK E h (fun h=>?_) (fun h=>?_)
   ·
    refine vL aA 1 [(3,.v (I 0))] ⟨⟨E,V⟩,E⟩ E E (aT 0 h (Es E) (Bs E E) [0,1,2,3,4,5] E [0,0] E)
   refine JS.skip (aT x3 h (Es E) (Bs E E) [0,1,2,3,4,5] E [0,0] E)
  rintro x52 h
  subst hj87
  refine JS.seq (JS.region (aB aA 10 [] [] [(37,.v (.agg (aI x0 q5).toArray)),(38,.v (.agg #[.slice a47 x46.length c48,.int .i64 x49])),(46,.v (.bool (bif x45 then (decide ((x46.length:Int)<(x0.2.2.1.1.length:Int))) else false)))] _ E ⟨(Es E),E⟩ ?_))
  obtain ⟨⟨y55,y56⟩,hy57,h⟩:=aE h
  refine JO.call E E E E (kK x0 (x46,x49) (bif x45 then (decide ((x46.length:Int)<(x0.2.2.1.1.length:Int))) else false) 2 q5 a47 c48 _ hy57) E [0,1,2,3,4,5,7] E E fun q58 _=>aP aA 6 [] [59] [(14,.bp 59 0),(15,.v (I y56))] (.new 7 46 (aI x0 q5) (.new 8 46 bF (.new 59 46 (aI y55 q58) .nil))) E ⟨(Es E),(Bs E E)⟩ (aD E ?_)
  obtain ⟨j79,hj86,h⟩:=aQ h
  refine dM (ι:=List (List Int)×Option Addr×Nat) ⟨fun z=>j79 z.1=some r,fun z=>[(8,.bp 8 0),(14,.bp 59 0),(15,.v (I y56))],fun z=>(.new 8 46 bF (.new 59 46 (aI (U10 y55 z.1) (q58.1,q58.2.1,z.2.1,z.2.2,(Q4 q58))) .nil)),fun z=>[],fun z=>[⟨(.sl (.int .i64)),⟨z.2.1,z.1.length,z.2.2⟩,z.1⟩,⟨(.int .i64),⟨q58.1,y55.2.2.1.1.length,q58.2.1⟩,y55.2.2.1.1⟩,⟨(.pair (.sl (.int .i64)) (.int .i64)),⟨(Q4 q58).1,(Q8 y55).2.2.2.1.length,(Q4 q58).2.1⟩,(Q8 y55).2.2.2.1⟩,⟨(.int .i64),⟨(Q4 q58).2.2.1,(Q12 y55).2.1.1.length,(Q4 q58).2.2.2.1⟩,(Q12 y55).2.1.1⟩,⟨(.int .i64),⟨(Q8 q58).1,(Q12 y55).2.2.1.length,(Q8 q58).2.1⟩,(Q12 y55).2.2.1⟩,⟨(.int .i64),⟨(Q8 q58).2.2.1,(Q16 y55).1.length,(Q8 q58).2.2.2⟩,(Q16 y55).1⟩],fun z=>0⟩ ?_ ?_
  ·
   refine aC aA 2 [(51,.v (.bool (decide (y56=0))))] ⟨⟨E,V⟩,E⟩ E E ?_
   refine aK E h (fun h=>?_) (fun h=>?_)
   ·
    refine JS.region (aB aA 4 [] [] [(54,.v (.agg #[.slice q5.2.2.1 (Q8 x0).2.2.1.length q5.2.2.2.1])),(55,.v (.slice a43 x42.length c44)),(56,.v (I x52))] _ E ⟨(Es E),E⟩ ?_)
    obtain ⟨⟨y70,y71⟩,hy72,h⟩:=aE h
    refine JO.call E E E E (aIm (Q8 x0).2.2.1 x42 x52 q5.2.2.1 q5.2.2.2.1 a43 c44 _ hy72) E [1,12] E E ?_
    rintro ⟨a73,c74⟩ -
    refine aP aA 5 [] [] [] (.new 8 46 bF (.new 59 46 (aI (U10 y55 y70) (q58.1,q58.2.1,a73,c74,(Q4 q58))) .nil)) E ⟨V,(Bs E E)⟩ (aD E (bV (y70,a73,c74) h (Es E) (Bs E E) [] E [0,1,3,4,5,6] E E))
   refine JS.skip (bV ((Q8 y55).2.2.1,q58.2.2.1,q58.2.2.2.1) h (Es E) (Bs E E) [] E [1,0,2,3,4,5] E E)
  rintro ⟨x76,a77,c78⟩ h
  subst hj86
  refine aL aA 4 [] [] [(9,.v (I y56))] (.new 8 46 (aI (U10 y55 x76) (q58.1,q58.2.1,a77,c78,(Q4 q58))) .nil) ⟨⟨E,V⟩,(Bs E E)⟩ E E ?_
  cases h
  exact JS.ret aA (U3 (U2 q58 a77) c78) V E E [1,0,0,0,0,0] E

def nV (x0:EdQ) (x1:Int) (x2:Int):Option (EdQ×Int):=
  (aU (fun ((x41,x42,x45):Bool×List Int×Int)=>
  (aG (dX x0 (x42,x45) (bif x41 then (decide ((x42.length:Int)<(x0.2.2.1.1.length:Int))) else false) 0) fun (y47,y48)=>
  some (y47,y48))) fun j46=>
  (aG (dA x1 (x0.2.2.1.1.length:Int)) fun (y28:Int)=>
  (aG (dA x2 (x0.2.2.1.1.length:Int)) fun (y30:Int)=>
  (aG (lA x0.2.2.1 y28 y30) fun (y32,y33,y34)=>
  j46 (y34,y32.1,y32.2)))))

theorem xY (x0:EdQ) (x1:Int) (x2:Int) (q4:P6) (r:EdQ×Int) (h:nV x0 x1 x2=some r):
  FC Tryz.prog 161 [.agg (cC x0 q4).toArray,.int .i64 x1,.int .i64 x2] (bW x0 q4 []) (fun _:P6=>True) (fun q=>.tuple #[.agg (aI r.1 q).toArray,.int .i64 r.2]) (fun q=>(bW r.1 q [])):=
 by
  refine FC.of (T:=TTx) Tryz.call161 Tryz.func161 E E fun w0=>?_
  unfold nV at h
  refine aL aA 3 [] [7,8] [(3,.bp 7 0),(6,.bp 8 0)] (.new 7 46 (aI x0 q4) (.new 8 46 bF .nil)) ⟨(Es E),(Bs E E)⟩ E E (aC aA 5 [(8,.v (I (x0.2.2.1.1.length:Int)))] ⟨⟨E,V⟩,E⟩ E E (JS.seq ?_))
  obtain ⟨j46,hj63,h⟩:=aQ h
  refine mK (ι:=Bool×List Int×Int×Option Addr×Nat) ⟨fun z=>j46 (z.1,z.2.1,z.2.2.1)=some r,fun z=>[(3,.bp 7 0),(6,.bp 8 0),(8,.v (I (x0.2.2.1.1.length:Int))),(9,.bp 23 0),(11,.v (.bool z.1))],fun z=>(.new 7 46 (aI x0 q4) (.new 8 46 bF (.new 23 38 [.slice z.2.2.2.1 z.2.1.length (Q4 z),.int .i64 z.2.2.1] .nil))),fun z=>(bW x0 q4 []),fun z=>[⟨(.int .i64),⟨z.2.2.2.1,z.2.1.length,(Q4 z)⟩,z.2.1⟩],fun z=>0⟩ ?_ ?_
  ·
   obtain ⟨y28,hy29,h⟩:=aE h
   obtain ⟨y30,hy31,h⟩:=aE h
   obtain ⟨⟨y32,y33,y34⟩,hy35,h⟩:=aE h
   refine bB E (.new 7 46 (aI x0 q4) .nil) [] [8,9,10,11,12,14,15,16] ⟨E,E,E,E,V⟩ E (fun be40=>?_)
   refine bR aA aF true 11 [0,1,2,3,5,6] E (by kernel_rfl) [] [(18,.v (.agg #[.slice q4.1 x0.2.2.1.1.length q4.2.1,.int .i64 x0.2.2.1.2])),(19,.v (I x1)),(20,.v (I (x0.2.2.1.1.length:Int))),(22,.v (I x2)),(23,.v (I (x0.2.2.1.1.length:Int)))] ⟨E,E,E,E,V⟩ [] E E (Es E) ?_
   refine JA.all (rs:=[4,13]) (by kernel_rfl) E (List.forall_mem_cons.2 ⟨?_,List.forall_mem_cons.2 ⟨?_,(fun _ hx=>absurd hx List.not_mem_nil)⟩⟩)
   ·
    refine JK.call E E E E (cE x1 (x0.2.2.1.1.length:Int) _ hy29) E [] E E fun _ _=>aR ⟨E,E,E,E,V⟩ [] E ?_
    refine JA.all (rs:=[7,13]) (by kernel_rfl) E (List.forall_mem_cons.2 ⟨?_,List.forall_mem_cons.2 ⟨?_,(fun _ hx=>absurd hx List.not_mem_nil)⟩⟩)
    ·
     refine JK.call E E E E (cE x2 (x0.2.2.1.1.length:Int) _ hy31) E [] E E fun _ _=>aR ⟨E,E,E,E,V⟩ [] E ?_
     refine JA.all (rs:=[8,13]) (by kernel_rfl) E (List.forall_mem_cons.2 ⟨?_,List.forall_mem_cons.2 ⟨?_,(fun _ hx=>absurd hx List.not_mem_nil)⟩⟩)
     ·
      refine JK.call E E E E (fI x0.2.2.1 y28 y30 q4.1 q4.2.1 _ hy35) E [0] E E ?_
      rintro ⟨a36,c37,a38,c39⟩ -
      refine aM E (aS aA aF 4 [9,10,11,12] E (by kernel_rfl) [] [(26,.v (.agg #[.slice a36 y32.1.length c37,.int .i64 y32.2])),(27,.v (.slice a38 y33.length c39)),(28,.v (.bool y34))] E (Es E) (JA.one 13 (by kernel_rfl) (JK.alloc aA E E E E E 23 E (cK _ E) (aR ⟨E,E,E,E,V⟩ [] E (JA.one 14 (by kernel_rfl) (aY aA E E E E E E E E (aM E (aS aA aF 0 [15,16] E (by kernel_rfl) [] [(11,.v (.bool y34))] E ⟨E,V⟩ (bE (by kernel_rfl) (aW (B':=(.new 7 46 (aI x0 q4) (.new 8 46 bF (.new 23 38 [.slice a36 y32.1.length c37,.int .i64 y32.2] .nil)))) (Bs E E) (aT (y34,y32.1,y32.2,a36,c37) h (Es E) (Bs E E) [0,1,2,3,4,5] E [0] E)))))))))))
     refine JK.alloc aA E E E E E 23 E (cK _ E) (aR ⟨E,E,E,E,V⟩ [] E (JA.one 8 (by kernel_rfl) (JK.call E E E E (fI x0.2.2.1 y28 y30 q4.1 q4.2.1 _ hy35) E [0] E E ?_)))
     rintro ⟨a36,c37,a38,c39⟩ -
     refine aM E (aS aA aF 3 [9,10,11,12] E (by kernel_rfl) [] [(26,.v (.agg #[.slice a36 y32.1.length c37,.int .i64 y32.2])),(27,.v (.slice a38 y33.length c39)),(28,.v (.bool y34))] E (Es E) (JA.one 14 (by kernel_rfl) (aY aA E E E E E E E E (aM E (aS aA aF 0 [15,16] E (by kernel_rfl) [] [(11,.v (.bool y34))] E ⟨E,V⟩ (bE (by kernel_rfl) (aW (B':=(.new 7 46 (aI x0 q4) (.new 8 46 bF (.new 23 38 [.slice a36 y32.1.length c37,.int .i64 y32.2] .nil)))) (Bs E E) (aT (y34,y32.1,y32.2,a36,c37) h (Es E) (Bs E E) [0,1,2,3,4,5] E [0] E))))))))
    refine JK.alloc aA E E E E E 23 E (cK _ E) (aR ⟨E,E,E,E,V⟩ [] E (JA.one 7 (by kernel_rfl) (JK.call E E E E (cE x2 (x0.2.2.1.1.length:Int) _ hy31) E [] E E fun _ _=>aR ⟨E,E,E,E,V⟩ [] E (JA.one 8 (by kernel_rfl) (JK.call E E E E (fI x0.2.2.1 y28 y30 q4.1 q4.2.1 _ hy35) E [0] E E ?_)))))
    rintro ⟨a36,c37,a38,c39⟩ -
    refine aM E (aS aA aF 3 [9,10,11,12] E (by kernel_rfl) [] [(26,.v (.agg #[.slice a36 y32.1.length c37,.int .i64 y32.2])),(27,.v (.slice a38 y33.length c39)),(28,.v (.bool y34))] E (Es E) (JA.one 14 (by kernel_rfl) (aY aA E E E E E E E E (aM E (aS aA aF 0 [15,16] E (by kernel_rfl) [] [(11,.v (.bool y34))] E ⟨E,V⟩ (bE (by kernel_rfl) (aW (B':=(.new 7 46 (aI x0 q4) (.new 8 46 bF (.new 23 38 [.slice a36 y32.1.length c37,.int .i64 y32.2] .nil)))) (Bs E E) (aT (y34,y32.1,y32.2,a36,c37) h (Es E) (Bs E E) [0,1,2,3,4,5] E [0] E))))))))
   refine JK.alloc aA E E E E E 23 E (cK _ E) (aR ⟨E,E,E,E,V⟩ [] E (JA.one 4 (by kernel_rfl) (JK.call E E E E (cE x1 (x0.2.2.1.1.length:Int) _ hy29) E [] E E fun _ _=>aR ⟨E,E,E,E,V⟩ [] E (JA.one 7 (by kernel_rfl) (JK.call E E E E (cE x2 (x0.2.2.1.1.length:Int) _ hy31) E [] E E fun _ _=>aR ⟨E,E,E,E,V⟩ [] E (JA.one 8 (by kernel_rfl) (JK.call E E E E (fI x0.2.2.1 y28 y30 q4.1 q4.2.1 _ hy35) E [0] E E ?_)))))))
   rintro ⟨a36,c37,a38,c39⟩ -
   refine aM E (aS aA aF 3 [9,10,11,12] E (by kernel_rfl) [] [(26,.v (.agg #[.slice a36 y32.1.length c37,.int .i64 y32.2])),(27,.v (.slice a38 y33.length c39)),(28,.v (.bool y34))] E (Es E) (JA.one 14 (by kernel_rfl) (aY aA E E E E E E E E (aM E (aS aA aF 0 [15,16] E (by kernel_rfl) [] [(11,.v (.bool y34))] E ⟨E,V⟩ (bE (by kernel_rfl) (aW (B':=(.new 7 46 (aI x0 q4) (.new 8 46 bF (.new 23 38 [.slice a36 y32.1.length c37,.int .i64 y32.2] .nil)))) (Bs E E) (aT (y34,y32.1,y32.2,a36,c37) h (Es E) (Bs E E) [0,1,2,3,4,5] E [0] E))))))))
  rintro ⟨x41,x42,x45,a43,c44⟩ h
  subst hj63
  refine JS.seq (JS.region (aB aA 10 [] [] [(29,.v (.agg (aI x0 q4).toArray)),(30,.v (.agg #[.slice a43 x42.length c44,.int .i64 x45])),(38,.v (.bool (bif x41 then (decide ((x42.length:Int)<(x0.2.2.1.1.length:Int))) else false)))] _ E ⟨(Es E),E⟩ ?_))
  obtain ⟨⟨y47,y48⟩,hy49,h⟩:=aE h
  refine JO.call E E E E (kK x0 (x42,x45) (bif x41 then (decide ((x42.length:Int)<(x0.2.2.1.1.length:Int))) else false) 0 q4 a43 c44 _ hy49) E [0,1,2,3,4,5,6] E E fun q50 _=>aP aA 4 [] [] [(7,.v (I y48))] (.new 8 46 (aI y47 q50) .nil) E ⟨⟨E,V⟩,(Bs E E)⟩ (aD E ?_)
  cases h
  exact JS.ret aA q50 V E E [0,0,0,0,0,0] E

def pH (x0:Int×List (List UInt8)):Option Int:=
  (aG (lB x0) fun (y6:Bool)=>
  (bif (bif (!y6) then true else (decide ((x0.2.length:Int)=0))) then
  some 0
  else
  some (W ((W (x0.1+(x0.2.length:Int))) - 1))))

theorem aGk (x0:Int×List (List UInt8)) (a2:Option Addr) (c3:Nat) (r:Int) (h:pH x0=some r):
  FC Tryz.prog 80 [.agg #[.int .i64 x0.1,.slice a2 x0.2.length c3]] [⟨.str,⟨a2,x0.2.length,c3⟩,x0.2⟩] (fun _:Unit=>True) (fun _=>.int .i64 r) (fun _=>[]):=
 by
  refine FC.of (T:=TTx) Tryz.call80 Tryz.func80 E E fun w0=>?_
  unfold pH at h
  refine aL aA 2 [] [2] [(1,.bp 2 0)] (.new 2 50 [.int .i64 x0.1,.slice a2 x0.2.length c3] .nil) ⟨⟨E,V⟩,(Bs E E)⟩ E E (JS.seq (JS.seq (JS.region (aB aA 1 [] [] [(3,.v (.agg #[.int .i64 x0.1,.slice a2 x0.2.length c3]))] _ E ⟨⟨E,V⟩,E⟩ ?_))))
  refine bnw h fun y6 hy7 h=>JO.call E E E E (uK x0 a2 c3 _ hy7) E [0] E E fun _ _=>aB aA 7 [] [] [(11,.v (.bool (bif (!y6) then true else (decide ((x0.2.length:Int)=0)))))] _ E ⟨⟨E,V⟩,E⟩ (aD E ?_)
  refine aK E h (fun h=>?_) (fun h=>?_)
  ·
   refine aC aA 1 [(2,.v (I 0))] ⟨⟨E,V⟩,E⟩ E E ?_
   cases h
   exact JS.ret aA () V E E [] E
  refine JS.skip (sD aA 8 [(W (x0.1+(x0.2.length:Int))),(W ((W (x0.1+(x0.2.length:Int))) - 1))] [] [(2,.v (I (W ((W (x0.1+(x0.2.length:Int))) - 1))))] _ ⟨⟨V,E⟩,⟨V,E⟩,⟨E,V⟩,E⟩ E E ?_)
  cases h
  exact JS.ret aA () V E E [] E

def lC (x0:Int×List (List UInt8)) (x1:Int):Option (List UInt8×Bool):=
  (aG (lB x0) fun (y7:Bool)=>
  (bif (bif (bif (!y7) then true else (decide (x1<x0.1))) then true else (decide ((x0.2.length:Int)≤(W (x1 - x0.1))))) then
  some ([],false)
  else
  (aN (0≤(W (x1 - x0.1))∧(W (x1 - x0.1))<(x0.2.length:Int)) <|
  some ((at' x0.2 (W (x1 - x0.1))),true))))

theorem aIn (x0:Int×List (List UInt8)) (x1:Int) (a3:Option Addr) (c4:Nat) (r:List UInt8×Bool) (h:lC x0 x1=some r):
  FC Tryz.prog 47 [.agg #[.int .i64 x0.1,.slice a3 x0.2.length c4],.int .i64 x1] [⟨.str,⟨a3,x0.2.length,c4⟩,x0.2⟩] (fun _:Unit=>True) (fun _=>.tuple #[.string (bs r.1),.bool r.2]) (fun _=>[]):=
 by
  refine FC.of (T:=TTx) Tryz.call47 Tryz.func47 E E fun w0=>?_
  unfold lC at h
  refine aL aA 3 [] [2] [(2,.bp 2 0)] (.new 2 50 [.int .i64 x0.1,.slice a3 x0.2.length c4] .nil) ⟨⟨E,V⟩,(Bs E E)⟩ E E (JS.seq (JS.seq (JS.region (aB aA 1 [] [] [(6,.v (.agg #[.int .i64 x0.1,.slice a3 x0.2.length c4]))] _ E ⟨⟨E,V⟩,E⟩ ?_))))
  refine bnw h fun y7 hy8 h=>JO.call E E E E (uK x0 a3 c4 _ hy8) E [0] E E fun _ _=>aB aA 17 [(W (x1 - x0.1))] [] [(24,.v (.bool (bif (bif (!y7) then true else (decide (x1<x0.1))) then true else (decide ((x0.2.length:Int)≤(W (x1 - x0.1)))))))] _ E ⟨(fun q13=>⟨V,E⟩),⟨E,V⟩,E⟩ (aD E ?_)
  refine aK E h (fun h=>?_) (fun h=>?_)
  ·
   refine aC aA 2 [(4,.v (.string (bs []))),(5,.v (.bool false))] ⟨(Es E),E⟩ E E ?_
   cases h
   exact JS.ret aA () V E E [] E
  refine JS.skip (JS.seq (JS.region (bJ 0 E fun hs14=>?_)))
  obtain ⟨g11,h⟩:=aH h
  refine aB aA 7 [(W (x1 - x0.1))] [] [(31,.ep ⟨a3,x0.2.length,c4⟩ (Int.toNat (W (x1 - x0.1))*1))] _ E ⟨⟨V,E⟩,hs14.ix g11,⟨E,V⟩,E⟩ (JO.load aA E E E E E E E 0 E E (Int.toNat (W (x1 - x0.1))) 0 (at' x0.2 (W (x1 - x0.1))) ⟨bD g11,E⟩ E E (aB aA 2 [] [] [(4,.v (.string (bs (at' x0.2 (W (x1 - x0.1)))))),(5,.v (.bool true))] _ E ⟨(Es E),E⟩ (aD E ?_)))
  cases h
  exact JS.ret aA () V E E [] E

def mY (x0:Int):Option (List UInt8):=
  (aG (kY x0) fun (y2:Bool)=>
  (bif (!y2) then
  some ([])
  else
  (bif (decide (x0<128)) then
  some ([(u8 (x0))]:List UInt8)
  else
  (bif (decide (x0<2048)) then
  some ([(u8 ((W (192+(W (Int.tdiv x0 64)))))),(u8 ((W (128+(Int.tmod x0 64)))))]:List UInt8)
  else
  (bif (decide (x0<65536)) then
  some ([(u8 ((W (224+(W (Int.tdiv x0 4096)))))),(u8 ((W (128+(Int.tmod (W (Int.tdiv x0 64)) 64))))),(u8 ((W (128+(Int.tmod x0 64)))))]:List UInt8)
  else
  some ([(u8 ((W (240+(W (Int.tdiv x0 262144)))))),(u8 ((W (128+(Int.tmod (W (Int.tdiv x0 4096)) 64))))),(u8 ((W (128+(Int.tmod (W (Int.tdiv x0 64)) 64))))),(u8 ((W (128+(Int.tmod x0 64)))))]:List UInt8))))))

theorem aEt (x0:Int) (r:List UInt8) (h:mY x0=some r) :
  FC Tryz.prog 136 [.int .i64 x0] [] (fun _:Option Addr×Nat=>True) (fun q=>.slice q.1 r.length q.2) (fun q=>[⟨.byte,⟨q.1,r.length,q.2⟩,r⟩]):=
 by
  refine FC.of (T:=TTx) Tryz.call136 Tryz.func136 E E fun w0=>?_
  unfold mY at h
  refine aC aA 1 [] ⟨V,E⟩ E E (JS.seq (JS.seq (JS.region (aB aA 1 [] [] [(3,.v (I x0))] _ E ⟨⟨E,V⟩,E⟩ ?_))))
  refine bnw h fun y2 hy3 h=>JO.call E E E E (aC9 x0 _ hy3) E [] E E fun _ _=>aB aA 1 [] [] [(5,.v (.bool (!y2)))] _ E ⟨⟨E,V⟩,E⟩ (aD E ?_)
  refine aK E h (fun h=>?_) (fun h=>?_)
  ·
   refine aC aA 1 [(2,.v (.slice none 0 0))] ⟨⟨E,V⟩,E⟩ E E ?_
   cases h
   refine aX .byte Sl.nil E E (JS.ret aA (none,0) V E E [0] E)
  refine JS.skip (JS.seq (aC aA 2 [(7,.v (.bool (decide (x0<128))))] ⟨⟨E,V⟩,E⟩ E E ?_))
  refine aK E h (fun h=>?_) (fun h=>?_)
  ·
   refine JS.seq (JS.region (aB aA 2 [((u8 (x0)).toNat:Int)] [] [(9,.v (.int .u8 ((u8 (x0)).toNat:Int)))] _ E ⟨⟨V,eK _⟩,⟨E,V⟩,E⟩ ?_))
   refine jH E (JK.buildSlice aA E E E E E E E E E E E [] E .byte [(u8 (x0))] ⟨E,E⟩ E E fun a4=>jG ?_)
   refine aB aA 1 [] [] [(2,.v (.slice a4 ([(u8 (x0))]:List UInt8).length ([(u8 (x0))]:List UInt8).length))] _ E ⟨⟨E,V⟩,E⟩ (aD E ?_)
   cases h
   exact JS.ret aA (a4,([(u8 (x0))]:List UInt8).length) V E E [0] E
  refine JS.skip (JS.seq (aC aA 2 [(12,.v (.bool (decide (x0<2048))))] ⟨⟨E,V⟩,E⟩ E E ?_))
  refine aK E h (fun h=>?_) (fun h=>?_)
  ·
   refine JS.seq (JS.region ?_)
   have g5:(64:Int)≠0:=by decide
   have g6:(64:Int)≠0:=by decide
   refine aB aA 8 [(W (Int.tdiv x0 64)),(W (192+(W (Int.tdiv x0 64)))),((u8 ((W (192+(W (Int.tdiv x0 64)))))).toNat:Int),(W (128+(Int.tmod x0 64))),((u8 ((W (128+(Int.tmod x0 64))))).toNat:Int)] [] [(16,.v (.int .u8 ((u8 ((W (192+(W (Int.tdiv x0 64)))))).toNat:Int))),(20,.v (.int .u8 ((u8 ((W (128+(Int.tmod x0 64))))).toNat:Int)))] _ E ⟨⟨g5,E⟩,⟨V,E⟩,⟨V,eK _⟩,g6,⟨V,E⟩,⟨V,eK _⟩,(Es E),E⟩ ?_
   refine jH E (JK.buildSlice aA E E E E E E E E E E E [] E .byte [(u8 ((W (192+(W (Int.tdiv x0 64)))))),(u8 ((W (128+(Int.tmod x0 64)))))] ⟨E,E⟩ E E fun a7=>jG ?_)
   refine aB aA 1 [] [] [(2,.v (.slice a7 ([(u8 ((W (192+(W (Int.tdiv x0 64)))))),(u8 ((W (128+(Int.tmod x0 64)))))]:List UInt8).length ([(u8 ((W (192+(W (Int.tdiv x0 64)))))),(u8 ((W (128+(Int.tmod x0 64)))))]:List UInt8).length))] _ E ⟨⟨E,V⟩,E⟩ (aD E ?_)
   cases h
   exact JS.ret aA (a7,([(u8 ((W (192+(W (Int.tdiv x0 64)))))),(u8 ((W (128+(Int.tmod x0 64)))))]:List UInt8).length) V E E [0] E
  refine JS.skip (JS.seq (aC aA 2 [(23,.v (.bool (decide (x0<65536))))] ⟨⟨E,V⟩,E⟩ E E ?_))
  refine aK E h (fun h=>?_) (fun h=>?_)
  ·
   refine JS.seq (JS.region ?_)
   have g8:(4096:Int)≠0:=by decide
   have g9:(64:Int)≠0:=by decide
   have g10:(64:Int)≠0:=by decide
   have g11:(64:Int)≠0:=by decide
   refine aB aA 13 [(W (Int.tdiv x0 4096)),(W (224+(W (Int.tdiv x0 4096)))),((u8 ((W (224+(W (Int.tdiv x0 4096)))))).toNat:Int),(W (Int.tdiv x0 64)),(W (128+(Int.tmod (W (Int.tdiv x0 64)) 64))),((u8 ((W (128+(Int.tmod (W (Int.tdiv x0 64)) 64))))).toNat:Int),(W (128+(Int.tmod x0 64))),((u8 ((W (128+(Int.tmod x0 64))))).toNat:Int)] [] [(27,.v (.int .u8 ((u8 ((W (224+(W (Int.tdiv x0 4096)))))).toNat:Int))),(32,.v (.int .u8 ((u8 ((W (128+(Int.tmod (W (Int.tdiv x0 64)) 64))))).toNat:Int))),(36,.v (.int .u8 ((u8 ((W (128+(Int.tmod x0 64))))).toNat:Int)))] _ E ⟨⟨g8,E⟩,⟨V,E⟩,⟨V,eK _⟩,⟨g9,E⟩,g10,⟨V,E⟩,⟨V,eK _⟩,g11,⟨V,E⟩,⟨V,eK _⟩,(Es E),E⟩ ?_
   refine jH E (JK.buildSlice aA E E E E E E E E E E E [] E .byte [(u8 ((W (224+(W (Int.tdiv x0 4096)))))),(u8 ((W (128+(Int.tmod (W (Int.tdiv x0 64)) 64))))),(u8 ((W (128+(Int.tmod x0 64)))))] ⟨E,E⟩ E E fun a12=>jG ?_)
   refine aB aA 1 [] [] [(2,.v (.slice a12 ([(u8 ((W (224+(W (Int.tdiv x0 4096)))))),(u8 ((W (128+(Int.tmod (W (Int.tdiv x0 64)) 64))))),(u8 ((W (128+(Int.tmod x0 64)))))]:List UInt8).length ([(u8 ((W (224+(W (Int.tdiv x0 4096)))))),(u8 ((W (128+(Int.tmod (W (Int.tdiv x0 64)) 64))))),(u8 ((W (128+(Int.tmod x0 64)))))]:List UInt8).length))] _ E ⟨⟨E,V⟩,E⟩ (aD E ?_)
   cases h
   exact JS.ret aA (a12,([(u8 ((W (224+(W (Int.tdiv x0 4096)))))),(u8 ((W (128+(Int.tmod (W (Int.tdiv x0 64)) 64))))),(u8 ((W (128+(Int.tmod x0 64)))))]:List UInt8).length) V E E [0] E
  refine JS.skip (JS.seq (JS.region ?_))
  have g13:(262144:Int)≠0:=by decide
  have g14:(4096:Int)≠0:=by decide
  have g15:(64:Int)≠0:=by decide
  have g16:(64:Int)≠0:=by decide
  have g17:(64:Int)≠0:=by decide
  have g18:(64:Int)≠0:=by decide
  refine aB aA 18 [(W (Int.tdiv x0 262144)),(W (240+(W (Int.tdiv x0 262144)))),((u8 ((W (240+(W (Int.tdiv x0 262144)))))).toNat:Int),(W (Int.tdiv x0 4096)),(W (128+(Int.tmod (W (Int.tdiv x0 4096)) 64))),((u8 ((W (128+(Int.tmod (W (Int.tdiv x0 4096)) 64))))).toNat:Int),(W (Int.tdiv x0 64)),(W (128+(Int.tmod (W (Int.tdiv x0 64)) 64))),((u8 ((W (128+(Int.tmod (W (Int.tdiv x0 64)) 64))))).toNat:Int),(W (128+(Int.tmod x0 64))),((u8 ((W (128+(Int.tmod x0 64))))).toNat:Int)] [] [(41,.v (.int .u8 ((u8 ((W (240+(W (Int.tdiv x0 262144)))))).toNat:Int))),(46,.v (.int .u8 ((u8 ((W (128+(Int.tmod (W (Int.tdiv x0 4096)) 64))))).toNat:Int))),(51,.v (.int .u8 ((u8 ((W (128+(Int.tmod (W (Int.tdiv x0 64)) 64))))).toNat:Int))),(55,.v (.int .u8 ((u8 ((W (128+(Int.tmod x0 64))))).toNat:Int)))] _ E ⟨⟨g13,E⟩,⟨V,E⟩,⟨V,eK _⟩,⟨g14,E⟩,g15,⟨V,E⟩,⟨V,eK _⟩,⟨g16,E⟩,g17,⟨V,E⟩,⟨V,eK _⟩,g18,⟨V,E⟩,⟨V,eK _⟩,(Es E),E⟩ ?_
  refine jH E (JK.buildSlice aA E E E E E E E E E E E [] E .byte [(u8 ((W (240+(W (Int.tdiv x0 262144)))))),(u8 ((W (128+(Int.tmod (W (Int.tdiv x0 4096)) 64))))),(u8 ((W (128+(Int.tmod (W (Int.tdiv x0 64)) 64))))),(u8 ((W (128+(Int.tmod x0 64)))))] ⟨E,E⟩ E E fun a19=>jG ?_)
  refine aB aA 1 [] [] [(2,.v (.slice a19 ([(u8 ((W (240+(W (Int.tdiv x0 262144)))))),(u8 ((W (128+(Int.tmod (W (Int.tdiv x0 4096)) 64))))),(u8 ((W (128+(Int.tmod (W (Int.tdiv x0 64)) 64))))),(u8 ((W (128+(Int.tmod x0 64)))))]:List UInt8).length ([(u8 ((W (240+(W (Int.tdiv x0 262144)))))),(u8 ((W (128+(Int.tmod (W (Int.tdiv x0 4096)) 64))))),(u8 ((W (128+(Int.tmod (W (Int.tdiv x0 64)) 64))))),(u8 ((W (128+(Int.tmod x0 64)))))]:List UInt8).length))] _ E ⟨⟨E,V⟩,E⟩ (aD E ?_)
  cases h
  exact JS.ret aA (a19,([(u8 ((W (240+(W (Int.tdiv x0 262144)))))),(u8 ((W (128+(Int.tmod (W (Int.tdiv x0 4096)) 64))))),(u8 ((W (128+(Int.tmod (W (Int.tdiv x0 64)) 64))))),(u8 ((W (128+(Int.tmod x0 64)))))]:List UInt8).length) V E E [0] E

def dZ (x0:List UInt8) (x1:Int) (x7:Int) (j29:Int→Option (Int×Int)) (k24:(Int×Int)→Option (Int×Int)):(Int×Int)→Option (Int×Int):=fun (x19,x20)=>
  (bif (decide (x20<x7)) then
  (aN (0≤(W (x1+x20))∧(W (x1+x20))<(x0.length:Int)) <|
  k24 ((W ((W ((W (x19*64))+((at' x0 (W (x1+x20))).toNat:Int))) - 128)),(W (x20+1))))
  else
  j29 x19)

def fC (x0:List UInt8) (x1:Int) (j101:Unit→Option (Int×Int)) (k77:Int→Option (Int×Int)):Int→Option (Int×Int):=fun x7=>
  (bif (bif (decide (x7≤4)) then (decide (x7≤(W ((x0.length:Int) - x1)))) else false) then
  (aU (fun (_:Unit)=>
  k77 (W (x7+1))) fun j55=>
  (aN (0≤x1∧x1<(x0.length:Int)) <|
  (aU (fun (x15:Int)=>
  (aU (fun (x28:Int)=>
  (aG (mY x28) fun (y32:List UInt8)=>
  (aN (((decide ((y32.length:Int)=x7))=true)→0≤x1∧x1≤(W (x1+x7))∧(W (x1+x7))≤(x0.length:Int)) <|
  (bif (bif (decide ((y32.length:Int)=x7)) then (decide (y32=(bN x0 x1 (W (x1+x7))))) else false) then
  some (x28,x7)
  else
  j55 ())))) fun j29=>
  (bC (dZ x0 x1 x7 j29) bM (x15,1)))) fun j16=>
  (bif (decide (1<x7)) then
  (aN (0≤x7∧x7<(([0,0,192,224,240]:List Int).length:Int)) <|
  j16 (W (((at' x0 x1).toNat:Int) - (at' ([0,0,192,224,240]:List Int) x7))))
  else
  j16 ((at' x0 x1).toNat:Int)))))
  else
  j101 ())

def pD (x0:List UInt8) (x1:Int):Option (Int×Int):=
  (bif (bif (decide (x1<0)) then true else (decide ((x0.length:Int)≤x1))) then
  some (0,0)
  else
  (aU (fun (_:Unit)=>
  some (0,0)) fun j101=>
  (bC (fC x0 x1 j101) bM 1)))

theorem aGg (x0:List UInt8) (x1:Int) (a3:Option Addr) (c4:Nat) (r:Int×Int) (h:pD x0 x1=some r):
  FC Tryz.prog 231 [.slice a3 x0.length c4,.int .i64 x1] [⟨.byte,⟨a3,x0.length,c4⟩,x0⟩] (fun _:Unit=>True) (fun _=>.tuple #[.int .i64 r.1,.int .i64 r.2]) (fun _=>[]):=
 by
  refine FC.of (T:=TTx) Tryz.call231 Tryz.func231 E E fun w0=>?_
  unfold pD at h
  refine aC aA 2 [] ⟨V,E⟩ E E (JS.seq (aC aA 8 [(17,.v (.bool (bif (decide (x1<0)) then true else (decide ((x0.length:Int)≤x1)))))] ⟨⟨E,V⟩,E⟩ E E ?_))
  refine aK E h (fun h=>?_) (fun h=>?_)
  ·
   refine aC aA 2 [(4,.v (I 0)),(5,.v (I 0))] ⟨(Es E),E⟩ E E ?_
   cases h
   exact JS.ret aA () V E E [] E
  refine JS.skip (JS.seq (aC aA 1 [(6,.v (I 1))] ⟨⟨E,V⟩,E⟩ E E ?_))
  obtain ⟨j101,hj148,h⟩:=aQ h
  refine bA (ι:=Unit) ⟨fun _=>j101 ()=some r,fun _=>[],fun _=>.nil,fun _=>[],fun _=>[],fun _=>0⟩ ?_ ?_
  ·
   refine JS.loop (ι:=Nat×Int) ⟨fun z=>bC (fC x0 x1 j101) z.1 z.2=some r,fun z=>[(0,.v (.slice a3 x0.length c4)),(1,.v (I x1)),(6,.v (I z.2))],fun z=>.nil,fun z=>[⟨.byte,⟨a3,x0.length,c4⟩,x0⟩],fun z=>[],fun z=>z.1⟩ (bM,1) h (Es E) V [0] E [] E ?_
   rintro ⟨n78,x7⟩ h
   obtain ⟨n78,rfl,h⟩:=bH h
   rw [fC] at h
   refine JS.seq (sD aA 10 [(W ((x0.length:Int) - x1))] [] [(27,.v (.bool (bif (decide (x7≤4)) then (decide (x7≤(W ((x0.length:Int) - x1)))) else false)))] _ ⟨(fun q126=>⟨V,E⟩),⟨E,V⟩,E⟩ E E ?_)
   refine aK E h (fun h=>?_) (fun h=>?_)
   ·
    refine JS.skip (JS.seq ?_)
    obtain ⟨j55,hj146,h⟩:=aQ h
    refine bA (ι:=Unit) ⟨fun _=>j55 ()=some r,fun _=>[(0,.v (.slice a3 x0.length c4)),(1,.v (I x1)),(6,.v (I x7))],fun _=>.nil,fun _=>[⟨.byte,⟨a3,x0.length,c4⟩,x0⟩],fun _=>[],fun _=>0⟩ ?_ ?_
    ·
     refine JS.seq (JS.region (bJ 0 E fun hs127=>?_))
     obtain ⟨g10,h⟩:=aH h
     refine aB aA 3 [] [] [(32,.ep ⟨a3,x0.length,c4⟩ (Int.toNat x1*1))] _ E ⟨hs127.ix g10,⟨E,V⟩,E⟩ (JO.load aA E E E E E E E 0 E E (Int.toNat x1) 0 (at' x0 x1) ⟨bD g10,E⟩ E E (aB aA 2 [((at' x0 x1).toNat:Int)] [] [(7,.v (I ((at' x0 x1).toNat:Int)))] _ E ⟨⟨V,aFx _⟩,⟨E,V⟩,E⟩ (aD E ?_)))
     obtain ⟨j16,hj145,h⟩:=aQ h
     refine dM (ι:=Int) ⟨fun z=>j16 z=some r,fun z=>[(0,.v (.slice a3 x0.length c4)),(1,.v (I x1)),(6,.v (I x7)),(7,.v (I z))],fun z=>.nil,fun z=>[⟨.byte,⟨a3,x0.length,c4⟩,x0⟩],fun z=>[],fun z=>0⟩ ?_ ?_
     ·
      refine aC aA 2 [(36,.v (.bool (decide (1<x7))))] ⟨⟨E,V⟩,E⟩ E E ?_
      refine aK E h (fun h=>?_) (fun h=>?_)
      ·
       refine JS.region (aB aA 1 [] [] [(37,.v (I ((at' x0 x1).toNat:Int)))] _ E ⟨⟨E,V⟩,E⟩ ?_)
       refine jH E (JK.buildSlice aA E E E E E E E E E E E [] E (.int .i64) [0,0,192,224,240] ⟨E,E⟩ E E fun a11=>jG ?_)
       refine bJ 1 E fun hs128=>?_
       obtain ⟨g13,h⟩:=aH h
       refine aB aA 2 [] [] [(40,.ep ⟨a11,([0,0,192,224,240]:List Int).length,([0,0,192,224,240]:List Int).length⟩ (Int.toNat x7*1))] _ E ⟨hs128.ix g13,⟨E,V⟩,E⟩ (JO.load aA E E E E E E E 1 E E (Int.toNat x7) 0 (at' ([0,0,192,224,240]:List Int) x7) ⟨bD g13,E⟩ E E (aB aA 2 [(W (((at' x0 x1).toNat:Int) - (at' ([0,0,192,224,240]:List Int) x7)))] [] [(7,.v (I (W (((at' x0 x1).toNat:Int) - (at' ([0,0,192,224,240]:List Int) x7)))))] _ E ⟨⟨V,E⟩,⟨E,V⟩,E⟩ (aD E (aT (W (((at' x0 x1).toNat:Int) - (at' ([0,0,192,224,240]:List Int) x7))) h (Es E) V [0] E [] E))))
      refine JS.skip (aT ((at' x0 x1).toNat:Int) h (Es E) V [0] E [] E)
     rintro x15 h
     subst hj145
     refine JS.seq (aC aA 1 [(8,.v (I 1))] ⟨⟨E,V⟩,E⟩ E E ?_)
     obtain ⟨j29,hj144,h⟩:=aQ h
     refine bA (ι:=Int) ⟨fun z=>j29 z=some r,fun z=>[(0,.v (.slice a3 x0.length c4)),(1,.v (I x1)),(6,.v (I x7)),(7,.v (I z))],fun z=>.nil,fun z=>[⟨.byte,⟨a3,x0.length,c4⟩,x0⟩],fun z=>[],fun z=>0⟩ ?_ ?_
     ·
      refine JS.loop (ι:=Nat×Int×Int) ⟨fun z=>bC (dZ x0 x1 x7 j29) z.1 z.2=some r,fun z=>[(0,.v (.slice a3 x0.length c4)),(1,.v (I x1)),(6,.v (I x7)),(7,.v (I z.2.1)),(8,.v (I z.2.2))],fun z=>.nil,fun z=>[⟨.byte,⟨a3,x0.length,c4⟩,x0⟩],fun z=>[],fun z=>z.1⟩ (bM,x15,1) h (Es E) V [0] E [] E ?_
      rintro ⟨n25,x19,x20⟩ h
      obtain ⟨n25,rfl,h⟩:=bH h
      rw [dZ] at h
      refine JS.seq (aC aA 3 [(45,.v (.bool (decide (x20<x7))))] ⟨⟨E,V⟩,E⟩ E E ?_)
      refine aK E h (fun h=>?_) (fun h=>?_)
      ·
       refine JS.skip (JS.seq (JS.block (JS.region (bJ 0 E fun hs130=>?_))))
       obtain ⟨g22,h⟩:=aH h
       refine aB aA 7 [(W (x19*64)),(W (x1+x20))] [] [(49,.v (I (W (x19*64)))),(54,.ep ⟨a3,x0.length,c4⟩ (Int.toNat (W (x1+x20))*1))] _ E ⟨⟨V,E⟩,⟨V,E⟩,hs130.ix g22,(Es E),E⟩ (JO.load aA E E E E E E E 0 E E (Int.toNat (W (x1+x20))) 0 (at' x0 (W (x1+x20))) ⟨bD g22,E⟩ E E (aB aA 4 [((at' x0 (W (x1+x20))).toNat:Int),(W ((W (x19*64))+((at' x0 (W (x1+x20))).toNat:Int))),(W ((W ((W (x19*64))+((at' x0 (W (x1+x20))).toNat:Int))) - 128))] [] [(7,.v (I (W ((W ((W (x19*64))+((at' x0 (W (x1+x20))).toNat:Int))) - 128))))] _ E ⟨⟨V,aFx _⟩,⟨V,E⟩,⟨V,E⟩,⟨E,V⟩,E⟩ (aD E (aZ (bZ aA 3 [(W (x20+1))] [] [(8,.v (I (W (x20+1))))] _ ⟨⟨V,E⟩,⟨E,V⟩,E⟩ E E (bQ (n25,(W ((W ((W (x19*64))+((at' x0 (W (x1+x20))).toNat:Int))) - 128)),(W (x20+1))) h (Nat.lt_succ_self _) (Es E) V [0] E [] E))))))
      refine JS.exit E (aT x19 h (Es E) V [0] E [] E)
     rintro x28 h
     subst hj144
     refine JS.seq (JS.region (aB aA 1 [] [] [(59,.v (I x28))] _ E ⟨⟨E,V⟩,E⟩ ?_))
     refine bnw h fun y32 hy33 h=>JO.call E E E E (aEt x28 _ hy33) E [] E E ?_
     rintro ⟨a34,c35⟩ -
     refine aB aA 1 [] [] [(9,.v (.slice a34 y32.length c35))] _ E ⟨⟨E,V⟩,E⟩ (aD E (JS.seq ?_))
     obtain ⟨g37,h⟩:=aH h
     refine iC 0 E x1 (W (x1+x7)) fun a38 c39 hu40=>cD 1 E fun hs139=>?_
     refine bB E .nil [2,0] [14,15] V E (fun be49=>?_)
     refine bR aA aF true 5 [0,1,2,3,4,5,7,8,9,10,11] E (by kernel_rfl) [(W (x1+x7))] [(65,.v (.bool (decide ((y32.length:Int)=x7)))),(66,.cd [(65,true)] (.v (.slice a34 y32.length c35))),(68,.cd [(65,true)] (.v (.slice a3 x0.length c4))),(69,.cd [(65,true)] (.v (I x1))),(72,.cd [(65,true)] (.v (I (W (x1+x7)))))] V [2,0] E E ⟨(fun q141=>⟨V,E⟩),(Es E)⟩ (aF3 aA aF 6 E (by kernel_rfl) E E E E E E E 0 E E V [2,0] E (dB aA aF 12 E (by kernel_rfl) E E E E E E x1 (W (x1+x7)) E E (fun q142=>⟨(g37 q142).1,(g37 q142).2.1,(g37 q142).2.2,hs139.cap,hu40 (g37 q142)⟩) E (aF3 aA aF 13 E (by kernel_rfl) E E E E E E E 1 E E V [2,0] E (aS aA aF 0 [14,15] E (by kernel_rfl) [] [(76,.v (.bool (bif (decide ((y32.length:Int)=x7)) then (decide (y32=(bN x0 x1 (W (x1+x7))))) else false)))] E ⟨E,V⟩ (bE (by kernel_rfl) (aW (B':=.nil) V ?_))))))
     refine aK E h (fun h=>?_) (fun h=>?_)
     ·
      refine aC aA 4 [(4,.v (I x28)),(5,.v (I x7))] ⟨(Es E),E⟩ E E ?_
      cases h
      exact JS.ret aA () V E E [] E
     refine JS.skip (aZ (aT () h (Es E) V [1] E [] E))
    rintro _ h
    subst hj146
    refine bZ aA 3 [(W (x7+1))] [] [(6,.v (I (W (x7+1))))] _ ⟨⟨V,E⟩,⟨E,V⟩,E⟩ E E (bQ (n78,(W (x7+1))) h (Nat.lt_succ_self _) (Es E) V [0] E [] E)
   refine JS.exit E (aT () h V V [] E [] E)
  rintro _ h
  subst hj148
  refine aC aA 2 [(4,.v (I 0)),(5,.v (I 0))] ⟨(Es E),E⟩ E E ?_
  cases h
  exact JS.ret aA () V E E [] E

def iK (x0:List UInt8) (j30:(List Int)→Option (List Int×Bool)) (k23:(List Int×Int)→Option (List Int×Bool)):(List Int×Int)→Option (List Int×Bool):=fun (x8,x11)=>
  (bif (decide (x11<(x0.length:Int))) then
  (aG (pD x0 x11) fun (y12,y13)=>
  (bif (decide (y13=0)) then
  some ([],false)
  else
  (aN (x8.length+([y12]:List Int).length≤536870912) <|
  k23 ((x8 ++ ([y12]:List Int)),(W (x11+y13))))))
  else
  j30 x8)

def rO (x0:List UInt8):Option (List Int×Bool):=
  (bif (decide (65536<(x0.length:Int))) then
  some ([],false)
  else
  (aU (fun (x27:List Int)=>
  some (x27,true)) fun j30=>
  (bC (iK x0 j30) bM (([]:List Int),0))))

theorem aIl (x0:List UInt8) (r:List Int×Bool) (h:rO x0=some r) :
  FC Tryz.prog 134 [.string (bs x0)] [] (fun _:Option Addr×Nat=>True) (fun q=>.tuple #[.slice q.1 r.1.length q.2,.bool r.2]) (fun q=>[⟨(.int .i64),⟨q.1,r.1.length,q.2⟩,r.1⟩]):=
 by
  refine FC.of (T:=TTx) Tryz.call134 Tryz.func134 E E fun w0=>?_
  unfold rO at h
  refine aC aA 2 [] ⟨V,E⟩ E E (JS.seq (aC aA 3 [(11,.v (.bool (decide (65536<(x0.length:Int)))))] ⟨⟨E,V⟩,E⟩ E E ?_))
  refine aK E h (fun h=>?_) (fun h=>?_)
  ·
   refine aC aA 2 [(2,.v (.slice none 0 0)),(3,.v (.bool false))] ⟨(Es E),E⟩ E E ?_
   cases h
   refine aX (.int .i64) Sl.nil E E (JS.ret aA (none,0) V E E [0] E)
  refine JS.skip (JS.seq (JS.region (aB aA 1 [] [] [(12,.v (.string (bs x0)))] _ E ⟨⟨E,V⟩,E⟩ (aF0 aA E E E E E E E E E fun a2 c3=>aB aA 1 [] [] [(4,.v (.slice a2 x0.length c3))] _ E ⟨⟨E,V⟩,E⟩ (aD E (JS.seq (JS.region ?_)))))))
  refine jH E (JK.buildSlice aA E E E E E E E E E E E [] E (.int .i64) [] ⟨E,E⟩ E E fun a4=>jG ?_)
  refine aB aA 1 [] [] [(5,.v (.slice a4 ([]:List Int).length ([]:List Int).length))] _ E ⟨⟨E,V⟩,E⟩ (aD E (aC aA 1 [(6,.v (I 0))] ⟨⟨E,V⟩,E⟩ E E (JS.seq ?_)))
  obtain ⟨j30,hj37,h⟩:=aQ h
  refine bA (ι:=List Int×Option Addr×Nat) ⟨fun z=>j30 z.1=some r,fun z=>[(5,.v (.slice z.2.1 z.1.length z.2.2))],fun z=>.nil,fun z=>[],fun z=>[⟨(.int .i64),⟨z.2.1,z.1.length,z.2.2⟩,z.1⟩],fun z=>0⟩ ?_ ?_
  ·
   refine JS.loop (ι:=Nat×List Int×Int×Option Addr×Nat) ⟨fun z=>bC (iK x0 j30) z.1 (z.2.1,z.2.2.1)=some r,fun z=>[(4,.v (.slice a2 x0.length c3)),(5,.v (.slice z.2.2.2.1 z.2.1.length (Q4 z))),(6,.v (I z.2.2.1))],fun z=>.nil,fun z=>[],fun z=>[⟨(.int .i64),⟨z.2.2.2.1,z.2.1.length,(Q4 z)⟩,z.2.1⟩,⟨.byte,⟨a2,x0.length,c3⟩,x0⟩],fun z=>z.1⟩ (bM,([]:List Int),0,a4,([]:List Int).length) h (Es E) V [] E [0,0] E ?_
   rintro ⟨n24,x8,x11,a9,c10⟩ h
   obtain ⟨n24,rfl,h⟩:=bH h
   rw [iK] at h
   refine JS.seq (aC aA 4 [(18,.v (.bool (decide (x11<(x0.length:Int)))))] ⟨⟨E,V⟩,E⟩ E E ?_)
   refine aK E h (fun h=>?_) (fun h=>?_)
   ·
    refine JS.skip (JS.block (JS.seq (JS.region (aB aA 2 [] [] [(20,.v (.slice a2 x0.length c3)),(21,.v (I x11))] _ E ⟨(Es E),E⟩ ?_))))
    obtain ⟨⟨y12,y13⟩,hy14,h⟩:=aE h
    refine JO.call E E E E (aGg x0 x11 a2 c3 _ hy14) E [1] E E fun _ _=>aB aA 5 [] [] [(7,.v (I y12)),(8,.v (I y13))] _ E ⟨(Es E),E⟩ (aD E (JS.seq (aC aA 2 [(26,.v (.bool (decide (y13=0))))] ⟨⟨E,V⟩,E⟩ E E ?_)))
    refine aK E h (fun h=>?_) (fun h=>?_)
    ·
     refine aC aA 2 [(2,.v (.slice none 0 0)),(3,.v (.bool false))] ⟨(Es E),E⟩ E E ?_
     cases h
     refine aX (.int .i64) Sl.nil E E (JS.ret aA (none,0) V E E [0] E)
    refine JS.skip (JS.seq (JS.region (aB aA 2 [] [] [(27,.v (.slice a9 x8.length c10)),(28,.v (I y12))] _ E ⟨(Es E),E⟩ ?_)))
    refine jH E (JK.buildSlice aA E E E E E E E E E E E [] E (.int .i64) [y12] ⟨E,E⟩ E E fun a15=>jG ?_)
    obtain ⟨g16,h⟩:=aH h
    refine fP aA E E E E ⟨E,E,E,E,V,E,E,E,E⟩ E E E [1] E 0 E g16 E fun a17 c18=>aB aA 1 [] [] [(5,.v (.slice a17 (x8 ++ ([y12]:List Int)).length c18))] _ E ⟨⟨E,V⟩,E⟩ (aD E (bZ aA 4 [(W (x11+y13))] [] [(6,.v (I (W (x11+y13))))] _ ⟨⟨V,E⟩,⟨E,V⟩,E⟩ E E (aZ (bQ (n24,(x8 ++ ([y12]:List Int)),(W (x11+y13)),a17,c18) h (Nat.lt_succ_self _) (Es E) V [] E [0,1] E))))
   refine JS.exit E (aT (x8,a9,c10) h ⟨E,V⟩ V [] E [0] E)
  rintro ⟨x27,a28,c29⟩ h
  subst hj37
  refine aC aA 3 [(2,.v (.slice a28 x27.length c29)),(3,.v (.bool true))] ⟨(Es E),E⟩ E E ?_
  cases h
  exact JS.ret aA (a28,c29) V E E [0] E

def mF (x0:List Int×Int) (x1:Bool):Option ((List Int×Int)×Bool):=
  (bU ((!x1)=false) (dE x0) false fun (y7:Bool)=>
  (bif (bif (!x1) then true else (!y7)) then
  some (([],0),false)
  else
  some (x0,true)))

theorem aAv (x0:List Int×Int) (x1:Bool) (a3:Option Addr) (c4:Nat) (r:(List Int×Int)×Bool) (h:mF x0 x1=some r):
  FX Tryz.prog 135 [.agg #[.slice a3 x0.1.length c4,.int .i64 x0.2],.bool x1] [] [⟨(.int .i64),⟨a3,x0.1.length,c4⟩,x0.1⟩] (fun _:Option Addr×Nat=>True) (fun q=>.tuple #[.agg #[.slice q.1 r.1.1.length q.2,.int .i64 r.1.2],.bool r.2]) (fun q=>[⟨(.int .i64),⟨q.1,r.1.1.length,q.2⟩,r.1.1⟩]):=
 by
  refine FX.of (T:=TTx) Tryz.call135 Tryz.func135 E E fun w0 L0=>?_
  unfold mF at h
  refine aL aA 3 [] [2,3] [(2,.bp 2 0),(4,.bp 3 0)] (.new 2 38 [.slice a3 x0.1.length c4,.int .i64 x0.2] (.new 3 38 [.slice none 0 0,.int .i64 0] .nil)) ⟨(Es E),(Bs E E)⟩ E E (JS.seq (JS.seq (JS.region (aB aA 4 [] [] [(8,.v (.bool (!x1))),(9,.cd [(8,false)] (.v (.agg #[.slice a3 x0.1.length c4,.int .i64 x0.2])))] _ E ⟨(Es E),E⟩ ?_))))
  obtain ⟨y7,hy8,-,h⟩:=aV h
  refine bI E E E E (fun q11=>eO x0 a3 c4 _ (hy8 q11)) E [0] E E (aB aA 2 [] [] [(12,.v (.bool (bif (!x1) then true else (!y7))))] _ E ⟨⟨E,V⟩,E⟩ (aD E ?_))
  refine aK E h (fun h=>?_) (fun h=>?_)
  ·
   refine aL aA 3 [] [] [(5,.v (.bool false))] (.new 3 38 [.slice none 0 0,.int .i64 0] .nil) ⟨⟨E,V⟩,(Bs E E)⟩ E E ?_
   cases h
   refine aX (.int .i64) Sl.nil E E (gR aA (none,0) V E E [0] E)
  refine JS.skip (aL aA 3 [] [] [(5,.v (.bool true))] (.new 3 38 [.slice a3 x0.1.length c4,.int .i64 x0.2] .nil) ⟨⟨E,V⟩,(Bs E E)⟩ E E ?_)
  cases h
  exact gR aA (a3,c4) V E E [0] E

def tQ (x0:List UInt8):Option ((List Int×Int)×Bool):=
  (aG (rO x0) fun (y2,y3)=>
  (aG (mF (y2,(y2.length:Int)) y3) fun (y7,y8)=>
  some (y7,y8)))

theorem aKg (x0:List UInt8) (r:(List Int×Int)×Bool) (h:tQ x0=some r) :
  FC Tryz.prog 48 [.string (bs x0)] [] (fun _:Option Addr×Nat=>True) (fun q=>.tuple #[.agg #[.slice q.1 r.1.1.length q.2,.int .i64 r.1.2],.bool r.2]) (fun q=>[⟨(.int .i64),⟨q.1,r.1.1.length,q.2⟩,r.1.1⟩]):=
 by
  refine FC.of (T:=TTx) Tryz.call48 Tryz.func48 E E fun w0=>?_
  unfold tQ at h
  refine aL aA 2 [] [1] [(2,.bp 1 0)] (.new 1 38 [.slice none 0 0,.int .i64 0] .nil) ⟨⟨E,V⟩,(Bs E E)⟩ E E (JS.seq (JS.region (aB aA 1 [] [] [(7,.v (.string (bs x0)))] _ E ⟨⟨E,V⟩,E⟩ ?_)))
  obtain ⟨⟨y2,y3⟩,hy4,h⟩:=aE h
  refine JO.call E E E E (aIl x0 _ hy4) E [] E E ?_
  rintro ⟨a5,c6⟩ -
  refine aB aA 5 [] [] [(4,.v (.slice a5 y2.length c6)),(5,.v (.bool y3))] _ E ⟨(Es E),E⟩ (aD E (JS.seq (JS.region (aB aA 5 [] [] [(14,.v (.agg #[.slice a5 y2.length c6,.int .i64 (y2.length:Int)])),(15,.v (.bool y3))] _ E ⟨(Es E),E⟩ ?_))))
  obtain ⟨⟨y7,y8⟩,hy9,h⟩:=aE h
  refine eV E E E E (aAv (y2,(y2.length:Int)) y3 a5 c6 _ hy9) E [0] E [] E E ?_
  rintro ⟨a10,c11⟩ -
  refine aP aA 4 [] [] [(3,.v (.bool y8))] (.new 1 38 [.slice a10 y7.1.length c11,.int .i64 y7.2] .nil) E ⟨⟨E,V⟩,(Bs E E)⟩ (aD E ?_)
  cases h
  exact JS.ret aA (a10,c11) V E E [0] E

end
end Go.Eng
