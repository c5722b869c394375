/- The walks of the functions that FnExactViKey reaches: what each computes, as a plain function (M_..), and that the model computes it (ok_..). Condition of each: that the plain function answers. -/
import Derived.Test.YtlpgcohnjhomgaaGreatEngB
import Derived.Test.YtlpgcohnjhomgaaGreatChecked
set_option linter.unusedVariables false
set_option linter.unusedSimpArgs false
namespace Go.Eng
open Go Go.Proofs
noncomputable section

abbrev EdQ:=Bool×Int×(List Int×Int)×Int×Int×Int×Int×Int×Int×Int×List (List Int)×(List (List Int×Int))×Int×(List Int×Int)×List Int×Int×List Int×Int
@[reducible] def rM (x:EdQ) (a1:Option Addr) (c1:Nat) (a2:Option Addr) (c2:Nat) (a3:Option Addr) (c3:Nat) (a4:Option Addr) (c4:Nat) (a5:Option Addr) (c5:Nat) (a6:Option Addr) (c6:Nat):List Value:=[.bool x.1,.int .i64 x.2.1,.slice a1 x.2.2.1.1.length c1,.int .i64 x.2.2.1.2,.int .i64 x.2.2.2.1,.int .i64 x.2.2.2.2.1,.int .i64 x.2.2.2.2.2.1,.int .i64 x.2.2.2.2.2.2.1,.int .i64 x.2.2.2.2.2.2.2.1,.int .i64 x.2.2.2.2.2.2.2.2.1,.int .i64 x.2.2.2.2.2.2.2.2.2.1,.slice a2 x.2.2.2.2.2.2.2.2.2.2.1.length c2,.slice a3 x.2.2.2.2.2.2.2.2.2.2.2.1.length c3,.int .i64 x.2.2.2.2.2.2.2.2.2.2.2.2.1,.slice a4 x.2.2.2.2.2.2.2.2.2.2.2.2.2.1.1.length c4,.int .i64 x.2.2.2.2.2.2.2.2.2.2.2.2.2.1.2,.slice a5 x.2.2.2.2.2.2.2.2.2.2.2.2.2.2.1.length c5,.int .i64 x.2.2.2.2.2.2.2.2.2.2.2.2.2.2.2.1,.slice a6 x.2.2.2.2.2.2.2.2.2.2.2.2.2.2.2.2.1.length c6,.int .i64 x.2.2.2.2.2.2.2.2.2.2.2.2.2.2.2.2.2]
@[reducible] def rL (x:EdQ) (a1:Option Addr) (c1:Nat) (a2:Option Addr) (c2:Nat) (a3:Option Addr) (c3:Nat) (a4:Option Addr) (c4:Nat) (a5:Option Addr) (c5:Nat) (a6:Option Addr) (c6:Nat):List Value:=[.bool x.1,.int .i64 x.2.1,.slice a1 x.2.2.1.1.length c1,.int .i64 x.2.2.1.2,.int .i64 x.2.2.2.1,.int .i64 x.2.2.2.2.1,.int .i64 x.2.2.2.2.2.1,.int .i64 x.2.2.2.2.2.2.1,.int .i64 x.2.2.2.2.2.2.2.1,.int .i64 x.2.2.2.2.2.2.2.2.1,.int .i64 x.2.2.2.2.2.2.2.2.2.1,.slice a2 x.2.2.2.2.2.2.2.2.2.2.1.length c2,.slice a3 x.2.2.2.2.2.2.2.2.2.2.2.1.length c3,.int .i64 x.2.2.2.2.2.2.2.2.2.2.2.2.1,.slice a4 x.2.2.2.2.2.2.2.2.2.2.2.2.2.1.1.length c4,.int .i64 x.2.2.2.2.2.2.2.2.2.2.2.2.2.1.2,.slice a5 x.2.2.2.2.2.2.2.2.2.2.2.2.2.2.1.length c5,.int .i64 x.2.2.2.2.2.2.2.2.2.2.2.2.2.2.2.1,.slice a6 x.2.2.2.2.2.2.2.2.2.2.2.2.2.2.2.2.1.length c6,.int .i64 x.2.2.2.2.2.2.2.2.2.2.2.2.2.2.2.2.2]
theorem E {α:Sort _} {a:α}:a=a:=rfl
theorem V:True:=trivial
theorem ev1 {c:Sort _} {a:c} {d:Sort _} {b:d}:((a=a∧True)∧b=b):=⟨⟨E,V⟩,E⟩
theorem ev2 {b:Sort _} {a:b}:(a=a∧True):=⟨E,V⟩
theorem ev3 {d:Sort _} {a:d} {e:Sort _} {b:e} {f:Sort _} {c:f}:((True∧a=a)∧(b=b∧True)∧c=c):=⟨⟨V,E⟩,⟨E,V⟩,E⟩
theorem ev4 {e:Sort _} {a:e} {f:Sort _} {b:f} {g:Sort _} {c:g} {h:Sort _} {d:h}:(a=a∧b=b∧c=c∧d=d∧True):=⟨E,E,E,E,V⟩
theorem ev5 {b:Sort _} {a:b}:(True∧a=a):=⟨V,E⟩
theorem ev6 {i:Sort _} {a:i} {j:Sort _} {b:j} {k:Sort _} {c:k} {l:Sort _} {d:l} {m:Sort _} {e:m} {n:Sort _} {f:n} {o:Sort _} {g:o} {p:Sort _} {h:p}:(a=a∧b=b∧c=c∧d=d∧e=e∧f=f∧g=g∧h=h∧True):=⟨E,E,E,E,E,E,E,E,V⟩
theorem ev7 {m:Sort _} {a:m} {n:Sort _} {b:n} {o:Sort _} {c:o} {p:Sort _} {d:p} {q:Sort _} {e:q} {r:Sort _} {f:r} {s:Sort _} {g:s} {t:Sort _} {h:t} {u:Sort _} {i:u} {v:Sort _} {j:v} {w:Sort _} {k:w} {x:Sort _} {l:x}:(a=a∧b=b∧c=c∧d=d∧e=e∧f=f∧g=g∧h=h∧i=i∧j=j∧k=k∧l=l∧True):=⟨E,E,E,E,E,E,E,E,E,E,E,E,V⟩
theorem ev8 {d:Sort _} {a:d} {e:Sort _} {b:e} {f:Sort _} {c:f}:(a=a∧b=b∧c=c):=⟨E,E,E⟩
theorem ev9 {c:Sort _} {a:c} {d:Sort _} {b:d}:(a=a∧b=b):=⟨E,E⟩
@[reducible] def I (x:Int):Value:=.int .i64 x
@[reducible] def sL {α:Type} (a:Option Addr) (x:List α) (c:Nat):Value:=.slice a x.length c
@[reducible] def iT:Ty:=.int .i64
@[reducible] def fI (a:Option Addr) (c:Nat) (x:List Int):Fact:=⟨.int .i64,⟨a,x.length,c⟩,x⟩
abbrev Q4 {A0 A1 A2 A3 A4:Type} (x:A0×A1×A2×A3×A4):A4:=x.2.2.2.2
abbrev Q8 {A0 A1 A2 A3 A4 A5 A6 A7 A8:Type} (x:A0×A1×A2×A3×A4×A5×A6×A7×A8):A8:=x.2.2.2.2.2.2.2.2
abbrev Q12 {A0 A1 A2 A3 A4 A5 A6 A7 A8 A9 A10 A11 A12:Type} (x:A0×A1×A2×A3×A4×A5×A6×A7×A8×A9×A10×A11×A12):A12:=x.2.2.2.2.2.2.2.2.2.2.2.2
abbrev Q16 {A0 A1 A2 A3 A4 A5 A6 A7 A8 A9 A10 A11 A12 A13 A14 A15 A16:Type} (x:A0×A1×A2×A3×A4×A5×A6×A7×A8×A9×A10×A11×A12×A13×A14×A15×A16):A16:=x.2.2.2.2.2.2.2.2.2.2.2.2.2.2.2.2
@[reducible] def cz32:List Value:=rM (false,0,([],0),0,0,0,0,0,0,0,[],[],0,([],0),[],0,([],0)) none 0 none 0 none 0 none 0 none 0 none 0
@[reducible] def bA:List Value:=rL (false,0,([],0),0,0,0,0,0,0,0,[],[],0,([],0),[],0,([],0)) none 0 none 0 none 0 none 0 none 0 none 0
@[reducible] def fl32 (x:EdQ) (a0:Option Addr) (c0:Nat) (a1:Option Addr) (c1:Nat) (a2:Option Addr) (c2:Nat) (a3:Option Addr) (c3:Nat) (a4:Option Addr) (c4:Nat) (a5:Option Addr) (c5:Nat) (l:List Fact):List Fact:=fI a0 c0 x.2.2.1.1 :: ⟨(.sl iT),⟨a1,x.2.2.2.2.2.2.2.2.2.2.1.length,c1⟩,x.2.2.2.2.2.2.2.2.2.2.1⟩ :: ⟨(.pair (.sl iT) iT),⟨a2,x.2.2.2.2.2.2.2.2.2.2.2.1.length,c2⟩,x.2.2.2.2.2.2.2.2.2.2.2.1⟩ :: fI a3 c3 x.2.2.2.2.2.2.2.2.2.2.2.2.2.1.1 :: fI a4 c4 x.2.2.2.2.2.2.2.2.2.2.2.2.2.2.1 :: fI a5 c5 x.2.2.2.2.2.2.2.2.2.2.2.2.2.2.2.2.1 :: l
@[reducible] def fl46 (x:EdQ) (a0:Option Addr) (c0:Nat) (a1:Option Addr) (c1:Nat) (a2:Option Addr) (c2:Nat) (a3:Option Addr) (c3:Nat) (a4:Option Addr) (c4:Nat) (a5:Option Addr) (c5:Nat) (l:List Fact):List Fact:=fI a0 c0 x.2.2.1.1 :: ⟨(.sl iT),⟨a1,x.2.2.2.2.2.2.2.2.2.2.1.length,c1⟩,x.2.2.2.2.2.2.2.2.2.2.1⟩ :: ⟨(.pair (.sl iT) iT),⟨a2,x.2.2.2.2.2.2.2.2.2.2.2.1.length,c2⟩,x.2.2.2.2.2.2.2.2.2.2.2.1⟩ :: fI a3 c3 x.2.2.2.2.2.2.2.2.2.2.2.2.2.1.1 :: fI a4 c4 x.2.2.2.2.2.2.2.2.2.2.2.2.2.2.1 :: fI a5 c5 x.2.2.2.2.2.2.2.2.2.2.2.2.2.2.2.2.1 :: l
abbrev P6:=Option Addr×Nat×Option Addr×Nat×Option Addr×Nat×Option Addr×Nat×Option Addr×Nat×Option Addr×Nat
@[reducible] def cD (x:EdQ) (p:P6):List Value:=rM x p.1 p.2.1 p.2.2.1 p.2.2.2.1 p.2.2.2.2.1 p.2.2.2.2.2.1 p.2.2.2.2.2.2.1 p.2.2.2.2.2.2.2.1 p.2.2.2.2.2.2.2.2.1 p.2.2.2.2.2.2.2.2.2.1 p.2.2.2.2.2.2.2.2.2.2.1 p.2.2.2.2.2.2.2.2.2.2.2
@[reducible] def bP (x:EdQ) (p:P6) (l:List Fact):List Fact:=fl32 x p.1 p.2.1 p.2.2.1 p.2.2.2.1 p.2.2.2.2.1 p.2.2.2.2.2.1 p.2.2.2.2.2.2.1 p.2.2.2.2.2.2.2.1 p.2.2.2.2.2.2.2.2.1 p.2.2.2.2.2.2.2.2.2.1 p.2.2.2.2.2.2.2.2.2.2.1 p.2.2.2.2.2.2.2.2.2.2.2 l
@[reducible] def aG (x:EdQ) (p:P6):List Value:=rL x p.1 p.2.1 p.2.2.1 p.2.2.2.1 p.2.2.2.2.1 p.2.2.2.2.2.1 p.2.2.2.2.2.2.1 p.2.2.2.2.2.2.2.1 p.2.2.2.2.2.2.2.2.1 p.2.2.2.2.2.2.2.2.2.1 p.2.2.2.2.2.2.2.2.2.2.1 p.2.2.2.2.2.2.2.2.2.2.2
@[reducible] def fL46 (x:EdQ) (p:P6) (l:List Fact):List Fact:=fl46 x p.1 p.2.1 p.2.2.1 p.2.2.2.1 p.2.2.2.2.1 p.2.2.2.2.2.1 p.2.2.2.2.2.2.1 p.2.2.2.2.2.2.2.1 p.2.2.2.2.2.2.2.2.1 p.2.2.2.2.2.2.2.2.2.1 p.2.2.2.2.2.2.2.2.2.2.1 p.2.2.2.2.2.2.2.2.2.2.2 l
abbrev U1 {A0 A1 R:Type} (x:A0×A1×R) (v:A1):A0×A1×R:=(x.1,v,x.2.2)
abbrev U2 {A0 A1 A2 R:Type} (x:A0×A1×A2×R) (v:A2):A0×A1×A2×R:=(x.1,x.2.1,v,x.2.2.2)
abbrev U3 {A0 A1 A2 A3 R:Type} (x:A0×A1×A2×A3×R) (v:A3):A0×A1×A2×A3×R:=(x.1,x.2.1,x.2.2.1,v,x.2.2.2.2)
abbrev U4 {A0 A1 A2 A3 A4 R:Type} (x:A0×A1×A2×A3×A4×R) (v:A4):A0×A1×A2×A3×A4×R:=(x.1,x.2.1,x.2.2.1,x.2.2.2.1,v,x.2.2.2.2.2)
abbrev U5 {A0 A1 A2 A3 A4 A5 R:Type} (x:A0×A1×A2×A3×A4×A5×R) (v:A5):A0×A1×A2×A3×A4×A5×R:=(x.1,x.2.1,x.2.2.1,x.2.2.2.1,x.2.2.2.2.1,v,x.2.2.2.2.2.2)
abbrev U6 {A0 A1 A2 A3 A4 A5 A6 R:Type} (x:A0×A1×A2×A3×A4×A5×A6×R) (v:A6):A0×A1×A2×A3×A4×A5×A6×R:=(x.1,x.2.1,x.2.2.1,x.2.2.2.1,x.2.2.2.2.1,x.2.2.2.2.2.1,v,x.2.2.2.2.2.2.2)
abbrev U7 {A0 A1 A2 A3 A4 A5 A6 A7 R:Type} (x:A0×A1×A2×A3×A4×A5×A6×A7×R) (v:A7):A0×A1×A2×A3×A4×A5×A6×A7×R:=(x.1,x.2.1,x.2.2.1,x.2.2.2.1,x.2.2.2.2.1,x.2.2.2.2.2.1,x.2.2.2.2.2.2.1,v,x.2.2.2.2.2.2.2.2)
abbrev U8 {A0 A1 A2 A3 A4 A5 A6 A7 A8 R:Type} (x:A0×A1×A2×A3×A4×A5×A6×A7×A8×R) (v:A8):A0×A1×A2×A3×A4×A5×A6×A7×A8×R:=(x.1,x.2.1,x.2.2.1,x.2.2.2.1,x.2.2.2.2.1,x.2.2.2.2.2.1,x.2.2.2.2.2.2.1,x.2.2.2.2.2.2.2.1,v,x.2.2.2.2.2.2.2.2.2)
abbrev U9 {A0 A1 A2 A3 A4 A5 A6 A7 A8 A9 R:Type} (x:A0×A1×A2×A3×A4×A5×A6×A7×A8×A9×R) (v:A9):A0×A1×A2×A3×A4×A5×A6×A7×A8×A9×R:=(x.1,x.2.1,x.2.2.1,x.2.2.2.1,x.2.2.2.2.1,x.2.2.2.2.2.1,x.2.2.2.2.2.2.1,x.2.2.2.2.2.2.2.1,x.2.2.2.2.2.2.2.2.1,v,x.2.2.2.2.2.2.2.2.2.2)
abbrev U10 {A0 A1 A2 A3 A4 A5 A6 A7 A8 A9 A10 R:Type} (x:A0×A1×A2×A3×A4×A5×A6×A7×A8×A9×A10×R) (v:A10):A0×A1×A2×A3×A4×A5×A6×A7×A8×A9×A10×R:=(x.1,x.2.1,x.2.2.1,x.2.2.2.1,x.2.2.2.2.1,x.2.2.2.2.2.1,x.2.2.2.2.2.2.1,x.2.2.2.2.2.2.2.1,x.2.2.2.2.2.2.2.2.1,x.2.2.2.2.2.2.2.2.2.1,v,x.2.2.2.2.2.2.2.2.2.2.2)
abbrev U11 {A0 A1 A2 A3 A4 A5 A6 A7 A8 A9 A10 A11 R:Type} (x:A0×A1×A2×A3×A4×A5×A6×A7×A8×A9×A10×A11×R) (v:A11):A0×A1×A2×A3×A4×A5×A6×A7×A8×A9×A10×A11×R:=(x.1,x.2.1,x.2.2.1,x.2.2.2.1,x.2.2.2.2.1,x.2.2.2.2.2.1,x.2.2.2.2.2.2.1,x.2.2.2.2.2.2.2.1,x.2.2.2.2.2.2.2.2.1,x.2.2.2.2.2.2.2.2.2.1,x.2.2.2.2.2.2.2.2.2.2.1,v,x.2.2.2.2.2.2.2.2.2.2.2.2)
abbrev U12 {A0 A1 A2 A3 A4 A5 A6 A7 A8 A9 A10 A11 A12 R:Type} (x:A0×A1×A2×A3×A4×A5×A6×A7×A8×A9×A10×A11×A12×R) (v:A12):A0×A1×A2×A3×A4×A5×A6×A7×A8×A9×A10×A11×A12×R:=(x.1,x.2.1,x.2.2.1,x.2.2.2.1,x.2.2.2.2.1,x.2.2.2.2.2.1,x.2.2.2.2.2.2.1,x.2.2.2.2.2.2.2.1,x.2.2.2.2.2.2.2.2.1,x.2.2.2.2.2.2.2.2.2.1,x.2.2.2.2.2.2.2.2.2.2.1,x.2.2.2.2.2.2.2.2.2.2.2.1,v,x.2.2.2.2.2.2.2.2.2.2.2.2.2)
abbrev U13 {A0 A1 A2 A3 A4 A5 A6 A7 A8 A9 A10 A11 A12 A13 R:Type} (x:A0×A1×A2×A3×A4×A5×A6×A7×A8×A9×A10×A11×A12×A13×R) (v:A13):A0×A1×A2×A3×A4×A5×A6×A7×A8×A9×A10×A11×A12×A13×R:=(x.1,x.2.1,x.2.2.1,x.2.2.2.1,x.2.2.2.2.1,x.2.2.2.2.2.1,x.2.2.2.2.2.2.1,x.2.2.2.2.2.2.2.1,x.2.2.2.2.2.2.2.2.1,x.2.2.2.2.2.2.2.2.2.1,x.2.2.2.2.2.2.2.2.2.2.1,x.2.2.2.2.2.2.2.2.2.2.2.1,x.2.2.2.2.2.2.2.2.2.2.2.2.1,v,x.2.2.2.2.2.2.2.2.2.2.2.2.2.2)
abbrev U14 {A0 A1 A2 A3 A4 A5 A6 A7 A8 A9 A10 A11 A12 A13 A14 R:Type} (x:A0×A1×A2×A3×A4×A5×A6×A7×A8×A9×A10×A11×A12×A13×A14×R) (v:A14):A0×A1×A2×A3×A4×A5×A6×A7×A8×A9×A10×A11×A12×A13×A14×R:=(x.1,x.2.1,x.2.2.1,x.2.2.2.1,x.2.2.2.2.1,x.2.2.2.2.2.1,x.2.2.2.2.2.2.1,x.2.2.2.2.2.2.2.1,x.2.2.2.2.2.2.2.2.1,x.2.2.2.2.2.2.2.2.2.1,x.2.2.2.2.2.2.2.2.2.2.1,x.2.2.2.2.2.2.2.2.2.2.2.1,x.2.2.2.2.2.2.2.2.2.2.2.2.1,x.2.2.2.2.2.2.2.2.2.2.2.2.2.1,v,x.2.2.2.2.2.2.2.2.2.2.2.2.2.2.2)
def TTx:TT:=[
  (2,⟨.int .i64,1,8,[I 0]⟩),
  (3,⟨.int .i64,1,8,[I 0]⟩),
  (4,⟨.bool,1,1,[.bool false]⟩),
  (5,⟨.int .u8,1,1,[.int .u8 0]⟩),
  (6,⟨.int .u8,1,1,[.int .u8 0]⟩),
  (7,⟨.struct [(0,2),(1,3),(2,4),(3,6)],4,24,[I 0,I 0,.bool false,.int .u8 0]⟩),
  (8,⟨.struct [(0,2),(1,3),(2,4),(3,6)],4,24,[I 0,I 0,.bool false,.int .u8 0]⟩),
  (9,⟨.str,1,16,[.string ByteArray.empty]⟩),
  (10,⟨.str,1,16,[.string ByteArray.empty]⟩),
  (11,⟨.str,1,16,[.string ByteArray.empty]⟩),
  (12,⟨.int .u64,1,8,[.int .u64 0]⟩),
  (13,⟨.struct [(0,9),(1,12)],2,24,[.string ByteArray.empty,.int .u64 0]⟩),
  (14,⟨.struct [(0,9),(1,12)],2,24,[.string ByteArray.empty,.int .u64 0]⟩),
  (21,⟨.int .i32,1,4,[.int .i32 0]⟩),
  (22,⟨.slice 3,1,24,[.slice none 0 0]⟩),
  (23,⟨.struct [(0,22),(1,3)],2,32,[.slice none 0 0,I 0]⟩),
  (24,⟨.struct [(0,22),(1,3)],2,32,[.slice none 0 0,I 0]⟩),
  (25,⟨.slice 193,1,24,[.slice none 0 0]⟩),
  (26,⟨.struct [(0,25)],1,24,[.slice none 0 0]⟩),
  (27,⟨.struct [(0,25)],1,24,[.slice none 0 0]⟩),
  (28,⟨.slice 24,1,24,[.slice none 0 0]⟩),
  (29,⟨.struct [(0,28)],1,24,[.slice none 0 0]⟩),
  (30,⟨.struct [(0,28)],1,24,[.slice none 0 0]⟩),
  (31,⟨.struct [(0,4),(1,3),(2,24),(4,3),(5,3),(6,3),(7,3),(8,3),(9,3),(10,3),(11,27),(12,30),(13,3),(14,24),(16,22),(17,3),(18,24)],20,256,[.bool false,I 0,.slice none 0 0,I 0,I 0,I 0,I 0,I 0,I 0,I 0,I 0,.slice none 0 0,.slice none 0 0,I 0,.slice none 0 0,I 0,.slice none 0 0,I 0,.slice none 0 0,I 0]⟩),
  (32,⟨.struct [(0,4),(1,3),(2,24),(4,3),(5,3),(6,3),(7,3),(8,3),(9,3),(10,3),(11,27),(12,30),(13,3),(14,24),(16,22),(17,3),(18,24)],20,256,[.bool false,I 0,.slice none 0 0,I 0,I 0,I 0,I 0,I 0,I 0,I 0,I 0,.slice none 0 0,.slice none 0 0,I 0,.slice none 0 0,I 0,.slice none 0 0,I 0,.slice none 0 0,I 0]⟩),
  (33,⟨.slice 9,1,24,[.slice none 0 0]⟩),
  (34,⟨.struct [(0,3),(1,33)],2,32,[I 0,.slice none 0 0]⟩),
  (35,⟨.struct [(0,3),(1,33)],2,32,[I 0,.slice none 0 0]⟩),
  (38,⟨.struct [(0,22),(1,3)],2,32,[.slice none 0 0,I 0]⟩),
  (39,⟨.slice 174,1,24,[.slice none 0 0]⟩),
  (40,⟨.struct [(0,39)],1,24,[.slice none 0 0]⟩),
  (41,⟨.struct [(0,39)],1,24,[.slice none 0 0]⟩),
  (42,⟨.slice 38,1,24,[.slice none 0 0]⟩),
  (43,⟨.struct [(0,42)],1,24,[.slice none 0 0]⟩),
  (44,⟨.struct [(0,42)],1,24,[.slice none 0 0]⟩),
  (45,⟨.struct [(0,4),(1,3),(2,38),(4,3),(5,3),(6,3),(7,3),(8,3),(9,3),(10,3),(11,41),(12,44),(13,3),(14,38),(16,22),(17,3),(18,38)],20,256,[.bool false,I 0,.slice none 0 0,I 0,I 0,I 0,I 0,I 0,I 0,I 0,I 0,.slice none 0 0,.slice none 0 0,I 0,.slice none 0 0,I 0,.slice none 0 0,I 0,.slice none 0 0,I 0]⟩),
  (46,⟨.struct [(0,4),(1,3),(2,38),(4,3),(5,3),(6,3),(7,3),(8,3),(9,3),(10,3),(11,41),(12,44),(13,3),(14,38),(16,22),(17,3),(18,38)],20,256,[.bool false,I 0,.slice none 0 0,I 0,I 0,I 0,I 0,I 0,I 0,I 0,I 0,.slice none 0 0,.slice none 0 0,I 0,.slice none 0 0,I 0,.slice none 0 0,I 0,.slice none 0 0,I 0]⟩),
  (50,⟨.struct [(0,3),(1,33)],2,32,[I 0,.slice none 0 0]⟩),
  (60,⟨.struct [(0,3),(1,3)],2,16,[I 0,I 0]⟩),
  (61,⟨.struct [(0,3),(1,3)],2,16,[I 0,I 0]⟩),
  (64,⟨.struct [(0,3),(1,3)],2,16,[I 0,I 0]⟩),
  (69,⟨.slice 5,1,24,[.slice none 0 0]⟩),
  (73,⟨.slice 64,1,24,[.slice none 0 0]⟩),
  (74,⟨.slice 4,1,24,[.slice none 0 0]⟩),
  (163,⟨.struct [(0,69),(1,3),(2,3)],3,40,[.slice none 0 0,I 0,I 0]⟩),
  (164,⟨.struct [(0,69),(1,3),(2,3)],3,40,[.slice none 0 0,I 0,I 0]⟩),
  (173,⟨.struct [(0,22)],1,24,[.slice none 0 0]⟩),
  (174,⟨.struct [(0,22)],1,24,[.slice none 0 0]⟩),
  (193,⟨.struct [(0,22)],1,24,[.slice none 0 0]⟩),
  (197,⟨.int .u64,1,8,[.int .u64 0]⟩),
  (214,⟨.int .u32,1,4,[.int .u32 0]⟩),
  (225,⟨.int .u8,1,1,[.int .u8 0]⟩),
  (226,⟨.int .u8,1,1,[.int .u8 0]⟩),
  (229,⟨.int .i32,1,4,[.int .i32 0]⟩),
  (230,⟨.int .i32,1,4,[.int .i32 0]⟩)]

set_option maxRecDepth 100000 in
theorem aA:cT Tryz.prog TTx:=cT.of (by
  simp only [TTx,List.forall_mem_cons]
  exact ⟨⟨⟨_,_,rfl,rfl,rfl,rfl,rfl⟩,rfl⟩,⟨⟨_,_,rfl,rfl,rfl,rfl,rfl⟩,rfl⟩,⟨⟨_,_,rfl,rfl,rfl,rfl,rfl⟩,rfl⟩,⟨⟨_,_,rfl,rfl,rfl,rfl,rfl⟩,rfl⟩,⟨⟨_,_,rfl,rfl,rfl,rfl,rfl⟩,rfl⟩,⟨⟨_,_,rfl,rfl,rfl,rfl,rfl⟩,⟨_,rfl,rfl⟩⟩,⟨⟨_,_,rfl,rfl,rfl,rfl,rfl⟩,⟨_,rfl,rfl⟩⟩,⟨⟨_,_,rfl,rfl,rfl,rfl,rfl⟩,rfl⟩,⟨⟨_,_,rfl,rfl,rfl,rfl,rfl⟩,rfl⟩,⟨⟨_,_,rfl,rfl,rfl,rfl,rfl⟩,rfl⟩,⟨⟨_,_,rfl,rfl,rfl,rfl,rfl⟩,rfl⟩,⟨⟨_,_,rfl,rfl,rfl,rfl,rfl⟩,⟨_,rfl,rfl⟩⟩,⟨⟨_,_,rfl,rfl,rfl,rfl,rfl⟩,⟨_,rfl,rfl⟩⟩,⟨⟨_,_,rfl,rfl,rfl,rfl,rfl⟩,rfl⟩,⟨⟨_,_,rfl,rfl,rfl,rfl,rfl⟩,rfl⟩,⟨⟨_,_,rfl,rfl,rfl,rfl,rfl⟩,⟨_,rfl,rfl⟩⟩,⟨⟨_,_,rfl,rfl,rfl,rfl,rfl⟩,⟨_,rfl,rfl⟩⟩,⟨⟨_,_,rfl,rfl,rfl,rfl,rfl⟩,rfl⟩,⟨⟨_,_,rfl,rfl,rfl,rfl,rfl⟩,⟨_,rfl,rfl⟩⟩,⟨⟨_,_,rfl,rfl,rfl,rfl,rfl⟩,⟨_,rfl,rfl⟩⟩,⟨⟨_,_,rfl,rfl,rfl,rfl,rfl⟩,rfl⟩,⟨⟨_,_,rfl,rfl,rfl,rfl,rfl⟩,⟨_,rfl,rfl⟩⟩,⟨⟨_,_,rfl,rfl,rfl,rfl,rfl⟩,⟨_,rfl,rfl⟩⟩,⟨⟨_,_,rfl,rfl,rfl,rfl,rfl⟩,⟨_,rfl,rfl⟩⟩,⟨⟨_,_,rfl,rfl,rfl,rfl,rfl⟩,⟨_,rfl,rfl⟩⟩,⟨⟨_,_,rfl,rfl,rfl,rfl,rfl⟩,rfl⟩,⟨⟨_,_,rfl,rfl,rfl,rfl,rfl⟩,⟨_,rfl,rfl⟩⟩,⟨⟨_,_,rfl,rfl,rfl,rfl,rfl⟩,⟨_,rfl,rfl⟩⟩,⟨⟨_,_,rfl,rfl,rfl,rfl,rfl⟩,⟨_,rfl,rfl⟩⟩,⟨⟨_,_,rfl,rfl,rfl,rfl,rfl⟩,rfl⟩,⟨⟨_,_,rfl,rfl,rfl,rfl,rfl⟩,⟨_,rfl,rfl⟩⟩,⟨⟨_,_,rfl,rfl,rfl,rfl,rfl⟩,⟨_,rfl,rfl⟩⟩,⟨⟨_,_,rfl,rfl,rfl,rfl,rfl⟩,rfl⟩,⟨⟨_,_,rfl,rfl,rfl,rfl,rfl⟩,⟨_,rfl,rfl⟩⟩,⟨⟨_,_,rfl,rfl,rfl,rfl,rfl⟩,⟨_,rfl,rfl⟩⟩,⟨⟨_,_,rfl,rfl,rfl,rfl,rfl⟩,⟨_,rfl,rfl⟩⟩,⟨⟨_,_,rfl,rfl,rfl,rfl,rfl⟩,⟨_,rfl,rfl⟩⟩,⟨⟨_,_,rfl,rfl,rfl,rfl,rfl⟩,⟨_,rfl,rfl⟩⟩,⟨⟨_,_,rfl,rfl,rfl,rfl,rfl⟩,⟨_,rfl,rfl⟩⟩,⟨⟨_,_,rfl,rfl,rfl,rfl,rfl⟩,⟨_,rfl,rfl⟩⟩,⟨⟨_,_,rfl,rfl,rfl,rfl,rfl⟩,⟨_,rfl,rfl⟩⟩,⟨⟨_,_,rfl,rfl,rfl,rfl,rfl⟩,rfl⟩,⟨⟨_,_,rfl,rfl,rfl,rfl,rfl⟩,rfl⟩,⟨⟨_,_,rfl,rfl,rfl,rfl,rfl⟩,rfl⟩,⟨⟨_,_,rfl,rfl,rfl,rfl,rfl⟩,⟨_,rfl,rfl⟩⟩,⟨⟨_,_,rfl,rfl,rfl,rfl,rfl⟩,⟨_,rfl,rfl⟩⟩,⟨⟨_,_,rfl,rfl,rfl,rfl,rfl⟩,⟨_,rfl,rfl⟩⟩,⟨⟨_,_,rfl,rfl,rfl,rfl,rfl⟩,⟨_,rfl,rfl⟩⟩,⟨⟨_,_,rfl,rfl,rfl,rfl,rfl⟩,⟨_,rfl,rfl⟩⟩,⟨⟨_,_,rfl,rfl,rfl,rfl,rfl⟩,rfl⟩,⟨⟨_,_,rfl,rfl,rfl,rfl,rfl⟩,rfl⟩,⟨⟨_,_,rfl,rfl,rfl,rfl,rfl⟩,rfl⟩,⟨⟨_,_,rfl,rfl,rfl,rfl,rfl⟩,rfl⟩,⟨⟨_,_,rfl,rfl,rfl,rfl,rfl⟩,rfl⟩,⟨⟨_,_,rfl,rfl,rfl,rfl,rfl⟩,rfl⟩,by simp⟩)

def pL (a:List Int) (b:Int):Option Int:= (bif decide ((W (b - (a.length:Int)))<0) then some (-1) else some (W (b - (a.length:Int))))

theorem zW (a:List Int) (b:Int) (c:Option Addr) (d:Nat) (r:Int) (h:pL a b=some r):
 FC Tryz.prog 44 [sL c a d,I b] [fI c d a] (fun _:Unit=>True) (fun _=>I r) (fun _=>[]):= by
 refine FC.of (T:=TTx) Tryz.call44 Tryz.func44 E E fun e=>?_
 unfold pL at h
 refine aC aA 1 [] ev5 E E (gH aA 5 [(W (b - (a.length:Int)))] [] [(1,.v (I (W (b - (a.length:Int)))))] _ ev3 E E (JS.seq (aC aA 2 [(10,.v (.bool (decide ((W (b - (a.length:Int)))<0))))] ev1 E E ?_)))
 refine aH E h (fun h=>?_) (fun h=>?_)
 ·
  refine aC aA 1 [(4,.v (I (-1)))] ev1 E E ?_
  cases h
  exact JS.ret aA () V E E [] E
 refine JS.skip (aC aA 2 [(4,.v (I (W (b - (a.length:Int)))))] ev1 E E ?_)
 cases h
 exact JS.ret aA () V E E [] E

def mR (b:List Int×Int) (c:Int):Option Int:= (aF (pL b.1 c) fun a=>(bif decide (a<0) then some (-1) else some a))

theorem vS (a:List Int×Int) (d:Int) (b:Option Addr) (c:Nat) (r:Int) (h:mR a d=some r):
 FC Tryz.prog 41 [.agg #[sL b a.1 c,I a.2],I d] [fI b c a.1] (fun _:Unit=>True) (fun _=>I r) (fun _=>[]):= by
 refine FC.of (T:=TTx) Tryz.call41 Tryz.func41 E E fun g=>?_
 unfold mR at h
 refine aM aA 2 [] [2] [(2,.bp 2 0)] (.new 2 24 [sL b a.1 c,I a.2] .nil) ⟨ev2,(Bs E E)⟩ E E (JS.seq (JS.region (aB aA 3 [] [] [(6,.v (sL b a.1 c)),(7,.v (I d))] _ E ⟨(Es E),E⟩ ?_)))
 refine bnw h fun e f h=>JO.call E E E E (zW a.1 d b c _ f) E [0] E E fun _ _=>aB aA 1 [] [] [(1,.v (I e))] _ E ev1 (aD E (JS.seq (aC aA 2 [(10,.v (.bool (decide (e<0))))] ev1 E E ?_)))
 refine aH E h (fun h=>?_) (fun h=>?_)
 ·
  refine aC aA 1 [(4,.v (I (-1)))] ev1 E E ?_
  cases h
  exact JS.ret aA () V E E [] E
 refine JS.skip (aC aA 2 [(4,.v (I e))] ev1 E E ?_)
 cases h
 exact JS.ret aA () V E E [] E

def tA (b:List Int) (c:Int):Option Int:= (aF (pL b c) fun a=>(bif decide (a<0) then some (-1) else some a))

theorem aJ9 (a:List Int) (d:Int) (b:Option Addr) (c:Nat) (r:Int) (h:tA a d=some r):
 FC Tryz.prog 226 [.agg #[sL b a c],I d] [fI b c a] (fun _:Unit=>True) (fun _=>I r) (fun _=>[]):= by
 refine FC.of (T:=TTx) Tryz.call226 Tryz.func226 E E fun g=>?_
 unfold tA at h
 refine aM aA 2 [] [2] [(2,.bp 2 0)] (.new 2 193 [sL b a c] .nil) ⟨ev2,(Bs E E)⟩ E E (JS.seq (JS.region (aB aA 3 [] [] [(6,.v (sL b a c)),(7,.v (I d))] _ E ⟨(Es E),E⟩ ?_)))
 refine bnw h fun e f h=>JO.call E E E E (zW a d b c _ f) E [0] E E fun _ _=>aB aA 1 [] [] [(1,.v (I e))] _ E ev1 (aD E (JS.seq (aC aA 2 [(10,.v (.bool (decide (e<0))))] ev1 E E ?_)))
 refine aH E h (fun h=>?_) (fun h=>?_)
 ·
  refine aC aA 1 [(4,.v (I (-1)))] ev1 E E ?_
  cases h
  exact JS.ret aA () V E E [] E
 refine JS.skip (aC aA 2 [(4,.v (I e))] ev1 E E ?_)
 cases h
 exact JS.ret aA () V E E [] E

def kV (b:List (List Int)) (e:Int→Option Int) (f:(Int×Int)→Option Int):(Int×Int)→Option Int:=fun (c,a)=>(bif decide (a<(b.length:Int)) then (aP (0≤a∧a<(b.length:Int)) <|(aF (tA (at' b a) c) fun d=>(bif decide (d<0) then some (-1) else f (d,(W (a+1)))))) else e c)

def qX (a:List (List Int)) (b:Int):Option Int:= (bif decide ((W (b - (a.length:Int)))<0) then some (-1) else (aS (fun (c:Int)=> some c) fun d=>(aW (kV a d) bG ((W (b - (a.length:Int))),0))))

theorem aH2 (a:List (List Int)) (c:Int) (d:Option Addr) (e:Nat) (r:Int) (h:qX a c=some r):
 FC Tryz.prog 126 [sL d a e,I c] [⟨(.sl iT),⟨d,a.length,e⟩,a⟩] (fun _:Unit=>True) (fun _=>I r) (fun _=>[]):= by
 refine FC.of (T:=TTx) Tryz.call126 Tryz.func126 E E fun t=>?_
 unfold qX at h
 refine aC aA 1 [] ev5 E E (gH aA 5 [(W (c - (a.length:Int)))] [] [(1,.v (I (W (c - (a.length:Int)))))] _ ev3 E E (JS.seq (aC aA 2 [(11,.v (.bool (decide ((W (c - (a.length:Int)))<0))))] ev1 E E ?_)))
 refine aH E h (fun h=>?_) (fun h=>?_)
 ·
  refine aC aA 1 [(4,.v (I (-1)))] ev1 E E ?_
  cases h
  exact JS.ret aA () V E E [] E
 refine JS.skip (JS.seq (aC aA 1 [(5,.v (I 0))] ev1 E E ?_))
 obtain ⟨i,n,h⟩:=aN h
 refine aX (ι:=Int) ⟨fun z=>i z=some r,fun z=>[(1,.v (I z))],fun z=>.nil,fun z=>[],fun z=>[],fun z=>0⟩ ?_ ?_
 ·
  refine JS.loop (ι:=Nat×Int×Int) ⟨fun z=>aW (kV a i) z.1 z.2=some r,fun z=>[(0,.v (sL d a e)),(1,.v (I z.2.1)),(5,.v (I z.2.2))],fun z=>.nil,fun z=>[⟨(.sl iT),⟨d,a.length,e⟩,a⟩],fun z=>[],fun z=>z.1⟩ (bG,(W (c - (a.length:Int))),0) h (Es E) V [0] E [] E ?_
  rintro ⟨j,f,b⟩ h
  obtain ⟨j,rfl,h⟩:=bC h
  rw [kV] at h
  refine JS.seq (aC aA 4 [(15,.v (.bool (decide (b<(a.length:Int)))))] ev1 E E ?_)
  refine aH E h (fun h=>?_) (fun h=>?_)
  ·
   refine JS.skip (JS.seq (JS.block (JS.seq (JS.region (bJ 0 E fun o=>?_)))))
   obtain ⟨k,h⟩:=aK h
   refine aB aA 3 [] [] [(20,.ep ⟨d,a.length,e⟩ (Int.toNat b*1))] _ E ⟨o.ix k,ev2,E⟩ (fS 0 E (Int.toNat b) (at' a b) E fun l m u w p=>cN aA E E E E E E 0 E E (Int.toNat b) 0 (Sl.v ⟨l,(at' a b).length,m⟩) ⟨p (lR k),E⟩ E E E (aB aA 1 [] [] [(22,.v (I f))] _ E ev1 ?_))
   refine bnw h fun g q h=>JO.call E E E E (aJ9 (at' a b) f l m _ q) E [1] E E fun _ _=>aB aA 1 [] [] [(1,.v (I g))] _ E ev1 (aD E (aC aA 2 [(25,.v (.bool (decide (g<0))))] ev1 E E ?_))
   refine aH E h (fun h=>?_) (fun h=>?_)
   ·
    refine aC aA 1 [(4,.v (I (-1)))] ev1 E E ?_
    cases h
    exact JS.ret aA () V E E [] E
   refine JS.skip (aV (bY aA 3 [(W (b+1))] [] [(5,.v (I (W (b+1))))] _ ev3 E E (bR (j,g,(W (b+1))) h (Nat.lt_succ_self _) (Es E) V [2] E [] E)))
  refine JS.exit E (aQ f h ev2 V [] E [] E)
 rintro s h
 subst n
 refine aC aA 2 [(4,.v (I s))] ev1 E E ?_
 cases h
 exact JS.ret aA () V E E [] E

def vB (b:List (List Int)) (c:Int):Option Int:= (aF (qX b c) fun a=>(bif decide (a<0) then some (-1) else some a))

theorem aMe (a:List (List Int)) (d:Int) (b:Option Addr) (c:Nat) (r:Int) (h:vB a d=some r):
 FC Tryz.prog 42 [.agg #[sL b a c],I d] [⟨(.sl iT),⟨b,a.length,c⟩,a⟩] (fun _:Unit=>True) (fun _=>I r) (fun _=>[]):= by
 refine FC.of (T:=TTx) Tryz.call42 Tryz.func42 E E fun g=>?_
 unfold vB at h
 refine aM aA 2 [] [2] [(2,.bp 2 0)] (.new 2 27 [sL b a c] .nil) ⟨ev2,(Bs E E)⟩ E E (JS.seq (JS.region (aB aA 3 [] [] [(6,.v (sL b a c)),(7,.v (I d))] _ E ⟨(Es E),E⟩ ?_)))
 refine bnw h fun e f h=>JO.call E E E E (aH2 a d b c _ f) E [0] E E fun _ _=>aB aA 1 [] [] [(1,.v (I e))] _ E ev1 (aD E (JS.seq (aC aA 2 [(10,.v (.bool (decide (e<0))))] ev1 E E ?_)))
 refine aH E h (fun h=>?_) (fun h=>?_)
 ·
  refine aC aA 1 [(4,.v (I (-1)))] ev1 E E ?_
  cases h
  exact JS.ret aA () V E E [] E
 refine JS.skip (aC aA 2 [(4,.v (I e))] ev1 E E ?_)
 cases h
 exact JS.ret aA () V E E [] E

def mQ (b:List (List Int×Int)) (e:Int→Option Int) (f:(Int×Int)→Option Int):(Int×Int)→Option Int:=fun (c,a)=>(bif decide (a<(b.length:Int)) then (aP (0≤a∧a<(b.length:Int)) <|(aF (mR ((at' b a).1,(at' b a).2) c) fun d=>(bif decide (d<0) then some (-1) else f (d,(W (a+1)))))) else e c)

def tB (a:List (List Int×Int)) (b:Int):Option Int:= (bif decide ((W (b - (a.length:Int)))<0) then some (-1) else (aS (fun (c:Int)=> some c) fun d=>(aW (mQ a d) bG ((W (b - (a.length:Int))),0))))

theorem aKa (a:List (List Int×Int)) (c:Int) (d:Option Addr) (e:Nat) (r:Int) (h:tB a c=some r):
 FC Tryz.prog 127 [sL d a e,I c] [⟨(.pair (.sl iT) iT),⟨d,a.length,e⟩,a⟩] (fun _:Unit=>True) (fun _=>I r) (fun _=>[]):= by
 refine FC.of (T:=TTx) Tryz.call127 Tryz.func127 E E fun t=>?_
 unfold tB at h
 refine aC aA 1 [] ev5 E E (gH aA 5 [(W (c - (a.length:Int)))] [] [(1,.v (I (W (c - (a.length:Int)))))] _ ev3 E E (JS.seq (aC aA 2 [(11,.v (.bool (decide ((W (c - (a.length:Int)))<0))))] ev1 E E ?_)))
 refine aH E h (fun h=>?_) (fun h=>?_)
 ·
  refine aC aA 1 [(4,.v (I (-1)))] ev1 E E ?_
  cases h
  exact JS.ret aA () V E E [] E
 refine JS.skip (JS.seq (aC aA 1 [(5,.v (I 0))] ev1 E E ?_))
 obtain ⟨i,n,h⟩:=aN h
 refine aX (ι:=Int) ⟨fun z=>i z=some r,fun z=>[(1,.v (I z))],fun z=>.nil,fun z=>[],fun z=>[],fun z=>0⟩ ?_ ?_
 ·
  refine JS.loop (ι:=Nat×Int×Int) ⟨fun z=>aW (mQ a i) z.1 z.2=some r,fun z=>[(0,.v (sL d a e)),(1,.v (I z.2.1)),(5,.v (I z.2.2))],fun z=>.nil,fun z=>[⟨(.pair (.sl iT) iT),⟨d,a.length,e⟩,a⟩],fun z=>[],fun z=>z.1⟩ (bG,(W (c - (a.length:Int))),0) h (Es E) V [0] E [] E ?_
  rintro ⟨j,f,b⟩ h
  obtain ⟨j,rfl,h⟩:=bC h
  rw [mQ] at h
  refine JS.seq (aC aA 4 [(15,.v (.bool (decide (b<(a.length:Int)))))] ev1 E E ?_)
  refine aH E h (fun h=>?_) (fun h=>?_)
  ·
   refine JS.skip (JS.seq (JS.block (JS.seq (JS.region (bJ 0 E fun o=>?_)))))
   obtain ⟨k,h⟩:=aK h
   refine aB aA 3 [] [] [(20,.ep ⟨d,a.length,e⟩ (Int.toNat b*2))] _ E ⟨o.ix k,ev2,E⟩ (fS 0 E (Int.toNat b) (at' a b) E fun l m u w p=>cN aA E E E E E E 0 E E (Int.toNat b) 0 ((Sl.v ⟨l,((at' a b).1).length,m⟩),(at' a b).2) ⟨p (lR k),E⟩ E E E (aB aA 1 [] [] [(22,.v (I f))] _ E ev1 ?_))
   refine bnw h fun g q h=>JO.call E E E E (vS ((at' a b).1,(at' a b).2) f l m _ q) E [1] E E fun _ _=>aB aA 1 [] [] [(1,.v (I g))] _ E ev1 (aD E (aC aA 2 [(25,.v (.bool (decide (g<0))))] ev1 E E ?_))
   refine aH E h (fun h=>?_) (fun h=>?_)
   ·
    refine aC aA 1 [(4,.v (I (-1)))] ev1 E E ?_
    cases h
    exact JS.ret aA () V E E [] E
   refine JS.skip (aV (bY aA 3 [(W (b+1))] [] [(5,.v (I (W (b+1))))] _ ev3 E E (bR (j,g,(W (b+1))) h (Nat.lt_succ_self _) (Es E) V [2] E [] E)))
  refine JS.exit E (aQ f h ev2 V [] E [] E)
 rintro s h
 subst n
 refine aC aA 2 [(4,.v (I s))] ev1 E E ?_
 cases h
 exact JS.ret aA () V E E [] E

def vA (b:List (List Int×Int)) (c:Int):Option Int:= (aF (tB b c) fun a=>(bif decide (a<0) then some (-1) else some a))

theorem aMd (a:List (List Int×Int)) (d:Int) (b:Option Addr) (c:Nat) (r:Int) (h:vA a d=some r):
 FC Tryz.prog 43 [.agg #[sL b a c],I d] [⟨(.pair (.sl iT) iT),⟨b,a.length,c⟩,a⟩] (fun _:Unit=>True) (fun _=>I r) (fun _=>[]):= by
 refine FC.of (T:=TTx) Tryz.call43 Tryz.func43 E E fun g=>?_
 unfold vA at h
 refine aM aA 2 [] [2] [(2,.bp 2 0)] (.new 2 30 [sL b a c] .nil) ⟨ev2,(Bs E E)⟩ E E (JS.seq (JS.region (aB aA 3 [] [] [(6,.v (sL b a c)),(7,.v (I d))] _ E ⟨(Es E),E⟩ ?_)))
 refine bnw h fun e f h=>JO.call E E E E (aKa a d b c _ f) E [0] E E fun _ _=>aB aA 1 [] [] [(1,.v (I e))] _ E ev1 (aD E (JS.seq (aC aA 2 [(10,.v (.bool (decide (e<0))))] ev1 E E ?_)))
 refine aH E h (fun h=>?_) (fun h=>?_)
 ·
  refine aC aA 1 [(4,.v (I (-1)))] ev1 E E ?_
  cases h
  exact JS.ret aA () V E E [] E
 refine JS.skip (aC aA 2 [(4,.v (I e))] ev1 E E ?_)
 cases h
 exact JS.ret aA () V E E [] E

def xM (a:EdQ) (h:Int):Option Int:= (aF (mR a.2.2.1 h) fun b=>(bif decide (b<0) then some (-1) else (aF (vB a.2.2.2.2.2.2.2.2.2.2.1 b) fun c=>(bif decide (c<0) then some (-1) else (aF (vA a.2.2.2.2.2.2.2.2.2.2.2.1 c) fun d=>(bif decide (d<0) then some (-1) else (aF (mR a.2.2.2.2.2.2.2.2.2.2.2.2.2.1 d) fun e=>(bif decide (e<0) then some (-1) else (aF (pL a.2.2.2.2.2.2.2.2.2.2.2.2.2.2.1 e) fun f=>(bif decide (f<0) then some (-1) else (aF (mR a.2.2.2.2.2.2.2.2.2.2.2.2.2.2.2.2 f) fun g=>(bif decide (g<0) then some (-1) else some g))))))))))))

theorem aRd (b:EdQ) (c:Int) (a:P6) (r:Int) (h:xM b c=some r):
 FC Tryz.prog 10 [.agg (cD b a).toArray,I c] (bP b a []) (fun _:Unit=>True) (fun _=>I r) (fun _=>[]):= by
 refine FC.of (T:=TTx) Tryz.call10 Tryz.func10 E E fun q=>?_
 unfold xM at h
 refine aM aA 2 [] [7] [(2,.bp 7 0)] (.new 7 32 (cD b a) .nil) ⟨ev2,(Bs E E)⟩ E E (JS.seq (JS.region (aB aA 3 [] [] [(6,.v (.agg #[sL a.1 b.2.2.1.1 a.2.1,I b.2.2.1.2])),(7,.v (I c))] _ E ⟨(Es E),E⟩ ?_)))
 refine bnw h fun d k h=>JO.call E E E E (vS b.2.2.1 c a.1 a.2.1 _ k) E [0] E E fun _ _=>aB aA 1 [] [] [(1,.v (I d))] _ E ev1 (aD E (JS.seq (aC aA 2 [(10,.v (.bool (decide (d<0))))] ev1 E E ?_)))
 refine aH E h (fun h=>?_) (fun h=>?_)
 ·
  refine aC aA 1 [(4,.v (I (-1)))] ev1 E E ?_
  cases h
  exact JS.ret aA () V E E [] E
 refine JS.skip (JS.seq (JS.region (aB aA 3 [] [] [(12,.v (.agg #[sL a.2.2.1 (Q8 b).2.2.1 a.2.2.2.1])),(13,.v (I d))] _ E ⟨(Es E),E⟩ ?_)))
 refine bnw h fun e l h=>JO.call E E E E (aMe (Q8 b).2.2.1 d a.2.2.1 a.2.2.2.1 _ l) E [1] E E fun _ _=>aB aA 1 [] [] [(1,.v (I e))] _ E ev1 (aD E (JS.seq (aC aA 2 [(16,.v (.bool (decide (e<0))))] ev1 E E ?_)))
 refine aH E h (fun h=>?_) (fun h=>?_)
 ·
  refine aC aA 1 [(4,.v (I (-1)))] ev1 E E ?_
  cases h
  exact JS.ret aA () V E E [] E
 refine JS.skip (JS.seq (JS.region (aB aA 3 [] [] [(18,.v (.agg #[sL (Q4 a).1 (Q8 b).2.2.2.1 (Q4 a).2.1])),(19,.v (I e))] _ E ⟨(Es E),E⟩ ?_)))
 refine bnw h fun f m h=>JO.call E E E E (aMd (Q8 b).2.2.2.1 e (Q4 a).1 (Q4 a).2.1 _ m) E [2] E E fun _ _=>aB aA 1 [] [] [(1,.v (I f))] _ E ev1 (aD E (JS.seq (aC aA 2 [(22,.v (.bool (decide (f<0))))] ev1 E E ?_)))
 refine aH E h (fun h=>?_) (fun h=>?_)
 ·
  refine aC aA 1 [(4,.v (I (-1)))] ev1 E E ?_
  cases h
  exact JS.ret aA () V E E [] E
 refine JS.skip (JS.seq (JS.region (aB aA 3 [] [] [(24,.v (.agg #[sL (Q4 a).2.2.1 (Q12 b).2.1.1 (Q4 a).2.2.2.1,I (Q12 b).2.1.2])),(25,.v (I f))] _ E ⟨(Es E),E⟩ ?_)))
 refine bnw h fun g n h=>JO.call E E E E (vS (Q12 b).2.1 f (Q4 a).2.2.1 (Q4 a).2.2.2.1 _ n) E [3] E E fun _ _=>aB aA 1 [] [] [(1,.v (I g))] _ E ev1 (aD E (JS.seq (aC aA 2 [(28,.v (.bool (decide (g<0))))] ev1 E E ?_)))
 refine aH E h (fun h=>?_) (fun h=>?_)
 ·
  refine aC aA 1 [(4,.v (I (-1)))] ev1 E E ?_
  cases h
  exact JS.ret aA () V E E [] E
 refine JS.skip (JS.seq (JS.region (aB aA 3 [] [] [(30,.v (sL (Q8 a).1 (Q12 b).2.2.1 (Q8 a).2.1)),(31,.v (I g))] _ E ⟨(Es E),E⟩ ?_)))
 refine bnw h fun i o h=>JO.call E E E E (zW (Q12 b).2.2.1 g (Q8 a).1 (Q8 a).2.1 _ o) E [4] E E fun _ _=>aB aA 1 [] [] [(1,.v (I i))] _ E ev1 (aD E (JS.seq (aC aA 2 [(34,.v (.bool (decide (i<0))))] ev1 E E ?_)))
 refine aH E h (fun h=>?_) (fun h=>?_)
 ·
  refine aC aA 1 [(4,.v (I (-1)))] ev1 E E ?_
  cases h
  exact JS.ret aA () V E E [] E
 refine JS.skip (JS.seq (JS.region (aB aA 3 [] [] [(36,.v (.agg #[sL (Q8 a).2.2.1 (Q16 b).1 (Q8 a).2.2.2,I (Q16 b).2])),(37,.v (I i))] _ E ⟨(Es E),E⟩ ?_)))
 refine bnw h fun j p h=>JO.call E E E E (vS (Q16 b) i (Q8 a).2.2.1 (Q8 a).2.2.2 _ p) E [5] E E fun _ _=>aB aA 1 [] [] [(1,.v (I j))] _ E ev1 (aD E (JS.seq (aC aA 2 [(40,.v (.bool (decide (j<0))))] ev1 E E ?_)))
 refine aH E h (fun h=>?_) (fun h=>?_)
 ·
  refine aC aA 1 [(4,.v (I (-1)))] ev1 E E ?_
  cases h
  exact JS.ret aA () V E E [] E
 refine JS.skip (aC aA 2 [(4,.v (I j))] ev1 E E ?_)
 cases h
 exact JS.ret aA () V E E [] E

def jJ (b:List (List UInt8)) (d:Int→Option Int) (e:(Int×Int)→Option Int):(Int×Int)→Option Int:=fun (c,a)=>(bif decide (a<(b.length:Int)) then (aP (0≤a∧a<(b.length:Int)) <|(bif (decide ((W (c - ((at' b a).length:Int)))<0)) then some (-1) else e ((W (c - ((at' b a).length:Int))),(W (a+1))))) else d c)

def oI (a:List (List UInt8)) (b:Int):Option Int:= (bif decide ((W (b - (a.length:Int)))<0) then some (-1) else (aS (fun (c:Int)=> some c) fun d=>(aW (jJ a d) bG ((W (b - (a.length:Int))),0))))

theorem aGb (a:List (List UInt8)) (c:Int) (e:Option Addr) (f:Nat) (r:Int) (h:oI a c=some r):
 FC Tryz.prog 45 [sL e a f,I c] [⟨.str,⟨e,a.length,f⟩,a⟩] (fun _:Unit=>True) (fun _=>I r) (fun _=>[]):= by
 refine FC.of (T:=TTx) Tryz.call45 Tryz.func45 E E fun n=>?_
 unfold oI at h
 refine aC aA 1 [] ev5 E E (gH aA 5 [(W (c - (a.length:Int)))] [] [(1,.v (I (W (c - (a.length:Int)))))] _ ev3 E E (JS.seq (aC aA 2 [(11,.v (.bool (decide ((W (c - (a.length:Int)))<0))))] ev1 E E ?_)))
 refine aH E h (fun h=>?_) (fun h=>?_)
 ·
  refine aC aA 1 [(4,.v (I (-1)))] ev1 E E ?_
  cases h
  exact JS.ret aA () V E E [] E
 refine JS.skip (JS.seq (aC aA 1 [(5,.v (I 0))] ev1 E E ?_))
 obtain ⟨g,k,h⟩:=aN h
 refine aX (ι:=Int) ⟨fun z=>g z=some r,fun z=>[(1,.v (I z))],fun z=>.nil,fun z=>[],fun z=>[],fun z=>0⟩ ?_ ?_
 ·
  refine JS.loop (ι:=Nat×Int×Int) ⟨fun z=>aW (jJ a g) z.1 z.2=some r,fun z=>[(0,.v (sL e a f)),(1,.v (I z.2.1)),(5,.v (I z.2.2))],fun z=>.nil,fun z=>[⟨.str,⟨e,a.length,f⟩,a⟩],fun z=>[],fun z=>z.1⟩ (bG,(W (c - (a.length:Int))),0) h (Es E) V [0] E [] E ?_
  rintro ⟨i,d,b⟩ h
  obtain ⟨i,rfl,h⟩:=bC h
  rw [jJ] at h
  refine JS.seq (aC aA 4 [(15,.v (.bool (decide (b<(a.length:Int)))))] ev1 E E ?_)
  refine aH E h (fun h=>?_) (fun h=>?_)
  ·
   refine JS.skip (JS.seq (JS.block (JS.seq (JS.region (bJ 0 E fun l=>?_)))))
   obtain ⟨j,h⟩:=aK h
   refine aB aA 4 [] [] [(18,.v (I d)),(21,.ep ⟨e,a.length,f⟩ (Int.toNat b*1))] _ E ⟨l.ix j,(Es E),E⟩ (JO.load aA E E E E E E E 0 E E (Int.toNat b) 0 (at' a b) ⟨bD j,E⟩ E E (aB aA 3 [(W (d - ((at' a b).length:Int)))] [] [(1,.v (I (W (d - ((at' a b).length:Int)))))] _ E ev3 (aD E (aC aA 2 [(26,.v (.bool (decide ((W (d - ((at' a b).length:Int)))<0))))] ev1 E E ?_))))
   refine aH E h (fun h=>?_) (fun h=>?_)
   ·
    refine aC aA 1 [(4,.v (I (-1)))] ev1 E E ?_
    cases h
    exact JS.ret aA () V E E [] E
   refine JS.skip (aV (bY aA 3 [(W (b+1))] [] [(5,.v (I (W (b+1))))] _ ev3 E E (bR (i,(W (d - ((at' a b).length:Int))),(W (b+1))) h (Nat.lt_succ_self _) (Es E) V [0] E [] E)))
  refine JS.exit E (aQ d h ev2 V [] E [] E)
 rintro m h
 subst k
 refine aC aA 2 [(4,.v (I m))] ev1 E E ?_
 cases h
 exact JS.ret aA () V E E [] E

def vC (b:Int×List (List UInt8)) (c:Int):Option Int:= (aF (oI b.2 c) fun a=>(bif decide (a<0) then some (-1) else some a))

theorem aMf (a:Int×List (List UInt8)) (d:Int) (b:Option Addr) (c:Nat) (r:Int) (h:vC a d=some r):
 FC Tryz.prog 11 [.agg #[I a.1,sL b a.2 c],I d] [⟨.str,⟨b,a.2.length,c⟩,a.2⟩] (fun _:Unit=>True) (fun _=>I r) (fun _=>[]):= by
 refine FC.of (T:=TTx) Tryz.call11 Tryz.func11 E E fun g=>?_
 unfold vC at h
 refine aM aA 2 [] [2] [(2,.bp 2 0)] (.new 2 35 [I a.1,sL b a.2 c] .nil) ⟨ev2,(Bs E E)⟩ E E (JS.seq (JS.region (aB aA 3 [] [] [(6,.v (sL b a.2 c)),(7,.v (I d))] _ E ⟨(Es E),E⟩ ?_)))
 refine bnw h fun e f h=>JO.call E E E E (aGb a.2 d b c _ f) E [0] E E fun _ _=>aB aA 1 [] [] [(1,.v (I e))] _ E ev1 (aD E (JS.seq (aC aA 2 [(10,.v (.bool (decide (e<0))))] ev1 E E ?_)))
 refine aH E h (fun h=>?_) (fun h=>?_)
 ·
  refine aC aA 1 [(4,.v (I (-1)))] ev1 E E ?_
  cases h
  exact JS.ret aA () V E E [] E
 refine JS.skip (aC aA 2 [(4,.v (I e))] ev1 E E ?_)
 cases h
 exact JS.ret aA () V E E [] E

def oH (b:List Int) (d:(List Int)→Option (List Int)) (e:(List Int×Int)→Option (List Int)):(List Int×Int)→Option (List Int):=fun (c,a)=>(bif decide (a<(b.length:Int)) then (aP (0≤a∧a<(b.length:Int)) <|(aP (0≤a∧a<(c.length:Int)) <|e ((List.set c (Int.toNat a) (at' b a)),(W (a+1))))) else d c)

def pK (a:List Int):Option (List Int):= (aP (a.length≤536870912) <|(aS (fun (b:List Int)=> some b) fun c=>(aW (oH a c) bG ((List.replicate a.length (0:Int)),0))))

theorem zV (a:List Int) (c:Option Addr) (d:Nat) (r:List Int) (h:pK a=some r):
 FC Tryz.prog 15 [sL c a d] [fI c d a] (fun _:Option Addr×Nat=>True) (fun q=>sL q.1 r q.2) (fun q=>[fI q.1 q.2 r]):= by
 refine FC.of (T:=TTx) Tryz.call15 Tryz.func15 E E fun x=>?_
 unfold pK at h
 refine aC aA 1 [] ev5 E E (JS.seq (JS.region (aB aA 2 [] [] [(6,.v (I (a.length:Int)))] _ E ev1 ?_)))
 obtain ⟨p,h⟩:=aK h
 refine JO.makeSlice aA E E E E E E E E a.length E p iT E E E E E fun i=>aB aA 1 [] [] [(3,.v (sL i a a.length))] _ E ev1 (aD E (JS.seq (aC aA 1 [(4,.v (I 0))] ev1 E E ?_)))
 obtain ⟨j,s,h⟩:=aN h
 refine aX (ι:=List Int×Option Addr×Nat) ⟨fun z=>j z.1=some r,fun z=>[(3,.v (sL z.2.1 z.1 z.2.2))],fun z=>.nil,fun z=>[],fun z=>[fI z.2.1 z.2.2 z.1],fun z=>0⟩ ?_ ?_
 ·
  refine JS.loop (ι:=Nat×List Int×Int×Option Addr×Nat) ⟨fun z=>aW (oH a j) z.1 (z.2.1,z.2.2.1)=some r,fun z=>[(0,.v (sL c a d)),(3,.v (sL z.2.2.2.1 z.2.1 (Q4 z))),(4,.v (I z.2.2.1))],fun z=>.nil,fun z=>[fI c d a],fun z=>[fI z.2.2.2.1 (Q4 z) z.2.1],fun z=>z.1⟩ (bG,(List.replicate a.length (0:Int)),0,i,a.length) h ⟨E,(by simp only [List.length_set,List.length_replicate,cF,eU,sL,fI,rM,rL];rfl),E,V⟩ V [0] E [0] (by simp only [List.length_set,List.length_replicate,cF,eU,sL,fI,rM,rL];rfl) ?_
  rintro ⟨k,e,b,f,g⟩ h
  obtain ⟨k,rfl,h⟩:=bC h
  rw [oH] at h
  refine JS.seq (aC aA 4 [(11,.v (.bool (decide (b<(a.length:Int)))))] ev1 E E ?_)
  refine aH E h (fun h=>?_) (fun h=>?_)
  ·
   refine JS.skip (JS.seq (JS.block (JS.region (bJ 0 E fun t=>?_))))
   obtain ⟨l,h⟩:=aK h
   refine aB aA 5 [] [] [(14,.v (sL f e g)),(15,.v (I b)),(18,.ep ⟨c,a.length,d⟩ (Int.toNat b*1))] _ E ⟨t.ix l,(Es E),E⟩ (JO.load aA E E E E E E E 0 E E (Int.toNat b) 0 (at' a b) ⟨bD l,E⟩ E E (bJ 1 E fun u=>?_))
   obtain ⟨m,h⟩:=aK h
   refine aB aA 1 [] [] [(20,.ep ⟨f,e.length,g⟩ (Int.toNat b*1))] _ E ⟨u.ix m,ev2,E⟩ (gY aA E E E E E E E E E [0] (fs:=[]) E (Int.toNat b) 0 (at' e b) (at' a b) ⟨bD m,E⟩ ev8 (aD E (aV (bY aA 3 [(W (b+1))] [] [(4,.v (I (W (b+1))))] _ ev3 E E (bR (k,(List.set e (Int.toNat b) (at' a b)),(W (b+1)),f,g) h (Nat.lt_succ_self _) ⟨E,(by simp only [List.length_set,List.length_replicate,cF,eU,sL,fI,rM,rL];rfl),E,V⟩ V [0] E [0] (by simp only [List.length_set,List.length_replicate,cF,eU,sL,fI,rM,rL];rfl))))))
  refine JS.exit E (aQ (e,f,g) h ev2 V [] E [0] E)
 rintro ⟨w,n,o⟩ h
 subst s
 refine aC aA 2 [(2,.v (sL n w o))] ev1 E E ?_
 cases h
 exact JS.ret aA (n,o) V E E [0] E

def mO (a:List Int×Int):Option (List Int×Int):= (aF (pK a.1) fun b=> some (b,a.2))

theorem vR (a:List Int×Int) (b:Option Addr) (c:Nat) (r:List Int×Int) (h:mO a=some r):
 FC Tryz.prog 53 [.agg #[sL b a.1 c,I a.2]] [fI b c a.1] (fun _:Option Addr×Nat=>True) (fun q=>.agg #[sL q.1 r.1 q.2,I r.2]) (fun q=>[fI q.1 q.2 r.1]):= by
 refine FC.of (T:=TTx) Tryz.call53 Tryz.func53 E E fun i=>?_
 unfold mO at h
 refine aM aA 2 [] [2,3] [(1,.bp 2 0),(2,.bp 3 0)] (.new 2 24 [sL b a.1 c,I a.2] (.new 3 38 [.slice none 0 0,I 0] .nil)) ⟨(Es E),(Bs E E)⟩ E E (aM aA 1 [] [4] [(3,.bp 4 0)] (.new 2 24 [sL b a.1 c,I a.2] (.new 3 38 [.slice none 0 0,I 0] (.new 4 38 [.slice none 0 0,I 0] .nil))) ⟨ev2,(Bs E E)⟩ E E (JS.seq (JS.region (aB aA 2 [] [] [(5,.v (sL b a.1 c))] _ E ev1 ?_))))
 refine bnw h fun f g h=>JO.call E E E E (zV a.1 b c _ g) E [0] E E ?_
 rintro ⟨d,e⟩ -
 refine aL aA 2 [] [] [] (.new 2 24 [sL b a.1 c,I a.2] (.new 3 38 [.slice none 0 0,I 0] (.new 4 38 [sL d f e,I 0] .nil))) E ⟨V,(Bs E E)⟩ (aD E (aM aA 4 [] [] [] (.new 3 38 [.slice none 0 0,I 0] (.new 4 38 [sL d f e,I a.2] .nil)) ⟨V,(Bs E E)⟩ E E (aM aA 2 [] [] [] (.new 3 38 [sL d f e,I a.2] .nil) ⟨V,(Bs E E)⟩ E E ?_)))
 cases h
 exact JS.ret aA (d,e) V E E [0] E

def sZ (a:List Int):Option (List Int):= (aF (pK a) fun b=> some b)

theorem aJ7 (a:List Int) (b:Option Addr) (c:Nat) (r:List Int) (h:sZ a=some r):
 FC Tryz.prog 232 [.agg #[sL b a c]] [fI b c a] (fun _:Option Addr×Nat=>True) (fun q=>.agg #[sL q.1 r q.2]) (fun q=>[fI q.1 q.2 r]):= by
 refine FC.of (T:=TTx) Tryz.call232 Tryz.func232 E E fun i=>?_
 unfold sZ at h
 refine aM aA 2 [] [2,3] [(1,.bp 2 0),(2,.bp 3 0)] (.new 2 193 [sL b a c] (.new 3 174 [.slice none 0 0] .nil)) ⟨(Es E),(Bs E E)⟩ E E (aM aA 1 [] [4] [(3,.bp 4 0)] (.new 2 193 [sL b a c] (.new 3 174 [.slice none 0 0] (.new 4 174 [.slice none 0 0] .nil))) ⟨ev2,(Bs E E)⟩ E E (JS.seq (JS.region (aB aA 2 [] [] [(5,.v (sL b a c))] _ E ev1 ?_))))
 refine bnw h fun f g h=>JO.call E E E E (zV a b c _ g) E [0] E E ?_
 rintro ⟨d,e⟩ -
 refine aL aA 2 [] [] [] (.new 3 174 [.slice none 0 0] (.new 4 174 [sL d f e] .nil)) E ⟨V,(Bs E E)⟩ (aD E (aM aA 2 [] [] [] (.new 3 174 [sL d f e] .nil) ⟨V,(Bs E E)⟩ E E ?_))
 cases h
 exact JS.ret aA (d,e) V E E [0] E

def kU (b:List (List Int)) (d:(List (List Int))→Option (List (List Int))) (e:(List (List Int)×Int)→Option (List (List Int))):(List (List Int)×Int)→Option (List (List Int)):=fun (c,a)=>(bif decide (a<(b.length:Int)) then (aP (0≤a∧a<(b.length:Int)) <|(aF (sZ (at' b a)) fun f=>(aP (0≤a∧a<(c.length:Int)) <|e ((List.set c (Int.toNat a) f),(W (a+1)))))) else d c)

def tZ (a:List (List Int)):Option (List (List Int)):= (aP (a.length≤536870912) <|(aS (fun (b:List (List Int))=> some b) fun c=>(aW (kU a c) bG ((List.replicate a.length []),0))))

theorem aH1 (a:List (List Int)) (c:Option Addr) (d:Nat) (r:List (List Int)) (h:tZ a=some r):
 FC Tryz.prog 139 [sL c a d] [⟨(.sl iT),⟨c,a.length,d⟩,a⟩] (fun _:Option Addr×Nat=>True) (fun q=>sL q.1 r q.2) (fun q=>[⟨(.sl iT),⟨q.1,r.length,q.2⟩,r⟩]):= by
 refine FC.of (T:=TTx) Tryz.call139 Tryz.func139 E E fun G=>?_
 unfold tZ at h
 refine aC aA 1 [] ev5 E E (JS.seq (JS.region (aB aA 2 [] [] [(6,.v (I (a.length:Int)))] _ E ev1 ?_)))
 obtain ⟨u,h⟩:=aK h
 refine JO.makeSlice aA E E E E E E E E a.length E u (.sl iT) E E E E E fun j=>aB aA 1 [] [] [(3,.v (sL j a a.length))] _ E ev1 (aD E (JS.seq (aC aA 1 [(4,.v (I 0))] ev1 E E ?_)))
 obtain ⟨k,w,h⟩:=aN h
 refine aX (ι:=List (List Int)×Option Addr×Nat) ⟨fun z=>k z.1=some r,fun z=>[(3,.v (sL z.2.1 z.1 z.2.2))],fun z=>.nil,fun z=>[],fun z=>[⟨(.sl iT),⟨z.2.1,z.1.length,z.2.2⟩,z.1⟩],fun z=>0⟩ ?_ ?_
 ·
  refine JS.loop (ι:=Nat×List (List Int)×Int×Option Addr×Nat) ⟨fun z=>aW (kU a k) z.1 (z.2.1,z.2.2.1)=some r,fun z=>[(0,.v (sL c a d)),(3,.v (sL z.2.2.2.1 z.2.1 (Q4 z))),(4,.v (I z.2.2.1))],fun z=>.nil,fun z=>[⟨(.sl iT),⟨c,a.length,d⟩,a⟩],fun z=>[⟨(.sl iT),⟨z.2.2.2.1,z.2.1.length,(Q4 z)⟩,z.2.1⟩],fun z=>z.1⟩ (bG,(List.replicate a.length []),0,j,a.length) h ⟨E,(by simp only [List.length_set,List.length_replicate,cF,eU,sL,fI,rM,rL];rfl),E,V⟩ V [0] E [0] (by simp only [List.length_set,List.length_replicate,cF,eU,sL,fI,rM,rL];rfl) ?_
  rintro ⟨l,e,b,f,g⟩ h
  obtain ⟨l,rfl,h⟩:=bC h
  rw [kU] at h
  refine JS.seq (aC aA 4 [(11,.v (.bool (decide (b<(a.length:Int)))))] ev1 E E ?_)
  refine aH E h (fun h=>?_) (fun h=>?_)
  ·
   refine JS.skip (JS.seq (JS.block (JS.region (bJ 0 E fun x=>?_))))
   obtain ⟨m,h⟩:=aK h
   refine aB aA 5 [] [] [(14,.v (sL f e g)),(15,.v (I b)),(18,.ep ⟨c,a.length,d⟩ (Int.toNat b*1))] _ E ⟨x.ix m,(Es E),E⟩ (fS 0 E (Int.toNat b) (at' a b) E fun n o H J y=>cN aA E E E E E E 0 E E (Int.toNat b) 0 (Sl.v ⟨n,(at' a b).length,o⟩) ⟨y (lR m),E⟩ E E E ?_)
   refine bnw h fun i A h=>JO.call E E E E (aJ7 (at' a b) n o _ A) E [1] E E ?_
   rintro ⟨B,C⟩ -
   refine bJ 4 E fun D=>?_
   obtain ⟨p,h⟩:=aK h
   refine aB aA 1 [] [] [(21,.ep ⟨f,e.length,g⟩ (Int.toNat b*1))] _ E ⟨D.ix p,ev2,E⟩ (gY aA E E E E E E E E E [1,0] (fs:=[fI B C i]) E (Int.toNat b) 0 (at' e b) i ⟨bD p,E⟩ ⟨E,E,E,E⟩ (aD E (aV (bY aA 3 [(W (b+1))] [] [(4,.v (I (W (b+1))))] _ ev3 E E (bR (l,(List.set e (Int.toNat b) i),(W (b+1)),f,g) h (Nat.lt_succ_self _) ⟨E,(by simp only [List.length_set,List.length_replicate,cF,eU,sL,fI,rM,rL];rfl),E,V⟩ V [2] E [0] (by simp only [List.length_set,List.length_replicate,cF,eU,sL,fI,rM,rL];rfl))))))
  refine JS.exit E (aQ (e,f,g) h ev2 V [] E [0] E)
 rintro ⟨F,s,t⟩ h
 subst w
 refine aC aA 2 [(2,.v (sL s F t))] ev1 E E ?_
 cases h
 exact JS.ret aA (s,t) V E E [0] E

def uZ (a:List (List Int)):Option (List (List Int)):= (aF (tZ a) fun b=> some b)

theorem aMc (a:List (List Int)) (b:Option Addr) (c:Nat) (r:List (List Int)) (h:uZ a=some r):
 FC Tryz.prog 54 [.agg #[sL b a c]] [⟨(.sl iT),⟨b,a.length,c⟩,a⟩] (fun _:Option Addr×Nat=>True) (fun q=>.agg #[sL q.1 r q.2]) (fun q=>[⟨(.sl iT),⟨q.1,r.length,q.2⟩,r⟩]):= by
 refine FC.of (T:=TTx) Tryz.call54 Tryz.func54 E E fun i=>?_
 unfold uZ at h
 refine aM aA 2 [] [2,3] [(1,.bp 2 0),(2,.bp 3 0)] (.new 2 27 [sL b a c] (.new 3 41 [.slice none 0 0] .nil)) ⟨(Es E),(Bs E E)⟩ E E (aM aA 1 [] [4] [(3,.bp 4 0)] (.new 2 27 [sL b a c] (.new 3 41 [.slice none 0 0] (.new 4 41 [.slice none 0 0] .nil))) ⟨ev2,(Bs E E)⟩ E E (JS.seq (JS.region (aB aA 2 [] [] [(5,.v (sL b a c))] _ E ev1 ?_))))
 refine bnw h fun f g h=>JO.call E E E E (aH1 a b c _ g) E [0] E E ?_
 rintro ⟨d,e⟩ -
 refine aL aA 2 [] [] [] (.new 3 41 [.slice none 0 0] (.new 4 41 [sL d f e] .nil)) E ⟨V,(Bs E E)⟩ (aD E (aM aA 2 [] [] [] (.new 3 41 [sL d f e] .nil) ⟨V,(Bs E E)⟩ E E ?_))
 cases h
 exact JS.ret aA (d,e) V E E [0] E

def mN (b:List (List Int×Int)) (d:(List (List Int×Int))→Option (List (List Int×Int))) (e:((List (List Int×Int))×Int)→Option (List (List Int×Int))):((List (List Int×Int))×Int)→Option (List (List Int×Int)):=fun (c,a)=>(bif decide (a<(b.length:Int)) then (aP (0≤a∧a<(b.length:Int)) <|(aF (mO ((at' b a).1,(at' b a).2)) fun f=>(aP (0≤a∧a<(c.length:Int)) <|e ((List.set c (Int.toNat a) f),(W (a+1)))))) else d c)

def wB (a:List (List Int×Int)):Option (List (List Int×Int)):= (aP (a.length≤536870912) <|(aS (fun (b:List (List Int×Int))=> some b) fun c=>(aW (mN a c) bG ((List.replicate a.length ([],(0:Int))),0))))

theorem aJ8 (a:List (List Int×Int)) (c:Option Addr) (d:Nat) (r:List (List Int×Int)) (h:wB a=some r):
 FC Tryz.prog 140 [sL c a d] [⟨(.pair (.sl iT) iT),⟨c,a.length,d⟩,a⟩] (fun _:Option Addr×Nat=>True) (fun q=>sL q.1 r q.2) (fun q=>[⟨(.pair (.sl iT) iT),⟨q.1,r.length,q.2⟩,r⟩]):= by
 refine FC.of (T:=TTx) Tryz.call140 Tryz.func140 E E fun G=>?_
 unfold wB at h
 refine aC aA 1 [] ev5 E E (JS.seq (JS.region (aB aA 2 [] [] [(6,.v (I (a.length:Int)))] _ E ev1 ?_)))
 obtain ⟨u,h⟩:=aK h
 refine JO.makeSlice aA E E E E E E E E a.length E u (.pair (.sl iT) iT) E E E E E fun j=>aB aA 1 [] [] [(3,.v (sL j a a.length))] _ E ev1 (aD E (JS.seq (aC aA 1 [(4,.v (I 0))] ev1 E E ?_)))
 obtain ⟨k,w,h⟩:=aN h
 refine aX (ι:=(List (List Int×Int))×Option Addr×Nat) ⟨fun z=>k z.1=some r,fun z=>[(3,.v (sL z.2.1 z.1 z.2.2))],fun z=>.nil,fun z=>[],fun z=>[⟨(.pair (.sl iT) iT),⟨z.2.1,z.1.length,z.2.2⟩,z.1⟩],fun z=>0⟩ ?_ ?_
 ·
  refine JS.loop (ι:=Nat×(List (List Int×Int))×Int×Option Addr×Nat) ⟨fun z=>aW (mN a k) z.1 (z.2.1,z.2.2.1)=some r,fun z=>[(0,.v (sL c a d)),(3,.v (sL z.2.2.2.1 z.2.1 (Q4 z))),(4,.v (I z.2.2.1))],fun z=>.nil,fun z=>[⟨(.pair (.sl iT) iT),⟨c,a.length,d⟩,a⟩],fun z=>[⟨(.pair (.sl iT) iT),⟨z.2.2.2.1,z.2.1.length,(Q4 z)⟩,z.2.1⟩],fun z=>z.1⟩ (bG,(List.replicate a.length ([],(0:Int))),0,j,a.length) h ⟨E,(by simp only [List.length_set,List.length_replicate,cF,eU,sL,fI,rM,rL];rfl),E,V⟩ V [0] E [0] (by simp only [List.length_set,List.length_replicate,cF,eU,sL,fI,rM,rL];rfl) ?_
  rintro ⟨l,e,b,f,g⟩ h
  obtain ⟨l,rfl,h⟩:=bC h
  rw [mN] at h
  refine JS.seq (aC aA 4 [(11,.v (.bool (decide (b<(a.length:Int)))))] ev1 E E ?_)
  refine aH E h (fun h=>?_) (fun h=>?_)
  ·
   refine JS.skip (JS.seq (JS.block (JS.region (bJ 0 E fun x=>?_))))
   obtain ⟨m,h⟩:=aK h
   refine aB aA 5 [] [] [(14,.v (sL f e g)),(15,.v (I b)),(18,.ep ⟨c,a.length,d⟩ (Int.toNat b*2))] _ E ⟨x.ix m,(Es E),E⟩ (fS 0 E (Int.toNat b) (at' a b) E fun n o H J y=>cN aA E E E E E E 0 E E (Int.toNat b) 0 ((Sl.v ⟨n,((at' a b).1).length,o⟩),(at' a b).2) ⟨y (lR m),E⟩ E E E ?_)
   refine bnw h fun i A h=>JO.call E E E E (vR ((at' a b).1,(at' a b).2) n o _ A) E [1] E E ?_
   rintro ⟨B,C⟩ -
   refine bJ 4 E fun D=>?_
   obtain ⟨p,h⟩:=aK h
   refine aB aA 1 [] [] [(21,.ep ⟨f,e.length,g⟩ (Int.toNat b*2))] _ E ⟨D.ix p,ev2,E⟩ (gY aA E E E E E E E E E [1,0] (fs:=[fI B C i.1]) E (Int.toNat b) 0 (at' e b) i ⟨bD p,E⟩ ⟨E,E,E,E⟩ (aD E (aV (bY aA 3 [(W (b+1))] [] [(4,.v (I (W (b+1))))] _ ev3 E E (bR (l,(List.set e (Int.toNat b) i),(W (b+1)),f,g) h (Nat.lt_succ_self _) ⟨E,(by simp only [List.length_set,List.length_replicate,cF,eU,sL,fI,rM,rL];rfl),E,V⟩ V [2] E [0] (by simp only [List.length_set,List.length_replicate,cF,eU,sL,fI,rM,rL];rfl))))))
  refine JS.exit E (aQ (e,f,g) h ev2 V [] E [0] E)
 rintro ⟨F,s,t⟩ h
 subst w
 refine aC aA 2 [(2,.v (sL s F t))] ev1 E E ?_
 cases h
 exact JS.ret aA (s,t) V E E [0] E

def uY (a:List (List Int×Int)):Option (List (List Int×Int)):= (aF (wB a) fun b=> some b)

theorem aMb (a:List (List Int×Int)) (b:Option Addr) (c:Nat) (r:List (List Int×Int)) (h:uY a=some r):
 FC Tryz.prog 55 [.agg #[sL b a c]] [⟨(.pair (.sl iT) iT),⟨b,a.length,c⟩,a⟩] (fun _:Option Addr×Nat=>True) (fun q=>.agg #[sL q.1 r q.2]) (fun q=>[⟨(.pair (.sl iT) iT),⟨q.1,r.length,q.2⟩,r⟩]):= by
 refine FC.of (T:=TTx) Tryz.call55 Tryz.func55 E E fun i=>?_
 unfold uY at h
 refine aM aA 2 [] [2,3] [(1,.bp 2 0),(2,.bp 3 0)] (.new 2 30 [sL b a c] (.new 3 44 [.slice none 0 0] .nil)) ⟨(Es E),(Bs E E)⟩ E E (aM aA 1 [] [4] [(3,.bp 4 0)] (.new 2 30 [sL b a c] (.new 3 44 [.slice none 0 0] (.new 4 44 [.slice none 0 0] .nil))) ⟨ev2,(Bs E E)⟩ E E (JS.seq (JS.region (aB aA 2 [] [] [(5,.v (sL b a c))] _ E ev1 ?_))))
 refine bnw h fun f g h=>JO.call E E E E (aJ8 a b c _ g) E [0] E E ?_
 rintro ⟨d,e⟩ -
 refine aL aA 2 [] [] [] (.new 3 44 [.slice none 0 0] (.new 4 44 [sL d f e] .nil)) E ⟨V,(Bs E E)⟩ (aD E (aM aA 2 [] [] [] (.new 3 44 [sL d f e] .nil) ⟨V,(Bs E E)⟩ E E ?_))
 cases h
 exact JS.ret aA (d,e) V E E [0] E

def qW (a:EdQ):Option EdQ:= (aF (mO a.2.2.1) fun b=>(aF (uZ a.2.2.2.2.2.2.2.2.2.2.1) fun c=>(aF (uY a.2.2.2.2.2.2.2.2.2.2.2.1) fun d=>(aF (mO a.2.2.2.2.2.2.2.2.2.2.2.2.2.1) fun e=>(aF (pK a.2.2.2.2.2.2.2.2.2.2.2.2.2.2.1) fun f=>(aF (mO a.2.2.2.2.2.2.2.2.2.2.2.2.2.2.2.2) fun g=> some (a.1,a.2.1,b,a.2.2.2.1,a.2.2.2.2.1,a.2.2.2.2.2.1,a.2.2.2.2.2.2.1,a.2.2.2.2.2.2.2.1,a.2.2.2.2.2.2.2.2.1,a.2.2.2.2.2.2.2.2.2.1,c,d,a.2.2.2.2.2.2.2.2.2.2.2.2.1,e,f,a.2.2.2.2.2.2.2.2.2.2.2.2.2.2.2.1,g)))))))

theorem uC (a:EdQ) (b:P6) (r:EdQ) (h:qW a=some r):
 FC Tryz.prog 13 [.agg (cD a b).toArray] (bP a b []) (fun _:P6=>True) (fun q=>.agg (aG r q).toArray) (fun q=>(bP r q [])):= by
 refine FC.of (T:=TTx) Tryz.call13 Tryz.func13 E E fun F=>?_
 unfold qW at h
 refine aM aA 2 [] [7,8] [(1,.bp 7 0),(2,.bp 8 0)] (.new 7 32 (cD a b) (.new 8 46 bA .nil)) ⟨(Es E),(Bs E E)⟩ E E (aM aA 1 [] [9] [(3,.bp 9 0)] (.new 7 32 (cD a b) (.new 8 46 bA (.new 9 46 bA .nil))) ⟨ev2,(Bs E E)⟩ E E (aM aA 4 [] [] [] (.new 7 32 (cD a b) (.new 8 46 bA (.new 9 46 (aG (a.1,0,([],0),0,0,0,0,0,0,0,[],[],0,([],0),[],0,([],0)) (none,0,none,0,none,0,none,0,none,0,none,0)) .nil))) ⟨V,(Bs E E)⟩ E E (aM aA 4 [] [] [] (.new 7 32 (cD a b) (.new 8 46 bA (.new 9 46 (aG (a.1,a.2.1,([],0),0,0,0,0,0,0,0,[],[],0,([],0),[],0,([],0)) (none,0,none,0,none,0,none,0,none,0,none,0)) .nil))) ⟨V,(Bs E E)⟩ E E (JS.seq (JS.region (aB aA 2 [] [] [(11,.v (.agg #[sL b.1 a.2.2.1.1 b.2.1,I a.2.2.1.2]))] _ E ev1 ?_))))))
 refine bnw h fun e y h=>JO.call E E E E (vR a.2.2.1 b.1 b.2.1 _ y) E [0] E E ?_
 rintro ⟨c,d⟩ -
 refine aL aA 2 [] [] [] (.new 7 32 (cD a b) (.new 8 46 bA (.new 9 46 (aG (a.1,a.2.1,e,0,0,0,0,0,0,0,[],[],0,([],0),[],0,([],0)) (c,d,none,0,none,0,none,0,none,0,none,0)) .nil))) E ⟨V,(Bs E E)⟩ (aD E (aM aA 4 [] [] [] (.new 7 32 (cD a b) (.new 8 46 bA (.new 9 46 (aG (a.1,a.2.1,e,a.2.2.2.1,0,0,0,0,0,0,[],[],0,([],0),[],0,([],0)) (c,d,none,0,none,0,none,0,none,0,none,0)) .nil))) ⟨V,(Bs E E)⟩ E E (aM aA 4 [] [] [] (.new 7 32 (cD a b) (.new 8 46 bA (.new 9 46 (aG (a.1,a.2.1,e,a.2.2.2.1,(Q4 a).1,0,0,0,0,0,[],[],0,([],0),[],0,([],0)) (c,d,none,0,none,0,none,0,none,0,none,0)) .nil))) ⟨V,(Bs E E)⟩ E E (aM aA 4 [] [] [] (.new 7 32 (cD a b) (.new 8 46 bA (.new 9 46 (aG (a.1,a.2.1,e,a.2.2.2.1,(Q4 a).1,(Q4 a).2.1,0,0,0,0,[],[],0,([],0),[],0,([],0)) (c,d,none,0,none,0,none,0,none,0,none,0)) .nil))) ⟨V,(Bs E E)⟩ E E (aM aA 4 [] [] [] (.new 7 32 (cD a b) (.new 8 46 bA (.new 9 46 (aG (a.1,a.2.1,e,a.2.2.2.1,(Q4 a).1,(Q4 a).2.1,(Q4 a).2.2.1,0,0,0,[],[],0,([],0),[],0,([],0)) (c,d,none,0,none,0,none,0,none,0,none,0)) .nil))) ⟨V,(Bs E E)⟩ E E (aM aA 4 [] [] [] (.new 7 32 (cD a b) (.new 8 46 bA (.new 9 46 (aG (a.1,a.2.1,e,a.2.2.2.1,(Q4 a).1,(Q4 a).2.1,(Q4 a).2.2.1,(Q4 a).2.2.2.1,0,0,[],[],0,([],0),[],0,([],0)) (c,d,none,0,none,0,none,0,none,0,none,0)) .nil))) ⟨V,(Bs E E)⟩ E E (aM aA 4 [] [] [] (.new 7 32 (cD a b) (.new 8 46 bA (.new 9 46 (aG (a.1,a.2.1,e,a.2.2.2.1,(Q4 a).1,(Q4 a).2.1,(Q4 a).2.2.1,(Q4 a).2.2.2.1,(Q8 a).1,0,[],[],0,([],0),[],0,([],0)) (c,d,none,0,none,0,none,0,none,0,none,0)) .nil))) ⟨V,(Bs E E)⟩ E E (aM aA 4 [] [] [] (.new 7 32 (cD a b) (.new 8 46 bA (.new 9 46 (aG (a.1,a.2.1,e,a.2.2.2.1,(Q4 a).1,(Q4 a).2.1,(Q4 a).2.2.1,(Q4 a).2.2.2.1,(Q8 a).1,(Q8 a).2.1,[],[],0,([],0),[],0,([],0)) (c,d,none,0,none,0,none,0,none,0,none,0)) .nil))) ⟨V,(Bs E E)⟩ E E (JS.seq (JS.region (aB aA 2 [] [] [(36,.v (.agg #[sL b.2.2.1 (Q8 a).2.2.1 b.2.2.2.1]))] _ E ev1 ?_)))))))))))
 refine bnw h fun i z h=>JO.call E E E E (aMc (Q8 a).2.2.1 b.2.2.1 b.2.2.2.1 _ z) E [1] E E ?_
 rintro ⟨f,g⟩ -
 refine aL aA 2 [] [] [] (.new 7 32 (cD a b) (.new 8 46 bA (.new 9 46 (aG (a.1,a.2.1,e,a.2.2.2.1,(Q4 a).1,(Q4 a).2.1,(Q4 a).2.2.1,(Q4 a).2.2.2.1,(Q8 a).1,(Q8 a).2.1,i,[],0,([],0),[],0,([],0)) (c,d,f,g,none,0,none,0,none,0,none,0)) .nil))) E ⟨V,(Bs E E)⟩ (aD E (JS.seq (JS.region (aB aA 2 [] [] [(40,.v (.agg #[sL (Q4 b).1 (Q8 a).2.2.2.1 (Q4 b).2.1]))] _ E ev1 ?_))))
 refine bnw h fun l A h=>JO.call E E E E (aMb (Q8 a).2.2.2.1 (Q4 b).1 (Q4 b).2.1 _ A) E [2] E E ?_
 rintro ⟨j,k⟩ -
 refine aL aA 2 [] [] [] (.new 7 32 (cD a b) (.new 8 46 bA (.new 9 46 (aG (a.1,a.2.1,e,a.2.2.2.1,(Q4 a).1,(Q4 a).2.1,(Q4 a).2.2.1,(Q4 a).2.2.2.1,(Q8 a).1,(Q8 a).2.1,i,l,0,([],0),[],0,([],0)) (c,d,f,g,j,k,none,0,none,0,none,0)) .nil))) E ⟨V,(Bs E E)⟩ (aD E (aM aA 4 [] [] [] (.new 7 32 (cD a b) (.new 8 46 bA (.new 9 46 (aG (a.1,a.2.1,e,a.2.2.2.1,(Q4 a).1,(Q4 a).2.1,(Q4 a).2.2.1,(Q4 a).2.2.2.1,(Q8 a).1,(Q8 a).2.1,i,l,(Q12 a).1,([],0),[],0,([],0)) (c,d,f,g,j,k,none,0,none,0,none,0)) .nil))) ⟨V,(Bs E E)⟩ E E (JS.seq (JS.region (aB aA 2 [] [] [(47,.v (.agg #[sL (Q4 b).2.2.1 (Q12 a).2.1.1 (Q4 b).2.2.2.1,I (Q12 a).2.1.2]))] _ E ev1 ?_)))))
 refine bnw h fun o B h=>JO.call E E E E (vR (Q12 a).2.1 (Q4 b).2.2.1 (Q4 b).2.2.2.1 _ B) E [3] E E ?_
 rintro ⟨m,n⟩ -
 refine aL aA 2 [] [] [] (.new 7 32 (cD a b) (.new 8 46 bA (.new 9 46 (aG (a.1,a.2.1,e,a.2.2.2.1,(Q4 a).1,(Q4 a).2.1,(Q4 a).2.2.1,(Q4 a).2.2.2.1,(Q8 a).1,(Q8 a).2.1,i,l,(Q12 a).1,o,[],0,([],0)) (c,d,f,g,j,k,m,n,none,0,none,0)) .nil))) E ⟨V,(Bs E E)⟩ (aD E (JS.seq (JS.region (aB aA 2 [] [] [(51,.v (sL (Q8 b).1 (Q12 a).2.2.1 (Q8 b).2.1))] _ E ev1 ?_))))
 refine bnw h fun t C h=>JO.call E E E E (zV (Q12 a).2.2.1 (Q8 b).1 (Q8 b).2.1 _ C) E [4] E E ?_
 rintro ⟨p,s⟩ -
 refine aL aA 2 [] [] [] (.new 7 32 (cD a b) (.new 8 46 bA (.new 9 46 (aG (a.1,a.2.1,e,a.2.2.2.1,(Q4 a).1,(Q4 a).2.1,(Q4 a).2.2.1,(Q4 a).2.2.2.1,(Q8 a).1,(Q8 a).2.1,i,l,(Q12 a).1,o,t,0,([],0)) (c,d,f,g,j,k,m,n,p,s,none,0)) .nil))) E ⟨V,(Bs E E)⟩ (aD E (aM aA 4 [] [] [] (.new 7 32 (cD a b) (.new 8 46 bA (.new 9 46 (aG (a.1,a.2.1,e,a.2.2.2.1,(Q4 a).1,(Q4 a).2.1,(Q4 a).2.2.1,(Q4 a).2.2.2.1,(Q8 a).1,(Q8 a).2.1,i,l,(Q12 a).1,o,t,(Q12 a).2.2.2.1,([],0)) (c,d,f,g,j,k,m,n,p,s,none,0)) .nil))) ⟨V,(Bs E E)⟩ E E (JS.seq (JS.region (aB aA 2 [] [] [(58,.v (.agg #[sL (Q8 b).2.2.1 (Q16 a).1 (Q8 b).2.2.2,I (Q16 a).2]))] _ E ev1 ?_)))))
 refine bnw h fun x D h=>JO.call E E E E (vR (Q16 a) (Q8 b).2.2.1 (Q8 b).2.2.2 _ D) E [5] E E ?_
 rintro ⟨u,w⟩ -
 refine aL aA 2 [] [] [] (.new 8 46 bA (.new 9 46 (aG (a.1,a.2.1,e,a.2.2.2.1,(Q4 a).1,(Q4 a).2.1,(Q4 a).2.2.1,(Q4 a).2.2.2.1,(Q8 a).1,(Q8 a).2.1,i,l,(Q12 a).1,o,t,(Q12 a).2.2.2.1,x) (c,d,f,g,j,k,m,n,p,s,u,w)) .nil)) E ⟨V,(Bs E E)⟩ (aD E (aM aA 2 [] [] [] (.new 8 46 (aG (a.1,a.2.1,e,a.2.2.2.1,(Q4 a).1,(Q4 a).2.1,(Q4 a).2.2.1,(Q4 a).2.2.2.1,(Q8 a).1,(Q8 a).2.1,i,l,(Q12 a).1,o,t,(Q12 a).2.2.2.1,x) (c,d,f,g,j,k,m,n,p,s,u,w)) .nil) ⟨V,(Bs E E)⟩ E E ?_))
 cases h
 exact JS.ret aA (c,d,f,g,j,k,m,n,p,s,u,w) V E E [5,4,3,2,1,0] E

def jI (b:List (List UInt8)) (d:(List (List UInt8))→Option (List (List UInt8))) (e:(List (List UInt8)×Int)→Option (List (List UInt8))):(List (List UInt8)×Int)→Option (List (List UInt8)):=fun (c,a)=>(bif decide (a<(b.length:Int)) then (aP (0≤a∧a<(b.length:Int)) <|(aP (0≤a∧a<(c.length:Int)) <|e ((List.set c (Int.toNat a) (at' b a)),(W (a+1))))) else d c)

def oG (a:List (List UInt8)):Option (List (List UInt8)):= (aP (a.length≤536870912) <|(aS (fun (b:List (List UInt8))=> some b) fun c=>(aW (jI a c) bG ((List.replicate a.length []),0))))

theorem aGa (a:List (List UInt8)) (c:Option Addr) (d:Nat) (r:List (List UInt8)) (h:oG a=some r):
 FC Tryz.prog 56 [sL c a d] [⟨.str,⟨c,a.length,d⟩,a⟩] (fun _:Option Addr×Nat=>True) (fun q=>sL q.1 r q.2) (fun q=>[⟨.str,⟨q.1,r.length,q.2⟩,r⟩]):= by
 refine FC.of (T:=TTx) Tryz.call56 Tryz.func56 E E fun x=>?_
 unfold oG at h
 refine aC aA 1 [] ev5 E E (JS.seq (JS.region (aB aA 2 [] [] [(6,.v (I (a.length:Int)))] _ E ev1 ?_)))
 obtain ⟨p,h⟩:=aK h
 refine JO.makeSlice aA E E E E E E E E a.length E p .str E E E E E fun i=>aB aA 1 [] [] [(3,.v (sL i a a.length))] _ E ev1 (aD E (JS.seq (aC aA 1 [(4,.v (I 0))] ev1 E E ?_)))
 obtain ⟨j,s,h⟩:=aN h
 refine aX (ι:=List (List UInt8)×Option Addr×Nat) ⟨fun z=>j z.1=some r,fun z=>[(3,.v (sL z.2.1 z.1 z.2.2))],fun z=>.nil,fun z=>[],fun z=>[⟨.str,⟨z.2.1,z.1.length,z.2.2⟩,z.1⟩],fun z=>0⟩ ?_ ?_
 ·
  refine JS.loop (ι:=Nat×List (List UInt8)×Int×Option Addr×Nat) ⟨fun z=>aW (jI a j) z.1 (z.2.1,z.2.2.1)=some r,fun z=>[(0,.v (sL c a d)),(3,.v (sL z.2.2.2.1 z.2.1 (Q4 z))),(4,.v (I z.2.2.1))],fun z=>.nil,fun z=>[⟨.str,⟨c,a.length,d⟩,a⟩],fun z=>[⟨.str,⟨z.2.2.2.1,z.2.1.length,(Q4 z)⟩,z.2.1⟩],fun z=>z.1⟩ (bG,(List.replicate a.length []),0,i,a.length) h ⟨E,(by simp only [List.length_set,List.length_replicate,cF,eU,sL,fI,rM,rL];rfl),E,V⟩ V [0] E [0] (by simp only [List.length_set,List.length_replicate,cF,eU,sL,fI,rM,rL];rfl) ?_
  rintro ⟨k,e,b,f,g⟩ h
  obtain ⟨k,rfl,h⟩:=bC h
  rw [jI] at h
  refine JS.seq (aC aA 4 [(11,.v (.bool (decide (b<(a.length:Int)))))] ev1 E E ?_)
  refine aH E h (fun h=>?_) (fun h=>?_)
  ·
   refine JS.skip (JS.seq (JS.block (JS.region (bJ 0 E fun t=>?_))))
   obtain ⟨l,h⟩:=aK h
   refine aB aA 5 [] [] [(14,.v (sL f e g)),(15,.v (I b)),(18,.ep ⟨c,a.length,d⟩ (Int.toNat b*1))] _ E ⟨t.ix l,(Es E),E⟩ (JO.load aA E E E E E E E 0 E E (Int.toNat b) 0 (at' a b) ⟨bD l,E⟩ E E (bJ 1 E fun u=>?_))
   obtain ⟨m,h⟩:=aK h
   refine aB aA 1 [] [] [(20,.ep ⟨f,e.length,g⟩ (Int.toNat b*1))] _ E ⟨u.ix m,ev2,E⟩ (gY aA E E E E E E E E E [0] (fs:=[]) E (Int.toNat b) 0 (at' e b) (at' a b) ⟨bD m,E⟩ ev8 (aD E (aV (bY aA 3 [(W (b+1))] [] [(4,.v (I (W (b+1))))] _ ev3 E E (bR (k,(List.set e (Int.toNat b) (at' a b)),(W (b+1)),f,g) h (Nat.lt_succ_self _) ⟨E,(by simp only [List.length_set,List.length_replicate,cF,eU,sL,fI,rM,rL];rfl),E,V⟩ V [0] E [0] (by simp only [List.length_set,List.length_replicate,cF,eU,sL,fI,rM,rL];rfl))))))
  refine JS.exit E (aQ (e,f,g) h ev2 V [] E [0] E)
 rintro ⟨w,n,o⟩ h
 subst s
 refine aC aA 2 [(2,.v (sL n w o))] ev1 E E ?_
 cases h
 exact JS.ret aA (n,o) V E E [0] E

def mP (a:Int×List (List UInt8)):Option (Int×List (List UInt8)):= (aF (oG a.2) fun b=> some (a.1,b))

theorem jQ (a:Int×List (List UInt8)) (b:Option Addr) (c:Nat) (r:Int×List (List UInt8)) (h:mP a=some r):
 FC Tryz.prog 14 [.agg #[I a.1,sL b a.2 c]] [⟨.str,⟨b,a.2.length,c⟩,a.2⟩] (fun _:Option Addr×Nat=>True) (fun q=>.agg #[I r.1,sL q.1 r.2 q.2]) (fun q=>[⟨.str,⟨q.1,r.2.length,q.2⟩,r.2⟩]):= by
 refine FC.of (T:=TTx) Tryz.call14 Tryz.func14 E E fun i=>?_
 unfold mP at h
 refine aM aA 2 [] [2,3] [(1,.bp 2 0),(2,.bp 3 0)] (.new 2 35 [I a.1,sL b a.2 c] (.new 3 50 [I 0,.slice none 0 0] .nil)) ⟨(Es E),(Bs E E)⟩ E E (aM aA 1 [] [4] [(3,.bp 4 0)] (.new 2 35 [I a.1,sL b a.2 c] (.new 3 50 [I 0,.slice none 0 0] (.new 4 50 [I 0,.slice none 0 0] .nil))) ⟨ev2,(Bs E E)⟩ E E (aM aA 4 [] [] [] (.new 2 35 [I a.1,sL b a.2 c] (.new 3 50 [I 0,.slice none 0 0] (.new 4 50 [I a.1,.slice none 0 0] .nil))) ⟨V,(Bs E E)⟩ E E (JS.seq (JS.region (aB aA 2 [] [] [(8,.v (sL b a.2 c))] _ E ev1 ?_)))))
 refine bnw h fun f g h=>JO.call E E E E (aGa a.2 b c _ g) E [0] E E ?_
 rintro ⟨d,e⟩ -
 refine aL aA 2 [] [] [] (.new 3 50 [I 0,.slice none 0 0] (.new 4 50 [I a.1,sL d f e] .nil)) E ⟨V,(Bs E E)⟩ (aD E (aM aA 2 [] [] [] (.new 3 50 [I a.1,sL d f e] .nil) ⟨V,(Bs E E)⟩ E E ?_))
 cases h
 exact JS.ret aA (d,e) V E E [0] E

def xL (a:Int×Int):Option (Int×Int):= some a

theorem iR (a:Int×Int) (r:Int×Int) (h:xL a=some r) :
 FC Tryz.prog 25 [.agg #[I a.1,I a.2]] [] (fun _:Unit=>True) (fun _=>.agg #[I r.1,I r.2]) (fun _=>[]):= by
 refine FC.of (T:=TTx) Tryz.call25 Tryz.func25 E E fun b=>?_
 unfold xL at h
 refine aM aA 2 [] [1,2] [(1,.bp 1 0),(2,.bp 2 0)] (.new 1 61 [I a.1,I a.2] (.new 2 64 [I 0,I 0] .nil)) ⟨(Es E),(Bs E E)⟩ E E (aM aA 1 [] [3] [(3,.bp 3 0)] (.new 1 61 [I a.1,I a.2] (.new 2 64 [I 0,I 0] (.new 3 64 [I 0,I 0] .nil))) ⟨ev2,(Bs E E)⟩ E E (aM aA 4 [] [] [] (.new 1 61 [I a.1,I a.2] (.new 2 64 [I 0,I 0] (.new 3 64 [I a.1,I 0] .nil))) ⟨V,(Bs E E)⟩ E E (aM aA 4 [] [] [] (.new 2 64 [I 0,I 0] (.new 3 64 [I a.1,I a.2] .nil)) ⟨V,(Bs E E)⟩ E E (aM aA 2 [] [] [] (.new 2 64 [I a.1,I a.2] .nil) ⟨V,(Bs E E)⟩ E E ?_))))
 cases h
 exact JS.ret aA () V E E [] E

def mK (a:Int):Option Bool:= some (bif (bif decide (0≤a) then (decide (a≤1114111)) else false) then (bif decide (a<55296) then true else (decide (57343<a))) else false)

theorem aD9 (a:Int) (r:Bool) (h:mK a=some r) :
 FC Tryz.prog 230 [I a] [] (fun _:Unit=>True) (fun _=>.bool r) (fun _=>[]):= by
 refine FC.of (T:=TTx) Tryz.call230 Tryz.func230 E E fun b=>?_
 unfold mK at h
 refine aC aA 1 [] ev5 E E (aC aA 15 [(2,.v (.bool (bif (bif (decide (0≤a)) then (decide (a≤1114111)) else false) then (bif (decide (a<55296)) then true else (decide (57343<a))) else false)))] ev1 E E ?_)
 cases h
 exact JS.ret aA () V E E [] E

def eH (a:Int):Option Bool:= (aF (mK a) fun b=> some (bif (bif b then (decide (32≤a)) else false) then (bif decide (a<127) then true else (decide (159<a))) else false))

theorem lZ (a:Int) (r:Bool) (h:eH a=some r) :
 FC Tryz.prog 132 [I a] [] (fun _:Unit=>True) (fun _=>.bool r) (fun _=>[]):= by
 refine FC.of (T:=TTx) Tryz.call132 Tryz.func132 E E fun d=>?_
 unfold eH at h
 refine aC aA 1 [] ev5 E E (JS.seq (JS.region (aB aA 1 [] [] [(3,.v (I a))] _ E ev1 ?_)))
 refine bnw h fun b c h=>JO.call E E E E (aD9 a _ c) E [] E E fun _ _=>aB aA 13 [] [] [(2,.v (.bool (bif (bif b then (decide (32≤a)) else false) then (bif (decide (a<127)) then true else (decide (159<a))) else false)))] _ E ev1 (aD E ?_)
 cases h
 exact JS.ret aA () V E E [] E

def qP (a:Int):Option Bool:= (aF (eH a) fun b=> some (bif (bif b then true else (decide (a=9))) then true else (decide (a=10))))

theorem aHu (a:Int) (r:Bool) (h:qP a=some r) :
 FC Tryz.prog 283 [I a] [] (fun _:Unit=>True) (fun _=>.bool r) (fun _=>[]):= by
 refine FC.of (T:=TTx) Tryz.call283 Tryz.func283 E E fun d=>?_
 unfold qP at h
 refine aC aA 1 [] ev5 E E (JS.seq (JS.region (aB aA 1 [] [] [(3,.v (I a))] _ E ev1 ?_)))
 refine bnw h fun b c h=>JO.call E E E E (lZ a _ c) E [] E E fun _ _=>aB aA 9 [] [] [(2,.v (.bool (bif (bif b then true else (decide (a=9))) then true else (decide (a=10)))))] _ E ev1 (aD E ?_)
 cases h
 exact JS.ret aA () V E E [] E

def fF (b:List Int) (c:Unit→Option Bool) (d:Int→Option Bool):Int→Option Bool:=fun a=>(bif decide (a<(b.length:Int)) then (aP (0≤a∧a<(b.length:Int)) <|(aF (qP (at' b a)) fun e=>(bif (!e) then some false else d (W (a+1))))) else c ())

def gX (a:List Int):Option Bool:= (aS (fun (_:Unit)=> some true) fun b=>(aW (fF a b) bG 0))

theorem wW (a:List Int) (c:Option Addr) (d:Nat) (r:Bool) (h:gX a=some r):
 FC Tryz.prog 227 [sL c a d] [fI c d a] (fun _:Unit=>True) (fun _=>.bool r) (fun _=>[]):= by
 refine FC.of (T:=TTx) Tryz.call227 Tryz.func227 E E fun m=>?_
 unfold gX at h
 refine aC aA 1 [] ev5 E E (JS.seq (aC aA 3 [(5,.v (sL c a d)),(6,.v (I (a.length:Int))),(7,.v (I 0))] ⟨(Es E),E⟩ E E ?_))
 obtain ⟨e,i,h⟩:=aN h
 refine aX (ι:=Unit) ⟨fun _=>e ()=some r,fun _=>[],fun _=>.nil,fun _=>[],fun _=>[],fun _=>0⟩ ?_ ?_
 ·
  refine JS.loop (ι:=Nat×Int) ⟨fun z=>aW (fF a e) z.1 z.2=some r,fun z=>[(5,.v (sL c a d)),(6,.v (I (a.length:Int))),(7,.v (I z.2))],fun z=>.nil,fun z=>[fI c d a],fun z=>[],fun z=>z.1⟩ (bG,0) h (Es E) V [0] E [] E ?_
  rintro ⟨f,b⟩ h
  obtain ⟨f,rfl,h⟩:=bC h
  rw [fF] at h
  refine aC aA 1 [(8,.v (.bool (decide (b<(a.length:Int)))))] ev1 E E (JS.seq ?_)
  refine aH E h (fun h=>?_) (fun h=>?_)
  ·
   refine JS.skip (JS.seq (JS.block (JS.seq (JS.region (bJ 0 E fun j=>?_)))))
   obtain ⟨g,h⟩:=aK h
   refine aB aA 1 [] [] [(9,.ep ⟨c,a.length,d⟩ (Int.toNat b*1))] _ E ⟨j.ix g,ev2,E⟩ (JO.load aA E E E E E E E 0 E E (Int.toNat b) 0 (at' a b) ⟨bD g,E⟩ E E (aB aA 1 [] [] [(4,.v (I (at' a b)))] _ E ev1 (aD E (JS.seq (JS.region (aB aA 1 [] [] [(11,.v (I (at' a b)))] _ E ev1 ?_))))))
   refine bnw h fun k l h=>JO.call E E E E (aHu (at' a b) _ l) E [] E E fun _ _=>aB aA 1 [] [] [(13,.v (.bool (!k)))] _ E ev1 (aD E ?_)
   refine aH E h (fun h=>?_) (fun h=>?_)
   ·
    refine aC aA 1 [(2,.v (.bool false))] ev1 E E ?_
    cases h
    exact JS.ret aA () V E E [] E
   refine JS.skip (aV (bY aA 2 [(W (b+1))] [] [(7,.v (I (W (b+1))))] _ ev3 E E (bR (f,(W (b+1))) h (Nat.lt_succ_self _) (Es E) V [0] E [] E)))
  refine JS.exit E (aQ () h V V [] E [] E)
 rintro _ h
 subst i
 refine aC aA 1 [(2,.v (.bool true))] ev1 E E ?_
 cases h
 exact JS.ret aA () V E E [] E

def dX (a:List Int×Int):Option Bool:= (bW ((decide ((a.1.length:Int)≤400))=true) (gX a.1) false fun b=> some (bif (bif (bif decide ((a.1.length:Int)≤400) then b else false) then (decide (0≤a.2)) else false) then (decide (a.2≤(a.1.length:Int))) else false))

theorem gD (a:List Int×Int) (b:Option Addr) (c:Nat) (r:Bool) (h:dX a=some r):
 FC Tryz.prog 128 [.agg #[sL b a.1 c,I a.2]] [fI b c a.1] (fun _:Unit=>True) (fun _=>.bool r) (fun _=>[]):= by
 refine FC.of (T:=TTx) Tryz.call128 Tryz.func128 E E fun g=>?_
 unfold dX at h
 refine aM aA 2 [] [2] [(1,.bp 2 0)] (.new 2 38 [sL b a.1 c,I a.2] .nil) ⟨ev2,(Bs E E)⟩ E E (JS.seq (JS.region (aB aA 7 [] [] [(7,.v (.bool (decide ((a.1.length:Int)≤400)))),(9,.cd [(7,true)] (.v (sL b a.1 c)))] _ E ⟨(Es E),E⟩ ?_)))
 obtain ⟨d,e,-,h⟩:=aY h
 refine bL E E E E (fun f=>wW a.1 b c _ (e f)) E [0] E E (aB aA 15 [] [] [(2,.v (.bool (bif (bif (bif (decide ((a.1.length:Int)≤400)) then d else false) then (decide (0≤a.2)) else false) then (decide (a.2≤(a.1.length:Int))) else false)))] _ E ev1 (aD E ?_))
 cases h
 exact JS.ret aA () V E E [] E

def nL (a:List Int×Int):Option Bool:= some (bif decide ((a.1.length:Int)=0) then (decide (a.2=0)) else false)

theorem aBe (a:List Int×Int) (b:Option Addr) (c:Nat) (r:Bool) (h:nL a=some r):
 FC Tryz.prog 133 [.agg #[sL b a.1 c,I a.2]] [fI b c a.1] (fun _:Unit=>True) (fun _=>.bool r) (fun _=>[]):= by
 refine FC.of (T:=TTx) Tryz.call133 Tryz.func133 E E fun d=>?_
 unfold nL at h
 refine aM aA 2 [] [2] [(1,.bp 2 0)] (.new 2 38 [sL b a.1 c,I a.2] .nil) ⟨ev2,(Bs E E)⟩ E E (aC aA 10 [(2,.v (.bool (bif (decide ((a.1.length:Int)=0)) then (decide (a.2=0)) else false)))] ev1 E E ?_)
 cases h
 exact JS.ret aA () V E E [] E

def jE (b:List Int) (c:Int) (d:Unit→Option Bool) (e:Int→Option Bool):Int→Option Bool:=fun a=>(bif decide (a<(b.length:Int)) then (aP (0≤a∧a<(b.length:Int)) <|(bif decide ((at' b a)=c) then some true else e (W (a+1)))) else d ())

def sD (a:List Int) (b:Int):Option Bool:= (aS (fun (_:Unit)=> some false) fun c=>(aW (jE a b c) bG 0))

theorem aF5 (a:List Int) (e:Int) (c:Option Addr) (d:Nat) (r:Bool) (h:sD a e=some r):
 FC Tryz.prog 284 [sL c a d,I e] [fI c d a] (fun _:Unit=>True) (fun _=>.bool r) (fun _=>[]):= by
 refine FC.of (T:=TTx) Tryz.call284 Tryz.func284 E E fun l=>?_
 unfold sD at h
 refine aC aA 1 [] ev5 E E (JS.seq (aC aA 3 [(7,.v (sL c a d)),(8,.v (I (a.length:Int))),(9,.v (I 0))] ⟨(Es E),E⟩ E E ?_))
 obtain ⟨f,j,h⟩:=aN h
 refine aX (ι:=Unit) ⟨fun _=>f ()=some r,fun _=>[],fun _=>.nil,fun _=>[],fun _=>[],fun _=>0⟩ ?_ ?_
 ·
  refine JS.loop (ι:=Nat×Int) ⟨fun z=>aW (jE a e f) z.1 z.2=some r,fun z=>[(1,.v (I e)),(7,.v (sL c a d)),(8,.v (I (a.length:Int))),(9,.v (I z.2))],fun z=>.nil,fun z=>[fI c d a],fun z=>[],fun z=>z.1⟩ (bG,0) h (Es E) V [0] E [] E ?_
  rintro ⟨g,b⟩ h
  obtain ⟨g,rfl,h⟩:=bC h
  rw [jE] at h
  refine aC aA 1 [(10,.v (.bool (decide (b<(a.length:Int)))))] ev1 E E (JS.seq ?_)
  refine aH E h (fun h=>?_) (fun h=>?_)
  ·
   refine JS.skip (JS.seq (JS.block (JS.seq (JS.region (bJ 0 E fun k=>?_)))))
   obtain ⟨i,h⟩:=aK h
   refine aB aA 1 [] [] [(11,.ep ⟨c,a.length,d⟩ (Int.toNat b*1))] _ E ⟨k.ix i,ev2,E⟩ (JO.load aA E E E E E E E 0 E E (Int.toNat b) 0 (at' a b) ⟨bD i,E⟩ E E (aB aA 1 [] [] [(6,.v (I (at' a b)))] _ E ev1 (aD E (aC aA 3 [(15,.v (.bool (decide ((at' a b)=e))))] ev1 E E ?_))))
   refine aH E h (fun h=>?_) (fun h=>?_)
   ·
    refine aC aA 1 [(4,.v (.bool true))] ev1 E E ?_
    cases h
    exact JS.ret aA () V E E [] E
   refine JS.skip (aV (bY aA 2 [(W (b+1))] [] [(9,.v (I (W (b+1))))] _ ev3 E E (bR (g,(W (b+1))) h (Nat.lt_succ_self _) (Es E) V [0] E [] E)))
  refine JS.exit E (aQ () h V V [] E [] E)
 rintro _ h
 subst j
 refine aC aA 1 [(4,.v (.bool false))] ev1 E E ?_
 cases h
 exact JS.ret aA () V E E [] E

def nM (a:Int) (b:List Int):Option Bool:= (aF (sD b a) fun c=> some c)

theorem aBf (b:Int) (a:List Int) (c:Option Addr) (d:Nat) (r:Bool) (h:nM b a=some r):
 FC Tryz.prog 228 [I b,sL c a d] [fI c d a] (fun _:Unit=>True) (fun _=>.bool r) (fun _=>[]):= by
 refine FC.of (T:=TTx) Tryz.call228 Tryz.func228 E E fun g=>?_
 unfold nM at h
 refine aC aA 1 [] ev5 E E (JS.seq (JS.region (aB aA 2 [] [] [(5,.v (sL c a d)),(6,.v (I b))] _ E ⟨(Es E),E⟩ ?_)))
 refine bnw h fun e f h=>JO.call E E E E (aF5 a b c d _ f) E [0] E E fun _ _=>aB aA 1 [] [] [(4,.v (.bool e))] _ E ev1 (aD E ?_)
 cases h
 exact JS.ret aA () V E E [] E

def sT (a:EdQ):Option Bool:= (bif (bif (bif (bif (bif decide (a.2.1=0) then a.1 else false) then true else (bif (bif decide (a.2.1=1) then true else (decide (a.2.1=2))) then (!a.1) else false)) then true else (decide (a.2.1<0))) then true else (decide (3<a.2.1))) then some false else (bif (bif (bif decide (a.2.1=2) then (decide (0<(a.2.2.1.1.length:Int))) else false) then (decide (a.2.2.1.2=(a.2.2.1.1.length:Int))) else false) then some false else (bif (bif (!(decide (a.2.1=2))) then (bif (bif (!(decide (a.2.2.2.2.1=0))) then true else (!(decide (a.2.2.2.2.2.1=0)))) then true else (!(decide (a.2.2.2.2.2.2.1=0)))) else false) then some false else (bW ((bif decide (0<(a.2.2.2.2.2.2.2.2.2.2.2.2.2.2.1.length:Int)) then true else (!(decide (a.2.2.2.2.2.2.2.2.2.2.2.2.2.2.2.1=0))))=false∧(!(decide (a.2.1=3)))=true) (nL a.2.2.2.2.2.2.2.2.2.2.2.2.2.2.2.2) false fun c=>(bif (bif (!(decide (a.2.1=3))) then (bif (bif decide (0<(a.2.2.2.2.2.2.2.2.2.2.2.2.2.2.1.length:Int)) then true else (!(decide (a.2.2.2.2.2.2.2.2.2.2.2.2.2.2.2.1=0)))) then true else (!c)) else false) then some false else (aF (nM a.2.2.2.2.1 ([0,100,99,121]:List Int)) fun b=>(bW (b=true) (nM a.2.2.2.2.2.2.1 (gl b ([0,102,70,116,84,114]:List Int))) false fun d=> some (bif (bif b then d else false) then (bif (!(decide (a.2.2.2.2.1=0))) then true else (decide (a.2.2.2.2.2.1=0))) else false))))))))

theorem aJ1 (a:EdQ) (b:P6) (r:Bool) (h:sT a=some r):
 FC Tryz.prog 129 [.agg (cD a b).toArray] (bP a b []) (fun _:Unit=>True) (fun _=>.bool r) (fun _=>[]):= by
 refine FC.of (T:=TTx) Tryz.call129 Tryz.func129 E E fun o=>?_
 unfold sT at h
 refine aM aA 2 [] [7] [(1,.bp 7 0)] (.new 7 46 (aG a b) .nil) ⟨ev2,(Bs E E)⟩ E E (JS.seq (aC aA 32 [(34,.v (.bool (bif (bif (bif (bif (decide (a.2.1=0)) then a.1 else false) then true else (bif (bif (decide (a.2.1=1)) then true else (decide (a.2.1=2))) then (!a.1) else false)) then true else (decide (a.2.1<0))) then true else (decide (3<a.2.1)))))] ev1 E E ?_))
 refine aH E h (fun h=>?_) (fun h=>?_)
 ·
  refine aC aA 1 [(2,.v (.bool false))] ev1 E E ?_
  cases h
  exact JS.ret aA () V E E [] E
 refine JS.skip (JS.seq (aC aA 20 [(54,.v (.bool (bif (bif (decide (a.2.1=2)) then (decide (0<(a.2.2.1.1.length:Int))) else false) then (decide (a.2.2.1.2=(a.2.2.1.1.length:Int))) else false)))] ev1 E E ?_))
 refine aH E h (fun h=>?_) (fun h=>?_)
 ·
  refine aC aA 1 [(2,.v (.bool false))] ev1 E E ?_
  cases h
  exact JS.ret aA () V E E [] E
 refine JS.skip (JS.seq (aC aA 18 [(72,.v (.bool (bif (!(decide (a.2.1=2))) then (bif (bif (!(decide ((Q4 a).1=0))) then true else (!(decide ((Q4 a).2.1=0)))) then true else (!(decide ((Q4 a).2.2.1=0)))) else false)))] ev1 E E ?_))
 refine aH E h (fun h=>?_) (fun h=>?_)
 ·
  refine aC aA 1 [(2,.v (.bool false))] ev1 E E ?_
  cases h
  exact JS.ret aA () V E E [] E
 refine JS.skip (JS.seq (JS.seq (JS.region (aB aA 16 [] [] [(76,.v (.bool (!(decide (a.2.1=3))))),(86,.cd [(76,true)] (.v (.bool (bif (decide (0<((Q12 a).2.2.1.length:Int))) then true else (!(decide ((Q12 a).2.2.2.1=0))))))),(88,.cd [(86,false),(76,true)] (.v (.agg #[sL (Q8 b).2.2.1 (Q16 a).1 (Q8 b).2.2.2,I (Q16 a).2])))] _ E ⟨(Es E),E⟩ ?_))))
 obtain ⟨d,e,-,h⟩:=aY h
 refine bL E E E E (fun f g=>aBe (Q16 a) (Q8 b).2.2.1 (Q8 b).2.2.2 _ (e ⟨f,g⟩)) E [5] E E (aB aA 3 [] [] [(92,.v (.bool (bif (!(decide (a.2.1=3))) then (bif (bif (decide (0<((Q12 a).2.2.1.length:Int))) then true else (!(decide ((Q12 a).2.2.2.1=0)))) then true else (!d)) else false)))] _ E ev1 (aD E ?_))
 refine aH E h (fun h=>?_) (fun h=>?_)
 ·
  refine aC aA 1 [(2,.v (.bool false))] ev1 E E ?_
  cases h
  exact JS.ret aA () V E E [] E
 refine JS.skip (JS.seq (JS.region (aB aA 2 [] [] [(94,.v (I (Q4 a).1))] _ E ev1 ?_)))
 refine iY E (JK.buildSlice aA E E E E E E E E E E E [] E iT [0,100,99,121] ev9 E E fun i=>iX ?_)
 refine bnw h fun c j h=>JO.call E E E E (aBf (Q4 a).1 ([0,100,99,121]:List Int) i (([0,100,99,121]:List Int).length) _ j) E [6] E E fun _ _=>aB aA 3 [] [] [(97,.v (.bool c)),(99,.cd [(97,true)] (.v (I (Q4 a).2.2.1)))] _ E ⟨(Es E),E⟩ (aHg aA E E E E E E E E E E E E iT [0,102,70,116,84,114] ev9 E c aUt E fun k=>?_)
 obtain ⟨l,m,-,h⟩:=aY h
 refine bL E E E E (fun n=>aBf (Q4 a).2.2.1 (gl c ([0,102,70,116,84,114]:List Int)) k ((gl c ([0,102,70,116,84,114]:List Int)).length) _ (m n)) E [6] E E (aB aA 12 [] [] [(2,.v (.bool (bif (bif c then l else false) then (bif (!(decide ((Q4 a).1=0))) then true else (decide ((Q4 a).2.1=0))) else false)))] _ E ev1 (aD E ?_))
 cases h
 exact JS.ret aA () V E E [] E

def iB (a:List Int):Option Bool:= (bW ((decide ((a.length:Int)≤400))=true) (gX a) false fun b=> some (bif decide ((a.length:Int)≤400) then b else false))

theorem aBg (a:List Int) (b:Option Addr) (c:Nat) (r:Bool) (h:iB a=some r):
 FC Tryz.prog 229 [sL b a c] [fI b c a] (fun _:Unit=>True) (fun _=>.bool r) (fun _=>[]):= by
 refine FC.of (T:=TTx) Tryz.call229 Tryz.func229 E E fun g=>?_
 unfold iB at h
 refine aC aA 1 [] ev5 E E (JS.seq (JS.region (aB aA 5 [] [] [(6,.v (.bool (decide ((a.length:Int)≤400)))),(7,.cd [(6,true)] (.v (sL b a c)))] _ E ⟨(Es E),E⟩ ?_)))
 obtain ⟨d,e,-,h⟩:=aY h
 refine bL E E E E (fun f=>wW a b c _ (e f)) E [0] E E (aB aA 2 [] [] [(2,.v (.bool (bif (decide ((a.length:Int)≤400)) then d else false)))] _ E ev1 (aD E ?_))
 cases h
 exact JS.ret aA () V E E [] E

def oC (b:List (List Int)) (c:Unit→Option Bool) (d:Int→Option Bool):Int→Option Bool:=fun a=>(bif decide (a<(b.length:Int)) then (aP (0≤a∧a<(b.length:Int)) <|(bW ((decide (((at' b a).length:Int)=0))=false) (iB (at' b a)) false fun e=>(bif (bif decide (((at' b a).length:Int)=0) then true else (!e)) then some false else d (W (a+1))))) else c ())

def pH (a:List (List Int)):Option Bool:= (aS (fun (_:Unit)=> some (decide ((a.length:Int)≤6))) fun b=>(aW (oC a b) bG 0))

theorem zT (a:List (List Int)) (c:Option Addr) (d:Nat) (r:Bool) (h:pH a=some r):
 FC Tryz.prog 130 [.agg #[sL c a d]] [⟨(.sl iT),⟨c,a.length,d⟩,a⟩] (fun _:Unit=>True) (fun _=>.bool r) (fun _=>[]):= by
 refine FC.of (T:=TTx) Tryz.call130 Tryz.func130 E E fun q=>?_
 unfold pH at h
 refine aM aA 2 [] [2] [(1,.bp 2 0)] (.new 2 41 [sL c a d] .nil) ⟨ev2,(Bs E E)⟩ E E (JS.seq (aC aA 4 [(6,.v (sL c a d)),(7,.v (I (a.length:Int))),(8,.v (I 0))] ⟨(Es E),E⟩ E E ?_))
 obtain ⟨g,k,h⟩:=aN h
 refine aX (ι:=Unit) ⟨fun _=>g ()=some r,fun _=>[(1,.bp 2 0)],fun _=>(.new 2 41 [sL c a d] .nil),fun _=>[⟨(.sl iT),⟨c,a.length,d⟩,a⟩],fun _=>[],fun _=>0⟩ ?_ ?_
 ·
  refine JS.loop (ι:=Nat×Int) ⟨fun z=>aW (oC a g) z.1 z.2=some r,fun z=>[(1,.bp 2 0),(6,.v (sL c a d)),(7,.v (I (a.length:Int))),(8,.v (I z.2))],fun z=>(.new 2 41 [sL c a d] .nil),fun z=>[⟨(.sl iT),⟨c,a.length,d⟩,a⟩],fun z=>[],fun z=>z.1⟩ (bG,0) h (Es E) (Bs E E) [0] E [] E ?_
  rintro ⟨i,b⟩ h
  obtain ⟨i,rfl,h⟩:=bC h
  rw [oC] at h
  refine aC aA 1 [(9,.v (.bool (decide (b<(a.length:Int)))))] ev1 E E (JS.seq ?_)
  refine aH E h (fun h=>?_) (fun h=>?_)
  ·
   refine JS.skip (JS.seq (JS.block (JS.seq (JS.region (bJ 0 E fun l=>?_)))))
   obtain ⟨j,h⟩:=aK h
   refine aB aA 1 [] [] [(10,.ep ⟨c,a.length,d⟩ (Int.toNat b*1))] _ E ⟨l.ix j,ev2,E⟩ (fS 0 E (Int.toNat b) (at' a b) E fun e f s t m=>cN aA E E E E E E 0 E E (Int.toNat b) 0 (Sl.v ⟨e,(at' a b).length,f⟩) ⟨m (lR j),E⟩ E E E (aL aA 2 [] [16] [(4,.bp 16 0)] (.new 2 41 [sL c a d] (.new 16 174 [sL e (at' a b) f] .nil)) E ⟨ev2,(Bs E E)⟩ (aD E (JS.seq (JS.region (aB aA 7 [] [] [(16,.v (.bool (decide (((at' a b).length:Int)=0)))),(18,.cd [(16,false)] (.v (sL e (at' a b) f)))] _ E ⟨(Es E),E⟩ ?_))))))
   obtain ⟨n,o,-,h⟩:=aY h
   refine bL E E E E (fun p=>aBg (at' a b) e f _ (o p)) E [1] E E (aB aA 2 [] [] [(21,.v (.bool (bif (decide (((at' a b).length:Int)=0)) then true else (!n))))] _ E ev1 (aD E ?_))
   refine aH E h (fun h=>?_) (fun h=>?_)
   ·
    refine aC aA 1 [(2,.v (.bool false))] ev1 E E ?_
    cases h
    exact JS.ret aA () V E E [] E
   refine JS.skip (aV (bY aA 2 [(W (b+1))] [] [(8,.v (I (W (b+1))))] _ ev3 E E (bR (i,(W (b+1))) h (Nat.lt_succ_self _) (Es E) (Bs E E) [2] E [] E)))
  refine JS.exit E (aQ () h ev2 (Bs E E) [0] E [] E)
 rintro _ h
 subst k
 refine aC aA 5 [(2,.v (.bool (decide ((a.length:Int)≤6))))] ev1 E E ?_
 cases h
 exact JS.ret aA () V E E [] E

def oA (b:List (List Int×Int)) (c:Unit→Option Bool) (d:Int→Option Bool):Int→Option Bool:=fun a=>(bif decide (a<(b.length:Int)) then (aP (0≤a∧a<(b.length:Int)) <|(aF (dX ((at' b a).1,(at' b a).2)) fun e=>(bif (!e) then some false else d (W (a+1))))) else c ())

def pG (a:List (List Int×Int)):Option Bool:= (aS (fun (_:Unit)=> some (decide ((a.length:Int)≤20))) fun b=>(aW (oA a b) bG 0))

theorem zS (a:List (List Int×Int)) (c:Option Addr) (d:Nat) (r:Bool) (h:pG a=some r):
 FC Tryz.prog 131 [.agg #[sL c a d]] [⟨(.pair (.sl iT) iT),⟨c,a.length,d⟩,a⟩] (fun _:Unit=>True) (fun _=>.bool r) (fun _=>[]):= by
 refine FC.of (T:=TTx) Tryz.call131 Tryz.func131 E E fun p=>?_
 unfold pG at h
 refine aM aA 2 [] [2] [(1,.bp 2 0)] (.new 2 44 [sL c a d] .nil) ⟨ev2,(Bs E E)⟩ E E (JS.seq (aC aA 4 [(6,.v (sL c a d)),(7,.v (I (a.length:Int))),(8,.v (I 0))] ⟨(Es E),E⟩ E E ?_))
 obtain ⟨g,k,h⟩:=aN h
 refine aX (ι:=Unit) ⟨fun _=>g ()=some r,fun _=>[(1,.bp 2 0)],fun _=>(.new 2 44 [sL c a d] .nil),fun _=>[⟨(.pair (.sl iT) iT),⟨c,a.length,d⟩,a⟩],fun _=>[],fun _=>0⟩ ?_ ?_
 ·
  refine JS.loop (ι:=Nat×Int) ⟨fun z=>aW (oA a g) z.1 z.2=some r,fun z=>[(1,.bp 2 0),(6,.v (sL c a d)),(7,.v (I (a.length:Int))),(8,.v (I z.2))],fun z=>(.new 2 44 [sL c a d] .nil),fun z=>[⟨(.pair (.sl iT) iT),⟨c,a.length,d⟩,a⟩],fun z=>[],fun z=>z.1⟩ (bG,0) h (Es E) (Bs E E) [0] E [] E ?_
  rintro ⟨i,b⟩ h
  obtain ⟨i,rfl,h⟩:=bC h
  rw [oA] at h
  refine aC aA 1 [(9,.v (.bool (decide (b<(a.length:Int)))))] ev1 E E (JS.seq ?_)
  refine aH E h (fun h=>?_) (fun h=>?_)
  ·
   refine JS.skip (JS.seq (JS.block (JS.seq (JS.region (bJ 0 E fun l=>?_)))))
   obtain ⟨j,h⟩:=aK h
   refine aB aA 1 [] [] [(10,.ep ⟨c,a.length,d⟩ (Int.toNat b*2))] _ E ⟨l.ix j,ev2,E⟩ (fS 0 E (Int.toNat b) (at' a b) E fun e f q s m=>cN aA E E E E E E 0 E E (Int.toNat b) 0 ((Sl.v ⟨e,((at' a b).1).length,f⟩),(at' a b).2) ⟨m (lR j),E⟩ E E E (aL aA 2 [] [16] [(4,.bp 16 0)] (.new 2 44 [sL c a d] (.new 16 38 [sL e ((at' a b).1) f,I (at' a b).2] .nil)) E ⟨ev2,(Bs E E)⟩ (aD E (JS.seq (JS.region (aB aA 1 [] [] [(12,.v (.agg #[sL e ((at' a b).1) f,I (at' a b).2]))] _ E ev1 ?_))))))
   refine bnw h fun n o h=>JO.call E E E E (gD ((at' a b).1,(at' a b).2) e f _ o) E [1] E E fun _ _=>aB aA 1 [] [] [(14,.v (.bool (!n)))] _ E ev1 (aD E ?_)
   refine aH E h (fun h=>?_) (fun h=>?_)
   ·
    refine aC aA 1 [(2,.v (.bool false))] ev1 E E ?_
    cases h
    exact JS.ret aA () V E E [] E
   refine JS.skip (aV (bY aA 2 [(W (b+1))] [] [(8,.v (I (W (b+1))))] _ ev3 E E (bR (i,(W (b+1))) h (Nat.lt_succ_self _) (Es E) (Bs E E) [2] E [] E)))
  refine JS.exit E (aQ () h ev2 (Bs E E) [0] E [] E)
 rintro _ h
 subst k
 refine aC aA 5 [(2,.v (.bool (decide ((a.length:Int)≤20))))] ev1 E E ?_
 cases h
 exact JS.ret aA () V E E [] E

def sY (b:EdQ) (c:Unit→Option Bool) (d:Int→Option Bool):Int→Option Bool:=fun a=>(bif decide (a<(b.2.2.2.2.2.2.2.2.2.2.2.2.2.2.1.length:Int)) then (aP (0≤a∧a<(b.2.2.2.2.2.2.2.2.2.2.2.2.2.2.1.length:Int)) <|(aF (eH (at' b.2.2.2.2.2.2.2.2.2.2.2.2.2.2.1 a)) fun e=>(bif (!e) then some false else d (W (a+1))))) else c ())

def oF (a:EdQ):Option Bool:= (aF (dX a.2.2.1) fun b=>(bW ((!b)=false) (dX a.2.2.2.2.2.2.2.2.2.2.2.2.2.1) false fun c=>(bW ((bif (!b) then true else (!c))=false) (dX a.2.2.2.2.2.2.2.2.2.2.2.2.2.2.2.2) false fun d=>(bW ((bif (bif (!b) then true else (!c)) then true else (!d))=false) (sT a) false fun e=>(bW ((bif (bif (bif (bif (bif (bif (bif (bif (bif (!b) then true else (!c)) then true else (!d)) then true else (!e)) then true else (decide (a.2.2.2.1<0))) then true else (decide (999<a.2.2.2.1))) then true else (decide (a.2.2.2.2.2.1<0))) then true else (decide (999<a.2.2.2.2.2.1))) then true else (decide (a.2.2.2.2.2.2.2.2.2.1<0))) then true else (decide (3<a.2.2.2.2.2.2.2.2.2.1)))=false) (pH a.2.2.2.2.2.2.2.2.2.2.1) false fun f=>(bW ((bif (bif (bif (bif (bif (bif (bif (bif (bif (bif (!b) then true else (!c)) then true else (!d)) then true else (!e)) then true else (decide (a.2.2.2.1<0))) then true else (decide (999<a.2.2.2.1))) then true else (decide (a.2.2.2.2.2.1<0))) then true else (decide (999<a.2.2.2.2.2.1))) then true else (decide (a.2.2.2.2.2.2.2.2.2.1<0))) then true else (decide (3<a.2.2.2.2.2.2.2.2.2.1))) then true else (!f))=false) (pG a.2.2.2.2.2.2.2.2.2.2.2.1) false fun g=>(bif (bif (bif (bif (bif (bif (bif (bif (bif (bif (bif (bif (!b) then true else (!c)) then true else (!d)) then true else (!e)) then true else (decide (a.2.2.2.1<0))) then true else (decide (999<a.2.2.2.1))) then true else (decide (a.2.2.2.2.2.1<0))) then true else (decide (999<a.2.2.2.2.2.1))) then true else (decide (a.2.2.2.2.2.2.2.2.2.1<0))) then true else (decide (3<a.2.2.2.2.2.2.2.2.2.1))) then true else (!f)) then true else (!g)) then some false else (bW ((!(decide (a.2.2.2.2.2.2.2.1=0)))=true∧(bif decide (a.2.2.2.2.2.2.2.1=0) then (!(decide (a.2.2.2.2.2.2.2.2.1=0))) else false)=false) (eH a.2.2.2.2.2.2.2.1) false fun h=>(bif (bif (bif decide (a.2.2.2.2.2.2.2.1=0) then (!(decide (a.2.2.2.2.2.2.2.2.1=0))) else false) then true else (bif (!(decide (a.2.2.2.2.2.2.2.1=0))) then (bif (bif (!h) then true else (decide (a.2.2.2.2.2.2.2.2.1<0))) then true else (decide (3<a.2.2.2.2.2.2.2.2.1))) else false)) then some false else (bW ((decide (a.2.2.2.2.2.2.2.2.2.2.2.2.1=0))=true∧(bif (bif (bif decide (a.2.2.2.2.2.2.2.2.2.2.2.2.1<0) then true else (decide (1000000060<a.2.2.2.2.2.2.2.2.2.2.2.2.1))) then true else (decide (a.2.2.2.2.2.2.2.2.2.2.2.2.2.2.2.1<0))) then true else (decide (1000000060<a.2.2.2.2.2.2.2.2.2.2.2.2.2.2.2.1)))=false) (nL a.2.2.2.2.2.2.2.2.2.2.2.2.2.1) false fun i=>(bif (bif (bif (bif (bif (bif decide (a.2.2.2.2.2.2.2.2.2.2.2.2.1<0) then true else (decide (1000000060<a.2.2.2.2.2.2.2.2.2.2.2.2.1))) then true else (decide (a.2.2.2.2.2.2.2.2.2.2.2.2.2.2.2.1<0))) then true else (decide (1000000060<a.2.2.2.2.2.2.2.2.2.2.2.2.2.2.2.1))) then true else (bif decide (a.2.2.2.2.2.2.2.2.2.2.2.2.1=0) then (!i) else false)) then true else (decide (40<(a.2.2.2.2.2.2.2.2.2.2.2.2.2.2.1.length:Int)))) then some false else (aS (fun (_:Unit)=> some true) fun j=>(aW (sY a j) bG 0)))))))))))))

theorem wX (a:EdQ) (b:P6) (r:Bool) (h:oF a=some r):
 FC Tryz.prog 46 [.agg (cD a b).toArray] (bP a b []) (fun _:Unit=>True) (fun _=>.bool r) (fun _=>[]):= by
 refine FC.of (T:=TTx) Tryz.call46 Tryz.func46 E E fun P=>?_
 unfold oF at h
 refine aM aA 2 [] [7] [(1,.bp 7 0)] (.new 7 46 (aG a b) .nil) ⟨ev2,(Bs E E)⟩ E E (JS.seq (JS.seq (JS.region (aB aA 2 [] [] [(7,.v (.agg #[sL b.1 a.2.2.1.1 b.2.1,I a.2.2.1.2]))] _ E ev1 ?_))))
 refine bnw h fun d m h=>JO.call E E E E (gD a.2.2.1 b.1 b.2.1 _ m) E [0] E E fun _ _=>aB aA 4 [] [] [(10,.v (.bool (!d))),(12,.cd [(10,false)] (.v (.agg #[sL (Q4 b).2.2.1 (Q12 a).2.1.1 (Q4 b).2.2.2.1,I (Q12 a).2.1.2])))] _ E ⟨(Es E),E⟩ ?_
 obtain ⟨e,n,-,h⟩:=aY h
 refine bL E E E E (fun o=>gD (Q12 a).2.1 (Q4 b).2.2.1 (Q4 b).2.2.2.1 _ (n o)) E [3] E E (aB aA 5 [] [] [(16,.v (.bool (bif (!d) then true else (!e)))),(18,.cd [(16,false)] (.v (.agg #[sL (Q8 b).2.2.1 (Q16 a).1 (Q8 b).2.2.2,I (Q16 a).2])))] _ E ⟨(Es E),E⟩ ?_)
 obtain ⟨f,p,-,h⟩:=aY h
 refine bL E E E E (fun q=>gD (Q16 a) (Q8 b).2.2.1 (Q8 b).2.2.2 _ (p q)) E [5] E E (aB aA 4 [] [] [(22,.v (.bool (bif (bif (!d) then true else (!e)) then true else (!f)))),(23,.cd [(22,false)] (.v (.agg (aG a b).toArray)))] _ E ⟨(Es E),E⟩ ?_)
 obtain ⟨g,s,-,h⟩:=aY h
 refine bL E E E E (fun t=>aJ1 a b _ (s t)) E [0,1,2,3,4,5] E E (aB aA 35 [] [] [(57,.v (.bool (bif (bif (bif (bif (bif (bif (bif (bif (bif (!d) then true else (!e)) then true else (!f)) then true else (!g)) then true else (decide (a.2.2.2.1<0))) then true else (decide (999<a.2.2.2.1))) then true else (decide ((Q4 a).2.1<0))) then true else (decide (999<(Q4 a).2.1))) then true else (decide ((Q8 a).2.1<0))) then true else (decide (3<(Q8 a).2.1))))),(59,.cd [(57,false)] (.v (.agg #[sL b.2.2.1 (Q8 a).2.2.1 b.2.2.2.1])))] _ E ⟨(Es E),E⟩ ?_)
 obtain ⟨i,u,-,h⟩:=aY h
 refine bL E E E E (fun w=>zT (Q8 a).2.2.1 b.2.2.1 b.2.2.2.1 _ (u w)) E [1] E E (aB aA 5 [] [] [(63,.v (.bool (bif (bif (bif (bif (bif (bif (bif (bif (bif (bif (!d) then true else (!e)) then true else (!f)) then true else (!g)) then true else (decide (a.2.2.2.1<0))) then true else (decide (999<a.2.2.2.1))) then true else (decide ((Q4 a).2.1<0))) then true else (decide (999<(Q4 a).2.1))) then true else (decide ((Q8 a).2.1<0))) then true else (decide (3<(Q8 a).2.1))) then true else (!i)))),(65,.cd [(63,false)] (.v (.agg #[sL (Q4 b).1 (Q8 a).2.2.2.1 (Q4 b).2.1])))] _ E ⟨(Es E),E⟩ ?_)
 obtain ⟨x,y,-,h⟩:=aY h
 refine bL E E E E (fun A=>zS (Q8 a).2.2.2.1 (Q4 b).1 (Q4 b).2.1 _ (y A)) E [2] E E (aB aA 2 [] [] [(68,.v (.bool (bif (bif (bif (bif (bif (bif (bif (bif (bif (bif (bif (!d) then true else (!e)) then true else (!f)) then true else (!g)) then true else (decide (a.2.2.2.1<0))) then true else (decide (999<a.2.2.2.1))) then true else (decide ((Q4 a).2.1<0))) then true else (decide (999<(Q4 a).2.1))) then true else (decide ((Q8 a).2.1<0))) then true else (decide (3<(Q8 a).2.1))) then true else (!i)) then true else (!x))))] _ E ev1 (aD E ?_))
 refine aH E h (fun h=>?_) (fun h=>?_)
 ·
  refine aC aA 1 [(2,.v (.bool false))] ev1 E E ?_
  cases h
  exact JS.ret aA () V E E [] E
 refine JS.skip (JS.seq (JS.seq (JS.region (aB aA 15 [] [] [(77,.v (.bool (bif (decide ((Q4 a).2.2.2.1=0)) then (!(decide ((Q8 a).1=0))) else false))),(81,.cd [(77,false)] (.v (.bool (!(decide ((Q4 a).2.2.2.1=0)))))),(83,.cd [(81,true),(77,false)] (.v (I (Q4 a).2.2.2.1)))] _ E ⟨(Es E),E⟩ ?_))))
 obtain ⟨B,C,-,h⟩:=aY h
 refine bL E E E E (fun D F=>lZ (Q4 a).2.2.2.1 _ (C ⟨D,F⟩)) E [] E E (aB aA 13 [] [] [(97,.v (.bool (bif (bif (decide ((Q4 a).2.2.2.1=0)) then (!(decide ((Q8 a).1=0))) else false) then true else (bif (!(decide ((Q4 a).2.2.2.1=0))) then (bif (bif (!B) then true else (decide ((Q8 a).1<0))) then true else (decide (3<(Q8 a).1))) else false))))] _ E ev1 (aD E ?_))
 refine aH E h (fun h=>?_) (fun h=>?_)
 ·
  refine aC aA 1 [(2,.v (.bool false))] ev1 E E ?_
  cases h
  exact JS.ret aA () V E E [] E
 refine JS.skip (aC aA 1 [(3,.v (I 1000000060))] ev1 E E (JS.seq (JS.seq (JS.region (aB aA 27 [] [] [(118,.v (.bool (bif (bif (bif (decide ((Q12 a).1<0)) then true else (decide (1000000060<(Q12 a).1))) then true else (decide ((Q12 a).2.2.2.1<0))) then true else (decide (1000000060<(Q12 a).2.2.2.1))))),(122,.cd [(118,false)] (.v (.bool (decide ((Q12 a).1=0))))),(124,.cd [(122,true),(118,false)] (.v (.agg #[sL (Q4 b).2.2.1 (Q12 a).2.1.1 (Q4 b).2.2.2.1,I (Q12 a).2.1.2])))] _ E ⟨(Es E),E⟩ ?_)))))
 obtain ⟨G,H,-,h⟩:=aY h
 refine bL E E E E (fun J K=>aBe (Q12 a).2.1 (Q4 b).2.2.1 (Q4 b).2.2.2.1 _ (H ⟨J,K⟩)) E [3] E E (aB aA 9 [] [] [(134,.v (.bool (bif (bif (bif (bif (bif (decide ((Q12 a).1<0)) then true else (decide (1000000060<(Q12 a).1))) then true else (decide ((Q12 a).2.2.2.1<0))) then true else (decide (1000000060<(Q12 a).2.2.2.1))) then true else (bif (decide ((Q12 a).1=0)) then (!G) else false)) then true else (decide (40<((Q12 a).2.2.1.length:Int))))))] _ E ev1 (aD E ?_))
 refine aH E h (fun h=>?_) (fun h=>?_)
 ·
  refine aC aA 1 [(2,.v (.bool false))] ev1 E E ?_
  cases h
  exact JS.ret aA () V E E [] E
 refine JS.skip (JS.seq (aC aA 4 [(136,.v (sL (Q8 b).1 (Q12 a).2.2.1 (Q8 b).2.1)),(137,.v (I ((Q12 a).2.2.1.length:Int))),(138,.v (I 0))] ⟨(Es E),E⟩ E E ?_))
 obtain ⟨j,L,h⟩:=aN h
 refine aX (ι:=Unit) ⟨fun _=>j ()=some r,fun _=>[],fun _=>.nil,fun _=>[],fun _=>[],fun _=>0⟩ ?_ ?_
 ·
  refine JS.loop (ι:=Nat×Int) ⟨fun z=>aW (sY a j) z.1 z.2=some r,fun z=>[(136,.v (sL (Q8 b).1 (Q12 a).2.2.1 (Q8 b).2.1)),(137,.v (I ((Q12 a).2.2.1.length:Int))),(138,.v (I z.2))],fun z=>.nil,fun z=>[fI (Q8 b).1 (Q8 b).2.1 (Q12 a).2.2.1],fun z=>[],fun z=>z.1⟩ (bG,0) h (Es E) V [4] E [] E ?_
  rintro ⟨k,c⟩ h
  obtain ⟨k,rfl,h⟩:=bC h
  rw [sY] at h
  refine aC aA 1 [(139,.v (.bool (decide (c<((Q12 a).2.2.1.length:Int)))))] ev1 E E (JS.seq ?_)
  refine aH E h (fun h=>?_) (fun h=>?_)
  ·
   refine JS.skip (JS.seq (JS.block (JS.seq (JS.region (bJ 0 E fun M=>?_)))))
   obtain ⟨l,h⟩:=aK h
   refine aB aA 1 [] [] [(140,.ep ⟨(Q8 b).1,(Q12 a).2.2.1.length,(Q8 b).2.1⟩ (Int.toNat c*1))] _ E ⟨M.ix l,ev2,E⟩ (JO.load aA E E E E E E E 0 E E (Int.toNat c) 0 (at' (Q12 a).2.2.1 c) ⟨bD l,E⟩ E E (aB aA 1 [] [] [(5,.v (I (at' (Q12 a).2.2.1 c)))] _ E ev1 (aD E (JS.seq (JS.region (aB aA 1 [] [] [(142,.v (I (at' (Q12 a).2.2.1 c)))] _ E ev1 ?_))))))
   refine bnw h fun N O h=>JO.call E E E E (lZ (at' (Q12 a).2.2.1 c) _ O) E [] E E fun _ _=>aB aA 1 [] [] [(144,.v (.bool (!N)))] _ E ev1 (aD E ?_)
   refine aH E h (fun h=>?_) (fun h=>?_)
   ·
    refine aC aA 1 [(2,.v (.bool false))] ev1 E E ?_
    cases h
    exact JS.ret aA () V E E [] E
   refine JS.skip (aV (bY aA 2 [(W (c+1))] [] [(138,.v (I (W (c+1))))] _ ev3 E E (bR (k,(W (c+1))) h (Nat.lt_succ_self _) (Es E) V [0] E [] E)))
  refine JS.exit E (aQ () h V V [] E [] E)
 rintro _ h
 subst L
 refine aC aA 1 [(2,.v (.bool true))] ev1 E E ?_
 cases h
 exact JS.ret aA () V E E [] E

def oD (b:Int×List (List UInt8)) (c:Unit→Option Bool) (d:Int→Option Bool):Int→Option Bool:=fun a=>(bif decide (a<(b.2.length:Int)) then (aP (0≤a∧a<(b.2.length:Int)) <|(bif (bif decide (((at' b.2 a).length:Int)<1) then true else (decide (1000<((at' b.2 a).length:Int)))) then some false else d (W (a+1)))) else c ())

def mL (a:Int×List (List UInt8)):Option Bool:= (aS (fun (_:Unit)=> some (bif (bif decide (1≤a.1) then (decide (a.1≤1000000000)) else false) then (decide ((a.2.length:Int)≤60)) else false)) fun b=>(aW (oD a b) bG 0))

theorem vQ (a:Int×List (List UInt8)) (b:Option Addr) (c:Nat) (r:Bool) (h:mL a=some r):
 FC Tryz.prog 78 [.agg #[I a.1,sL b a.2 c]] [⟨.str,⟨b,a.2.length,c⟩,a.2⟩] (fun _:Unit=>True) (fun _=>.bool r) (fun _=>[]):= by
 refine FC.of (T:=TTx) Tryz.call78 Tryz.func78 E E fun k=>?_
 unfold mL at h
 refine aM aA 2 [] [2] [(1,.bp 2 0)] (.new 2 50 [I a.1,sL b a.2 c] .nil) ⟨ev2,(Bs E E)⟩ E E (JS.seq (aC aA 4 [(6,.v (sL b a.2 c)),(7,.v (I (a.2.length:Int))),(8,.v (I 0))] ⟨(Es E),E⟩ E E ?_))
 obtain ⟨e,i,h⟩:=aN h
 refine aX (ι:=Unit) ⟨fun _=>e ()=some r,fun _=>[(1,.bp 2 0)],fun _=>(.new 2 50 [I a.1,sL b a.2 c] .nil),fun _=>[⟨.str,⟨b,a.2.length,c⟩,a.2⟩],fun _=>[],fun _=>0⟩ ?_ ?_
 ·
  refine JS.loop (ι:=Nat×Int) ⟨fun z=>aW (oD a e) z.1 z.2=some r,fun z=>[(1,.bp 2 0),(6,.v (sL b a.2 c)),(7,.v (I (a.2.length:Int))),(8,.v (I z.2))],fun z=>(.new 2 50 [I a.1,sL b a.2 c] .nil),fun z=>[⟨.str,⟨b,a.2.length,c⟩,a.2⟩],fun z=>[],fun z=>z.1⟩ (bG,0) h (Es E) (Bs E E) [0] E [] E ?_
  rintro ⟨f,d⟩ h
  obtain ⟨f,rfl,h⟩:=bC h
  rw [oD] at h
  refine aC aA 1 [(9,.v (.bool (decide (d<(a.2.length:Int)))))] ev1 E E (JS.seq ?_)
  refine aH E h (fun h=>?_) (fun h=>?_)
  ·
   refine JS.skip (JS.seq (JS.block (JS.seq (JS.region (bJ 0 E fun j=>?_)))))
   obtain ⟨g,h⟩:=aK h
   refine aB aA 1 [] [] [(10,.ep ⟨b,a.2.length,c⟩ (Int.toNat d*1))] _ E ⟨j.ix g,ev2,E⟩ (JO.load aA E E E E E E E 0 E E (Int.toNat d) 0 (at' a.2 d) ⟨bD g,E⟩ E E (aB aA 1 [] [] [(4,.v (.string (bs (at' a.2 d))))] _ E ev1 (aD E (aC aA 8 [(19,.v (.bool (bif (decide (((at' a.2 d).length:Int)<1)) then true else (decide (1000<((at' a.2 d).length:Int))))))] ev1 E E ?_))))
   refine aH E h (fun h=>?_) (fun h=>?_)
   ·
    refine aC aA 1 [(2,.v (.bool false))] ev1 E E ?_
    cases h
    exact JS.ret aA () V E E [] E
   refine JS.skip (aV (bY aA 2 [(W (d+1))] [] [(8,.v (I (W (d+1))))] _ ev3 E E (bR (f,(W (d+1))) h (Nat.lt_succ_self _) (Es E) (Bs E E) [0] E [] E)))
  refine JS.exit E (aQ () h ev2 (Bs E E) [0] E [] E)
 rintro _ h
 subst i
 refine aC aA 15 [(2,.v (.bool (bif (bif (decide (1≤a.1)) then (decide (a.1≤1000000000)) else false) then (decide ((a.2.length:Int)≤60)) else false)))] ev1 E E ?_
 cases h
 exact JS.ret aA () V E E [] E

def uF (a:Int×Int):Option Bool:= (bif decide (a.1=1) then (aF (eH a.2) fun b=> some b) else (bif decide (a.1=2) then some (bif decide (a.2=95) then true else (bif (bif (bif (bif (bif decide (97≤a.2) then (decide (a.2≤122)) else false) then (!(decide (a.2=104))) else false) then (!(decide (a.2=105))) else false) then (!(decide (a.2=106))) else false) then (!(decide (a.2=109))) else false)) else (bif decide (a.1=3) then some (bif decide (33≤a.2) then (decide (a.2≤126)) else false) else some (bif (bif decide (4≤a.1) then (decide (a.1≤16)) else false) then (decide (a.2=0)) else false))))

theorem aF8 (a:Int×Int) (r:Bool) (h:uF a=some r) :
 FC Tryz.prog 79 [.agg #[I a.1,I a.2]] [] (fun _:Unit=>True) (fun _=>.bool r) (fun _=>[]):= by
 refine FC.of (T:=TTx) Tryz.call79 Tryz.func79 E E fun d=>?_
 unfold uF at h
 refine aM aA 2 [] [1] [(1,.bp 1 0)] (.new 1 64 [I a.1,I a.2] .nil) ⟨ev2,(Bs E E)⟩ E E (JS.seq (aC aA 2 [(4,.v (I a.1))] ev1 E E (JS.block (aC aA 2 [(5,.v (.bool (decide (a.1=1))))] ev1 E E ?_))))
 refine aH E h (fun h=>?_) (fun h=>?_)
 ·
  refine JS.seq (JS.region (aB aA 2 [] [] [(8,.v (I a.2))] _ E ev1 ?_))
  refine bnw h fun b c h=>JO.call E E E E (lZ a.2 _ c) E [] E E fun _ _=>aB aA 1 [] [] [(2,.v (.bool b))] _ E ev1 (aD E ?_)
  cases h
  exact JS.ret aA () V E E [] E
 refine aC aA 2 [(10,.v (.bool (decide (a.1=2))))] ev1 E E ?_
 refine aH E h (fun h=>?_) (fun h=>?_)
 ·
  refine aC aA 34 [(2,.v (.bool (bif (decide (a.2=95)) then true else (bif (bif (bif (bif (bif (decide (97≤a.2)) then (decide (a.2≤122)) else false) then (!(decide (a.2=104))) else false) then (!(decide (a.2=105))) else false) then (!(decide (a.2=106))) else false) then (!(decide (a.2=109))) else false))))] ev1 E E ?_
  cases h
  exact JS.ret aA () V E E [] E
 refine aC aA 2 [(45,.v (.bool (decide (a.1=3))))] ev1 E E ?_
 refine aH E h (fun h=>?_) (fun h=>?_)
 ·
  refine aC aA 9 [(2,.v (.bool (bif (decide (33≤a.2)) then (decide (a.2≤126)) else false)))] ev1 E E ?_
  cases h
  exact JS.ret aA () V E E [] E
 refine JS.skip (aV (aC aA 14 [(2,.v (.bool (bif (bif (decide (4≤a.1)) then (decide (a.1≤16)) else false) then (decide (a.2=0)) else false)))] ev1 E E ?_))
 cases h
 exact JS.ret aA () V E E [] E

def dD (a:List Int×Int):Option (List Int×Int):= (aP (([]:List Int).length+a.1.length≤536870912) <|some ((([]:List Int) ++ a.1),a.2))

theorem eJ (a:List Int×Int) (b:Option Addr) (c:Nat) (r:List Int×Int) (h:dD a=some r):
 FC Tryz.prog 52 [.agg #[sL b a.1 c,I a.2]] [fI b c a.1] (fun _:Option Addr×Nat=>True) (fun q=>.agg #[sL q.1 r.1 q.2,I r.2]) (fun q=>[fI q.1 q.2 r.1]):= by
 refine FC.of (T:=TTx) Tryz.call52 Tryz.func52 E E fun g=>?_
 unfold dD at h
 refine aM aA 2 [] [2,3] [(1,.bp 2 0),(2,.bp 3 0)] (.new 2 38 [sL b a.1 c,I a.2] (.new 3 38 [.slice none 0 0,I 0] .nil)) ⟨(Es E),(Bs E E)⟩ E E (JS.seq ?_)
 obtain ⟨f,h⟩:=aK h
 refine bF E (.new 2 38 [sL b a.1 c,I a.2] .nil) [] [6,7] ev4 E (fun i=>?_)
 refine bX aA aJ true 4 [1,2,4,5] E (by kernel_rfl) [] [(5,.v (sL b a.1 c)),(8,.v (I a.2))] ev4 [] E E (Es E) (JA.one 0 (by kernel_rfl) (JK.buildSlice aA E E E E E E E E E E E [] E iT [] ev9 E E fun j=>aU ev4 [] E (JA.one 3 (by kernel_rfl) (dG aA E E E E ⟨E,E,E,E,V,E,E,E,E⟩ E E E [0] E 0 E f E fun d e=>aU ev4 [] E (aT aA aJ 1 [6] E (by kernel_rfl) [] [(9,.v (.agg #[sL d (([]:List Int) ++ a.1) e,I a.2]))] E ev2 (JA.one 7 (by kernel_rfl) (bH aA E E E E E E E E (aR E (bM (by kernel_rfl) (bE (B':=(.new 3 38 [sL d (([]:List Int) ++ a.1) e,I a.2] .nil)) (Bs E E) ?_))))))))))
 cases h
 exact JS.ret aA (d,e) V E E [0] E

def mJ (b:List (List Int)) (d:(List (List Int))→Option (List (List Int))) (e:(Int×List (List Int))→Option (List (List Int))):(Int×List (List Int))→Option (List (List Int)):=fun (a,c)=>(bif decide (a<(b.length:Int)) then (aP (0≤a∧a<(b.length:Int)) <|(aP (([]:List Int).length+(at' b a).length≤536870912) <|(aP (c.length+([(([]:List Int) ++ (at' b a))]:List (List Int)).length≤536870912) <|e ((W (a+1)),(c ++ ([(([]:List Int) ++ (at' b a))]:List (List Int))))))) else d c)

def qD (a:List (List Int)):Option (List (List Int)):= (aS (fun (b:List (List Int))=> some b) fun c=>(aW (mJ a c) bG (0,([]:List (List Int)))))

theorem aCl (a:List (List Int)) (c:Option Addr) (d:Nat) (r:List (List Int)) (h:qD a=some r):
 FC Tryz.prog 137 [.agg #[sL c a d]] [⟨(.sl iT),⟨c,a.length,d⟩,a⟩] (fun _:Option Addr×Nat=>True) (fun q=>.agg #[sL q.1 r q.2]) (fun q=>[⟨(.sl iT),⟨q.1,r.length,q.2⟩,r⟩]):= by
 refine FC.of (T:=TTx) Tryz.call137 Tryz.func137 E E fun D=>?_
 unfold qD at h
 refine aM aA 2 [] [2,3] [(1,.bp 2 0),(2,.bp 3 0)] (.new 2 41 [sL c a d] (.new 3 41 [.slice none 0 0] .nil)) ⟨(Es E),(Bs E E)⟩ E E (aM aA 3 [] [4] [(3,.bp 4 0)] (.new 2 41 [sL c a d] (.new 3 41 [.slice none 0 0] (.new 4 41 [.slice none 0 0] .nil))) ⟨ev2,(Bs E E)⟩ E E (JS.seq (aC aA 4 [(8,.v (sL c a d)),(9,.v (I (a.length:Int))),(10,.v (I 0))] ⟨(Es E),E⟩ E E ?_)))
 obtain ⟨k,t,h⟩:=aN h
 refine aX (ι:=List (List Int)×Option Addr×Nat) ⟨fun z=>k z.1=some r,fun z=>[(2,.bp 3 0),(3,.bp 4 0)],fun z=>(.new 3 41 [.slice none 0 0] (.new 4 41 [sL z.2.1 z.1 z.2.2] .nil)),fun z=>[],fun z=>[⟨(.sl iT),⟨z.2.1,z.1.length,z.2.2⟩,z.1⟩],fun z=>0⟩ ?_ ?_
 ·
  refine aZ (.sl iT) Sl.nil E E (JS.loop (ι:=Nat×Int×List (List Int)×Option Addr×Nat) ⟨fun z=>aW (mJ a k) z.1 (z.2.1,z.2.2.1)=some r,fun z=>[(2,.bp 3 0),(3,.bp 4 0),(8,.v (sL c a d)),(9,.v (I (a.length:Int))),(10,.v (I z.2.1))],fun z=>(.new 3 41 [.slice none 0 0] (.new 4 41 [sL z.2.2.2.1 z.2.2.1 (Q4 z)] .nil)),fun z=>[⟨(.sl iT),⟨c,a.length,d⟩,a⟩],fun z=>[⟨(.sl iT),⟨z.2.2.2.1,z.2.2.1.length,(Q4 z)⟩,z.2.2.1⟩],fun z=>z.1⟩ (bG,0,([]:List (List Int)),none,0) h (Es E) (Bs E E) [0] E [0] E ?_)
  rintro ⟨l,b,e,f,g⟩ h
  obtain ⟨l,rfl,h⟩:=bC h
  rw [mJ] at h
  refine aC aA 1 [(11,.v (.bool (decide (b<(a.length:Int)))))] ev1 E E (JS.seq ?_)
  refine aH E h (fun h=>?_) (fun h=>?_)
  ·
   refine JS.skip (JS.seq (JS.block (JS.seq (JS.region (bJ 0 E fun u=>?_)))))
   obtain ⟨m,h⟩:=aK h
   refine aB aA 1 [] [] [(12,.ep ⟨c,a.length,d⟩ (Int.toNat b*1))] _ E ⟨u.ix m,ev2,E⟩ (fS 0 E (Int.toNat b) (at' a b) E fun i j F G w=>cN aA E E E E E E 0 E E (Int.toNat b) 0 (Sl.v ⟨i,(at' a b).length,j⟩) ⟨w (lR m),E⟩ E E E (aL aA 2 [] [22] [(5,.bp 22 0)] (.new 3 41 [.slice none 0 0] (.new 4 41 [sL f e g] (.new 22 174 [sL i (at' a b) j] .nil))) E ⟨ev2,(Bs E E)⟩ (aD E ?_)))
   obtain ⟨x,h⟩:=aK h
   obtain ⟨y,h⟩:=aK h
   refine bF E (.new 4 41 [sL f e g] (.new 22 174 [sL i (at' a b) j] .nil)) [] [8,9,10] ev6 E (fun H=>?_)
   refine bX aA aJ true 7 [0,1,3,4] E (by kernel_rfl) [] [(15,.v (sL f e g)),(18,.v (sL i (at' a b) j))] ev6 [] E E (Es E) (JA.one 2 (by kernel_rfl) (JK.buildSlice aA E E E E E E E E E E E [] E iT [] ev9 E E fun J=>aU ev6 [] E (JA.one 5 (by kernel_rfl) (dG aA E E E E ⟨E,E,E,E,V,E,E,E,E⟩ E E E [0] E 1 E x E fun A B=>aU ev6 [] E (bX aA aJ true 4 [6] E (by kernel_rfl) [] [(20,.v (.agg #[sL A (([]:List Int) ++ (at' a b)) B]))] ev6 [] E E ev2 (JA.one 7 (by kernel_rfl) (JK.buildSlice aA E E E E E E E E E E E [0] E (.sl iT) [(([]:List Int) ++ (at' a b))] ev8 E E fun K=>aU ev6 [] E (JA.one 8 (by kernel_rfl) (jX aA E E E E ⟨E,E,E,E,V,E,E,E,E⟩ E E [1,0] E y E fun n o=>aR E (aT aA aJ 1 [9] E (by kernel_rfl) [] [(23,.bp 4 0)] E ev2 (JA.one 10 (by kernel_rfl) (bH aA E E E E E E E E (aR E (bM (by kernel_rfl) (bE (B':=(.new 3 41 [.slice none 0 0] (.new 4 41 [sL n (e ++ ([(([]:List Int) ++ (at' a b))]:List (List Int))) o] .nil))) (Bs E E) ?_)))))))))))))))
   refine aV (bY aA 2 [(W (b+1))] [] [(10,.v (I (W (b+1))))] _ ev3 E E (bR (l,(W (b+1)),(e ++ ([(([]:List Int) ++ (at' a b))]:List (List Int))),n,o) h (Nat.lt_succ_self _) (Es E) (Bs E E) [2] E [0] E))
  refine JS.exit E (aQ (e,f,g) h (Es E) (Bs E E) [] E [0] E)
 rintro ⟨C,p,s⟩ h
 subst t
 refine aM aA 2 [] [] [] (.new 3 41 [sL p C s] .nil) ⟨V,(Bs E E)⟩ E E ?_
 cases h
 exact JS.ret aA (p,s) V E E [0] E

def kR (b:List (List Int×Int)) (e:(List (List Int×Int))→Option (List (List Int×Int))) (f:(Int×(List (List Int×Int)))→Option (List (List Int×Int))):(Int×(List (List Int×Int)))→Option (List (List Int×Int)):=fun (a,c)=>(bif decide (a<(b.length:Int)) then (aP (0≤a∧a<(b.length:Int)) <|(aF (dD ((at' b a).1,(at' b a).2)) fun d=>(aP (c.length+([d]:List (List Int×Int)).length≤536870912) <|f ((W (a+1)),(c ++ ([d]:List (List Int×Int))))))) else e c)

def kD (a:List (List Int×Int)):Option (List (List Int×Int)):= (aS (fun (b:List (List Int×Int))=> some b) fun c=>(aW (kR a c) bG (0,([]:List (List Int×Int)))))

theorem wG (a:List (List Int×Int)) (c:Option Addr) (d:Nat) (r:List (List Int×Int)) (h:kD a=some r):
 FC Tryz.prog 138 [.agg #[sL c a d]] [⟨(.pair (.sl iT) iT),⟨c,a.length,d⟩,a⟩] (fun _:Option Addr×Nat=>True) (fun q=>.agg #[sL q.1 r q.2]) (fun q=>[⟨(.pair (.sl iT) iT),⟨q.1,r.length,q.2⟩,r⟩]):= by
 refine FC.of (T:=TTx) Tryz.call138 Tryz.func138 E E fun C=>?_
 unfold kD at h
 refine aM aA 2 [] [2,3] [(1,.bp 2 0),(2,.bp 3 0)] (.new 2 44 [sL c a d] (.new 3 44 [.slice none 0 0] .nil)) ⟨(Es E),(Bs E E)⟩ E E (aM aA 3 [] [4] [(3,.bp 4 0)] (.new 2 44 [sL c a d] (.new 3 44 [.slice none 0 0] (.new 4 44 [.slice none 0 0] .nil))) ⟨ev2,(Bs E E)⟩ E E (JS.seq (aC aA 4 [(8,.v (sL c a d)),(9,.v (I (a.length:Int))),(10,.v (I 0))] ⟨(Es E),E⟩ E E ?_)))
 obtain ⟨l,u,h⟩:=aN h
 refine aX (ι:=(List (List Int×Int))×Option Addr×Nat) ⟨fun z=>l z.1=some r,fun z=>[(2,.bp 3 0),(3,.bp 4 0)],fun z=>(.new 3 44 [.slice none 0 0] (.new 4 44 [sL z.2.1 z.1 z.2.2] .nil)),fun z=>[],fun z=>[⟨(.pair (.sl iT) iT),⟨z.2.1,z.1.length,z.2.2⟩,z.1⟩],fun z=>0⟩ ?_ ?_
 ·
  refine aZ (.pair (.sl iT) iT) Sl.nil E E (JS.loop (ι:=Nat×Int×(List (List Int×Int))×Option Addr×Nat) ⟨fun z=>aW (kR a l) z.1 (z.2.1,z.2.2.1)=some r,fun z=>[(2,.bp 3 0),(3,.bp 4 0),(8,.v (sL c a d)),(9,.v (I (a.length:Int))),(10,.v (I z.2.1))],fun z=>(.new 3 44 [.slice none 0 0] (.new 4 44 [sL z.2.2.2.1 z.2.2.1 (Q4 z)] .nil)),fun z=>[⟨(.pair (.sl iT) iT),⟨c,a.length,d⟩,a⟩],fun z=>[⟨(.pair (.sl iT) iT),⟨z.2.2.2.1,z.2.2.1.length,(Q4 z)⟩,z.2.2.1⟩],fun z=>z.1⟩ (bG,0,([]:List (List Int×Int)),none,0) h (Es E) (Bs E E) [0] E [0] E ?_)
  rintro ⟨m,b,e,i,j⟩ h
  obtain ⟨m,rfl,h⟩:=bC h
  rw [kR] at h
  refine aC aA 1 [(11,.v (.bool (decide (b<(a.length:Int)))))] ev1 E E (JS.seq ?_)
  refine aH E h (fun h=>?_) (fun h=>?_)
  ·
   refine JS.skip (JS.seq (JS.block (JS.seq (JS.region (bJ 0 E fun w=>?_)))))
   obtain ⟨n,h⟩:=aK h
   refine aB aA 1 [] [] [(12,.ep ⟨c,a.length,d⟩ (Int.toNat b*2))] _ E ⟨w.ix n,ev2,E⟩ (fS 0 E (Int.toNat b) (at' a b) E fun f g D F x=>cN aA E E E E E E 0 E E (Int.toNat b) 0 ((Sl.v ⟨f,((at' a b).1).length,g⟩),(at' a b).2) ⟨x (lR n),E⟩ E E E (aL aA 2 [] [22] [(5,.bp 22 0)] (.new 3 44 [.slice none 0 0] (.new 4 44 [sL i e j] (.new 22 38 [sL f ((at' a b).1) g,I (at' a b).2] .nil))) E ⟨ev2,(Bs E E)⟩ (aD E ?_)))
   obtain ⟨k,y,h⟩:=aE h
   obtain ⟨A,h⟩:=aK h
   refine bF E (.new 4 44 [sL i e j] (.new 22 38 [sL f ((at' a b).1) g,I (at' a b).2] .nil)) [] [5,6,7] ev6 E (fun G=>?_)
   refine bX aA aJ true 5 [0,1,2] E (by kernel_rfl) [] [(15,.v (sL i e j)),(16,.v (.agg #[sL f ((at' a b).1) g,I (at' a b).2]))] ev6 [] E E (Es E) (JA.one 3 (by kernel_rfl) (JK.call E E E E (eJ ((at' a b).1,(at' a b).2) f g _ y) E [1] E E ?_))
   rintro ⟨H,J⟩ -
   refine aU ev6 [] E (JA.one 4 (by kernel_rfl) (JK.buildSlice aA E E E E E E E E E E E [0] E (.pair (.sl iT) iT) [k] ev8 E E fun K=>aU ev6 [] E (JA.one 5 (by kernel_rfl) (jX aA E E E E ⟨E,E,E,E,V,E,E,E,E⟩ E E [1,0] E A E fun o p=>aR E (aT aA aJ 1 [6] E (by kernel_rfl) [] [(20,.bp 4 0)] E ev2 (JA.one 7 (by kernel_rfl) (bH aA E E E E E E E E (aR E (bM (by kernel_rfl) (bE (B':=(.new 3 44 [.slice none 0 0] (.new 4 44 [sL o (e ++ ([k]:List (List Int×Int))) p] .nil))) (Bs E E) (aV (bY aA 2 [(W (b+1))] [] [(10,.v (I (W (b+1))))] _ ev3 E E (bR (m,(W (b+1)),(e ++ ([k]:List (List Int×Int))),o,p) h (Nat.lt_succ_self _) (Es E) (Bs E E) [2] E [0] E)))))))))))))
  refine JS.exit E (aQ (e,i,j) h (Es E) (Bs E E) [] E [0] E)
 rintro ⟨B,s,t⟩ h
 subst u
 refine aM aA 2 [] [] [] (.new 3 44 [sL s B t] .nil) ⟨V,(Bs E E)⟩ E E ?_
 cases h
 exact JS.ret aA (s,t) V E E [0] E

def cA (a:EdQ):Option EdQ:= (aF (dD a.2.2.1) fun b=>(aF (dD a.2.2.2.2.2.2.2.2.2.2.2.2.2.1) fun c=>(aF (dD a.2.2.2.2.2.2.2.2.2.2.2.2.2.2.2.2) fun d=>(aF (qD a.2.2.2.2.2.2.2.2.2.2.1) fun e=>(aF (kD a.2.2.2.2.2.2.2.2.2.2.2.1) fun f=>(aP (([]:List Int).length+a.2.2.2.2.2.2.2.2.2.2.2.2.2.2.1.length≤536870912) <|some (a.1,a.2.1,b,a.2.2.2.1,a.2.2.2.2.1,a.2.2.2.2.2.1,a.2.2.2.2.2.2.1,a.2.2.2.2.2.2.2.1,a.2.2.2.2.2.2.2.2.1,a.2.2.2.2.2.2.2.2.2.1,e,f,a.2.2.2.2.2.2.2.2.2.2.2.2.1,c,(([]:List Int) ++ a.2.2.2.2.2.2.2.2.2.2.2.2.2.2.1),a.2.2.2.2.2.2.2.2.2.2.2.2.2.2.2.1,d)))))))

theorem cI (a:EdQ) (b:P6) (r:EdQ) (h:cA a=some r):
 FC Tryz.prog 51 [.agg (cD a b).toArray] (bP a b []) (fun _:P6=>True) (fun q=>.agg (aG r q).toArray) (fun q=>(bP r q [])):= by
 refine FC.of (T:=TTx) Tryz.call51 Tryz.func51 E E fun D=>?_
 unfold cA at h
 refine aM aA 2 [] [7,8] [(1,.bp 7 0),(2,.bp 8 0)] (.new 7 46 (aG a b) (.new 8 46 bA .nil)) ⟨(Es E),(Bs E E)⟩ E E (JS.seq (JS.region (aB aA 2 [] [] [(4,.v (.agg #[sL b.1 a.2.2.1.1 b.2.1,I a.2.2.1.2]))] _ E ev1 ?_)))
 refine bnw h fun e x h=>JO.call E E E E (eJ a.2.2.1 b.1 b.2.1 _ x) E [0] E E ?_
 rintro ⟨c,d⟩ -
 refine aL aA 2 [] [] [] (.new 7 46 (aG (a.1,a.2.1,e,a.2.2.2) (c,d,b.2.2)) (.new 8 46 bA .nil)) E ⟨V,(Bs E E)⟩ (aD E (JS.seq (JS.region (aB aA 2 [] [] [(8,.v (.agg #[sL (Q4 b).2.2.1 (Q12 a).2.1.1 (Q4 b).2.2.2.1,I (Q12 a).2.1.2]))] _ E ev1 ?_))))
 refine bnw h fun i y h=>JO.call E E E E (eJ (Q12 a).2.1 (Q4 b).2.2.1 (Q4 b).2.2.2.1 _ y) E [3] E E ?_
 rintro ⟨f,g⟩ -
 refine aL aA 2 [] [] [] (.new 7 46 (aG (U13 (U2 a e) i) (c,d,b.2.2.1,b.2.2.2.1,(Q4 b).1,(Q4 b).2.1,f,g,(Q8 b))) (.new 8 46 bA .nil)) E ⟨V,(Bs E E)⟩ (aD E (JS.seq (JS.region (aB aA 2 [] [] [(12,.v (.agg #[sL (Q8 b).2.2.1 (Q16 a).1 (Q8 b).2.2.2,I (Q16 a).2]))] _ E ev1 ?_))))
 refine bnw h fun l z h=>JO.call E E E E (eJ (Q16 a) (Q8 b).2.2.1 (Q8 b).2.2.2 _ z) E [5] E E ?_
 rintro ⟨j,k⟩ -
 refine aL aA 2 [] [] [] (.new 7 46 (aG (a.1,a.2.1,e,a.2.2.2.1,(Q4 a).1,(Q4 a).2.1,(Q4 a).2.2.1,(Q4 a).2.2.2.1,(Q8 a).1,(Q8 a).2.1,(Q8 a).2.2.1,(Q8 a).2.2.2.1,(Q12 a).1,i,(Q12 a).2.2.1,(Q12 a).2.2.2.1,l) (c,d,b.2.2.1,b.2.2.2.1,(Q4 b).1,(Q4 b).2.1,f,g,(Q8 b).1,(Q8 b).2.1,j,k)) (.new 8 46 bA .nil)) E ⟨V,(Bs E E)⟩ (aD E (JS.seq (JS.region (aB aA 2 [] [] [(16,.v (.agg #[sL b.2.2.1 (Q8 a).2.2.1 b.2.2.2.1]))] _ E ev1 ?_))))
 refine bnw h fun o A h=>JO.call E E E E (aCl (Q8 a).2.2.1 b.2.2.1 b.2.2.2.1 _ A) E [1] E E ?_
 rintro ⟨m,n⟩ -
 refine aL aA 2 [] [] [] (.new 7 46 (aG (a.1,a.2.1,e,a.2.2.2.1,(Q4 a).1,(Q4 a).2.1,(Q4 a).2.2.1,(Q4 a).2.2.2.1,(Q8 a).1,(Q8 a).2.1,o,(Q8 a).2.2.2.1,(Q12 a).1,i,(Q12 a).2.2.1,(Q12 a).2.2.2.1,l) (c,d,m,n,(Q4 b).1,(Q4 b).2.1,f,g,(Q8 b).1,(Q8 b).2.1,j,k)) (.new 8 46 bA .nil)) E ⟨V,(Bs E E)⟩ (aD E (JS.seq (JS.region (aB aA 2 [] [] [(20,.v (.agg #[sL (Q4 b).1 (Q8 a).2.2.2.1 (Q4 b).2.1]))] _ E ev1 ?_))))
 refine bnw h fun t B h=>JO.call E E E E (wG (Q8 a).2.2.2.1 (Q4 b).1 (Q4 b).2.1 _ B) E [2] E E ?_
 rintro ⟨p,s⟩ -
 refine aL aA 2 [] [] [] (.new 7 46 (aG (a.1,a.2.1,e,a.2.2.2.1,(Q4 a).1,(Q4 a).2.1,(Q4 a).2.2.1,(Q4 a).2.2.2.1,(Q8 a).1,(Q8 a).2.1,o,t,(Q12 a).1,i,(Q12 a).2.2.1,(Q12 a).2.2.2.1,l) (c,d,m,n,p,s,f,g,(Q8 b).1,(Q8 b).2.1,j,k)) (.new 8 46 bA .nil)) E ⟨V,(Bs E E)⟩ (aD E (JS.seq (JS.region ?_)))
 refine iY E (JK.buildSlice aA E E E E E E E E E E E [] E iT [] ev9 E E fun F=>iX ?_)
 refine aB aA 2 [] [] [(25,.v (sL (Q8 b).1 (Q12 a).2.2.1 (Q8 b).2.1))] _ E ev1 ?_
 obtain ⟨C,h⟩:=aK h
 refine fU aA E E E E ⟨E,E,E,E,V,E,E,E,E⟩ E E E [0] E 4 E C E fun u w=>aL aA 2 [] [] [] (.new 7 46 (aG (a.1,a.2.1,e,a.2.2.2.1,(Q4 a).1,(Q4 a).2.1,(Q4 a).2.2.1,(Q4 a).2.2.2.1,(Q8 a).1,(Q8 a).2.1,o,t,(Q12 a).1,i,(([]:List Int) ++ (Q12 a).2.2.1),(Q12 a).2.2.2.1,l) (c,d,m,n,p,s,f,g,u,w,j,k)) (.new 8 46 bA .nil)) E ⟨V,(Bs E E)⟩ (aD E (aM aA 2 [] [] [] (.new 8 46 (aG (a.1,a.2.1,e,a.2.2.2.1,(Q4 a).1,(Q4 a).2.1,(Q4 a).2.2.1,(Q4 a).2.2.2.1,(Q8 a).1,(Q8 a).2.1,o,t,(Q12 a).1,i,(([]:List Int) ++ (Q12 a).2.2.1),(Q12 a).2.2.2.1,l) (c,d,m,n,p,s,f,g,u,w,j,k)) .nil) ⟨V,(Bs E E)⟩ E E ?_))
 cases h
 exact JS.ret aA (c,d,m,n,p,s,f,g,u,w,j,k) V E E [5,2,1,2,0,0] E

def eD (a:EdQ):Option EdQ:= some (a.1,a.2.1,a.2.2.1,0,0,0,0,a.2.2.2.2.2.2.2.1,a.2.2.2.2.2.2.2.2.1,a.2.2.2.2.2.2.2.2.2.1,a.2.2.2.2.2.2.2.2.2.2.1,a.2.2.2.2.2.2.2.2.2.2.2.1,a.2.2.2.2.2.2.2.2.2.2.2.2.1,a.2.2.2.2.2.2.2.2.2.2.2.2.2.1,a.2.2.2.2.2.2.2.2.2.2.2.2.2.2.1,a.2.2.2.2.2.2.2.2.2.2.2.2.2.2.2.1,a.2.2.2.2.2.2.2.2.2.2.2.2.2.2.2.2)

theorem nE (b:EdQ) (a:P6) (r:EdQ) (h:eD b=some r):
 FC Tryz.prog 121 [.agg (cD b a).toArray] (bP b a []) (fun _:Unit=>True) (fun _=>.agg #[.bool r.1,I r.2.1,sL a.1 b.2.2.1.1 a.2.1,I r.2.2.1.2,I r.2.2.2.1,I (Q4 r).1,I (Q4 r).2.1,I (Q4 r).2.2.1,I (Q4 r).2.2.2.1,I (Q8 r).1,I (Q8 r).2.1,sL a.2.2.1 (Q8 b).2.2.1 a.2.2.2.1,sL (Q4 a).1 (Q8 b).2.2.2.1 (Q4 a).2.1,I (Q12 r).1,sL (Q4 a).2.2.1 (Q12 b).2.1.1 (Q4 a).2.2.2.1,I (Q12 r).2.1.2,sL (Q8 a).1 (Q12 b).2.2.1 (Q8 a).2.1,I (Q12 r).2.2.2.1,sL (Q8 a).2.2.1 (Q16 b).1 (Q8 a).2.2.2,I (Q16 r).2]) (fun _=>[]):= by
 refine FC.of (T:=TTx) Tryz.call121 Tryz.func121 E E fun c=>?_
 unfold eD at h
 refine aM aA 2 [] [7,8] [(1,.bp 7 0),(2,.bp 8 0)] (.new 7 46 (aG b a) (.new 8 46 bA .nil)) ⟨(Es E),(Bs E E)⟩ E E (aM aA 2 [] [] [] (.new 7 46 (aG (U3 b 0) a) (.new 8 46 bA .nil)) ⟨V,(Bs E E)⟩ E E (aM aA 2 [] [] [] (.new 7 46 (aG (U4 (U3 b 0) 0) a) (.new 8 46 bA .nil)) ⟨V,(Bs E E)⟩ E E (aM aA 2 [] [] [] (.new 7 46 (aG (U5 (U4 (U3 b 0) 0) 0) a) (.new 8 46 bA .nil)) ⟨V,(Bs E E)⟩ E E (aM aA 2 [] [] [] (.new 7 46 (aG (U6 (U5 (U4 (U3 b 0) 0) 0) 0) a) (.new 8 46 bA .nil)) ⟨V,(Bs E E)⟩ E E (aM aA 2 [] [] [] (.new 8 46 (aG (U6 (U5 (U4 (U3 b 0) 0) 0) 0) a) .nil) ⟨V,(Bs E E)⟩ E E ?_)))))
 cases h
 exact JS.ret aA () V E E [] E

def cH (c:EdQ):Option (EdQ×Int):= (aF (cA c) fun b=>(aF (eD b) fun a=> some ((a.1,a.2.1,(b.2.2.1.1,a.2.2.1.2),a.2.2.2.1,a.2.2.2.2.1,a.2.2.2.2.2.1,a.2.2.2.2.2.2.1,a.2.2.2.2.2.2.2.1,a.2.2.2.2.2.2.2.2.1,0,b.2.2.2.2.2.2.2.2.2.2.1,b.2.2.2.2.2.2.2.2.2.2.2.1,a.2.2.2.2.2.2.2.2.2.2.2.2.1,(b.2.2.2.2.2.2.2.2.2.2.2.2.2.1.1,a.2.2.2.2.2.2.2.2.2.2.2.2.2.1.2),b.2.2.2.2.2.2.2.2.2.2.2.2.2.2.1,a.2.2.2.2.2.2.2.2.2.2.2.2.2.2.2.1,(b.2.2.2.2.2.2.2.2.2.2.2.2.2.2.2.2.1,a.2.2.2.2.2.2.2.2.2.2.2.2.2.2.2.2.2)),1)))

theorem cO (c:EdQ) (d:P6) (r:EdQ×Int) (h:cH c=some r):
 FC Tryz.prog 112 [.agg (cD c d).toArray] (bP c d []) (fun _:P6=>True) (fun q=>.tuple #[.agg (aG r.1 q).toArray,I r.2]) (fun q=>(bP r.1 q [])):= by
 refine FC.of (T:=TTx) Tryz.call112 Tryz.func112 E E fun i=>?_
 unfold cH at h
 refine aM aA 3 [] [7,8] [(1,.bp 7 0),(2,.bp 8 0)] (.new 7 46 (aG c d) (.new 8 46 bA .nil)) ⟨(Es E),(Bs E E)⟩ E E (JS.seq (JS.region (aB aA 1 [] [] [(5,.v (.agg (aG c d).toArray))] _ E ev1 ?_)))
 refine bnw h fun b f h=>JO.call E E E E (cI c d _ f) E [0,1,2,3,4,5] E E fun e _=>bnw h fun a g h=>JO.call E E E E (nE b e _ g) E [6,7,8,9,10,11] E E fun _ _=>aL aA 2 [] [31] [(4,.bp 31 0)] (.new 8 46 bA (.new 31 46 (aG (a.1,a.2.1,(b.2.2.1.1,a.2.2.1.2),a.2.2.2.1,(Q4 a).1,(Q4 a).2.1,(Q4 a).2.2.1,(Q4 a).2.2.2.1,(Q8 a).1,(Q8 a).2.1,(Q8 b).2.2.1,(Q8 b).2.2.2.1,(Q12 a).1,((Q12 b).2.1.1,(Q12 a).2.1.2),(Q12 b).2.2.1,(Q12 a).2.2.2.1,((Q16 b).1,(Q16 a).2)) e) .nil)) E ⟨ev2,(Bs E E)⟩ (aD E (aM aA 2 [] [] [] (.new 8 46 bA (.new 31 46 (aG (a.1,a.2.1,(b.2.2.1.1,a.2.2.1.2),a.2.2.2.1,(Q4 a).1,(Q4 a).2.1,(Q4 a).2.2.1,(Q4 a).2.2.2.1,(Q8 a).1,0,(Q8 b).2.2.1,(Q8 b).2.2.2.1,(Q12 a).1,((Q12 b).2.1.1,(Q12 a).2.1.2),(Q12 b).2.2.1,(Q12 a).2.2.2.1,((Q16 b).1,(Q16 a).2)) e) .nil)) ⟨V,(Bs E E)⟩ E E (aM aA 3 [] [] [(3,.v (I 1))] (.new 8 46 (aG (a.1,a.2.1,(b.2.2.1.1,a.2.2.1.2),a.2.2.2.1,(Q4 a).1,(Q4 a).2.1,(Q4 a).2.2.1,(Q4 a).2.2.2.1,(Q8 a).1,0,(Q8 b).2.2.1,(Q8 b).2.2.2.1,(Q12 a).1,((Q12 b).2.1.1,(Q12 a).2.1.2),(Q12 b).2.2.1,(Q12 a).2.2.2.1,((Q16 b).1,(Q16 a).2)) e) .nil) ⟨ev2,(Bs E E)⟩ E E ?_)))
 cases h
 exact JS.ret aA e V E E [0,0,0,0,0,0] E

def xI (a:EdQ):Option Int:= (bif decide (a.2.2.2.1<1) then some 1 else some a.2.2.2.1)

theorem aIx (a:EdQ) (b:P6) (r:Int) (h:xI a=some r):
 FC Tryz.prog 110 [.agg (cD a b).toArray] (bP a b []) (fun _:Unit=>True) (fun _=>I r) (fun _=>[]):= by
 refine FC.of (T:=TTx) Tryz.call110 Tryz.func110 E E fun c=>?_
 unfold xI at h
 refine aM aA 2 [] [7] [(1,.bp 7 0)] (.new 7 46 (aG a b) .nil) ⟨ev2,(Bs E E)⟩ E E (JS.seq (aC aA 3 [(5,.v (.bool (decide (a.2.2.2.1<1))))] ev1 E E ?_))
 refine aH E h (fun h=>?_) (fun h=>?_)
 ·
  refine aC aA 1 [(2,.v (I 1))] ev1 E E ?_
  cases h
  exact JS.ret aA () V E E [] E
 refine JS.skip (aC aA 3 [(2,.v (I a.2.2.2.1))] ev1 E E ?_)
 cases h
 exact JS.ret aA () V E E [] E

def bV (a:Int) (b:Int):Option Int:= (bif decide (a<0) then some 0 else (bif decide (b<a) then some b else some a))

theorem bN (a:Int) (b:Int) (r:Int) (h:bV a b=some r) :
 FC Tryz.prog 122 [I a,I b] [] (fun _:Unit=>True) (fun _=>I r) (fun _=>[]):= by
 refine FC.of (T:=TTx) Tryz.call122 Tryz.func122 E E fun c=>?_
 unfold bV at h
 refine aC aA 1 [] ev5 E E (JS.seq (aC aA 2 [(6,.v (.bool (decide (a<0))))] ev1 E E ?_))
 refine aH E h (fun h=>?_) (fun h=>?_)
 ·
  refine aC aA 1 [(4,.v (I 0))] ev1 E E ?_
  cases h
  exact JS.ret aA () V E E [] E
 refine JS.skip (JS.seq (aC aA 3 [(9,.v (.bool (decide (b<a))))] ev1 E E ?_))
 refine aH E h (fun h=>?_) (fun h=>?_)
 ·
  refine aC aA 2 [(4,.v (I b))] ev1 E E ?_
  cases h
  exact JS.ret aA () V E E [] E
 refine JS.skip (aC aA 2 [(4,.v (I a))] ev1 E E ?_)
 cases h
 exact JS.ret aA () V E E [] E

def kQ (a:EdQ):Option Int:= (aF (xI a) fun b=>(aS (fun (d:Int)=>(aF (bV d 999) fun e=> some e)) fun c=>(bif decide (0<a.2.2.2.2.2.1) then c (W (b*a.2.2.2.2.2.1)) else c b)))

theorem pX (a:EdQ) (b:P6) (r:Int) (h:kQ a=some r):
 FC Tryz.prog 214 [.agg (cD a b).toArray] (bP a b []) (fun _:Unit=>True) (fun _=>I r) (fun _=>[]):= by
 refine FC.of (T:=TTx) Tryz.call214 Tryz.func214 E E fun k=>?_
 unfold kQ at h
 refine aM aA 2 [] [7] [(1,.bp 7 0)] (.new 7 46 (aG a b) .nil) ⟨ev2,(Bs E E)⟩ E E (JS.seq (JS.region (aB aA 1 [] [] [(4,.v (.agg (aG a b).toArray))] _ E ev1 ?_)))
 refine bnw h fun c e h=>JO.call E E E E (aIx a b _ e) E [0,1,2,3,4,5] E E fun _ _=>aB aA 1 [] [] [(3,.v (I c))] _ E ev1 (aD E ?_)
 obtain ⟨f,g,h⟩:=aN h
 refine bZ (ι:=Int) ⟨fun z=>f z=some r,fun z=>[(3,.v (I z))],fun z=>.nil,fun z=>[],fun z=>[],fun z=>0⟩ ?_ ?_
 ·
  refine aC aA 3 [(8,.v (.bool (decide (0<(Q4 a).2.1))))] ev1 E E ?_
  refine aH E h (fun h=>?_) (fun h=>?_)
  ·
   refine bY aA 5 [(W (c*(Q4 a).2.1))] [] [(3,.v (I (W (c*(Q4 a).2.1))))] _ ev3 E E (aQ (W (c*(Q4 a).2.1)) h ev2 V [] E [] E)
  refine JS.skip (aQ c h ev2 V [] E [] E)
 rintro d h
 subst g
 refine JS.seq (JS.region (aB aA 1 [] [] [(13,.v (I d))] _ E ev1 ?_))
 refine bnw h fun i j h=>JO.call E E E E (bN d 999 _ j) E [] E E fun _ _=>aB aA 1 [] [] [(2,.v (I i))] _ E ev1 (aD E ?_)
 cases h
 exact JS.ret aA () V E E [] E

def mI (b:List Int) (c:List Int) (d:Unit→Option Bool) (e:Int→Option Bool):Int→Option Bool:=fun a=>(bif decide (a<(b.length:Int)) then (aP (0≤a∧a<(b.length:Int)) <|(aP (0≤a∧a<(c.length:Int)) <|(bif (!(decide ((at' b a)=(at' c a)))) then some false else e (W (a+1))))) else d ())

def qC (a:List Int) (b:List Int):Option Bool:= (bif (!(decide ((a.length:Int)=(b.length:Int)))) then some false else (aS (fun (_:Unit)=> some true) fun c=>(aW (mI a b c) bG 0)))

theorem aCk (a:List Int) (c:List Int) (d:Option Addr) (e:Nat) (f:Option Addr) (g:Nat) (r:Bool) (h:qC a c=some r):
 FC Tryz.prog 249 [sL d a e,sL f c g] [fI d e a,fI f g c] (fun _:Unit=>True) (fun _=>.bool r) (fun _=>[]):= by
 refine FC.of (T:=TTx) Tryz.call249 Tryz.func249 E E fun p=>?_
 unfold qC at h
 refine aC aA 1 [] ev5 E E (JS.seq (aC aA 5 [(10,.v (.bool (!(decide ((a.length:Int)=(c.length:Int))))))] ev1 E E ?_))
 refine aH E h (fun h=>?_) (fun h=>?_)
 ·
  refine aC aA 1 [(4,.v (.bool false))] ev1 E E ?_
  cases h
  exact JS.ret aA () V E E [] E
 refine JS.skip (JS.seq (aC aA 3 [(12,.v (I (a.length:Int))),(13,.v (I 0))] ⟨(Es E),E⟩ E E ?_))
 obtain ⟨i,m,h⟩:=aN h
 refine aX (ι:=Unit) ⟨fun _=>i ()=some r,fun _=>[],fun _=>.nil,fun _=>[],fun _=>[],fun _=>0⟩ ?_ ?_
 ·
  refine JS.loop (ι:=Nat×Int) ⟨fun z=>aW (mI a c i) z.1 z.2=some r,fun z=>[(0,.v (sL d a e)),(1,.v (sL f c g)),(12,.v (I (a.length:Int))),(13,.v (I z.2))],fun z=>.nil,fun z=>[fI d e a,fI f g c],fun z=>[],fun z=>z.1⟩ (bG,0) h (Es E) V [0,1] E [] E ?_
  rintro ⟨j,b⟩ h
  obtain ⟨j,rfl,h⟩:=bC h
  rw [mI] at h
  refine aC aA 1 [(14,.v (.bool (decide (b<(a.length:Int)))))] ev1 E E (JS.seq ?_)
  refine aH E h (fun h=>?_) (fun h=>?_)
  ·
   refine JS.skip (JS.seq (JS.block (aC aA 2 [(5,.v (I b))] ev1 E E (JS.seq ?_))))
   obtain ⟨k,h⟩:=aK h
   obtain ⟨l,h⟩:=aK h
   refine cV 0 E fun n=>cV 1 E fun o=>dF E (by kernel_rfl) (cX aA 3 [] [(18,.ep ⟨d,a.length,e⟩ (Int.toNat b*1))] E ⟨n.ix k,ev2⟩ (JQ.load aA E E E E E E E 0 E E (Int.toNat b) 0 (at' a b) ⟨bD k,E⟩ E E (cX aA 3 [] [(22,.ep ⟨f,c.length,g⟩ (Int.toNat b*1))] E ⟨o.ix l,ev2⟩ (JQ.load aA E E E E E E E 1 E E (Int.toNat b) 0 (at' c b) ⟨bD l,E⟩ E E (cX aA 1 [] [(24,.v (.bool (!(decide ((at' a b)=(at' c b))))))] E ev2 (iN E ?_))))))
   refine aH E h (fun h=>?_) (fun h=>?_)
   ·
    refine aC aA 1 [(4,.v (.bool false))] ev1 E E ?_
    cases h
    exact JS.ret aA () V E E [] E
   refine JS.skip (aV (bY aA 2 [(W (b+1))] [] [(13,.v (I (W (b+1))))] _ ev3 E E (bR (j,(W (b+1))) h (Nat.lt_succ_self _) (Es E) V [0,1] E [] E)))
  refine JS.exit E (aQ () h V V [] E [] E)
 rintro _ h
 subst m
 refine aC aA 1 [(4,.v (.bool true))] ev1 E E ?_
 cases h
 exact JS.ret aA () V E E [] E

def sV (d:List (List Int×Int)) (c:List Int×Int):Option ((List (List Int×Int))×Bool):= (aF (pG d) fun e=>(bW ((!e)=false) (dX c) false fun g=>(bif (bif (!e) then true else (!g)) then some ([],false) else (aF (kD d) fun a=>(aP (((decide (0<(a.length:Int)))=true)→0≤(W ((a.length:Int) - 1))∧(W ((a.length:Int) - 1))<(a.length:Int)) <|(bW ((decide (0<(a.length:Int)))=true) (qC ((at' a (W ((a.length:Int) - 1))).1) c.1) false fun h=>(bif (bif decide (0<(a.length:Int)) then h else false) then some (a,true) else (aF (dD c) fun b=>(aP (a.length+([b]:List (List Int×Int)).length≤536870912) <|(aS (fun (i:List (List Int×Int))=> some (i,true)) fun f=>(bif decide ((a.length:Int)=20) then (aP (0≤(1:Int)∧(1:Int)≤((a ++ ([b]:List (List Int×Int))).length:Int)∧((a ++ ([b]:List (List Int×Int))).length:Int)≤((a ++ ([b]:List (List Int×Int))).length:Int)) <|f (bU (a ++ ([b]:List (List Int×Int))) 1 ((a ++ ([b]:List (List Int×Int))).length:Int))) else f (a ++ ([b]:List (List Int×Int))))))))))))))

theorem aJ3 (e:List (List Int×Int)) (b:List Int×Int) (g:Option Addr) (i:Nat) (c:Option Addr) (d:Nat) (r:(List (List Int×Int))×Bool) (h:sV e b=some r):
 FC Tryz.prog 182 [.agg #[sL g e i],.agg #[sL c b.1 d,I b.2]] [⟨(.pair (.sl iT) iT),⟨g,e.length,i⟩,e⟩,fI c d b.1] (fun _:Option Addr×Nat=>True) (fun q=>.tuple #[.agg #[sL q.1 r.1 q.2],.bool r.2]) (fun q=>[⟨(.pair (.sl iT) iT),⟨q.1,r.1.length,q.2⟩,r.1⟩]):= by
 refine FC.of (T:=TTx) Tryz.call182 Tryz.func182 E E fun Y=>?_
 unfold sV at h
 refine aM aA 4 [] [3,4,5] [(2,.bp 3 0),(3,.bp 4 0),(4,.bp 5 0)] (.new 3 44 [sL g e i] (.new 4 38 [sL c b.1 d,I b.2] (.new 5 44 [.slice none 0 0] .nil))) ⟨(Es E),(Bs E E)⟩ E E (JS.seq (JS.seq (JS.region (aB aA 1 [] [] [(8,.v (.agg #[sL g e i]))] _ E ev1 ?_))))
 refine bnw h fun s A h=>JO.call E E E E (zS e g i _ A) E [0] E E fun _ _=>aB aA 3 [] [] [(11,.v (.bool (!s))),(12,.cd [(11,false)] (.v (.agg #[sL c b.1 d,I b.2])))] _ E ⟨(Es E),E⟩ ?_
 obtain ⟨B,C,-,h⟩:=aY h
 refine bL E E E E (fun D=>gD b c d _ (C D)) E [1] E E (aB aA 2 [] [] [(15,.v (.bool (bif (!s) then true else (!B))))] _ E ev1 (aD E ?_))
 refine aH E h (fun h=>?_) (fun h=>?_)
 ·
  refine aM aA 3 [] [] [(5,.v (.bool false))] (.new 5 44 [.slice none 0 0] .nil) ⟨ev2,(Bs E E)⟩ E E ?_
  cases h
  refine aZ (.pair (.sl iT) iT) Sl.nil E E (JS.ret aA (none,0) V E E [0] E)
 refine JS.skip (JS.seq (JS.region (aB aA 1 [] [] [(17,.v (.agg #[sL g e i]))] _ E ev1 ?_)))
 refine bnw h fun a F h=>JO.call E E E E (wG e g i _ F) E [0] E E ?_
 rintro ⟨j,k⟩ -
 refine aL aA 2 [] [15] [(6,.bp 15 0)] (.new 4 38 [sL c b.1 d,I b.2] (.new 5 44 [.slice none 0 0] (.new 15 44 [sL j a k] .nil))) E ⟨ev2,(Bs E E)⟩ (aD E (aC aA 4 [(7,.v (I (a.length:Int)))] ev1 E E (JS.seq (JS.seq ?_))))
 obtain ⟨l,h⟩:=aK h
 obtain ⟨G,H,-,h⟩:=aY h
 refine wQ (id:=0) (wF [0] E (Int.toNat (W ((a.length:Int) - 1))) (at' a (W ((a.length:Int) - 1))) E ?_)
 intro m n J K
 obtain rfl:([sL m ((at' a (W ((a.length:Int) - 1))).1) n,I (at' a (W ((a.length:Int) - 1))).2]:List Value)=J:=Option.some.inj K
 refine wR (cV 2 E fun t=>dF E (by kernel_rfl) (cX aA 9 [(W ((a.length:Int) - 1))] [(24,.v (.bool (decide (0<(a.length:Int))))),(30,.cd [(24,true)] (.ep ⟨j,a.length,k⟩ (Int.toNat (W ((a.length:Int) - 1))*2)))] E ⟨(fun Z=>ev5),(fun L=>(t.cast (gJ _ _ _)).ix (l L)),(fun M=>(t.cast (gJ _ _ _)).fa (l M)),(Es E)⟩ (xV aA E E E E E E 2 E E (Int.toNat (W ((a.length:Int) - 1))) 0 (Sum.inr [sL m ((at' a (W ((a.length:Int) - 1))).1) n,I (at' a (W ((a.length:Int) - 1))).2]) (fun N=>⟨nW (bD (l N)),E⟩) E E E (cX aA 2 [] [(33,.cd [(24,true)] (.v (sL c b.1 d)))] E ev2 (JQ.call E E E E (fun O=>aCk ((at' a (W ((a.length:Int) - 1))).1) b.1 m n c d _ (H O)) E [3,1] E E (cX aA 1 [] [(35,.v (.bool (bif (decide (0<(a.length:Int))) then G else false)))] E ev2 (iN E ?_)))))))
 refine wQ (id:=0) (aB6 [0,0] E (at' a (W ((a.length:Int) - 1))) E ev8 (wR ?_))
 refine aH E h (fun h=>?_) (fun h=>?_)
 ·
  refine aM aA 3 [] [] [(5,.v (.bool true))] (.new 5 44 [sL j a k] .nil) ⟨ev2,(Bs E E)⟩ E E ?_
  cases h
  exact JS.ret aA (j,k) V E E [0] E
 refine JS.skip (JS.seq ?_)
 obtain ⟨f,P,h⟩:=aE h
 obtain ⟨Q,h⟩:=aK h
 refine bF E (.new 4 38 [sL c b.1 d,I b.2] (.new 15 44 [sL j a k] .nil)) [] [5,6,7] ev6 E (fun a0=>?_)
 refine bX aA aJ true 5 [0,1,2] E (by kernel_rfl) [] [(38,.v (sL j a k)),(39,.v (.agg #[sL c b.1 d,I b.2]))] ev6 [] E E (Es E) (JA.one 3 (by kernel_rfl) (JK.call E E E E (eJ b c d _ P) E [1] E E ?_))
 rintro ⟨a1,a2⟩ -
 refine aU ev6 [] E (JA.one 4 (by kernel_rfl) (JK.buildSlice aA E E E E E E E E E E E [0] E (.pair (.sl iT) iT) [f] ev8 E E fun a4=>aU ev6 [] E (JA.one 5 (by kernel_rfl) (jX aA E E E E ⟨E,E,E,E,V,E,E,E,E⟩ E E [1,0] E Q E fun o p=>aR E (aT aA aJ 1 [6] E (by kernel_rfl) [] [(43,.bp 15 0)] E ev2 (JA.one 7 (by kernel_rfl) (bH aA E E E E E E E E (aR E (bM (by kernel_rfl) (bE (B':=(.new 5 44 [.slice none 0 0] (.new 15 44 [sL o (a ++ ([f]:List (List Int×Int))) p] .nil))) (Bs E E) ?_))))))))))
 obtain ⟨R,S,h⟩:=aN h
 refine bZ (ι:=(List (List Int×Int))×Option Addr×Nat) ⟨fun z=>R z.1=some r,fun z=>[(4,.bp 5 0),(6,.bp 15 0)],fun z=>(.new 5 44 [.slice none 0 0] (.new 15 44 [sL z.2.1 z.1 z.2.2] .nil)),fun z=>[],fun z=>[⟨(.pair (.sl iT) iT),⟨z.2.1,z.1.length,z.2.2⟩,z.1⟩],fun z=>0⟩ ?_ ?_
 ·
  refine aC aA 2 [(45,.v (.bool (decide ((a.length:Int)=20))))] ev1 E E ?_
  refine aH E h (fun h=>?_) (fun h=>?_)
  ·
   refine JS.region (aB aA 2 [] [] [(47,.v (sL o (a ++ ([f]:List (List Int×Int))) p))] _ E ev1 ?_)
   obtain ⟨U,h⟩:=aK h
   refine yS aA E E E E E E E E [0] E (1:Int) ((a ++ ([f]:List (List Int×Int))).length:Int) E E U E fun u w=>aL aA 2 [] [] [] (.new 5 44 [.slice none 0 0] (.new 15 44 [sL u (bU (a ++ ([f]:List (List Int×Int))) 1 ((a ++ ([f]:List (List Int×Int))).length:Int)) w] .nil)) E ⟨V,(Bs E E)⟩ (aD E (aQ ((bU (a ++ ([f]:List (List Int×Int))) 1 ((a ++ ([f]:List (List Int×Int))).length:Int)),u,w) h (Es E) (Bs E E) [] E [0] E))
  refine JS.skip (aQ ((a ++ ([f]:List (List Int×Int))),o,p) h (Es E) (Bs E E) [] E [0] E)
 rintro ⟨X,x,y⟩ h
 subst S
 refine aM aA 3 [] [] [(5,.v (.bool true))] (.new 5 44 [sL x X y] .nil) ⟨ev2,(Bs E E)⟩ E E ?_
 cases h
 exact JS.ret aA (x,y) V E E [0] E

def mH (a:EdQ):Option EdQ:= (aS (fun (c:Int)=> some (a.1,a.2.1,(a.2.2.1.1,c),a.2.2.2.1,a.2.2.2.2.1,a.2.2.2.2.2.1,a.2.2.2.2.2.2.1,a.2.2.2.2.2.2.2.1,a.2.2.2.2.2.2.2.2.1,a.2.2.2.2.2.2.2.2.2.1,a.2.2.2.2.2.2.2.2.2.2.1,a.2.2.2.2.2.2.2.2.2.2.2.1,a.2.2.2.2.2.2.2.2.2.2.2.2.1,a.2.2.2.2.2.2.2.2.2.2.2.2.2.1,a.2.2.2.2.2.2.2.2.2.2.2.2.2.2.1,a.2.2.2.2.2.2.2.2.2.2.2.2.2.2.2.1,a.2.2.2.2.2.2.2.2.2.2.2.2.2.2.2.2)) fun b=>(bif (bif (bif decide (a.2.1=2) then (decide (a.2.2.1.2=(a.2.2.1.1.length:Int))) else false) then (decide (0<a.2.2.1.2)) else false) then b (W (a.2.2.1.2 - 1)) else b a.2.2.1.2))

theorem yG (a:EdQ) (b:P6) (r:EdQ) (h:mH a=some r):
 FC Tryz.prog 155 [.agg (cD a b).toArray] (bP a b []) (fun _:Unit=>True) (fun _=>.agg #[.bool r.1,I r.2.1,sL b.1 a.2.2.1.1 b.2.1,I r.2.2.1.2,I r.2.2.2.1,I (Q4 r).1,I (Q4 r).2.1,I (Q4 r).2.2.1,I (Q4 r).2.2.2.1,I (Q8 r).1,I (Q8 r).2.1,sL b.2.2.1 (Q8 a).2.2.1 b.2.2.2.1,sL (Q4 b).1 (Q8 a).2.2.2.1 (Q4 b).2.1,I (Q12 r).1,sL (Q4 b).2.2.1 (Q12 a).2.1.1 (Q4 b).2.2.2.1,I (Q12 r).2.1.2,sL (Q8 b).1 (Q12 a).2.2.1 (Q8 b).2.1,I (Q12 r).2.2.2.1,sL (Q8 b).2.2.1 (Q16 a).1 (Q8 b).2.2.2,I (Q16 r).2]) (fun _=>[]):= by
 refine FC.of (T:=TTx) Tryz.call155 Tryz.func155 E E fun f=>?_
 unfold mH at h
 refine aM aA 2 [] [7,8] [(1,.bp 7 0),(2,.bp 8 0)] (.new 7 46 (aG a b) (.new 8 46 bA .nil)) ⟨(Es E),(Bs E E)⟩ E E ?_
 obtain ⟨c,d,h⟩:=aN h
 refine bZ (ι:=Int) ⟨fun z=>c z=some r,fun z=>[(1,.bp 7 0),(2,.bp 8 0)],fun z=>(.new 7 46 (aG (a.1,a.2.1,(a.2.2.1.1,z),a.2.2.2) b) (.new 8 46 bA .nil)),fun z=>(bP a b []),fun z=>[],fun z=>0⟩ ?_ ?_
 ·
  refine aC aA 19 [(21,.v (.bool (bif (bif (decide (a.2.1=2)) then (decide (a.2.2.1.2=(a.2.2.1.1.length:Int))) else false) then (decide (0<a.2.2.1.2)) else false)))] ev1 E E ?_
  refine aH E h (fun h=>?_) (fun h=>?_)
  ·
   refine wP aA 7 [(W (a.2.2.1.2 - 1))] [] [] (.new 7 46 (aG (a.1,a.2.1,(a.2.2.1.1,(W (a.2.2.1.2 - 1))),a.2.2.2) b) (.new 8 46 bA .nil)) ⟨ev5,V,(Bs E E)⟩ E E (aQ (W (a.2.2.1.2 - 1)) h (Es E) (Bs E E) [0,1,2,3,4,5] E [] E)
  refine JS.skip (aQ a.2.2.1.2 h (Es E) (Bs E E) [0,1,2,3,4,5] E [] E)
 rintro e h
 subst d
 refine aM aA 2 [] [] [] (.new 8 46 (aG (a.1,a.2.1,(a.2.2.1.1,e),a.2.2.2) b) .nil) ⟨V,(Bs E E)⟩ E E ?_
 cases h
 exact JS.ret aA () V E E [] E

def uG (d:EdQ) (f:List Int×Int) (e:Int):Option (EdQ×Bool):= (aF (oF d) fun g=>(bW ((!g)=false) (dX f) false fun k=>(bif (bif (bif (bif (!g) then true else (!k)) then true else (decide (e<0))) then true else (decide (3<e))) then some ((false,0,([],0),0,0,0,0,0,0,0,[],[],0,([],0),[],0,([],0)),false) else (aF (cA d) fun c=>(aF (eD c) fun b=>(aS (fun (h:List (List Int×Int))=>(aF (dD f) fun i=>(aF (mH (b.1,b.2.1,i,b.2.2.2.1,b.2.2.2.2.1,b.2.2.2.2.2.1,b.2.2.2.2.2.2.1,b.2.2.2.2.2.2.2.1,b.2.2.2.2.2.2.2.2.1,e,c.2.2.2.2.2.2.2.2.2.2.1,h,b.2.2.2.2.2.2.2.2.2.2.2.2.1,(c.2.2.2.2.2.2.2.2.2.2.2.2.2.1.1,b.2.2.2.2.2.2.2.2.2.2.2.2.2.1.2),c.2.2.2.2.2.2.2.2.2.2.2.2.2.2.1,b.2.2.2.2.2.2.2.2.2.2.2.2.2.2.2.1,(c.2.2.2.2.2.2.2.2.2.2.2.2.2.2.2.2.1,b.2.2.2.2.2.2.2.2.2.2.2.2.2.2.2.2.2))) fun a=> some ((a.1,a.2.1,(i.1,a.2.2.1.2),a.2.2.2.1,a.2.2.2.2.1,a.2.2.2.2.2.1,a.2.2.2.2.2.2.1,a.2.2.2.2.2.2.2.1,a.2.2.2.2.2.2.2.2.1,a.2.2.2.2.2.2.2.2.2.1,c.2.2.2.2.2.2.2.2.2.2.1,h,a.2.2.2.2.2.2.2.2.2.2.2.2.1,(c.2.2.2.2.2.2.2.2.2.2.2.2.2.1.1,a.2.2.2.2.2.2.2.2.2.2.2.2.2.1.2),c.2.2.2.2.2.2.2.2.2.2.2.2.2.2.1,a.2.2.2.2.2.2.2.2.2.2.2.2.2.2.2.1,(c.2.2.2.2.2.2.2.2.2.2.2.2.2.2.2.2.1,a.2.2.2.2.2.2.2.2.2.2.2.2.2.2.2.2.2)),true)))) fun j=>(aF (qC d.2.2.1.1 f.1) fun l=>(bif (bif (!l) then (!(bif decide (e=1) then (decide (d.2.2.2.2.2.2.2.2.2.1=1)) else false)) else false) then (aF (sV c.2.2.2.2.2.2.2.2.2.2.2.1 d.2.2.1) fun (m,n)=> j m) else j c.2.2.2.2.2.2.2.2.2.2.2.1))))))))

theorem aOv (f:EdQ) (d:List Int×Int) (k:Int) (e:P6) (i:Option Addr) (j:Nat) (r:EdQ×Bool) (h:uG f d k=some r):
 FC Tryz.prog 254 [.agg (cD f e).toArray,.agg #[sL i d.1 j,I d.2],I k] (bP f e [fI i j d.1]) (fun _:P6=>True) (fun q=>.tuple #[.agg (aG r.1 q).toArray,.bool r.2]) (fun q=>(bP r.1 q [])):= by
 refine FC.of (T:=TTx) Tryz.call254 Tryz.func254 E E fun O=>?_
 unfold uG at h
 refine aM aA 4 [] [8,9,10] [(3,.bp 8 0),(4,.bp 9 0),(6,.bp 10 0)] (.new 8 46 (aG f e) (.new 9 38 [sL i d.1 j,I d.2] (.new 10 46 bA .nil))) ⟨(Es E),(Bs E E)⟩ E E (JS.seq (JS.seq (JS.region (aB aA 1 [] [] [(9,.v (.agg (aG f e).toArray))] _ E ev1 ?_))))
 refine bnw h fun t y h=>JO.call E E E E (wX f e _ y) E [0,1,2,3,4,5] E E fun _ _=>aB aA 3 [] [] [(12,.v (.bool (!t))),(13,.cd [(12,false)] (.v (.agg #[sL i d.1 j,I d.2])))] _ E ⟨(Es E),E⟩ ?_
 obtain ⟨A,B,-,h⟩:=aY h
 refine bL E E E E (fun C=>gD d i j _ (B C)) E [6] E E (aB aA 10 [] [] [(24,.v (.bool (bif (bif (bif (!t) then true else (!A)) then true else (decide (k<0))) then true else (decide (3<k)))))] _ E ev1 (aD E ?_))
 refine aH E h (fun h=>?_) (fun h=>?_)
 ·
  refine aM aA 3 [] [] [(7,.v (.bool false))] (.new 10 46 bA .nil) ⟨ev2,(Bs E E)⟩ E E ?_
  cases h
  refine aZ iT Sl.nil E E (aZ (.sl iT) Sl.nil E E (aZ (.pair (.sl iT) iT) Sl.nil E E (aZ iT Sl.nil E E (aZ iT Sl.nil E E (aZ iT Sl.nil E E (JS.ret aA (none,0,none,0,none,0,none,0,none,0,none,0) V E E [5,4,3,2,1,0] E))))))
 refine JS.skip (JS.seq (JS.region (aB aA 1 [] [] [(26,.v (.agg (aG f e).toArray))] _ E ev1 ?_)))
 refine bnw h fun b D h=>JO.call E E E E (cI f e _ D) E [0,1,2,3,4,5] E E fun c _=>bnw h fun a F h=>JO.call E E E E (nE b c _ F) E [7,8,9,10,11,12] E E fun _ _=>aL aA 2 [] [37] [(8,.bp 37 0)] (.new 8 46 (aG f e) (.new 9 38 [sL i d.1 j,I d.2] (.new 10 46 bA (.new 37 46 (aG (a.1,a.2.1,(b.2.2.1.1,a.2.2.1.2),a.2.2.2.1,(Q4 a).1,(Q4 a).2.1,(Q4 a).2.2.1,(Q4 a).2.2.2.1,(Q8 a).1,(Q8 a).2.1,(Q8 b).2.2.1,(Q8 b).2.2.2.1,(Q12 a).1,((Q12 b).2.1.1,(Q12 a).2.1.2),(Q12 b).2.2.1,(Q12 a).2.2.2.1,((Q16 b).1,(Q16 a).2)) c) .nil)))) E ⟨ev2,(Bs E E)⟩ (aD E ?_)
 obtain ⟨G,H,h⟩:=aN h
 refine bZ (ι:=(List (List Int×Int))×Option Addr×Nat) ⟨fun z=>G z.1=some r,fun z=>[(2,.v (I k)),(4,.bp 9 0),(6,.bp 10 0),(8,.bp 37 0)],fun z=>(.new 9 38 [sL i d.1 j,I d.2] (.new 10 46 bA (.new 37 46 (aG (a.1,a.2.1,(b.2.2.1.1,a.2.2.1.2),a.2.2.2.1,(Q4 a).1,(Q4 a).2.1,(Q4 a).2.2.1,(Q4 a).2.2.2.1,(Q8 a).1,(Q8 a).2.1,(Q8 b).2.2.1,z.1,(Q12 a).1,((Q12 b).2.1.1,(Q12 a).2.1.2),(Q12 b).2.2.1,(Q12 a).2.2.2.1,((Q16 b).1,(Q16 a).2)) (c.1,c.2.1,c.2.2.1,c.2.2.2.1,z.2.1,z.2.2,(Q4 c).2.2)) .nil))),fun z=>[fI i j d.1],fun z=>[⟨(.pair (.sl iT) iT),⟨z.2.1,z.1.length,z.2.2⟩,z.1⟩,fI c.1 c.2.1 b.2.2.1.1,⟨(.sl iT),⟨c.2.2.1,(Q8 b).2.2.1.length,c.2.2.2.1⟩,(Q8 b).2.2.1⟩,fI (Q4 c).2.2.1 (Q4 c).2.2.2.1 (Q12 b).2.1.1,fI (Q8 c).1 (Q8 c).2.1 (Q12 b).2.2.1,fI (Q8 c).2.2.1 (Q8 c).2.2.2 (Q16 b).1],fun z=>0⟩ ?_ ?_
 ·
  refine JS.seq (JS.region (aB aA 5 [] [] [(31,.v (sL e.1 f.2.2.1.1 e.2.1)),(33,.v (sL i d.1 j))] _ E ⟨(Es E),E⟩ ?_))
  refine bnw h fun J K h=>JO.call E E E E (aCk f.2.2.1.1 d.1 e.1 e.2.1 i j _ K) E [0,6] E E fun _ _=>aB aA 11 [] [] [(45,.v (.bool (bif (!J) then (!(bif (decide (k=1)) then (decide ((Q8 f).2.1=1)) else false)) else false)))] _ E ev1 (aD E ?_)
  refine aH E h (fun h=>?_) (fun h=>?_)
  ·
   refine JS.region (aB aA 4 [] [] [(48,.v (.agg #[sL (Q4 c).1 (Q8 b).2.2.2.1 (Q4 c).2.1])),(50,.v (.agg #[sL e.1 f.2.2.1.1 e.2.1,I f.2.2.1.2]))] _ E ⟨(Es E),E⟩ ?_)
   obtain ⟨⟨u,P⟩,L,h⟩:=aE h
   refine JO.call E E E E (aJ3 (Q8 b).2.2.2.1 f.2.2.1 (Q4 c).1 (Q4 c).2.1 e.1 e.2.1 _ L) E [9,0] E E ?_
   rintro ⟨w,x⟩ -
   refine aL aA 5 [] [] [] (.new 9 38 [sL i d.1 j,I d.2] (.new 10 46 bA (.new 37 46 (aG (a.1,a.2.1,(b.2.2.1.1,a.2.2.1.2),a.2.2.2.1,(Q4 a).1,(Q4 a).2.1,(Q4 a).2.2.1,(Q4 a).2.2.2.1,(Q8 a).1,(Q8 a).2.1,(Q8 b).2.2.1,u,(Q12 a).1,((Q12 b).2.1.1,(Q12 a).2.1.2),(Q12 b).2.2.1,(Q12 a).2.2.2.1,((Q16 b).1,(Q16 a).2)) (c.1,c.2.1,c.2.2.1,c.2.2.2.1,w,x,(Q4 c).2.2)) .nil))) E ⟨V,(Bs E E)⟩ (aD E (bT (u,w,x) h (Es E) (Bs E E) [6] E [0,1,2,4,5,6] E E))
  refine JS.skip (bT ((Q8 b).2.2.2.1,(Q4 c).1,(Q4 c).2.1) h (Es E) (Bs E E) [6] E [2,0,1,3,4,5] E E)
 rintro ⟨p,l,m⟩ h
 subst H
 refine JS.seq (JS.region (aB aA 1 [] [] [(55,.v (.agg #[sL i d.1 j,I d.2]))] _ E ev1 ?_))
 refine bnw h fun s M h=>JO.call E E E E (eJ d i j _ M) E [0] E E ?_
 rintro ⟨n,o⟩ -
 refine aL aA 2 [] [] [] (.new 10 46 bA (.new 37 46 (aG (a.1,a.2.1,s,a.2.2.2.1,(Q4 a).1,(Q4 a).2.1,(Q4 a).2.2.1,(Q4 a).2.2.2.1,(Q8 a).1,(Q8 a).2.1,(Q8 b).2.2.1,p,(Q12 a).1,((Q12 b).2.1.1,(Q12 a).2.1.2),(Q12 b).2.2.1,(Q12 a).2.2.2.1,((Q16 b).1,(Q16 a).2)) (n,o,c.2.2.1,c.2.2.2.1,l,m,(Q4 c).2.2)) .nil)) E ⟨V,(Bs E E)⟩ (aD E (aM aA 3 [] [] [] (.new 10 46 bA (.new 37 46 (aG (a.1,a.2.1,s,a.2.2.2.1,(Q4 a).1,(Q4 a).2.1,(Q4 a).2.2.1,(Q4 a).2.2.2.1,(Q8 a).1,k,(Q8 b).2.2.1,p,(Q12 a).1,((Q12 b).2.1.1,(Q12 a).2.1.2),(Q12 b).2.2.1,(Q12 a).2.2.2.1,((Q16 b).1,(Q16 a).2)) (n,o,c.2.2.1,c.2.2.2.1,l,m,(Q4 c).2.2)) .nil)) ⟨V,(Bs E E)⟩ E E (JS.seq (JS.region (aB aA 1 [] [] [(60,.v (.agg (aG (a.1,a.2.1,s,a.2.2.2.1,(Q4 a).1,(Q4 a).2.1,(Q4 a).2.2.1,(Q4 a).2.2.2.1,(Q8 a).1,k,(Q8 b).2.2.1,p,(Q12 a).1,((Q12 b).2.1.1,(Q12 a).2.1.2),(Q12 b).2.2.1,(Q12 a).2.2.2.1,((Q16 b).1,(Q16 a).2)) (n,o,c.2.2.1,c.2.2.2.1,l,m,(Q4 c).2.2)).toArray))] _ E ev1 ?_)))))
 refine bnw h fun g N h=>JO.call E E E E (yG (a.1,a.2.1,s,a.2.2.2.1,(Q4 a).1,(Q4 a).2.1,(Q4 a).2.2.1,(Q4 a).2.2.2.1,(Q8 a).1,k,(Q8 b).2.2.1,p,(Q12 a).1,((Q12 b).2.1.1,(Q12 a).2.1.2),(Q12 b).2.2.1,(Q12 a).2.2.2.1,((Q16 b).1,(Q16 a).2)) (n,o,c.2.2.1,c.2.2.2.1,l,m,(Q4 c).2.2) _ N) E [1,4,2,5,6,7] E E fun _ _=>aL aA 2 [] [] [(7,.v (.bool true))] (.new 10 46 (aG (g.1,g.2.1,(s.1,g.2.2.1.2),g.2.2.2.1,(Q4 g).1,(Q4 g).2.1,(Q4 g).2.2.1,(Q4 g).2.2.2.1,(Q8 g).1,(Q8 g).2.1,(Q8 b).2.2.1,p,(Q12 g).1,((Q12 b).2.1.1,(Q12 g).2.1.2),(Q12 b).2.2.1,(Q12 g).2.2.2.1,((Q16 b).1,(Q16 g).2)) (n,o,c.2.2.1,c.2.2.2.1,l,m,(Q4 c).2.2)) .nil) E ⟨ev2,(Bs E E)⟩ (aD E ?_)
 cases h
 exact JS.ret aA (n,o,c.2.2.1,c.2.2.2.1,l,m,(Q4 c).2.2) V E E [0,2,0,1,1,1] E

def dW (a:EdQ) (b:List Int×Int) (c:Bool) (d:Int):Option (EdQ×Int):= (aF (uG a b d) fun (e,f)=>(bif (bif (!c) then true else (!f)) then (aF (cH a) fun (g,h)=> some (g,h)) else some (e,0)))

theorem jP (a:EdQ) (b:List Int×Int) (g:Bool) (f:Int) (c:P6) (d:Option Addr) (e:Nat) (r:EdQ×Int) (h:dW a b g f=some r):
 FC Tryz.prog 187 [.agg (cD a c).toArray,.agg #[sL d b.1 e,I b.2],.bool g,I f] (bP a c [fI d e b.1]) (fun _:P6=>True) (fun q=>.tuple #[.agg (aG r.1 q).toArray,I r.2]) (fun q=>(bP r.1 q [])):= by
 refine FC.of (T:=TTx) Tryz.call187 Tryz.func187 E E fun s=>?_
 unfold dW at h
 refine aM aA 4 [] [8,9,10] [(4,.bp 8 0),(5,.bp 9 0),(8,.bp 10 0)] (.new 8 46 (aG a c) (.new 9 38 [sL d b.1 e,I b.2] (.new 10 46 bA .nil))) ⟨(Es E),(Bs E E)⟩ E E (JS.seq (JS.region (aB aA 3 [] [] [(13,.v (.agg (aG a c).toArray)),(14,.v (.agg #[sL d b.1 e,I b.2])),(15,.v (I f))] _ E ⟨(Es E),E⟩ ?_)))
 obtain ⟨⟨j,k⟩,m,h⟩:=aE h
 refine JO.call E E E E (aOv a b f c d e _ m) E [0,1,2,3,4,5,6] E E fun i _=>aL aA 6 [] [32] [(10,.bp 32 0),(11,.v (.bool k))] (.new 8 46 (aG a c) (.new 10 46 bA (.new 32 46 (aG j i) .nil))) E ⟨(Es E),(Bs E E)⟩ (aD E (JS.seq (aC aA 6 [(24,.v (.bool (bif (!g) then true else (!k))))] ev1 E E ?_)))
 refine aH E h (fun h=>?_) (fun h=>?_)
 ·
  refine JS.seq (JS.region (aB aA 1 [] [] [(25,.v (.agg (aG a c).toArray))] _ E ev1 ?_))
  obtain ⟨⟨n,o⟩,p,h⟩:=aE h
  refine JO.call E E E E (cO a c _ p) E [0,1,2,3,4,5] E E fun l _=>aL aA 4 [] [] [(9,.v (I o))] (.new 10 46 (aG n l) .nil) E ⟨ev2,(Bs E E)⟩ (aD E ?_)
  cases h
  exact JS.ret aA l V E E [0,0,0,0,0,0] E
 refine JS.skip (aM aA 3 [] [] [(9,.v (I 0))] (.new 10 46 (aG j i) .nil) ⟨ev2,(Bs E E)⟩ E E ?_)
 cases h
 exact JS.ret aA i V E E [0,0,0,0,0,0] E

def xK (a:Int):Option Int:= (bif decide (a=102) then some 0 else (bif decide (a=70) then some 1 else (bif decide (a=116) then some 2 else (bif decide (a=84) then some 3 else some (-1)))))

theorem aF9 (a:Int) (r:Int) (h:xK a=some r) :
 FC Tryz.prog 266 [I a] [] (fun _:Unit=>True) (fun _=>I r) (fun _=>[]):= by
 refine FC.of (T:=TTx) Tryz.call266 Tryz.func266 E E fun b=>?_
 unfold xK at h
 refine aC aA 1 [] ev5 E E (JS.seq (aC aA 1 [(3,.v (I a))] ev1 E E (JS.block (aC aA 2 [(4,.v (.bool (decide (a=102))))] ev1 E E ?_))))
 refine aH E h (fun h=>?_) (fun h=>?_)
 ·
  refine aC aA 1 [(2,.v (I 0))] ev1 E E ?_
  cases h
  exact JS.ret aA () V E E [] E
 refine aC aA 2 [(6,.v (.bool (decide (a=70))))] ev1 E E ?_
 refine aH E h (fun h=>?_) (fun h=>?_)
 ·
  refine aC aA 1 [(2,.v (I 1))] ev1 E E ?_
  cases h
  exact JS.ret aA () V E E [] E
 refine aC aA 2 [(8,.v (.bool (decide (a=116))))] ev1 E E ?_
 refine aH E h (fun h=>?_) (fun h=>?_)
 ·
  refine aC aA 1 [(2,.v (I 2))] ev1 E E ?_
  cases h
  exact JS.ret aA () V E E [] E
 refine aC aA 2 [(10,.v (.bool (decide (a=84))))] ev1 E E ?_
 refine aH E h (fun h=>?_) (fun h=>?_)
 ·
  refine aC aA 1 [(2,.v (I 3))] ev1 E E ?_
  cases h
  exact JS.ret aA () V E E [] E
 refine JS.skip (aV (aC aA 1 [(2,.v (I (-1)))] ev1 E E ?_))
 cases h
 exact JS.ret aA () V E E [] E

def nK (a:Int):Option Int:= (bif decide (a<1) then some 1 else (bif decide (999<a) then some 999 else some a))

theorem aBd (a:Int) (r:Int) (h:nK a=some r) :
 FC Tryz.prog 289 [I a] [] (fun _:Unit=>True) (fun _=>I r) (fun _=>[]):= by
 refine FC.of (T:=TTx) Tryz.call289 Tryz.func289 E E fun b=>?_
 unfold nK at h
 refine aC aA 1 [] ev5 E E (JS.seq (aC aA 2 [(4,.v (.bool (decide (a<1))))] ev1 E E ?_))
 refine aH E h (fun h=>?_) (fun h=>?_)
 ·
  refine aC aA 1 [(2,.v (I 1))] ev1 E E ?_
  cases h
  exact JS.ret aA () V E E [] E
 refine JS.skip (JS.seq (aC aA 2 [(6,.v (.bool (decide (999<a))))] ev1 E E ?_))
 refine aH E h (fun h=>?_) (fun h=>?_)
 ·
  refine aC aA 1 [(2,.v (I 999))] ev1 E E ?_
  cases h
  exact JS.ret aA () V E E [] E
 refine JS.skip (aC aA 2 [(2,.v (I a))] ev1 E E ?_)
 cases h
 exact JS.ret aA () V E E [] E

def cK (c:List Int) (d:Int) (e:Int) (b:Int) (f:Unit→Option Int) (g:Int→Option Int):Int→Option Int:=fun a=>(bif (bif decide (0≤a) then (decide (a<(c.length:Int))) else false) then (aP (((bif decide (0≤(W (a+b))) then (decide ((W (a+b))<(c.length:Int))) else false)=true)→0≤(W (a+b))∧(W (a+b))<(c.length:Int)) <|(bif (bif (bif decide (0≤(W (a+b))) then (decide ((W (a+b))<(c.length:Int))) else false) then (decide ((at' c (W (a+b)))=d)) else false) then some a else g (W (a+e)))) else f ())

def qV (c:List Int) (f:Int) (g:Int) (a:Int):Option Int:= (aF (bV f (c.length:Int)) fun h=>(bif (bif decide (a<0) then true else (decide (3<a))) then some (-1) else (aS (fun (b:Int)=>(aS (fun (i:Int)=>(aS (fun (_:Unit)=> some (-1)) fun j=>(aW (cK c g b i j) bG (W (h+b))))) fun d=>(bif decide (2≤a) then d b else d 0))) fun e=>(bif (bif decide (a=1) then true else (decide (a=3))) then e (-1) else e 1))))

theorem aH0 (a:List Int) (k:Int) (i:Int) (g:Int) (e:Option Addr) (f:Nat) (r:Int) (h:qV a k i g=some r):
 FC Tryz.prog 290 [sL e a f,I k,I i,I g] [fI e f a] (fun _:Unit=>True) (fun _=>I r) (fun _=>[]):= by
 refine FC.of (T:=TTx) Tryz.call290 Tryz.func290 E E fun A=>?_
 unfold qV at h
 refine aC aA 1 [] ev5 E E (JS.seq (JS.region (aB aA 3 [] [] [(13,.v (I k)),(15,.v (I (a.length:Int)))] _ E ⟨(Es E),E⟩ ?_)))
 refine bnw h fun j o h=>JO.call E E E E (bN k (a.length:Int) _ o) E [] E E fun _ _=>aB aA 1 [] [] [(1,.v (I j))] _ E ev1 (aD E (JS.seq (aC aA 6 [(22,.v (.bool (bif (decide (g<0)) then true else (decide (3<g)))))] ev1 E E ?_)))
 refine aH E h (fun h=>?_) (fun h=>?_)
 ·
  refine aC aA 1 [(8,.v (I (-1)))] ev1 E E ?_
  cases h
  exact JS.ret aA () V E E [] E
 refine JS.skip (aC aA 1 [(9,.v (I 1))] ev1 E E (aC aA 1 [(10,.v (I 0))] ev1 E E ?_))
 obtain ⟨p,q,h⟩:=aN h
 refine bZ (ι:=Int) ⟨fun z=>p z=some r,fun z=>[(0,.v (sL e a f)),(1,.v (I j)),(2,.v (I i)),(3,.v (I g)),(9,.v (I z)),(10,.v (I 0))],fun z=>.nil,fun z=>[fI e f a],fun z=>[],fun z=>0⟩ ?_ ?_
 ·
  refine aC aA 6 [(28,.v (.bool (bif (decide (g=1)) then true else (decide (g=3)))))] ev1 E E ?_
  refine aH E h (fun h=>?_) (fun h=>?_)
  ·
   refine eR aA 1 [(9,.v (I (-1)))] ev1 E E (aQ (-1) h (Es E) V [0] E [] E)
  refine JS.skip (aQ 1 h (Es E) V [0] E [] E)
 rintro d h
 subst q
 obtain ⟨s,t,h⟩:=aN h
 refine bZ (ι:=Int) ⟨fun z=>s z=some r,fun z=>[(0,.v (sL e a f)),(1,.v (I j)),(2,.v (I i)),(9,.v (I d)),(10,.v (I z))],fun z=>.nil,fun z=>[fI e f a],fun z=>[],fun z=>0⟩ ?_ ?_
 ·
  refine aC aA 2 [(30,.v (.bool (decide (2≤g))))] ev1 E E ?_
  refine aH E h (fun h=>?_) (fun h=>?_)
  ·
   refine eR aA 2 [(10,.v (I d))] ev1 E E (aQ d h (Es E) V [0] E [] E)
  refine JS.skip (aQ 0 h (Es E) V [0] E [] E)
 rintro c h
 subst t
 refine JS.seq (gH aA 4 [(W (j+d))] [] [(11,.v (I (W (j+d))))] _ ev3 E E ?_)
 obtain ⟨l,u,h⟩:=aN h
 refine aX (ι:=Unit) ⟨fun _=>l ()=some r,fun _=>[],fun _=>.nil,fun _=>[],fun _=>[],fun _=>0⟩ ?_ ?_
 ·
  refine JS.loop (ι:=Nat×Int) ⟨fun z=>aW (cK a i d c l) z.1 z.2=some r,fun z=>[(0,.v (sL e a f)),(2,.v (I i)),(9,.v (I d)),(10,.v (I c)),(11,.v (I z.2))],fun z=>.nil,fun z=>[fI e f a],fun z=>[],fun z=>z.1⟩ (bG,(W (j+d))) h (Es E) V [0] E [] E ?_
  rintro ⟨m,b⟩ h
  obtain ⟨m,rfl,h⟩:=bC h
  rw [cK] at h
  refine JS.seq (aC aA 8 [(42,.v (.bool (bif (decide (0≤b)) then (decide (b<(a.length:Int))) else false)))] ev1 E E ?_)
  refine aH E h (fun h=>?_) (fun h=>?_)
  ·
   refine JS.skip (JS.seq (JS.block (gH aA 4 [(W (b+c))] [] [(12,.v (I (W (b+c))))] _ ev3 E E (JS.seq (JS.region (bJ 0 E fun w=>?_))))))
   obtain ⟨n,h⟩:=aK h
   refine aB aA 12 [] [] [(57,.v (.bool (bif (decide (0≤(W (b+c)))) then (decide ((W (b+c))<(a.length:Int))) else false))),(60,.cd [(57,true)] (.ep ⟨e,a.length,f⟩ (Int.toNat (W (b+c))*1)))] _ E ⟨(fun x=>w.ix (n x)),(Es E),E⟩ (JO.load aA E E E E E E E 0 E E (Int.toNat (W (b+c))) 0 (at' a (W (b+c))) (fun y=>⟨bD (n y),E⟩) E E (aB aA 3 [] [] [(64,.v (.bool (bif (bif (decide (0≤(W (b+c)))) then (decide ((W (b+c))<(a.length:Int))) else false) then (decide ((at' a (W (b+c)))=i)) else false)))] _ E ev1 (aD E ?_)))
   refine aH E h (fun h=>?_) (fun h=>?_)
   ·
    refine aC aA 2 [(8,.v (I b))] ev1 E E ?_
    cases h
    exact JS.ret aA () V E E [] E
   refine JS.skip (aV (bY aA 4 [(W (b+d))] [] [(11,.v (I (W (b+d))))] _ ev3 E E (bR (m,(W (b+d))) h (Nat.lt_succ_self _) (Es E) V [0] E [] E)))
  refine JS.exit E (aQ () h V V [] E [] E)
 rintro _ h
 subst u
 refine aC aA 1 [(8,.v (I (-1)))] ev1 E E ?_
 cases h
 exact JS.ret aA () V E E [] E

def oE (d:List Int) (e:Int) (f:Int) (g:Int) (h:Int→Option (Int×Bool)) (i:(Int×Int)→Option (Int×Bool)):(Int×Int)→Option (Int×Bool):=fun (a,b)=>(aF (nK g) fun j=>(bif decide (b<j) then (aF (qV d a e f) fun c=>(bif decide (c<0) then some ((-1),false) else i (c,(W (b+1))))) else h a))

def pJ (a:List Int) (b:Int) (c:Int) (d:Int) (e:Int):Option (Int×Bool):= (aF (bV b (a.length:Int)) fun f=>(aS (fun (g:Int)=> some (g,true)) fun h=>(aW (oE a c d e h) bG (f,0))))

theorem aEa (a:List Int) (i:Int) (b:Int) (c:Int) (d:Int) (e:Option Addr) (f:Nat) (r:Int×Bool) (h:pJ a i b c d=some r):
 FC Tryz.prog 267 [sL e a f,I i,I b,I c,I d] [fI e f a] (fun _:Unit=>True) (fun _=>.tuple #[I r.1,.bool r.2]) (fun _=>[]):= by
 refine FC.of (T:=TTx) Tryz.call267 Tryz.func267 E E fun w=>?_
 unfold pJ at h
 refine aC aA 2 [] ev5 E E (JS.seq (JS.region (aB aA 3 [] [] [(13,.v (I i)),(15,.v (I (a.length:Int)))] _ E ⟨(Es E),E⟩ ?_)))
 refine bnw h fun l o h=>JO.call E E E E (bN i (a.length:Int) _ o) E [] E E fun _ _=>aB aA 1 [] [] [(1,.v (I l))] _ E ev1 (aD E (JS.seq (aC aA 1 [(12,.v (I 0))] ev1 E E ?_)))
 obtain ⟨m,p,h⟩:=aN h
 refine aX (ι:=Int) ⟨fun z=>m z=some r,fun z=>[(1,.v (I z))],fun z=>.nil,fun z=>[],fun z=>[],fun z=>0⟩ ?_ ?_
 ·
  refine JS.loop (ι:=Nat×Int×Int) ⟨fun z=>aW (oE a b c d m) z.1 z.2=some r,fun z=>[(0,.v (sL e a f)),(1,.v (I z.2.1)),(2,.v (I b)),(3,.v (I c)),(4,.v (I d)),(12,.v (I z.2.2))],fun z=>.nil,fun z=>[fI e f a],fun z=>[],fun z=>z.1⟩ (bG,l,0) h (Es E) V [0] E [] E ?_
  rintro ⟨n,j,g⟩ h
  obtain ⟨n,rfl,h⟩:=bC h
  rw [oE] at h
  refine JS.seq (JS.seq (JS.region (aB aA 2 [] [] [(17,.v (I g)),(18,.v (I d))] _ E ⟨(Es E),E⟩ ?_)))
  refine bnw h fun q s h=>JO.call E E E E (aBd d _ s) E [] E E fun _ _=>aB aA 1 [] [] [(20,.v (.bool (decide (g<q))))] _ E ev1 (aD E ?_)
  refine aH E h (fun h=>?_) (fun h=>?_)
  ·
   refine JS.skip (JS.seq (JS.block (JS.seq (JS.region (aB aA 4 [] [] [(23,.v (sL e a f)),(24,.v (I j)),(25,.v (I b)),(26,.v (I c))] _ E ⟨(Es E),E⟩ ?_)))))
   refine bnw h fun k t h=>JO.call E E E E (aH0 a j b c e f _ t) E [0] E E fun _ _=>aB aA 1 [] [] [(1,.v (I k))] _ E ev1 (aD E (aC aA 2 [(29,.v (.bool (decide (k<0))))] ev1 E E ?_))
   refine aH E h (fun h=>?_) (fun h=>?_)
   ·
    refine aC aA 2 [(10,.v (I (-1))),(11,.v (.bool false))] ⟨(Es E),E⟩ E E ?_
    cases h
    exact JS.ret aA () V E E [] E
   refine JS.skip (aV (bY aA 3 [(W (g+1))] [] [(12,.v (I (W (g+1))))] _ ev3 E E (bR (n,k,(W (g+1))) h (Nat.lt_succ_self _) (Es E) V [0] E [] E)))
  refine JS.exit E (aQ j h ev2 V [] E [] E)
 rintro u h
 subst p
 refine aC aA 3 [(10,.v (I u)),(11,.v (.bool true))] ⟨(Es E),E⟩ E E ?_
 cases h
 exact JS.ret aA () V E E [] E

def gF (a:List Int) (b:List Int) (c:List Int):Option (List Int):= (aP (([]:List Int).length+a.length≤536870912) <|(aP ((([]:List Int) ++ a).length+b.length≤536870912) <|(aP (((([]:List Int) ++ a) ++ b).length+c.length≤536870912) <|some (((([]:List Int) ++ a) ++ b) ++ c))))

theorem nF (a:List Int) (b:List Int) (c:List Int) (d:Option Addr) (e:Nat) (f:Option Addr) (g:Nat) (i:Option Addr) (j:Nat) (r:List Int) (h:gF a b c=some r):
 FC Tryz.prog 82 [sL d a e,sL f b g,sL i c j] [fI d e a,fI f g b,fI i j c] (fun _:Option Addr×Nat=>True) (fun q=>sL q.1 r q.2) (fun q=>[fI q.1 q.2 r]):= by
 refine FC.of (T:=TTx) Tryz.call82 Tryz.func82 E E fun p=>?_
 unfold gF at h
 refine aC aA 1 [] ev5 E E (JS.seq (JS.region ?_))
 refine iY E (JK.buildSlice aA E E E E E E E E E E E [] E iT [] ev9 E E fun s=>iX ?_)
 refine aB aA 1 [] [] [(8,.v (sL d a e))] _ E ev1 ?_
 obtain ⟨m,h⟩:=aK h
 refine fU aA E E E E ⟨E,E,E,E,V,E,E,E,E⟩ E E E [0] E 0 E m E fun t u=>aB aA 1 [] [] [(10,.v (sL f b g))] _ E ev1 ?_
 obtain ⟨n,h⟩:=aK h
 refine fU aA E E E E ⟨E,E,E,E,V,E,E,E,E⟩ E E E [0] E 1 E n E fun w x=>aB aA 1 [] [] [(12,.v (sL i c j))] _ E ev1 ?_
 obtain ⟨o,h⟩:=aK h
 refine fU aA E E E E ⟨E,E,E,E,V,E,E,E,E⟩ E E E [0] E 2 E o E fun k l=>aB aA 1 [] [] [(6,.v (sL k (((([]:List Int) ++ a) ++ b) ++ c) l))] _ E ev1 (aD E ?_)
 cases h
 exact JS.ret aA (k,l) V E E [0] E

def nN (a:List Int×Int) (b:Bool):Option ((List Int×Int)×Bool):= (bW ((!b)=false) (dX a) false fun c=>(bif (bif (!b) then true else (!c)) then some (([],0),false) else some (a,true)))

theorem aBw (a:List Int×Int) (d:Bool) (b:Option Addr) (c:Nat) (r:(List Int×Int)×Bool) (h:nN a d=some r):
 FX Tryz.prog 135 [.agg #[sL b a.1 c,I a.2],.bool d] [] [fI b c a.1] (fun _:Option Addr×Nat=>True) (fun q=>.tuple #[.agg #[sL q.1 r.1.1 q.2,I r.1.2],.bool r.2]) (fun q=>[fI q.1 q.2 r.1.1]):= by
 refine FX.of (T:=TTx) Tryz.call135 Tryz.func135 E E fun i L0=>?_
 unfold nN at h
 refine aM aA 3 [] [2,3] [(2,.bp 2 0),(4,.bp 3 0)] (.new 2 38 [sL b a.1 c,I a.2] (.new 3 38 [.slice none 0 0,I 0] .nil)) ⟨(Es E),(Bs E E)⟩ E E (JS.seq (JS.seq (JS.region (aB aA 4 [] [] [(8,.v (.bool (!d))),(9,.cd [(8,false)] (.v (.agg #[sL b a.1 c,I a.2])))] _ E ⟨(Es E),E⟩ ?_))))
 obtain ⟨e,f,-,h⟩:=aY h
 refine bL E E E E (fun g=>gD a b c _ (f g)) E [0] E E (aB aA 2 [] [] [(12,.v (.bool (bif (!d) then true else (!e))))] _ E ev1 (aD E ?_))
 refine aH E h (fun h=>?_) (fun h=>?_)
 ·
  refine aM aA 3 [] [] [(5,.v (.bool false))] (.new 3 38 [.slice none 0 0,I 0] .nil) ⟨ev2,(Bs E E)⟩ E E ?_
  cases h
  refine aZ iT Sl.nil E E (iM aA (none,0) V E E [0] E)
 refine JS.skip (aM aA 3 [] [] [(5,.v (.bool true))] (.new 3 38 [sL b a.1 c,I a.2] .nil) ⟨ev2,(Bs E E)⟩ E E ?_)
 cases h
 exact iM aA (b,c) V E E [0] E

def pI (a:List Int×Int) (b:Int):Option ((List Int×Int)×Bool):= (aF (gF a.1 ([]:List Int) ([]:List Int)) fun c=>(aF (bV b (a.1.length:Int)) fun d=>(aF (dX a) fun e=>(aF (nN (c,d) e) fun (f,g)=> some (f,g)))))

theorem zU (a:List Int×Int) (d:Int) (b:Option Addr) (c:Nat) (r:(List Int×Int)×Bool) (h:pI a d=some r):
 FC Tryz.prog 242 [.agg #[sL b a.1 c,I a.2],I d] [fI b c a.1] (fun _:Option Addr×Nat=>True) (fun q=>.tuple #[.agg #[sL q.1 r.1.1 q.2,I r.1.2],.bool r.2]) (fun q=>[fI q.1 q.2 r.1.1]):= by
 refine FC.of (T:=TTx) Tryz.call242 Tryz.func242 E E fun u=>?_
 unfold pI at h
 refine aM aA 3 [] [2,3] [(2,.bp 2 0),(4,.bp 3 0)] (.new 2 38 [sL b a.1 c,I a.2] (.new 3 38 [.slice none 0 0,I 0] .nil)) ⟨(Es E),(Bs E E)⟩ E E (JS.seq ?_)
 obtain ⟨i,n,h⟩:=aE h
 obtain ⟨j,o,h⟩:=aE h
 obtain ⟨p,s,h⟩:=aE h
 obtain ⟨⟨e,k⟩,t,h⟩:=aE h
 refine bF E (.new 2 38 [sL b a.1 c,I a.2] .nil) [] [10,11,12,13,14,15] ev4 E (fun w=>?_)
 refine bX aA aJ true 12 [0,1,3,9] E (by kernel_rfl) [] [(7,.v (sL b a.1 c)),(9,.v (I d)),(15,.v (.agg #[sL b a.1 c,I a.2]))] ev4 [] E E (Es E) (aT aA aJ 11 [4] E (by kernel_rfl) [] [(10,.bp 2 0)] E ev2 (bX aA aJ true 9 [5,6] E (by kernel_rfl) [] [(12,.v (I (a.1.length:Int)))] ev4 [] E E ev2 (JA.one 2 (by kernel_rfl) (aC4 iT Sl.nil E E (aC4 iT Sl.nil E E (JK.call E E E E (nF a.1 ([]:List Int) ([]:List Int) b c none 0 none 0 _ n) E [2,1,0] E E ?_))))))
 rintro ⟨l,m⟩ -
 refine aU ev4 [] E (JA.one 7 (by kernel_rfl) (JK.call E E E E (bN d (a.1.length:Int) _ o) E [] E E fun _ _=>aU ev4 [] E (aT aA aJ 6 [8] E (by kernel_rfl) [] [(14,.v (.agg #[sL l i m,I j]))] E ev2 (JA.one 10 (by kernel_rfl) (JK.call E E E E (gD a b c _ s) E [2] E E fun _ _=>aR E (JA.one 11 (by kernel_rfl) (aNt E E E E (aBw (i,j) p l m _ t) E [0] E [] E E ?_)))))))
 rintro ⟨f,g⟩ -
 refine aR E (aT aA aJ 2 [12,13] E (by kernel_rfl) [] [(18,.v (.agg #[sL f e.1 g,I e.2])),(19,.v (.bool k))] E (Es E) (JA.one 14 (by kernel_rfl) (bH aA E E E E E E E E (aR E (aT aA aJ 0 [15] E (by kernel_rfl) [] [(5,.v (.bool k))] E ev2 (bM (by kernel_rfl) (bE (B':=(.new 3 38 [sL f e.1 g,I e.2] .nil)) (Bs E E) ?_)))))))
 cases h
 exact JS.ret aA (f,g) V E E [0] E

def gK (a:EdQ) (b:Int):Option (EdQ×Int):= (aF (pI a.2.2.1 b) fun (c,d)=>(aF (dW a c d 0) fun (e,f)=> some (e,f)))

theorem pA (a:EdQ) (d:Int) (b:P6) (r:EdQ×Int) (h:gK a d=some r):
 FC Tryz.prog 162 [.agg (cD a b).toArray,I d] (bP a b []) (fun _:P6=>True) (fun q=>.tuple #[.agg (aG r.1 q).toArray,I r.2]) (fun q=>(bP r.1 q [])):= by
 refine FC.of (T:=TTx) Tryz.call162 Tryz.func162 E E fun n=>?_
 unfold gK at h
 refine aM aA 3 [] [7,8] [(2,.bp 7 0),(4,.bp 8 0)] (.new 7 46 (aG a b) (.new 8 46 bA .nil)) ⟨(Es E),(Bs E E)⟩ E E (JS.seq (JS.region (aB aA 3 [] [] [(10,.v (.agg #[sL b.1 a.2.2.1.1 b.2.1,I a.2.2.1.2])),(11,.v (I d))] _ E ⟨(Es E),E⟩ ?_)))
 obtain ⟨⟨c,e⟩,j,h⟩:=aE h
 refine JO.call E E E E (zU a.2.2.1 d b.1 b.2.1 _ j) E [0] E E ?_
 rintro ⟨f,g⟩ -
 refine aL aA 6 [] [15] [(6,.bp 15 0),(7,.v (.bool e))] (.new 7 46 (aG a b) (.new 8 46 bA (.new 15 38 [sL f c.1 g,I c.2] .nil))) E ⟨(Es E),(Bs E E)⟩ (aD E (JS.seq (JS.region (aB aA 3 [] [] [(15,.v (.agg (aG a b).toArray)),(16,.v (.agg #[sL f c.1 g,I c.2])),(17,.v (.bool e))] _ E ⟨(Es E),E⟩ ?_))))
 obtain ⟨⟨k,l⟩,m,h⟩:=aE h
 refine JO.call E E E E (jP a c e 0 b f g _ m) E [0,1,2,3,4,5,6] E E fun i _=>aL aA 4 [] [] [(5,.v (I l))] (.new 8 46 (aG k i) .nil) E ⟨ev2,(Bs E E)⟩ (aD E ?_)
 cases h
 exact JS.ret aA i V E E [0,0,0,0,0,0] E

def aAv (a:List Int) (g:Int) (h:Int) (i:Bool):Option (Int×Int):= (aF (bV g (a.length:Int)) fun b=>(aF (bV h (a.length:Int)) fun c=>(aS (fun ((j,d):Int×Int)=>(aS (fun (k:Int)=> some (j,k)) fun e=>(bif (bif i then (decide (d<(a.length:Int))) else false) then e (W (d+1)) else e d))) fun f=>(bif decide (c<b) then f (c,b) else f (b,c)))))

theorem aRc (a:List Int) (e:Int) (f:Int) (g:Bool) (i:Option Addr) (j:Nat) (r:Int×Int) (h:aAv a e f g=some r):
 FC Tryz.prog 294 [sL i a j,I e,I f,.bool g] [fI i j a] (fun _:Unit=>True) (fun _=>.tuple #[I r.1,I r.2]) (fun _=>[]):= by
 refine FC.of (T:=TTx) Tryz.call294 Tryz.func294 E E fun t=>?_
 unfold aAv at h
 refine aC aA 2 [] ev5 E E (JS.seq (JS.region (aB aA 3 [] [] [(11,.v (I e)),(13,.v (I (a.length:Int)))] _ E ⟨(Es E),E⟩ ?_)))
 refine bnw h fun b l h=>JO.call E E E E (bN e (a.length:Int) _ l) E [] E E fun _ _=>aB aA 1 [] [] [(1,.v (I b))] _ E ev1 (aD E (JS.seq (JS.region (aB aA 3 [] [] [(15,.v (I f)),(17,.v (I (a.length:Int)))] _ E ⟨(Es E),E⟩ ?_))))
 refine bnw h fun c m h=>JO.call E E E E (bN f (a.length:Int) _ m) E [] E E fun _ _=>aB aA 1 [] [] [(2,.v (I c))] _ E ev1 (aD E ?_)
 obtain ⟨n,o,h⟩:=aN h
 refine bZ (ι:=Int×Int) ⟨fun z=>n z=some r,fun z=>[(0,.v (sL i a j)),(1,.v (I z.1)),(2,.v (I z.2)),(3,.v (.bool g))],fun z=>.nil,fun z=>[fI i j a],fun z=>[],fun z=>0⟩ ?_ ?_
 ·
  refine aC aA 3 [(21,.v (.bool (decide (c<b))))] ev1 E E ?_
  refine aH E h (fun h=>?_) (fun h=>?_)
  ·
   refine aC aA 2 [(10,.v (I b))] ev1 E E (aC aA 2 [(1,.v (I c))] ev1 E E (eR aA 2 [(2,.v (I b))] ev1 E E (aQ (c,b) h (Es E) V [0] E [] E)))
  refine JS.skip (aQ (b,c) h (Es E) V [0] E [] E)
 rintro ⟨k,d⟩ h
 subst o
 obtain ⟨p,q,h⟩:=aN h
 refine bZ (ι:=Int) ⟨fun z=>p z=some r,fun z=>[(1,.v (I k)),(2,.v (I z))],fun z=>.nil,fun z=>[],fun z=>[],fun z=>0⟩ ?_ ?_
 ·
  refine aC aA 7 [(31,.v (.bool (bif g then (decide (d<(a.length:Int))) else false)))] ev1 E E ?_
  refine aH E h (fun h=>?_) (fun h=>?_)
  ·
   refine bY aA 3 [(W (d+1))] [] [(2,.v (I (W (d+1))))] _ ev3 E E (aQ (W (d+1)) h (Es E) V [] E [] E)
  refine JS.skip (aQ d h (Es E) V [] E [] E)
 rintro s h
 subst q
 refine aC aA 4 [(8,.v (I k)),(9,.v (I s))] ⟨(Es E),E⟩ E E ?_
 cases h
 exact JS.ret aA () V E E [] E

def sU (a:List Int×Int) (b:Int) (c:Int):Option Bool:= (aF (dX a) fun d=> some (bif (bif (bif d then (decide (0≤b)) else false) then (decide (b≤c)) else false) then (decide (c≤(a.1.length:Int))) else false))

theorem aJ2 (a:List Int×Int) (d:Int) (e:Int) (b:Option Addr) (c:Nat) (r:Bool) (h:sU a d e=some r):
 FC Tryz.prog 253 [.agg #[sL b a.1 c,I a.2],I d,I e] [fI b c a.1] (fun _:Unit=>True) (fun _=>.bool r) (fun _=>[]):= by
 refine FC.of (T:=TTx) Tryz.call253 Tryz.func253 E E fun i=>?_
 unfold sU at h
 refine aM aA 2 [] [2] [(3,.bp 2 0)] (.new 2 38 [sL b a.1 c,I a.2] .nil) ⟨ev2,(Bs E E)⟩ E E (JS.seq (JS.region (aB aA 1 [] [] [(7,.v (.agg #[sL b a.1 c,I a.2]))] _ E ev1 ?_)))
 refine bnw h fun f g h=>JO.call E E E E (gD a b c _ g) E [0] E E fun _ _=>aB aA 17 [] [] [(6,.v (.bool (bif (bif (bif f then (decide (0≤d)) else false) then (decide (d≤e)) else false) then (decide (e≤(a.1.length:Int))) else false)))] _ E ev1 (aD E ?_)
 cases h
 exact JS.ret aA () V E E [] E

def jU (a:List Int×Int) (b:Int) (c:Int):Option ((List Int×Int)×List Int×Bool):= (aF (sU a b c) fun e=>(bif (!e) then some (([],0),[],false) else (aS (fun (f:Int)=>(aP (0≤(0:Int)∧(0:Int)≤b∧b≤(a.1.length:Int)) <|(aP (0≤c∧c≤(a.1.length:Int)∧(a.1.length:Int)≤(a.1.length:Int)) <|(aF (gF (bU a.1 (0:Int) b) ([]:List Int) (bU a.1 c (a.1.length:Int))) fun g=>(aP (0≤b∧b≤c∧c≤(a.1.length:Int)) <|(aF (gF ([]:List Int) (bU a.1 b c) ([]:List Int)) fun h=> some ((g,f),h,true))))))) fun d=>(bif decide (c≤a.2) then d (W (a.2 - (W (c - b)))) else (bif decide (b<a.2) then d b else d a.2)))))

theorem fL (a:List Int×Int) (b:Int) (c:Int) (d:Option Addr) (e:Nat) (r:(List Int×Int)×List Int×Bool) (h:jU a b c=some r):
 FC Tryz.prog 186 [.agg #[sL d a.1 e,I a.2],I b,I c] [fI d e a.1] (fun _:Option Addr×Nat×Option Addr×Nat=>True) (fun q=>.tuple #[.agg #[sL q.1 r.1.1 q.2.1,I r.1.2],sL q.2.2.1 r.2.1 q.2.2.2,.bool r.2.2]) (fun q=>[fI q.1 q.2.1 r.1.1,fI q.2.2.1 q.2.2.2 r.2.1]):= by
 refine FC.of (T:=TTx) Tryz.call186 Tryz.func186 E E fun M=>?_
 unfold jU at h
 refine aM aA 4 [] [2,3] [(3,.bp 2 0),(6,.bp 3 0)] (.new 2 38 [sL d a.1 e,I a.2] (.new 3 38 [.slice none 0 0,I 0] .nil)) ⟨(Es E),(Bs E E)⟩ E E (JS.seq (JS.seq (JS.region (aB aA 3 [] [] [(10,.v (.agg #[sL d a.1 e,I a.2])),(11,.v (I b)),(12,.v (I c))] _ E ⟨(Es E),E⟩ ?_))))
 refine bnw h fun s t h=>JO.call E E E E (aJ2 a b c d e _ t) E [0] E E fun _ _=>aB aA 1 [] [] [(14,.v (.bool (!s)))] _ E ev1 (aD E ?_)
 refine aH E h (fun h=>?_) (fun h=>?_)
 ·
  refine aM aA 4 [] [] [(7,.v (.slice none 0 0)),(8,.v (.bool false))] (.new 3 38 [.slice none 0 0,I 0] .nil) ⟨(Es E),(Bs E E)⟩ E E ?_
  cases h
  refine aZ iT Sl.nil E E (aZ iT Sl.nil E E (JS.ret aA (none,0,none,0) V E E [1,0] E))
 refine JS.skip (aC aA 3 [(9,.v (I a.2))] ev1 E E ?_)
 obtain ⟨u,w,h⟩:=aN h
 refine bZ (ι:=Int) ⟨fun z=>u z=some r,fun z=>[(1,.v (I b)),(2,.v (I c)),(3,.bp 2 0),(6,.bp 3 0),(9,.v (I z))],fun z=>(.new 2 38 [sL d a.1 e,I a.2] (.new 3 38 [.slice none 0 0,I 0] .nil)),fun z=>[fI d e a.1],fun z=>[],fun z=>0⟩ ?_ ?_
 ·
  refine aC aA 3 [(20,.v (.bool (decide (c≤a.2))))] ev1 E E ?_
  refine aH E h (fun h=>?_) (fun h=>?_)
  ·
   refine bY aA 6 [(W (c - b)),(W (a.2 - (W (c - b))))] [] [(9,.v (I (W (a.2 - (W (c - b))))))] _ ⟨⟨V,E⟩,⟨V,E⟩,⟨E,V⟩,E⟩ E E (aQ (W (a.2 - (W (c - b)))) h (Es E) (Bs E E) [0] E [] E)
  refine aC aA 3 [(28,.v (.bool (decide (b<a.2))))] ev1 E E ?_
  refine aH E h (fun h=>?_) (fun h=>?_)
  ·
   refine eR aA 2 [(9,.v (I b))] ev1 E E (aQ b h (Es E) (Bs E E) [0] E [] E)
  refine JS.skip (aQ a.2 h (Es E) (Bs E E) [0] E [] E)
 rintro j h
 subst w
 refine JS.seq ?_
 obtain ⟨f,h⟩:=aK h
 obtain ⟨g,h⟩:=aK h
 obtain ⟨n,x,h⟩:=aE h
 obtain ⟨i,h⟩:=aK h
 refine bnw h fun y A h=>oX 0 E (0:Int) b fun B C D=>oX 1 E c (a.1.length:Int) fun F G H=>oX 2 E b c fun J K L=>cV 3 E fun k=>?_
 refine bF E (.new 2 38 [sL d a.1 e,I a.2] .nil) [] [16,17,18,19] ev4 E (fun N=>?_)
 refine bX aA aJ true 10 [0,1,2,4,5,6,11,12,13,14] E (by kernel_rfl) [] [(31,.v (sL d a.1 e)),(32,.v (I b)),(35,.v (sL d a.1 e)),(36,.v (I c)),(42,.v (sL d a.1 e)),(43,.v (I b)),(44,.v (I c))] ev4 [] E E (Es E) (aT aA aJ 9 [9] E (by kernel_rfl) [] [(39,.v (I j))] E ev2 (gN aA aJ 3 E (by kernel_rfl) E E E E E E (0:Int) b E E ⟨f.1,f.2.1,f.2.2,k.cap,D f⟩ E (gN aA aJ 7 E (by kernel_rfl) E E E E E E c (a.1.length:Int) E E ⟨g.1,g.2.1,g.2.2,k.cap,H g⟩ E (gN aA aJ 15 E (by kernel_rfl) E E E E E E b c E E ⟨i.1,i.2.1,i.2.2,k.cap,L i⟩ E (JA.one 8 (by kernel_rfl) (aC4 iT Sl.nil E E (JK.call E E E E (nF (bU a.1 (0:Int) b) ([]:List Int) (bU a.1 c (a.1.length:Int)) B C none 0 F G _ x) E [3,0,2] E E ?_)))))))
 rintro ⟨l,m⟩ -
 refine aU ev4 [] E (aT aA aJ 4 [10] E (by kernel_rfl) [] [(40,.v (.agg #[sL l n m,I j]))] E ev2 (JA.one 16 (by kernel_rfl) (aC4 iT Sl.nil E E (aC4 iT Sl.nil E E (JK.call E E E E (nF ([]:List Int) (bU a.1 b c) ([]:List Int) none 0 J K none 0 _ A) E [1,3,0] E E ?_)))))
 rintro ⟨o,p⟩ -
 refine aR E (JA.one 17 (by kernel_rfl) (bH aA E E E E E E E E (aR E (aT aA aJ 0 [18,19] E (by kernel_rfl) [] [(7,.v (sL o y p)),(8,.v (.bool true))] E (Es E) (bM (by kernel_rfl) (bE (B':=(.new 3 38 [sL l n m,I j] .nil)) (Bs E E) ?_))))))
 cases h
 exact JS.ret aA (l,m,o,p) V E E [1,0] E

def uW (a:EdQ) (b:Int) (c:Int):Option Bool:= (aF (jU a.2.2.1 b c) fun (e,f,d)=> some d)

theorem aL8 (a:EdQ) (c:Int) (d:Int) (b:P6) (r:Bool) (h:uW a c d=some r):
 FC Tryz.prog 273 [.agg (cD a b).toArray,I c,I d] (bP a b []) (fun _:Unit=>True) (fun _=>.bool r) (fun _=>[]):= by
 refine FC.of (T:=TTx) Tryz.call273 Tryz.func273 E E fun g=>?_
 unfold uW at h
 refine aM aA 2 [] [7] [(3,.bp 7 0)] (.new 7 46 (aG a b) .nil) ⟨ev2,(Bs E E)⟩ E E (JS.seq (JS.region (aB aA 4 [] [] [(12,.v (.agg #[sL b.1 a.2.2.1.1 b.2.1,I a.2.2.1.2])),(13,.v (I c)),(14,.v (I d))] _ E ⟨(Es E),E⟩ ?_)))
 obtain ⟨⟨i,j,e⟩,f,h⟩:=aE h
 refine JO.call E E E E (fL a.2.2.1 c d b.1 b.2.1 _ f) E [0] E E ?_
 rintro ⟨k,l,m,n⟩ -
 refine aL aA 8 [] [18] [(7,.bp 18 0),(9,.v (.bool e))] .nil E ⟨(Es E),V⟩ (aD E (aC aA 2 [(6,.v (.bool e))] ev1 E E ?_))
 cases h
 exact JS.ret aA () V E E [] E

def dT (e:EdQ) (b:Int):Option (EdQ×Int):= (aF (gK e b) fun (a,c)=>(aS (fun ((f,g):Int×Int)=> some ((a.1,f,(a.2.2.1.1,g),a.2.2.2.1,a.2.2.2.2.1,a.2.2.2.2.2.1,a.2.2.2.2.2.2.1,a.2.2.2.2.2.2.2.1,a.2.2.2.2.2.2.2.2.1,a.2.2.2.2.2.2.2.2.2.1,a.2.2.2.2.2.2.2.2.2.2.1,a.2.2.2.2.2.2.2.2.2.2.2.1,a.2.2.2.2.2.2.2.2.2.2.2.2.1,a.2.2.2.2.2.2.2.2.2.2.2.2.2.1,a.2.2.2.2.2.2.2.2.2.2.2.2.2.2.1,a.2.2.2.2.2.2.2.2.2.2.2.2.2.2.2.1,a.2.2.2.2.2.2.2.2.2.2.2.2.2.2.2.2),c)) fun d=>(bif decide (c=0) then (aF (bV b (a.2.2.1.1.length:Int)) fun h=> d (1,h)) else d (a.2.1,a.2.2.1.2))))

theorem lY (c:EdQ) (d:Int) (e:P6) (r:EdQ×Int) (h:dT c d=some r):
 FC Tryz.prog 274 [.agg (cD c e).toArray,I d] (bP c e []) (fun _:P6=>True) (fun q=>.tuple #[.agg (aG r.1 q).toArray,I r.2]) (fun q=>(bP r.1 q [])):= by
 refine FC.of (T:=TTx) Tryz.call274 Tryz.func274 E E fun o=>?_
 unfold dT at h
 refine aM aA 3 [] [7,8] [(2,.bp 7 0),(4,.bp 8 0)] (.new 7 46 (aG c e) (.new 8 46 bA .nil)) ⟨(Es E),(Bs E E)⟩ E E (JS.seq (JS.region (aB aA 2 [] [] [(9,.v (.agg (aG c e).toArray)),(10,.v (I d))] _ E ⟨(Es E),E⟩ ?_)))
 obtain ⟨⟨a,f⟩,i,h⟩:=aE h
 refine JO.call E E E E (pA c d e _ i) E [0,1,2,3,4,5] E E fun b _=>aL aA 6 [] [30] [(6,.bp 30 0),(7,.v (I f))] (.new 8 46 bA (.new 30 46 (aG a b) .nil)) E ⟨(Es E),(Bs E E)⟩ (aD E ?_)
 obtain ⟨j,k,h⟩:=aN h
 refine bZ (ι:=Int×Int) ⟨fun z=>j z=some r,fun z=>[(4,.bp 8 0),(6,.bp 30 0),(7,.v (I f))],fun z=>(.new 8 46 bA (.new 30 46 (aG (a.1,z.1,(a.2.2.1.1,z.2),a.2.2.2) b) .nil)),fun z=>[],fun z=>(bP a b []),fun z=>0⟩ ?_ ?_
 ·
  refine aC aA 2 [(15,.v (.bool (decide (f=0))))] ev1 E E ?_
  refine aH E h (fun h=>?_) (fun h=>?_)
  ·
   refine aM aA 2 [] [] [] (.new 8 46 bA (.new 30 46 (aG (a.1,1,a.2.2) b) .nil)) ⟨V,(Bs E E)⟩ E E (JS.region (aB aA 5 [] [] [(17,.v (I d)),(21,.v (I (a.2.2.1.1.length:Int)))] _ E ⟨(Es E),E⟩ ?_))
   obtain ⟨g,l,h⟩:=aE h
   refine JO.call E E E E (bN d (a.2.2.1.1.length:Int) _ l) E [] E E fun _ _=>aL aA 3 [] [] [] (.new 8 46 bA (.new 30 46 (aG (a.1,1,(a.2.2.1.1,g),a.2.2.2) b) .nil)) E ⟨V,(Bs E E)⟩ (aD E (bT (1,g) h (Es E) (Bs E E) [] E [0,1,2,3,4,5] E E))
  refine JS.skip (bT (a.2.1,a.2.2.1.2) h (Es E) (Bs E E) [] E [0,1,2,3,4,5] E E)
 rintro ⟨m,n⟩ h
 subst k
 refine aM aA 4 [] [] [(5,.v (I f))] (.new 8 46 (aG (a.1,m,(a.2.2.1.1,n),a.2.2.2) b) .nil) ⟨ev2,(Bs E E)⟩ E E ?_
 cases h
 exact JS.ret aA b V E E [0,0,0,0,0,0] E

def qE (b:List (List Int)) (a:List Int) (d:Int):Option (List (List Int)×Bool):= (aF (pH b) fun e=>(bW ((bif (bif (!e) then true else (decide (d<0))) then true else (decide (2<d)))=false) (iB a) false fun h=>(bif (bif (bif (bif (!e) then true else (decide (d<0))) then true else (decide (2<d))) then true else (!h)) then some ([],false) else (aF (qD b) fun c=>(bif decide ((a.length:Int)=0) then some (c,true) else (aP (((bif (!(decide (d=0))) then (decide (0<(b.length:Int))) else false)=true)→0≤(0:Int)∧0<(b.length:Int)) <|(bif (bif (bif (!(decide (d=0))) then (decide (0<(b.length:Int))) else false) then (decide ((W (((at' b 0).length:Int)+(a.length:Int)))≤400)) else false) then (aP (0≤(0:Int)∧0<(b.length:Int)) <|(aF (gF (at' b 0) a ([]:List Int)) fun i=>(aS (fun (j:List Int)=>(aP (0≤(0:Int)∧0<(c.length:Int)) <|some ((List.set c (Int.toNat 0) j),true))) fun f=>(bif decide (d=2) then (aP (0≤(0:Int)∧0<(b.length:Int)) <|(aF (gF a (at' b 0) ([]:List Int)) fun k=> f k)) else f i)))) else (aP (([]:List Int).length+a.length≤536870912) <|(aP (([(([]:List Int) ++ a)]:List (List Int)).length+c.length≤536870912) <|(aS (fun (l:List (List Int))=> some (l,true)) fun g=>(bif (decide (6<((([(([]:List Int) ++ a)]:List (List Int)) ++ c).length:Int))) then (aP (0≤(0:Int)∧(0:Int)≤(6:Int)∧(6:Int)≤((([(([]:List Int) ++ a)]:List (List Int)) ++ c).length:Int)) <|g (bU (([(([]:List Int) ++ a)]:List (List Int)) ++ c) 0 (6:Int))) else g (([(([]:List Int) ++ a)]:List (List Int)) ++ c))))))))))))

theorem aCm (a:List (List Int)) (b:List Int) (i:Int) (d:Option Addr) (e:Nat) (j:Option Addr) (k:Nat) (r:List (List Int)×Bool) (h:qE a b i=some r):
 FC Tryz.prog 174 [.agg #[sL d a e],sL j b k,I i] [⟨(.sl iT),⟨d,a.length,e⟩,a⟩,fI j k b] (fun _:Option Addr×Nat=>True) (fun q=>.tuple #[.agg #[sL q.1 r.1 q.2],.bool r.2]) (fun q=>[⟨(.sl iT),⟨q.1,r.1.length,q.2⟩,r.1⟩]):= by
 refine FC.of (T:=TTx) Tryz.call174 Tryz.func174 E E fun w0=>?_
 unfold qE at h
 refine aM aA 3 [] [3,4] [(3,.bp 3 0),(6,.bp 4 0)] (.new 3 41 [sL d a e] (.new 4 41 [.slice none 0 0] .nil)) ⟨(Es E),(Bs E E)⟩ E E (JS.seq (JS.seq (JS.region (aB aA 1 [] [] [(11,.v (.agg #[sL d a e]))] _ E ev1 ?_))))
 refine bnw h fun y P h=>JO.call E E E E (zT a d e _ P) E [0] E E fun _ _=>aB aA 11 [] [] [(22,.v (.bool (bif (bif (!y) then true else (decide (i<0))) then true else (decide (2<i))))),(23,.cd [(22,false)] (.v (sL j b k)))] _ E ⟨(Es E),E⟩ ?_
 obtain ⟨Q,R,-,h⟩:=aY h
 refine bL E E E E (fun S=>aBg b j k _ (R S)) E [1] E E (aB aA 2 [] [] [(26,.v (.bool (bif (bif (bif (!y) then true else (decide (i<0))) then true else (decide (2<i))) then true else (!Q))))] _ E ev1 (aD E ?_))
 refine aH E h (fun h=>?_) (fun h=>?_)
 ·
  refine aM aA 3 [] [] [(7,.v (.bool false))] (.new 4 41 [.slice none 0 0] .nil) ⟨ev2,(Bs E E)⟩ E E ?_
  cases h
  refine aZ (.sl iT) Sl.nil E E (JS.ret aA (none,0) V E E [0] E)
 refine JS.skip (JS.seq (JS.region (aB aA 1 [] [] [(28,.v (.agg #[sL d a e]))] _ E ev1 ?_)))
 refine bnw h fun c U h=>JO.call E E E E (aCl a d e _ U) E [0] E E ?_
 rintro ⟨f,g⟩ -
 refine aL aA 2 [] [14] [(8,.bp 14 0)] (.new 3 41 [sL d a e] (.new 4 41 [.slice none 0 0] (.new 14 41 [sL f c g] .nil))) E ⟨ev2,(Bs E E)⟩ (aD E (JS.seq (aC aA 3 [(32,.v (.bool (decide ((b.length:Int)=0))))] ev1 E E ?_)))
 refine aH E h (fun h=>?_) (fun h=>?_)
 ·
  refine aM aA 3 [] [] [(7,.v (.bool true))] (.new 4 41 [sL f c g] .nil) ⟨ev2,(Bs E E)⟩ E E ?_
  cases h
  exact JS.ret aA (f,g) V E E [0] E
 refine JS.skip (JS.seq (JS.seq (JS.region (bJ 0 E fun l=>?_))))
 obtain ⟨o,h⟩:=aK h
 refine aB aA 13 [] [] [(42,.v (.bool (bif (!(decide (i=0))) then (decide (0<(a.length:Int))) else false))),(46,.cd [(42,true)] (.ep ⟨d,a.length,e⟩ (Int.toNat 0*1)))] _ E ⟨(fun X=>l.ix (o X)),(fun Y=>l.fa (o Y)),(Es E),E⟩ (fS 0 E (Int.toNat 0) (at' a 0) E fun m n b6 b7 p=>cN aA E E E E E E 0 E E (Int.toNat 0) 0 (Sl.v ⟨m,(at' a 0).length,n⟩) (fun Z=>⟨p (lR (o Z)),E⟩) E E E (aB aA 6 [(W (((at' a 0).length:Int)+(b.length:Int)))] [] [(53,.v (.bool (bif (bif (!(decide (i=0))) then (decide (0<(a.length:Int))) else false) then (decide ((W (((at' a 0).length:Int)+(b.length:Int)))≤400)) else false)))] _ E ⟨(fun b8=>ev5),ev2,E⟩ (aD E ?_)))
 refine aH E h (fun h=>?_) (fun h=>?_)
 ·
  refine JS.seq (JS.region ?_)
  obtain ⟨s,h⟩:=aK h
  refine aB aA 4 [] [] [(57,.ep ⟨d,a.length,e⟩ (Int.toNat 0*1))] _ E ⟨l.ix s,l.fa s,ev2,E⟩ (cN aA E E E E E E 0 E E (Int.toNat 0) 0 (Sl.v ⟨m,(at' a 0).length,n⟩) ⟨p (lR s),E⟩ E E E (aB aA 1 [] [] [(59,.v (sL j b k))] _ E ev1 ?_))
  refine bnw h fun A a0 h=>aE8 iT Sl.nil E E (JO.call E E E E (nF (at' a 0) b ([]:List Int) m n j k none 0 _ a0) E [2,4,0] E E ?_)
  rintro ⟨B,C⟩ -
  refine aB aA 1 [] [] [(9,.v (sL B A C))] _ E ev1 (aD E ?_)
  obtain ⟨a1,a2,h⟩:=aN h
  refine bZ (ι:=List Int×Option Addr×Nat) ⟨fun z=>a1 z.1=some r,fun z=>[(6,.bp 4 0),(8,.bp 14 0),(9,.v (sL z.2.1 z.1 z.2.2))],fun z=>(.new 4 41 [.slice none 0 0] (.new 14 41 [sL f c g] .nil)),fun z=>[],fun z=>[fI z.2.1 z.2.2 z.1,⟨(.sl iT),⟨f,c.length,g⟩,c⟩],fun z=>0⟩ ?_ ?_
  ·
   refine aC aA 2 [(62,.v (.bool (decide (i=2))))] ev1 E E ?_
   refine aH E h (fun h=>?_) (fun h=>?_)
   ·
    refine JS.region ?_
    obtain ⟨t,h⟩:=aK h
    refine aB aA 5 [] [] [(63,.v (sL j b k)),(67,.ep ⟨d,a.length,e⟩ (Int.toNat 0*1))] _ E ⟨l.ix t,l.fa t,(Es E),E⟩ (cN aA E E E E E E 1 E E (Int.toNat 0) 0 (Sl.v ⟨m,(at' a 0).length,n⟩) ⟨p (lR t),E⟩ E E E ?_)
    refine bnw h fun D a3 h=>aE8 iT Sl.nil E E (JO.call E E E E (nF b (at' a 0) ([]:List Int) j k m n none 0 _ a3) E [5,3,0] E E ?_)
    rintro ⟨F,G⟩ -
    refine aB aA 1 [] [] [(9,.v (sL F D G))] _ E ev1 (aD E (aQ (D,F,G) h (Es E) (Bs E E) [] E [0,1] E))
   refine JS.skip (aQ (A,B,C) h (Es E) (Bs E E) [] E [0,0] E)
  rintro ⟨u,H,J⟩ h
  subst a2
  refine JS.seq (JS.region (bJ 1 E fun a5=>?_))
  obtain ⟨K,h⟩:=aK h
  refine aB aA 5 [] [] [(73,.v (.agg #[sL H u J])),(74,.ep ⟨f,c.length,g⟩ (Int.toNat 0*1))] _ E ⟨a5.ix K,(Es E),E⟩ (gY aA E E E E E E E E E [1,0] (fs:=[fI H J u]) E (Int.toNat 0) 0 (at' c 0) u ⟨bD K,E⟩ ⟨E,E,E,E⟩ (aD E (aM aA 3 [] [] [(7,.v (.bool true))] (.new 4 41 [sL f c g] .nil) ⟨ev2,(Bs E E)⟩ E E ?_)))
  cases h
  exact JS.ret aA (f,g) V E (by simp only [List.length_set,List.length_replicate,cF,eU,sL,fI,rM,rL];rfl) [0] (by simp only [List.length_set,List.length_replicate,cF,eU,sL,fI,rM,rL];rfl)
 refine JS.skip (JS.seq ?_)
 obtain ⟨a6,h⟩:=aK h
 obtain ⟨a7,h⟩:=aK h
 refine bF E (.new 14 41 [sL f c g] .nil) [] [7,8] ev4 E (fun b9=>?_)
 refine bX aA aJ true 6 [1,5,6] E (by kernel_rfl) [] [(77,.v (sL j b k)),(82,.v (sL f c g))] ev4 [] E E (Es E) (JA.one 0 (by kernel_rfl) (JK.buildSlice aA E E E E E E E E E E E [] E iT [] ev9 E E fun c0=>aU ev4 [] E (JA.one 2 (by kernel_rfl) (dG aA E E E E ⟨E,E,E,E,V,E,E,E,E⟩ E E E [0] E 3 E a6 E fun a9 b0=>aU ev4 [] E (bX aA aJ true 3 [3] E (by kernel_rfl) [] [(79,.v (.agg #[sL a9 (([]:List Int) ++ b) b0]))] ev4 [] E E ev2 (JA.one 4 (by kernel_rfl) (JK.buildSlice aA E E E E E E E E E E E [0] E (.sl iT) [(([]:List Int) ++ b)] ev8 E E fun c1=>aU ev4 [] E (JA.one 7 (by kernel_rfl) (jX aA E E E E ⟨E,E,E,E,V,E,E,E,E⟩ E E [0,0] E a7 E fun w x=>aR E (aT aA aJ 0 [8] E (by kernel_rfl) [] [(10,.v (sL w (([(([]:List Int) ++ b)]:List (List Int)) ++ c) x))] E ev2 (bM (by kernel_rfl) (bE (B':=(.new 4 41 [.slice none 0 0] .nil)) (Bs E E) ?_))))))))))))
 obtain ⟨b1,b2,h⟩:=aN h
 refine bZ (ι:=List (List Int)×Option Addr×Nat) ⟨fun z=>b1 z.1=some r,fun z=>[(6,.bp 4 0),(10,.v (sL z.2.1 z.1 z.2.2))],fun z=>(.new 4 41 [.slice none 0 0] .nil),fun z=>[],fun z=>[⟨(.sl iT),⟨z.2.1,z.1.length,z.2.2⟩,z.1⟩],fun z=>0⟩ ?_ ?_
 ·
  refine aC aA 3 [(86,.v (.bool (decide (6<((([(([]:List Int) ++ b)]:List (List Int)) ++ c).length:Int)))))] ev1 E E ?_
  refine aH E h (fun h=>?_) (fun h=>?_)
  ·
   refine JS.region (aB aA 1 [] [] [(87,.v (sL w (([(([]:List Int) ++ b)]:List (List Int)) ++ c) x))] _ E ev1 ?_)
   obtain ⟨b3,h⟩:=aK h
   refine yS aA E E E E E E E E [0] E (0:Int) (6:Int) E E b3 E fun L M=>aB aA 1 [] [] [(10,.v (sL L (bU (([(([]:List Int) ++ b)]:List (List Int)) ++ c) 0 (6:Int)) M))] _ E ev1 (aD E (aQ ((bU (([(([]:List Int) ++ b)]:List (List Int)) ++ c) 0 (6:Int)),L,M) h (Es E) (Bs E E) [] E [0] E))
  refine JS.skip (aQ ((([(([]:List Int) ++ b)]:List (List Int)) ++ c),w,x) h (Es E) (Bs E E) [] E [0] E)
 rintro ⟨b4,N,O⟩ h
 subst b2
 refine aM aA 4 [] [] [(7,.v (.bool true))] (.new 4 41 [sL N b4 O] .nil) ⟨ev2,(Bs E E)⟩ E E ?_
 cases h
 exact JS.ret aA (N,O) V E E [0] E

def dY (c:EdQ) (d:Int) (e:Int) (f:Int):Option (EdQ×Int):= (aF (oF c) fun g=>(bW ((bif (bif (!g) then true else (!(decide (c.2.1=2)))) then true else (bif (bif (!(decide (d=100))) then (!(decide (d=99))) else false) then (!(decide (d=121))) else false))=false) (uW c e f) false fun j=>(bif (bif (bif (bif (!g) then true else (!(decide (c.2.1=2)))) then true else (bif (bif (!(decide (d=100))) then (!(decide (d=99))) else false) then (!(decide (d=121))) else false)) then true else (!j)) then some ((false,0,([],0),0,0,0,0,0,0,0,[],[],0,([],0),[],0,([],0)),0) else (bif (bif decide (e=f) then (decide (d=99)) else false) then (aF (dT c e) fun (k,l)=> some (k,l)) else (bif decide (e=f) then (aF (cH c) fun (m,n)=> some (m,n)) else (aF (jU c.2.2.1 e f) fun (o,p,w)=>(aF (cA c) fun a=>(aF (qE c.2.2.2.2.2.2.2.2.2.2.1 p 0) fun (h,x)=>(bif decide (d=121) then (aF (gK (a.1,a.2.1,a.2.2.1,a.2.2.2.1,a.2.2.2.2.1,a.2.2.2.2.2.1,a.2.2.2.2.2.2.1,a.2.2.2.2.2.2.2.1,a.2.2.2.2.2.2.2.2.1,a.2.2.2.2.2.2.2.2.2.1,h,a.2.2.2.2.2.2.2.2.2.2.2.1,a.2.2.2.2.2.2.2.2.2.2.2.2.1,a.2.2.2.2.2.2.2.2.2.2.2.2.2.1,a.2.2.2.2.2.2.2.2.2.2.2.2.2.2.1,a.2.2.2.2.2.2.2.2.2.2.2.2.2.2.2.1,a.2.2.2.2.2.2.2.2.2.2.2.2.2.2.2.2) e) fun (q,r)=> some (q,r)) else (aF (pI o e) fun (s,y)=>(aF (dW (a.1,a.2.1,a.2.2.1,a.2.2.2.1,a.2.2.2.2.1,a.2.2.2.2.2.1,a.2.2.2.2.2.2.1,a.2.2.2.2.2.2.2.1,a.2.2.2.2.2.2.2.2.1,a.2.2.2.2.2.2.2.2.2.1,h,a.2.2.2.2.2.2.2.2.2.2.2.1,a.2.2.2.2.2.2.2.2.2.2.2.2.1,a.2.2.2.2.2.2.2.2.2.2.2.2.2.1,a.2.2.2.2.2.2.2.2.2.2.2.2.2.2.1,a.2.2.2.2.2.2.2.2.2.2.2.2.2.2.2.1,a.2.2.2.2.2.2.2.2.2.2.2.2.2.2.2.2) s true 0) fun (b,t)=>(aS (fun ((u,v):Int×Int)=> some ((b.1,u,(b.2.2.1.1,v),b.2.2.2.1,b.2.2.2.2.1,b.2.2.2.2.2.1,b.2.2.2.2.2.2.1,b.2.2.2.2.2.2.2.1,b.2.2.2.2.2.2.2.2.1,b.2.2.2.2.2.2.2.2.2.1,b.2.2.2.2.2.2.2.2.2.2.1,b.2.2.2.2.2.2.2.2.2.2.2.1,b.2.2.2.2.2.2.2.2.2.2.2.2.1,b.2.2.2.2.2.2.2.2.2.2.2.2.2.1,b.2.2.2.2.2.2.2.2.2.2.2.2.2.2.1,b.2.2.2.2.2.2.2.2.2.2.2.2.2.2.2.1,b.2.2.2.2.2.2.2.2.2.2.2.2.2.2.2.2),t)) fun i=>(bif decide (d=99) then i (1,e) else i (b.2.1,b.2.2.1.2))))))))))))))

theorem gZ (a:EdQ) (f:Int) (d:Int) (i:Int) (b:P6) (r:EdQ×Int) (h:dY a f d i=some r):
 FC Tryz.prog 213 [.agg (cD a b).toArray,I f,I d,I i] (bP a b []) (fun _:P6=>True) (fun q=>.tuple #[.agg (aG r.1 q).toArray,I r.2]) (fun q=>(bP r.1 q [])):= by
 refine FC.of (T:=TTx) Tryz.call213 Tryz.func213 E E fun w0=>?_
 unfold dY at h
 refine aM aA 3 [] [7,8] [(4,.bp 7 0),(8,.bp 8 0)] (.new 7 46 (aG a b) (.new 8 46 bA .nil)) ⟨(Es E),(Bs E E)⟩ E E (JS.seq (JS.seq (JS.region (aB aA 1 [] [] [(16,.v (.agg (aG a b).toArray))] _ E ev1 ?_))))
 refine bnw h fun B G h=>JO.call E E E E (wX a b _ G) E [0,1,2,3,4,5] E E fun _ _=>aB aA 22 [] [] [(36,.v (.bool (bif (bif (!B) then true else (!(decide (a.2.1=2)))) then true else (bif (bif (!(decide (f=100))) then (!(decide (f=99))) else false) then (!(decide (f=121))) else false)))),(37,.cd [(36,false)] (.v (.agg (aG a b).toArray))),(38,.cd [(36,false)] (.v (I d))),(39,.cd [(36,false)] (.v (I i)))] _ E ⟨(Es E),E⟩ ?_
 obtain ⟨H,J,-,h⟩:=aY h
 refine bL E E E E (fun K=>aL8 a d i b _ (J K)) E [0,1,2,3,4,5] E E (aB aA 2 [] [] [(42,.v (.bool (bif (bif (bif (!B) then true else (!(decide (a.2.1=2)))) then true else (bif (bif (!(decide (f=100))) then (!(decide (f=99))) else false) then (!(decide (f=121))) else false)) then true else (!H))))] _ E ev1 (aD E ?_))
 refine aH E h (fun h=>?_) (fun h=>?_)
 ·
  refine aM aA 3 [] [] [(9,.v (I 0))] (.new 8 46 bA .nil) ⟨ev2,(Bs E E)⟩ E E ?_
  cases h
  refine aZ iT Sl.nil E E (aZ (.sl iT) Sl.nil E E (aZ (.pair (.sl iT) iT) Sl.nil E E (aZ iT Sl.nil E E (aZ iT Sl.nil E E (aZ iT Sl.nil E E (JS.ret aA (none,0,none,0,none,0,none,0,none,0,none,0) V E E [5,4,3,2,1,0] E))))))
 refine JS.skip (JS.seq (aC aA 7 [(50,.v (.bool (bif (decide (d=i)) then (decide (f=99)) else false)))] ev1 E E ?_))
 refine aH E h (fun h=>?_) (fun h=>?_)
 ·
  refine JS.seq (JS.region (aB aA 2 [] [] [(51,.v (.agg (aG a b).toArray)),(52,.v (I d))] _ E ⟨(Es E),E⟩ ?_))
  obtain ⟨⟨L,M⟩,N,h⟩:=aE h
  refine JO.call E E E E (lY a d b _ N) E [0,1,2,3,4,5] E E fun C _=>aL aA 4 [] [] [(9,.v (I M))] (.new 8 46 (aG L C) .nil) E ⟨ev2,(Bs E E)⟩ (aD E ?_)
  cases h
  exact JS.ret aA C V E E [0,0,0,0,0,0] E
 refine JS.skip (JS.seq (aC aA 3 [(58,.v (.bool (decide (d=i))))] ev1 E E ?_))
 refine aH E h (fun h=>?_) (fun h=>?_)
 ·
  refine JS.seq (JS.region (aB aA 1 [] [] [(59,.v (.agg (aG a b).toArray))] _ E ev1 ?_))
  obtain ⟨⟨O,P⟩,Q,h⟩:=aE h
  refine JO.call E E E E (cO a b _ Q) E [0,1,2,3,4,5] E E fun D _=>aL aA 4 [] [] [(9,.v (I P))] (.new 8 46 (aG O D) .nil) E ⟨ev2,(Bs E E)⟩ (aD E ?_)
  cases h
  exact JS.ret aA D V E E [0,0,0,0,0,0] E
 refine JS.skip (JS.seq (JS.region (aB aA 4 [] [] [(65,.v (.agg #[sL b.1 a.2.2.1.1 b.2.1,I a.2.2.1.2])),(66,.v (I d)),(67,.v (I i))] _ E ⟨(Es E),E⟩ ?_)))
 obtain ⟨⟨g,t,a6⟩,R,h⟩:=aE h
 refine JO.call E E E E (fL a.2.2.1 d i b.1 b.2.1 _ R) E [0] E E ?_
 rintro ⟨o,p,u,w⟩ -
 refine aL aA 8 [] [65] [(10,.bp 65 0),(11,.v (sL u t w))] (.new 7 46 (aG a b) (.new 8 46 bA (.new 65 38 [sL o g.1 p,I g.2] .nil))) E ⟨(Es E),(Bs E E)⟩ (aD E (JS.seq (JS.region (aB aA 1 [] [] [(72,.v (.agg (aG a b).toArray))] _ E ev1 ?_))))
 refine bnw h fun k S h=>JO.call E E E E (cI a b _ S) E [0,1,2,3,4,5] E E fun c _=>aL aA 2 [] [86] [(13,.bp 86 0)] (.new 7 46 (aG a b) (.new 8 46 bA (.new 65 38 [sL o g.1 p,I g.2] (.new 86 46 (aG k c) .nil)))) E ⟨ev2,(Bs E E)⟩ (aD E (JS.seq (JS.region (aB aA 3 [] [] [(76,.v (.agg #[sL b.2.2.1 (Q8 a).2.2.1 b.2.2.2.1])),(77,.v (sL u t w))] _ E ⟨(Es E),E⟩ ?_))))
 obtain ⟨⟨l,a7⟩,U,h⟩:=aE h
 refine JO.call E E E E (aCm (Q8 a).2.2.1 t 0 b.2.2.1 b.2.2.2.1 u w _ U) E [1,13] E E ?_
 rintro ⟨m,n⟩ -
 refine aL aA 5 [] [] [] (.new 8 46 bA (.new 65 38 [sL o g.1 p,I g.2] (.new 86 46 (aG (U10 k l) (c.1,c.2.1,m,n,(Q4 c))) .nil))) E ⟨V,(Bs E E)⟩ (aD E (JS.seq (aC aA 2 [(83,.v (.bool (decide (f=121))))] ev1 E E ?_)))
 refine aH E h (fun h=>?_) (fun h=>?_)
 ·
  refine JS.seq (JS.region (aB aA 2 [] [] [(84,.v (.agg (aG (U10 k l) (c.1,c.2.1,m,n,(Q4 c))).toArray)),(85,.v (I d))] _ E ⟨(Es E),E⟩ ?_))
  obtain ⟨⟨W,X⟩,Y,h⟩:=aE h
  refine JO.call E E E E (pA (U10 k l) d (c.1,c.2.1,m,n,(Q4 c)) _ Y) E [7,6,9,10,11,12] E E fun F _=>aL aA 4 [] [] [(9,.v (I X))] (.new 8 46 (aG W F) .nil) E ⟨ev2,(Bs E E)⟩ (aD E ?_)
  cases h
  exact JS.ret aA F V E E [0,0,0,0,0,0] E
 refine JS.skip (JS.seq (JS.region (aB aA 2 [] [] [(90,.v (.agg #[sL o g.1 p,I g.2])),(91,.v (I d))] _ E ⟨(Es E),E⟩ ?_)))
 obtain ⟨⟨s,a8⟩,Z,h⟩:=aE h
 refine JO.call E E E E (zU g d o p _ Z) E [13] E E ?_
 rintro ⟨x,y⟩ -
 refine aL aA 4 [] [] [] (.new 8 46 bA (.new 65 38 [sL x s.1 y,I s.2] (.new 86 46 (aG (U10 k l) (c.1,c.2.1,m,n,(Q4 c))) .nil))) E ⟨V,(Bs E E)⟩ (aD E (JS.seq (JS.region (aB aA 2 [] [] [(96,.v (.agg (aG (U10 k l) (c.1,c.2.1,m,n,(Q4 c))).toArray)),(97,.v (.agg #[sL x s.1 y,I s.2]))] _ E ⟨(Es E),E⟩ ?_))))
 obtain ⟨⟨e,A⟩,a0,h⟩:=aE h
 refine JO.call E E E E (jP (U10 k l) s true 0 (c.1,c.2.1,m,n,(Q4 c)) x y _ a0) E [8,7,10,11,12,13,6] E E fun j _=>aL aA 6 [] [141] [(14,.bp 141 0),(15,.v (I A))] (.new 8 46 bA (.new 141 46 (aG e j) .nil)) E ⟨(Es E),(Bs E E)⟩ (aD E ?_)
 obtain ⟨a1,a2,h⟩:=aN h
 refine bZ (ι:=Int×Int) ⟨fun z=>a1 z=some r,fun z=>[(8,.bp 8 0),(14,.bp 141 0),(15,.v (I A))],fun z=>(.new 8 46 bA (.new 141 46 (aG (e.1,z.1,(e.2.2.1.1,z.2),e.2.2.2) j) .nil)),fun z=>[],fun z=>(bP e j []),fun z=>0⟩ ?_ ?_
 ·
  refine JS.seq (wE [true,true,true,true,true,true,false,false,false,false,false,false,false,false,false,false] (bP a b []) (bP e j []) E E (eR aA 2 [(102,.v (.bool (decide (f=99))))] ev1 E E ?_))
  refine aH E h (fun h=>?_) (fun h=>?_)
  ·
   refine aM aA 2 [] [] [] (.new 8 46 bA (.new 141 46 (aG (e.1,1,e.2.2) j) .nil)) ⟨V,(Bs E E)⟩ E E (wP aA 4 [] [] [] (.new 8 46 bA (.new 141 46 (aG (e.1,1,(e.2.2.1.1,d),e.2.2.2) j) .nil)) ⟨V,(Bs E E)⟩ E E (bT (1,d) h (Es E) (Bs E E) [] E [0,1,2,3,4,5] E E))
  refine JS.skip (bT (e.2.1,e.2.2.1.2) h (Es E) (Bs E E) [] E [0,1,2,3,4,5] E E)
 rintro ⟨a3,a4⟩ h
 subst a2
 refine aM aA 4 [] [] [(9,.v (I A))] (.new 8 46 (aG (e.1,a3,(e.2.2.1.1,a4),e.2.2.2) j) .nil) ⟨ev2,(Bs E E)⟩ E E ?_
 cases h
 exact JS.ret aA j V E E [0,0,0,0,0,0] E

def pZ (a:EdQ) (b:Int) (c:Bool):Option (EdQ×Int):= (bif decide (a.2.2.2.2.1=0) then (aF (gK a b) fun (d,e)=> some (d,e)) else (aF (aAv a.2.2.1.1 a.2.2.1.2 b c) fun (f,g)=>(aF (dY a a.2.2.2.2.1 f g) fun (h,i)=> some (h,i))))

theorem aCh (a:EdQ) (c:Int) (d:Bool) (b:P6) (r:EdQ×Int) (h:pZ a c d=some r):
 FC Tryz.prog 272 [.agg (cD a b).toArray,I c,.bool d] (bP a b []) (fun _:P6=>True) (fun q=>.tuple #[.agg (aG r.1 q).toArray,I r.2]) (fun q=>(bP r.1 q [])):= by
 refine FC.of (T:=TTx) Tryz.call272 Tryz.func272 E E fun s=>?_
 unfold pZ at h
 refine aM aA 3 [] [7,8] [(3,.bp 7 0),(6,.bp 8 0)] (.new 7 46 (aG a b) (.new 8 46 bA .nil)) ⟨(Es E),(Bs E E)⟩ E E (JS.seq (aC aA 3 [(12,.v (.bool (decide ((Q4 a).1=0))))] ev1 E E ?_))
 refine aH E h (fun h=>?_) (fun h=>?_)
 ·
  refine JS.seq (JS.region (aB aA 2 [] [] [(13,.v (.agg (aG a b).toArray)),(14,.v (I c))] _ E ⟨(Es E),E⟩ ?_))
  obtain ⟨⟨j,k⟩,l,h⟩:=aE h
  refine JO.call E E E E (pA a c b _ l) E [0,1,2,3,4,5] E E fun g _=>aL aA 4 [] [] [(7,.v (I k))] (.new 8 46 (aG j g) .nil) E ⟨ev2,(Bs E E)⟩ (aD E ?_)
  cases h
  exact JS.ret aA g V E E [0,0,0,0,0,0] E
 refine JS.skip (JS.seq (JS.region (aB aA 8 [] [] [(21,.v (sL b.1 a.2.2.1.1 b.2.1)),(24,.v (I a.2.2.1.2)),(25,.v (I c)),(26,.v (.bool d))] _ E ⟨(Es E),E⟩ ?_)))
 obtain ⟨⟨e,f⟩,m,h⟩:=aE h
 refine JO.call E E E E (aRc a.2.2.1.1 a.2.2.1.2 c d b.1 b.2.1 _ m) E [0] E E fun _ _=>aB aA 5 [] [] [(8,.v (I e)),(9,.v (I f))] _ E ⟨(Es E),E⟩ (aD E (JS.seq (JS.region (aB aA 5 [] [] [(30,.v (.agg (aG a b).toArray)),(32,.v (I (Q4 a).1)),(33,.v (I e)),(34,.v (I f))] _ E ⟨(Es E),E⟩ ?_))))
 obtain ⟨⟨n,o⟩,p,h⟩:=aE h
 refine JO.call E E E E (gZ a (Q4 a).1 e f b _ p) E [0,1,2,3,4,5] E E fun i _=>aL aA 4 [] [] [(7,.v (I o))] (.new 8 46 (aG n i) .nil) E ⟨ev2,(Bs E E)⟩ (aD E ?_)
 cases h
 exact JS.ret aA i V E E [0,0,0,0,0,0] E

def mF (a:EdQ) (c:Int) (b:Int):Option (EdQ×Int):= (aF (kQ a) fun d=>(aF (pJ a.2.2.1.1 a.2.2.1.2 c b d) fun (e,f)=>(bif (bif decide (c=0) then true else (!f)) then (aF (cH a) fun (g,h)=> some (g,h)) else (aF (pZ a e (bif decide (b=0) then true else (decide (b=2)))) fun (i,j)=> some (i,j)))))

theorem yF (a:EdQ) (d:Int) (c:Int) (b:P6) (r:EdQ×Int) (h:mF a d c=some r):
 FC Tryz.prog 268 [.agg (cD a b).toArray,I d,I c] (bP a b []) (fun _:P6=>True) (fun q=>.tuple #[.agg (aG r.1 q).toArray,I r.2]) (fun q=>(bP r.1 q [])):= by
 refine FC.of (T:=TTx) Tryz.call268 Tryz.func268 E E fun u=>?_
 unfold mF at h
 refine aM aA 3 [] [7,8] [(3,.bp 7 0),(6,.bp 8 0)] (.new 7 46 (aG a b) (.new 8 46 bA .nil)) ⟨(Es E),(Bs E E)⟩ E E (JS.seq ?_)
 obtain ⟨j,k,h⟩:=aE h
 obtain ⟨⟨e,f⟩,l,h⟩:=aE h
 refine dF E (by kernel_rfl) (cX aA 9 [] [(13,.v (sL b.1 a.2.2.1.1 b.2.1)),(16,.v (I a.2.2.1.2)),(17,.v (I d)),(18,.v (I c)),(19,.v (.agg (aG a b).toArray))] E (Es E) (JQ.call E E E E (pX a b _ k) E [0,1,2,3,4,5] E E (JQ.call E E E E (aEa a.2.2.1.1 a.2.2.1.2 d c j b.1 b.2.1 _ l) E [0] E E (cX aA 5 [] [(8,.v (I e)),(9,.v (.bool f))] E (Es E) (iN E (JS.seq (aC aA 6 [(29,.v (.bool (bif (decide (d=0)) then true else (!f))))] ev1 E E ?_)))))))
 refine aH E h (fun h=>?_) (fun h=>?_)
 ·
  refine JS.seq (JS.region (aB aA 1 [] [] [(30,.v (.agg (aG a b).toArray))] _ E ev1 ?_))
  obtain ⟨⟨m,n⟩,o,h⟩:=aE h
  refine JO.call E E E E (cO a b _ o) E [0,1,2,3,4,5] E E fun g _=>aL aA 4 [] [] [(7,.v (I n))] (.new 8 46 (aG m g) .nil) E ⟨ev2,(Bs E E)⟩ (aD E ?_)
  cases h
  exact JS.ret aA g V E E [0,0,0,0,0,0] E
 refine JS.skip (JS.seq (JS.region (aB aA 8 [] [] [(34,.v (.agg (aG a b).toArray)),(35,.v (I e)),(41,.v (.bool (bif (decide (c=0)) then true else (decide (c=2)))))] _ E ⟨(Es E),E⟩ ?_)))
 obtain ⟨⟨p,s⟩,t,h⟩:=aE h
 refine JO.call E E E E (aCh a e (bif (decide (c=0)) then true else (decide (c=2))) b _ t) E [0,1,2,3,4,5] E E fun i _=>aL aA 4 [] [] [(7,.v (I s))] (.new 8 46 (aG p i) .nil) E ⟨ev2,(Bs E E)⟩ (aD E ?_)
 cases h
 exact JS.ret aA i V E E [0,0,0,0,0,0] E

def mE (c:EdQ) (d:Int×Int) (e:Int) (f:(List Int)→Option (EdQ×Int)) (g:(Int×List Int)→Option (EdQ×Int)):(Int×List Int)→Option (EdQ×Int):=fun (a,b)=>(bif decide (a<(W (c.2.2.1.2+e))) then (aP (0≤a∧a<(b.length:Int)) <|g ((W (a+1)),(List.set b (Int.toNat a) d.2))) else f b)

def sQ (a:EdQ) (c:Int×Int):Option (EdQ×Int):= (bif (!(decide (c.1=1))) then (aF (cH a) fun (f,g)=> some (f,g)) else (bif decide (a.2.2.2.2.2.2.1=114) then (aF (kQ a) fun d=>(bif decide ((W ((a.2.2.1.1.length:Int) - a.2.2.1.2))<d) then (aF (cH a) fun (h,i)=> some (h,i)) else (aF (dD a.2.2.1) fun j=>(aS (fun (k:List Int)=>(aF (dW a (k,(W ((W (a.2.2.1.2+d)) - 1))) true 0) fun (l,m)=> some (l,m))) fun n=>(aW (mE a c d n) bG (a.2.2.1.2,j.1)))))) else (aF (xK a.2.2.2.2.2.2.1) fun e=>(aF (kQ a) fun o=>(aF (pJ a.2.2.1.1 a.2.2.1.2 c.2 e o) fun (u,p)=>(bif (!p) then (aF (cH a) fun (q,r)=> some (q,r)) else (aF (cA a) fun b=>(aF (mF (b.1,b.2.1,b.2.2.1,b.2.2.2.1,b.2.2.2.2.1,b.2.2.2.2.2.1,b.2.2.2.2.2.2.1,c.2,e,b.2.2.2.2.2.2.2.2.2.1,b.2.2.2.2.2.2.2.2.2.2.1,b.2.2.2.2.2.2.2.2.2.2.2.1,b.2.2.2.2.2.2.2.2.2.2.2.2.1,b.2.2.2.2.2.2.2.2.2.2.2.2.2.1,b.2.2.2.2.2.2.2.2.2.2.2.2.2.2.1,b.2.2.2.2.2.2.2.2.2.2.2.2.2.2.2.1,b.2.2.2.2.2.2.2.2.2.2.2.2.2.2.2.2) c.2 e) fun (s,t)=> some (s,t)))))))))

theorem aJw (a:EdQ) (c:Int×Int) (b:P6) (r:EdQ×Int) (h:sQ a c=some r):
 FC Tryz.prog 210 [.agg (cD a b).toArray,.agg #[I c.1,I c.2]] (bP a b []) (fun _:P6=>True) (fun q=>.tuple #[.agg (aG r.1 q).toArray,I r.2]) (fun q=>(bP r.1 q [])):= by
 refine FC.of (T:=TTx) Tryz.call210 Tryz.func210 E E fun w0=>?_
 unfold sQ at h
 refine aM aA 4 [] [7,8,9] [(2,.bp 7 0),(3,.bp 8 0),(4,.bp 9 0)] (.new 7 46 (aG a b) (.new 8 64 [I c.1,I c.2] (.new 9 46 bA .nil))) ⟨(Es E),(Bs E E)⟩ E E (JS.seq (aC aA 3 [(16,.v (.bool (!(decide (c.1=1)))))] ev1 E E ?_))
 refine aH E h (fun h=>?_) (fun h=>?_)
 ·
  refine JS.seq (JS.region (aB aA 1 [] [] [(17,.v (.agg (aG a b).toArray))] _ E ev1 ?_))
  obtain ⟨⟨H,J⟩,K,h⟩:=aE h
  refine JO.call E E E E (cO a b _ K) E [0,1,2,3,4,5] E E fun t _=>aL aA 4 [] [] [(5,.v (I J))] (.new 9 46 (aG H t) .nil) E ⟨ev2,(Bs E E)⟩ (aD E ?_)
  cases h
  exact JS.ret aA t V E E [0,0,0,0,0,0] E
 refine JS.skip (JS.seq (aC aA 3 [(23,.v (.bool (decide ((Q4 a).2.2.1=114))))] ev1 E E ?_))
 refine aH E h (fun h=>?_) (fun h=>?_)
 ·
  refine JS.seq (JS.region (aB aA 1 [] [] [(24,.v (.agg (aG a b).toArray))] _ E ev1 ?_))
  refine bnw h fun d L h=>JO.call E E E E (pX a b _ L) E [0,1,2,3,4,5] E E fun _ _=>aB aA 1 [] [] [(6,.v (I d))] _ E ev1 (aD E (aC aA 4 [(7,.v (I a.2.2.1.2))] ev1 E E (JS.seq (gH aA 8 [(W ((a.2.2.1.1.length:Int) - a.2.2.1.2))] [] [(36,.v (.bool (decide ((W ((a.2.2.1.1.length:Int) - a.2.2.1.2))<d))))] _ ev3 E E ?_))))
  refine aH E h (fun h=>?_) (fun h=>?_)
  ·
   refine JS.seq (JS.region (aB aA 1 [] [] [(37,.v (.agg (aG a b).toArray))] _ E ev1 ?_))
   obtain ⟨⟨M,N⟩,O,h⟩:=aE h
   refine JO.call E E E E (cO a b _ O) E [0,1,2,3,4,5] E E fun u _=>aL aA 4 [] [] [(5,.v (I N))] (.new 9 46 (aG M u) .nil) E ⟨ev2,(Bs E E)⟩ (aD E ?_)
   cases h
   exact JS.ret aA u V E E [0,0,0,0,0,0] E
  refine JS.skip (JS.seq (JS.region (aB aA 2 [] [] [(42,.v (.agg #[sL b.1 a.2.2.1.1 b.2.1,I a.2.2.1.2]))] _ E ev1 ?_)))
  refine bnw h fun g P h=>JO.call E E E E (eJ a.2.2.1 b.1 b.2.1 _ P) E [0] E E ?_
  rintro ⟨w,x⟩ -
  refine aL aA 2 [] [59] [(8,.bp 59 0)] (.new 7 46 (aG a b) (.new 8 64 [I c.1,I c.2] (.new 9 46 bA (.new 59 38 [sL w g.1 x,I g.2] .nil)))) E ⟨ev2,(Bs E E)⟩ (aD E (JS.seq (aC aA 2 [(9,.v (I a.2.2.1.2))] ev1 E E ?_)))
  obtain ⟨y,Q,h⟩:=aN h
  refine aX (ι:=List Int×Option Addr×Nat) ⟨fun z=>y z.1=some r,fun z=>[(2,.bp 7 0),(4,.bp 9 0),(6,.v (I d)),(7,.v (I a.2.2.1.2)),(8,.bp 59 0)],fun z=>(.new 7 46 (aG a b) (.new 9 46 bA (.new 59 38 [sL z.2.1 z.1 z.2.2,I g.2] .nil))),fun z=>(bP a b []),fun z=>[fI z.2.1 z.2.2 z.1],fun z=>0⟩ ?_ ?_
  ·
   refine JS.loop (ι:=Nat×Int×List Int×Option Addr×Nat) ⟨fun z=>aW (mE a c d y) z.1 (z.2.1,z.2.2.1)=some r,fun z=>[(2,.bp 7 0),(3,.bp 8 0),(4,.bp 9 0),(6,.v (I d)),(7,.v (I a.2.2.1.2)),(8,.bp 59 0),(9,.v (I z.2.1))],fun z=>(.new 7 46 (aG a b) (.new 8 64 [I c.1,I c.2] (.new 9 46 bA (.new 59 38 [sL z.2.2.2.1 z.2.2.1 (Q4 z),I g.2] .nil)))),fun z=>(bP a b []),fun z=>[fI z.2.2.2.1 (Q4 z) z.2.2.1],fun z=>z.1⟩ (bG,a.2.2.1.2,g.1,w,x) h (Es E) (Bs E E) [0,1,2,3,4,5] E [0] E ?_
   rintro ⟨A,e,k,l,m⟩ h
   obtain ⟨A,rfl,h⟩:=bC h
   rw [mE] at h
   refine JS.seq (gH aA 5 [(W (a.2.2.1.2+d))] [] [(49,.v (.bool (decide (e<(W (a.2.2.1.2+d))))))] _ ev3 E E ?_)
   refine aH E h (fun h=>?_) (fun h=>?_)
   ·
    refine JS.skip (JS.seq (JS.block (JS.region (bJ 6 E fun R=>?_))))
    obtain ⟨B,h⟩:=aK h
    refine aB aA 6 [] [] [(56,.v (I c.2)),(57,.ep ⟨l,k.length,m⟩ (Int.toNat e*1))] _ E ⟨R.ix B,(Es E),E⟩ (gY aA E E E E E E E E E [0] (fs:=[]) E (Int.toNat e) 0 (at' k e) c.2 ⟨bD B,E⟩ ev8 (aD E (aV (bY aA 3 [(W (e+1))] [] [(9,.v (I (W (e+1))))] _ ev3 E E (bR (A,(W (e+1)),(List.set k (Int.toNat e) c.2),l,m) h (Nat.lt_succ_self _) (Es E) ⟨E,E,E,E,E,E,E,E,E,E,E,E,E,(congrArg (fun n=>([.slice l n m,I g.2]:List Value)) (List.length_set.trans E)),E,E,V⟩ [0,1,2,3,4,5] E [0] (by simp only [List.length_set,List.length_replicate,cF,eU,sL,fI,rM,rL];rfl))))))
   refine JS.exit E (aQ (k,l,m) h (Es E) (Bs E E) [0,1,2,3,4,5] E [0] E)
  rintro ⟨o,p,s⟩ h
  subst Q
  refine aM aA 6 [(W (a.2.2.1.2+d)),(W ((W (a.2.2.1.2+d)) - 1))] [] [] (.new 7 46 (aG a b) (.new 9 46 bA (.new 59 38 [sL p o s,I (W ((W (a.2.2.1.2+d)) - 1))] .nil))) ⟨ev5,ev5,V,(Bs E E)⟩ E E (JS.seq (JS.region (aB aA 2 [] [] [(63,.v (.agg (aG a b).toArray)),(64,.v (.agg #[sL p o s,I (W ((W (a.2.2.1.2+d)) - 1))]))] _ E ⟨(Es E),E⟩ ?_)))
  obtain ⟨⟨S,U⟩,X,h⟩:=aE h
  refine JO.call E E E E (jP a (o,(W ((W (a.2.2.1.2+d)) - 1))) true 0 b p s _ X) E [0,1,2,3,4,5,6] E E fun C _=>aL aA 4 [] [] [(5,.v (I U))] (.new 9 46 (aG S C) .nil) E ⟨ev2,(Bs E E)⟩ (aD E ?_)
  cases h
  exact JS.ret aA C V E E [0,0,0,0,0,0] E
 refine JS.skip (JS.seq (JS.region (aB aA 2 [] [] [(69,.v (I (Q4 a).2.2.1))] _ E ev1 ?_)))
 refine bnw h fun f Y h=>JO.call E E E E (aF9 (Q4 a).2.2.1 _ Y) E [] E E fun _ _=>aB aA 1 [] [] [(10,.v (I f))] _ E ev1 (aD E (JS.seq ?_))
 obtain ⟨Z,a0,h⟩:=aE h
 obtain ⟨⟨b0,D⟩,a1,h⟩:=aE h
 refine dF E (by kernel_rfl) (cX aA 10 [] [(74,.v (sL b.1 a.2.2.1.1 b.2.1)),(77,.v (I a.2.2.1.2)),(79,.v (I c.2)),(80,.v (I f)),(81,.v (.agg (aG a b).toArray))] E (Es E) (JQ.call E E E E (pX a b _ a0) E [0,1,2,3,4,5] E E (JQ.call E E E E (aEa a.2.2.1.1 a.2.2.1.2 c.2 f Z b.1 b.2.1 _ a1) E [0] E E (cX aA 5 [] [(12,.v (.bool D))] E ev2 (iN E (JS.seq (aC aA 2 [(87,.v (.bool (!D)))] ev1 E E ?_)))))))
 refine aH E h (fun h=>?_) (fun h=>?_)
 ·
  refine JS.seq (JS.region (aB aA 1 [] [] [(88,.v (.agg (aG a b).toArray))] _ E ev1 ?_))
  obtain ⟨⟨a2,a3⟩,a4,h⟩:=aE h
  refine JO.call E E E E (cO a b _ a4) E [0,1,2,3,4,5] E E fun F _=>aL aA 4 [] [] [(5,.v (I a3))] (.new 9 46 (aG a2 F) .nil) E ⟨ev2,(Bs E E)⟩ (aD E ?_)
  cases h
  exact JS.ret aA F V E E [0,0,0,0,0,0] E
 refine JS.skip (JS.seq (JS.region (aB aA 1 [] [] [(92,.v (.agg (aG a b).toArray))] _ E ev1 ?_)))
 refine bnw h fun i a5 h=>JO.call E E E E (cI a b _ a5) E [0,1,2,3,4,5] E E fun j _=>aL aA 2 [] [221] [(13,.bp 221 0)] (.new 8 64 [I c.1,I c.2] (.new 9 46 bA (.new 221 46 (aG i j) .nil))) E ⟨ev2,(Bs E E)⟩ (aD E (aM aA 4 [] [] [] (.new 8 64 [I c.1,I c.2] (.new 9 46 bA (.new 221 46 (aG (U7 i c.2) j) .nil))) ⟨V,(Bs E E)⟩ E E (aM aA 3 [] [] [] (.new 8 64 [I c.1,I c.2] (.new 9 46 bA (.new 221 46 (aG (U8 (U7 i c.2) f) j) .nil))) ⟨V,(Bs E E)⟩ E E (JS.seq (JS.region (aB aA 4 [] [] [(99,.v (.agg (aG (U8 (U7 i c.2) f) j).toArray)),(101,.v (I c.2)),(102,.v (I f))] _ E ⟨(Es E),E⟩ ?_))))))
 obtain ⟨⟨a6,a7⟩,a8,h⟩:=aE h
 refine JO.call E E E E (yF (U8 (U7 i c.2) f) c.2 f j _ a8) E [6,7,8,9,10,11] E E fun G _=>aL aA 4 [] [] [(5,.v (I a7))] (.new 9 46 (aG a6 G) .nil) E ⟨ev2,(Bs E E)⟩ (aD E ?_)
 cases h
 exact JS.ret aA G V E E [0,0,0,0,0,0] E

def qG (a:Int):Option Int:= (bif (bif (bif decide (a=9) then true else (decide (a=10))) then true else (decide (a=32))) then some 0 else (bW ((decide (159<a))=true∧(bif (bif (bif (bif decide (97≤a) then (decide (a≤122)) else false) then true else (bif decide (65≤a) then (decide (a≤90)) else false)) then true else (bif decide (48≤a) then (decide (a≤57)) else false)) then true else (decide (a=95)))=false) (eH a) false fun b=>(bif (bif (bif (bif (bif (bif decide (97≤a) then (decide (a≤122)) else false) then true else (bif decide (65≤a) then (decide (a≤90)) else false)) then true else (bif decide (48≤a) then (decide (a≤57)) else false)) then true else (decide (a=95))) then true else (bif decide (159<a) then b else false)) then some 1 else some 2)))

theorem aCo (a:Int) (r:Int) (h:qG a=some r) :
 FC Tryz.prog 255 [I a] [] (fun _:Unit=>True) (fun _=>I r) (fun _=>[]):= by
 refine FC.of (T:=TTx) Tryz.call255 Tryz.func255 E E fun f=>?_
 unfold qG at h
 refine aC aA 1 [] ev5 E E (JS.seq (aC aA 10 [(12,.v (.bool (bif (bif (decide (a=9)) then true else (decide (a=10))) then true else (decide (a=32)))))] ev1 E E ?_))
 refine aH E h (fun h=>?_) (fun h=>?_)
 ·
  refine aC aA 1 [(2,.v (I 0))] ev1 E E ?_
  cases h
  exact JS.ret aA () V E E [] E
 refine JS.skip (JS.seq (JS.seq (JS.region (aB aA 31 [] [] [(39,.v (.bool (bif (bif (bif (bif (decide (97≤a)) then (decide (a≤122)) else false) then true else (bif (decide (65≤a)) then (decide (a≤90)) else false)) then true else (bif (decide (48≤a)) then (decide (a≤57)) else false)) then true else (decide (a=95))))),(42,.cd [(39,false)] (.v (.bool (decide (159<a))))),(43,.cd [(42,true),(39,false)] (.v (I a)))] _ E ⟨(Es E),E⟩ ?_))))
 obtain ⟨b,c,-,h⟩:=aY h
 refine bL E E E E (fun d e=>lZ a _ (c ⟨d,e⟩)) E [] E E (aB aA 2 [] [] [(46,.v (.bool (bif (bif (bif (bif (bif (decide (97≤a)) then (decide (a≤122)) else false) then true else (bif (decide (65≤a)) then (decide (a≤90)) else false)) then true else (bif (decide (48≤a)) then (decide (a≤57)) else false)) then true else (decide (a=95))) then true else (bif (decide (159<a)) then b else false))))] _ E ev1 (aD E ?_))
 refine aH E h (fun h=>?_) (fun h=>?_)
 ·
  refine aC aA 1 [(2,.v (I 1))] ev1 E E ?_
  cases h
  exact JS.ret aA () V E E [] E
 refine JS.skip (aC aA 1 [(2,.v (I 2))] ev1 E E ?_)
 cases h
 exact JS.ret aA () V E E [] E

def dJ (b:Int) (c:Bool):Option Int:= (aF (qG b) fun a=>(bif (bif c then (decide (a=2)) else false) then some 1 else some a))

theorem fK (a:Int) (b:Bool) (r:Int) (h:dJ a b=some r) :
 FC Tryz.prog 244 [I a,.bool b] [] (fun _:Unit=>True) (fun _=>I r) (fun _=>[]):= by
 refine FC.of (T:=TTx) Tryz.call244 Tryz.func244 E E fun e=>?_
 unfold dJ at h
 refine aC aA 1 [] ev5 E E (JS.seq (JS.region (aB aA 1 [] [] [(6,.v (I a))] _ E ev1 ?_)))
 refine bnw h fun c d h=>JO.call E E E E (aCo a _ d) E [] E E fun _ _=>aB aA 1 [] [] [(5,.v (I c))] _ E ev1 (aD E (JS.seq (aC aA 5 [(12,.v (.bool (bif b then (decide (c=2)) else false)))] ev1 E E ?_)))
 refine aH E h (fun h=>?_) (fun h=>?_)
 ·
  refine aC aA 1 [(4,.v (I 1))] ev1 E E ?_
  cases h
  exact JS.ret aA () V E E [] E
 refine JS.skip (aC aA 2 [(4,.v (I c))] ev1 E E ?_)
 cases h
 exact JS.ret aA () V E E [] E

def iD (b:List Int) (c:Bool) (d:Int→Option Int) (e:Int→Option Int):Int→Option Int:=fun a=>(aP (((decide (0<a))=true)→0≤(W (a - 1))∧(W (a - 1))<(b.length:Int)) <|(bW ((decide (0<a))=true) (dJ (at' b (W (a - 1))) c) (0:Int) fun f=>(bif (bif decide (0<a) then (decide (f=0)) else false) then e (W (a - 1)) else d a)))

def iC (b:List Int) (c:Bool) (d:Int) (e:Int→Option Int) (f:Int→Option Int):Int→Option Int:=fun a=>(aP (((decide (0<a))=true)→0≤(W (a - 1))∧(W (a - 1))<(b.length:Int)) <|(bW ((decide (0<a))=true) (dJ (at' b (W (a - 1))) c) (0:Int) fun g=>(bif (bif decide (0<a) then (decide (g=d)) else false) then f (W (a - 1)) else e a)))

def jG (a:List Int) (d:Int) (c:Bool):Option Int:= (aF (bV d (a.length:Int)) fun e=>(aS (fun (b:Int)=>(bif decide (b=0) then some 0 else (aP (0≤(W (b - 1))∧(W (b - 1))<(a.length:Int)) <|(aF (dJ (at' a (W (b - 1))) c) fun f=>(aS (fun (g:Int)=> some g) fun h=>(aW (iC a c f h) bG b)))))) fun i=>(aW (iD a c i) bG e)))

theorem yX (a:List Int) (i:Int) (b:Bool) (c:Option Addr) (d:Nat) (r:Int) (h:jG a i b=some r):
 FC Tryz.prog 164 [sL c a d,I i,.bool b] [fI c d a] (fun _:Unit=>True) (fun _=>I r) (fun _=>[]):= by
 refine FC.of (T:=TTx) Tryz.call164 Tryz.func164 E E fun P=>?_
 unfold jG at h
 refine aC aA 1 [] ev5 E E (JS.seq (JS.region (aB aA 3 [] [] [(8,.v (I i)),(10,.v (I (a.length:Int)))] _ E ⟨(Es E),E⟩ ?_)))
 refine bnw h fun k t h=>JO.call E E E E (bN i (a.length:Int) _ t) E [] E E fun _ _=>aB aA 1 [] [] [(1,.v (I k))] _ E ev1 (aD E (JS.seq ?_))
 obtain ⟨l,u,h⟩:=aN h
 refine aX (ι:=Int) ⟨fun z=>l z=some r,fun z=>[(0,.v (sL c a d)),(1,.v (I z)),(2,.v (.bool b))],fun z=>.nil,fun z=>[fI c d a],fun z=>[],fun z=>0⟩ ?_ ?_
 ·
  refine JS.loop (ι:=Nat×Int) ⟨fun z=>aW (iD a b l) z.1 z.2=some r,fun z=>[(0,.v (sL c a d)),(1,.v (I z.2)),(2,.v (.bool b))],fun z=>.nil,fun z=>[fI c d a],fun z=>[],fun z=>z.1⟩ (bG,k) h (Es E) V [0] E [] E ?_
  rintro ⟨m,e⟩ h
  obtain ⟨m,rfl,h⟩:=bC h
  rw [iD] at h
  refine JS.seq (JS.seq (JS.region (bJ 0 E fun w=>?_)))
  obtain ⟨n,h⟩:=aK h
  refine aB aA 7 [(W (e - 1))] [] [(14,.v (.bool (decide (0<e)))),(18,.cd [(14,true)] (.ep ⟨c,a.length,d⟩ (Int.toNat (W (e - 1))*1)))] _ E ⟨(fun Q=>ev5),(fun x=>w.ix (n x)),(Es E),E⟩ (JO.load aA E E E E E E E 0 E E (Int.toNat (W (e - 1))) 0 (at' a (W (e - 1))) (fun y=>⟨bD (n y),E⟩) E E (aB aA 1 [] [] [(20,.cd [(14,true)] (.v (.bool b)))] _ E ev1 ?_))
  obtain ⟨A,B,-,h⟩:=aY h
  refine bL E E E E (fun C=>fK (at' a (W (e - 1))) b _ (B C)) E [] E E (aB aA 2 [] [] [(23,.v (.bool (bif (decide (0<e)) then (decide (A=0)) else false)))] _ E ev1 (aD E ?_))
  refine aH E h (fun h=>?_) (fun h=>?_)
  ·
   refine JS.skip (JS.block (bY aA 3 [(W (e - 1))] [] [(1,.v (I (W (e - 1))))] _ ev3 E E (aV (bR (m,(W (e - 1))) h (Nat.lt_succ_self _) (Es E) V [0] E [] E))))
  refine JS.exit E (aQ e h (Es E) V [0] E [] E)
 rintro g h
 subst u
 refine JS.seq (aC aA 2 [(27,.v (.bool (decide (g=0))))] ev1 E E ?_)
 refine aH E h (fun h=>?_) (fun h=>?_)
 ·
  refine aC aA 1 [(6,.v (I 0))] ev1 E E ?_
  cases h
  exact JS.ret aA () V E E [] E
 refine JS.skip (JS.seq (JS.region (bJ 0 E fun D=>?_)))
 obtain ⟨o,h⟩:=aK h
 refine aB aA 4 [(W (g - 1))] [] [(31,.ep ⟨c,a.length,d⟩ (Int.toNat (W (g - 1))*1))] _ E ⟨ev5,D.ix o,ev2,E⟩ (JO.load aA E E E E E E E 0 E E (Int.toNat (W (g - 1))) 0 (at' a (W (g - 1))) ⟨bD o,E⟩ E E (aB aA 1 [] [] [(33,.v (.bool b))] _ E ev1 ?_))
 refine bnw h fun j F h=>JO.call E E E E (fK (at' a (W (g - 1))) b _ F) E [] E E fun _ _=>aB aA 1 [] [] [(7,.v (I j))] _ E ev1 (aD E (JS.seq ?_))
 obtain ⟨p,G,h⟩:=aN h
 refine aX (ι:=Int) ⟨fun z=>p z=some r,fun z=>[(1,.v (I z))],fun z=>.nil,fun z=>[],fun z=>[],fun z=>0⟩ ?_ ?_
 ·
  refine JS.loop (ι:=Nat×Int) ⟨fun z=>aW (iC a b j p) z.1 z.2=some r,fun z=>[(0,.v (sL c a d)),(1,.v (I z.2)),(2,.v (.bool b)),(7,.v (I j))],fun z=>.nil,fun z=>[fI c d a],fun z=>[],fun z=>z.1⟩ (bG,g) h (Es E) V [0] E [] E ?_
  rintro ⟨q,f⟩ h
  obtain ⟨q,rfl,h⟩:=bC h
  rw [iC] at h
  refine JS.seq (JS.seq (JS.region (bJ 0 E fun H=>?_)))
  obtain ⟨s,h⟩:=aK h
  refine aB aA 7 [(W (f - 1))] [] [(37,.v (.bool (decide (0<f)))),(41,.cd [(37,true)] (.ep ⟨c,a.length,d⟩ (Int.toNat (W (f - 1))*1)))] _ E ⟨(fun R=>ev5),(fun J=>H.ix (s J)),(Es E),E⟩ (JO.load aA E E E E E E E 0 E E (Int.toNat (W (f - 1))) 0 (at' a (W (f - 1))) (fun K=>⟨bD (s K),E⟩) E E (aB aA 1 [] [] [(43,.cd [(37,true)] (.v (.bool b)))] _ E ev1 ?_))
  obtain ⟨L,M,-,h⟩:=aY h
  refine bL E E E E (fun N=>fK (at' a (W (f - 1))) b _ (M N)) E [] E E (aB aA 3 [] [] [(47,.v (.bool (bif (decide (0<f)) then (decide (L=j)) else false)))] _ E ev1 (aD E ?_))
  refine aH E h (fun h=>?_) (fun h=>?_)
  ·
   refine JS.skip (JS.block (bY aA 3 [(W (f - 1))] [] [(1,.v (I (W (f - 1))))] _ ev3 E E (aV (bR (q,(W (f - 1))) h (Nat.lt_succ_self _) (Es E) V [0] E [] E))))
  refine JS.exit E (aQ f h ev2 V [] E [] E)
 rintro O h
 subst G
 refine aC aA 2 [(6,.v (I O))] ev1 E E ?_
 cases h
 exact JS.ret aA () V E E [] E

def gA (b:List Int) (d:Bool) (c:Int) (e:Int→Option Int) (f:Int→Option Int):Int→Option Int:=fun a=>(aP (((bif decide (a<(b.length:Int)) then (!(decide (c=0))) else false)=true)→0≤a∧a<(b.length:Int)) <|(bW ((bif decide (a<(b.length:Int)) then (!(decide (c=0))) else false)=true) (dJ (at' b a) d) (0:Int) fun g=>(bif (bif (bif decide (a<(b.length:Int)) then (!(decide (c=0))) else false) then (decide (g=c)) else false) then f (W (a+1)) else e a)))

def kS (b:List Int) (c:Bool) (d:Int→Option Int) (e:Int→Option Int):Int→Option Int:=fun a=>(aP (((decide (a<(b.length:Int)))=true)→0≤a∧a<(b.length:Int)) <|(bW ((decide (a<(b.length:Int)))=true) (dJ (at' b a) c) (0:Int) fun f=>(bif (bif decide (a<(b.length:Int)) then (decide (f=0)) else false) then e (W (a+1)) else d a)))

def qQ (a:List Int) (d:Int) (c:Bool):Option Int:= (aF (bV d (a.length:Int)) fun b=>(bif decide (b=(a.length:Int)) then some b else (aP (0≤b∧b<(a.length:Int)) <|(aF (dJ (at' a b) c) fun e=>(aS (fun (f:Int)=>(aS (fun (g:Int)=> some g) fun h=>(aW (kS a c h) bG f))) fun i=>(aW (gA a c e i) bG b))))))

theorem aHv (a:List Int) (j:Int) (b:Bool) (c:Option Addr) (d:Nat) (r:Int) (h:qQ a j b=some r):
 FC Tryz.prog 296 [sL c a d,I j,.bool b] [fI c d a] (fun _:Unit=>True) (fun _=>I r) (fun _=>[]):= by
 refine FC.of (T:=TTx) Tryz.call296 Tryz.func296 E E fun P=>?_
 unfold qQ at h
 refine aC aA 1 [] ev5 E E (JS.seq (JS.region (aB aA 3 [] [] [(8,.v (I j)),(10,.v (I (a.length:Int)))] _ E ⟨(Es E),E⟩ ?_)))
 refine bnw h fun g s h=>JO.call E E E E (bN j (a.length:Int) _ s) E [] E E fun _ _=>aB aA 1 [] [] [(1,.v (I g))] _ E ev1 (aD E (JS.seq (aC aA 4 [(15,.v (.bool (decide (g=(a.length:Int)))))] ev1 E E ?_)))
 refine aH E h (fun h=>?_) (fun h=>?_)
 ·
  refine aC aA 2 [(6,.v (I g))] ev1 E E ?_
  cases h
  exact JS.ret aA () V E E [] E
 refine JS.skip (JS.seq (JS.region (bJ 0 E fun t=>?_)))
 obtain ⟨k,h⟩:=aK h
 refine aB aA 3 [] [] [(19,.ep ⟨c,a.length,d⟩ (Int.toNat g*1))] _ E ⟨t.ix k,ev2,E⟩ (JO.load aA E E E E E E E 0 E E (Int.toNat g) 0 (at' a g) ⟨bD k,E⟩ E E (aB aA 1 [] [] [(21,.v (.bool b))] _ E ev1 ?_))
 refine bnw h fun i u h=>JO.call E E E E (fK (at' a g) b _ u) E [] E E fun _ _=>aB aA 1 [] [] [(7,.v (I i))] _ E ev1 (aD E (JS.seq ?_))
 obtain ⟨l,w,h⟩:=aN h
 refine aX (ι:=Int) ⟨fun z=>l z=some r,fun z=>[(0,.v (sL c a d)),(1,.v (I z)),(2,.v (.bool b))],fun z=>.nil,fun z=>[fI c d a],fun z=>[],fun z=>0⟩ ?_ ?_
 ·
  refine JS.loop (ι:=Nat×Int) ⟨fun z=>aW (gA a b i l) z.1 z.2=some r,fun z=>[(0,.v (sL c a d)),(1,.v (I z.2)),(2,.v (.bool b)),(7,.v (I i))],fun z=>.nil,fun z=>[fI c d a],fun z=>[],fun z=>z.1⟩ (bG,g) h (Es E) V [0] E [] E ?_
  rintro ⟨m,e⟩ h
  obtain ⟨m,rfl,h⟩:=bC h
  rw [gA] at h
  refine JS.seq (JS.seq (JS.region (bJ 0 E fun x=>?_)))
  obtain ⟨n,h⟩:=aK h
  refine aB aA 12 [] [] [(31,.v (.bool (bif (decide (e<(a.length:Int))) then (!(decide (i=0))) else false))),(34,.cd [(31,true)] (.ep ⟨c,a.length,d⟩ (Int.toNat e*1)))] _ E ⟨(fun y=>x.ix (n y)),(Es E),E⟩ (JO.load aA E E E E E E E 0 E E (Int.toNat e) 0 (at' a e) (fun A=>⟨bD (n A),E⟩) E E (aB aA 1 [] [] [(36,.cd [(31,true)] (.v (.bool b)))] _ E ev1 ?_))
  obtain ⟨B,C,-,h⟩:=aY h
  refine bL E E E E (fun D=>fK (at' a e) b _ (C D)) E [] E E (aB aA 3 [] [] [(40,.v (.bool (bif (bif (decide (e<(a.length:Int))) then (!(decide (i=0))) else false) then (decide (B=i)) else false)))] _ E ev1 (aD E ?_))
  refine aH E h (fun h=>?_) (fun h=>?_)
  ·
   refine JS.skip (JS.block (bY aA 3 [(W (e+1))] [] [(1,.v (I (W (e+1))))] _ ev3 E E (aV (bR (m,(W (e+1))) h (Nat.lt_succ_self _) (Es E) V [0] E [] E))))
  refine JS.exit E (aQ e h (Es E) V [0] E [] E)
 rintro F h
 subst w
 refine JS.seq ?_
 obtain ⟨o,G,h⟩:=aN h
 refine aX (ι:=Int) ⟨fun z=>o z=some r,fun z=>[(1,.v (I z))],fun z=>.nil,fun z=>[],fun z=>[],fun z=>0⟩ ?_ ?_
 ·
  refine JS.loop (ι:=Nat×Int) ⟨fun z=>aW (kS a b o) z.1 z.2=some r,fun z=>[(0,.v (sL c a d)),(1,.v (I z.2)),(2,.v (.bool b))],fun z=>.nil,fun z=>[fI c d a],fun z=>[],fun z=>z.1⟩ (bG,F) h (Es E) V [0] E [] E ?_
  rintro ⟨p,f⟩ h
  obtain ⟨p,rfl,h⟩:=bC h
  rw [kS] at h
  refine JS.seq (JS.seq (JS.region (bJ 0 E fun H=>?_)))
  obtain ⟨q,h⟩:=aK h
  refine aB aA 8 [] [] [(47,.v (.bool (decide (f<(a.length:Int))))),(50,.cd [(47,true)] (.ep ⟨c,a.length,d⟩ (Int.toNat f*1)))] _ E ⟨(fun J=>H.ix (q J)),(Es E),E⟩ (JO.load aA E E E E E E E 0 E E (Int.toNat f) 0 (at' a f) (fun K=>⟨bD (q K),E⟩) E E (aB aA 1 [] [] [(52,.cd [(47,true)] (.v (.bool b)))] _ E ev1 ?_))
  obtain ⟨L,M,-,h⟩:=aY h
  refine bL E E E E (fun N=>fK (at' a f) b _ (M N)) E [] E E (aB aA 2 [] [] [(55,.v (.bool (bif (decide (f<(a.length:Int))) then (decide (L=0)) else false)))] _ E ev1 (aD E ?_))
  refine aH E h (fun h=>?_) (fun h=>?_)
  ·
   refine JS.skip (JS.block (bY aA 3 [(W (f+1))] [] [(1,.v (I (W (f+1))))] _ ev3 E E (aV (bR (p,(W (f+1))) h (Nat.lt_succ_self _) (Es E) V [0] E [] E))))
  refine JS.exit E (aQ f h ev2 V [] E [] E)
 rintro O h
 subst G
 refine aC aA 2 [(6,.v (I O))] ev1 E E ?_
 cases h
 exact JS.ret aA () V E E [] E

end
end Go.Eng
