/- The walks of the functions that FnBell reaches: what each computes, as a plain function (M_..), and that the model computes it (ok_..). Condition of each: that the plain function answers. -/
import Derived.Test.YtlpgcohnjhomgaaGreatEngB
import Derived.Test.YtlpgcohnjhomgaaGreatChecked
import Derived.Lib.Strings
import Derived.Lib.Slices
import Derived.Lib.Walk
import Derived.Lib.Bytealg
set_option linter.unusedVariables false
set_option linter.unusedSimpArgs false
namespace Go.Proofs

set_option maxHeartbeats 1000000 in
/-- strings.HasPrefix: "HasPrefix reports whether the string s begins with prefix.": IT RETURNS 'Lib.hasPrefix s prefix';the world is as it was. -/
theorem Tryz.strings_HasPrefix (s p:ByteArray) (w:World) :
    Calls Tryz.prog 239 #[.string s,.string p] w fun e w'=>e=.returned (.bool (Lib.hasPrefix s.data.toList p.data.toList))∧w'=w:=by
  rw [← Lib.hasPrefix_of_take,← Lib.size_eq,← Lib.size_eq]
  go_enter Tryz.func239,Tryz.ntmps239
  go_wp2
  · rename_i h
    go_ret
    refine ⟨?_,rfl⟩
    show Ending.returned (Value.bool ((s.extract 0 p.size).toList == p.toList))=_
    rw [Lib.extract_toList,Lib.toList_data]
    simp [h]
  · rename_i h
    go_ret
    refine ⟨?_,rfl⟩
    show Ending.returned (Value.bool false)=_
    simp [h]

end Go.Proofs

namespace Go.Eng
open Go Go.Proofs
noncomputable section

abbrev EdQ:=Bool×Int×(List Int×Int)×Int×Int×Int×Int×Int×Int×Int×List (List Int)×(List (List Int×Int))×Int×(List Int×Int)×List Int×Int×List Int×Int
@[reducible] def vD (x:EdQ) (a1:Option Addr) (c1:Nat) (a2:Option Addr) (c2:Nat) (a3:Option Addr) (c3:Nat) (a4:Option Addr) (c4:Nat) (a5:Option Addr) (c5:Nat) (a6:Option Addr) (c6:Nat):List Value:=[.bool x.1,.int .i64 x.2.1,.slice a1 x.2.2.1.1.length c1,.int .i64 x.2.2.1.2,.int .i64 x.2.2.2.1,.int .i64 x.2.2.2.2.1,.int .i64 x.2.2.2.2.2.1,.int .i64 x.2.2.2.2.2.2.1,.int .i64 x.2.2.2.2.2.2.2.1,.int .i64 x.2.2.2.2.2.2.2.2.1,.int .i64 x.2.2.2.2.2.2.2.2.2.1,.slice a2 x.2.2.2.2.2.2.2.2.2.2.1.length c2,.slice a3 x.2.2.2.2.2.2.2.2.2.2.2.1.length c3,.int .i64 x.2.2.2.2.2.2.2.2.2.2.2.2.1,.slice a4 x.2.2.2.2.2.2.2.2.2.2.2.2.2.1.1.length c4,.int .i64 x.2.2.2.2.2.2.2.2.2.2.2.2.2.1.2,.slice a5 x.2.2.2.2.2.2.2.2.2.2.2.2.2.2.1.length c5,.int .i64 x.2.2.2.2.2.2.2.2.2.2.2.2.2.2.2.1,.slice a6 x.2.2.2.2.2.2.2.2.2.2.2.2.2.2.2.2.1.length c6,.int .i64 x.2.2.2.2.2.2.2.2.2.2.2.2.2.2.2.2.2]
theorem E {α:Sort _} {a:α}:a=a:=rfl
theorem V:True:=trivial
theorem ev1 {c:Sort _} {a:c} {d:Sort _} {b:d}:((a=a∧True)∧b=b):=⟨⟨E,V⟩,E⟩
theorem ev2 {b:Sort _} {a:b}:(a=a∧True):=⟨E,V⟩
theorem ev3 {e:Sort _} {a:e} {f:Sort _} {b:f} {g:Sort _} {c:g} {h:Sort _} {d:h}:(a=a∧b=b∧c=c∧d=d∧True):=⟨E,E,E,E,V⟩
theorem ev4 {d:Sort _} {a:d} {e:Sort _} {b:e} {f:Sort _} {c:f}:((True∧a=a)∧(b=b∧True)∧c=c):=⟨⟨V,E⟩,⟨E,V⟩,E⟩
theorem ev5 {b:Sort _} {a:b}:(True∧a=a):=⟨V,E⟩
theorem ev6 {i:Sort _} {a:i} {j:Sort _} {b:j} {k:Sort _} {c:k} {l:Sort _} {d:l} {m:Sort _} {e:m} {n:Sort _} {f:n} {o:Sort _} {g:o} {p:Sort _} {h:p}:(a=a∧b=b∧c=c∧d=d∧e=e∧f=f∧g=g∧h=h∧True):=⟨E,E,E,E,E,E,E,E,V⟩
theorem ev7 {c:Sort _} {a:c} {d:Sort _} {b:d}:(a=a∧b=b):=⟨E,E⟩
theorem ev8 {m:Sort _} {a:m} {n:Sort _} {b:n} {o:Sort _} {c:o} {p:Sort _} {d:p} {q:Sort _} {e:q} {r:Sort _} {f:r} {s:Sort _} {g:s} {t:Sort _} {h:t} {u:Sort _} {i:u} {v:Sort _} {j:v} {w:Sort _} {k:w} {x:Sort _} {l:x}:(a=a∧b=b∧c=c∧d=d∧e=e∧f=f∧g=g∧h=h∧i=i∧j=j∧k=k∧l=l∧True):=⟨E,E,E,E,E,E,E,E,E,E,E,E,V⟩
theorem ev9 {d:Sort _} {a:d} {e:Sort _} {b:e} {f:Sort _} {c:f}:(a=a∧b=b∧c=c):=⟨E,E,E⟩
@[reducible] def I (x:Int):Value:=.int .i64 x
@[reducible] def sL {α:Type} (a:Option Addr) (x:List α) (c:Nat):Value:=.slice a x.length c
@[reducible] def iT:Ty:=.int .i64
@[reducible] def fI (a:Option Addr) (c:Nat) (x:List Int):Fact:=⟨.int .i64,⟨a,x.length,c⟩,x⟩
abbrev Q4 {A0 A1 A2 A3 A4:Type} (x:A0×A1×A2×A3×A4):A4:=x.2.2.2.2
abbrev Q8 {A0 A1 A2 A3 A4 A5 A6 A7 A8:Type} (x:A0×A1×A2×A3×A4×A5×A6×A7×A8):A8:=x.2.2.2.2.2.2.2.2
abbrev Q12 {A0 A1 A2 A3 A4 A5 A6 A7 A8 A9 A10 A11 A12:Type} (x:A0×A1×A2×A3×A4×A5×A6×A7×A8×A9×A10×A11×A12):A12:=x.2.2.2.2.2.2.2.2.2.2.2.2
abbrev Q16 {A0 A1 A2 A3 A4 A5 A6 A7 A8 A9 A10 A11 A12 A13 A14 A15 A16:Type} (x:A0×A1×A2×A3×A4×A5×A6×A7×A8×A9×A10×A11×A12×A13×A14×A15×A16):A16:=x.2.2.2.2.2.2.2.2.2.2.2.2.2.2.2.2
abbrev Q20 {A0 A1 A2 A3 A4 A5 A6 A7 A8 A9 A10 A11 A12 A13 A14 A15 A16 A17 A18 A19 A20:Type} (x:A0×A1×A2×A3×A4×A5×A6×A7×A8×A9×A10×A11×A12×A13×A14×A15×A16×A17×A18×A19×A20):A20:=x.2.2.2.2.2.2.2.2.2.2.2.2.2.2.2.2.2.2.2.2
@[reducible] def bG:List Value:=vD (false,0,([],0),0,0,0,0,0,0,0,[],[],0,([],0),[],0,([],0)) none 0 none 0 none 0 none 0 none 0 none 0
@[reducible] def fl46 (x:EdQ) (a0:Option Addr) (c0:Nat) (a1:Option Addr) (c1:Nat) (a2:Option Addr) (c2:Nat) (a3:Option Addr) (c3:Nat) (a4:Option Addr) (c4:Nat) (a5:Option Addr) (c5:Nat) (l:List Fact):List Fact:=fI a0 c0 x.2.2.1.1 :: ⟨(.sl iT),⟨a1,x.2.2.2.2.2.2.2.2.2.2.1.length,c1⟩,x.2.2.2.2.2.2.2.2.2.2.1⟩ :: ⟨(.pair (.sl iT) iT),⟨a2,x.2.2.2.2.2.2.2.2.2.2.2.1.length,c2⟩,x.2.2.2.2.2.2.2.2.2.2.2.1⟩ :: fI a3 c3 x.2.2.2.2.2.2.2.2.2.2.2.2.2.1.1 :: fI a4 c4 x.2.2.2.2.2.2.2.2.2.2.2.2.2.2.1 :: fI a5 c5 x.2.2.2.2.2.2.2.2.2.2.2.2.2.2.2.2.1 :: l
abbrev P6:=Option Addr×Nat×Option Addr×Nat×Option Addr×Nat×Option Addr×Nat×Option Addr×Nat×Option Addr×Nat
@[reducible] def aG (x:EdQ) (p:P6):List Value:=vD x p.1 p.2.1 p.2.2.1 p.2.2.2.1 p.2.2.2.2.1 p.2.2.2.2.2.1 p.2.2.2.2.2.2.1 p.2.2.2.2.2.2.2.1 p.2.2.2.2.2.2.2.2.1 p.2.2.2.2.2.2.2.2.2.1 p.2.2.2.2.2.2.2.2.2.2.1 p.2.2.2.2.2.2.2.2.2.2.2
@[reducible] def cH (x:EdQ) (p:P6) (l:List Fact):List Fact:=fl46 x p.1 p.2.1 p.2.2.1 p.2.2.2.1 p.2.2.2.2.1 p.2.2.2.2.2.1 p.2.2.2.2.2.2.1 p.2.2.2.2.2.2.2.1 p.2.2.2.2.2.2.2.2.1 p.2.2.2.2.2.2.2.2.2.1 p.2.2.2.2.2.2.2.2.2.2.1 p.2.2.2.2.2.2.2.2.2.2.2 l
abbrev U1 {A0 A1 R:Type} (x:A0×A1×R) (v:A1):A0×A1×R:=(x.1,v,x.2.2)
abbrev U2 {A0 A1 A2 R:Type} (x:A0×A1×A2×R) (v:A2):A0×A1×A2×R:=(x.1,x.2.1,v,x.2.2.2)
abbrev U3 {A0 A1 A2 A3 R:Type} (x:A0×A1×A2×A3×R) (v:A3):A0×A1×A2×A3×R:=(x.1,x.2.1,x.2.2.1,v,x.2.2.2.2)
abbrev U4 {A0 A1 A2 A3 A4 R:Type} (x:A0×A1×A2×A3×A4×R) (v:A4):A0×A1×A2×A3×A4×R:=(x.1,x.2.1,x.2.2.1,x.2.2.2.1,v,x.2.2.2.2.2)
abbrev U5 {A0 A1 A2 A3 A4 A5 R:Type} (x:A0×A1×A2×A3×A4×A5×R) (v:A5):A0×A1×A2×A3×A4×A5×R:=(x.1,x.2.1,x.2.2.1,x.2.2.2.1,x.2.2.2.2.1,v,x.2.2.2.2.2.2)
abbrev U6 {A0 A1 A2 A3 A4 A5 A6 R:Type} (x:A0×A1×A2×A3×A4×A5×A6×R) (v:A6):A0×A1×A2×A3×A4×A5×A6×R:=(x.1,x.2.1,x.2.2.1,x.2.2.2.1,x.2.2.2.2.1,x.2.2.2.2.2.1,v,x.2.2.2.2.2.2.2)
abbrev U7 {A0 A1 A2 A3 A4 A5 A6 A7 R:Type} (x:A0×A1×A2×A3×A4×A5×A6×A7×R) (v:A7):A0×A1×A2×A3×A4×A5×A6×A7×R:=(x.1,x.2.1,x.2.2.1,x.2.2.2.1,x.2.2.2.2.1,x.2.2.2.2.2.1,x.2.2.2.2.2.2.1,v,x.2.2.2.2.2.2.2.2)
abbrev U8 {A0 A1 A2 A3 A4 A5 A6 A7 A8 R:Type} (x:A0×A1×A2×A3×A4×A5×A6×A7×A8×R) (v:A8):A0×A1×A2×A3×A4×A5×A6×A7×A8×R:=(x.1,x.2.1,x.2.2.1,x.2.2.2.1,x.2.2.2.2.1,x.2.2.2.2.2.1,x.2.2.2.2.2.2.1,x.2.2.2.2.2.2.2.1,v,x.2.2.2.2.2.2.2.2.2)
abbrev U9 {A0 A1 A2 A3 A4 A5 A6 A7 A8 A9 R:Type} (x:A0×A1×A2×A3×A4×A5×A6×A7×A8×A9×R) (v:A9):A0×A1×A2×A3×A4×A5×A6×A7×A8×A9×R:=(x.1,x.2.1,x.2.2.1,x.2.2.2.1,x.2.2.2.2.1,x.2.2.2.2.2.1,x.2.2.2.2.2.2.1,x.2.2.2.2.2.2.2.1,x.2.2.2.2.2.2.2.2.1,v,x.2.2.2.2.2.2.2.2.2.2)
abbrev U10 {A0 A1 A2 A3 A4 A5 A6 A7 A8 A9 A10 R:Type} (x:A0×A1×A2×A3×A4×A5×A6×A7×A8×A9×A10×R) (v:A10):A0×A1×A2×A3×A4×A5×A6×A7×A8×A9×A10×R:=(x.1,x.2.1,x.2.2.1,x.2.2.2.1,x.2.2.2.2.1,x.2.2.2.2.2.1,x.2.2.2.2.2.2.1,x.2.2.2.2.2.2.2.1,x.2.2.2.2.2.2.2.2.1,x.2.2.2.2.2.2.2.2.2.1,v,x.2.2.2.2.2.2.2.2.2.2.2)
abbrev U11 {A0 A1 A2 A3 A4 A5 A6 A7 A8 A9 A10 A11 R:Type} (x:A0×A1×A2×A3×A4×A5×A6×A7×A8×A9×A10×A11×R) (v:A11):A0×A1×A2×A3×A4×A5×A6×A7×A8×A9×A10×A11×R:=(x.1,x.2.1,x.2.2.1,x.2.2.2.1,x.2.2.2.2.1,x.2.2.2.2.2.1,x.2.2.2.2.2.2.1,x.2.2.2.2.2.2.2.1,x.2.2.2.2.2.2.2.2.1,x.2.2.2.2.2.2.2.2.2.1,x.2.2.2.2.2.2.2.2.2.2.1,v,x.2.2.2.2.2.2.2.2.2.2.2.2)
abbrev U12 {A0 A1 A2 A3 A4 A5 A6 A7 A8 A9 A10 A11 A12 R:Type} (x:A0×A1×A2×A3×A4×A5×A6×A7×A8×A9×A10×A11×A12×R) (v:A12):A0×A1×A2×A3×A4×A5×A6×A7×A8×A9×A10×A11×A12×R:=(x.1,x.2.1,x.2.2.1,x.2.2.2.1,x.2.2.2.2.1,x.2.2.2.2.2.1,x.2.2.2.2.2.2.1,x.2.2.2.2.2.2.2.1,x.2.2.2.2.2.2.2.2.1,x.2.2.2.2.2.2.2.2.2.1,x.2.2.2.2.2.2.2.2.2.2.1,x.2.2.2.2.2.2.2.2.2.2.2.1,v,x.2.2.2.2.2.2.2.2.2.2.2.2.2)
abbrev U13 {A0 A1 A2 A3 A4 A5 A6 A7 A8 A9 A10 A11 A12 A13 R:Type} (x:A0×A1×A2×A3×A4×A5×A6×A7×A8×A9×A10×A11×A12×A13×R) (v:A13):A0×A1×A2×A3×A4×A5×A6×A7×A8×A9×A10×A11×A12×A13×R:=(x.1,x.2.1,x.2.2.1,x.2.2.2.1,x.2.2.2.2.1,x.2.2.2.2.2.1,x.2.2.2.2.2.2.1,x.2.2.2.2.2.2.2.1,x.2.2.2.2.2.2.2.2.1,x.2.2.2.2.2.2.2.2.2.1,x.2.2.2.2.2.2.2.2.2.2.1,x.2.2.2.2.2.2.2.2.2.2.2.1,x.2.2.2.2.2.2.2.2.2.2.2.2.1,v,x.2.2.2.2.2.2.2.2.2.2.2.2.2.2)
abbrev U14 {A0 A1 A2 A3 A4 A5 A6 A7 A8 A9 A10 A11 A12 A13 A14 R:Type} (x:A0×A1×A2×A3×A4×A5×A6×A7×A8×A9×A10×A11×A12×A13×A14×R) (v:A14):A0×A1×A2×A3×A4×A5×A6×A7×A8×A9×A10×A11×A12×A13×A14×R:=(x.1,x.2.1,x.2.2.1,x.2.2.2.1,x.2.2.2.2.1,x.2.2.2.2.2.1,x.2.2.2.2.2.2.1,x.2.2.2.2.2.2.2.1,x.2.2.2.2.2.2.2.2.1,x.2.2.2.2.2.2.2.2.2.1,x.2.2.2.2.2.2.2.2.2.2.1,x.2.2.2.2.2.2.2.2.2.2.2.1,x.2.2.2.2.2.2.2.2.2.2.2.2.1,x.2.2.2.2.2.2.2.2.2.2.2.2.2.1,v,x.2.2.2.2.2.2.2.2.2.2.2.2.2.2.2)
def TTx:TT:=[
  (2,⟨.int .i64,1,8,[I 0]⟩),
  (3,⟨.int .i64,1,8,[I 0]⟩),
  (4,⟨.bool,1,1,[.bool false]⟩),
  (5,⟨.int .u8,1,1,[.int .u8 0]⟩),
  (6,⟨.int .u8,1,1,[.int .u8 0]⟩),
  (7,⟨.struct [(0,2),(1,3),(2,4),(3,6)],4,24,[I 0,I 0,.bool false,.int .u8 0]⟩),
  (8,⟨.struct [(0,2),(1,3),(2,4),(3,6)],4,24,[I 0,I 0,.bool false,.int .u8 0]⟩),
  (9,⟨.str,1,16,[.string ByteArray.empty]⟩),
  (10,⟨.str,1,16,[.string ByteArray.empty]⟩),
  (11,⟨.str,1,16,[.string ByteArray.empty]⟩),
  (12,⟨.int .u64,1,8,[.int .u64 0]⟩),
  (13,⟨.struct [(0,9),(1,12)],2,24,[.string ByteArray.empty,.int .u64 0]⟩),
  (14,⟨.struct [(0,9),(1,12)],2,24,[.string ByteArray.empty,.int .u64 0]⟩),
  (21,⟨.int .i32,1,4,[.int .i32 0]⟩),
  (22,⟨.slice 3,1,24,[.slice none 0 0]⟩),
  (23,⟨.struct [(0,22),(1,3)],2,32,[.slice none 0 0,I 0]⟩),
  (24,⟨.struct [(0,22),(1,3)],2,32,[.slice none 0 0,I 0]⟩),
  (25,⟨.slice 193,1,24,[.slice none 0 0]⟩),
  (26,⟨.struct [(0,25)],1,24,[.slice none 0 0]⟩),
  (27,⟨.struct [(0,25)],1,24,[.slice none 0 0]⟩),
  (28,⟨.slice 24,1,24,[.slice none 0 0]⟩),
  (29,⟨.struct [(0,28)],1,24,[.slice none 0 0]⟩),
  (30,⟨.struct [(0,28)],1,24,[.slice none 0 0]⟩),
  (31,⟨.struct [(0,4),(1,3),(2,24),(4,3),(5,3),(6,3),(7,3),(8,3),(9,3),(10,3),(11,27),(12,30),(13,3),(14,24),(16,22),(17,3),(18,24)],20,256,[.bool false,I 0,.slice none 0 0,I 0,I 0,I 0,I 0,I 0,I 0,I 0,I 0,.slice none 0 0,.slice none 0 0,I 0,.slice none 0 0,I 0,.slice none 0 0,I 0,.slice none 0 0,I 0]⟩),
  (32,⟨.struct [(0,4),(1,3),(2,24),(4,3),(5,3),(6,3),(7,3),(8,3),(9,3),(10,3),(11,27),(12,30),(13,3),(14,24),(16,22),(17,3),(18,24)],20,256,[.bool false,I 0,.slice none 0 0,I 0,I 0,I 0,I 0,I 0,I 0,I 0,I 0,.slice none 0 0,.slice none 0 0,I 0,.slice none 0 0,I 0,.slice none 0 0,I 0,.slice none 0 0,I 0]⟩),
  (33,⟨.slice 9,1,24,[.slice none 0 0]⟩),
  (34,⟨.struct [(0,3),(1,33)],2,32,[I 0,.slice none 0 0]⟩),
  (35,⟨.struct [(0,3),(1,33)],2,32,[I 0,.slice none 0 0]⟩),
  (38,⟨.struct [(0,22),(1,3)],2,32,[.slice none 0 0,I 0]⟩),
  (39,⟨.slice 174,1,24,[.slice none 0 0]⟩),
  (40,⟨.struct [(0,39)],1,24,[.slice none 0 0]⟩),
  (41,⟨.struct [(0,39)],1,24,[.slice none 0 0]⟩),
  (42,⟨.slice 38,1,24,[.slice none 0 0]⟩),
  (43,⟨.struct [(0,42)],1,24,[.slice none 0 0]⟩),
  (44,⟨.struct [(0,42)],1,24,[.slice none 0 0]⟩),
  (45,⟨.struct [(0,4),(1,3),(2,38),(4,3),(5,3),(6,3),(7,3),(8,3),(9,3),(10,3),(11,41),(12,44),(13,3),(14,38),(16,22),(17,3),(18,38)],20,256,[.bool false,I 0,.slice none 0 0,I 0,I 0,I 0,I 0,I 0,I 0,I 0,I 0,.slice none 0 0,.slice none 0 0,I 0,.slice none 0 0,I 0,.slice none 0 0,I 0,.slice none 0 0,I 0]⟩),
  (46,⟨.struct [(0,4),(1,3),(2,38),(4,3),(5,3),(6,3),(7,3),(8,3),(9,3),(10,3),(11,41),(12,44),(13,3),(14,38),(16,22),(17,3),(18,38)],20,256,[.bool false,I 0,.slice none 0 0,I 0,I 0,I 0,I 0,I 0,I 0,I 0,I 0,.slice none 0 0,.slice none 0 0,I 0,.slice none 0 0,I 0,.slice none 0 0,I 0,.slice none 0 0,I 0]⟩),
  (50,⟨.struct [(0,3),(1,33)],2,32,[I 0,.slice none 0 0]⟩),
  (60,⟨.struct [(0,3),(1,3)],2,16,[I 0,I 0]⟩),
  (61,⟨.struct [(0,3),(1,3)],2,16,[I 0,I 0]⟩),
  (64,⟨.struct [(0,3),(1,3)],2,16,[I 0,I 0]⟩),
  (69,⟨.slice 5,1,24,[.slice none 0 0]⟩),
  (73,⟨.slice 64,1,24,[.slice none 0 0]⟩),
  (74,⟨.slice 4,1,24,[.slice none 0 0]⟩),
  (163,⟨.struct [(0,69),(1,3),(2,3)],3,40,[.slice none 0 0,I 0,I 0]⟩),
  (164,⟨.struct [(0,69),(1,3),(2,3)],3,40,[.slice none 0 0,I 0,I 0]⟩),
  (173,⟨.struct [(0,22)],1,24,[.slice none 0 0]⟩),
  (174,⟨.struct [(0,22)],1,24,[.slice none 0 0]⟩),
  (193,⟨.struct [(0,22)],1,24,[.slice none 0 0]⟩),
  (197,⟨.int .u64,1,8,[.int .u64 0]⟩),
  (214,⟨.int .u32,1,4,[.int .u32 0]⟩),
  (225,⟨.int .u8,1,1,[.int .u8 0]⟩),
  (226,⟨.int .u8,1,1,[.int .u8 0]⟩),
  (229,⟨.int .i32,1,4,[.int .i32 0]⟩),
  (230,⟨.int .i32,1,4,[.int .i32 0]⟩)]

set_option maxRecDepth 100000 in
theorem aA:dJ Tryz.prog TTx:=dJ.of (by
  simp only [TTx,List.forall_mem_cons]
  exact ⟨⟨⟨_,_,rfl,rfl,rfl,rfl,rfl⟩,rfl⟩,⟨⟨_,_,rfl,rfl,rfl,rfl,rfl⟩,rfl⟩,⟨⟨_,_,rfl,rfl,rfl,rfl,rfl⟩,rfl⟩,⟨⟨_,_,rfl,rfl,rfl,rfl,rfl⟩,rfl⟩,⟨⟨_,_,rfl,rfl,rfl,rfl,rfl⟩,rfl⟩,⟨⟨_,_,rfl,rfl,rfl,rfl,rfl⟩,⟨_,rfl,rfl⟩⟩,⟨⟨_,_,rfl,rfl,rfl,rfl,rfl⟩,⟨_,rfl,rfl⟩⟩,⟨⟨_,_,rfl,rfl,rfl,rfl,rfl⟩,rfl⟩,⟨⟨_,_,rfl,rfl,rfl,rfl,rfl⟩,rfl⟩,⟨⟨_,_,rfl,rfl,rfl,rfl,rfl⟩,rfl⟩,⟨⟨_,_,rfl,rfl,rfl,rfl,rfl⟩,rfl⟩,⟨⟨_,_,rfl,rfl,rfl,rfl,rfl⟩,⟨_,rfl,rfl⟩⟩,⟨⟨_,_,rfl,rfl,rfl,rfl,rfl⟩,⟨_,rfl,rfl⟩⟩,⟨⟨_,_,rfl,rfl,rfl,rfl,rfl⟩,rfl⟩,⟨⟨_,_,rfl,rfl,rfl,rfl,rfl⟩,rfl⟩,⟨⟨_,_,rfl,rfl,rfl,rfl,rfl⟩,⟨_,rfl,rfl⟩⟩,⟨⟨_,_,rfl,rfl,rfl,rfl,rfl⟩,⟨_,rfl,rfl⟩⟩,⟨⟨_,_,rfl,rfl,rfl,rfl,rfl⟩,rfl⟩,⟨⟨_,_,rfl,rfl,rfl,rfl,rfl⟩,⟨_,rfl,rfl⟩⟩,⟨⟨_,_,rfl,rfl,rfl,rfl,rfl⟩,⟨_,rfl,rfl⟩⟩,⟨⟨_,_,rfl,rfl,rfl,rfl,rfl⟩,rfl⟩,⟨⟨_,_,rfl,rfl,rfl,rfl,rfl⟩,⟨_,rfl,rfl⟩⟩,⟨⟨_,_,rfl,rfl,rfl,rfl,rfl⟩,⟨_,rfl,rfl⟩⟩,⟨⟨_,_,rfl,rfl,rfl,rfl,rfl⟩,⟨_,rfl,rfl⟩⟩,⟨⟨_,_,rfl,rfl,rfl,rfl,rfl⟩,⟨_,rfl,rfl⟩⟩,⟨⟨_,_,rfl,rfl,rfl,rfl,rfl⟩,rfl⟩,⟨⟨_,_,rfl,rfl,rfl,rfl,rfl⟩,⟨_,rfl,rfl⟩⟩,⟨⟨_,_,rfl,rfl,rfl,rfl,rfl⟩,⟨_,rfl,rfl⟩⟩,⟨⟨_,_,rfl,rfl,rfl,rfl,rfl⟩,⟨_,rfl,rfl⟩⟩,⟨⟨_,_,rfl,rfl,rfl,rfl,rfl⟩,rfl⟩,⟨⟨_,_,rfl,rfl,rfl,rfl,rfl⟩,⟨_,rfl,rfl⟩⟩,⟨⟨_,_,rfl,rfl,rfl,rfl,rfl⟩,⟨_,rfl,rfl⟩⟩,⟨⟨_,_,rfl,rfl,rfl,rfl,rfl⟩,rfl⟩,⟨⟨_,_,rfl,rfl,rfl,rfl,rfl⟩,⟨_,rfl,rfl⟩⟩,⟨⟨_,_,rfl,rfl,rfl,rfl,rfl⟩,⟨_,rfl,rfl⟩⟩,⟨⟨_,_,rfl,rfl,rfl,rfl,rfl⟩,⟨_,rfl,rfl⟩⟩,⟨⟨_,_,rfl,rfl,rfl,rfl,rfl⟩,⟨_,rfl,rfl⟩⟩,⟨⟨_,_,rfl,rfl,rfl,rfl,rfl⟩,⟨_,rfl,rfl⟩⟩,⟨⟨_,_,rfl,rfl,rfl,rfl,rfl⟩,⟨_,rfl,rfl⟩⟩,⟨⟨_,_,rfl,rfl,rfl,rfl,rfl⟩,⟨_,rfl,rfl⟩⟩,⟨⟨_,_,rfl,rfl,rfl,rfl,rfl⟩,⟨_,rfl,rfl⟩⟩,⟨⟨_,_,rfl,rfl,rfl,rfl,rfl⟩,rfl⟩,⟨⟨_,_,rfl,rfl,rfl,rfl,rfl⟩,rfl⟩,⟨⟨_,_,rfl,rfl,rfl,rfl,rfl⟩,rfl⟩,⟨⟨_,_,rfl,rfl,rfl,rfl,rfl⟩,⟨_,rfl,rfl⟩⟩,⟨⟨_,_,rfl,rfl,rfl,rfl,rfl⟩,⟨_,rfl,rfl⟩⟩,⟨⟨_,_,rfl,rfl,rfl,rfl,rfl⟩,⟨_,rfl,rfl⟩⟩,⟨⟨_,_,rfl,rfl,rfl,rfl,rfl⟩,⟨_,rfl,rfl⟩⟩,⟨⟨_,_,rfl,rfl,rfl,rfl,rfl⟩,⟨_,rfl,rfl⟩⟩,⟨⟨_,_,rfl,rfl,rfl,rfl,rfl⟩,rfl⟩,⟨⟨_,_,rfl,rfl,rfl,rfl,rfl⟩,rfl⟩,⟨⟨_,_,rfl,rfl,rfl,rfl,rfl⟩,rfl⟩,⟨⟨_,_,rfl,rfl,rfl,rfl,rfl⟩,rfl⟩,⟨⟨_,_,rfl,rfl,rfl,rfl,rfl⟩,rfl⟩,⟨⟨_,_,rfl,rfl,rfl,rfl,rfl⟩,rfl⟩,by simp⟩)

def mO (b:List UInt8) (d:Int→Option (List UInt8×Int×Int)) (e:(Int×Int)→Option (List UInt8×Int×Int)):(Int×Int)→Option (List UInt8×Int×Int):=fun (c,a)=>(bif (bif decide (a<(b.length:Int)) then (decide (a<4000)) else false) then (aN (0≤a∧a<(b.length:Int)) <|e ((W (((BitVec.ofInt (IntKind.bits .i64) (W ((W ((W (c*137))+((at' b a).toNat:Int)))+7)) &&& BitVec.ofInt (IntKind.bits .i64) 1073741823).toNat:Int))),(W (a+1)))) else d c)

def sM (a:List UInt8):Option (List UInt8×Int×Int):= (aT (fun (b:Int)=> some (a,0,b)) fun c=>(aZ (mO a c) bO ((W (600128+(a.length:Int))),0)))

theorem aH8 (a:List UInt8) (c:Option Addr) (d:Nat) (r:List UInt8×Int×Int) (h:sM a=some r):
 FC Tryz.prog 89 [sL c a d] [⟨.byte,⟨c,a.length,d⟩,a⟩] (fun _:Option Addr=>True) (fun q=>.pointer q) (fun q=>[⟨(.pair .val (.pair iT iT)),⟨q,1,1⟩,[((Sl.v ⟨c,a.length,d⟩),r.2)]⟩]):= by
 refine FC.of (T:=TTx) Tryz.call89 Tryz.func89 E E fun n=>?_
 unfold sM at h
 refine aE aA 1 [] ev5 E E (gI aA 4 [(W (600128+(a.length:Int)))] [] [(3,.v (I (W (600128+(a.length:Int)))))] _ ev4 E E (JS.seq (aE aA 1 [(4,.v (I 0))] ev1 E E ?_)))
 obtain ⟨i,l,h⟩:=aM h
 refine bA (ι:=Int) ⟨fun z=>i z=some r,fun z=>[(0,.v (sL c a d)),(3,.v (I z))],fun z=>.nil,fun z=>[⟨.byte,⟨c,a.length,d⟩,a⟩],fun z=>[],fun z=>0⟩ ?_ ?_
 ·
  refine JS.loop (ι:=Nat×Int×Int) ⟨fun z=>aZ (mO a i) z.1 z.2=some r,fun z=>[(0,.v (sL c a d)),(3,.v (I z.2.1)),(4,.v (I z.2.2))],fun z=>.nil,fun z=>[⟨.byte,⟨c,a.length,d⟩,a⟩],fun z=>[],fun z=>z.1⟩ (bO,(W (600128+(a.length:Int))),0) h (Es E) V [0] E [] E ?_
  rintro ⟨j,e,b⟩ h
  obtain ⟨j,rfl,h⟩:=bK h
  rw [mO] at h
  refine JS.seq (aE aA 8 [(15,.v (.bool (bif (decide (b<(a.length:Int))) then (decide (b<4000)) else false)))] ev1 E E ?_)
  refine aJ E h (fun h=>?_) (fun h=>?_)
  ·
   refine JS.skip (JS.seq (JS.block (JS.region (cC 0 E fun m=>?_))))
   obtain ⟨k,h⟩:=aH h
   refine aB aA 5 [(W (e*137))] [] [(19,.v (I (W (e*137)))),(22,.ep ⟨c,a.length,d⟩ (Int.toNat b*1))] _ E ⟨ev5,m.ix k,(Es E),E⟩ (JO.load aA E E E E E E E 0 E E (Int.toNat b) 0 (at' a b) ⟨bH k,E⟩ E E (aB aA 5 [((at' a b).toNat:Int),(W ((W (e*137))+((at' a b).toNat:Int))),(W ((W ((W (e*137))+((at' a b).toNat:Int)))+7)),(W (((BitVec.ofInt (IntKind.bits .i64) (W ((W ((W (e*137))+((at' a b).toNat:Int)))+7)) &&& BitVec.ofInt (IntKind.bits .i64) 1073741823).toNat:Int)))] [] [(3,.v (I (W (((BitVec.ofInt (IntKind.bits .i64) (W ((W ((W (e*137))+((at' a b).toNat:Int)))+7)) &&& BitVec.ofInt (IntKind.bits .i64) 1073741823).toNat:Int)))))] _ E ⟨⟨V,aD7 _⟩,ev5,ev5,ev5,ev2,E⟩ (aC E (aV (cS aA 3 [(W (b+1))] [] [(4,.v (I (W (b+1))))] _ ev4 E E (bZ (j,(W (((BitVec.ofInt (IntKind.bits .i64) (W ((W ((W (e*137))+((at' a b).toNat:Int)))+7)) &&& BitVec.ofInt (IntKind.bits .i64) 1073741823).toNat:Int))),(W (b+1))) h (Nat.lt_succ_self _) (Es E) V [0] E [] E))))))
  refine JS.exit E (aO e h (Es E) V [0] E [] E)
 rintro g h
 subst l
 refine aS aA 5 [] [9] [(2,.bp 9 0),(31,.bp 9 0)] (.new 9 164 [sL c a d,I 0,I g] .nil) ⟨(Es E),(Bs E E)⟩ E E (aQj 9 E (B':=.nil) V E (.pair .val (.pair iT iT)) ((Sl.v ⟨c,a.length,d⟩),0,g) ev9 (fun f=>[(0,.v (sL c a d)),(2,.ep ⟨f,1,1⟩ 0),(3,.v (I g)),(31,.ep ⟨f,1,1⟩ 0)]) (fun _=>(Es E)) fun f=>?_)
 cases h
 exact JS.ret aA f V E E [0] E

def fQ (a:List UInt8×Int×Int):Option (Int×List UInt8×Int×Int):= (aT (fun ((c,d):Int×Int)=> some (c,(a.1,d,(W ((W (a.2.2*6364136223846793005))+1442695040888963407))))) fun b=>(bif decide (a.2.1<(a.1.length:Int)) then (aN (0≤a.2.1∧a.2.1<(a.1.length:Int)) <|b ((W (((BitVec.ofInt (IntKind.bits .i64) (W ((W (((BitVec.ofInt (IntKind.bits .i64) (W (((BitVec.ofInt (IntKind.bits .i64) (Int.fdiv (W ((W (a.2.2*6364136223846793005))+1442695040888963407)) (2 ^ (min (Int.toNat 33) (IntKind.bits .i64)))) ^^^ BitVec.ofInt (IntKind.bits .i64) (Int.fdiv (W ((W (a.2.2*6364136223846793005))+1442695040888963407)) (2 ^ (min (Int.toNat 45) (IntKind.bits .i64))))).toNat:Int))) &&& BitVec.ofInt (IntKind.bits .i64) 255).toNat:Int)))+((at' a.1 a.2.1).toNat:Int))) &&& BitVec.ofInt (IntKind.bits .i64) 255).toNat:Int))),(W (a.2.1+1)))) else b ((W (((BitVec.ofInt (IntKind.bits .i64) (W (((BitVec.ofInt (IntKind.bits .i64) (Int.fdiv (W ((W (a.2.2*6364136223846793005))+1442695040888963407)) (2 ^ (min (Int.toNat 33) (IntKind.bits .i64)))) ^^^ BitVec.ofInt (IntKind.bits .i64) (Int.fdiv (W ((W (a.2.2*6364136223846793005))+1442695040888963407)) (2 ^ (min (Int.toNat 45) (IntKind.bits .i64))))).toNat:Int))) &&& BitVec.ofInt (IntKind.bits .i64) 255).toNat:Int))),a.2.1)))

theorem oM (a:List UInt8×Int×Int) (e:Option Addr) (c:Option Addr) (d:Nat) (r:Int×List UInt8×Int×Int) (h:fQ a=some r):
 FX Tryz.prog 175 [.pointer e] [⟨.byte,⟨c,a.1.length,d⟩,a.1⟩] [⟨(.pair .val (.pair iT iT)),⟨e,1,1⟩,[((Sl.v ⟨c,a.1.length,d⟩),a.2)]⟩] (fun _:Unit=>True) (fun _=>I r.1) (fun _=>[⟨(.pair .val (.pair iT iT)),⟨e,1,1⟩,[((Sl.v ⟨c,a.1.length,d⟩),r.2.2)]⟩]):= by
 refine FX.of (T:=TTx) Tryz.call175 Tryz.func175 E E fun n L0=>?_
 unfold fQ at h
 refine gS 0 e E ?_
 refine aE aA 1 [] ev5 E E (JS.seq (JS.region (cC 1 E fun b=>aB aA 4 [] [] [(4,.ep ⟨e,1,1⟩ 0),(7,.ep ⟨e,1,1⟩ 2)] _ E ⟨(b.fa tP).1,b.fa tP,(Es E),E⟩ (dI aA E E E E E E 1 E E 0 2 ((Sl.v ⟨c,a.1.length,d⟩),a.2) ev7 E E E (aB aA 4 [(W (a.2.2*6364136223846793005)),(W ((W (a.2.2*6364136223846793005))+1442695040888963407))] [] [(10,.v (I (W ((W (a.2.2*6364136223846793005))+1442695040888963407)))),(12,.ep ⟨e,1,1⟩ 2)] _ E ⟨ev5,ev5,(b.fa tP).1,b.fa tP,(Es E),E⟩ (pW aA E E E E E E E E E [0] (fs:=[]) E 0 2 ((Sl.v ⟨c,a.1.length,d⟩),a.2) ((Sl.v ⟨c,a.1.length,d⟩),a.2.1,(W ((W (a.2.2*6364136223846793005))+1442695040888963407))) ev7 ⟨⟨⟨E,E,E⟩,E⟩,E⟩ (aC E (JS.seq ?_))))))))
 have g:(0:Int)≤33:=by decide
 have i:(0:Int)≤45:=by decide
 refine eZ E (by kernel_rfl) (eC aA 3 [] [(15,.ep ⟨e,1,1⟩ 2)] E ⟨(b.fa tP).1,b.fa tP,ev2⟩ (qZ aA E E E E E E 1 E E 0 2 ((Sl.v ⟨c,a.1.length,d⟩),a.2.1,(W ((W (a.2.2*6364136223846793005))+1442695040888963407))) ev7 E E E (eC aA 4 [] [(17,.v (I (Int.fdiv (W ((W (a.2.2*6364136223846793005))+1442695040888963407)) (2 ^ (min (Int.toNat 33) (IntKind.bits .i64)))))),(20,.ep ⟨e,1,1⟩ 2)] E ⟨g,(b.fa tP).1,b.fa tP,(Es E)⟩ (qZ aA E E E E E E 1 E E 0 2 ((Sl.v ⟨c,a.1.length,d⟩),a.2.1,(W ((W (a.2.2*6364136223846793005))+1442695040888963407))) ev7 E E E (eC aA 4 [(W (((BitVec.ofInt (IntKind.bits .i64) (Int.fdiv (W ((W (a.2.2*6364136223846793005))+1442695040888963407)) (2 ^ (min (Int.toNat 33) (IntKind.bits .i64)))) ^^^ BitVec.ofInt (IntKind.bits .i64) (Int.fdiv (W ((W (a.2.2*6364136223846793005))+1442695040888963407)) (2 ^ (min (Int.toNat 45) (IntKind.bits .i64))))).toNat:Int))),(W (((BitVec.ofInt (IntKind.bits .i64) (W (((BitVec.ofInt (IntKind.bits .i64) (Int.fdiv (W ((W (a.2.2*6364136223846793005))+1442695040888963407)) (2 ^ (min (Int.toNat 33) (IntKind.bits .i64)))) ^^^ BitVec.ofInt (IntKind.bits .i64) (Int.fdiv (W ((W (a.2.2*6364136223846793005))+1442695040888963407)) (2 ^ (min (Int.toNat 45) (IntKind.bits .i64))))).toNat:Int))) &&& BitVec.ofInt (IntKind.bits .i64) 255).toNat:Int)))] [(3,.v (I (W (((BitVec.ofInt (IntKind.bits .i64) (W (((BitVec.ofInt (IntKind.bits .i64) (Int.fdiv (W ((W (a.2.2*6364136223846793005))+1442695040888963407)) (2 ^ (min (Int.toNat 33) (IntKind.bits .i64)))) ^^^ BitVec.ofInt (IntKind.bits .i64) (Int.fdiv (W ((W (a.2.2*6364136223846793005))+1442695040888963407)) (2 ^ (min (Int.toNat 45) (IntKind.bits .i64))))).toNat:Int))) &&& BitVec.ofInt (IntKind.bits .i64) 255).toNat:Int)))))] E ⟨i,ev5,ev5,ev2⟩ (kW E ?_))))))
 obtain ⟨j,k,h⟩:=aM h
 refine cJ (ι:=Int×Int) ⟨fun z=>j z=some r,fun z=>[(3,.v (I z.1))],fun z=>.nil,fun z=>[⟨.byte,⟨c,a.1.length,d⟩,a.1⟩],fun z=>[⟨(.pair .val (.pair iT iT)),⟨e,1,1⟩,[((Sl.v ⟨c,a.1.length,d⟩),z.2,(W ((W (a.2.2*6364136223846793005))+1442695040888963407)))]⟩],fun z=>0⟩ ?_ ?_
 ·
  refine JS.seq (eZ E (by kernel_rfl) (eC aA 3 [] [(27,.ep ⟨e,1,1⟩ 1)] E ⟨(b.fa tP).1,b.fa tP,ev2⟩ (qZ aA E E E E E E 1 E E 0 1 ((Sl.v ⟨c,a.1.length,d⟩),a.2.1,(W ((W (a.2.2*6364136223846793005))+1442695040888963407))) ev7 E E E (eC aA 3 [] [(31,.ep ⟨e,1,1⟩ 0)] E ⟨(b.fa tP).1,b.fa tP,ev2⟩ (qZ aA E E E E E E 1 E E 0 0 ((Sl.v ⟨c,a.1.length,d⟩),a.2.1,(W ((W (a.2.2*6364136223846793005))+1442695040888963407))) ev7 E E E (eC aA 2 [] [(34,.v (.bool (decide (a.2.1<(a.1.length:Int)))))] E ev2 (kW E ?_)))))))
  refine aJ E h (fun h=>?_) (fun h=>?_)
  ·
   refine JS.seq ?_
   obtain ⟨f,h⟩:=aH h
   refine iK 0 E fun l=>eZ E (by kernel_rfl) (eC aA 4 [] [(35,.v (I (W (((BitVec.ofInt (IntKind.bits .i64) (W (((BitVec.ofInt (IntKind.bits .i64) (Int.fdiv (W ((W (a.2.2*6364136223846793005))+1442695040888963407)) (2 ^ (min (Int.toNat 33) (IntKind.bits .i64)))) ^^^ BitVec.ofInt (IntKind.bits .i64) (Int.fdiv (W ((W (a.2.2*6364136223846793005))+1442695040888963407)) (2 ^ (min (Int.toNat 45) (IntKind.bits .i64))))).toNat:Int))) &&& BitVec.ofInt (IntKind.bits .i64) 255).toNat:Int))))),(38,.ep ⟨e,1,1⟩ 0)] E ⟨(b.fa tP).1,b.fa tP,(Es E)⟩ (qZ aA E E E E E E 1 E E 0 0 ((Sl.v ⟨c,a.1.length,d⟩),a.2.1,(W ((W (a.2.2*6364136223846793005))+1442695040888963407))) ev7 E E E (eC aA 3 [] [(42,.ep ⟨e,1,1⟩ 1)] E ⟨(b.fa tP).1,b.fa tP,ev2⟩ (qZ aA E E E E E E 1 E E 0 1 ((Sl.v ⟨c,a.1.length,d⟩),a.2.1,(W ((W (a.2.2*6364136223846793005))+1442695040888963407))) ev7 E E E (eC aA 1 [] [(44,.ep ⟨c,a.1.length,d⟩ (Int.toNat a.2.1*1))] E ⟨l.ix f,ev2⟩ (JQ.load aA E E E E E E E 0 E E (Int.toNat a.2.1) 0 (at' a.1 a.2.1) ⟨bH f,E⟩ E E (eC aA 4 [((at' a.1 a.2.1).toNat:Int),(W ((W (((BitVec.ofInt (IntKind.bits .i64) (W (((BitVec.ofInt (IntKind.bits .i64) (Int.fdiv (W ((W (a.2.2*6364136223846793005))+1442695040888963407)) (2 ^ (min (Int.toNat 33) (IntKind.bits .i64)))) ^^^ BitVec.ofInt (IntKind.bits .i64) (Int.fdiv (W ((W (a.2.2*6364136223846793005))+1442695040888963407)) (2 ^ (min (Int.toNat 45) (IntKind.bits .i64))))).toNat:Int))) &&& BitVec.ofInt (IntKind.bits .i64) 255).toNat:Int)))+((at' a.1 a.2.1).toNat:Int))),(W (((BitVec.ofInt (IntKind.bits .i64) (W ((W (((BitVec.ofInt (IntKind.bits .i64) (W (((BitVec.ofInt (IntKind.bits .i64) (Int.fdiv (W ((W (a.2.2*6364136223846793005))+1442695040888963407)) (2 ^ (min (Int.toNat 33) (IntKind.bits .i64)))) ^^^ BitVec.ofInt (IntKind.bits .i64) (Int.fdiv (W ((W (a.2.2*6364136223846793005))+1442695040888963407)) (2 ^ (min (Int.toNat 45) (IntKind.bits .i64))))).toNat:Int))) &&& BitVec.ofInt (IntKind.bits .i64) 255).toNat:Int)))+((at' a.1 a.2.1).toNat:Int))) &&& BitVec.ofInt (IntKind.bits .i64) 255).toNat:Int)))] [(3,.v (I (W (((BitVec.ofInt (IntKind.bits .i64) (W ((W (((BitVec.ofInt (IntKind.bits .i64) (W (((BitVec.ofInt (IntKind.bits .i64) (Int.fdiv (W ((W (a.2.2*6364136223846793005))+1442695040888963407)) (2 ^ (min (Int.toNat 33) (IntKind.bits .i64)))) ^^^ BitVec.ofInt (IntKind.bits .i64) (Int.fdiv (W ((W (a.2.2*6364136223846793005))+1442695040888963407)) (2 ^ (min (Int.toNat 45) (IntKind.bits .i64))))).toNat:Int))) &&& BitVec.ofInt (IntKind.bits .i64) 255).toNat:Int)))+((at' a.1 a.2.1).toNat:Int))) &&& BitVec.ofInt (IntKind.bits .i64) 255).toNat:Int)))))] E ⟨⟨V,aD7 _⟩,ev5,ev5,ev2⟩ (kW E (JS.region (aB aA 4 [] [] [(49,.ep ⟨e,1,1⟩ 0),(52,.ep ⟨e,1,1⟩ 1)] _ E ⟨(b.fa tP).1,b.fa tP,(Es E),E⟩ (dI aA E E E E E E 1 E E 0 1 ((Sl.v ⟨c,a.1.length,d⟩),a.2.1,(W ((W (a.2.2*6364136223846793005))+1442695040888963407))) ev7 E E E (aB aA 3 [(W (a.2.1+1))] [] [(54,.v (I (W (a.2.1+1)))),(56,.ep ⟨e,1,1⟩ 1)] _ E ⟨ev5,(b.fa tP).1,b.fa tP,(Es E),E⟩ (pW aA E E E E E E E E E [0] (fs:=[]) E 0 1 ((Sl.v ⟨c,a.1.length,d⟩),a.2.1,(W ((W (a.2.2*6364136223846793005))+1442695040888963407))) ((Sl.v ⟨c,a.1.length,d⟩),(W (a.2.1+1)),(W ((W (a.2.2*6364136223846793005))+1442695040888963407))) ev7 ⟨⟨⟨E,E,E⟩,E⟩,E⟩ (aC E (aO ((W (((BitVec.ofInt (IntKind.bits .i64) (W ((W (((BitVec.ofInt (IntKind.bits .i64) (W (((BitVec.ofInt (IntKind.bits .i64) (Int.fdiv (W ((W (a.2.2*6364136223846793005))+1442695040888963407)) (2 ^ (min (Int.toNat 33) (IntKind.bits .i64)))) ^^^ BitVec.ofInt (IntKind.bits .i64) (Int.fdiv (W ((W (a.2.2*6364136223846793005))+1442695040888963407)) (2 ^ (min (Int.toNat 45) (IntKind.bits .i64))))).toNat:Int))) &&& BitVec.ofInt (IntKind.bits .i64) 255).toNat:Int)))+((at' a.1 a.2.1).toNat:Int))) &&& BitVec.ofInt (IntKind.bits .i64) 255).toNat:Int))),(W (a.2.1+1))) h ev2 V [0] E [0] E)))))))))))))))
  refine JS.skip (aO ((W (((BitVec.ofInt (IntKind.bits .i64) (W (((BitVec.ofInt (IntKind.bits .i64) (Int.fdiv (W ((W (a.2.2*6364136223846793005))+1442695040888963407)) (2 ^ (min (Int.toNat 33) (IntKind.bits .i64)))) ^^^ BitVec.ofInt (IntKind.bits .i64) (Int.fdiv (W ((W (a.2.2*6364136223846793005))+1442695040888963407)) (2 ^ (min (Int.toNat 45) (IntKind.bits .i64))))).toNat:Int))) &&& BitVec.ofInt (IntKind.bits .i64) 255).toNat:Int))),a.2.1) h ev2 V [0] E [0] E)
 rintro ⟨m,o⟩ h
 subst k
 refine aE aA 2 [(2,.v (I m))] ev1 E E ?_
 cases h
 exact cU aA () V E E [0] E

def aU (a:List UInt8×Int×Int) (b:Int):Option (Int×List UInt8×Int×Int):= (bif decide (b≤0) then some (0,a) else (bif decide (b≤256) then (aF (fQ a) fun (h,c)=>(aN (b≠0) <|some ((Int.tmod h b),(a.1,c.2.1,c.2.2)))) else (aF (fQ a) fun (i,d)=>(aF (fQ (a.1,d.2.1,d.2.2)) fun (j,e)=>(aF (fQ (a.1,e.2.1,e.2.2)) fun (k,f)=>(aF (fQ (a.1,f.2.1,f.2.2)) fun (l,g)=>(aN (b≠0) <|some ((Int.tmod (W ((W ((W ((W (i*16777216))+(W (j*65536))))+(W (k*256))))+l)) b),(a.1,g.2.1,g.2.2)))))))))

theorem bD (b:List UInt8×Int×Int) (e:Int) (a:Option Addr) (c:Option Addr) (d:Nat) (r:Int×List UInt8×Int×Int) (h:aU b e=some r):
 FX Tryz.prog 94 [.pointer a,I e] [⟨.byte,⟨c,b.1.length,d⟩,b.1⟩] [⟨(.pair .val (.pair iT iT)),⟨a,1,1⟩,[((Sl.v ⟨c,b.1.length,d⟩),b.2)]⟩] (fun _:Unit=>True) (fun _=>I r.1) (fun _=>[⟨(.pair .val (.pair iT iT)),⟨a,1,1⟩,[((Sl.v ⟨c,b.1.length,d⟩),r.2.2)]⟩]):= by
 refine FX.of (T:=TTx) Tryz.call94 Tryz.func94 E E fun x L0=>?_
 unfold aU at h
 refine gS 0 a E ?_
 refine aE aA 1 [] ev5 E E (JS.seq (aE aA 2 [(10,.v (.bool (decide (e≤0))))] ev1 E E ?_))
 refine aJ E h (fun h=>?_) (fun h=>?_)
 ·
  refine aE aA 1 [(4,.v (I 0))] ev1 E E ?_
  cases h
  exact cU aA () V E E [0] E
 refine JS.skip (JS.seq (aE aA 2 [(12,.v (.bool (decide (e≤256))))] ev1 E E ?_))
 refine aJ E h (fun h=>?_) (fun h=>?_)
 ·
  refine JS.seq (JS.region (aB aA 1 [] [] [(13,.ep ⟨a,1,1⟩ 0)] _ E ev1 ?_))
  obtain ⟨⟨k,y⟩,l,h⟩:=aD h
  refine bL E E E E (oM b a c d _ l) E [0] E [0] E E fun _ _=>?_
  obtain ⟨m,h⟩:=aH h
  refine aB aA 3 [] [] [(4,.v (I (Int.tmod k e)))] _ E ⟨m,ev2,E⟩ (aC E ?_)
  cases h
  exact cU aA () V E E [0] E
 refine JS.skip (JS.seq (JS.region (aB aA 1 [] [] [(17,.ep ⟨a,1,1⟩ 0)] _ E ev1 ?_)))
 obtain ⟨⟨f,n⟩,o,h⟩:=aD h
 refine bL E E E E (oM b a c d _ o) E [0] E [0] E E fun _ _=>aB aA 1 [] [] [(5,.v (I f))] _ E ev1 (aC E (JS.seq (JS.region (aB aA 1 [] [] [(19,.ep ⟨a,1,1⟩ 0)] _ E ev1 ?_))))
 obtain ⟨⟨g,p⟩,q,h⟩:=aD h
 refine bL E E E E (oM (b.1,n.2) a c d _ q) E [0] E [0] E E fun _ _=>aB aA 1 [] [] [(6,.v (I g))] _ E ev1 (aC E (JS.seq (JS.region (aB aA 1 [] [] [(21,.ep ⟨a,1,1⟩ 0)] _ E ev1 ?_))))
 obtain ⟨⟨i,s⟩,t,h⟩:=aD h
 refine bL E E E E (oM (b.1,p.2) a c d _ t) E [0] E [0] E E fun _ _=>aB aA 1 [] [] [(7,.v (I i))] _ E ev1 (aC E (JS.seq (JS.region (aB aA 1 [] [] [(23,.ep ⟨a,1,1⟩ 0)] _ E ev1 ?_))))
 obtain ⟨⟨j,z⟩,u,h⟩:=aD h
 refine bL E E E E (oM (b.1,s.2) a c d _ u) E [0] E [0] E E fun _ _=>aB aA 1 [] [] [(8,.v (I j))] _ E ev1 (aC E (JS.seq (JS.region ?_)))
 obtain ⟨w,h⟩:=aH h
 refine aB aA 13 [(W (f*16777216)),(W (g*65536)),(W ((W (f*16777216))+(W (g*65536)))),(W (i*256)),(W ((W ((W (f*16777216))+(W (g*65536))))+(W (i*256)))),(W ((W ((W ((W (f*16777216))+(W (g*65536))))+(W (i*256))))+j))] [] [(4,.v (I (Int.tmod (W ((W ((W ((W (f*16777216))+(W (g*65536))))+(W (i*256))))+j)) e)))] _ E ⟨ev5,ev5,ev5,ev5,ev5,ev5,w,ev2,E⟩ (aC E ?_)
 cases h
 exact cU aA () V E E [0] E

def xP (a:Bool):Option EdQ:= (bif a then some (true,1,([],0),0,0,0,0,0,0,0,[],[],0,([],0),[],0,([],0)) else some (false,0,([],0),0,0,0,0,0,0,0,[],[],0,([],0),[],0,([],0)))

theorem aKu (a:Bool) (r:EdQ) (h:xP a=some r) :
 FC Tryz.prog 91 [.bool a] [] (fun _:Unit=>True) (fun _=>.agg (aG (r.1,r.2.1,([],r.2.2.1.2),r.2.2.2.1,(Q4 r).1,(Q4 r).2.1,(Q4 r).2.2.1,(Q4 r).2.2.2.1,(Q8 r).1,(Q8 r).2.1,[],[],(Q12 r).1,([],(Q12 r).2.1.2),[],(Q12 r).2.2.2.1,([],(Q16 r).2)) (none,0,none,0,none,0,none,0,none,0,none,0)).toArray) (fun _=>[]):= by
 refine FC.of (T:=TTx) Tryz.call91 Tryz.func91 E E fun b=>?_
 unfold xP at h
 refine aS aA 1 [] [1] [(2,.bp 1 0)] (.new 1 46 bG .nil) ⟨ev2,(Bs E E)⟩ E E (JS.seq (aE aA 1 [(3,.v (.bool a))] ev1 E E ?_))
 refine aJ E h (fun h=>?_) (fun h=>?_)
 ·
  refine aS aA 2 [] [] [] (.new 1 46 (aG (true,1,([],0),0,0,0,0,0,0,0,[],[],0,([],0),[],0,([],0)) (none,0,none,0,none,0,none,0,none,0,none,0)) .nil) ⟨V,(Bs E E)⟩ E E ?_
  cases h
  exact JS.ret aA () V E E [] E
 refine JS.skip (aS aA 2 [] [] [] (.new 1 46 bG .nil) ⟨V,(Bs E E)⟩ E E ?_)
 cases h
 exact JS.ret aA () V E E [] E

def iD (a:List UInt8×Int×Int):Option (Int×List UInt8×Int×Int):= (aF (aU a 12) fun (c,b)=>(bif decide (c<9) then (aF (aU (a.1,b.2.1,b.2.2) 16) fun (d,e)=>(aN (0≤d∧d<(([97,98,99,120,49,50,32,32,46,45,95,233,4352,20013,128512,47]:List Int).length:Int)) <|some ((at' ([97,98,99,120,49,50,32,32,46,45,95,233,4352,20013,128512,47]:List Int) d),(a.1,e.2.1,e.2.2)))) else (bif decide (c=9) then (aF (aU (a.1,b.2.1,b.2.2) 94) fun (i,f)=> some ((W (33+i)),(a.1,f.2.1,f.2.2))) else (bif decide (c=10) then (aF (aU (a.1,b.2.1,b.2.2) 300) fun (j,g)=> some ((W (160+j)),(a.1,g.2.1,g.2.2))) else (aF (aU (a.1,b.2.1,b.2.2) 2000) fun (k,h)=> some ((W (19968+k)),(a.1,h.2.1,h.2.2)))))))

theorem uV (b:List UInt8×Int×Int) (a:Option Addr) (c:Option Addr) (d:Nat) (r:Int×List UInt8×Int×Int) (h:iD b=some r):
 FX Tryz.prog 172 [.pointer a] [⟨.byte,⟨c,b.1.length,d⟩,b.1⟩] [⟨(.pair .val (.pair iT iT)),⟨a,1,1⟩,[((Sl.v ⟨c,b.1.length,d⟩),b.2)]⟩] (fun _:Unit=>True) (fun _=>I r.1) (fun _=>[⟨(.pair .val (.pair iT iT)),⟨a,1,1⟩,[((Sl.v ⟨c,b.1.length,d⟩),r.2.2)]⟩]):= by
 refine FX.of (T:=TTx) Tryz.call172 Tryz.func172 E E fun u L0=>?_
 unfold iD at h
 refine gS 0 a E ?_
 refine aE aA 1 [] ev5 E E (JS.seq (JS.region (aB aA 1 [] [] [(4,.ep ⟨a,1,1⟩ 0)] _ E ev1 ?_)))
 obtain ⟨⟨e,f⟩,m,h⟩:=aD h
 refine bL E E E E (bD b 12 a c d _ m) E [0] E [0] E E fun _ _=>aB aA 1 [] [] [(3,.v (I e))] _ E ev1 (aC E (JS.seq (aE aA 2 [(7,.v (.bool (decide (e<9))))] ev1 E E ?_)))
 refine aJ E h (fun h=>?_) (fun h=>?_)
 ·
  refine JS.seq (JS.region ?_)
  refine kU E (JK.buildSlice aA E E E E E E E E E E E [] E iT [97,98,99,120,49,50,32,32,46,45,95,233,4352,20013,128512,47] ⟨E,E⟩ E E fun n=>kT ?_)
  refine aB aA 1 [] [] [(9,.ep ⟨a,1,1⟩ 0)] _ E ev1 ?_
  obtain ⟨⟨g,w⟩,o,h⟩:=aD h
  refine bL E E E E (bD (b.1,f.2) 16 a c d _ o) E [1] E [0] E E fun _ _=>cC 2 E fun p=>?_
  obtain ⟨i,h⟩:=aH h
  refine aB aA 1 [] [] [(11,.ep ⟨n,([97,98,99,120,49,50,32,32,46,45,95,233,4352,20013,128512,47]:List Int).length,([97,98,99,120,49,50,32,32,46,45,95,233,4352,20013,128512,47]:List Int).length⟩ (Int.toNat g*1))] _ E ⟨p.ix i,ev2,E⟩ (JO.load aA E E E E E E E 2 E E (Int.toNat g) 0 (at' ([97,98,99,120,49,50,32,32,46,45,95,233,4352,20013,128512,47]:List Int) g) ⟨bH i,E⟩ E E (aB aA 1 [] [] [(2,.v (I (at' ([97,98,99,120,49,50,32,32,46,45,95,233,4352,20013,128512,47]:List Int) g)))] _ E ev1 (aC E ?_)))
  cases h
  exact cU aA () V E E [0] E
 refine JS.skip (JS.seq (aE aA 2 [(14,.v (.bool (decide (e=9))))] ev1 E E ?_))
 refine aJ E h (fun h=>?_) (fun h=>?_)
 ·
  refine JS.seq (JS.region (aB aA 1 [] [] [(15,.ep ⟨a,1,1⟩ 0)] _ E ev1 ?_))
  obtain ⟨⟨j,x⟩,q,h⟩:=aD h
  refine bL E E E E (bD (b.1,f.2) 94 a c d _ q) E [0] E [0] E E fun _ _=>aB aA 2 [(W (33+j))] [] [(2,.v (I (W (33+j))))] _ E ev4 (aC E ?_)
  cases h
  exact cU aA () V E E [0] E
 refine JS.skip (JS.seq (aE aA 2 [(19,.v (.bool (decide (e=10))))] ev1 E E ?_))
 refine aJ E h (fun h=>?_) (fun h=>?_)
 ·
  refine JS.seq (JS.region (aB aA 1 [] [] [(20,.ep ⟨a,1,1⟩ 0)] _ E ev1 ?_))
  obtain ⟨⟨k,y⟩,s,h⟩:=aD h
  refine bL E E E E (bD (b.1,f.2) 300 a c d _ s) E [0] E [0] E E fun _ _=>aB aA 2 [(W (160+k))] [] [(2,.v (I (W (160+k))))] _ E ev4 (aC E ?_)
  cases h
  exact cU aA () V E E [0] E
 refine JS.skip (JS.seq (JS.region (aB aA 1 [] [] [(23,.ep ⟨a,1,1⟩ 0)] _ E ev1 ?_)))
 obtain ⟨⟨l,z⟩,t,h⟩:=aD h
 refine bL E E E E (bD (b.1,f.2) 2000 a c d _ t) E [0] E [0] E E fun _ _=>aB aA 2 [(W (19968+l))] [] [(2,.v (I (W (19968+l))))] _ E ev4 (aC E ?_)
 cases h
 exact cU aA () V E E [0] E

def jY (g:List UInt8×Int×Int) (h:(List Int×Int×Int)→Option (List Int×List UInt8×Int×Int)) (i:(List Int×Int×Int×Int)→Option (List Int×List UInt8×Int×Int)):(List Int×Int×Int×Int)→Option (List Int×List UInt8×Int×Int):=fun (a,b,c,d)=>(bif decide (0<b) then (aF (iD (g.1,c,d)) fun (e,f)=>(aN (a.length+([e]:List Int).length≤536870912) <|i ((a ++ ([e]:List Int)),(W (b - 1)),f.2.1,f.2.2))) else h (a,c,d))

def iC (a:List UInt8×Int×Int) (c:Int):Option (List Int×List UInt8×Int×Int):= (aF (aU a (W (c+1))) fun (d,b)=>(aT (fun ((e,f,g):List Int×Int×Int)=> some (e,(a.1,f,g))) fun h=>(aZ (jY a h) bO (([]:List Int),d,b.2.1,b.2.2))))

theorem xY (a:List UInt8×Int×Int) (e:Int) (b:Option Addr) (c:Option Addr) (d:Nat) (r:List Int×List UInt8×Int×Int) (h:iC a e=some r):
 FX Tryz.prog 90 [.pointer b,I e] [⟨.byte,⟨c,a.1.length,d⟩,a.1⟩] [⟨(.pair .val (.pair iT iT)),⟨b,1,1⟩,[((Sl.v ⟨c,a.1.length,d⟩),a.2)]⟩] (fun _:Option Addr×Nat=>True) (fun q=>sL q.1 r.1 q.2) (fun q=>[⟨(.pair .val (.pair iT iT)),⟨b,1,1⟩,[((Sl.v ⟨c,a.1.length,d⟩),r.2.2)]⟩,fI q.1 q.2 r.1]):= by
 refine FX.of (T:=TTx) Tryz.call90 Tryz.func90 E E fun H L0=>?_
 unfold iC at h
 refine gS 0 b E ?_
 refine aE aA 1 [] ev5 E E (JS.seq (JS.region ?_))
 refine kU E (JK.buildSlice aA E E E E E E E E E E E [] E iT [] ⟨E,E⟩ E E fun j=>kT ?_)
 refine aB aA 1 [] [] [(5,.v (sL j ([]:List Int) ([]:List Int).length))] _ E ev1 (aC E (JS.seq (JS.seq (JS.region (aB aA 3 [(W (e+1))] [] [(8,.ep ⟨b,1,1⟩ 0),(10,.v (I (W (e+1))))] _ E ⟨ev5,(Es E),E⟩ ?_)))))
 obtain ⟨⟨k,l⟩,B,h⟩:=aD h
 refine bL E E E E (bD a (W (e+1)) b c d _ B) E [1] E [0] E E fun _ _=>aB aA 1 [] [] [(6,.v (I k))] _ E ev1 (aC E ?_)
 obtain ⟨m,C,h⟩:=aM h
 refine bA (ι:=List Int×Int×Int×Option Addr×Nat) ⟨fun z=>m (z.1,z.2.1,z.2.2.1)=some r,fun z=>[(5,.v (sL z.2.2.2.1 z.1 (Q4 z)))],fun z=>.nil,fun z=>[⟨.byte,⟨c,a.1.length,d⟩,a.1⟩],fun z=>[fI z.2.2.2.1 (Q4 z) z.1,⟨(.pair .val (.pair iT iT)),⟨b,1,1⟩,[((Sl.v ⟨c,a.1.length,d⟩),z.2.1,z.2.2.1)]⟩],fun z=>0⟩ ?_ ?_
 ·
  refine JS.loop (ι:=Nat×List Int×Int×Int×Int×Option Addr×Nat) ⟨fun z=>aZ (jY a m) z.1 (z.2.1,z.2.2.1,z.2.2.2.1,(Q4 z).1)=some r,fun z=>[(0,.ep ⟨b,1,1⟩ 0),(5,.v (sL (Q4 z).2.1 z.2.1 (Q4 z).2.2)),(6,.v (I z.2.2.1))],fun z=>.nil,fun z=>[⟨.byte,⟨c,a.1.length,d⟩,a.1⟩],fun z=>[fI (Q4 z).2.1 (Q4 z).2.2 z.2.1,⟨(.pair .val (.pair iT iT)),⟨b,1,1⟩,[((Sl.v ⟨c,a.1.length,d⟩),z.2.2.2.1,(Q4 z).1)]⟩],fun z=>z.1⟩ (bO,([]:List Int),k,l.2.1,l.2.2,j,([]:List Int).length) h (Es E) V [0] E [1,0] E ?_
  rintro ⟨n,f,g,o,p,s,t⟩ h
  obtain ⟨n,rfl,h⟩:=bK h
  rw [jY] at h
  refine JS.seq (aE aA 2 [(13,.v (.bool (decide (0<g))))] ev1 E E ?_)
  refine aJ E h (fun h=>?_) (fun h=>?_)
  ·
   refine JS.skip (JS.seq (JS.block (JS.region (aB aA 2 [] [] [(16,.v (sL s f t)),(17,.ep ⟨b,1,1⟩ 0)] _ E ⟨(Es E),E⟩ ?_))))
   obtain ⟨⟨i,u⟩,D,h⟩:=aD h
   refine bL E E E E (uV (a.1,o,p) b c d _ D) E [1] E [0] E E fun _ _=>?_
   refine kU E (JK.buildSlice aA E E E E E E E E E E E [] E iT [i] ⟨E,E⟩ E E fun J=>kT ?_)
   obtain ⟨F,h⟩:=aH h
   refine jK aA E E E E ⟨E,E,E,E,V,E,E,E,E⟩ E E E [2] E 1 E F E fun w x=>aB aA 1 [] [] [(5,.v (sL w (f ++ ([i]:List Int)) x))] _ E ev1 (aC E (aV (cS aA 3 [(W (g - 1))] [] [(6,.v (I (W (g - 1))))] _ ev4 E E (bZ (n,(f ++ ([i]:List Int)),(W (g - 1)),u.2.1,u.2.2,w,x) h (Nat.lt_succ_self _) (Es E) V [0] E [0,1] E))))
  refine JS.exit E (aO (f,o,p,s,t) h ev2 V [0] E [0,0] E)
 rintro ⟨G,K,L,y,A⟩ h
 subst C
 refine aE aA 2 [(4,.v (sL y G A))] ev1 E E ?_
 cases h
 exact cU aA (y,A) V E E [1,0] E

def gU (g:List UInt8×Int×Int) (n:List Int) (o:(List Int×Int×Int)→Option (List Int×List UInt8×Int×Int)) (p:(List Int×Int×Int×Int)→Option (List Int×List UInt8×Int×Int)):(List Int×Int×Int×Int)→Option (List Int×List UInt8×Int×Int):=fun (b,a,h,i)=>(bif decide (a<(n.length:Int)) then (aT (fun ((q,r,s):List Int×Int×Int)=> p (q,(W (a+1)),r,s)) fun j=>(aF (aU (g.1,h,i) 14) fun (d,c)=>(aT (fun (e:List Int)=>(aT (fun (f:List Int)=>(bif decide (d=2) then (aF (aU (g.1,c.2.1,c.2.2) 26) fun (t,k)=>(aN (0≤a∧a<(f.length:Int)) <|j ((List.set f (Int.toNat a) (W (65+t))),k.2.1,k.2.2))) else j (f,c.2.1,c.2.2))) fun l=>(bif decide (d=1) then (aN (0≤a∧a<(e.length:Int)) <|l (List.set e (Int.toNat a) 10)) else l e))) fun m=>(bif decide (d=0) then (aN (0≤a∧a<(b.length:Int)) <|m (List.set b (Int.toNat a) 9)) else m b)))) else o (b,h,i))

def iA (a:List UInt8×Int×Int) (d:Int):Option (List Int×List UInt8×Int×Int):= (aF (iC a d) fun (b,c)=>(aT (fun ((e,f,g):List Int×Int×Int)=> some (e,(a.1,f,g))) fun h=>(aZ (gU a b h) bO (b,0,c.2.1,c.2.2))))

theorem xX (a:List UInt8×Int×Int) (l:Int) (c:Option Addr) (d:Option Addr) (e:Nat) (r:List Int×List UInt8×Int×Int) (h:iA a l=some r):
 FX Tryz.prog 173 [.pointer c,I l] [⟨.byte,⟨d,a.1.length,e⟩,a.1⟩] [⟨(.pair .val (.pair iT iT)),⟨c,1,1⟩,[((Sl.v ⟨d,a.1.length,e⟩),a.2)]⟩] (fun _:Option Addr×Nat=>True) (fun q=>sL q.1 r.1 q.2) (fun q=>[⟨(.pair .val (.pair iT iT)),⟨c,1,1⟩,[((Sl.v ⟨d,a.1.length,e⟩),r.2.2)]⟩,fI q.1 q.2 r.1]):= by
 refine FX.of (T:=TTx) Tryz.call173 Tryz.func173 E E fun w0 L0=>?_
 unfold iA at h
 refine gS 0 c E ?_
 refine aE aA 1 [] ev5 E E (JS.seq (JS.region (aB aA 2 [] [] [(8,.ep ⟨c,1,1⟩ 0),(9,.v (I l))] _ E ⟨(Es E),E⟩ ?_)))
 obtain ⟨⟨f,x⟩,N,h⟩:=aD h
 refine bL E E E E (xY a l c d e _ N) E [0] E [0] E E ?_
 rintro ⟨y,A⟩ -
 refine aB aA 1 [] [] [(5,.v (sL y f A))] _ E ev1 (aC E (JS.seq (aE aA 3 [(12,.v (I (f.length:Int))),(13,.v (I 0))] ⟨(Es E),E⟩ E E ?_)))
 obtain ⟨B,O,h⟩:=aM h
 refine bA (ι:=List Int×Int×Int×Option Addr×Nat) ⟨fun z=>B (z.1,z.2.1,z.2.2.1)=some r,fun z=>[(5,.v (sL z.2.2.2.1 z.1 (Q4 z)))],fun z=>.nil,fun z=>[⟨.byte,⟨d,a.1.length,e⟩,a.1⟩],fun z=>[fI z.2.2.2.1 (Q4 z) z.1,⟨(.pair .val (.pair iT iT)),⟨c,1,1⟩,[((Sl.v ⟨d,a.1.length,e⟩),z.2.1,z.2.2.1)]⟩],fun z=>0⟩ ?_ ?_
 ·
  refine JS.loop (ι:=Nat×List Int×Int×Int×Int×Option Addr×Nat) ⟨fun z=>aZ (gU a f B) z.1 (z.2.1,z.2.2.1,z.2.2.2.1,(Q4 z).1)=some r,fun z=>[(0,.ep ⟨c,1,1⟩ 0),(5,.v (sL (Q4 z).2.1 z.2.1 (Q4 z).2.2)),(12,.v (I (f.length:Int))),(13,.v (I z.2.2.1))],fun z=>.nil,fun z=>[⟨.byte,⟨d,a.1.length,e⟩,a.1⟩],fun z=>[fI (Q4 z).2.1 (Q4 z).2.2 z.2.1,⟨(.pair .val (.pair iT iT)),⟨c,1,1⟩,[((Sl.v ⟨d,a.1.length,e⟩),z.2.2.2.1,(Q4 z).1)]⟩],fun z=>z.1⟩ (bO,f,0,x.2.1,x.2.2,y,A) h (Es E) V [0] E [1,0] E ?_
  rintro ⟨C,i,b,D,F,m,n⟩ h
  obtain ⟨C,rfl,h⟩:=bK h
  rw [gU] at h
  refine aE aA 1 [(14,.v (.bool (decide (b<(f.length:Int)))))] ev1 E E (JS.seq ?_)
  refine aJ E h (fun h=>?_) (fun h=>?_)
  ·
   refine JS.skip (JS.seq ?_)
   obtain ⟨P,Q,h⟩:=aM h
   refine bA (ι:=List Int×Int×Int×Option Addr×Nat) ⟨fun z=>P (z.1,z.2.1,z.2.2.1)=some r,fun z=>[(0,.ep ⟨c,1,1⟩ 0),(5,.v (sL z.2.2.2.1 z.1 (Q4 z))),(12,.v (I (f.length:Int))),(13,.v (I b))],fun z=>.nil,fun z=>[⟨.byte,⟨d,a.1.length,e⟩,a.1⟩],fun z=>[fI z.2.2.2.1 (Q4 z) z.1,⟨(.pair .val (.pair iT iT)),⟨c,1,1⟩,[((Sl.v ⟨d,a.1.length,e⟩),z.2.1,z.2.2.1)]⟩],fun z=>0⟩ ?_ ?_
   ·
    refine aE aA 2 [(6,.v (I b))] ev1 E E (JS.seq (JS.region (aB aA 1 [] [] [(16,.ep ⟨c,1,1⟩ 0)] _ E ev1 ?_)))
    obtain ⟨⟨g,j⟩,R,h⟩:=aD h
    refine bL E E E E (bD (a.1,D,F) 14 c d e _ R) E [1] E [0] E E fun _ _=>aB aA 1 [] [] [(7,.v (I g))] _ E ev1 (aC E ?_)
    obtain ⟨S,U,h⟩:=aM h
    refine cJ (ι:=List Int×Option Addr×Nat) ⟨fun z=>S z.1=some r,fun z=>[(0,.ep ⟨c,1,1⟩ 0),(5,.v (sL z.2.1 z.1 z.2.2)),(6,.v (I b)),(7,.v (I g)),(12,.v (I (f.length:Int))),(13,.v (I b))],fun z=>.nil,fun z=>[⟨.byte,⟨d,a.1.length,e⟩,a.1⟩],fun z=>[fI z.2.1 z.2.2 z.1,⟨(.pair .val (.pair iT iT)),⟨c,1,1⟩,[((Sl.v ⟨d,a.1.length,e⟩),j.2)]⟩],fun z=>0⟩ ?_ ?_
    ·
     refine aE aA 2 [(19,.v (.bool (decide (g=0))))] ev1 E E ?_
     refine aJ E h (fun h=>?_) (fun h=>?_)
     ·
      refine JS.region (cC 2 E fun X=>?_)
      obtain ⟨G,h⟩:=aH h
      refine aB aA 3 [] [] [(22,.ep ⟨m,i.length,n⟩ (Int.toNat b*1))] _ E ⟨X.ix G,ev2,E⟩ (pW aA E E E E E E E E E [1] (fs:=[]) E (Int.toNat b) 0 (at' i b) 9 ⟨bH G,E⟩ ev9 (aC E (aO ((List.set i (Int.toNat b) 9),m,n) h ⟨E,(by simp only [List.length_set,List.length_replicate,cV,fU,sL,fI,vD];rfl),E,E,E,E,V⟩ V [0] E [0,0] (by simp only [List.length_set,List.length_replicate,cV,fU,sL,fI,vD];rfl))))
     refine JS.skip (aO (i,m,n) h (Es E) V [0] E [1,0] E)
    rintro ⟨o,u,w⟩ h
    subst U
    obtain ⟨Y,Z,h⟩:=aM h
    refine cJ (ι:=List Int×Option Addr×Nat) ⟨fun z=>Y z.1=some r,fun z=>[(0,.ep ⟨c,1,1⟩ 0),(5,.v (sL z.2.1 z.1 z.2.2)),(6,.v (I b)),(7,.v (I g)),(12,.v (I (f.length:Int))),(13,.v (I b))],fun z=>.nil,fun z=>[⟨.byte,⟨d,a.1.length,e⟩,a.1⟩],fun z=>[fI z.2.1 z.2.2 z.1,⟨(.pair .val (.pair iT iT)),⟨c,1,1⟩,[((Sl.v ⟨d,a.1.length,e⟩),j.2)]⟩],fun z=>0⟩ ?_ ?_
    ·
     refine aE aA 2 [(24,.v (.bool (decide (g=1))))] ev1 E E ?_
     refine aJ E h (fun h=>?_) (fun h=>?_)
     ·
      refine JS.region (cC 1 E fun a0=>?_)
      obtain ⟨H,h⟩:=aH h
      refine aB aA 3 [] [] [(27,.ep ⟨u,o.length,w⟩ (Int.toNat b*1))] _ E ⟨a0.ix H,ev2,E⟩ (pW aA E E E E E E E E E [0] (fs:=[]) E (Int.toNat b) 0 (at' o b) 10 ⟨bH H,E⟩ ev9 (aC E (aO ((List.set o (Int.toNat b) 10),u,w) h ⟨E,(by simp only [List.length_set,List.length_replicate,cV,fU,sL,fI,vD];rfl),E,E,E,E,V⟩ V [0] E [0,0] (by simp only [List.length_set,List.length_replicate,cV,fU,sL,fI,vD];rfl))))
     refine JS.skip (aO (o,u,w) h (Es E) V [0] E [0,0] E)
    rintro ⟨k,p,s⟩ h
    subst Z
    refine aE aA 2 [(29,.v (.bool (decide (g=2))))] ev1 E E ?_
    refine aJ E h (fun h=>?_) (fun h=>?_)
    ·
     refine JS.region (aB aA 3 [] [] [(30,.v (sL p k s)),(31,.v (I b)),(32,.ep ⟨c,1,1⟩ 0)] _ E ⟨(Es E),E⟩ ?_)
     obtain ⟨⟨t,J⟩,a1,h⟩:=aD h
     refine bL E E E E (bD (a.1,j.2) 26 c d e _ a1) E [1] E [0] E E fun _ _=>cC 2 E fun a2=>?_
     obtain ⟨K,h⟩:=aH h
     refine aB aA 2 [(W (65+t))] [] [(34,.v (I (W (65+t)))),(35,.ep ⟨p,k.length,s⟩ (Int.toNat b*1))] _ E ⟨ev5,a2.ix K,(Es E),E⟩ (pW aA E E E E E E E E E [1] (fs:=[]) E (Int.toNat b) 0 (at' k b) (W (65+t)) ⟨bH K,E⟩ ev9 (aC E (aV (aO ((List.set k (Int.toNat b) (W (65+t))),J.2.1,J.2.2,p,s) h ⟨E,(by simp only [List.length_set,List.length_replicate,cV,fU,sL,fI,vD];rfl),E,E,V⟩ V [0] E [0,0] (by simp only [List.length_set,List.length_replicate,cV,fU,sL,fI,vD];rfl)))))
    refine JS.skip (aV (aO (k,j.2.1,j.2.2,p,s) h (Es E) V [0] E [0,0] E))
   rintro ⟨a5,a6,a7,a8,a9⟩ h
   subst Q
   refine cS aA 2 [(W (b+1))] [] [(13,.v (I (W (b+1))))] _ ev4 E E (bZ (C,a5,(W (b+1)),a6,a7,a8,a9) h (Nat.lt_succ_self _) (Es E) V [0] E [0,0] E)
  refine JS.exit E (aO (i,D,F,m,n) h ev2 V [0] E [0,0] E)
 rintro ⟨b0,b2,b3,L,M⟩ h
 subst O
 refine aE aA 2 [(4,.v (sL L b0 M))] ev1 E E ?_
 cases h
 exact cU aA (L,M) V E E [1,0] E

def iB (a:List UInt8×Int×Int):Option ((List Int×Int)×List UInt8×Int×Int):= (aF (iA a 16) fun (b,c)=>(aF (aU (a.1,c.2.1,c.2.2) (W ((b.length:Int)+1))) fun (e,d)=> some ((b,e),(a.1,d.2.1,d.2.2))))

theorem rL (a:List UInt8×Int×Int) (b:Option Addr) (d:Option Addr) (e:Nat) (r:(List Int×Int)×List UInt8×Int×Int) (h:iB a=some r):
 FX Tryz.prog 92 [.pointer b] [⟨.byte,⟨d,a.1.length,e⟩,a.1⟩] [⟨(.pair .val (.pair iT iT)),⟨b,1,1⟩,[((Sl.v ⟨d,a.1.length,e⟩),a.2)]⟩] (fun _:Option Addr×Nat=>True) (fun q=>.agg #[sL q.1 r.1.1 q.2,I r.1.2]) (fun q=>[⟨(.pair .val (.pair iT iT)),⟨b,1,1⟩,[((Sl.v ⟨d,a.1.length,e⟩),r.2.2)]⟩,fI q.1 q.2 r.1.1]):= by
 refine FX.of (T:=TTx) Tryz.call92 Tryz.func92 E E fun m L0=>?_
 unfold iB at h
 refine gS 0 b E ?_
 refine aS aA 1 [] [3] [(2,.bp 3 0)] (.new 3 38 [.slice none 0 0,I 0] .nil) ⟨ev2,(Bs E E)⟩ E E (JS.seq (JS.region (aB aA 1 [] [] [(4,.ep ⟨b,1,1⟩ 0)] _ E ev1 ?_)))
 obtain ⟨⟨c,i⟩,j,h⟩:=aD h
 refine bL E E E E (xX a 16 b d e _ j) E [0] E [0] E E ?_
 rintro ⟨f,g⟩ -
 refine aB aA 1 [] [] [(3,.v (sL f c g))] _ E ev1 (aC E (JS.seq (JS.region (aB aA 5 [(W ((c.length:Int)+1))] [] [(6,.v (sL f c g)),(7,.ep ⟨b,1,1⟩ 0),(10,.v (I (W ((c.length:Int)+1))))] _ E ⟨ev5,(Es E),E⟩ ?_))))
 obtain ⟨⟨k,n⟩,l,h⟩:=aD h
 refine bL E E E E (bD (a.1,i.2) (W ((c.length:Int)+1)) b d e _ l) E [0] E [0] E E fun _ _=>aL aA 2 [] [] [] (.new 3 38 [sL f c g,I k] .nil) E ⟨V,(Bs E E)⟩ (aC E ?_)
 cases h
 exact cU aA (f,g) V E E [0,0] E

def vG (a:Int):Option Bool:= some (bif (bif decide (0≤a) then (decide (a≤1114111)) else false) then (bif decide (a<55296) then true else (decide (57343<a))) else false)

theorem aIa (a:Int) (r:Bool) (h:vG a=some r) :
 FC Tryz.prog 230 [I a] [] (fun _:Unit=>True) (fun _=>.bool r) (fun _=>[]):= by
 refine FC.of (T:=TTx) Tryz.call230 Tryz.func230 E E fun b=>?_
 unfold vG at h
 refine aE aA 1 [] ev5 E E (aE aA 15 [(2,.v (.bool (bif (bif (decide (0≤a)) then (decide (a≤1114111)) else false) then (bif (decide (a<55296)) then true else (decide (57343<a))) else false)))] ev1 E E ?_)
 cases h
 exact JS.ret aA () V E E [] E

def kO (a:Int):Option Bool:= (aF (vG a) fun b=> some (bif (bif b then (decide (32≤a)) else false) then (bif decide (a<127) then true else (decide (159<a))) else false))

theorem wF (a:Int) (r:Bool) (h:kO a=some r) :
 FC Tryz.prog 132 [I a] [] (fun _:Unit=>True) (fun _=>.bool r) (fun _=>[]):= by
 refine FC.of (T:=TTx) Tryz.call132 Tryz.func132 E E fun d=>?_
 unfold kO at h
 refine aE aA 1 [] ev5 E E (JS.seq (JS.region (aB aA 1 [] [] [(3,.v (I a))] _ E ev1 ?_)))
 refine bnw h fun b c h=>JO.call E E E E (aIa a _ c) E [] E E fun _ _=>aB aA 13 [] [] [(2,.v (.bool (bif (bif b then (decide (32≤a)) else false) then (bif (decide (a<127)) then true else (decide (159<a))) else false)))] _ E ev1 (aC E ?_)
 cases h
 exact JS.ret aA () V E E [] E

def oY (a:Int):Option Bool:= (aF (kO a) fun b=> some (bif (bif b then true else (decide (a=9))) then true else (decide (a=10))))

theorem aEm (a:Int) (r:Bool) (h:oY a=some r) :
 FC Tryz.prog 283 [I a] [] (fun _:Unit=>True) (fun _=>.bool r) (fun _=>[]):= by
 refine FC.of (T:=TTx) Tryz.call283 Tryz.func283 E E fun d=>?_
 unfold oY at h
 refine aE aA 1 [] ev5 E E (JS.seq (JS.region (aB aA 1 [] [] [(3,.v (I a))] _ E ev1 ?_)))
 refine bnw h fun b c h=>JO.call E E E E (wF a _ c) E [] E E fun _ _=>aB aA 9 [] [] [(2,.v (.bool (bif (bif b then true else (decide (a=9))) then true else (decide (a=10)))))] _ E ev1 (aC E ?_)
 cases h
 exact JS.ret aA () V E E [] E

def fK (b:List Int) (c:Unit→Option Bool) (d:Int→Option Bool):Int→Option Bool:=fun a=>(bif decide (a<(b.length:Int)) then (aN (0≤a∧a<(b.length:Int)) <|(aF (oY (at' b a)) fun e=>(bif (!e) then some false else d (W (a+1))))) else c ())

def gV (a:List Int):Option Bool:= (aT (fun (_:Unit)=> some true) fun b=>(aZ (fK a b) bO 0))

theorem tR (a:List Int) (c:Option Addr) (d:Nat) (r:Bool) (h:gV a=some r):
 FC Tryz.prog 227 [sL c a d] [fI c d a] (fun _:Unit=>True) (fun _=>.bool r) (fun _=>[]):= by
 refine FC.of (T:=TTx) Tryz.call227 Tryz.func227 E E fun m=>?_
 unfold gV at h
 refine aE aA 1 [] ev5 E E (JS.seq (aE aA 3 [(5,.v (sL c a d)),(6,.v (I (a.length:Int))),(7,.v (I 0))] ⟨(Es E),E⟩ E E ?_))
 obtain ⟨e,i,h⟩:=aM h
 refine bA (ι:=Unit) ⟨fun _=>e ()=some r,fun _=>[],fun _=>.nil,fun _=>[],fun _=>[],fun _=>0⟩ ?_ ?_
 ·
  refine JS.loop (ι:=Nat×Int) ⟨fun z=>aZ (fK a e) z.1 z.2=some r,fun z=>[(5,.v (sL c a d)),(6,.v (I (a.length:Int))),(7,.v (I z.2))],fun z=>.nil,fun z=>[fI c d a],fun z=>[],fun z=>z.1⟩ (bO,0) h (Es E) V [0] E [] E ?_
  rintro ⟨f,b⟩ h
  obtain ⟨f,rfl,h⟩:=bK h
  rw [fK] at h
  refine aE aA 1 [(8,.v (.bool (decide (b<(a.length:Int)))))] ev1 E E (JS.seq ?_)
  refine aJ E h (fun h=>?_) (fun h=>?_)
  ·
   refine JS.skip (JS.seq (JS.block (JS.seq (JS.region (cC 0 E fun j=>?_)))))
   obtain ⟨g,h⟩:=aH h
   refine aB aA 1 [] [] [(9,.ep ⟨c,a.length,d⟩ (Int.toNat b*1))] _ E ⟨j.ix g,ev2,E⟩ (JO.load aA E E E E E E E 0 E E (Int.toNat b) 0 (at' a b) ⟨bH g,E⟩ E E (aB aA 1 [] [] [(4,.v (I (at' a b)))] _ E ev1 (aC E (JS.seq (JS.region (aB aA 1 [] [] [(11,.v (I (at' a b)))] _ E ev1 ?_))))))
   refine bnw h fun k l h=>JO.call E E E E (aEm (at' a b) _ l) E [] E E fun _ _=>aB aA 1 [] [] [(13,.v (.bool (!k)))] _ E ev1 (aC E ?_)
   refine aJ E h (fun h=>?_) (fun h=>?_)
   ·
    refine aE aA 1 [(2,.v (.bool false))] ev1 E E ?_
    cases h
    exact JS.ret aA () V E E [] E
   refine JS.skip (aV (cS aA 2 [(W (b+1))] [] [(7,.v (I (W (b+1))))] _ ev4 E E (bZ (f,(W (b+1))) h (Nat.lt_succ_self _) (Es E) V [0] E [] E)))
  refine JS.exit E (aO () h V V [] E [] E)
 rintro _ h
 subst i
 refine aE aA 1 [(2,.v (.bool true))] ev1 E E ?_
 cases h
 exact JS.ret aA () V E E [] E

def hZ (a:List Int):Option Bool:= (cA ((decide ((a.length:Int)≤400))=true) (gV a) false fun b=> some (bif decide ((a.length:Int)≤400) then b else false))

theorem xW (a:List Int) (b:Option Addr) (c:Nat) (r:Bool) (h:hZ a=some r):
 FC Tryz.prog 229 [sL b a c] [fI b c a] (fun _:Unit=>True) (fun _=>.bool r) (fun _=>[]):= by
 refine FC.of (T:=TTx) Tryz.call229 Tryz.func229 E E fun g=>?_
 unfold hZ at h
 refine aE aA 1 [] ev5 E E (JS.seq (JS.region (aB aA 5 [] [] [(6,.v (.bool (decide ((a.length:Int)≤400)))),(7,.cd [(6,true)] (.v (sL b a c)))] _ E ⟨(Es E),E⟩ ?_)))
 obtain ⟨d,e,-,h⟩:=bB h
 refine bR E E E E (fun f=>tR a b c _ (e f)) E [0] E E (aB aA 2 [] [] [(2,.v (.bool (bif (decide ((a.length:Int)≤400)) then d else false)))] _ E ev1 (aC E ?_))
 cases h
 exact JS.ret aA () V E E [] E

def mQ (b:List (List Int)) (c:Unit→Option Bool) (d:Int→Option Bool):Int→Option Bool:=fun a=>(bif decide (a<(b.length:Int)) then (aN (0≤a∧a<(b.length:Int)) <|(cA ((decide (((at' b a).length:Int)=0))=false) (hZ (at' b a)) false fun e=>(bif (bif decide (((at' b a).length:Int)=0) then true else (!e)) then some false else d (W (a+1))))) else c ())

def sO (a:List (List Int)):Option Bool:= (aT (fun (_:Unit)=> some (decide ((a.length:Int)≤6))) fun b=>(aZ (mQ a b) bO 0))

theorem aIb (a:List (List Int)) (c:Option Addr) (d:Nat) (r:Bool) (h:sO a=some r):
 FC Tryz.prog 130 [.agg #[sL c a d]] [⟨(.sl iT),⟨c,a.length,d⟩,a⟩] (fun _:Unit=>True) (fun _=>.bool r) (fun _=>[]):= by
 refine FC.of (T:=TTx) Tryz.call130 Tryz.func130 E E fun q=>?_
 unfold sO at h
 refine aS aA 2 [] [2] [(1,.bp 2 0)] (.new 2 41 [sL c a d] .nil) ⟨ev2,(Bs E E)⟩ E E (JS.seq (aE aA 4 [(6,.v (sL c a d)),(7,.v (I (a.length:Int))),(8,.v (I 0))] ⟨(Es E),E⟩ E E ?_))
 obtain ⟨g,k,h⟩:=aM h
 refine bA (ι:=Unit) ⟨fun _=>g ()=some r,fun _=>[(1,.bp 2 0)],fun _=>(.new 2 41 [sL c a d] .nil),fun _=>[⟨(.sl iT),⟨c,a.length,d⟩,a⟩],fun _=>[],fun _=>0⟩ ?_ ?_
 ·
  refine JS.loop (ι:=Nat×Int) ⟨fun z=>aZ (mQ a g) z.1 z.2=some r,fun z=>[(1,.bp 2 0),(6,.v (sL c a d)),(7,.v (I (a.length:Int))),(8,.v (I z.2))],fun z=>(.new 2 41 [sL c a d] .nil),fun z=>[⟨(.sl iT),⟨c,a.length,d⟩,a⟩],fun z=>[],fun z=>z.1⟩ (bO,0) h (Es E) (Bs E E) [0] E [] E ?_
  rintro ⟨i,b⟩ h
  obtain ⟨i,rfl,h⟩:=bK h
  rw [mQ] at h
  refine aE aA 1 [(9,.v (.bool (decide (b<(a.length:Int)))))] ev1 E E (JS.seq ?_)
  refine aJ E h (fun h=>?_) (fun h=>?_)
  ·
   refine JS.skip (JS.seq (JS.block (JS.seq (JS.region (cC 0 E fun l=>?_)))))
   obtain ⟨j,h⟩:=aH h
   refine aB aA 1 [] [] [(10,.ep ⟨c,a.length,d⟩ (Int.toNat b*1))] _ E ⟨l.ix j,ev2,E⟩ (nH 0 E (Int.toNat b) (at' a b) E fun e f s t m=>dI aA E E E E E E 0 E E (Int.toNat b) 0 (Sl.v ⟨e,(at' a b).length,f⟩) ⟨m (tY j),E⟩ E E E (aL aA 2 [] [16] [(4,.bp 16 0)] (.new 2 41 [sL c a d] (.new 16 174 [sL e (at' a b) f] .nil)) E ⟨ev2,(Bs E E)⟩ (aC E (JS.seq (JS.region (aB aA 7 [] [] [(16,.v (.bool (decide (((at' a b).length:Int)=0)))),(18,.cd [(16,false)] (.v (sL e (at' a b) f)))] _ E ⟨(Es E),E⟩ ?_))))))
   obtain ⟨n,o,-,h⟩:=bB h
   refine bR E E E E (fun p=>xW (at' a b) e f _ (o p)) E [1] E E (aB aA 2 [] [] [(21,.v (.bool (bif (decide (((at' a b).length:Int)=0)) then true else (!n))))] _ E ev1 (aC E ?_))
   refine aJ E h (fun h=>?_) (fun h=>?_)
   ·
    refine aE aA 1 [(2,.v (.bool false))] ev1 E E ?_
    cases h
    exact JS.ret aA () V E E [] E
   refine JS.skip (aV (cS aA 2 [(W (b+1))] [] [(8,.v (I (W (b+1))))] _ ev4 E E (bZ (i,(W (b+1))) h (Nat.lt_succ_self _) (Es E) (Bs E E) [2] E [] E)))
  refine JS.exit E (aO () h ev2 (Bs E E) [0] E [] E)
 rintro _ h
 subst k
 refine aE aA 5 [(2,.v (.bool (decide ((a.length:Int)≤6))))] ev1 E E ?_
 cases h
 exact JS.ret aA () V E E [] E

def lH (b:List (List Int)) (d:(List (List Int))→Option (List (List Int))) (e:(Int×List (List Int))→Option (List (List Int))):(Int×List (List Int))→Option (List (List Int)):=fun (a,c)=>(bif decide (a<(b.length:Int)) then (aN (0≤a∧a<(b.length:Int)) <|(aN (([]:List Int).length+(at' b a).length≤536870912) <|(aN (c.length+([(([]:List Int) ++ (at' b a))]:List (List Int)).length≤536870912) <|e ((W (a+1)),(c ++ ([(([]:List Int) ++ (at' b a))]:List (List Int))))))) else d c)

def qQ (a:List (List Int)):Option (List (List Int)):= (aT (fun (b:List (List Int))=> some b) fun c=>(aZ (lH a c) bO (0,([]:List (List Int)))))

theorem aGa (a:List (List Int)) (c:Option Addr) (d:Nat) (r:List (List Int)) (h:qQ a=some r):
 FC Tryz.prog 137 [.agg #[sL c a d]] [⟨(.sl iT),⟨c,a.length,d⟩,a⟩] (fun _:Option Addr×Nat=>True) (fun q=>.agg #[sL q.1 r q.2]) (fun q=>[⟨(.sl iT),⟨q.1,r.length,q.2⟩,r⟩]):= by
 refine FC.of (T:=TTx) Tryz.call137 Tryz.func137 E E fun D=>?_
 unfold qQ at h
 refine aS aA 2 [] [2,3] [(1,.bp 2 0),(2,.bp 3 0)] (.new 2 41 [sL c a d] (.new 3 41 [.slice none 0 0] .nil)) ⟨(Es E),(Bs E E)⟩ E E (aS aA 3 [] [4] [(3,.bp 4 0)] (.new 2 41 [sL c a d] (.new 3 41 [.slice none 0 0] (.new 4 41 [.slice none 0 0] .nil))) ⟨ev2,(Bs E E)⟩ E E (JS.seq (aE aA 4 [(8,.v (sL c a d)),(9,.v (I (a.length:Int))),(10,.v (I 0))] ⟨(Es E),E⟩ E E ?_)))
 obtain ⟨k,t,h⟩:=aM h
 refine bA (ι:=List (List Int)×Option Addr×Nat) ⟨fun z=>k z.1=some r,fun z=>[(2,.bp 3 0),(3,.bp 4 0)],fun z=>(.new 3 41 [.slice none 0 0] (.new 4 41 [sL z.2.1 z.1 z.2.2] .nil)),fun z=>[],fun z=>[⟨(.sl iT),⟨z.2.1,z.1.length,z.2.2⟩,z.1⟩],fun z=>0⟩ ?_ ?_
 ·
  refine aX (.sl iT) Sl.nil E E (JS.loop (ι:=Nat×Int×List (List Int)×Option Addr×Nat) ⟨fun z=>aZ (lH a k) z.1 (z.2.1,z.2.2.1)=some r,fun z=>[(2,.bp 3 0),(3,.bp 4 0),(8,.v (sL c a d)),(9,.v (I (a.length:Int))),(10,.v (I z.2.1))],fun z=>(.new 3 41 [.slice none 0 0] (.new 4 41 [sL z.2.2.2.1 z.2.2.1 (Q4 z)] .nil)),fun z=>[⟨(.sl iT),⟨c,a.length,d⟩,a⟩],fun z=>[⟨(.sl iT),⟨z.2.2.2.1,z.2.2.1.length,(Q4 z)⟩,z.2.2.1⟩],fun z=>z.1⟩ (bO,0,([]:List (List Int)),none,0) h (Es E) (Bs E E) [0] E [0] E ?_)
  rintro ⟨l,b,e,f,g⟩ h
  obtain ⟨l,rfl,h⟩:=bK h
  rw [lH] at h
  refine aE aA 1 [(11,.v (.bool (decide (b<(a.length:Int)))))] ev1 E E (JS.seq ?_)
  refine aJ E h (fun h=>?_) (fun h=>?_)
  ·
   refine JS.skip (JS.seq (JS.block (JS.seq (JS.region (cC 0 E fun u=>?_)))))
   obtain ⟨m,h⟩:=aH h
   refine aB aA 1 [] [] [(12,.ep ⟨c,a.length,d⟩ (Int.toNat b*1))] _ E ⟨u.ix m,ev2,E⟩ (nH 0 E (Int.toNat b) (at' a b) E fun i j F G w=>dI aA E E E E E E 0 E E (Int.toNat b) 0 (Sl.v ⟨i,(at' a b).length,j⟩) ⟨w (tY m),E⟩ E E E (aL aA 2 [] [22] [(5,.bp 22 0)] (.new 3 41 [.slice none 0 0] (.new 4 41 [sL f e g] (.new 22 174 [sL i (at' a b) j] .nil))) E ⟨ev2,(Bs E E)⟩ (aC E ?_)))
   obtain ⟨x,h⟩:=aH h
   obtain ⟨y,h⟩:=aH h
   refine bE E (.new 4 41 [sL f e g] (.new 22 174 [sL i (at' a b) j] .nil)) [] [8,9,10] ev6 E (fun H=>?_)
   refine cD aA aI true 7 [0,1,3,4] E (by kernel_rfl) [] [(15,.v (sL f e g)),(18,.v (sL i (at' a b) j))] ⟨E,E,E,E,E,E,E,E,V⟩ [] E E (Es E) (JA.one 2 (by kernel_rfl) (JK.buildSlice aA E E E E E E E E E E E [] E iT [] ⟨E,E⟩ E E fun J=>aQ ⟨E,E,E,E,E,E,E,E,V⟩ [] E (JA.one 5 (by kernel_rfl) (bN aA E E E E ⟨E,E,E,E,V,E,E,E,E⟩ E E E [0] E 1 E x E fun A B=>aQ ⟨E,E,E,E,E,E,E,E,V⟩ [] E (cD aA aI true 4 [6] E (by kernel_rfl) [] [(20,.v (.agg #[sL A (([]:List Int) ++ (at' a b)) B]))] ⟨E,E,E,E,E,E,E,E,V⟩ [] E E ⟨E,V⟩ (JA.one 7 (by kernel_rfl) (JK.buildSlice aA E E E E E E E E E E E [0] E (.sl iT) [(([]:List Int) ++ (at' a b))] ⟨E,E,E⟩ E E fun K=>aQ ⟨E,E,E,E,E,E,E,E,V⟩ [] E (JA.one 8 (by kernel_rfl) (iL aA E E E E ⟨E,E,E,E,V,E,E,E,E⟩ E E [1,0] E y E fun n o=>aR E (aW aA aI 1 [9] E (by kernel_rfl) [] [(23,.bp 4 0)] E ⟨E,V⟩ (JA.one 10 (by kernel_rfl) (aY aA E E E E E E E E (aR E (bI (by kernel_rfl) (bC (B':=(.new 3 41 [.slice none 0 0] (.new 4 41 [sL n (e ++ ([(([]:List Int) ++ (at' a b))]:List (List Int))) o] .nil))) (Bs E E) ?_)))))))))))))))
   refine aV (cS aA 2 [(W (b+1))] [] [(10,.v (I (W (b+1))))] _ ev4 E E (bZ (l,(W (b+1)),(e ++ ([(([]:List Int) ++ (at' a b))]:List (List Int))),n,o) h (Nat.lt_succ_self _) (Es E) (Bs E E) [2] E [0] E))
  refine JS.exit E (aO (e,f,g) h (Es E) (Bs E E) [] E [0] E)
 rintro ⟨C,p,s⟩ h
 subst t
 refine aS aA 2 [] [] [] (.new 3 41 [sL p C s] .nil) ⟨V,(Bs E E)⟩ E E ?_
 cases h
 exact JS.ret aA (p,s) V E E [0] E

def oC (a:List Int) (b:List Int) (c:List Int):Option (List Int):= (aN (([]:List Int).length+a.length≤536870912) <|(aN ((([]:List Int) ++ a).length+b.length≤536870912) <|(aN (((([]:List Int) ++ a) ++ b).length+c.length≤536870912) <|some (((([]:List Int) ++ a) ++ b) ++ c))))

theorem zY (a:List Int) (b:List Int) (c:List Int) (d:Option Addr) (e:Nat) (f:Option Addr) (g:Nat) (i:Option Addr) (j:Nat) (r:List Int) (h:oC a b c=some r):
 FC Tryz.prog 82 [sL d a e,sL f b g,sL i c j] [fI d e a,fI f g b,fI i j c] (fun _:Option Addr×Nat=>True) (fun q=>sL q.1 r q.2) (fun q=>[fI q.1 q.2 r]):= by
 refine FC.of (T:=TTx) Tryz.call82 Tryz.func82 E E fun p=>?_
 unfold oC at h
 refine aE aA 1 [] ev5 E E (JS.seq (JS.region ?_))
 refine kU E (JK.buildSlice aA E E E E E E E E E E E [] E iT [] ⟨E,E⟩ E E fun s=>kT ?_)
 refine aB aA 1 [] [] [(8,.v (sL d a e))] _ E ev1 ?_
 obtain ⟨m,h⟩:=aH h
 refine jK aA E E E E ⟨E,E,E,E,V,E,E,E,E⟩ E E E [0] E 0 E m E fun t u=>aB aA 1 [] [] [(10,.v (sL f b g))] _ E ev1 ?_
 obtain ⟨n,h⟩:=aH h
 refine jK aA E E E E ⟨E,E,E,E,V,E,E,E,E⟩ E E E [0] E 1 E n E fun w x=>aB aA 1 [] [] [(12,.v (sL i c j))] _ E ev1 ?_
 obtain ⟨o,h⟩:=aH h
 refine jK aA E E E E ⟨E,E,E,E,V,E,E,E,E⟩ E E E [0] E 2 E o E fun k l=>aB aA 1 [] [] [(6,.v (sL k (((([]:List Int) ++ a) ++ b) ++ c) l))] _ E ev1 (aC E ?_)
 cases h
 exact JS.ret aA (k,l) V E E [0] E

def qS (b:List (List Int)) (a:List Int) (d:Int):Option (List (List Int)×Bool):= (aF (sO b) fun e=>(cA ((bif (bif (!e) then true else (decide (d<0))) then true else (decide (2<d)))=false) (hZ a) false fun h=>(bif (bif (bif (bif (!e) then true else (decide (d<0))) then true else (decide (2<d))) then true else (!h)) then some ([],false) else (aF (qQ b) fun c=>(bif decide ((a.length:Int)=0) then some (c,true) else (aN (((bif (!(decide (d=0))) then (decide (0<(b.length:Int))) else false)=true)→0≤(0:Int)∧0<(b.length:Int)) <|(bif (bif (bif (!(decide (d=0))) then (decide (0<(b.length:Int))) else false) then (decide ((W (((at' b 0).length:Int)+(a.length:Int)))≤400)) else false) then (aN (0≤(0:Int)∧0<(b.length:Int)) <|(aF (oC (at' b 0) a ([]:List Int)) fun i=>(aT (fun (j:List Int)=>(aN (0≤(0:Int)∧0<(c.length:Int)) <|some ((List.set c (Int.toNat 0) j),true))) fun f=>(bif decide (d=2) then (aN (0≤(0:Int)∧0<(b.length:Int)) <|(aF (oC a (at' b 0) ([]:List Int)) fun k=> f k)) else f i)))) else (aN (([]:List Int).length+a.length≤536870912) <|(aN (([(([]:List Int) ++ a)]:List (List Int)).length+c.length≤536870912) <|(aT (fun (l:List (List Int))=> some (l,true)) fun g=>(bif (decide (6<((([(([]:List Int) ++ a)]:List (List Int)) ++ c).length:Int))) then (aN (0≤(0:Int)∧(0:Int)≤(6:Int)∧(6:Int)≤((([(([]:List Int) ++ a)]:List (List Int)) ++ c).length:Int)) <|g (bJ (([(([]:List Int) ++ a)]:List (List Int)) ++ c) 0 (6:Int))) else g (([(([]:List Int) ++ a)]:List (List Int)) ++ c))))))))))))

theorem aGd (a:List (List Int)) (b:List Int) (i:Int) (d:Option Addr) (e:Nat) (j:Option Addr) (k:Nat) (r:List (List Int)×Bool) (h:qS a b i=some r):
 FC Tryz.prog 174 [.agg #[sL d a e],sL j b k,I i] [⟨(.sl iT),⟨d,a.length,e⟩,a⟩,fI j k b] (fun _:Option Addr×Nat=>True) (fun q=>.tuple #[.agg #[sL q.1 r.1 q.2],.bool r.2]) (fun q=>[⟨(.sl iT),⟨q.1,r.1.length,q.2⟩,r.1⟩]):= by
 refine FC.of (T:=TTx) Tryz.call174 Tryz.func174 E E fun w0=>?_
 unfold qS at h
 refine aS aA 3 [] [3,4] [(3,.bp 3 0),(6,.bp 4 0)] (.new 3 41 [sL d a e] (.new 4 41 [.slice none 0 0] .nil)) ⟨(Es E),(Bs E E)⟩ E E (JS.seq (JS.seq (JS.region (aB aA 1 [] [] [(11,.v (.agg #[sL d a e]))] _ E ev1 ?_))))
 refine bnw h fun y P h=>JO.call E E E E (aIb a d e _ P) E [0] E E fun _ _=>aB aA 11 [] [] [(22,.v (.bool (bif (bif (!y) then true else (decide (i<0))) then true else (decide (2<i))))),(23,.cd [(22,false)] (.v (sL j b k)))] _ E ⟨(Es E),E⟩ ?_
 obtain ⟨Q,R,-,h⟩:=bB h
 refine bR E E E E (fun S=>xW b j k _ (R S)) E [1] E E (aB aA 2 [] [] [(26,.v (.bool (bif (bif (bif (!y) then true else (decide (i<0))) then true else (decide (2<i))) then true else (!Q))))] _ E ev1 (aC E ?_))
 refine aJ E h (fun h=>?_) (fun h=>?_)
 ·
  refine aS aA 3 [] [] [(7,.v (.bool false))] (.new 4 41 [.slice none 0 0] .nil) ⟨ev2,(Bs E E)⟩ E E ?_
  cases h
  refine aX (.sl iT) Sl.nil E E (JS.ret aA (none,0) V E E [0] E)
 refine JS.skip (JS.seq (JS.region (aB aA 1 [] [] [(28,.v (.agg #[sL d a e]))] _ E ev1 ?_)))
 refine bnw h fun c U h=>JO.call E E E E (aGa a d e _ U) E [0] E E ?_
 rintro ⟨f,g⟩ -
 refine aL aA 2 [] [14] [(8,.bp 14 0)] (.new 3 41 [sL d a e] (.new 4 41 [.slice none 0 0] (.new 14 41 [sL f c g] .nil))) E ⟨ev2,(Bs E E)⟩ (aC E (JS.seq (aE aA 3 [(32,.v (.bool (decide ((b.length:Int)=0))))] ev1 E E ?_)))
 refine aJ E h (fun h=>?_) (fun h=>?_)
 ·
  refine aS aA 3 [] [] [(7,.v (.bool true))] (.new 4 41 [sL f c g] .nil) ⟨ev2,(Bs E E)⟩ E E ?_
  cases h
  exact JS.ret aA (f,g) V E E [0] E
 refine JS.skip (JS.seq (JS.seq (JS.region (cC 0 E fun l=>?_))))
 obtain ⟨o,h⟩:=aH h
 refine aB aA 13 [] [] [(42,.v (.bool (bif (!(decide (i=0))) then (decide (0<(a.length:Int))) else false))),(46,.cd [(42,true)] (.ep ⟨d,a.length,e⟩ (Int.toNat 0*1)))] _ E ⟨(fun X=>l.ix (o X)),(fun Y=>l.fa (o Y)),(Es E),E⟩ (nH 0 E (Int.toNat 0) (at' a 0) E fun m n b6 b7 p=>dI aA E E E E E E 0 E E (Int.toNat 0) 0 (Sl.v ⟨m,(at' a 0).length,n⟩) (fun Z=>⟨p (tY (o Z)),E⟩) E E E (aB aA 6 [(W (((at' a 0).length:Int)+(b.length:Int)))] [] [(53,.v (.bool (bif (bif (!(decide (i=0))) then (decide (0<(a.length:Int))) else false) then (decide ((W (((at' a 0).length:Int)+(b.length:Int)))≤400)) else false)))] _ E ⟨(fun b8=>ev5),ev2,E⟩ (aC E ?_)))
 refine aJ E h (fun h=>?_) (fun h=>?_)
 ·
  refine JS.seq (JS.region ?_)
  obtain ⟨s,h⟩:=aH h
  refine aB aA 4 [] [] [(57,.ep ⟨d,a.length,e⟩ (Int.toNat 0*1))] _ E ⟨l.ix s,l.fa s,ev2,E⟩ (dI aA E E E E E E 0 E E (Int.toNat 0) 0 (Sl.v ⟨m,(at' a 0).length,n⟩) ⟨p (tY s),E⟩ E E E (aB aA 1 [] [] [(59,.v (sL j b k))] _ E ev1 ?_))
  refine bnw h fun A a0 h=>aAq iT Sl.nil E E (JO.call E E E E (zY (at' a 0) b ([]:List Int) m n j k none 0 _ a0) E [2,4,0] E E ?_)
  rintro ⟨B,C⟩ -
  refine aB aA 1 [] [] [(9,.v (sL B A C))] _ E ev1 (aC E ?_)
  obtain ⟨a1,a2,h⟩:=aM h
  refine cJ (ι:=List Int×Option Addr×Nat) ⟨fun z=>a1 z.1=some r,fun z=>[(6,.bp 4 0),(8,.bp 14 0),(9,.v (sL z.2.1 z.1 z.2.2))],fun z=>(.new 4 41 [.slice none 0 0] (.new 14 41 [sL f c g] .nil)),fun z=>[],fun z=>[fI z.2.1 z.2.2 z.1,⟨(.sl iT),⟨f,c.length,g⟩,c⟩],fun z=>0⟩ ?_ ?_
  ·
   refine aE aA 2 [(62,.v (.bool (decide (i=2))))] ev1 E E ?_
   refine aJ E h (fun h=>?_) (fun h=>?_)
   ·
    refine JS.region ?_
    obtain ⟨t,h⟩:=aH h
    refine aB aA 5 [] [] [(63,.v (sL j b k)),(67,.ep ⟨d,a.length,e⟩ (Int.toNat 0*1))] _ E ⟨l.ix t,l.fa t,(Es E),E⟩ (dI aA E E E E E E 1 E E (Int.toNat 0) 0 (Sl.v ⟨m,(at' a 0).length,n⟩) ⟨p (tY t),E⟩ E E E ?_)
    refine bnw h fun D a3 h=>aAq iT Sl.nil E E (JO.call E E E E (zY b (at' a 0) ([]:List Int) j k m n none 0 _ a3) E [5,3,0] E E ?_)
    rintro ⟨F,G⟩ -
    refine aB aA 1 [] [] [(9,.v (sL F D G))] _ E ev1 (aC E (aO (D,F,G) h (Es E) (Bs E E) [] E [0,1] E))
   refine JS.skip (aO (A,B,C) h (Es E) (Bs E E) [] E [0,0] E)
  rintro ⟨u,H,J⟩ h
  subst a2
  refine JS.seq (JS.region (cC 1 E fun a5=>?_))
  obtain ⟨K,h⟩:=aH h
  refine aB aA 5 [] [] [(73,.v (.agg #[sL H u J])),(74,.ep ⟨f,c.length,g⟩ (Int.toNat 0*1))] _ E ⟨a5.ix K,(Es E),E⟩ (pW aA E E E E E E E E E [1,0] (fs:=[fI H J u]) E (Int.toNat 0) 0 (at' c 0) u ⟨bH K,E⟩ ⟨E,E,E,E⟩ (aC E (aS aA 3 [] [] [(7,.v (.bool true))] (.new 4 41 [sL f c g] .nil) ⟨ev2,(Bs E E)⟩ E E ?_)))
  cases h
  exact JS.ret aA (f,g) V E (by simp only [List.length_set,List.length_replicate,cV,fU,sL,fI,vD];rfl) [0] (by simp only [List.length_set,List.length_replicate,cV,fU,sL,fI,vD];rfl)
 refine JS.skip (JS.seq ?_)
 obtain ⟨a6,h⟩:=aH h
 obtain ⟨a7,h⟩:=aH h
 refine bE E (.new 14 41 [sL f c g] .nil) [] [7,8] ev3 E (fun b9=>?_)
 refine cD aA aI true 6 [1,5,6] E (by kernel_rfl) [] [(77,.v (sL j b k)),(82,.v (sL f c g))] ⟨E,E,E,E,V⟩ [] E E (Es E) (JA.one 0 (by kernel_rfl) (JK.buildSlice aA E E E E E E E E E E E [] E iT [] ⟨E,E⟩ E E fun c0=>aQ ⟨E,E,E,E,V⟩ [] E (JA.one 2 (by kernel_rfl) (bN aA E E E E ⟨E,E,E,E,V,E,E,E,E⟩ E E E [0] E 3 E a6 E fun a9 b0=>aQ ⟨E,E,E,E,V⟩ [] E (cD aA aI true 3 [3] E (by kernel_rfl) [] [(79,.v (.agg #[sL a9 (([]:List Int) ++ b) b0]))] ⟨E,E,E,E,V⟩ [] E E ⟨E,V⟩ (JA.one 4 (by kernel_rfl) (JK.buildSlice aA E E E E E E E E E E E [0] E (.sl iT) [(([]:List Int) ++ b)] ⟨E,E,E⟩ E E fun c1=>aQ ⟨E,E,E,E,V⟩ [] E (JA.one 7 (by kernel_rfl) (iL aA E E E E ⟨E,E,E,E,V,E,E,E,E⟩ E E [0,0] E a7 E fun w x=>aR E (aW aA aI 0 [8] E (by kernel_rfl) [] [(10,.v (sL w (([(([]:List Int) ++ b)]:List (List Int)) ++ c) x))] E ⟨E,V⟩ (bI (by kernel_rfl) (bC (B':=(.new 4 41 [.slice none 0 0] .nil)) (Bs E E) ?_))))))))))))
 obtain ⟨b1,b2,h⟩:=aM h
 refine cJ (ι:=List (List Int)×Option Addr×Nat) ⟨fun z=>b1 z.1=some r,fun z=>[(6,.bp 4 0),(10,.v (sL z.2.1 z.1 z.2.2))],fun z=>(.new 4 41 [.slice none 0 0] .nil),fun z=>[],fun z=>[⟨(.sl iT),⟨z.2.1,z.1.length,z.2.2⟩,z.1⟩],fun z=>0⟩ ?_ ?_
 ·
  refine aE aA 3 [(86,.v (.bool (decide (6<((([(([]:List Int) ++ b)]:List (List Int)) ++ c).length:Int)))))] ev1 E E ?_
  refine aJ E h (fun h=>?_) (fun h=>?_)
  ·
   refine JS.region (aB aA 1 [] [] [(87,.v (sL w (([(([]:List Int) ++ b)]:List (List Int)) ++ c) x))] _ E ev1 ?_)
   obtain ⟨b3,h⟩:=aH h
   refine pX aA E E E E E E E E [0] E (0:Int) (6:Int) E E b3 E fun L M=>aB aA 1 [] [] [(10,.v (sL L (bJ (([(([]:List Int) ++ b)]:List (List Int)) ++ c) 0 (6:Int)) M))] _ E ev1 (aC E (aO ((bJ (([(([]:List Int) ++ b)]:List (List Int)) ++ c) 0 (6:Int)),L,M) h (Es E) (Bs E E) [] E [0] E))
  refine JS.skip (aO ((([(([]:List Int) ++ b)]:List (List Int)) ++ c),w,x) h (Es E) (Bs E E) [] E [0] E)
 rintro ⟨b4,N,O⟩ h
 subst b2
 refine aS aA 4 [] [] [(7,.v (.bool true))] (.new 4 41 [sL N b4 O] .nil) ⟨ev2,(Bs E E)⟩ E E ?_
 cases h
 exact JS.ret aA (N,O) V E E [0] E

def lF (a:List UInt8×Int×Int) (h:(List (List Int)×Int×Int)→Option (List (List Int)×List UInt8×Int×Int)) (i:(Int×List (List Int)×Int×Int)→Option (List (List Int)×List UInt8×Int×Int)):(Int×List (List Int)×Int×Int)→Option (List (List Int)×List UInt8×Int×Int):=fun (b,c,d,e)=>(bif decide (0<b) then (aF (iA (a.1,d,e) 5) fun (j,f)=>(aF (aU (a.1,f.2.1,f.2.2) 3) fun (k,g)=>(aF (qS c j k) fun (l,m)=> i ((W (b - 1)),l,g.2.1,g.2.2)))) else h (c,d,e))

def oB (a:List UInt8×Int×Int):Option (List (List Int)×List UInt8×Int×Int):= (aF (aU a 8) fun (c,b)=>(aT (fun ((d,e,f):List (List Int)×Int×Int)=> some (d,(a.1,e,f))) fun g=>(aZ (lF a g) bO (c,([]:List (List Int)),b.2.1,b.2.2))))

theorem aF9 (a:List UInt8×Int×Int) (b:Option Addr) (c:Option Addr) (d:Nat) (r:List (List Int)×List UInt8×Int×Int) (h:oB a=some r):
 FX Tryz.prog 93 [.pointer b] [⟨.byte,⟨c,a.1.length,d⟩,a.1⟩] [⟨(.pair .val (.pair iT iT)),⟨b,1,1⟩,[((Sl.v ⟨c,a.1.length,d⟩),a.2)]⟩] (fun _:Option Addr×Nat=>True) (fun q=>.agg #[sL q.1 r.1 q.2]) (fun q=>[⟨(.pair .val (.pair iT iT)),⟨b,1,1⟩,[((Sl.v ⟨c,a.1.length,d⟩),r.2.2)]⟩,⟨(.sl iT),⟨q.1,r.1.length,q.2⟩,r.1⟩]):= by
 refine FX.of (T:=TTx) Tryz.call93 Tryz.func93 E E fun M L0=>?_
 unfold oB at h
 refine gS 0 b E ?_
 refine aS aA 1 [] [3] [(2,.bp 3 0)] (.new 3 41 [.slice none 0 0] .nil) ⟨ev2,(Bs E E)⟩ E E (aS aA 3 [] [4] [(3,.bp 4 0)] (.new 3 41 [.slice none 0 0] (.new 4 41 [.slice none 0 0] .nil)) ⟨ev2,(Bs E E)⟩ E E (JS.seq (JS.seq (JS.region (aB aA 1 [] [] [(6,.ep ⟨b,1,1⟩ 0)] _ E ev1 ?_)))))
 obtain ⟨⟨m,n⟩,y,h⟩:=aD h
 refine bL E E E E (bD a 8 b c d _ y) E [0] E [0] E E fun _ _=>aB aA 1 [] [] [(4,.v (I m))] _ E ev1 (aC E ?_)
 obtain ⟨o,A,h⟩:=aM h
 refine bA (ι:=List (List Int)×Int×Int×Option Addr×Nat) ⟨fun z=>o (z.1,z.2.1,z.2.2.1)=some r,fun z=>[(2,.bp 3 0),(3,.bp 4 0)],fun z=>(.new 3 41 [.slice none 0 0] (.new 4 41 [sL z.2.2.2.1 z.1 (Q4 z)] .nil)),fun z=>[⟨.byte,⟨c,a.1.length,d⟩,a.1⟩],fun z=>[⟨(.sl iT),⟨z.2.2.2.1,z.1.length,(Q4 z)⟩,z.1⟩,⟨(.pair .val (.pair iT iT)),⟨b,1,1⟩,[((Sl.v ⟨c,a.1.length,d⟩),z.2.1,z.2.2.1)]⟩],fun z=>0⟩ ?_ ?_
 ·
  refine aX (.sl iT) Sl.nil E E (JS.loop (ι:=Nat×Int×List (List Int)×Int×Int×Option Addr×Nat) ⟨fun z=>aZ (lF a o) z.1 (z.2.1,z.2.2.1,z.2.2.2.1,(Q4 z).1)=some r,fun z=>[(0,.ep ⟨b,1,1⟩ 0),(2,.bp 3 0),(3,.bp 4 0),(4,.v (I z.2.1))],fun z=>(.new 3 41 [.slice none 0 0] (.new 4 41 [sL (Q4 z).2.1 z.2.2.1 (Q4 z).2.2] .nil)),fun z=>[⟨.byte,⟨c,a.1.length,d⟩,a.1⟩],fun z=>[⟨(.sl iT),⟨(Q4 z).2.1,z.2.2.1.length,(Q4 z).2.2⟩,z.2.2.1⟩,⟨(.pair .val (.pair iT iT)),⟨b,1,1⟩,[((Sl.v ⟨c,a.1.length,d⟩),z.2.2.2.1,(Q4 z).1)]⟩],fun z=>z.1⟩ (bO,m,([]:List (List Int)),n.2.1,n.2.2,none,0) h (Es E) (Bs E E) [0] E [0,0] E ?_)
  rintro ⟨p,e,f,s,t,g,i⟩ h
  obtain ⟨p,rfl,h⟩:=bK h
  rw [lF] at h
  refine JS.seq (aE aA 2 [(9,.v (.bool (decide (0<e))))] ev1 E E ?_)
  refine aJ E h (fun h=>?_) (fun h=>?_)
  ·
   refine JS.skip (JS.seq (JS.block ?_))
   obtain ⟨⟨B,C⟩,D,h⟩:=aD h
   obtain ⟨⟨F,u⟩,G,h⟩:=aD h
   obtain ⟨⟨j,N⟩,H,h⟩:=aD h
   refine bE E (.new 4 41 [sL g f i] .nil) [] [5,6,7,8,9] ev3 E (fun O=>?_)
   refine cD aA rQ true 7 [0,1,3] E (by kernel_rfl) [] [(13,.v (.agg #[sL g f i])),(14,.ep ⟨b,1,1⟩ 0),(16,.ep ⟨b,1,1⟩ 0)] ev3 [] E E (Es E) (JA.one 2 (by kernel_rfl) (sT E E E E (xX (a.1,s,t) 5 b c d _ D) E [1] E [0] E E ?_))
   rintro ⟨J,K⟩ -
   refine aQ ev3 [] E (JA.one 4 (by kernel_rfl) (sT E E E E (bD (a.1,C.2) 3 b c d _ G) E [0] E [0] E E fun _ _=>aQ ev3 [] E (JA.one 5 (by kernel_rfl) (JK.call E E E E (aGd f B F g i J K _ H) E [3,2] E E ?_))))
   rintro ⟨k,l⟩ -
   refine aR E (aW aA rQ 1 [6,7,8] E (by kernel_rfl) [] [(19,.v (.agg #[sL k j l]))] E ev2 (JA.one 9 (by kernel_rfl) (aY aA E E E E E E E E (aR E (bI (by kernel_rfl) (bC (B':=(.new 3 41 [.slice none 0 0] (.new 4 41 [sL k j l] .nil))) (Bs E E) (aV (cS aA 3 [(W (e - 1))] [] [(4,.v (I (W (e - 1))))] _ ev4 E E (bZ (p,(W (e - 1)),j,u.2.1,u.2.2,k,l) h (Nat.lt_succ_self _) (Es E) (Bs E E) [0] E [0,0] E)))))))))
  refine JS.exit E (aO (f,s,t,g,i) h (Es E) (Bs E E) [0] E [0,0] E)
 rintro ⟨L,P,Q,w,x⟩ h
 subst A
 refine aS aA 2 [] [] [] (.new 3 41 [sL w L x] .nil) ⟨V,(Bs E E)⟩ E E ?_
 cases h
 exact cU aA (w,x) V E E [1,0] E

def pS (a:List Int×Int):Option Bool:= (cA ((decide ((a.1.length:Int)≤400))=true) (gV a.1) false fun b=> some (bif (bif (bif decide ((a.1.length:Int)≤400) then b else false) then (decide (0≤a.2)) else false) then (decide (a.2≤(a.1.length:Int))) else false))

theorem aBp (a:List Int×Int) (b:Option Addr) (c:Nat) (r:Bool) (h:pS a=some r):
 FC Tryz.prog 128 [.agg #[sL b a.1 c,I a.2]] [fI b c a.1] (fun _:Unit=>True) (fun _=>.bool r) (fun _=>[]):= by
 refine FC.of (T:=TTx) Tryz.call128 Tryz.func128 E E fun g=>?_
 unfold pS at h
 refine aS aA 2 [] [2] [(1,.bp 2 0)] (.new 2 38 [sL b a.1 c,I a.2] .nil) ⟨ev2,(Bs E E)⟩ E E (JS.seq (JS.region (aB aA 7 [] [] [(7,.v (.bool (decide ((a.1.length:Int)≤400)))),(9,.cd [(7,true)] (.v (sL b a.1 c)))] _ E ⟨(Es E),E⟩ ?_)))
 obtain ⟨d,e,-,h⟩:=bB h
 refine bR E E E E (fun f=>tR a.1 b c _ (e f)) E [0] E E (aB aA 15 [] [] [(2,.v (.bool (bif (bif (bif (decide ((a.1.length:Int)≤400)) then d else false) then (decide (0≤a.2)) else false) then (decide (a.2≤(a.1.length:Int))) else false)))] _ E ev1 (aC E ?_))
 cases h
 exact JS.ret aA () V E E [] E

def mP (b:List (List Int×Int)) (c:Unit→Option Bool) (d:Int→Option Bool):Int→Option Bool:=fun a=>(bif decide (a<(b.length:Int)) then (aN (0≤a∧a<(b.length:Int)) <|(aF (pS ((at' b a).1,(at' b a).2)) fun e=>(bif (!e) then some false else d (W (a+1))))) else c ())

def sN (a:List (List Int×Int)):Option Bool:= (aT (fun (_:Unit)=> some (decide ((a.length:Int)≤20))) fun b=>(aZ (mP a b) bO 0))

theorem aH9 (a:List (List Int×Int)) (c:Option Addr) (d:Nat) (r:Bool) (h:sN a=some r):
 FC Tryz.prog 131 [.agg #[sL c a d]] [⟨(.pair (.sl iT) iT),⟨c,a.length,d⟩,a⟩] (fun _:Unit=>True) (fun _=>.bool r) (fun _=>[]):= by
 refine FC.of (T:=TTx) Tryz.call131 Tryz.func131 E E fun p=>?_
 unfold sN at h
 refine aS aA 2 [] [2] [(1,.bp 2 0)] (.new 2 44 [sL c a d] .nil) ⟨ev2,(Bs E E)⟩ E E (JS.seq (aE aA 4 [(6,.v (sL c a d)),(7,.v (I (a.length:Int))),(8,.v (I 0))] ⟨(Es E),E⟩ E E ?_))
 obtain ⟨g,k,h⟩:=aM h
 refine bA (ι:=Unit) ⟨fun _=>g ()=some r,fun _=>[(1,.bp 2 0)],fun _=>(.new 2 44 [sL c a d] .nil),fun _=>[⟨(.pair (.sl iT) iT),⟨c,a.length,d⟩,a⟩],fun _=>[],fun _=>0⟩ ?_ ?_
 ·
  refine JS.loop (ι:=Nat×Int) ⟨fun z=>aZ (mP a g) z.1 z.2=some r,fun z=>[(1,.bp 2 0),(6,.v (sL c a d)),(7,.v (I (a.length:Int))),(8,.v (I z.2))],fun z=>(.new 2 44 [sL c a d] .nil),fun z=>[⟨(.pair (.sl iT) iT),⟨c,a.length,d⟩,a⟩],fun z=>[],fun z=>z.1⟩ (bO,0) h (Es E) (Bs E E) [0] E [] E ?_
  rintro ⟨i,b⟩ h
  obtain ⟨i,rfl,h⟩:=bK h
  rw [mP] at h
  refine aE aA 1 [(9,.v (.bool (decide (b<(a.length:Int)))))] ev1 E E (JS.seq ?_)
  refine aJ E h (fun h=>?_) (fun h=>?_)
  ·
   refine JS.skip (JS.seq (JS.block (JS.seq (JS.region (cC 0 E fun l=>?_)))))
   obtain ⟨j,h⟩:=aH h
   refine aB aA 1 [] [] [(10,.ep ⟨c,a.length,d⟩ (Int.toNat b*2))] _ E ⟨l.ix j,ev2,E⟩ (nH 0 E (Int.toNat b) (at' a b) E fun e f q s m=>dI aA E E E E E E 0 E E (Int.toNat b) 0 ((Sl.v ⟨e,((at' a b).1).length,f⟩),(at' a b).2) ⟨m (tY j),E⟩ E E E (aL aA 2 [] [16] [(4,.bp 16 0)] (.new 2 44 [sL c a d] (.new 16 38 [sL e ((at' a b).1) f,I (at' a b).2] .nil)) E ⟨ev2,(Bs E E)⟩ (aC E (JS.seq (JS.region (aB aA 1 [] [] [(12,.v (.agg #[sL e ((at' a b).1) f,I (at' a b).2]))] _ E ev1 ?_))))))
   refine bnw h fun n o h=>JO.call E E E E (aBp ((at' a b).1,(at' a b).2) e f _ o) E [1] E E fun _ _=>aB aA 1 [] [] [(14,.v (.bool (!n)))] _ E ev1 (aC E ?_)
   refine aJ E h (fun h=>?_) (fun h=>?_)
   ·
    refine aE aA 1 [(2,.v (.bool false))] ev1 E E ?_
    cases h
    exact JS.ret aA () V E E [] E
   refine JS.skip (aV (cS aA 2 [(W (b+1))] [] [(8,.v (I (W (b+1))))] _ ev4 E E (bZ (i,(W (b+1))) h (Nat.lt_succ_self _) (Es E) (Bs E E) [2] E [] E)))
  refine JS.exit E (aO () h ev2 (Bs E E) [0] E [] E)
 rintro _ h
 subst k
 refine aE aA 5 [(2,.v (.bool (decide ((a.length:Int)≤20))))] ev1 E E ?_
 cases h
 exact JS.ret aA () V E E [] E

def lG (a:List Int×Int):Option (List Int×Int):= (aN (([]:List Int).length+a.1.length≤536870912) <|some ((([]:List Int) ++ a.1),a.2))

theorem zX (a:List Int×Int) (b:Option Addr) (c:Nat) (r:List Int×Int) (h:lG a=some r):
 FC Tryz.prog 52 [.agg #[sL b a.1 c,I a.2]] [fI b c a.1] (fun _:Option Addr×Nat=>True) (fun q=>.agg #[sL q.1 r.1 q.2,I r.2]) (fun q=>[fI q.1 q.2 r.1]):= by
 refine FC.of (T:=TTx) Tryz.call52 Tryz.func52 E E fun g=>?_
 unfold lG at h
 refine aS aA 2 [] [2,3] [(1,.bp 2 0),(2,.bp 3 0)] (.new 2 38 [sL b a.1 c,I a.2] (.new 3 38 [.slice none 0 0,I 0] .nil)) ⟨(Es E),(Bs E E)⟩ E E (JS.seq ?_)
 obtain ⟨f,h⟩:=aH h
 refine bE E (.new 2 38 [sL b a.1 c,I a.2] .nil) [] [6,7] ev3 E (fun i=>?_)
 refine cD aA aI true 4 [1,2,4,5] E (by kernel_rfl) [] [(5,.v (sL b a.1 c)),(8,.v (I a.2))] ⟨E,E,E,E,V⟩ [] E E (Es E) (JA.one 0 (by kernel_rfl) (JK.buildSlice aA E E E E E E E E E E E [] E iT [] ⟨E,E⟩ E E fun j=>aQ ⟨E,E,E,E,V⟩ [] E (JA.one 3 (by kernel_rfl) (bN aA E E E E ⟨E,E,E,E,V,E,E,E,E⟩ E E E [0] E 0 E f E fun d e=>aQ ⟨E,E,E,E,V⟩ [] E (aW aA aI 1 [6] E (by kernel_rfl) [] [(9,.v (.agg #[sL d (([]:List Int) ++ a.1) e,I a.2]))] E ⟨E,V⟩ (JA.one 7 (by kernel_rfl) (aY aA E E E E E E E E (aR E (bI (by kernel_rfl) (bC (B':=(.new 3 38 [sL d (([]:List Int) ++ a.1) e,I a.2] .nil)) (Bs E E) ?_))))))))))
 cases h
 exact JS.ret aA (d,e) V E E [0] E

def jX (b:List (List Int×Int)) (e:(List (List Int×Int))→Option (List (List Int×Int))) (f:(Int×(List (List Int×Int)))→Option (List (List Int×Int))):(Int×(List (List Int×Int)))→Option (List (List Int×Int)):=fun (a,c)=>(bif decide (a<(b.length:Int)) then (aN (0≤a∧a<(b.length:Int)) <|(aF (lG ((at' b a).1,(at' b a).2)) fun d=>(aN (c.length+([d]:List (List Int×Int)).length≤536870912) <|f ((W (a+1)),(c ++ ([d]:List (List Int×Int))))))) else e c)

def oX (a:List (List Int×Int)):Option (List (List Int×Int)):= (aT (fun (b:List (List Int×Int))=> some b) fun c=>(aZ (jX a c) bO (0,([]:List (List Int×Int)))))

theorem aEl (a:List (List Int×Int)) (c:Option Addr) (d:Nat) (r:List (List Int×Int)) (h:oX a=some r):
 FC Tryz.prog 138 [.agg #[sL c a d]] [⟨(.pair (.sl iT) iT),⟨c,a.length,d⟩,a⟩] (fun _:Option Addr×Nat=>True) (fun q=>.agg #[sL q.1 r q.2]) (fun q=>[⟨(.pair (.sl iT) iT),⟨q.1,r.length,q.2⟩,r⟩]):= by
 refine FC.of (T:=TTx) Tryz.call138 Tryz.func138 E E fun C=>?_
 unfold oX at h
 refine aS aA 2 [] [2,3] [(1,.bp 2 0),(2,.bp 3 0)] (.new 2 44 [sL c a d] (.new 3 44 [.slice none 0 0] .nil)) ⟨(Es E),(Bs E E)⟩ E E (aS aA 3 [] [4] [(3,.bp 4 0)] (.new 2 44 [sL c a d] (.new 3 44 [.slice none 0 0] (.new 4 44 [.slice none 0 0] .nil))) ⟨ev2,(Bs E E)⟩ E E (JS.seq (aE aA 4 [(8,.v (sL c a d)),(9,.v (I (a.length:Int))),(10,.v (I 0))] ⟨(Es E),E⟩ E E ?_)))
 obtain ⟨l,u,h⟩:=aM h
 refine bA (ι:=(List (List Int×Int))×Option Addr×Nat) ⟨fun z=>l z.1=some r,fun z=>[(2,.bp 3 0),(3,.bp 4 0)],fun z=>(.new 3 44 [.slice none 0 0] (.new 4 44 [sL z.2.1 z.1 z.2.2] .nil)),fun z=>[],fun z=>[⟨(.pair (.sl iT) iT),⟨z.2.1,z.1.length,z.2.2⟩,z.1⟩],fun z=>0⟩ ?_ ?_
 ·
  refine aX (.pair (.sl iT) iT) Sl.nil E E (JS.loop (ι:=Nat×Int×(List (List Int×Int))×Option Addr×Nat) ⟨fun z=>aZ (jX a l) z.1 (z.2.1,z.2.2.1)=some r,fun z=>[(2,.bp 3 0),(3,.bp 4 0),(8,.v (sL c a d)),(9,.v (I (a.length:Int))),(10,.v (I z.2.1))],fun z=>(.new 3 44 [.slice none 0 0] (.new 4 44 [sL z.2.2.2.1 z.2.2.1 (Q4 z)] .nil)),fun z=>[⟨(.pair (.sl iT) iT),⟨c,a.length,d⟩,a⟩],fun z=>[⟨(.pair (.sl iT) iT),⟨z.2.2.2.1,z.2.2.1.length,(Q4 z)⟩,z.2.2.1⟩],fun z=>z.1⟩ (bO,0,([]:List (List Int×Int)),none,0) h (Es E) (Bs E E) [0] E [0] E ?_)
  rintro ⟨m,b,e,i,j⟩ h
  obtain ⟨m,rfl,h⟩:=bK h
  rw [jX] at h
  refine aE aA 1 [(11,.v (.bool (decide (b<(a.length:Int)))))] ev1 E E (JS.seq ?_)
  refine aJ E h (fun h=>?_) (fun h=>?_)
  ·
   refine JS.skip (JS.seq (JS.block (JS.seq (JS.region (cC 0 E fun w=>?_)))))
   obtain ⟨n,h⟩:=aH h
   refine aB aA 1 [] [] [(12,.ep ⟨c,a.length,d⟩ (Int.toNat b*2))] _ E ⟨w.ix n,ev2,E⟩ (nH 0 E (Int.toNat b) (at' a b) E fun f g D F x=>dI aA E E E E E E 0 E E (Int.toNat b) 0 ((Sl.v ⟨f,((at' a b).1).length,g⟩),(at' a b).2) ⟨x (tY n),E⟩ E E E (aL aA 2 [] [22] [(5,.bp 22 0)] (.new 3 44 [.slice none 0 0] (.new 4 44 [sL i e j] (.new 22 38 [sL f ((at' a b).1) g,I (at' a b).2] .nil))) E ⟨ev2,(Bs E E)⟩ (aC E ?_)))
   obtain ⟨k,y,h⟩:=aD h
   obtain ⟨A,h⟩:=aH h
   refine bE E (.new 4 44 [sL i e j] (.new 22 38 [sL f ((at' a b).1) g,I (at' a b).2] .nil)) [] [5,6,7] ev6 E (fun G=>?_)
   refine cD aA aI true 5 [0,1,2] E (by kernel_rfl) [] [(15,.v (sL i e j)),(16,.v (.agg #[sL f ((at' a b).1) g,I (at' a b).2]))] ev6 [] E E (Es E) (JA.one 3 (by kernel_rfl) (JK.call E E E E (zX ((at' a b).1,(at' a b).2) f g _ y) E [1] E E ?_))
   rintro ⟨H,J⟩ -
   refine aQ ⟨E,E,E,E,E,E,E,E,V⟩ [] E (JA.one 4 (by kernel_rfl) (JK.buildSlice aA E E E E E E E E E E E [0] E (.pair (.sl iT) iT) [k] ⟨E,E,E⟩ E E fun K=>aQ ⟨E,E,E,E,E,E,E,E,V⟩ [] E (JA.one 5 (by kernel_rfl) (iL aA E E E E ⟨E,E,E,E,V,E,E,E,E⟩ E E [1,0] E A E fun o p=>aR E (aW aA aI 1 [6] E (by kernel_rfl) [] [(20,.bp 4 0)] E ⟨E,V⟩ (JA.one 7 (by kernel_rfl) (aY aA E E E E E E E E (aR E (bI (by kernel_rfl) (bC (B':=(.new 3 44 [.slice none 0 0] (.new 4 44 [sL o (e ++ ([k]:List (List Int×Int))) p] .nil))) (Bs E E) (aV (cS aA 2 [(W (b+1))] [] [(10,.v (I (W (b+1))))] _ ⟨⟨V,E⟩,⟨E,V⟩,E⟩ E E (bZ (m,(W (b+1)),(e ++ ([k]:List (List Int×Int))),o,p) h (Nat.lt_succ_self _) (Es E) (Bs E E) [2] E [0] E)))))))))))))
  refine JS.exit E (aO (e,i,j) h (Es E) (Bs E E) [] E [0] E)
 rintro ⟨B,s,t⟩ h
 subst u
 refine aS aA 2 [] [] [] (.new 3 44 [sL s B t] .nil) ⟨V,(Bs E E)⟩ E E ?_
 cases h
 exact JS.ret aA (s,t) V E E [0] E

def lE (b:List Int) (c:List Int) (d:Unit→Option Bool) (e:Int→Option Bool):Int→Option Bool:=fun a=>(bif decide (a<(b.length:Int)) then (aN (0≤a∧a<(b.length:Int)) <|(aN (0≤a∧a<(c.length:Int)) <|(bif (!(decide ((at' b a)=(at' c a)))) then some false else e (W (a+1))))) else d ())

def qP (a:List Int) (b:List Int):Option Bool:= (bif (!(decide ((a.length:Int)=(b.length:Int)))) then some false else (aT (fun (_:Unit)=> some true) fun c=>(aZ (lE a b c) bO 0)))

theorem aF8 (a:List Int) (c:List Int) (d:Option Addr) (e:Nat) (f:Option Addr) (g:Nat) (r:Bool) (h:qP a c=some r):
 FC Tryz.prog 249 [sL d a e,sL f c g] [fI d e a,fI f g c] (fun _:Unit=>True) (fun _=>.bool r) (fun _=>[]):= by
 refine FC.of (T:=TTx) Tryz.call249 Tryz.func249 E E fun p=>?_
 unfold qP at h
 refine aE aA 1 [] ev5 E E (JS.seq (aE aA 5 [(10,.v (.bool (!(decide ((a.length:Int)=(c.length:Int))))))] ev1 E E ?_))
 refine aJ E h (fun h=>?_) (fun h=>?_)
 ·
  refine aE aA 1 [(4,.v (.bool false))] ev1 E E ?_
  cases h
  exact JS.ret aA () V E E [] E
 refine JS.skip (JS.seq (aE aA 3 [(12,.v (I (a.length:Int))),(13,.v (I 0))] ⟨(Es E),E⟩ E E ?_))
 obtain ⟨i,m,h⟩:=aM h
 refine bA (ι:=Unit) ⟨fun _=>i ()=some r,fun _=>[],fun _=>.nil,fun _=>[],fun _=>[],fun _=>0⟩ ?_ ?_
 ·
  refine JS.loop (ι:=Nat×Int) ⟨fun z=>aZ (lE a c i) z.1 z.2=some r,fun z=>[(0,.v (sL d a e)),(1,.v (sL f c g)),(12,.v (I (a.length:Int))),(13,.v (I z.2))],fun z=>.nil,fun z=>[fI d e a,fI f g c],fun z=>[],fun z=>z.1⟩ (bO,0) h (Es E) V [0,1] E [] E ?_
  rintro ⟨j,b⟩ h
  obtain ⟨j,rfl,h⟩:=bK h
  rw [lE] at h
  refine aE aA 1 [(14,.v (.bool (decide (b<(a.length:Int)))))] ev1 E E (JS.seq ?_)
  refine aJ E h (fun h=>?_) (fun h=>?_)
  ·
   refine JS.skip (JS.seq (JS.block (aE aA 2 [(5,.v (I b))] ev1 E E (JS.seq ?_))))
   obtain ⟨k,h⟩:=aH h
   obtain ⟨l,h⟩:=aH h
   refine iK 0 E fun n=>iK 1 E fun o=>eZ E (by kernel_rfl) (eC aA 3 [] [(18,.ep ⟨d,a.length,e⟩ (Int.toNat b*1))] E ⟨n.ix k,ev2⟩ (JQ.load aA E E E E E E E 0 E E (Int.toNat b) 0 (at' a b) ⟨bH k,E⟩ E E (eC aA 3 [] [(22,.ep ⟨f,c.length,g⟩ (Int.toNat b*1))] E ⟨o.ix l,ev2⟩ (JQ.load aA E E E E E E E 1 E E (Int.toNat b) 0 (at' c b) ⟨bH l,E⟩ E E (eC aA 1 [] [(24,.v (.bool (!(decide ((at' a b)=(at' c b))))))] E ev2 (kW E ?_))))))
   refine aJ E h (fun h=>?_) (fun h=>?_)
   ·
    refine aE aA 1 [(4,.v (.bool false))] ev1 E E ?_
    cases h
    exact JS.ret aA () V E E [] E
   refine JS.skip (aV (cS aA 2 [(W (b+1))] [] [(13,.v (I (W (b+1))))] _ ev4 E E (bZ (j,(W (b+1))) h (Nat.lt_succ_self _) (Es E) V [0,1] E [] E)))
  refine JS.exit E (aO () h V V [] E [] E)
 rintro _ h
 subst m
 refine aE aA 1 [(4,.v (.bool true))] ev1 E E ?_
 cases h
 exact JS.ret aA () V E E [] E

def qR (d:List (List Int×Int)) (c:List Int×Int):Option ((List (List Int×Int))×Bool):= (aF (sN d) fun e=>(cA ((!e)=false) (pS c) false fun g=>(bif (bif (!e) then true else (!g)) then some ([],false) else (aF (oX d) fun a=>(aN (((decide (0<(a.length:Int)))=true)→0≤(W ((a.length:Int) - 1))∧(W ((a.length:Int) - 1))<(a.length:Int)) <|(cA ((decide (0<(a.length:Int)))=true) (qP ((at' a (W ((a.length:Int) - 1))).1) c.1) false fun h=>(bif (bif decide (0<(a.length:Int)) then h else false) then some (a,true) else (aF (lG c) fun b=>(aN (a.length+([b]:List (List Int×Int)).length≤536870912) <|(aT (fun (i:List (List Int×Int))=> some (i,true)) fun f=>(bif decide ((a.length:Int)=20) then (aN (0≤(1:Int)∧(1:Int)≤((a ++ ([b]:List (List Int×Int))).length:Int)∧((a ++ ([b]:List (List Int×Int))).length:Int)≤((a ++ ([b]:List (List Int×Int))).length:Int)) <|f (bJ (a ++ ([b]:List (List Int×Int))) 1 ((a ++ ([b]:List (List Int×Int))).length:Int))) else f (a ++ ([b]:List (List Int×Int))))))))))))))

theorem aGc (e:List (List Int×Int)) (b:List Int×Int) (g:Option Addr) (i:Nat) (c:Option Addr) (d:Nat) (r:(List (List Int×Int))×Bool) (h:qR e b=some r):
 FC Tryz.prog 182 [.agg #[sL g e i],.agg #[sL c b.1 d,I b.2]] [⟨(.pair (.sl iT) iT),⟨g,e.length,i⟩,e⟩,fI c d b.1] (fun _:Option Addr×Nat=>True) (fun q=>.tuple #[.agg #[sL q.1 r.1 q.2],.bool r.2]) (fun q=>[⟨(.pair (.sl iT) iT),⟨q.1,r.1.length,q.2⟩,r.1⟩]):= by
 refine FC.of (T:=TTx) Tryz.call182 Tryz.func182 E E fun Y=>?_
 unfold qR at h
 refine aS aA 4 [] [3,4,5] [(2,.bp 3 0),(3,.bp 4 0),(4,.bp 5 0)] (.new 3 44 [sL g e i] (.new 4 38 [sL c b.1 d,I b.2] (.new 5 44 [.slice none 0 0] .nil))) ⟨(Es E),(Bs E E)⟩ E E (JS.seq (JS.seq (JS.region (aB aA 1 [] [] [(8,.v (.agg #[sL g e i]))] _ E ev1 ?_))))
 refine bnw h fun s A h=>JO.call E E E E (aH9 e g i _ A) E [0] E E fun _ _=>aB aA 3 [] [] [(11,.v (.bool (!s))),(12,.cd [(11,false)] (.v (.agg #[sL c b.1 d,I b.2])))] _ E ⟨(Es E),E⟩ ?_
 obtain ⟨B,C,-,h⟩:=bB h
 refine bR E E E E (fun D=>aBp b c d _ (C D)) E [1] E E (aB aA 2 [] [] [(15,.v (.bool (bif (!s) then true else (!B))))] _ E ev1 (aC E ?_))
 refine aJ E h (fun h=>?_) (fun h=>?_)
 ·
  refine aS aA 3 [] [] [(5,.v (.bool false))] (.new 5 44 [.slice none 0 0] .nil) ⟨ev2,(Bs E E)⟩ E E ?_
  cases h
  refine aX (.pair (.sl iT) iT) Sl.nil E E (JS.ret aA (none,0) V E E [0] E)
 refine JS.skip (JS.seq (JS.region (aB aA 1 [] [] [(17,.v (.agg #[sL g e i]))] _ E ev1 ?_)))
 refine bnw h fun a F h=>JO.call E E E E (aEl e g i _ F) E [0] E E ?_
 rintro ⟨j,k⟩ -
 refine aL aA 2 [] [15] [(6,.bp 15 0)] (.new 4 38 [sL c b.1 d,I b.2] (.new 5 44 [.slice none 0 0] (.new 15 44 [sL j a k] .nil))) E ⟨ev2,(Bs E E)⟩ (aC E (aE aA 4 [(7,.v (I (a.length:Int)))] ev1 E E (JS.seq (JS.seq ?_))))
 obtain ⟨l,h⟩:=aH h
 obtain ⟨G,H,-,h⟩:=bB h
 refine vJ (id:=0) (aAr [0] E (Int.toNat (W ((a.length:Int) - 1))) (at' a (W ((a.length:Int) - 1))) E ?_)
 intro m n J K
 obtain rfl:([sL m ((at' a (W ((a.length:Int) - 1))).1) n,I (at' a (W ((a.length:Int) - 1))).2]:List Value)=J:=Option.some.inj K
 refine vL (iK 2 E fun t=>eZ E (by kernel_rfl) (eC aA 9 [(W ((a.length:Int) - 1))] [(24,.v (.bool (decide (0<(a.length:Int))))),(30,.cd [(24,true)] (.ep ⟨j,a.length,k⟩ (Int.toNat (W ((a.length:Int) - 1))*2)))] E ⟨(fun Z=>ev5),(fun L=>(t.cast (kN _ _ _)).ix (l L)),(fun M=>(t.cast (kN _ _ _)).fa (l M)),(Es E)⟩ (qZ aA E E E E E E 2 E E (Int.toNat (W ((a.length:Int) - 1))) 0 (Sum.inr [sL m ((at' a (W ((a.length:Int) - 1))).1) n,I (at' a (W ((a.length:Int) - 1))).2]) (fun N=>⟨sE (bH (l N)),E⟩) E E E (eC aA 2 [] [(33,.cd [(24,true)] (.v (sL c b.1 d)))] E ev2 (JQ.call E E E E (fun O=>aF8 ((at' a (W ((a.length:Int) - 1))).1) b.1 m n c d _ (H O)) E [3,1] E E (eC aA 1 [] [(35,.v (.bool (bif (decide (0<(a.length:Int))) then G else false)))] E ev2 (kW E ?_)))))))
 refine vJ (id:=0) (zF [0,0] E (at' a (W ((a.length:Int) - 1))) E ev9 (vL ?_))
 refine aJ E h (fun h=>?_) (fun h=>?_)
 ·
  refine aS aA 3 [] [] [(5,.v (.bool true))] (.new 5 44 [sL j a k] .nil) ⟨ev2,(Bs E E)⟩ E E ?_
  cases h
  exact JS.ret aA (j,k) V E E [0] E
 refine JS.skip (JS.seq ?_)
 obtain ⟨f,P,h⟩:=aD h
 obtain ⟨Q,h⟩:=aH h
 refine bE E (.new 4 38 [sL c b.1 d,I b.2] (.new 15 44 [sL j a k] .nil)) [] [5,6,7] ev6 E (fun a0=>?_)
 refine cD aA aI true 5 [0,1,2] E (by kernel_rfl) [] [(38,.v (sL j a k)),(39,.v (.agg #[sL c b.1 d,I b.2]))] ev6 [] E E (Es E) (JA.one 3 (by kernel_rfl) (JK.call E E E E (zX b c d _ P) E [1] E E ?_))
 rintro ⟨a1,a2⟩ -
 refine aQ ⟨E,E,E,E,E,E,E,E,V⟩ [] E (JA.one 4 (by kernel_rfl) (JK.buildSlice aA E E E E E E E E E E E [0] E (.pair (.sl iT) iT) [f] ⟨E,E,E⟩ E E fun a4=>aQ ⟨E,E,E,E,E,E,E,E,V⟩ [] E (JA.one 5 (by kernel_rfl) (iL aA E E E E ⟨E,E,E,E,V,E,E,E,E⟩ E E [1,0] E Q E fun o p=>aR E (aW aA aI 1 [6] E (by kernel_rfl) [] [(43,.bp 15 0)] E ⟨E,V⟩ (JA.one 7 (by kernel_rfl) (aY aA E E E E E E E E (aR E (bI (by kernel_rfl) (bC (B':=(.new 5 44 [.slice none 0 0] (.new 15 44 [sL o (a ++ ([f]:List (List Int×Int))) p] .nil))) (Bs E E) ?_))))))))))
 obtain ⟨R,S,h⟩:=aM h
 refine cJ (ι:=(List (List Int×Int))×Option Addr×Nat) ⟨fun z=>R z.1=some r,fun z=>[(4,.bp 5 0),(6,.bp 15 0)],fun z=>(.new 5 44 [.slice none 0 0] (.new 15 44 [sL z.2.1 z.1 z.2.2] .nil)),fun z=>[],fun z=>[⟨(.pair (.sl iT) iT),⟨z.2.1,z.1.length,z.2.2⟩,z.1⟩],fun z=>0⟩ ?_ ?_
 ·
  refine aE aA 2 [(45,.v (.bool (decide ((a.length:Int)=20))))] ev1 E E ?_
  refine aJ E h (fun h=>?_) (fun h=>?_)
  ·
   refine JS.region (aB aA 2 [] [] [(47,.v (sL o (a ++ ([f]:List (List Int×Int))) p))] _ E ev1 ?_)
   obtain ⟨U,h⟩:=aH h
   refine pX aA E E E E E E E E [0] E (1:Int) ((a ++ ([f]:List (List Int×Int))).length:Int) E E U E fun u w=>aL aA 2 [] [] [] (.new 5 44 [.slice none 0 0] (.new 15 44 [sL u (bJ (a ++ ([f]:List (List Int×Int))) 1 ((a ++ ([f]:List (List Int×Int))).length:Int)) w] .nil)) E ⟨V,(Bs E E)⟩ (aC E (aO ((bJ (a ++ ([f]:List (List Int×Int))) 1 ((a ++ ([f]:List (List Int×Int))).length:Int)),u,w) h (Es E) (Bs E E) [] E [0] E))
  refine JS.skip (aO ((a ++ ([f]:List (List Int×Int))),o,p) h (Es E) (Bs E E) [] E [0] E)
 rintro ⟨X,x,y⟩ h
 subst S
 refine aS aA 3 [] [] [(5,.v (.bool true))] (.new 5 44 [sL x X y] .nil) ⟨ev2,(Bs E E)⟩ E E ?_
 cases h
 exact JS.ret aA (x,y) V E E [0] E

def qO (a:EdQ):Option EdQ:= (aT (fun (c:Int)=> some (a.1,a.2.1,(a.2.2.1.1,c),a.2.2.2.1,a.2.2.2.2.1,a.2.2.2.2.2.1,a.2.2.2.2.2.2.1,a.2.2.2.2.2.2.2.1,a.2.2.2.2.2.2.2.2.1,a.2.2.2.2.2.2.2.2.2.1,a.2.2.2.2.2.2.2.2.2.2.1,a.2.2.2.2.2.2.2.2.2.2.2.1,a.2.2.2.2.2.2.2.2.2.2.2.2.1,a.2.2.2.2.2.2.2.2.2.2.2.2.2.1,a.2.2.2.2.2.2.2.2.2.2.2.2.2.2.1,a.2.2.2.2.2.2.2.2.2.2.2.2.2.2.2.1,a.2.2.2.2.2.2.2.2.2.2.2.2.2.2.2.2)) fun b=>(bif (bif (bif decide (a.2.1=2) then (decide (a.2.2.1.2=(a.2.2.1.1.length:Int))) else false) then (decide (0<a.2.2.1.2)) else false) then b (W (a.2.2.1.2 - 1)) else b a.2.2.1.2))

theorem aF6 (a:EdQ) (b:P6) (r:EdQ) (h:qO a=some r):
 FC Tryz.prog 155 [.agg (aG a b).toArray] (cH a b []) (fun _:Unit=>True) (fun _=>.agg #[.bool r.1,I r.2.1,sL b.1 a.2.2.1.1 b.2.1,I r.2.2.1.2,I r.2.2.2.1,I (Q4 r).1,I (Q4 r).2.1,I (Q4 r).2.2.1,I (Q4 r).2.2.2.1,I (Q8 r).1,I (Q8 r).2.1,sL b.2.2.1 (Q8 a).2.2.1 b.2.2.2.1,sL (Q4 b).1 (Q8 a).2.2.2.1 (Q4 b).2.1,I (Q12 r).1,sL (Q4 b).2.2.1 (Q12 a).2.1.1 (Q4 b).2.2.2.1,I (Q12 r).2.1.2,sL (Q8 b).1 (Q12 a).2.2.1 (Q8 b).2.1,I (Q12 r).2.2.2.1,sL (Q8 b).2.2.1 (Q16 a).1 (Q8 b).2.2.2,I (Q16 r).2]) (fun _=>[]):= by
 refine FC.of (T:=TTx) Tryz.call155 Tryz.func155 E E fun f=>?_
 unfold qO at h
 refine aS aA 2 [] [7,8] [(1,.bp 7 0),(2,.bp 8 0)] (.new 7 46 (aG a b) (.new 8 46 bG .nil)) ⟨(Es E),(Bs E E)⟩ E E ?_
 obtain ⟨c,d,h⟩:=aM h
 refine cJ (ι:=Int) ⟨fun z=>c z=some r,fun z=>[(1,.bp 7 0),(2,.bp 8 0)],fun z=>(.new 7 46 (aG (a.1,a.2.1,(a.2.2.1.1,z),a.2.2.2) b) (.new 8 46 bG .nil)),fun z=>(cH a b []),fun z=>[],fun z=>0⟩ ?_ ?_
 ·
  refine aE aA 19 [(21,.v (.bool (bif (bif (decide (a.2.1=2)) then (decide (a.2.2.1.2=(a.2.2.1.1.length:Int))) else false) then (decide (0<a.2.2.1.2)) else false)))] ev1 E E ?_
  refine aJ E h (fun h=>?_) (fun h=>?_)
  ·
   refine tK aA 7 [(W (a.2.2.1.2 - 1))] [] [] (.new 7 46 (aG (a.1,a.2.1,(a.2.2.1.1,(W (a.2.2.1.2 - 1))),a.2.2.2) b) (.new 8 46 bG .nil)) ⟨ev5,V,(Bs E E)⟩ E E (aO (W (a.2.2.1.2 - 1)) h (Es E) (Bs E E) [0,1,2,3,4,5] E [] E)
  refine JS.skip (aO a.2.2.1.2 h (Es E) (Bs E E) [0,1,2,3,4,5] E [] E)
 rintro e h
 subst d
 refine aS aA 2 [] [] [] (.new 8 46 (aG (a.1,a.2.1,(a.2.2.1.1,e),a.2.2.2) b) .nil) ⟨V,(Bs E E)⟩ E E ?_
 cases h
 exact JS.ret aA () V E E [] E

def qN (a:List UInt8×Int×Int):Option (EdQ×List UInt8×Int×Int):= (aF (aU a 2) fun (y7,v)=>(aF (xP (decide (y7=0))) fun c=>(aF (iB (a.1,v.2.1,v.2.2)) fun (d,w)=>(aF (oB (a.1,w.2.1,w.2.2)) fun (x,y)=>(aT (fun ((z,a3,a4):(List (List Int×Int))×Int×Int)=>(aF (aU (a.1,a3,a4) 4) fun (o,A)=>(aT (fun ((p,a5,a6):Int×Int×Int)=>(aT (fun ((q,r,a7,a8):Int×Int×Int×Int)=>(aT (fun ((s,B,t,C,D):Int×List Int×Int×Int×Int)=>(aT (fun ((a9,b0,b1,b2,b3,b4,b5,b6,b7,b8,b9,c0,c1,c2,c3,c4,c5,c6):Bool×Int×Int×Int×Int×Int×Int×Int×Int×Int×Int×Int×List Int×Int×List Int×Int×Int×Int)=> some ((a9,b0,(d.1,b1),b2,b3,b4,b5,b6,b7,b8,x,z,b9,(B,c0),c1,c2,(c3,c4)),(a.1,c5,c6))) fun e=>(cA (c.1=true) (aU (a.1,C,D) 3) ((0:Int),(a.1,C,D)) fun (c7,f)=>(bif (bif c.1 then (decide (0<c7)) else false) then (aF (qO (c.1,2,d,p,c.2.2.2.2.1,c.2.2.2.2.2.1,c.2.2.2.2.2.2.1,q,r,o,x,z,s,(B,t),([]:List Int),c.2.2.2.2.2.2.2.2.2.2.2.2.2.2.2.1,(([]:List Int),c.2.2.2.2.2.2.2.2.2.2.2.2.2.2.2.2.2))) fun b=>(aF (aU (a.1,f.2.1,f.2.2) 8) fun (g,h)=>(aT (fun ((F,G,c8,c9):Int×Int×Int×Int)=>(aF (aU (a.1,c8,c9) 4) fun (d0,i)=>(bif decide (d0=0) then (aF (aU (a.1,i.2.1,i.2.2) 5) fun (u,H)=>(aN (0≤u∧u<(([102,70,116,84,114]:List Int).length:Int)) <|e (b.1,b.2.1,b.2.2.1.2,b.2.2.2.1,F,G,(at' ([102,70,116,84,114]:List Int) u),b.2.2.2.2.2.2.2.1,b.2.2.2.2.2.2.2.2.1,b.2.2.2.2.2.2.2.2.2.1,b.2.2.2.2.2.2.2.2.2.2.2.2.1,b.2.2.2.2.2.2.2.2.2.2.2.2.2.1.2,([]:List Int),b.2.2.2.2.2.2.2.2.2.2.2.2.2.2.2.1,([]:List Int),b.2.2.2.2.2.2.2.2.2.2.2.2.2.2.2.2.2,H.2.1,H.2.2))) else e (b.1,b.2.1,b.2.2.1.2,b.2.2.2.1,F,G,b.2.2.2.2.2.2.1,b.2.2.2.2.2.2.2.1,b.2.2.2.2.2.2.2.2.1,b.2.2.2.2.2.2.2.2.2.1,b.2.2.2.2.2.2.2.2.2.2.2.2.1,b.2.2.2.2.2.2.2.2.2.2.2.2.2.1.2,([]:List Int),b.2.2.2.2.2.2.2.2.2.2.2.2.2.2.2.1,([]:List Int),b.2.2.2.2.2.2.2.2.2.2.2.2.2.2.2.2.2,i.2.1,i.2.2)))) fun J=>(bif decide (g<3) then (aN (0≤g∧g<(([100,99,121]:List Int).length:Int)) <|(aF (aU (a.1,h.2.1,h.2.2) 4) fun (d1,K)=> J ((at' ([100,99,121]:List Int) g),d1,K.2.1,K.2.2))) else J (b.2.2.2.2.1,b.2.2.2.2.2.1,h.2.1,h.2.2))))) else (aF (aU (a.1,f.2.1,f.2.2) 4) fun (d2,j)=>(bif decide (d2=0) then (aF (iC (a.1,j.2.1,j.2.2) 2) fun (d3,L)=>(aF (aU (a.1,L.2.1,L.2.2) 6) fun (d4,M)=>(aF (iB (a.1,M.2.1,M.2.2)) fun (N,O)=> e (c.1,3,d.2,p,c.2.2.2.2.1,c.2.2.2.2.2.1,c.2.2.2.2.2.2.1,q,r,o,s,t,d3,d4,N.1,N.2,O.2.1,O.2.2)))) else e (c.1,c.2.1,d.2,p,c.2.2.2.2.1,c.2.2.2.2.2.1,c.2.2.2.2.2.2.1,q,r,o,s,t,([]:List Int),c.2.2.2.2.2.2.2.2.2.2.2.2.2.2.2.1,([]:List Int),c.2.2.2.2.2.2.2.2.2.2.2.2.2.2.2.2.2,j.2.1,j.2.2))))))) fun P=>(aF (aU (a.1,a7,a8) 4) fun (d5,k)=>(bif decide (d5=0) then (aF (aU (a.1,k.2.1,k.2.2) 6) fun (d6,Q)=>(aF (iB (a.1,Q.2.1,Q.2.2)) fun (R,S)=> P ((W (1+d6)),R.1,R.2,S.2.1,S.2.2))) else P (c.2.2.2.2.2.2.2.2.2.2.2.2.1,([]:List Int),c.2.2.2.2.2.2.2.2.2.2.2.2.2.1.2,k.2.1,k.2.2))))) fun T=>(aF (aU (a.1,a5,a6) 3) fun (d7,l)=>(bif decide (d7=0) then (aF (iD (a.1,l.2.1,l.2.2)) fun (d8,U)=>(aF (aU (a.1,U.2.1,U.2.2) 4) fun (d9,X)=> T (d8,d9,X.2.1,X.2.2))) else T (c.2.2.2.2.2.2.2.1,c.2.2.2.2.2.2.2.2.1,l.2.1,l.2.2))))) fun Y=>(aF (aU (a.1,A.2.1,A.2.2) 3) fun (e0,m)=>(bif decide (e0=0) then (aF (aU (a.1,m.2.1,m.2.2) 4) fun (e1,Z)=> Y ((W (1+e1)),Z.2.1,Z.2.2)) else Y (c.2.2.2.1,m.2.1,m.2.2)))))) fun a0=>(aF (aU (a.1,y.2.1,y.2.2) 2) fun (e2,n)=>(bif decide (e2=0) then (aF (iB (a.1,n.2.1,n.2.2)) fun (e3,a1)=>(aF (qR ([]:List (List Int×Int)) e3) fun (e4,e5)=> a0 (e4,a1.2.1,a1.2.2))) else a0 (([]:List (List Int×Int)),n.2.1,n.2.2))))))))

theorem aF5 (d:List UInt8×Int×Int) (c:Option Addr) (f:Option Addr) (g:Nat) (r:EdQ×List UInt8×Int×Int) (h:qN d=some r):
 FX Tryz.prog 104 [.pointer c] [⟨.byte,⟨f,d.1.length,g⟩,d.1⟩] [⟨(.pair .val (.pair iT iT)),⟨c,1,1⟩,[((Sl.v ⟨f,d.1.length,g⟩),d.2)]⟩] (fun _:P6=>True) (fun q=>.agg (aG r.1 q).toArray) (fun q=>(⟨(.pair .val (.pair iT iT)),⟨c,1,1⟩,[((Sl.v ⟨f,d.1.length,g⟩),r.2.2)]⟩ :: (cH r.1 q []))):= by
 refine FX.of (T:=TTx) Tryz.call104 Tryz.func104 E E fun w0 L0=>?_
 unfold qN at h
 refine gS 0 c E ?_
 refine aS aA 1 [] [3] [(2,.bp 3 0)] (.new 3 46 bG .nil) ⟨ev2,(Bs E E)⟩ E E (JS.seq (JS.region (aB aA 1 [] [] [(5,.ep ⟨c,1,1⟩ 0)] _ E ev1 ?_)))
 obtain ⟨⟨y7,y8⟩,c7,h⟩:=aD h
 refine bL E E E E (bD d 2 c f g _ c7) E [0] E [0] E E fun _ _=>aB aA 1 [] [] [(7,.v (.bool (decide (y7=0))))] _ E ev1 ?_
 refine bnw h fun a c8 h=>JO.call E E E E (aKu (decide (y7=0)) _ c8) E [] E E fun _ _=>aL aA 2 [] [9] [(3,.bp 9 0)] (.new 3 46 bG (.new 9 46 (aG (a.1,a.2.1,([],a.2.2.1.2),a.2.2.2.1,(Q4 a).1,(Q4 a).2.1,(Q4 a).2.2.1,(Q4 a).2.2.2.1,(Q8 a).1,(Q8 a).2.1,[],[],(Q12 a).1,([],(Q12 a).2.1.2),[],(Q12 a).2.2.2.1,([],(Q16 a).2)) (none,0,none,0,none,0,none,0,none,0,none,0)) .nil)) E ⟨ev2,(Bs E E)⟩ (aC E (JS.seq (JS.region (aB aA 1 [] [] [(9,.ep ⟨c,1,1⟩ 0)] _ E ev1 ?_))))
 obtain ⟨⟨i,c9⟩,d0,h⟩:=aD h
 refine bL E E E E (rL (d.1,y8.2) c f g _ d0) E [0] E [0] E E ?_
 rintro ⟨j,k⟩ -
 refine aL aA 2 [] [] [] (.new 3 46 bG (.new 9 46 (aG (a.1,a.2.1,i,a.2.2.2.1,(Q4 a).1,(Q4 a).2.1,(Q4 a).2.2.1,(Q4 a).2.2.2.1,(Q8 a).1,(Q8 a).2.1,[],[],(Q12 a).1,([],(Q12 a).2.1.2),[],(Q12 a).2.2.2.1,([],(Q16 a).2)) (j,k,none,0,none,0,none,0,none,0,none,0)) .nil)) E ⟨V,(Bs E E)⟩ (aC E (JS.seq (JS.region (aB aA 1 [] [] [(12,.ep ⟨c,1,1⟩ 0)] _ E ev1 ?_))))
 obtain ⟨⟨e,d1⟩,d2,h⟩:=aD h
 refine bL E E E E (aF9 (d.1,c9.2) c f g _ d2) E [0] E [0] E E ?_
 rintro ⟨l,m⟩ -
 refine aL aA 2 [] [] [] (.new 3 46 bG (.new 9 46 (aG (a.1,a.2.1,i,a.2.2.2.1,(Q4 a).1,(Q4 a).2.1,(Q4 a).2.2.1,(Q4 a).2.2.2.1,(Q8 a).1,(Q8 a).2.1,e,[],(Q12 a).1,([],(Q12 a).2.1.2),[],(Q12 a).2.2.2.1,([],(Q16 a).2)) (j,k,l,m,none,0,none,0,none,0,none,0)) .nil)) E ⟨V,(Bs E E)⟩ (aC E ?_)
 obtain ⟨d3,d4,h⟩:=aM h
 refine cJ (ι:=(List (List Int×Int))×Int×Int×Option Addr×Nat) ⟨fun z=>d3 (z.1,z.2.1,z.2.2.1)=some r,fun z=>[(0,.ep ⟨c,1,1⟩ 0),(2,.bp 3 0),(3,.bp 9 0)],fun z=>(.new 3 46 bG (.new 9 46 (aG (a.1,a.2.1,i,a.2.2.2.1,(Q4 a).1,(Q4 a).2.1,(Q4 a).2.2.1,(Q4 a).2.2.2.1,(Q8 a).1,(Q8 a).2.1,e,z.1,(Q12 a).1,([],(Q12 a).2.1.2),[],(Q12 a).2.2.2.1,([],(Q16 a).2)) (j,k,l,m,z.2.2.2.1,(Q4 z),none,0,none,0,none,0)) .nil)),fun z=>[⟨.byte,⟨f,d.1.length,g⟩,d.1⟩],fun z=>[⟨(.pair (.sl iT) iT),⟨z.2.2.2.1,z.1.length,(Q4 z)⟩,z.1⟩,⟨(.pair .val (.pair iT iT)),⟨c,1,1⟩,[((Sl.v ⟨f,d.1.length,g⟩),z.2.1,z.2.2.1)]⟩,fI j k i.1,⟨(.sl iT),⟨l,e.length,m⟩,e⟩],fun z=>0⟩ ?_ ?_
 ·
  refine JS.seq (JS.region (aB aA 1 [] [] [(15,.ep ⟨c,1,1⟩ 0)] _ E ev1 ?_))
  obtain ⟨⟨d5,L⟩,d6,h⟩:=aD h
  refine bL E E E E (bD (d.1,d1.2) 2 c f g _ d6) E [0] E [0] E E fun _ _=>aB aA 1 [] [] [(17,.v (.bool (decide (d5=0))))] _ E ev1 (aC E ?_)
  refine aJ E h (fun h=>?_) (fun h=>?_)
  ·
   obtain ⟨⟨d7,a5⟩,d8,h⟩:=aD h
   obtain ⟨⟨M,m0⟩,d9,h⟩:=aD h
   refine bE E (.new 9 46 (aG (a.1,a.2.1,i,a.2.2.2.1,(Q4 a).1,(Q4 a).2.1,(Q4 a).2.2.1,(Q4 a).2.2.2.1,(Q8 a).1,(Q8 a).2.1,e,[],(Q12 a).1,([],(Q12 a).2.1.2),[],(Q12 a).2.2.2.1,([],(Q16 a).2)) (j,k,l,m,none,0,none,0,none,0,none,0)) .nil) [] [4,5,6,7,8,9] ev3 E (fun m1=>?_)
   refine cD aA rQ true 7 [0,1,2] E (by kernel_rfl) [] [(20,.v (.agg #[.slice none 0 0])),(21,.ep ⟨c,1,1⟩ 0)] ev3 [] E E (Es E) (JA.one 3 (by kernel_rfl) (sT E E E E (rL (d.1,L.2) c f g _ d8) E [0] E [0] E E ?_))
   rintro ⟨e0,e1⟩ -
   refine aQ ev3 [] E (JA.one 4 (by kernel_rfl) (aR3 (.pair (.sl iT) iT) Sl.nil E E (JK.call E E E E (aGc ([]:List (List Int×Int)) d7 none 0 e0 e1 _ d9) E [0,3] E E ?_)))
   rintro ⟨N,O⟩ -
   refine aR E (aW aA rQ 1 [5,6,7,8] E (by kernel_rfl) [] [(24,.v (.agg #[sL N M O])),(26,.bp 9 12)] E (Es E) (JA.one 9 (by kernel_rfl) (aY aA E E E E E E E E (aR E (bI (by kernel_rfl) (bC (B':=(.new 3 46 bG (.new 9 46 (aG (a.1,a.2.1,i,a.2.2.2.1,(Q4 a).1,(Q4 a).2.1,(Q4 a).2.2.1,(Q4 a).2.2.2.1,(Q8 a).1,(Q8 a).2.1,e,M,(Q12 a).1,([],(Q12 a).2.1.2),[],(Q12 a).2.2.2.1,([],(Q16 a).2)) (j,k,l,m,N,O,none,0,none,0,none,0)) .nil))) (Bs E E) (bT (M,a5.2.1,a5.2.2,N,O) h (Es E) (Bs E E) [1] E [0,1,4,3] E E)))))))
  refine JS.skip (aX (.pair (.sl iT) iT) Sl.nil E E (bT (([]:List (List Int×Int)),L.2.1,L.2.2,none,0) h (Es E) (Bs E E) [0] E [0,1,3,2] E E))
 rintro ⟨n,e2,e3,o,p⟩ h
 subst d4
 refine JS.seq (JS.region (aB aA 1 [] [] [(27,.ep ⟨c,1,1⟩ 0)] _ E ev1 ?_))
 obtain ⟨⟨s,e4⟩,e5,h⟩:=aD h
 refine bL E E E E (bD (d.1,e2,e3) 4 c f g _ e5) E [1] E [0] E E fun _ _=>aL aA 2 [] [] [] (.new 3 46 bG (.new 9 46 (aG (a.1,a.2.1,i,a.2.2.2.1,(Q4 a).1,(Q4 a).2.1,(Q4 a).2.2.1,(Q4 a).2.2.2.1,(Q8 a).1,s,e,n,(Q12 a).1,([],(Q12 a).2.1.2),[],(Q12 a).2.2.2.1,([],(Q16 a).2)) (j,k,l,m,o,p,none,0,none,0,none,0)) .nil)) E ⟨V,(Bs E E)⟩ (aC E ?_)
 obtain ⟨e6,e7,h⟩:=aM h
 refine cJ (ι:=Int×Int×Int) ⟨fun z=>e6 z=some r,fun z=>[(0,.ep ⟨c,1,1⟩ 0),(2,.bp 3 0),(3,.bp 9 0)],fun z=>(.new 3 46 bG (.new 9 46 (aG (a.1,a.2.1,i,z.1,(Q4 a).1,(Q4 a).2.1,(Q4 a).2.2.1,(Q4 a).2.2.2.1,(Q8 a).1,s,e,n,(Q12 a).1,([],(Q12 a).2.1.2),[],(Q12 a).2.2.2.1,([],(Q16 a).2)) (j,k,l,m,o,p,none,0,none,0,none,0)) .nil)),fun z=>[⟨.byte,⟨f,d.1.length,g⟩,d.1⟩],fun z=>[⟨(.pair .val (.pair iT iT)),⟨c,1,1⟩,[((Sl.v ⟨f,d.1.length,g⟩),z.2)]⟩,fI j k i.1,⟨(.sl iT),⟨l,e.length,m⟩,e⟩,⟨(.pair (.sl iT) iT),⟨o,n.length,p⟩,n⟩],fun z=>0⟩ ?_ ?_
 ·
  refine JS.seq (JS.region (aB aA 1 [] [] [(30,.ep ⟨c,1,1⟩ 0)] _ E ev1 ?_))
  obtain ⟨⟨e8,a6⟩,e9,h⟩:=aD h
  refine bL E E E E (bD (d.1,e4.2) 3 c f g _ e9) E [0] E [0] E E fun _ _=>aB aA 1 [] [] [(32,.v (.bool (decide (e8=0))))] _ E ev1 (aC E ?_)
  refine aJ E h (fun h=>?_) (fun h=>?_)
  ·
   refine JS.region (aB aA 1 [] [] [(33,.ep ⟨c,1,1⟩ 0)] _ E ev1 ?_)
   obtain ⟨⟨P,f0⟩,f1,h⟩:=aD h
   refine bL E E E E (bD (d.1,a6.2) 4 c f g _ f1) E [0] E [0] E E fun _ _=>aL aA 3 [(W (1+P))] [] [] (.new 3 46 bG (.new 9 46 (aG (a.1,a.2.1,i,(W (1+P)),(Q4 a).1,(Q4 a).2.1,(Q4 a).2.2.1,(Q4 a).2.2.2.1,(Q8 a).1,s,e,n,(Q12 a).1,([],(Q12 a).2.1.2),[],(Q12 a).2.2.2.1,([],(Q16 a).2)) (j,k,l,m,o,p,none,0,none,0,none,0)) .nil)) E ⟨ev5,V,(Bs E E)⟩ (aC E (bT ((W (1+P)),f0.2) h (Es E) (Bs E E) [0] E [0,2,3,1] E E))
  refine JS.skip (bT (a.2.2.2.1,a6.2) h (Es E) (Bs E E) [0] E [0,2,3,1] E E)
 rintro ⟨x,f2,f3⟩ h
 subst e7
 obtain ⟨f4,f5,h⟩:=aM h
 refine cJ (ι:=Int×Int×Int×Int) ⟨fun z=>f4 z=some r,fun z=>[(0,.ep ⟨c,1,1⟩ 0),(2,.bp 3 0),(3,.bp 9 0)],fun z=>(.new 3 46 bG (.new 9 46 (aG (a.1,a.2.1,i,x,(Q4 a).1,(Q4 a).2.1,(Q4 a).2.2.1,z.1,z.2.1,s,e,n,(Q12 a).1,([],(Q12 a).2.1.2),[],(Q12 a).2.2.2.1,([],(Q16 a).2)) (j,k,l,m,o,p,none,0,none,0,none,0)) .nil)),fun z=>[⟨.byte,⟨f,d.1.length,g⟩,d.1⟩],fun z=>[⟨(.pair .val (.pair iT iT)),⟨c,1,1⟩,[((Sl.v ⟨f,d.1.length,g⟩),z.2.2)]⟩,fI j k i.1,⟨(.sl iT),⟨l,e.length,m⟩,e⟩,⟨(.pair (.sl iT) iT),⟨o,n.length,p⟩,n⟩],fun z=>0⟩ ?_ ?_
 ·
  refine JS.seq (JS.region (aB aA 1 [] [] [(37,.ep ⟨c,1,1⟩ 0)] _ E ev1 ?_))
  obtain ⟨⟨f6,a7⟩,f7,h⟩:=aD h
  refine bL E E E E (bD (d.1,f2,f3) 3 c f g _ f7) E [0] E [0] E E fun _ _=>aB aA 1 [] [] [(39,.v (.bool (decide (f6=0))))] _ E ev1 (aC E ?_)
  refine aJ E h (fun h=>?_) (fun h=>?_)
  ·
   refine JS.seq (JS.region (aB aA 1 [] [] [(40,.ep ⟨c,1,1⟩ 0)] _ E ev1 ?_))
   obtain ⟨⟨Q,f8⟩,f9,h⟩:=aD h
   refine bL E E E E (uV (d.1,a7.2) c f g _ f9) E [0] E [0] E E fun _ _=>aL aA 2 [] [] [] (.new 3 46 bG (.new 9 46 (aG (a.1,a.2.1,i,x,(Q4 a).1,(Q4 a).2.1,(Q4 a).2.2.1,Q,(Q8 a).1,s,e,n,(Q12 a).1,([],(Q12 a).2.1.2),[],(Q12 a).2.2.2.1,([],(Q16 a).2)) (j,k,l,m,o,p,none,0,none,0,none,0)) .nil)) E ⟨V,(Bs E E)⟩ (aC E (JS.region (aB aA 1 [] [] [(43,.ep ⟨c,1,1⟩ 0)] _ E ev1 ?_)))
   obtain ⟨⟨a8,g0⟩,g1,h⟩:=aD h
   refine bL E E E E (bD (d.1,f8.2) 4 c f g _ g1) E [0] E [0] E E fun _ _=>aL aA 2 [] [] [] (.new 3 46 bG (.new 9 46 (aG (a.1,a.2.1,i,x,(Q4 a).1,(Q4 a).2.1,(Q4 a).2.2.1,Q,a8,s,e,n,(Q12 a).1,([],(Q12 a).2.1.2),[],(Q12 a).2.2.2.1,([],(Q16 a).2)) (j,k,l,m,o,p,none,0,none,0,none,0)) .nil)) E ⟨V,(Bs E E)⟩ (aC E (bT (Q,a8,g0.2) h (Es E) (Bs E E) [0] E [0,1,2,3] E E))
  refine JS.skip (bT ((Q4 a).2.2.2.1,(Q8 a).1,a7.2) h (Es E) (Bs E E) [0] E [0,1,2,3] E E)
 rintro ⟨y,A,g2,g3⟩ h
 subst f5
 obtain ⟨g4,g5,h⟩:=aM h
 refine cJ (ι:=Int×List Int×Int×Int×Int×Option Addr×Nat) ⟨fun z=>g4 (z.1,z.2.1,z.2.2.1,z.2.2.2.1,(Q4 z).1)=some r,fun z=>[(0,.ep ⟨c,1,1⟩ 0),(2,.bp 3 0),(3,.bp 9 0)],fun z=>(.new 3 46 bG (.new 9 46 (aG (a.1,a.2.1,i,x,(Q4 a).1,(Q4 a).2.1,(Q4 a).2.2.1,y,A,s,e,n,z.1,(z.2.1,z.2.2.1),[],(Q12 a).2.2.2.1,([],(Q16 a).2)) (j,k,l,m,o,p,(Q4 z).2.1,(Q4 z).2.2,none,0,none,0)) .nil)),fun z=>[⟨.byte,⟨f,d.1.length,g⟩,d.1⟩],fun z=>[fI (Q4 z).2.1 (Q4 z).2.2 z.2.1,⟨(.pair .val (.pair iT iT)),⟨c,1,1⟩,[((Sl.v ⟨f,d.1.length,g⟩),z.2.2.2.1,(Q4 z).1)]⟩,fI j k i.1,⟨(.sl iT),⟨l,e.length,m⟩,e⟩,⟨(.pair (.sl iT) iT),⟨o,n.length,p⟩,n⟩],fun z=>0⟩ ?_ ?_
 ·
  refine JS.seq (JS.region (aB aA 1 [] [] [(46,.ep ⟨c,1,1⟩ 0)] _ E ev1 ?_))
  obtain ⟨⟨g6,R⟩,g7,h⟩:=aD h
  refine bL E E E E (bD (d.1,g2,g3) 4 c f g _ g7) E [0] E [0] E E fun _ _=>aB aA 1 [] [] [(48,.v (.bool (decide (g6=0))))] _ E ev1 (aC E ?_)
  refine aJ E h (fun h=>?_) (fun h=>?_)
  ·
   refine JS.seq (JS.region (aB aA 1 [] [] [(49,.ep ⟨c,1,1⟩ 0)] _ E ev1 ?_))
   obtain ⟨⟨G,g8⟩,g9,h⟩:=aD h
   refine bL E E E E (bD (d.1,R.2) 6 c f g _ g9) E [0] E [0] E E fun _ _=>aL aA 3 [(W (1+G))] [] [] (.new 3 46 bG (.new 9 46 (aG (a.1,a.2.1,i,x,(Q4 a).1,(Q4 a).2.1,(Q4 a).2.2.1,y,A,s,e,n,(W (1+G)),([],(Q12 a).2.1.2),[],(Q12 a).2.2.2.1,([],(Q16 a).2)) (j,k,l,m,o,p,none,0,none,0,none,0)) .nil)) E ⟨ev5,V,(Bs E E)⟩ (aC E (JS.region (aB aA 1 [] [] [(53,.ep ⟨c,1,1⟩ 0)] _ E ev1 ?_)))
   obtain ⟨⟨S,a9⟩,h0,h⟩:=aD h
   refine bL E E E E (rL (d.1,g8.2) c f g _ h0) E [0] E [0] E E ?_
   rintro ⟨b0,b1⟩ -
   refine aL aA 2 [] [] [] (.new 3 46 bG (.new 9 46 (aG (a.1,a.2.1,i,x,(Q4 a).1,(Q4 a).2.1,(Q4 a).2.2.1,y,A,s,e,n,(W (1+G)),S,[],(Q12 a).2.2.2.1,([],(Q16 a).2)) (j,k,l,m,o,p,b0,b1,none,0,none,0)) .nil)) E ⟨V,(Bs E E)⟩ (aC E (bT ((W (1+G)),S.1,S.2,a9.2.1,a9.2.2,b0,b1) h (Es E) (Bs E E) [0] E [1,0,2,3,4] E E))
  refine JS.skip (aX iT Sl.nil E E (bT ((Q12 a).1,([]:List Int),(Q12 a).2.1.2,R.2.1,R.2.2,none,0) h (Es E) (Bs E E) [0] E [0,1,2,3,4] E E))
 rintro ⟨B,w,C,h1,h2,t,u⟩ h
 subst g5
 obtain ⟨h3,h4,h⟩:=aM h
 refine cJ (ι:=Bool×Int×Int×Int×Int×Int×Int×Int×Int×Int×Int×Int×List Int×Int×List Int×Int×Int×Int×Option Addr×Nat×Option Addr×Nat) ⟨fun z=>h3 (z.1,z.2.1,z.2.2.1,z.2.2.2.1,(Q4 z).1,(Q4 z).2.1,(Q4 z).2.2.1,(Q4 z).2.2.2.1,(Q8 z).1,(Q8 z).2.1,(Q8 z).2.2.1,(Q8 z).2.2.2.1,(Q12 z).1,(Q12 z).2.1,(Q12 z).2.2.1,(Q12 z).2.2.2.1,(Q16 z).1,(Q16 z).2.1)=some r,fun z=>[(2,.bp 3 0),(3,.bp 9 0)],fun z=>(.new 3 46 bG (.new 9 46 (aG (z.1,z.2.1,(i.1,z.2.2.1),z.2.2.2.1,(Q4 z).1,(Q4 z).2.1,(Q4 z).2.2.1,(Q4 z).2.2.2.1,(Q8 z).1,(Q8 z).2.1,e,n,(Q8 z).2.2.1,(w,(Q8 z).2.2.2.1),(Q12 z).1,(Q12 z).2.1,((Q12 z).2.2.1,(Q12 z).2.2.2.1)) (j,k,l,m,o,p,t,u,(Q16 z).2.2)) .nil)),fun z=>[⟨.byte,⟨f,d.1.length,g⟩,d.1⟩],fun z=>[fI (Q16 z).2.2.1 (Q16 z).2.2.2.1 (Q12 z).1,fI (Q20 z).1 (Q20 z).2 (Q12 z).2.2.1,⟨(.pair .val (.pair iT iT)),⟨c,1,1⟩,[((Sl.v ⟨f,d.1.length,g⟩),(Q16 z).1,(Q16 z).2.1)]⟩,fI j k i.1,⟨(.sl iT),⟨l,e.length,m⟩,e⟩,⟨(.pair (.sl iT) iT),⟨o,n.length,p⟩,n⟩,fI t u w],fun z=>0⟩ ?_ ?_
 ·
  refine JS.seq (JS.region (aB aA 4 [] [] [(58,.v (.bool a.1)),(59,.cd [(58,true)] (.ep ⟨c,1,1⟩ 0))] _ E ⟨(Es E),E⟩ ?_))
  obtain ⟨⟨h5,b2⟩,h6,h7,h⟩:=bB h
  refine aOa E E E E (fun h8=>bD (d.1,h1,h2) 3 c f g _ (h6 h8)) E [1] E [0] E E () (fun h9=>by cases h7 (fun i0=>h9 ⟨i0,V⟩);rfl) fun _ _=>aB aA 2 [] [] [(62,.v (.bool (bif a.1 then (decide (0<h5)) else false)))] _ E ev1 (aC E ?_)
  refine aJ E h (fun h=>?_) (fun h=>?_)
  ·
   refine aS aA 2 [] [] [] (.new 3 46 bG (.new 9 46 (aG (a.1,2,i,x,(Q4 a).1,(Q4 a).2.1,(Q4 a).2.2.1,y,A,s,e,n,B,(w,C),[],(Q12 a).2.2.2.1,([],(Q16 a).2)) (j,k,l,m,o,p,t,u,none,0,none,0)) .nil)) ⟨V,(Bs E E)⟩ E E (JS.seq (JS.region (aB aA 1 [] [] [(64,.v (.agg (aG (a.1,2,i,x,(Q4 a).1,(Q4 a).2.1,(Q4 a).2.2.1,y,A,s,e,n,B,(w,C),[],(Q12 a).2.2.2.1,([],(Q16 a).2)) (j,k,l,m,o,p,t,u,none,0,none,0)).toArray))] _ E ev1 ?_)))
   refine bnw h fun b i1 h=>aAq iT Sl.nil E E (aAq iT Sl.nil E E (JO.call E E E E (aF6 (a.1,2,i,x,(Q4 a).1,(Q4 a).2.1,(Q4 a).2.2.1,y,A,s,e,n,B,(w,C),([]:List Int),(Q12 a).2.2.2.1,(([]:List Int),(Q16 a).2)) (j,k,l,m,o,p,t,u,none,0,none,0) _ i1) E [5,6,7,4,1,0] E E fun _ _=>aL aA 1 [] [] [] (.new 3 46 bG (.new 9 46 (aG (b.1,b.2.1,(i.1,b.2.2.1.2),b.2.2.2.1,(Q4 b).1,(Q4 b).2.1,(Q4 b).2.2.1,(Q4 b).2.2.2.1,(Q8 b).1,(Q8 b).2.1,e,n,(Q12 b).1,(w,(Q12 b).2.1.2),[],(Q12 b).2.2.2.1,([],(Q16 b).2)) (j,k,l,m,o,p,t,u,none,0,none,0)) .nil)) E ⟨V,(Bs E E)⟩ (aC E (JS.seq (JS.region (aB aA 1 [] [] [(66,.ep ⟨c,1,1⟩ 0)] _ E ev1 ?_))))))
   obtain ⟨⟨D,b3⟩,i2,h⟩:=aD h
   refine bL E E E E (bD (d.1,b2.2) 8 c f g _ i2) E [0] E [2] E E fun _ _=>aB aA 1 [] [] [(4,.v (I D))] _ E ev1 (aC E ?_)
   obtain ⟨i3,i4,h⟩:=aM h
   refine cJ (ι:=Int×Int×Int×Int) ⟨fun z=>i3 z=some r,fun z=>[(0,.ep ⟨c,1,1⟩ 0),(2,.bp 3 0),(3,.bp 9 0)],fun z=>(.new 3 46 bG (.new 9 46 (aG (b.1,b.2.1,(i.1,b.2.2.1.2),b.2.2.2.1,z.1,z.2.1,(Q4 b).2.2.1,(Q4 b).2.2.2.1,(Q8 b).1,(Q8 b).2.1,e,n,(Q12 b).1,(w,(Q12 b).2.1.2),[],(Q12 b).2.2.2.1,([],(Q16 b).2)) (j,k,l,m,o,p,t,u,none,0,none,0)) .nil)),fun z=>[⟨.byte,⟨f,d.1.length,g⟩,d.1⟩],fun z=>[⟨(.pair .val (.pair iT iT)),⟨c,1,1⟩,[((Sl.v ⟨f,d.1.length,g⟩),z.2.2)]⟩,fI j k i.1,⟨(.sl iT),⟨l,e.length,m⟩,e⟩,⟨(.pair (.sl iT) iT),⟨o,n.length,p⟩,n⟩,fI t u w],fun z=>0⟩ ?_ ?_
   ·
    refine aE aA 2 [(69,.v (.bool (decide (D<3))))] ev1 E E ?_
    refine aJ E h (fun h=>?_) (fun h=>?_)
    ·
     refine JS.seq (JS.region ?_)
     refine kU E (JK.buildSlice aA E E E E E E E E E E E [] E iT [100,99,121] ⟨E,E⟩ E E fun i5=>kT ?_)
     refine cC 3 E fun i6=>?_
     obtain ⟨b4,h⟩:=aH h
     refine aB aA 2 [] [] [(72,.ep ⟨i5,([100,99,121]:List Int).length,([100,99,121]:List Int).length⟩ (Int.toNat D*1))] _ E ⟨i6.ix b4,ev2,E⟩ (JO.load aA E E E E E E E 3 E E (Int.toNat D) 0 (at' ([100,99,121]:List Int) D) ⟨bH b4,E⟩ E E (aL aA 2 [] [] [] (.new 3 46 bG (.new 9 46 (aG (b.1,b.2.1,(i.1,b.2.2.1.2),b.2.2.2.1,(at' ([100,99,121]:List Int) D),(Q4 b).2.1,(Q4 b).2.2.1,(Q4 b).2.2.2.1,(Q8 b).1,(Q8 b).2.1,e,n,(Q12 b).1,(w,(Q12 b).2.1.2),[],(Q12 b).2.2.2.1,([],(Q16 b).2)) (j,k,l,m,o,p,t,u,none,0,none,0)) .nil)) E ⟨V,(Bs E E)⟩ (aC E (JS.region (aB aA 1 [] [] [(75,.ep ⟨c,1,1⟩ 0)] _ E ev1 ?_)))))
     obtain ⟨⟨b5,i7⟩,i8,h⟩:=aD h
     refine bL E E E E (bD (d.1,b3.2) 4 c f g _ i8) E [1] E [2] E E fun _ _=>aL aA 2 [] [] [] (.new 3 46 bG (.new 9 46 (aG (b.1,b.2.1,(i.1,b.2.2.1.2),b.2.2.2.1,(at' ([100,99,121]:List Int) D),b5,(Q4 b).2.2.1,(Q4 b).2.2.2.1,(Q8 b).1,(Q8 b).2.1,e,n,(Q12 b).1,(w,(Q12 b).2.1.2),[],(Q12 b).2.2.2.1,([],(Q16 b).2)) (j,k,l,m,o,p,t,u,none,0,none,0)) .nil)) E ⟨V,(Bs E E)⟩ (aC E (bT ((at' ([100,99,121]:List Int) D),b5,i7.2) h (Es E) (Bs E E) [2] E [0,3,4,5,2] E E))
    refine JS.skip (bT ((Q4 b).1,(Q4 b).2.1,b3.2) h (Es E) (Bs E E) [2] E [0,2,3,4,1] E E)
   rintro ⟨U,X,i9,j0⟩ h
   subst i4
   refine JS.seq (JS.region (aB aA 1 [] [] [(78,.ep ⟨c,1,1⟩ 0)] _ E ev1 ?_))
   obtain ⟨⟨j1,Y⟩,j2,h⟩:=aD h
   refine bL E E E E (bD (d.1,i9,j0) 4 c f g _ j2) E [0] E [0] E E fun _ _=>aB aA 1 [] [] [(80,.v (.bool (decide (j1=0))))] _ E ev1 (aC E ?_)
   refine aJ E h (fun h=>?_) (fun h=>?_)
   ·
    refine JS.region ?_
    refine kU E (JK.buildSlice aA E E E E E E E E E E E [] E iT [102,70,116,84,114] ⟨E,E⟩ E E fun j3=>kT ?_)
    refine aB aA 1 [] [] [(82,.ep ⟨c,1,1⟩ 0)] _ E ev1 ?_
    obtain ⟨⟨F,b6⟩,j4,h⟩:=aD h
    refine bL E E E E (bD (d.1,Y.2) 5 c f g _ j4) E [1] E [0] E E fun _ _=>cC 2 E fun j5=>?_
    obtain ⟨b7,h⟩:=aH h
    refine aB aA 1 [] [] [(84,.ep ⟨j3,([102,70,116,84,114]:List Int).length,([102,70,116,84,114]:List Int).length⟩ (Int.toNat F*1))] _ E ⟨j5.ix b7,ev2,E⟩ (JO.load aA E E E E E E E 2 E E (Int.toNat F) 0 (at' ([102,70,116,84,114]:List Int) F) ⟨bH b7,E⟩ E E (aL aA 2 [] [] [] (.new 3 46 bG (.new 9 46 (aG (b.1,b.2.1,(i.1,b.2.2.1.2),b.2.2.2.1,U,X,(at' ([102,70,116,84,114]:List Int) F),(Q4 b).2.2.2.1,(Q8 b).1,(Q8 b).2.1,e,n,(Q12 b).1,(w,(Q12 b).2.1.2),[],(Q12 b).2.2.2.1,([],(Q16 b).2)) (j,k,l,m,o,p,t,u,none,0,none,0)) .nil)) E ⟨V,(Bs E E)⟩ (aC E (aX iT Sl.nil E E (aX iT Sl.nil E E (bT (b.1,b.2.1,b.2.2.1.2,b.2.2.2.1,U,X,(at' ([102,70,116,84,114]:List Int) F),(Q4 b).2.2.2.1,(Q8 b).1,(Q8 b).2.1,(Q12 b).1,(Q12 b).2.1.2,([]:List Int),(Q12 b).2.2.2.1,([]:List Int),(Q16 b).2,b6.2.1,b6.2.2,none,0,none,0) h (Es E) (Bs E E) [0] E [1,0,2,4,5,6,7] E E))))))
   refine JS.skip (aX iT Sl.nil E E (aX iT Sl.nil E E (bT (b.1,b.2.1,b.2.2.1.2,b.2.2.2.1,U,X,(Q4 b).2.2.1,(Q4 b).2.2.2.1,(Q8 b).1,(Q8 b).2.1,(Q12 b).1,(Q12 b).2.1.2,([]:List Int),(Q12 b).2.2.2.1,([]:List Int),(Q16 b).2,Y.2.1,Y.2.2,none,0,none,0) h (Es E) (Bs E E) [0] E [1,0,2,3,4,5,6] E E)))
  refine JS.seq (JS.region (aB aA 1 [] [] [(87,.ep ⟨c,1,1⟩ 0)] _ E ev1 ?_))
  obtain ⟨⟨j6,Z⟩,j7,h⟩:=aD h
  refine bL E E E E (bD (d.1,b2.2) 4 c f g _ j7) E [0] E [0] E E fun _ _=>aB aA 1 [] [] [(89,.v (.bool (decide (j6=0))))] _ E ev1 (aC E ?_)
  refine aJ E h (fun h=>?_) (fun h=>?_)
  ·
   refine aS aA 2 [] [] [] (.new 3 46 bG (.new 9 46 (aG (a.1,3,i,x,(Q4 a).1,(Q4 a).2.1,(Q4 a).2.2.1,y,A,s,e,n,B,(w,C),[],(Q12 a).2.2.2.1,([],(Q16 a).2)) (j,k,l,m,o,p,t,u,none,0,none,0)) .nil)) ⟨V,(Bs E E)⟩ E E (JS.seq (JS.region (aB aA 1 [] [] [(91,.ep ⟨c,1,1⟩ 0)] _ E ev1 ?_)))
   obtain ⟨⟨H,j8⟩,j9,h⟩:=aD h
   refine bL E E E E (xY (d.1,Z.2) 2 c f g _ j9) E [0] E [0] E E ?_
   rintro ⟨J,K⟩ -
   refine aL aA 2 [] [] [] (.new 3 46 bG (.new 9 46 (aG (a.1,3,i,x,(Q4 a).1,(Q4 a).2.1,(Q4 a).2.2.1,y,A,s,e,n,B,(w,C),H,(Q12 a).2.2.2.1,([],(Q16 a).2)) (j,k,l,m,o,p,t,u,J,K,none,0)) .nil)) E ⟨V,(Bs E E)⟩ (aC E (JS.seq (JS.region (aB aA 1 [] [] [(94,.ep ⟨c,1,1⟩ 0)] _ E ev1 ?_))))
   obtain ⟨⟨a0,k0⟩,k1,h⟩:=aD h
   refine bL E E E E (bD (d.1,j8.2) 6 c f g _ k1) E [0] E [0] E E fun _ _=>aL aA 2 [] [] [] (.new 3 46 bG (.new 9 46 (aG (a.1,3,i,x,(Q4 a).1,(Q4 a).2.1,(Q4 a).2.2.1,y,A,s,e,n,B,(w,C),H,a0,([],(Q16 a).2)) (j,k,l,m,o,p,t,u,J,K,none,0)) .nil)) E ⟨V,(Bs E E)⟩ (aC E (JS.region (aB aA 1 [] [] [(97,.ep ⟨c,1,1⟩ 0)] _ E ev1 ?_)))
   obtain ⟨⟨a1,b8⟩,k2,h⟩:=aD h
   refine bL E E E E (rL (d.1,k0.2) c f g _ k2) E [0] E [0] E E ?_
   rintro ⟨b9,c0⟩ -
   refine aL aA 2 [] [] [] (.new 3 46 bG (.new 9 46 (aG (a.1,3,i,x,(Q4 a).1,(Q4 a).2.1,(Q4 a).2.2.1,y,A,s,e,n,B,(w,C),H,a0,a1) (j,k,l,m,o,p,t,u,J,K,b9,c0)) .nil)) E ⟨V,(Bs E E)⟩ (aC E (bT (a.1,3,i.2,x,(Q4 a).1,(Q4 a).2.1,(Q4 a).2.2.1,y,A,s,B,C,H,a0,a1.1,a1.2,b8.2.1,b8.2.2,J,K,b9,c0) h (Es E) (Bs E E) [0] E [2,1,0,4,5,6,3] E E))
  refine JS.skip (aX iT Sl.nil E E (aX iT Sl.nil E E (bT (a.1,a.2.1,i.2,x,(Q4 a).1,(Q4 a).2.1,(Q4 a).2.2.1,y,A,s,B,C,([]:List Int),(Q12 a).2.2.2.1,([]:List Int),(Q16 a).2,Z.2.1,Z.2.2,none,0,none,0) h (Es E) (Bs E E) [0] E [1,0,2,4,5,6,3] E E)))
 rintro ⟨k3,k4,k5,k6,k7,k8,k9,l0,l1,l2,l3,l4,l5,l6,l7,l8,m2,m3,c1,c2,c3,c5⟩ h
 subst h4
 refine aS aA 2 [] [] [] (.new 3 46 (aG (k3,k4,(i.1,k5),k6,k7,k8,k9,l0,l1,l2,e,n,l3,(w,l4),l5,l6,(l7,l8)) (j,k,l,m,o,p,t,u,c1,c2,c3,c5)) .nil) ⟨V,(Bs E E)⟩ E E ?_
 cases h
 exact cU aA (j,k,l,m,o,p,t,u,c1,c2,c3,c5) V E E [2,2,2,2,2,0,0] E

def oD (b:List UInt8×Int×Int):Option (List UInt8×List UInt8×Int×Int):= (aF (aU b 12) fun (a,c)=>(aN (0≤a∧a<(([([108,115]:List UInt8),([101,99,104,111,32,97]:List UInt8),([99,97,116,32,98]:List UInt8),([97,32,124,32,98]:List UInt8),([120,61,49]:List UInt8),([105,102,32,97,59,32,116,104,101,110,32,98,59,32,102,105]:List UInt8),([101,99,104,111,32,39,97,10,98,39]:List UInt8),([109,97,107,101]:List UInt8),([108,115,32,45,108]:List UInt8),([101,99,104,111,32,195,169]:List UInt8),([103,105,116,32,108,111,103]:List UInt8),([119]:List UInt8)]:List (List UInt8)).length:Int)) <|some ((at' ([([108,115]:List UInt8),([101,99,104,111,32,97]:List UInt8),([99,97,116,32,98]:List UInt8),([97,32,124,32,98]:List UInt8),([120,61,49]:List UInt8),([105,102,32,97,59,32,116,104,101,110,32,98,59,32,102,105]:List UInt8),([101,99,104,111,32,39,97,10,98,39]:List UInt8),([109,97,107,101]:List UInt8),([108,115,32,45,108]:List UInt8),([101,99,104,111,32,195,169]:List UInt8),([103,105,116,32,108,111,103]:List UInt8),([119]:List UInt8)]:List (List UInt8)) a),(b.1,c.2.1,c.2.2))))

theorem aGb (a:List UInt8×Int×Int) (b:Option Addr) (c:Option Addr) (d:Nat) (r:List UInt8×List UInt8×Int×Int) (h:oD a=some r):
 FX Tryz.prog 177 [.pointer b] [⟨.byte,⟨c,a.1.length,d⟩,a.1⟩] [⟨(.pair .val (.pair iT iT)),⟨b,1,1⟩,[((Sl.v ⟨c,a.1.length,d⟩),a.2)]⟩] (fun _:Unit=>True) (fun _=>.string (bs r.1)) (fun _=>[⟨(.pair .val (.pair iT iT)),⟨b,1,1⟩,[((Sl.v ⟨c,a.1.length,d⟩),r.2.2)]⟩]):= by
 refine FX.of (T:=TTx) Tryz.call177 Tryz.func177 E E fun k L0=>?_
 unfold oD at h
 refine gS 0 b E ?_
 refine aE aA 1 [] ev5 E E (JS.seq (JS.region ?_))
 refine kU E (JK.buildSlice aA E E E E E E E E E E E [] E .str [([108,115]:List UInt8),([101,99,104,111,32,97]:List UInt8),([99,97,116,32,98]:List UInt8),([97,32,124,32,98]:List UInt8),([120,61,49]:List UInt8),([105,102,32,97,59,32,116,104,101,110,32,98,59,32,102,105]:List UInt8),([101,99,104,111,32,39,97,10,98,39]:List UInt8),([109,97,107,101]:List UInt8),([108,115,32,45,108]:List UInt8),([101,99,104,111,32,195,169]:List UInt8),([103,105,116,32,108,111,103]:List UInt8),([119]:List UInt8)] ⟨E,E⟩ E E fun g=>kT ?_)
 refine aB aA 1 [] [] [(4,.ep ⟨b,1,1⟩ 0)] _ E ev1 ?_
 obtain ⟨⟨e,l⟩,i,h⟩:=aD h
 refine bL E E E E (bD a 12 b c d _ i) E [1] E [0] E E fun _ _=>cC 2 E fun j=>?_
 obtain ⟨f,h⟩:=aH h
 refine aB aA 1 [] [] [(6,.ep ⟨g,([([108,115]:List UInt8),([101,99,104,111,32,97]:List UInt8),([99,97,116,32,98]:List UInt8),([97,32,124,32,98]:List UInt8),([120,61,49]:List UInt8),([105,102,32,97,59,32,116,104,101,110,32,98,59,32,102,105]:List UInt8),([101,99,104,111,32,39,97,10,98,39]:List UInt8),([109,97,107,101]:List UInt8),([108,115,32,45,108]:List UInt8),([101,99,104,111,32,195,169]:List UInt8),([103,105,116,32,108,111,103]:List UInt8),([119]:List UInt8)]:List (List UInt8)).length,([([108,115]:List UInt8),([101,99,104,111,32,97]:List UInt8),([99,97,116,32,98]:List UInt8),([97,32,124,32,98]:List UInt8),([120,61,49]:List UInt8),([105,102,32,97,59,32,116,104,101,110,32,98,59,32,102,105]:List UInt8),([101,99,104,111,32,39,97,10,98,39]:List UInt8),([109,97,107,101]:List UInt8),([108,115,32,45,108]:List UInt8),([101,99,104,111,32,195,169]:List UInt8),([103,105,116,32,108,111,103]:List UInt8),([119]:List UInt8)]:List (List UInt8)).length⟩ (Int.toNat e*1))] _ E ⟨j.ix f,ev2,E⟩ (JO.load aA E E E E E E E 2 E E (Int.toNat e) 0 (at' ([([108,115]:List UInt8),([101,99,104,111,32,97]:List UInt8),([99,97,116,32,98]:List UInt8),([97,32,124,32,98]:List UInt8),([120,61,49]:List UInt8),([105,102,32,97,59,32,116,104,101,110,32,98,59,32,102,105]:List UInt8),([101,99,104,111,32,39,97,10,98,39]:List UInt8),([109,97,107,101]:List UInt8),([108,115,32,45,108]:List UInt8),([101,99,104,111,32,195,169]:List UInt8),([103,105,116,32,108,111,103]:List UInt8),([119]:List UInt8)]:List (List UInt8)) e) ⟨bH f,E⟩ E E (aB aA 1 [] [] [(2,.v (.string (bs (at' ([([108,115]:List UInt8),([101,99,104,111,32,97]:List UInt8),([99,97,116,32,98]:List UInt8),([97,32,124,32,98]:List UInt8),([120,61,49]:List UInt8),([105,102,32,97,59,32,116,104,101,110,32,98,59,32,102,105]:List UInt8),([101,99,104,111,32,39,97,10,98,39]:List UInt8),([109,97,107,101]:List UInt8),([108,115,32,45,108]:List UInt8),([101,99,104,111,32,195,169]:List UInt8),([103,105,116,32,108,111,103]:List UInt8),([119]:List UInt8)]:List (List UInt8)) e))))] _ E ev1 (aC E ?_)))
 cases h
 exact cU aA () V E E [0] E

def mS (b:Int×List (List UInt8)) (c:Unit→Option Bool) (d:Int→Option Bool):Int→Option Bool:=fun a=>(bif decide (a<(b.2.length:Int)) then (aN (0≤a∧a<(b.2.length:Int)) <|(bif (bif decide (((at' b.2 a).length:Int)<1) then true else (decide (1000<((at' b.2 a).length:Int)))) then some false else d (W (a+1)))) else c ())

def jM (a:Int×List (List UInt8)):Option Bool:= (aT (fun (_:Unit)=> some (bif (bif decide (1≤a.1) then (decide (a.1≤1000000000)) else false) then (decide ((a.2.length:Int)≤60)) else false)) fun b=>(aZ (mS a b) bO 0))

theorem aBq (a:Int×List (List UInt8)) (b:Option Addr) (c:Nat) (r:Bool) (h:jM a=some r):
 FC Tryz.prog 78 [.agg #[I a.1,sL b a.2 c]] [⟨.str,⟨b,a.2.length,c⟩,a.2⟩] (fun _:Unit=>True) (fun _=>.bool r) (fun _=>[]):= by
 refine FC.of (T:=TTx) Tryz.call78 Tryz.func78 E E fun k=>?_
 unfold jM at h
 refine aS aA 2 [] [2] [(1,.bp 2 0)] (.new 2 50 [I a.1,sL b a.2 c] .nil) ⟨ev2,(Bs E E)⟩ E E (JS.seq (aE aA 4 [(6,.v (sL b a.2 c)),(7,.v (I (a.2.length:Int))),(8,.v (I 0))] ⟨(Es E),E⟩ E E ?_))
 obtain ⟨e,i,h⟩:=aM h
 refine bA (ι:=Unit) ⟨fun _=>e ()=some r,fun _=>[(1,.bp 2 0)],fun _=>(.new 2 50 [I a.1,sL b a.2 c] .nil),fun _=>[⟨.str,⟨b,a.2.length,c⟩,a.2⟩],fun _=>[],fun _=>0⟩ ?_ ?_
 ·
  refine JS.loop (ι:=Nat×Int) ⟨fun z=>aZ (mS a e) z.1 z.2=some r,fun z=>[(1,.bp 2 0),(6,.v (sL b a.2 c)),(7,.v (I (a.2.length:Int))),(8,.v (I z.2))],fun z=>(.new 2 50 [I a.1,sL b a.2 c] .nil),fun z=>[⟨.str,⟨b,a.2.length,c⟩,a.2⟩],fun z=>[],fun z=>z.1⟩ (bO,0) h (Es E) (Bs E E) [0] E [] E ?_
  rintro ⟨f,d⟩ h
  obtain ⟨f,rfl,h⟩:=bK h
  rw [mS] at h
  refine aE aA 1 [(9,.v (.bool (decide (d<(a.2.length:Int)))))] ev1 E E (JS.seq ?_)
  refine aJ E h (fun h=>?_) (fun h=>?_)
  ·
   refine JS.skip (JS.seq (JS.block (JS.seq (JS.region (cC 0 E fun j=>?_)))))
   obtain ⟨g,h⟩:=aH h
   refine aB aA 1 [] [] [(10,.ep ⟨b,a.2.length,c⟩ (Int.toNat d*1))] _ E ⟨j.ix g,ev2,E⟩ (JO.load aA E E E E E E E 0 E E (Int.toNat d) 0 (at' a.2 d) ⟨bH g,E⟩ E E (aB aA 1 [] [] [(4,.v (.string (bs (at' a.2 d))))] _ E ev1 (aC E (aE aA 8 [(19,.v (.bool (bif (decide (((at' a.2 d).length:Int)<1)) then true else (decide (1000<((at' a.2 d).length:Int))))))] ev1 E E ?_))))
   refine aJ E h (fun h=>?_) (fun h=>?_)
   ·
    refine aE aA 1 [(2,.v (.bool false))] ev1 E E ?_
    cases h
    exact JS.ret aA () V E E [] E
   refine JS.skip (aV (cS aA 2 [(W (d+1))] [] [(8,.v (I (W (d+1))))] _ ev4 E E (bZ (f,(W (d+1))) h (Nat.lt_succ_self _) (Es E) (Bs E E) [0] E [] E)))
  refine JS.exit E (aO () h ev2 (Bs E E) [0] E [] E)
 rintro _ h
 subst i
 refine aE aA 15 [(2,.v (.bool (bif (bif (decide (1≤a.1)) then (decide (a.1≤1000000000)) else false) then (decide ((a.2.length:Int)≤60)) else false)))] ev1 E E ?_
 cases h
 exact JS.ret aA () V E E [] E

def qT (b:Int×List (List UInt8)) (c:List UInt8):Option ((Int×List (List UInt8))×Bool):= (aT (fun (a:List (List UInt8))=>(aT (fun ((d,e):Int×List (List UInt8))=>(aF (jM b) fun f=>(cA ((!f)=false) (jM (d,e)) false fun h=>(bif (bif (!f) then true else (!h)) then some ((0,[]),false) else some ((d,e),true))))) fun g=>(bif decide (60<(a.length:Int)) then (aN (0≤(1:Int)∧(1:Int)≤(a.length:Int)∧(a.length:Int)≤(a.length:Int)) <|g ((W (b.1+1)),(bJ a 1 (a.length:Int)))) else g (b.1,a)))) fun i=>(aN (([]:List (List UInt8)).length+b.2.length≤536870912) <|(aN ((([]:List (List UInt8)) ++ b.2).length+([c]:List (List UInt8)).length≤536870912) <|i ((([]:List (List UInt8)) ++ b.2) ++ ([c]:List (List UInt8))))))

theorem aGe (a:Int×List (List UInt8)) (d:List UInt8) (e:Option Addr) (f:Nat) (r:(Int×List (List UInt8))×Bool) (h:qT a d=some r):
 FC Tryz.prog 176 [.agg #[I a.1,sL e a.2 f],.string (bs d)] [⟨.str,⟨e,a.2.length,f⟩,a.2⟩] (fun _:Option Addr×Nat=>True) (fun q=>.tuple #[.agg #[I r.1.1,sL q.1 r.1.2 q.2],.bool r.2]) (fun q=>[⟨.str,⟨q.1,r.1.2.length,q.2⟩,r.1.2⟩]):= by
 refine FC.of (T:=TTx) Tryz.call176 Tryz.func176 E E fun M=>?_
 unfold qT at h
 refine aS aA 3 [] [2,3] [(2,.bp 2 0),(4,.bp 3 0)] (.new 2 50 [I a.1,sL e a.2 f] (.new 3 50 [I 0,.slice none 0 0] .nil)) ⟨(Es E),(Bs E E)⟩ E E (JS.seq ?_)
 obtain ⟨B,C,h⟩:=aM h
 refine vK (ι:=List (List UInt8)×Option Addr×Nat) ⟨fun z=>B z.1=some r,fun z=>[(2,.bp 2 0),(4,.bp 3 0),(6,.bp 16 0)],fun z=>(.new 2 50 [I a.1,sL e a.2 f] (.new 3 50 [I 0,.slice none 0 0] (.new 16 50 [I a.1,sL z.2.1 z.1 z.2.2] .nil))),fun z=>[⟨.str,⟨e,a.2.length,f⟩,a.2⟩],fun z=>[⟨.str,⟨z.2.1,z.1.length,z.2.2⟩,z.1⟩],fun z=>0⟩ ?_ ?_
 ·
  obtain ⟨i,h⟩:=aH h
  obtain ⟨g,h⟩:=aH h
  refine bE E (.new 2 50 [I a.1,sL e a.2 f] .nil) [] [9,11] ev3 E (fun N=>?_)
  refine cD aA aI true 7 [0,1,3,4,6] E (by kernel_rfl) [] [(8,.v (I a.1)),(11,.v (sL e a.2 f)),(13,.v (.string (bs d)))] ev3 [] E E (Es E) ?_
  refine JA.all (rs:=[2,7,10]) (by kernel_rfl) E (List.forall_mem_cons.2 ⟨?_,List.forall_mem_cons.2 ⟨?_,List.forall_mem_cons.2 ⟨?_,(fun _ hx=>absurd hx List.not_mem_nil)⟩⟩⟩)
  ·
   refine JK.buildSlice aA E E E E E E E E E E E [] E .str [] ⟨E,E⟩ E E fun n=>aQ ⟨E,E,E,E,V⟩ [] E ?_
   refine JA.all (rs:=[5,7,10]) (by kernel_rfl) E (List.forall_mem_cons.2 ⟨?_,List.forall_mem_cons.2 ⟨?_,List.forall_mem_cons.2 ⟨?_,(fun _ hx=>absurd hx List.not_mem_nil)⟩⟩⟩)
   ·
    refine bN aA E E E E ⟨E,E,E,E,V,E,E,E,E⟩ E E E [0] E 0 E i E fun j k=>aQ ev3 [] E ?_
    refine JA.all (rs:=[7,10]) (by kernel_rfl) E (List.forall_mem_cons.2 ⟨?_,List.forall_mem_cons.2 ⟨?_,(fun _ hx=>absurd hx List.not_mem_nil)⟩⟩)
    ·
     refine JK.buildSlice aA E E E E E E E E E E E [] E .str [d] ⟨E,E⟩ E E fun m=>aQ ⟨E,E,E,E,V⟩ [] E ?_
     refine JA.all (rs:=[8,10]) (by kernel_rfl) E (List.forall_mem_cons.2 ⟨?_,List.forall_mem_cons.2 ⟨?_,(fun _ hx=>absurd hx List.not_mem_nil)⟩⟩)
     ·
      refine bN aA E E E E ⟨E,E,E,E,V,E,E,E,E⟩ E E E [1] E 1 E g E fun b c=>aQ ev3 [] E (aW aA aI 2 [9] E (by kernel_rfl) [] [(16,.v (.agg #[I a.1,sL b ((([]:List (List UInt8)) ++ a.2) ++ ([d]:List (List UInt8))) c]))] E ev2 (JA.one 10 (by kernel_rfl) (JK.alloc aA E E E E E 16 E (fO _ E) (aQ ev3 [] E (JA.one 11 (by kernel_rfl) (aY aA E E E E E E E E (aR E (bI (by kernel_rfl) (bC (B':=(.new 2 50 [I a.1,sL e a.2 f] (.new 3 50 [I 0,.slice none 0 0] (.new 16 50 [I a.1,sL b ((([]:List (List UInt8)) ++ a.2) ++ ([d]:List (List UInt8))) c] .nil)))) (Bs E E) (aO (((([]:List (List UInt8)) ++ a.2) ++ ([d]:List (List UInt8))),b,c) h (Es E) (Bs E E) [0] E [0] E))))))))))
     refine JK.alloc aA E E E E E 16 E (fO _ E) (aQ ev3 [] E (JA.one 8 (by kernel_rfl) (bN aA E E E E ⟨E,E,E,E,V,E,E,E,E⟩ E E E [1] E 1 E g E fun b c=>aQ ev3 [] E (aW aA aI 1 [9] E (by kernel_rfl) [] [(16,.v (.agg #[I a.1,sL b ((([]:List (List UInt8)) ++ a.2) ++ ([d]:List (List UInt8))) c]))] E ev2 (JA.one 11 (by kernel_rfl) (aY aA E E E E E E E E (aR E (bI (by kernel_rfl) (bC (B':=(.new 2 50 [I a.1,sL e a.2 f] (.new 3 50 [I 0,.slice none 0 0] (.new 16 50 [I a.1,sL b ((([]:List (List UInt8)) ++ a.2) ++ ([d]:List (List UInt8))) c] .nil)))) (Bs E E) (aO (((([]:List (List UInt8)) ++ a.2) ++ ([d]:List (List UInt8))),b,c) h (Es E) (Bs E E) [0] E [0] E))))))))))
    refine JK.alloc aA E E E E E 16 E (fO _ E) (aQ ⟨E,E,E,E,V⟩ [] E (JA.one 7 (by kernel_rfl) (JK.buildSlice aA E E E E E E E E E E E [] E .str [d] ⟨E,E⟩ E E fun m=>aQ ⟨E,E,E,E,V⟩ [] E (JA.one 8 (by kernel_rfl) (bN aA E E E E ⟨E,E,E,E,V,E,E,E,E⟩ E E E [1] E 1 E g E fun b c=>aQ ⟨E,E,E,E,V⟩ [] E (aW aA aI 1 [9] E (by kernel_rfl) [] [(16,.v (.agg #[I a.1,sL b ((([]:List (List UInt8)) ++ a.2) ++ ([d]:List (List UInt8))) c]))] E ⟨E,V⟩ (JA.one 11 (by kernel_rfl) (aY aA E E E E E E E E (aR E (bI (by kernel_rfl) (bC (B':=(.new 2 50 [I a.1,sL e a.2 f] (.new 3 50 [I 0,.slice none 0 0] (.new 16 50 [I a.1,sL b ((([]:List (List UInt8)) ++ a.2) ++ ([d]:List (List UInt8))) c] .nil)))) (Bs E E) (aO (((([]:List (List UInt8)) ++ a.2) ++ ([d]:List (List UInt8))),b,c) h (Es E) (Bs E E) [0] E [0] E))))))))))))
   ·
    refine JK.buildSlice aA E E E E E E E E E E E [] E .str [d] ⟨E,E⟩ E E fun m=>aQ ⟨E,E,E,E,V⟩ [] E ?_
    refine JA.all (rs:=[5,10]) (by kernel_rfl) E (List.forall_mem_cons.2 ⟨?_,List.forall_mem_cons.2 ⟨?_,(fun _ hx=>absurd hx List.not_mem_nil)⟩⟩)
    ·
     refine bN aA E E E E ⟨E,E,E,E,V,E,E,E,E⟩ E E E [1] E 0 E i E fun j k=>aQ ev3 [] E ?_
     refine JA.all (rs:=[8,10]) (by kernel_rfl) E (List.forall_mem_cons.2 ⟨?_,List.forall_mem_cons.2 ⟨?_,(fun _ hx=>absurd hx List.not_mem_nil)⟩⟩)
     ·
      refine bN aA E E E E ⟨E,E,E,E,V,E,E,E,E⟩ E E E [0] E 2 E g E fun b c=>aQ ev3 [] E (aW aA aI 2 [9] E (by kernel_rfl) [] [(16,.v (.agg #[I a.1,sL b ((([]:List (List UInt8)) ++ a.2) ++ ([d]:List (List UInt8))) c]))] E ev2 (JA.one 10 (by kernel_rfl) (JK.alloc aA E E E E E 16 E (fO _ E) (aQ ev3 [] E (JA.one 11 (by kernel_rfl) (aY aA E E E E E E E E (aR E (bI (by kernel_rfl) (bC (B':=(.new 2 50 [I a.1,sL e a.2 f] (.new 3 50 [I 0,.slice none 0 0] (.new 16 50 [I a.1,sL b ((([]:List (List UInt8)) ++ a.2) ++ ([d]:List (List UInt8))) c] .nil)))) (Bs E E) (aO (((([]:List (List UInt8)) ++ a.2) ++ ([d]:List (List UInt8))),b,c) h (Es E) (Bs E E) [0] E [0] E))))))))))
     refine JK.alloc aA E E E E E 16 E (fO _ E) (aQ ev3 [] E (JA.one 8 (by kernel_rfl) (bN aA E E E E ⟨E,E,E,E,V,E,E,E,E⟩ E E E [0] E 2 E g E fun b c=>aQ ev3 [] E (aW aA aI 1 [9] E (by kernel_rfl) [] [(16,.v (.agg #[I a.1,sL b ((([]:List (List UInt8)) ++ a.2) ++ ([d]:List (List UInt8))) c]))] E ev2 (JA.one 11 (by kernel_rfl) (aY aA E E E E E E E E (aR E (bI (by kernel_rfl) (bC (B':=(.new 2 50 [I a.1,sL e a.2 f] (.new 3 50 [I 0,.slice none 0 0] (.new 16 50 [I a.1,sL b ((([]:List (List UInt8)) ++ a.2) ++ ([d]:List (List UInt8))) c] .nil)))) (Bs E E) (aO (((([]:List (List UInt8)) ++ a.2) ++ ([d]:List (List UInt8))),b,c) h (Es E) (Bs E E) [0] E [0] E))))))))))
    refine JK.alloc aA E E E E E 16 E (fO _ E) (aQ ev3 [] E (JA.one 5 (by kernel_rfl) (bN aA E E E E ⟨E,E,E,E,V,E,E,E,E⟩ E E E [1] E 0 E i E fun j k=>aQ ev3 [] E (JA.one 8 (by kernel_rfl) (bN aA E E E E ⟨E,E,E,E,V,E,E,E,E⟩ E E E [0] E 2 E g E fun b c=>aQ ev3 [] E (aW aA aI 1 [9] E (by kernel_rfl) [] [(16,.v (.agg #[I a.1,sL b ((([]:List (List UInt8)) ++ a.2) ++ ([d]:List (List UInt8))) c]))] E ev2 (JA.one 11 (by kernel_rfl) (aY aA E E E E E E E E (aR E (bI (by kernel_rfl) (bC (B':=(.new 2 50 [I a.1,sL e a.2 f] (.new 3 50 [I 0,.slice none 0 0] (.new 16 50 [I a.1,sL b ((([]:List (List UInt8)) ++ a.2) ++ ([d]:List (List UInt8))) c] .nil)))) (Bs E E) (aO (((([]:List (List UInt8)) ++ a.2) ++ ([d]:List (List UInt8))),b,c) h (Es E) (Bs E E) [0] E [0] E))))))))))))
   refine JK.alloc aA E E E E E 16 E (fO _ E) (aQ ev3 [] E ?_)
   refine JA.all (rs:=[5,7]) (by kernel_rfl) E (List.forall_mem_cons.2 ⟨?_,List.forall_mem_cons.2 ⟨?_,(fun _ hx=>absurd hx List.not_mem_nil)⟩⟩)
   ·
    refine bN aA E E E E ⟨E,E,E,E,V,E,E,E,E⟩ E E E [0] E 0 E i E fun j k=>aQ ⟨E,E,E,E,V⟩ [] E (JA.one 7 (by kernel_rfl) (JK.buildSlice aA E E E E E E E E E E E [] E .str [d] ⟨E,E⟩ E E fun m=>aQ ⟨E,E,E,E,V⟩ [] E (JA.one 8 (by kernel_rfl) (bN aA E E E E ⟨E,E,E,E,V,E,E,E,E⟩ E E E [1] E 1 E g E fun b c=>aQ ⟨E,E,E,E,V⟩ [] E (aW aA aI 1 [9] E (by kernel_rfl) [] [(16,.v (.agg #[I a.1,sL b ((([]:List (List UInt8)) ++ a.2) ++ ([d]:List (List UInt8))) c]))] E ⟨E,V⟩ (JA.one 11 (by kernel_rfl) (aY aA E E E E E E E E (aR E (bI (by kernel_rfl) (bC (B':=(.new 2 50 [I a.1,sL e a.2 f] (.new 3 50 [I 0,.slice none 0 0] (.new 16 50 [I a.1,sL b ((([]:List (List UInt8)) ++ a.2) ++ ([d]:List (List UInt8))) c] .nil)))) (Bs E E) (aO (((([]:List (List UInt8)) ++ a.2) ++ ([d]:List (List UInt8))),b,c) h (Es E) (Bs E E) [0] E [0] E)))))))))))
   refine JK.buildSlice aA E E E E E E E E E E E [] E .str [d] ⟨E,E⟩ E E fun m=>aQ ⟨E,E,E,E,V⟩ [] E (JA.one 5 (by kernel_rfl) (bN aA E E E E ⟨E,E,E,E,V,E,E,E,E⟩ E E E [1] E 0 E i E fun j k=>aQ ⟨E,E,E,E,V⟩ [] E (JA.one 8 (by kernel_rfl) (bN aA E E E E ⟨E,E,E,E,V,E,E,E,E⟩ E E E [0] E 2 E g E fun b c=>aQ ⟨E,E,E,E,V⟩ [] E (aW aA aI 1 [9] E (by kernel_rfl) [] [(16,.v (.agg #[I a.1,sL b ((([]:List (List UInt8)) ++ a.2) ++ ([d]:List (List UInt8))) c]))] E ⟨E,V⟩ (JA.one 11 (by kernel_rfl) (aY aA E E E E E E E E (aR E (bI (by kernel_rfl) (bC (B':=(.new 2 50 [I a.1,sL e a.2 f] (.new 3 50 [I 0,.slice none 0 0] (.new 16 50 [I a.1,sL b ((([]:List (List UInt8)) ++ a.2) ++ ([d]:List (List UInt8))) c] .nil)))) (Bs E E) (aO (((([]:List (List UInt8)) ++ a.2) ++ ([d]:List (List UInt8))),b,c) h (Es E) (Bs E E) [0] E [0] E)))))))))))
  ·
   refine JK.buildSlice aA E E E E E E E E E E E [] E .str [d] ⟨E,E⟩ E E fun m=>aQ ⟨E,E,E,E,V⟩ [] E ?_
   refine JA.all (rs:=[2,10]) (by kernel_rfl) E (List.forall_mem_cons.2 ⟨?_,List.forall_mem_cons.2 ⟨?_,(fun _ hx=>absurd hx List.not_mem_nil)⟩⟩)
   ·
    refine JK.buildSlice aA E E E E E E E E E E E [] E .str [] ⟨E,E⟩ E E fun n=>aQ ⟨E,E,E,E,V⟩ [] E ?_
    refine JA.all (rs:=[5,10]) (by kernel_rfl) E (List.forall_mem_cons.2 ⟨?_,List.forall_mem_cons.2 ⟨?_,(fun _ hx=>absurd hx List.not_mem_nil)⟩⟩)
    ·
     refine bN aA E E E E ⟨E,E,E,E,V,E,E,E,E⟩ E E E [0] E 0 E i E fun j k=>aQ ev3 [] E ?_
     refine JA.all (rs:=[8,10]) (by kernel_rfl) E (List.forall_mem_cons.2 ⟨?_,List.forall_mem_cons.2 ⟨?_,(fun _ hx=>absurd hx List.not_mem_nil)⟩⟩)
     ·
      refine bN aA E E E E ⟨E,E,E,E,V,E,E,E,E⟩ E E E [0] E 2 E g E fun b c=>aQ ev3 [] E (aW aA aI 2 [9] E (by kernel_rfl) [] [(16,.v (.agg #[I a.1,sL b ((([]:List (List UInt8)) ++ a.2) ++ ([d]:List (List UInt8))) c]))] E ev2 (JA.one 10 (by kernel_rfl) (JK.alloc aA E E E E E 16 E (fO _ E) (aQ ev3 [] E (JA.one 11 (by kernel_rfl) (aY aA E E E E E E E E (aR E (bI (by kernel_rfl) (bC (B':=(.new 2 50 [I a.1,sL e a.2 f] (.new 3 50 [I 0,.slice none 0 0] (.new 16 50 [I a.1,sL b ((([]:List (List UInt8)) ++ a.2) ++ ([d]:List (List UInt8))) c] .nil)))) (Bs E E) (aO (((([]:List (List UInt8)) ++ a.2) ++ ([d]:List (List UInt8))),b,c) h (Es E) (Bs E E) [0] E [0] E))))))))))
     refine JK.alloc aA E E E E E 16 E (fO _ E) (aQ ev3 [] E (JA.one 8 (by kernel_rfl) (bN aA E E E E ⟨E,E,E,E,V,E,E,E,E⟩ E E E [0] E 2 E g E fun b c=>aQ ev3 [] E (aW aA aI 1 [9] E (by kernel_rfl) [] [(16,.v (.agg #[I a.1,sL b ((([]:List (List UInt8)) ++ a.2) ++ ([d]:List (List UInt8))) c]))] E ev2 (JA.one 11 (by kernel_rfl) (aY aA E E E E E E E E (aR E (bI (by kernel_rfl) (bC (B':=(.new 2 50 [I a.1,sL e a.2 f] (.new 3 50 [I 0,.slice none 0 0] (.new 16 50 [I a.1,sL b ((([]:List (List UInt8)) ++ a.2) ++ ([d]:List (List UInt8))) c] .nil)))) (Bs E E) (aO (((([]:List (List UInt8)) ++ a.2) ++ ([d]:List (List UInt8))),b,c) h (Es E) (Bs E E) [0] E [0] E))))))))))
    refine JK.alloc aA E E E E E 16 E (fO _ E) (aQ ev3 [] E (JA.one 5 (by kernel_rfl) (bN aA E E E E ⟨E,E,E,E,V,E,E,E,E⟩ E E E [0] E 0 E i E fun j k=>aQ ev3 [] E (JA.one 8 (by kernel_rfl) (bN aA E E E E ⟨E,E,E,E,V,E,E,E,E⟩ E E E [0] E 2 E g E fun b c=>aQ ev3 [] E (aW aA aI 1 [9] E (by kernel_rfl) [] [(16,.v (.agg #[I a.1,sL b ((([]:List (List UInt8)) ++ a.2) ++ ([d]:List (List UInt8))) c]))] E ev2 (JA.one 11 (by kernel_rfl) (aY aA E E E E E E E E (aR E (bI (by kernel_rfl) (bC (B':=(.new 2 50 [I a.1,sL e a.2 f] (.new 3 50 [I 0,.slice none 0 0] (.new 16 50 [I a.1,sL b ((([]:List (List UInt8)) ++ a.2) ++ ([d]:List (List UInt8))) c] .nil)))) (Bs E E) (aO (((([]:List (List UInt8)) ++ a.2) ++ ([d]:List (List UInt8))),b,c) h (Es E) (Bs E E) [0] E [0] E))))))))))))
   refine JK.alloc aA E E E E E 16 E (fO _ E) (aQ ⟨E,E,E,E,V⟩ [] E (JA.one 2 (by kernel_rfl) (JK.buildSlice aA E E E E E E E E E E E [] E .str [] ⟨E,E⟩ E E fun n=>aQ ⟨E,E,E,E,V⟩ [] E (JA.one 5 (by kernel_rfl) (bN aA E E E E ⟨E,E,E,E,V,E,E,E,E⟩ E E E [0] E 0 E i E fun j k=>aQ ⟨E,E,E,E,V⟩ [] E (JA.one 8 (by kernel_rfl) (bN aA E E E E ⟨E,E,E,E,V,E,E,E,E⟩ E E E [0] E 2 E g E fun b c=>aQ ⟨E,E,E,E,V⟩ [] E (aW aA aI 1 [9] E (by kernel_rfl) [] [(16,.v (.agg #[I a.1,sL b ((([]:List (List UInt8)) ++ a.2) ++ ([d]:List (List UInt8))) c]))] E ⟨E,V⟩ (JA.one 11 (by kernel_rfl) (aY aA E E E E E E E E (aR E (bI (by kernel_rfl) (bC (B':=(.new 2 50 [I a.1,sL e a.2 f] (.new 3 50 [I 0,.slice none 0 0] (.new 16 50 [I a.1,sL b ((([]:List (List UInt8)) ++ a.2) ++ ([d]:List (List UInt8))) c] .nil)))) (Bs E E) (aO (((([]:List (List UInt8)) ++ a.2) ++ ([d]:List (List UInt8))),b,c) h (Es E) (Bs E E) [0] E [0] E))))))))))))))
  refine JK.alloc aA E E E E E 16 E (fO _ E) (aQ ev3 [] E ?_)
  refine JA.all (rs:=[2,7]) (by kernel_rfl) E (List.forall_mem_cons.2 ⟨?_,List.forall_mem_cons.2 ⟨?_,(fun _ hx=>absurd hx List.not_mem_nil)⟩⟩)
  ·
   refine JK.buildSlice aA E E E E E E E E E E E [] E .str [] ⟨E,E⟩ E E fun n=>aQ ⟨E,E,E,E,V⟩ [] E ?_
   refine JA.all (rs:=[5,7]) (by kernel_rfl) E (List.forall_mem_cons.2 ⟨?_,List.forall_mem_cons.2 ⟨?_,(fun _ hx=>absurd hx List.not_mem_nil)⟩⟩)
   ·
    refine bN aA E E E E ⟨E,E,E,E,V,E,E,E,E⟩ E E E [0] E 0 E i E fun j k=>aQ ⟨E,E,E,E,V⟩ [] E (JA.one 7 (by kernel_rfl) (JK.buildSlice aA E E E E E E E E E E E [] E .str [d] ⟨E,E⟩ E E fun m=>aQ ⟨E,E,E,E,V⟩ [] E (JA.one 8 (by kernel_rfl) (bN aA E E E E ⟨E,E,E,E,V,E,E,E,E⟩ E E E [1] E 1 E g E fun b c=>aQ ⟨E,E,E,E,V⟩ [] E (aW aA aI 1 [9] E (by kernel_rfl) [] [(16,.v (.agg #[I a.1,sL b ((([]:List (List UInt8)) ++ a.2) ++ ([d]:List (List UInt8))) c]))] E ⟨E,V⟩ (JA.one 11 (by kernel_rfl) (aY aA E E E E E E E E (aR E (bI (by kernel_rfl) (bC (B':=(.new 2 50 [I a.1,sL e a.2 f] (.new 3 50 [I 0,.slice none 0 0] (.new 16 50 [I a.1,sL b ((([]:List (List UInt8)) ++ a.2) ++ ([d]:List (List UInt8))) c] .nil)))) (Bs E E) (aO (((([]:List (List UInt8)) ++ a.2) ++ ([d]:List (List UInt8))),b,c) h (Es E) (Bs E E) [0] E [0] E)))))))))))
   refine JK.buildSlice aA E E E E E E E E E E E [] E .str [d] ⟨E,E⟩ E E fun m=>aQ ⟨E,E,E,E,V⟩ [] E (JA.one 5 (by kernel_rfl) (bN aA E E E E ⟨E,E,E,E,V,E,E,E,E⟩ E E E [1] E 0 E i E fun j k=>aQ ⟨E,E,E,E,V⟩ [] E (JA.one 8 (by kernel_rfl) (bN aA E E E E ⟨E,E,E,E,V,E,E,E,E⟩ E E E [0] E 2 E g E fun b c=>aQ ⟨E,E,E,E,V⟩ [] E (aW aA aI 1 [9] E (by kernel_rfl) [] [(16,.v (.agg #[I a.1,sL b ((([]:List (List UInt8)) ++ a.2) ++ ([d]:List (List UInt8))) c]))] E ⟨E,V⟩ (JA.one 11 (by kernel_rfl) (aY aA E E E E E E E E (aR E (bI (by kernel_rfl) (bC (B':=(.new 2 50 [I a.1,sL e a.2 f] (.new 3 50 [I 0,.slice none 0 0] (.new 16 50 [I a.1,sL b ((([]:List (List UInt8)) ++ a.2) ++ ([d]:List (List UInt8))) c] .nil)))) (Bs E E) (aO (((([]:List (List UInt8)) ++ a.2) ++ ([d]:List (List UInt8))),b,c) h (Es E) (Bs E E) [0] E [0] E)))))))))))
  refine JK.buildSlice aA E E E E E E E E E E E [] E .str [d] ⟨E,E⟩ E E fun m=>aQ ⟨E,E,E,E,V⟩ [] E (JA.one 2 (by kernel_rfl) (JK.buildSlice aA E E E E E E E E E E E [] E .str [] ⟨E,E⟩ E E fun n=>aQ ⟨E,E,E,E,V⟩ [] E (JA.one 5 (by kernel_rfl) (bN aA E E E E ⟨E,E,E,E,V,E,E,E,E⟩ E E E [0] E 0 E i E fun j k=>aQ ⟨E,E,E,E,V⟩ [] E (JA.one 8 (by kernel_rfl) (bN aA E E E E ⟨E,E,E,E,V,E,E,E,E⟩ E E E [0] E 2 E g E fun b c=>aQ ⟨E,E,E,E,V⟩ [] E (aW aA aI 1 [9] E (by kernel_rfl) [] [(16,.v (.agg #[I a.1,sL b ((([]:List (List UInt8)) ++ a.2) ++ ([d]:List (List UInt8))) c]))] E ⟨E,V⟩ (JA.one 11 (by kernel_rfl) (aY aA E E E E E E E E (aR E (bI (by kernel_rfl) (bC (B':=(.new 2 50 [I a.1,sL e a.2 f] (.new 3 50 [I 0,.slice none 0 0] (.new 16 50 [I a.1,sL b ((([]:List (List UInt8)) ++ a.2) ++ ([d]:List (List UInt8))) c] .nil)))) (Bs E E) (aO (((([]:List (List UInt8)) ++ a.2) ++ ([d]:List (List UInt8))),b,c) h (Es E) (Bs E E) [0] E [0] E)))))))))))))
 rintro ⟨l,x,y⟩ h
 subst C
 obtain ⟨D,F,h⟩:=aM h
 refine cJ (ι:=Int×List (List UInt8)×Option Addr×Nat) ⟨fun z=>D (z.1,z.2.1)=some r,fun z=>[(2,.bp 2 0),(4,.bp 3 0),(6,.bp 16 0)],fun z=>(.new 2 50 [I a.1,sL e a.2 f] (.new 3 50 [I 0,.slice none 0 0] (.new 16 50 [I z.1,sL z.2.2.1 z.2.1 z.2.2.2] .nil))),fun z=>[⟨.str,⟨e,a.2.length,f⟩,a.2⟩],fun z=>[⟨.str,⟨z.2.2.1,z.2.1.length,z.2.2.2⟩,z.2.1⟩],fun z=>0⟩ ?_ ?_
 ·
  refine aE aA 4 [(20,.v (.bool (decide (60<(l.length:Int)))))] ev1 E E ?_
  refine aJ E h (fun h=>?_) (fun h=>?_)
  ·
   refine JS.seq (JS.region (aB aA 2 [] [] [(22,.v (sL x l y))] _ E ev1 ?_))
   obtain ⟨G,h⟩:=aH h
   refine pX aA E E E E E E E E [0] E (1:Int) (l.length:Int) E E G E fun s t=>aL aA 2 [] [] [] (.new 2 50 [I a.1,sL e a.2 f] (.new 3 50 [I 0,.slice none 0 0] (.new 16 50 [I a.1,sL s (bJ l 1 (l.length:Int)) t] .nil))) E ⟨V,(Bs E E)⟩ (aC E (tK aA 5 [(W (a.1+1))] [] [] (.new 2 50 [I a.1,sL e a.2 f] (.new 3 50 [I 0,.slice none 0 0] (.new 16 50 [I (W (a.1+1)),sL s (bJ l 1 (l.length:Int)) t] .nil))) ⟨ev5,V,(Bs E E)⟩ E E (aO ((W (a.1+1)),(bJ l 1 (l.length:Int)),s,t) h (Es E) (Bs E E) [0] E [0] E)))
  refine JS.skip (aO (a.1,l,x,y) h (Es E) (Bs E E) [0] E [0] E)
 rintro ⟨u,w,o,p⟩ h
 subst F
 refine JS.seq (JS.seq (JS.region (aB aA 1 [] [] [(29,.v (.agg #[I a.1,sL e a.2 f]))] _ E ev1 ?_)))
 refine bnw h fun A H h=>JO.call E E E E (aBq a e f _ H) E [0] E E fun _ _=>aB aA 3 [] [] [(32,.v (.bool (!A))),(33,.cd [(32,false)] (.v (.agg #[I u,sL o w p])))] _ E ⟨(Es E),E⟩ ?_
 obtain ⟨J,K,-,h⟩:=bB h
 refine bR E E E E (fun L=>aBq (u,w) o p _ (K L)) E [1] E E (aB aA 2 [] [] [(36,.v (.bool (bif (!A) then true else (!J))))] _ E ev1 (aC E ?_))
 refine aJ E h (fun h=>?_) (fun h=>?_)
 ·
  refine aS aA 3 [] [] [(5,.v (.bool false))] (.new 3 50 [I 0,.slice none 0 0] .nil) ⟨ev2,(Bs E E)⟩ E E ?_
  cases h
  refine aX .str Sl.nil E E (JS.ret aA (none,0) V E E [0] E)
 refine JS.skip (aS aA 3 [] [] [(5,.v (.bool true))] (.new 3 50 [I u,sL o w p] .nil) ⟨ev2,(Bs E E)⟩ E E ?_)
 cases h
 exact JS.ret aA (o,p) V E E [0] E

def jC (h:List UInt8×Int×Int) (i:(Int×List (List UInt8)×Int×Int)→Option ((Int×List (List UInt8))×List UInt8×Int×Int)) (j:(Int×Int×List (List UInt8)×Int×Int)→Option ((Int×List (List UInt8))×List UInt8×Int×Int)):(Int×Int×List (List UInt8)×Int×Int)→Option ((Int×List (List UInt8))×List UInt8×Int×Int):=fun (a,b,c,d,e)=>(bif decide (0<a) then (aF (oD (h.1,d,e)) fun (k,f)=>(aF (qT (b,c) k) fun (g,l)=> j ((W (a - 1)),g.1,g.2,f.2.1,f.2.2))) else i (b,c,d,e))

def oA (a:List UInt8×Int×Int):Option ((Int×List (List UInt8))×List UInt8×Int×Int):= (aF (aU a 5) fun (g,c)=>(aF (aU (a.1,c.2.1,c.2.2) 8) fun (h,d)=>(aT (fun ((i,j,k):Int×Int×Int)=>(aT (fun ((l,m,n,o):Int×List (List UInt8)×Int×Int)=> some ((l,m),(a.1,n,o))) fun p=>(aZ (jC a p) bO (i,(W (1+g)),([]:List (List UInt8)),j,k)))) fun e=>(aF (aU (a.1,d.2.1,d.2.2) 12) fun (q,b)=>(bif decide (q=0) then (aF (aU (a.1,b.2.1,b.2.2) 4) fun (r,f)=> e ((W (59+r)),f.2.1,f.2.2)) else e (h,b.2.1,b.2.2))))))

theorem aF7 (a:List UInt8×Int×Int) (b:Option Addr) (c:Option Addr) (d:Nat) (r:(Int×List (List UInt8))×List UInt8×Int×Int) (h:oA a=some r):
 FX Tryz.prog 95 [.pointer b] [⟨.byte,⟨c,a.1.length,d⟩,a.1⟩] [⟨(.pair .val (.pair iT iT)),⟨b,1,1⟩,[((Sl.v ⟨c,a.1.length,d⟩),a.2)]⟩] (fun _:Option Addr×Nat=>True) (fun q=>.agg #[I r.1.1,sL q.1 r.1.2 q.2]) (fun q=>[⟨(.pair .val (.pair iT iT)),⟨b,1,1⟩,[((Sl.v ⟨c,a.1.length,d⟩),r.2.2)]⟩,⟨.str,⟨q.1,r.1.2.length,q.2⟩,r.1.2⟩]):= by
 refine FX.of (T:=TTx) Tryz.call95 Tryz.func95 E E fun w0 L0=>?_
 unfold oA at h
 refine gS 0 b E ?_
 refine aS aA 1 [] [3] [(2,.bp 3 0)] (.new 3 50 [I 0,.slice none 0 0] .nil) ⟨ev2,(Bs E E)⟩ E E (JS.seq (JS.region (aB aA 1 [] [] [(5,.ep ⟨b,1,1⟩ 0)] _ E ev1 ?_)))
 obtain ⟨⟨f,C⟩,D,h⟩:=aD h
 refine bL E E E E (bD a 5 b c d _ D) E [0] E [0] E E fun _ _=>aL aA 4 [(W (1+f))] [7] [(3,.bp 7 0)] (.new 3 50 [I 0,.slice none 0 0] (.new 7 50 [I (W (1+f)),.slice none 0 0] .nil)) E ⟨ev5,ev2,(Bs E E)⟩ (aC E (JS.seq (JS.region (aB aA 1 [] [] [(9,.ep ⟨b,1,1⟩ 0)] _ E ev1 ?_))))
 obtain ⟨⟨p,F⟩,G,h⟩:=aD h
 refine bL E E E E (bD (a.1,C.2) 8 b c d _ G) E [0] E [0] E E fun _ _=>aB aA 1 [] [] [(4,.v (I p))] _ E ev1 (aC E ?_)
 obtain ⟨H,J,h⟩:=aM h
 refine cJ (ι:=Int×Int×Int) ⟨fun z=>H z=some r,fun z=>[(0,.ep ⟨b,1,1⟩ 0),(2,.bp 3 0),(3,.bp 7 0),(4,.v (I z.1))],fun z=>(.new 3 50 [I 0,.slice none 0 0] (.new 7 50 [I (W (1+f)),.slice none 0 0] .nil)),fun z=>[⟨.byte,⟨c,a.1.length,d⟩,a.1⟩],fun z=>[⟨(.pair .val (.pair iT iT)),⟨b,1,1⟩,[((Sl.v ⟨c,a.1.length,d⟩),z.2)]⟩],fun z=>0⟩ ?_ ?_
 ·
  refine JS.seq (JS.region (aB aA 1 [] [] [(11,.ep ⟨b,1,1⟩ 0)] _ E ev1 ?_))
  obtain ⟨⟨K,s⟩,L,h⟩:=aD h
  refine bL E E E E (bD (a.1,F.2) 12 b c d _ L) E [0] E [0] E E fun _ _=>aB aA 1 [] [] [(13,.v (.bool (decide (K=0))))] _ E ev1 (aC E ?_)
  refine aJ E h (fun h=>?_) (fun h=>?_)
  ·
   refine JS.region (aB aA 1 [] [] [(14,.ep ⟨b,1,1⟩ 0)] _ E ev1 ?_)
   obtain ⟨⟨m,M⟩,N,h⟩:=aD h
   refine bL E E E E (bD (a.1,s.2) 4 b c d _ N) E [0] E [0] E E fun _ _=>aB aA 2 [(W (59+m))] [] [(4,.v (I (W (59+m))))] _ E ev4 (aC E (aO ((W (59+m)),M.2) h (Es E) (Bs E E) [0] E [0] E))
  refine JS.skip (aO (p,s.2) h (Es E) (Bs E E) [0] E [0] E)
 rintro ⟨O,P,Q⟩ h
 subst J
 refine JS.seq ?_
 obtain ⟨t,R,h⟩:=aM h
 refine bA (ι:=Int×List (List UInt8)×Int×Int×Option Addr×Nat) ⟨fun z=>t (z.1,z.2.1,z.2.2.1,z.2.2.2.1)=some r,fun z=>[(2,.bp 3 0),(3,.bp 7 0)],fun z=>(.new 3 50 [I 0,.slice none 0 0] (.new 7 50 [I z.1,sL (Q4 z).1 z.2.1 (Q4 z).2] .nil)),fun z=>[⟨.byte,⟨c,a.1.length,d⟩,a.1⟩],fun z=>[⟨.str,⟨(Q4 z).1,z.2.1.length,(Q4 z).2⟩,z.2.1⟩,⟨(.pair .val (.pair iT iT)),⟨b,1,1⟩,[((Sl.v ⟨c,a.1.length,d⟩),z.2.2.1,z.2.2.2.1)]⟩],fun z=>0⟩ ?_ ?_
 ·
  refine aX .str Sl.nil E E (JS.loop (ι:=Nat×Int×Int×List (List UInt8)×Int×Int×Option Addr×Nat) ⟨fun z=>aZ (jC a t) z.1 (z.2.1,z.2.2.1,z.2.2.2.1,(Q4 z).1,(Q4 z).2.1)=some r,fun z=>[(0,.ep ⟨b,1,1⟩ 0),(2,.bp 3 0),(3,.bp 7 0),(4,.v (I z.2.1))],fun z=>(.new 3 50 [I 0,.slice none 0 0] (.new 7 50 [I z.2.2.1,sL (Q4 z).2.2.1 z.2.2.2.1 (Q4 z).2.2.2] .nil)),fun z=>[⟨.byte,⟨c,a.1.length,d⟩,a.1⟩],fun z=>[⟨.str,⟨(Q4 z).2.2.1,z.2.2.2.1.length,(Q4 z).2.2.2⟩,z.2.2.2.1⟩,⟨(.pair .val (.pair iT iT)),⟨b,1,1⟩,[((Sl.v ⟨c,a.1.length,d⟩),(Q4 z).1,(Q4 z).2.1)]⟩],fun z=>z.1⟩ (bO,O,(W (1+f)),([]:List (List UInt8)),P,Q,none,0) h (Es E) (Bs E E) [0] E [0,0] E ?_)
  rintro ⟨u,g,i,j,w,x,k,l⟩ h
  obtain ⟨u,rfl,h⟩:=bK h
  rw [jC] at h
  refine JS.seq (aE aA 2 [(18,.v (.bool (decide (0<g))))] ev1 E E ?_)
  refine aJ E h (fun h=>?_) (fun h=>?_)
  ·
   refine JS.skip (JS.seq (JS.block ?_))
   obtain ⟨⟨S,y⟩,U,h⟩:=aD h
   obtain ⟨⟨e,a1⟩,X,h⟩:=aD h
   refine bE E (.new 7 50 [I i,sL k j l] .nil) [] [3,4,5,6,7] ev3 E (fun a4=>?_)
   refine cD aA rQ true 6 [0,1] E (by kernel_rfl) [] [(22,.v (.agg #[I i,sL k j l])),(23,.ep ⟨b,1,1⟩ 0)] ev3 [] E E (Es E) (JA.one 2 (by kernel_rfl) (sT E E E E (aGb (a.1,w,x) b c d _ U) E [1] E [0] E E fun _ _=>aQ ev3 [] E (JA.one 3 (by kernel_rfl) (JK.call E E E E (aGe (i,j) S k l _ X) E [2] E E ?_))))
   rintro ⟨n,o⟩ -
   refine aR E (aW aA rQ 1 [4,5,6] E (by kernel_rfl) [] [(26,.v (.agg #[I e.1,sL n e.2 o]))] E ev2 (JA.one 7 (by kernel_rfl) (aY aA E E E E E E E E (aR E (bI (by kernel_rfl) (bC (B':=(.new 3 50 [I 0,.slice none 0 0] (.new 7 50 [I e.1,sL n e.2 o] .nil))) (Bs E E) (aV (cS aA 3 [(W (g - 1))] [] [(4,.v (I (W (g - 1))))] _ ev4 E E (bZ (u,(W (g - 1)),e.1,e.2,y.2.1,y.2.2,n,o) h (Nat.lt_succ_self _) (Es E) (Bs E E) [0] E [0,0] E)))))))))
  refine JS.exit E (aO (i,j,w,x,k,l) h (Es E) (Bs E E) [0] E [0,0] E)
 rintro ⟨Y,Z,a5,a6,A,B⟩ h
 subst R
 refine aS aA 2 [] [] [] (.new 3 50 [I Y,sL A Z B] .nil) ⟨V,(Bs E E)⟩ E E ?_
 cases h
 exact cU aA (A,B) V E E [1,0] E

def nR (a:List UInt8×Int×Int):Option ((Int×Int)×List UInt8×Int×Int):= (aF (aU a 12) fun (c,b)=>(bif decide (c<5) then (aF (iD (a.1,b.2.1,b.2.2)) fun (j,f)=> some ((1,j),(a.1,f.2.1,f.2.2))) else (bif decide (c<7) then (aF (aU (a.1,b.2.1,b.2.2) 18) fun (d,g)=>(aN (0≤d∧d<(([97,101,107,117,119,121,98,102,100,116,114,112,110,95,103,99,108,122]:List Int).length:Int)) <|some ((2,(at' ([97,101,107,117,119,121,98,102,100,116,114,112,110,95,103,99,108,122]:List Int) d)),(a.1,g.2.1,g.2.2)))) else (bif decide (c=7) then (aF (aU (a.1,b.2.1,b.2.2) 12) fun (e,h)=>(aN (0≤e∧e<(([98,102,100,121,117,108,99,91,79,51,45,126]:List Int).length:Int)) <|some ((3,(at' ([98,102,100,121,117,108,99,91,79,51,45,126]:List Int) e)),(a.1,h.2.1,h.2.2)))) else (aF (aU (a.1,b.2.1,b.2.2) 13) fun (k,i)=> some (((W (4+k)),0),(a.1,i.2.1,i.2.2)))))))

theorem aBo (b:List UInt8×Int×Int) (a:Option Addr) (c:Option Addr) (d:Nat) (r:(Int×Int)×List UInt8×Int×Int) (h:nR b=some r):
 FX Tryz.prog 183 [.pointer a] [⟨.byte,⟨c,b.1.length,d⟩,b.1⟩] [⟨(.pair .val (.pair iT iT)),⟨a,1,1⟩,[((Sl.v ⟨c,b.1.length,d⟩),b.2)]⟩] (fun _:Unit=>True) (fun _=>.agg #[I r.1.1,I r.1.2]) (fun _=>[⟨(.pair .val (.pair iT iT)),⟨a,1,1⟩,[((Sl.v ⟨c,b.1.length,d⟩),r.2.2)]⟩]):= by
 refine FX.of (T:=TTx) Tryz.call183 Tryz.func183 E E fun y L0=>?_
 unfold nR at h
 refine gS 0 a E ?_
 refine aS aA 1 [] [3] [(2,.bp 3 0)] (.new 3 64 [I 0,I 0] .nil) ⟨ev2,(Bs E E)⟩ E E (JS.seq (JS.region (aB aA 1 [] [] [(4,.ep ⟨a,1,1⟩ 0)] _ E ev1 ?_)))
 obtain ⟨⟨e,f⟩,m,h⟩:=aD h
 refine bL E E E E (bD b 12 a c d _ m) E [0] E [0] E E fun _ _=>aB aA 1 [] [] [(3,.v (I e))] _ E ev1 (aC E (JS.seq (aE aA 2 [(7,.v (.bool (decide (e<5))))] ev1 E E ?_)))
 refine aJ E h (fun h=>?_) (fun h=>?_)
 ·
  refine JS.seq (JS.region (aB aA 1 [] [] [(8,.ep ⟨a,1,1⟩ 0)] _ E ev1 ?_))
  obtain ⟨⟨n,z⟩,o,h⟩:=aD h
  refine bL E E E E (uV (b.1,f.2) a c d _ o) E [0] E [0] E E fun _ _=>aL aA 2 [] [] [] (.new 3 64 [I 1,I n] .nil) E ⟨V,(Bs E E)⟩ (aC E ?_)
  cases h
  exact cU aA () V E E [0] E
 refine JS.skip (JS.seq (aE aA 2 [(12,.v (.bool (decide (e<7))))] ev1 E E ?_))
 refine aJ E h (fun h=>?_) (fun h=>?_)
 ·
  refine JS.seq (JS.region ?_)
  refine kU E (JK.buildSlice aA E E E E E E E E E E E [] E iT [97,101,107,117,119,121,98,102,100,116,114,112,110,95,103,99,108,122] ⟨E,E⟩ E E fun p=>kT ?_)
  refine aB aA 1 [] [] [(14,.ep ⟨a,1,1⟩ 0)] _ E ev1 ?_
  obtain ⟨⟨g,A⟩,q,h⟩:=aD h
  refine bL E E E E (bD (b.1,f.2) 18 a c d _ q) E [1] E [0] E E fun _ _=>cC 2 E fun s=>?_
  obtain ⟨j,h⟩:=aH h
  refine aB aA 1 [] [] [(16,.ep ⟨p,([97,101,107,117,119,121,98,102,100,116,114,112,110,95,103,99,108,122]:List Int).length,([97,101,107,117,119,121,98,102,100,116,114,112,110,95,103,99,108,122]:List Int).length⟩ (Int.toNat g*1))] _ E ⟨s.ix j,ev2,E⟩ (JO.load aA E E E E E E E 2 E E (Int.toNat g) 0 (at' ([97,101,107,117,119,121,98,102,100,116,114,112,110,95,103,99,108,122]:List Int) g) ⟨bH j,E⟩ E E (aL aA 2 [] [] [] (.new 3 64 [I 2,I (at' ([97,101,107,117,119,121,98,102,100,116,114,112,110,95,103,99,108,122]:List Int) g)] .nil) E ⟨V,(Bs E E)⟩ (aC E ?_)))
  cases h
  exact cU aA () V E E [0] E
 refine JS.skip (JS.seq (aE aA 2 [(20,.v (.bool (decide (e=7))))] ev1 E E ?_))
 refine aJ E h (fun h=>?_) (fun h=>?_)
 ·
  refine JS.seq (JS.region ?_)
  refine kU E (JK.buildSlice aA E E E E E E E E E E E [] E iT [98,102,100,121,117,108,99,91,79,51,45,126] ⟨E,E⟩ E E fun t=>kT ?_)
  refine aB aA 1 [] [] [(22,.ep ⟨a,1,1⟩ 0)] _ E ev1 ?_
  obtain ⟨⟨i,B⟩,u,h⟩:=aD h
  refine bL E E E E (bD (b.1,f.2) 12 a c d _ u) E [1] E [0] E E fun _ _=>cC 2 E fun w=>?_
  obtain ⟨k,h⟩:=aH h
  refine aB aA 1 [] [] [(24,.ep ⟨t,([98,102,100,121,117,108,99,91,79,51,45,126]:List Int).length,([98,102,100,121,117,108,99,91,79,51,45,126]:List Int).length⟩ (Int.toNat i*1))] _ E ⟨w.ix k,ev2,E⟩ (JO.load aA E E E E E E E 2 E E (Int.toNat i) 0 (at' ([98,102,100,121,117,108,99,91,79,51,45,126]:List Int) i) ⟨bH k,E⟩ E E (aL aA 2 [] [] [] (.new 3 64 [I 3,I (at' ([98,102,100,121,117,108,99,91,79,51,45,126]:List Int) i)] .nil) E ⟨V,(Bs E E)⟩ (aC E ?_)))
  cases h
  exact cU aA () V E E [0] E
 refine JS.skip (JS.seq (JS.region (aB aA 1 [] [] [(27,.ep ⟨a,1,1⟩ 0)] _ E ev1 ?_)))
 obtain ⟨⟨l,C⟩,x,h⟩:=aD h
 refine bL E E E E (bD (b.1,f.2) 13 a c d _ x) E [0] E [0] E E fun _ _=>aL aA 3 [(W (4+l))] [] [] (.new 3 64 [I (W (4+l)),I 0] .nil) E ⟨ev5,V,(Bs E E)⟩ (aC E ?_)
 cases h
 exact cU aA () V E E [0] E

def sK (a:List UInt8×Int×Int):Option ((Int×Int)×List UInt8×Int×Int):= (aF (aU a 8) fun (c,b)=>(bif decide (c<3) then (aF (aU (a.1,b.2.1,b.2.2) 17) fun (d,f)=>(aN (0≤d∧d<(([97,101,98,102,112,110,107,117,119,121,116,95,100,114,99,108,120]:List Int).length:Int)) <|some ((2,(at' ([97,101,98,102,112,110,107,117,119,121,116,95,100,114,99,108,120]:List Int) d)),(a.1,f.2.1,f.2.2)))) else (bif decide (c<5) then (aF (aU (a.1,b.2.1,b.2.2) 10) fun (e,g)=>(aN (0≤e∧e<(([98,102,100,121,117,108,99,50,57,120]:List Int).length:Int)) <|some ((3,(at' ([98,102,100,121,117,108,99,50,57,120]:List Int) e)),(a.1,g.2.1,g.2.2)))) else (bif decide (c=5) then (aF (aU (a.1,b.2.1,b.2.2) 13) fun (j,h)=> some (((W (4+j)),0),(a.1,h.2.1,h.2.2))) else (aF (nR (a.1,b.2.1,b.2.2)) fun (k,i)=> some (k,(a.1,i.2.1,i.2.2)))))))

theorem aH7 (b:List UInt8×Int×Int) (a:Option Addr) (c:Option Addr) (d:Nat) (r:(Int×Int)×List UInt8×Int×Int) (h:sK b=some r):
 FX Tryz.prog 105 [.pointer a] [⟨.byte,⟨c,b.1.length,d⟩,b.1⟩] [⟨(.pair .val (.pair iT iT)),⟨a,1,1⟩,[((Sl.v ⟨c,b.1.length,d⟩),b.2)]⟩] (fun _:Unit=>True) (fun _=>.agg #[I r.1.1,I r.1.2]) (fun _=>[⟨(.pair .val (.pair iT iT)),⟨a,1,1⟩,[((Sl.v ⟨c,b.1.length,d⟩),r.2.2)]⟩]):= by
 refine FX.of (T:=TTx) Tryz.call105 Tryz.func105 E E fun y L0=>?_
 unfold sK at h
 refine gS 0 a E ?_
 refine aS aA 1 [] [3] [(2,.bp 3 0)] (.new 3 64 [I 0,I 0] .nil) ⟨ev2,(Bs E E)⟩ E E (JS.seq (JS.region (aB aA 1 [] [] [(4,.ep ⟨a,1,1⟩ 0)] _ E ev1 ?_)))
 obtain ⟨⟨e,f⟩,n,h⟩:=aD h
 refine bL E E E E (bD b 8 a c d _ n) E [0] E [0] E E fun _ _=>aB aA 1 [] [] [(3,.v (I e))] _ E ev1 (aC E (JS.seq (aE aA 2 [(7,.v (.bool (decide (e<3))))] ev1 E E ?_)))
 refine aJ E h (fun h=>?_) (fun h=>?_)
 ·
  refine JS.seq (JS.region ?_)
  refine kU E (JK.buildSlice aA E E E E E E E E E E E [] E iT [97,101,98,102,112,110,107,117,119,121,116,95,100,114,99,108,120] ⟨E,E⟩ E E fun o=>kT ?_)
  refine aB aA 1 [] [] [(9,.ep ⟨a,1,1⟩ 0)] _ E ev1 ?_
  obtain ⟨⟨g,z⟩,p,h⟩:=aD h
  refine bL E E E E (bD (b.1,f.2) 17 a c d _ p) E [1] E [0] E E fun _ _=>cC 2 E fun q=>?_
  obtain ⟨j,h⟩:=aH h
  refine aB aA 1 [] [] [(11,.ep ⟨o,([97,101,98,102,112,110,107,117,119,121,116,95,100,114,99,108,120]:List Int).length,([97,101,98,102,112,110,107,117,119,121,116,95,100,114,99,108,120]:List Int).length⟩ (Int.toNat g*1))] _ E ⟨q.ix j,ev2,E⟩ (JO.load aA E E E E E E E 2 E E (Int.toNat g) 0 (at' ([97,101,98,102,112,110,107,117,119,121,116,95,100,114,99,108,120]:List Int) g) ⟨bH j,E⟩ E E (aL aA 2 [] [] [] (.new 3 64 [I 2,I (at' ([97,101,98,102,112,110,107,117,119,121,116,95,100,114,99,108,120]:List Int) g)] .nil) E ⟨V,(Bs E E)⟩ (aC E ?_)))
  cases h
  exact cU aA () V E E [0] E
 refine JS.skip (JS.seq (aE aA 2 [(15,.v (.bool (decide (e<5))))] ev1 E E ?_))
 refine aJ E h (fun h=>?_) (fun h=>?_)
 ·
  refine JS.seq (JS.region ?_)
  refine kU E (JK.buildSlice aA E E E E E E E E E E E [] E iT [98,102,100,121,117,108,99,50,57,120] ⟨E,E⟩ E E fun s=>kT ?_)
  refine aB aA 1 [] [] [(17,.ep ⟨a,1,1⟩ 0)] _ E ev1 ?_
  obtain ⟨⟨i,A⟩,t,h⟩:=aD h
  refine bL E E E E (bD (b.1,f.2) 10 a c d _ t) E [1] E [0] E E fun _ _=>cC 2 E fun u=>?_
  obtain ⟨k,h⟩:=aH h
  refine aB aA 1 [] [] [(19,.ep ⟨s,([98,102,100,121,117,108,99,50,57,120]:List Int).length,([98,102,100,121,117,108,99,50,57,120]:List Int).length⟩ (Int.toNat i*1))] _ E ⟨u.ix k,ev2,E⟩ (JO.load aA E E E E E E E 2 E E (Int.toNat i) 0 (at' ([98,102,100,121,117,108,99,50,57,120]:List Int) i) ⟨bH k,E⟩ E E (aL aA 2 [] [] [] (.new 3 64 [I 3,I (at' ([98,102,100,121,117,108,99,50,57,120]:List Int) i)] .nil) E ⟨V,(Bs E E)⟩ (aC E ?_)))
  cases h
  exact cU aA () V E E [0] E
 refine JS.skip (JS.seq (aE aA 2 [(23,.v (.bool (decide (e=5))))] ev1 E E ?_))
 refine aJ E h (fun h=>?_) (fun h=>?_)
 ·
  refine JS.seq (JS.region (aB aA 1 [] [] [(24,.ep ⟨a,1,1⟩ 0)] _ E ev1 ?_))
  obtain ⟨⟨l,B⟩,w,h⟩:=aD h
  refine bL E E E E (bD (b.1,f.2) 13 a c d _ w) E [0] E [0] E E fun _ _=>aL aA 3 [(W (4+l))] [] [] (.new 3 64 [I (W (4+l)),I 0] .nil) E ⟨ev5,V,(Bs E E)⟩ (aC E ?_)
  cases h
  exact cU aA () V E E [0] E
 refine JS.skip (JS.seq (JS.region (aB aA 1 [] [] [(28,.ep ⟨a,1,1⟩ 0)] _ E ev1 ?_)))
 obtain ⟨⟨m,C⟩,x,h⟩:=aD h
 refine bL E E E E (aBo (b.1,f.2) a c d _ x) E [0] E [0] E E fun _ _=>aL aA 1 [] [] [] (.new 3 64 [I m.1,I m.2] .nil) E ⟨V,(Bs E E)⟩ (aC E ?_)
 cases h
 exact cU aA () V E E [0] E

def sJ (a:List UInt8×Int×Int):Option ((Int×Int)×List UInt8×Int×Int):= (aF (aU a 10) fun (d,b)=>(bif decide (d<8) then (aF (aU (a.1,b.2.1,b.2.2) 45) fun (c,e)=>(aN (0≤c∧c<(([104,108,119,98,101,87,66,69,48,94,36,124,100,99,121,100,120,88,68,67,115,83,114,105,73,97,65,112,80,126,117,107,106,47,102,116,70,84,59,44,50,51,81,97,32]:List Int).length:Int)) <|some ((1,(at' ([104,108,119,98,101,87,66,69,48,94,36,124,100,99,121,100,120,88,68,67,115,83,114,105,73,97,65,112,80,126,117,107,106,47,102,116,70,84,59,44,50,51,81,97,32]:List Int) c)),(a.1,e.2.1,e.2.2)))) else (bif decide (d=8) then (aF (aU (a.1,b.2.1,b.2.2) 13) fun (h,f)=> some (((W (4+h)),0),(a.1,f.2.1,f.2.2))) else (aF (nR (a.1,b.2.1,b.2.2)) fun (i,g)=> some (i,(a.1,g.2.1,g.2.2))))))

theorem aH6 (b:List UInt8×Int×Int) (a:Option Addr) (c:Option Addr) (d:Nat) (r:(Int×Int)×List UInt8×Int×Int) (h:sJ b=some r):
 FX Tryz.prog 106 [.pointer a] [⟨.byte,⟨c,b.1.length,d⟩,b.1⟩] [⟨(.pair .val (.pair iT iT)),⟨a,1,1⟩,[((Sl.v ⟨c,b.1.length,d⟩),b.2)]⟩] (fun _:Unit=>True) (fun _=>.agg #[I r.1.1,I r.1.2]) (fun _=>[⟨(.pair .val (.pair iT iT)),⟨a,1,1⟩,[((Sl.v ⟨c,b.1.length,d⟩),r.2.2)]⟩]):= by
 refine FX.of (T:=TTx) Tryz.call106 Tryz.func106 E E fun s L0=>?_
 unfold sJ at h
 refine gS 0 a E ?_
 refine aS aA 1 [] [3] [(2,.bp 3 0)] (.new 3 64 [I 0,I 0] .nil) ⟨ev2,(Bs E E)⟩ E E (JS.seq (JS.region (aB aA 1 [] [] [(4,.ep ⟨a,1,1⟩ 0)] _ E ev1 ?_)))
 obtain ⟨⟨f,g⟩,l,h⟩:=aD h
 refine bL E E E E (bD b 10 a c d _ l) E [0] E [0] E E fun _ _=>aB aA 1 [] [] [(3,.v (I f))] _ E ev1 (aC E (JS.seq (aE aA 2 [(7,.v (.bool (decide (f<8))))] ev1 E E ?_)))
 refine aJ E h (fun h=>?_) (fun h=>?_)
 ·
  refine JS.seq (JS.region ?_)
  refine kU E (JK.buildSlice aA E E E E E E E E E E E [] E iT [104,108,119,98,101,87,66,69,48,94,36,124,100,99,121,100,120,88,68,67,115,83,114,105,73,97,65,112,80,126,117,107,106,47,102,116,70,84,59,44,50,51,81,97,32] ⟨E,E⟩ E E fun m=>kT ?_)
  refine aB aA 1 [] [] [(9,.ep ⟨a,1,1⟩ 0)] _ E ev1 ?_
  obtain ⟨⟨e,t⟩,n,h⟩:=aD h
  refine bL E E E E (bD (b.1,g.2) 45 a c d _ n) E [1] E [0] E E fun _ _=>cC 2 E fun o=>?_
  obtain ⟨i,h⟩:=aH h
  refine aB aA 1 [] [] [(11,.ep ⟨m,([104,108,119,98,101,87,66,69,48,94,36,124,100,99,121,100,120,88,68,67,115,83,114,105,73,97,65,112,80,126,117,107,106,47,102,116,70,84,59,44,50,51,81,97,32]:List Int).length,([104,108,119,98,101,87,66,69,48,94,36,124,100,99,121,100,120,88,68,67,115,83,114,105,73,97,65,112,80,126,117,107,106,47,102,116,70,84,59,44,50,51,81,97,32]:List Int).length⟩ (Int.toNat e*1))] _ E ⟨o.ix i,ev2,E⟩ (JO.load aA E E E E E E E 2 E E (Int.toNat e) 0 (at' ([104,108,119,98,101,87,66,69,48,94,36,124,100,99,121,100,120,88,68,67,115,83,114,105,73,97,65,112,80,126,117,107,106,47,102,116,70,84,59,44,50,51,81,97,32]:List Int) e) ⟨bH i,E⟩ E E (aL aA 2 [] [] [] (.new 3 64 [I 1,I (at' ([104,108,119,98,101,87,66,69,48,94,36,124,100,99,121,100,120,88,68,67,115,83,114,105,73,97,65,112,80,126,117,107,106,47,102,116,70,84,59,44,50,51,81,97,32]:List Int) e)] .nil) E ⟨V,(Bs E E)⟩ (aC E ?_)))
  cases h
  exact cU aA () V E E [0] E
 refine JS.skip (JS.seq (aE aA 2 [(15,.v (.bool (decide (f=8))))] ev1 E E ?_))
 refine aJ E h (fun h=>?_) (fun h=>?_)
 ·
  refine JS.seq (JS.region (aB aA 1 [] [] [(16,.ep ⟨a,1,1⟩ 0)] _ E ev1 ?_))
  obtain ⟨⟨j,u⟩,p,h⟩:=aD h
  refine bL E E E E (bD (b.1,g.2) 13 a c d _ p) E [0] E [0] E E fun _ _=>aL aA 3 [(W (4+j))] [] [] (.new 3 64 [I (W (4+j)),I 0] .nil) E ⟨ev5,V,(Bs E E)⟩ (aC E ?_)
  cases h
  exact cU aA () V E E [0] E
 refine JS.skip (JS.seq (JS.region (aB aA 1 [] [] [(20,.ep ⟨a,1,1⟩ 0)] _ E ev1 ?_)))
 obtain ⟨⟨k,w⟩,q,h⟩:=aD h
 refine bL E E E E (aBo (b.1,g.2) a c d _ q) E [0] E [0] E E fun _ _=>aL aA 1 [] [] [] (.new 3 64 [I k.1,I k.2] .nil) E ⟨V,(Bs E E)⟩ (aC E ?_)
 cases h
 exact cU aA () V E E [0] E

def uJ (a:Int×Int):Option Bool:= (bif decide (a.1=1) then (aF (kO a.2) fun b=> some b) else (bif decide (a.1=2) then some (bif decide (a.2=95) then true else (bif (bif (bif (bif (bif decide (97≤a.2) then (decide (a.2≤122)) else false) then (!(decide (a.2=104))) else false) then (!(decide (a.2=105))) else false) then (!(decide (a.2=106))) else false) then (!(decide (a.2=109))) else false)) else (bif decide (a.1=3) then some (bif decide (33≤a.2) then (decide (a.2≤126)) else false) else some (bif (bif decide (4≤a.1) then (decide (a.1≤16)) else false) then (decide (a.2=0)) else false))))

theorem aKt (a:Int×Int) (r:Bool) (h:uJ a=some r) :
 FC Tryz.prog 79 [.agg #[I a.1,I a.2]] [] (fun _:Unit=>True) (fun _=>.bool r) (fun _=>[]):= by
 refine FC.of (T:=TTx) Tryz.call79 Tryz.func79 E E fun d=>?_
 unfold uJ at h
 refine aS aA 2 [] [1] [(1,.bp 1 0)] (.new 1 64 [I a.1,I a.2] .nil) ⟨ev2,(Bs E E)⟩ E E (JS.seq (aE aA 2 [(4,.v (I a.1))] ev1 E E (JS.block (aE aA 2 [(5,.v (.bool (decide (a.1=1))))] ev1 E E ?_))))
 refine aJ E h (fun h=>?_) (fun h=>?_)
 ·
  refine JS.seq (JS.region (aB aA 2 [] [] [(8,.v (I a.2))] _ E ev1 ?_))
  refine bnw h fun b c h=>JO.call E E E E (wF a.2 _ c) E [] E E fun _ _=>aB aA 1 [] [] [(2,.v (.bool b))] _ E ev1 (aC E ?_)
  cases h
  exact JS.ret aA () V E E [] E
 refine aE aA 2 [(10,.v (.bool (decide (a.1=2))))] ev1 E E ?_
 refine aJ E h (fun h=>?_) (fun h=>?_)
 ·
  refine aE aA 34 [(2,.v (.bool (bif (decide (a.2=95)) then true else (bif (bif (bif (bif (bif (decide (97≤a.2)) then (decide (a.2≤122)) else false) then (!(decide (a.2=104))) else false) then (!(decide (a.2=105))) else false) then (!(decide (a.2=106))) else false) then (!(decide (a.2=109))) else false))))] ev1 E E ?_
  cases h
  exact JS.ret aA () V E E [] E
 refine aE aA 2 [(45,.v (.bool (decide (a.1=3))))] ev1 E E ?_
 refine aJ E h (fun h=>?_) (fun h=>?_)
 ·
  refine aE aA 9 [(2,.v (.bool (bif (decide (33≤a.2)) then (decide (a.2≤126)) else false)))] ev1 E E ?_
  cases h
  exact JS.ret aA () V E E [] E
 refine JS.skip (aV (aE aA 14 [(2,.v (.bool (bif (bif (decide (4≤a.1)) then (decide (a.1≤16)) else false) then (decide (a.2=0)) else false)))] ev1 E E ?_))
 cases h
 exact JS.ret aA () V E E [] E

def mR (a:List UInt8):Option (EdQ×(Int×List (List UInt8))×Int×Int):= (aF (sM a) fun c=>(aF (qN (a,c.2.1,c.2.2)) fun (d,e)=>(aF (oA (a,e.2.1,e.2.2)) fun (n,f)=>(aF (sK (a,f.2.1,f.2.2)) fun (g,b)=>(aT (fun ((h,i,r,s):Int×Int×Int×Int)=>(aT (fun ((o,p):Int×Int)=> some (d,n,(o,p))) fun j=>(aF (uJ (h,i)) fun q=>(bif (!q) then j (8,0) else j (h,i))))) fun k=>(bif d.1 then (aF (sJ (a,b.2.1,b.2.2)) fun (l,m)=> k (l.1,l.2,m.2.1,m.2.2)) else k (g.1,g.2,b.2.1,b.2.2)))))))

theorem aC9 (c:List UInt8) (e:Option Addr) (f:Nat) (r:EdQ×(Int×List (List UInt8))×Int×Int) (h:mR c=some r):
 FC Tryz.prog 35 [sL e c f] [⟨.byte,⟨e,c.length,f⟩,c⟩] (fun _:Option Addr×Nat×P6=>True) (fun q=>.tuple #[.agg (aG r.1 (q.1,q.2.1,q.2.2.1,q.2.2.2.1,(Q4 q).1,(Q4 q).2.1,(Q4 q).2.2.1,(Q4 q).2.2.2.1,(Q8 q).1,(Q8 q).2.1,(Q8 q).2.2.1,(Q8 q).2.2.2.1)).toArray,.agg #[I r.2.1.1,sL (Q12 q).1 r.2.1.2 (Q12 q).2],.agg #[I r.2.2.1,I r.2.2.2]]) (fun q=>(cH r.1 (q.1,q.2.1,q.2.2.1,q.2.2.2.1,(Q4 q).1,(Q4 q).2.1,(Q4 q).2.2.1,(Q4 q).2.2.2.1,(Q8 q).1,(Q8 q).2.1,(Q8 q).2.2.1,(Q8 q).2.2.2.1) [⟨.str,⟨(Q12 q).1,r.2.1.2.length,(Q12 q).2⟩,r.2.1.2⟩])):= by
 refine FC.of (T:=TTx) Tryz.call35 Tryz.func35 E E fun O=>?_
 unfold mR at h
 refine aS aA 3 [] [2,3,4] [(2,.bp 2 0),(3,.bp 3 0),(4,.bp 4 0)] (.new 2 46 bG (.new 3 50 [I 0,.slice none 0 0] (.new 4 64 [I 0,I 0] .nil))) ⟨(Es E),(Bs E E)⟩ E E (JS.seq (JS.region (aB aA 1 [] [] [(9,.v (sL e c f))] _ E ev1 ?_)))
 refine bnw h fun t u h=>JO.call E E E E (aH8 c e f _ u) E [0] E E fun g _=>aTe 10 g E (aB aA 1 [] [] [(5,.ep ⟨g,1,1⟩ 0)] _ E ev1 (aC E (JS.seq (JS.region (aB aA 1 [] [] [(11,.ep ⟨g,1,1⟩ 0)] _ E ev1 ?_)))))
 obtain ⟨⟨d,w⟩,x,h⟩:=aD h
 refine bL E E E E (aF5 (c,t.2) g e f _ x) E [0] E [0] E E fun a _=>aL aA 2 [] [30] [(6,.bp 30 0)] (.new 2 46 bG (.new 3 50 [I 0,.slice none 0 0] (.new 4 64 [I 0,I 0] (.new 30 46 (aG d a) .nil)))) E ⟨ev2,(Bs E E)⟩ (aC E (JS.seq (JS.region (aB aA 1 [] [] [(13,.ep ⟨g,1,1⟩ 0)] _ E ev1 ?_))))
 obtain ⟨⟨b,y⟩,A,h⟩:=aD h
 refine bL E E E E (aF7 (c,w.2) g e f _ A) E [0] E [0] E E ?_
 rintro ⟨i,j⟩ -
 refine aL aA 2 [] [37] [(7,.bp 37 0)] (.new 2 46 bG (.new 3 50 [I 0,.slice none 0 0] (.new 4 64 [I 0,I 0] (.new 30 46 (aG d a) (.new 37 50 [I b.1,sL i b.2 j] .nil))))) E ⟨ev2,(Bs E E)⟩ (aC E (JS.seq (JS.region (aB aA 1 [] [] [(15,.ep ⟨g,1,1⟩ 0)] _ E ev1 ?_))))
 obtain ⟨⟨k,s⟩,B,h⟩:=aD h
 refine bL E E E E (aH7 (c,y.2) g e f _ B) E [0] E [0] E E fun _ _=>aL aA 2 [] [41] [(8,.bp 41 0)] (.new 2 46 bG (.new 3 50 [I 0,.slice none 0 0] (.new 4 64 [I 0,I 0] (.new 30 46 (aG d a) (.new 37 50 [I b.1,sL i b.2 j] (.new 41 64 [I k.1,I k.2] .nil)))))) E ⟨ev2,(Bs E E)⟩ (aC E ?_)
 obtain ⟨C,D,h⟩:=aM h
 refine cJ (ι:=Int×Int×Int×Int) ⟨fun z=>C z=some r,fun z=>[(2,.bp 2 0),(3,.bp 3 0),(4,.bp 4 0),(6,.bp 30 0),(7,.bp 37 0),(8,.bp 41 0)],fun z=>(.new 2 46 bG (.new 3 50 [I 0,.slice none 0 0] (.new 4 64 [I 0,I 0] (.new 30 46 (aG d a) (.new 37 50 [I b.1,sL i b.2 j] (.new 41 64 [I z.1,I z.2.1] .nil)))))),fun z=>[⟨.byte,⟨e,c.length,f⟩,c⟩],fun z=>(⟨(.pair .val (.pair iT iT)),⟨g,1,1⟩,[((Sl.v ⟨e,c.length,f⟩),z.2.2)]⟩ :: (cH d a [⟨.str,⟨i,b.2.length,j⟩,b.2⟩])),fun z=>0⟩ ?_ ?_
 ·
  refine aE aA 2 [(18,.v (.bool d.1))] ev1 E E ?_
  refine aJ E h (fun h=>?_) (fun h=>?_)
  ·
   refine JS.region (aB aA 1 [] [] [(19,.ep ⟨g,1,1⟩ 0)] _ E ev1 ?_)
   obtain ⟨⟨l,F⟩,G,h⟩:=aD h
   refine bL E E E E (aH6 (c,s.2) g e f _ G) E [0] E [0] E E fun _ _=>aL aA 1 [] [] [] (.new 2 46 bG (.new 3 50 [I 0,.slice none 0 0] (.new 4 64 [I 0,I 0] (.new 30 46 (aG d a) (.new 37 50 [I b.1,sL i b.2 j] (.new 41 64 [I l.1,I l.2] .nil)))))) E ⟨V,(Bs E E)⟩ (aC E (bT (l.1,l.2,F.2) h (Es E) (Bs E E) [0] E [0,2,3,4,5,6,7,1] E E))
  refine JS.skip (bT (k.1,k.2,s.2) h (Es E) (Bs E E) [0] E [0,2,3,4,5,6,7,1] E E)
 rintro ⟨m,n,H,J⟩ h
 subst D
 obtain ⟨K,L,h⟩:=aM h
 refine cJ (ι:=Int×Int) ⟨fun z=>K z=some r,fun z=>[(2,.bp 2 0),(3,.bp 3 0),(4,.bp 4 0),(6,.bp 30 0),(7,.bp 37 0),(8,.bp 41 0)],fun z=>(.new 2 46 bG (.new 3 50 [I 0,.slice none 0 0] (.new 4 64 [I 0,I 0] (.new 30 46 (aG d a) (.new 37 50 [I b.1,sL i b.2 j] (.new 41 64 [I z.1,I z.2] .nil)))))),fun z=>[⟨.byte,⟨e,c.length,f⟩,c⟩],fun z=>(⟨(.pair .val (.pair iT iT)),⟨g,1,1⟩,[((Sl.v ⟨e,c.length,f⟩),H,J)]⟩ :: (cH d a [⟨.str,⟨i,b.2.length,j⟩,b.2⟩])),fun z=>0⟩ ?_ ?_
 ·
  refine JS.seq (JS.region (aB aA 1 [] [] [(21,.v (.agg #[I m,I n]))] _ E ev1 ?_))
  refine bnw h fun M N h=>JO.call E E E E (aKt (m,n) _ N) E [] E E fun _ _=>aB aA 1 [] [] [(23,.v (.bool (!M)))] _ E ev1 (aC E ?_)
  refine aJ E h (fun h=>?_) (fun h=>?_)
  ·
   refine tK aA 2 [] [] [] (.new 2 46 bG (.new 3 50 [I 0,.slice none 0 0] (.new 4 64 [I 0,I 0] (.new 30 46 (aG d a) (.new 37 50 [I b.1,sL i b.2 j] (.new 41 64 [I 8,I 0] .nil)))))) ⟨V,(Bs E E)⟩ E E (bT (8,0) h (Es E) (Bs E E) [0] E [0,1,2,3,4,5,6,7] E E)
  refine JS.skip (bT (m,n) h (Es E) (Bs E E) [0] E [0,1,2,3,4,5,6,7] E E)
 rintro ⟨o,p⟩ h
 subst L
 refine JS.seq ?_
 refine bE E (.new 30 46 (aG d a) (.new 37 50 [I b.1,sL i b.2 j] (.new 41 64 [I o,I p] .nil))) [] [5] ev8 E (fun P=>?_)
 refine cD aA aI true 3 [0,1,2] E (by kernel_rfl) [] [(25,.v (.agg (aG d a).toArray)),(26,.v (.agg #[I b.1,sL i b.2 j])),(27,.v (.agg #[I o,I p]))] ev8 [] E E (Es E) (JA.one 3 (by kernel_rfl) (aY aA E E E E E E E E (aQ ev8 [] E (JA.one 4 (by kernel_rfl) (aY aA E E E E E E E E (aQ ev8 [] E (JA.one 5 (by kernel_rfl) (aY aA E E E E E E E E (aR E (bI (by kernel_rfl) (bC (B':=(.new 2 46 (aG d a) (.new 3 50 [I b.1,sL i b.2 j] (.new 4 64 [I o,I p] .nil)))) (Bs E E) ?_)))))))))))
 cases h
 exact JS.ret aA (a.1,a.2.1,a.2.2.1,a.2.2.2.1,(Q4 a).1,(Q4 a).2.1,(Q4 a).2.2.1,(Q4 a).2.2.2.1,(Q8 a).1,(Q8 a).2.1,(Q8 a).2.2.1,(Q8 a).2.2.2,i,j) V E E [1,1,1,1,1,1,1] E

def dH (a:Int) (b:Int) (c:Int):Option Bool:= some (bif decide (b≤a) then (decide (a≤c)) else false)

theorem eG (a:Int) (b:Int) (c:Int) (r:Bool) (h:dH a b c=some r) :
 FC Tryz.prog 99 [I a,I b,I c] [] (fun _:Unit=>True) (fun _=>.bool r) (fun _=>[]):= by
 refine FC.of (T:=TTx) Tryz.call99 Tryz.func99 E E fun d=>?_
 unfold dH at h
 refine aE aA 1 [] ev5 E E (aE aA 9 [(6,.v (.bool (bif (decide (b≤a)) then (decide (a≤c)) else false)))] ev1 E E ?_)
 cases h
 exact JS.ret aA () V E E [] E

def lO (a:Int):Option Bool:= (aF (dH a 0 1114111) fun b=>(cA (b=true) (dH a 55296 57343) false fun c=> some (bif b then (!c) else false)))

theorem aBv (a:Int) (r:Bool) (h:lO a=some r) :
 FC Tryz.prog 141 [I a] [] (fun _:Unit=>True) (fun _=>.bool r) (fun _=>[]):= by
 refine FC.of (T:=TTx) Tryz.call141 Tryz.func141 E E fun g=>?_
 unfold lO at h
 refine aE aA 1 [] ev5 E E (JS.seq (JS.region (aB aA 1 [] [] [(3,.v (I a))] _ E ev1 ?_)))
 refine bnw h fun b c h=>JO.call E E E E (eG a 0 1114111 _ c) E [] E E fun _ _=>aB aA 2 [] [] [(5,.v (.bool b)),(6,.cd [(5,true)] (.v (I a)))] _ E ⟨(Es E),E⟩ ?_
 obtain ⟨d,e,-,h⟩:=bB h
 refine bR E E E E (fun f=>eG a 55296 57343 _ (e f)) E [] E E (aB aA 3 [] [] [(2,.v (.bool (bif b then (!d) else false)))] _ E ev1 (aC E ?_))
 cases h
 exact JS.ret aA () V E E [] E

def eF (a:Int):Option Bool:= (aF (lO a) fun b=>(cA ((bif b then (decide (32≤a)) else false)=true) (dH a 127 159) false fun c=> some (bif (bif b then (decide (32≤a)) else false) then (!c) else false)))

theorem iW (a:Int) (r:Bool) (h:eF a=some r) :
 FC Tryz.prog 57 [I a] [] (fun _:Unit=>True) (fun _=>.bool r) (fun _=>[]):= by
 refine FC.of (T:=TTx) Tryz.call57 Tryz.func57 E E fun g=>?_
 unfold eF at h
 refine aE aA 1 [] ev5 E E (JS.seq (JS.region (aB aA 1 [] [] [(3,.v (I a))] _ E ev1 ?_)))
 refine bnw h fun b c h=>JO.call E E E E (aBv a _ c) E [] E E fun _ _=>aB aA 6 [] [] [(9,.v (.bool (bif b then (decide (32≤a)) else false))),(10,.cd [(9,true)] (.v (I a)))] _ E ⟨(Es E),E⟩ ?_
 obtain ⟨d,e,-,h⟩:=bB h
 refine bR E E E E (fun f=>eG a 127 159 _ (e f)) E [] E E (aB aA 3 [] [] [(2,.v (.bool (bif (bif b then (decide (32≤a)) else false) then (!d) else false)))] _ E ev1 (aC E ?_))
 cases h
 exact JS.ret aA () V E E [] E

def lM (a:Int):Option Bool:= (aF (eF a) fun b=> some (bif (bif b then true else (decide (a=9))) then true else (decide (a=10))))

theorem aCd (a:Int) (r:Bool) (h:lM a=some r) :
 FC Tryz.prog 248 [I a] [] (fun _:Unit=>True) (fun _=>.bool r) (fun _=>[]):= by
 refine FC.of (T:=TTx) Tryz.call248 Tryz.func248 E E fun d=>?_
 unfold lM at h
 refine aE aA 1 [] ev5 E E (JS.seq (JS.region (aB aA 1 [] [] [(3,.v (I a))] _ E ev1 ?_)))
 refine bnw h fun b c h=>JO.call E E E E (iW a _ c) E [] E E fun _ _=>aB aA 9 [] [] [(2,.v (.bool (bif (bif b then true else (decide (a=9))) then true else (decide (a=10)))))] _ E ev1 (aC E ?_)
 cases h
 exact JS.ret aA () V E E [] E

def eO (b:List Int) (c:Unit→Option Bool) (d:Int→Option Bool):Int→Option Bool:=fun a=>(bif decide (a<(b.length:Int)) then (aN (0≤a∧a<(b.length:Int)) <|(cA ((decide (400≤a))=false) (lM (at' b a)) false fun e=>(bif (bif decide (400≤a) then true else (!e)) then some false else d (W (a+1))))) else c ())

def eY (a:List Int):Option Bool:= (aT (fun (_:Unit)=> some true) fun b=>(aZ (eO a b) bO 0))

theorem nM (a:List Int) (c:Option Addr) (d:Nat) (r:Bool) (h:eY a=some r):
 FC Tryz.prog 179 [sL c a d] [fI c d a] (fun _:Unit=>True) (fun _=>.bool r) (fun _=>[]):= by
 refine FC.of (T:=TTx) Tryz.call179 Tryz.func179 E E fun n=>?_
 unfold eY at h
 refine aE aA 1 [] ev5 E E (JS.seq (aE aA 3 [(5,.v (sL c a d)),(6,.v (I (a.length:Int))),(7,.v (I 0))] ⟨(Es E),E⟩ E E ?_))
 obtain ⟨e,i,h⟩:=aM h
 refine bA (ι:=Unit) ⟨fun _=>e ()=some r,fun _=>[],fun _=>.nil,fun _=>[],fun _=>[],fun _=>0⟩ ?_ ?_
 ·
  refine JS.loop (ι:=Nat×Int) ⟨fun z=>aZ (eO a e) z.1 z.2=some r,fun z=>[(5,.v (sL c a d)),(6,.v (I (a.length:Int))),(7,.v (I z.2))],fun z=>.nil,fun z=>[fI c d a],fun z=>[],fun z=>z.1⟩ (bO,0) h (Es E) V [0] E [] E ?_
  rintro ⟨f,b⟩ h
  obtain ⟨f,rfl,h⟩:=bK h
  rw [eO] at h
  refine aE aA 1 [(8,.v (.bool (decide (b<(a.length:Int)))))] ev1 E E (JS.seq ?_)
  refine aJ E h (fun h=>?_) (fun h=>?_)
  ·
   refine JS.skip (JS.seq (JS.block (JS.seq (JS.region (cC 0 E fun j=>?_)))))
   obtain ⟨g,h⟩:=aH h
   refine aB aA 2 [] [] [(9,.v (I b)),(10,.ep ⟨c,a.length,d⟩ (Int.toNat b*1))] _ E ⟨j.ix g,(Es E),E⟩ (JO.load aA E E E E E E E 0 E E (Int.toNat b) 0 (at' a b) ⟨bH g,E⟩ E E (aB aA 2 [] [] [(3,.v (I b)),(4,.v (I (at' a b)))] _ E ⟨(Es E),E⟩ (aC E (JS.seq (JS.region (aB aA 4 [] [] [(14,.v (.bool (decide (400≤b)))),(15,.cd [(14,false)] (.v (I (at' a b))))] _ E ⟨(Es E),E⟩ ?_))))))
   obtain ⟨k,l,-,h⟩:=bB h
   refine bR E E E E (fun m=>aCd (at' a b) _ (l m)) E [] E E (aB aA 2 [] [] [(18,.v (.bool (bif (decide (400≤b)) then true else (!k))))] _ E ev1 (aC E ?_))
   refine aJ E h (fun h=>?_) (fun h=>?_)
   ·
    refine aE aA 1 [(2,.v (.bool false))] ev1 E E ?_
    cases h
    exact JS.ret aA () V E E [] E
   refine JS.skip (aV (cS aA 2 [(W (b+1))] [] [(7,.v (I (W (b+1))))] _ ev4 E E (bZ (f,(W (b+1))) h (Nat.lt_succ_self _) (Es E) V [0] E [] E)))
  refine JS.exit E (aO () h V V [] E [] E)
 rintro _ h
 subst i
 refine aE aA 1 [(2,.v (.bool true))] ev1 E E ?_
 cases h
 exact JS.ret aA () V E E [] E

def eJ (a:List Int×Int):Option Bool:= (aF (eY a.1) fun b=>(cA (b=true) (dH a.2 0 (a.1.length:Int)) false fun c=> some (bif b then c else false)))

theorem gE (a:List Int×Int) (b:Option Addr) (c:Nat) (r:Bool) (h:eJ a=some r):
 FC Tryz.prog 98 [.agg #[sL b a.1 c,I a.2]] [fI b c a.1] (fun _:Unit=>True) (fun _=>.bool r) (fun _=>[]):= by
 refine FC.of (T:=TTx) Tryz.call98 Tryz.func98 E E fun j=>?_
 unfold eJ at h
 refine aS aA 2 [] [2] [(1,.bp 2 0)] (.new 2 38 [sL b a.1 c,I a.2] .nil) ⟨ev2,(Bs E E)⟩ E E (JS.seq (JS.region (aB aA 2 [] [] [(4,.v (sL b a.1 c))] _ E ev1 ?_)))
 refine bnw h fun d e h=>JO.call E E E E (nM a.1 b c _ e) E [0] E E fun _ _=>aB aA 6 [] [] [(6,.v (.bool d)),(8,.cd [(6,true)] (.v (I a.2))),(11,.cd [(6,true)] (.v (I (a.1.length:Int))))] _ E ⟨(Es E),E⟩ ?_
 obtain ⟨f,g,-,h⟩:=bB h
 refine bR E E E E (fun i=>eG a.2 0 (a.1.length:Int) _ (g i)) E [] E E (aB aA 2 [] [] [(2,.v (.bool (bif d then f else false)))] _ E ev1 (aC E ?_))
 cases h
 exact JS.ret aA () V E E [] E

def oG (a:List Int×Int):Option Bool:= some (bif decide (0<(a.1.length:Int)) then (decide (a.2=(a.1.length:Int))) else false)

theorem aAa (a:List Int×Int) (b:Option Addr) (c:Nat) (r:Bool) (h:oG a=some r):
 FC Tryz.prog 180 [.agg #[sL b a.1 c,I a.2]] [fI b c a.1] (fun _:Unit=>True) (fun _=>.bool r) (fun _=>[]):= by
 refine FC.of (T:=TTx) Tryz.call180 Tryz.func180 E E fun d=>?_
 unfold oG at h
 refine aS aA 2 [] [2] [(1,.bp 2 0)] (.new 2 38 [sL b a.1 c,I a.2] .nil) ⟨ev2,(Bs E E)⟩ E E (aE aA 13 [(2,.v (.bool (bif (decide (0<(a.1.length:Int))) then (decide (a.2=(a.1.length:Int))) else false)))] ev1 E E ?_)
 cases h
 exact JS.ret aA () V E E [] E

def fS (c:Int) (b:List UInt8) (d:Unit→Option Bool) (e:Int→Option Bool):Int→Option Bool:=fun a=>(bif decide (a<(b.length:Int)) then (aN (0≤a∧a<(b.length:Int)) <|(bif decide (((at' b a).toNat:Int)=c) then some true else e (W (a+1)))) else d ())

def iF (a:Int) (b:List UInt8):Option Bool:= (aT (fun (_:Unit)=> some false) fun c=>(aZ (fS a b c) bO 0))

theorem uW (c:Int) (a:List UInt8) (r:Bool) (h:iF c a=some r) :
 FC Tryz.prog 181 [I c,.string (bs a)] [] (fun _:Unit=>True) (fun _=>.bool r) (fun _=>[]):= by
 refine FC.of (T:=TTx) Tryz.call181 Tryz.func181 E E fun i=>?_
 unfold iF at h
 refine aE aA 1 [] ev5 E E (JS.seq (aE aA 1 [(5,.v (I 0))] ev1 E E ?_))
 obtain ⟨d,f,h⟩:=aM h
 refine bA (ι:=Unit) ⟨fun _=>d ()=some r,fun _=>[],fun _=>.nil,fun _=>[],fun _=>[],fun _=>0⟩ ?_ ?_
 ·
  refine JS.loop (ι:=Nat×Int) ⟨fun z=>aZ (fS c a d) z.1 z.2=some r,fun z=>[(0,.v (I c)),(1,.v (.string (bs a))),(5,.v (I z.2))],fun z=>.nil,fun z=>[],fun z=>[],fun z=>z.1⟩ (bO,0) h (Es E) V [] E [] E ?_
  rintro ⟨e,b⟩ h
  obtain ⟨e,rfl,h⟩:=bK h
  rw [fS] at h
  refine JS.seq (aE aA 4 [(9,.v (.bool (decide (b<(a.length:Int)))))] ev1 E E ?_)
  refine aJ E h (fun h=>?_) (fun h=>?_)
  ·
   refine JS.skip (JS.seq (JS.block (JS.seq (JS.region ?_))))
   obtain ⟨g,h⟩:=aH h
   refine aB aA 6 [((at' a b).toNat:Int)] [] [(17,.v (.bool (decide (((at' a b).toNat:Int)=c))))] _ E ⟨g,⟨V,aD7 _⟩,ev2,E⟩ (aC E ?_)
   refine aJ E h (fun h=>?_) (fun h=>?_)
   ·
    refine aE aA 1 [(4,.v (.bool true))] ev1 E E ?_
    cases h
    exact JS.ret aA () V E E [] E
   refine JS.skip (aV (cS aA 3 [(W (b+1))] [] [(5,.v (I (W (b+1))))] _ ev4 E E (bZ (e,(W (b+1))) h (Nat.lt_succ_self _) (Es E) V [] E [] E)))
  refine JS.exit E (aO () h V V [] E [] E)
 rintro _ h
 subst f
 refine aE aA 1 [(4,.v (.bool false))] ev1 E E ?_
 cases h
 exact JS.ret aA () V E E [] E

def sR (a:EdQ):Option Bool:= (aT (fun (_:Unit)=>(cA ((decide (a.2.1=2))=true) (oG a.2.2.1) false fun e=>(bif (bif decide (a.2.1=2) then e else false) then some false else (bif (bif (bif (!(decide (a.2.1=2))) then (bif (bif (!(decide (a.2.2.2.2.1=0))) then true else (!(decide (a.2.2.2.2.2.2.1=0)))) then true else (!(decide (a.2.2.2.2.2.1=0)))) else false) then true else (bif decide (a.2.2.2.2.1=0) then (!(decide (a.2.2.2.2.2.1=0))) else false)) then some false else (cA ((decide (a.2.2.2.2.1=0))=false) (iF a.2.2.2.2.1 ([100,99,121]:List UInt8)) false fun c=>(cA ((decide (a.2.2.2.2.2.2.1=0))=false∧(bif decide (a.2.2.2.2.1=0) then true else c)=true) (iF a.2.2.2.2.2.2.1 ([102,70,116,84,114]:List UInt8)) false fun f=> some (bif (bif decide (a.2.2.2.2.1=0) then true else c) then (bif decide (a.2.2.2.2.2.2.1=0) then true else f) else false))))))) fun b=>(bif decide (a.2.1=0) then (bif a.1 then some false else b ()) else (aT (fun (g:Bool)=>(bif g then (bif (!a.1) then some false else b ()) else (bif decide (a.2.1=3) then b () else some false))) fun d=>(bif decide (a.2.1=1) then d (decide (a.2.1=1)) else d (decide (a.2.1=2))))))

theorem aId (a:EdQ) (b:P6) (r:Bool) (h:sR a=some r):
 FC Tryz.prog 100 [.agg (aG a b).toArray] (cH a b []) (fun _:Unit=>True) (fun _=>.bool r) (fun _=>[]):= by
 refine FC.of (T:=TTx) Tryz.call100 Tryz.func100 E E fun s=>?_
 unfold sR at h
 refine aS aA 2 [] [7] [(1,.bp 7 0)] (.new 7 46 (aG a b) .nil) ⟨ev2,(Bs E E)⟩ E E (JS.seq (aE aA 2 [(4,.v (I a.2.1))] ev1 E E ?_))
 obtain ⟨d,e,h⟩:=aM h
 refine bA (ι:=Unit) ⟨fun _=>d ()=some r,fun _=>[(1,.bp 7 0)],fun _=>(.new 7 46 (aG a b) .nil),fun _=>(cH a b []),fun _=>[],fun _=>0⟩ ?_ ?_
 ·
  refine aE aA 2 [(5,.v (.bool (decide (a.2.1=0))))] ev1 E E ?_
  refine aJ E h (fun h=>?_) (fun h=>?_)
  ·
   refine aE aA 2 [(8,.v (.bool a.1))] ev1 E E ?_
   refine aJ E h (fun h=>?_) (fun h=>?_)
   ·
    refine aE aA 1 [(2,.v (.bool false))] ev1 E E ?_
    cases h
    exact JS.ret aA () V E E [] E
   refine JS.skip (aV (aO () h ev2 (Bs E E) [0,1,2,3,4,5] E [] E))
  obtain ⟨f,g,h⟩:=aM h
  refine cJ (ι:=Bool) ⟨fun z=>f z=some r,fun z=>[(1,.bp 7 0),(4,.v (I a.2.1)),(9,.v (.bool z))],fun z=>(.new 7 46 (aG a b) .nil),fun z=>(cH a b []),fun z=>[],fun z=>0⟩ ?_ ?_
  ·
   refine aE aA 2 [(9,.v (.bool (decide (a.2.1=1))))] ev1 E E ?_
   refine aJ E h (fun h=>?_) (fun h=>?_)
   ·
    refine JS.skip (aO (decide (a.2.1=1)) h (Es E) (Bs E E) [0,1,2,3,4,5] E [] E)
   refine lT aA 2 [(9,.v (.bool (decide (a.2.1=2))))] ev1 E E (aO (decide (a.2.1=2)) h (Es E) (Bs E E) [0,1,2,3,4,5] E [] E)
  rintro t h
  subst g
  refine aJ E h (fun h=>?_) (fun h=>?_)
  ·
   refine aE aA 3 [(14,.v (.bool (!a.1)))] ev1 E E ?_
   refine aJ E h (fun h=>?_) (fun h=>?_)
   ·
    refine aE aA 1 [(2,.v (.bool false))] ev1 E E ?_
    cases h
    exact JS.ret aA () V E E [] E
   refine JS.skip (aV (aO () h ev2 (Bs E E) [0,1,2,3,4,5] E [] E))
  refine aE aA 2 [(15,.v (.bool (decide (a.2.1=3))))] ev1 E E ?_
  refine aJ E h (fun h=>?_) (fun h=>?_)
  ·
   refine JS.skip (aV (aO () h ev2 (Bs E E) [0,1,2,3,4,5] E [] E))
  refine aE aA 1 [(2,.v (.bool false))] ev1 E E ?_
  cases h
  exact JS.ret aA () V E E [] E
 rintro _ h
 subst e
 refine JS.seq (JS.seq (JS.region (aB aA 6 [] [] [(20,.v (.bool (decide (a.2.1=2)))),(22,.cd [(20,true)] (.v (.agg #[sL b.1 a.2.2.1.1 b.2.1,I a.2.2.1.2])))] _ E ⟨(Es E),E⟩ ?_)))
 obtain ⟨i,j,-,h⟩:=bB h
 refine bR E E E E (fun k=>aAa a.2.2.1 b.1 b.2.1 _ (j k)) E [0] E E (aB aA 1 [] [] [(24,.v (.bool (bif (decide (a.2.1=2)) then i else false)))] _ E ev1 (aC E ?_))
 refine aJ E h (fun h=>?_) (fun h=>?_)
 ·
  refine aE aA 1 [(2,.v (.bool false))] ev1 E E ?_
  cases h
  exact JS.ret aA () V E E [] E
 refine JS.skip (JS.seq (aE aA 28 [(52,.v (.bool (bif (bif (!(decide (a.2.1=2))) then (bif (bif (!(decide ((Q4 a).1=0))) then true else (!(decide ((Q4 a).2.2.1=0)))) then true else (!(decide ((Q4 a).2.1=0)))) else false) then true else (bif (decide ((Q4 a).1=0)) then (!(decide ((Q4 a).2.1=0))) else false))))] ev1 E E ?_))
 refine aJ E h (fun h=>?_) (fun h=>?_)
 ·
  refine aE aA 1 [(2,.v (.bool false))] ev1 E E ?_
  cases h
  exact JS.ret aA () V E E [] E
 refine JS.skip (JS.seq (JS.region (aB aA 6 [] [] [(56,.v (.bool (decide ((Q4 a).1=0)))),(58,.cd [(56,false)] (.v (I (Q4 a).1)))] _ E ⟨(Es E),E⟩ ?_)))
 obtain ⟨c,l,-,h⟩:=bB h
 refine bR E E E E (fun m=>uW (Q4 a).1 ([100,99,121]:List UInt8) _ (l m)) E [] E E (aB aA 8 [] [] [(61,.v (.bool (bif (decide ((Q4 a).1=0)) then true else c))),(65,.cd [(61,true)] (.v (.bool (decide ((Q4 a).2.2.1=0))))),(67,.cd [(65,false),(61,true)] (.v (I (Q4 a).2.2.1)))] _ E ⟨(Es E),E⟩ ?_)
 obtain ⟨n,o,-,h⟩:=bB h
 refine bR E E E E (fun p q=>uW (Q4 a).2.2.1 ([102,70,116,84,114]:List UInt8) _ (o ⟨p,q⟩)) E [] E E (aB aA 3 [] [] [(2,.v (.bool (bif (bif (decide ((Q4 a).1=0)) then true else c) then (bif (decide ((Q4 a).2.2.1=0)) then true else n) else false)))] _ E ev1 (aC E ?_))
 cases h
 exact JS.ret aA () V E E [] E

def nE (b:List (List Int)) (c:Unit→Option Bool) (d:Int→Option Bool):Int→Option Bool:=fun a=>(bif decide (a<(b.length:Int)) then (aN (0≤a∧a<(b.length:Int)) <|(cA ((decide (((at' b a).length:Int)=0))=false) (eY (at' b a)) false fun e=>(bif (bif decide (((at' b a).length:Int)=0) then true else (!e)) then some false else d (W (a+1))))) else c ())

def lP (a:List (List Int)):Option Bool:= (aT (fun (_:Unit)=> some (decide ((a.length:Int)≤6))) fun b=>(aZ (nE a b) bO 0))

theorem sW (a:List (List Int)) (c:Option Addr) (d:Nat) (r:Bool) (h:lP a=some r):
 FC Tryz.prog 101 [.agg #[sL c a d]] [⟨(.sl iT),⟨c,a.length,d⟩,a⟩] (fun _:Unit=>True) (fun _=>.bool r) (fun _=>[]):= by
 refine FC.of (T:=TTx) Tryz.call101 Tryz.func101 E E fun q=>?_
 unfold lP at h
 refine aS aA 2 [] [2] [(1,.bp 2 0)] (.new 2 41 [sL c a d] .nil) ⟨ev2,(Bs E E)⟩ E E (JS.seq (aE aA 4 [(6,.v (sL c a d)),(7,.v (I (a.length:Int))),(8,.v (I 0))] ⟨(Es E),E⟩ E E ?_))
 obtain ⟨g,k,h⟩:=aM h
 refine bA (ι:=Unit) ⟨fun _=>g ()=some r,fun _=>[(1,.bp 2 0)],fun _=>(.new 2 41 [sL c a d] .nil),fun _=>[⟨(.sl iT),⟨c,a.length,d⟩,a⟩],fun _=>[],fun _=>0⟩ ?_ ?_
 ·
  refine JS.loop (ι:=Nat×Int) ⟨fun z=>aZ (nE a g) z.1 z.2=some r,fun z=>[(1,.bp 2 0),(6,.v (sL c a d)),(7,.v (I (a.length:Int))),(8,.v (I z.2))],fun z=>(.new 2 41 [sL c a d] .nil),fun z=>[⟨(.sl iT),⟨c,a.length,d⟩,a⟩],fun z=>[],fun z=>z.1⟩ (bO,0) h (Es E) (Bs E E) [0] E [] E ?_
  rintro ⟨i,b⟩ h
  obtain ⟨i,rfl,h⟩:=bK h
  rw [nE] at h
  refine aE aA 1 [(9,.v (.bool (decide (b<(a.length:Int)))))] ev1 E E (JS.seq ?_)
  refine aJ E h (fun h=>?_) (fun h=>?_)
  ·
   refine JS.skip (JS.seq (JS.block (JS.seq (JS.region (cC 0 E fun l=>?_)))))
   obtain ⟨j,h⟩:=aH h
   refine aB aA 1 [] [] [(10,.ep ⟨c,a.length,d⟩ (Int.toNat b*1))] _ E ⟨l.ix j,ev2,E⟩ (nH 0 E (Int.toNat b) (at' a b) E fun e f s t m=>dI aA E E E E E E 0 E E (Int.toNat b) 0 (Sl.v ⟨e,(at' a b).length,f⟩) ⟨m (tY j),E⟩ E E E (aL aA 2 [] [16] [(4,.bp 16 0)] (.new 2 41 [sL c a d] (.new 16 174 [sL e (at' a b) f] .nil)) E ⟨ev2,(Bs E E)⟩ (aC E (JS.seq (JS.region (aB aA 7 [] [] [(16,.v (.bool (decide (((at' a b).length:Int)=0)))),(18,.cd [(16,false)] (.v (sL e (at' a b) f)))] _ E ⟨(Es E),E⟩ ?_))))))
   obtain ⟨n,o,-,h⟩:=bB h
   refine bR E E E E (fun p=>nM (at' a b) e f _ (o p)) E [1] E E (aB aA 2 [] [] [(21,.v (.bool (bif (decide (((at' a b).length:Int)=0)) then true else (!n))))] _ E ev1 (aC E ?_))
   refine aJ E h (fun h=>?_) (fun h=>?_)
   ·
    refine aE aA 1 [(2,.v (.bool false))] ev1 E E ?_
    cases h
    exact JS.ret aA () V E E [] E
   refine JS.skip (aV (cS aA 2 [(W (b+1))] [] [(8,.v (I (W (b+1))))] _ ev4 E E (bZ (i,(W (b+1))) h (Nat.lt_succ_self _) (Es E) (Bs E E) [2] E [] E)))
  refine JS.exit E (aO () h ev2 (Bs E E) [0] E [] E)
 rintro _ h
 subst k
 refine aE aA 5 [(2,.v (.bool (decide ((a.length:Int)≤6))))] ev1 E E ?_
 cases h
 exact JS.ret aA () V E E [] E

def nB (b:List (List Int×Int)) (c:Unit→Option Bool) (d:Int→Option Bool):Int→Option Bool:=fun a=>(bif decide (a<(b.length:Int)) then (aN (0≤a∧a<(b.length:Int)) <|(aF (eJ ((at' b a).1,(at' b a).2)) fun e=>(bif (!e) then some false else d (W (a+1))))) else c ())

def nY (a:List (List Int×Int)):Option Bool:= (aT (fun (_:Unit)=> some (decide ((a.length:Int)≤20))) fun b=>(aZ (nB a b) bO 0))

theorem wL (a:List (List Int×Int)) (c:Option Addr) (d:Nat) (r:Bool) (h:nY a=some r):
 FC Tryz.prog 102 [.agg #[sL c a d]] [⟨(.pair (.sl iT) iT),⟨c,a.length,d⟩,a⟩] (fun _:Unit=>True) (fun _=>.bool r) (fun _=>[]):= by
 refine FC.of (T:=TTx) Tryz.call102 Tryz.func102 E E fun p=>?_
 unfold nY at h
 refine aS aA 2 [] [2] [(1,.bp 2 0)] (.new 2 44 [sL c a d] .nil) ⟨ev2,(Bs E E)⟩ E E (JS.seq (aE aA 4 [(6,.v (sL c a d)),(7,.v (I (a.length:Int))),(8,.v (I 0))] ⟨(Es E),E⟩ E E ?_))
 obtain ⟨g,k,h⟩:=aM h
 refine bA (ι:=Unit) ⟨fun _=>g ()=some r,fun _=>[(1,.bp 2 0)],fun _=>(.new 2 44 [sL c a d] .nil),fun _=>[⟨(.pair (.sl iT) iT),⟨c,a.length,d⟩,a⟩],fun _=>[],fun _=>0⟩ ?_ ?_
 ·
  refine JS.loop (ι:=Nat×Int) ⟨fun z=>aZ (nB a g) z.1 z.2=some r,fun z=>[(1,.bp 2 0),(6,.v (sL c a d)),(7,.v (I (a.length:Int))),(8,.v (I z.2))],fun z=>(.new 2 44 [sL c a d] .nil),fun z=>[⟨(.pair (.sl iT) iT),⟨c,a.length,d⟩,a⟩],fun z=>[],fun z=>z.1⟩ (bO,0) h (Es E) (Bs E E) [0] E [] E ?_
  rintro ⟨i,b⟩ h
  obtain ⟨i,rfl,h⟩:=bK h
  rw [nB] at h
  refine aE aA 1 [(9,.v (.bool (decide (b<(a.length:Int)))))] ev1 E E (JS.seq ?_)
  refine aJ E h (fun h=>?_) (fun h=>?_)
  ·
   refine JS.skip (JS.seq (JS.block (JS.seq (JS.region (cC 0 E fun l=>?_)))))
   obtain ⟨j,h⟩:=aH h
   refine aB aA 1 [] [] [(10,.ep ⟨c,a.length,d⟩ (Int.toNat b*2))] _ E ⟨l.ix j,ev2,E⟩ (nH 0 E (Int.toNat b) (at' a b) E fun e f q s m=>dI aA E E E E E E 0 E E (Int.toNat b) 0 ((Sl.v ⟨e,((at' a b).1).length,f⟩),(at' a b).2) ⟨m (tY j),E⟩ E E E (aL aA 2 [] [16] [(4,.bp 16 0)] (.new 2 44 [sL c a d] (.new 16 38 [sL e ((at' a b).1) f,I (at' a b).2] .nil)) E ⟨ev2,(Bs E E)⟩ (aC E (JS.seq (JS.region (aB aA 1 [] [] [(12,.v (.agg #[sL e ((at' a b).1) f,I (at' a b).2]))] _ E ev1 ?_))))))
   refine bnw h fun n o h=>JO.call E E E E (gE ((at' a b).1,(at' a b).2) e f _ o) E [1] E E fun _ _=>aB aA 1 [] [] [(14,.v (.bool (!n)))] _ E ev1 (aC E ?_)
   refine aJ E h (fun h=>?_) (fun h=>?_)
   ·
    refine aE aA 1 [(2,.v (.bool false))] ev1 E E ?_
    cases h
    exact JS.ret aA () V E E [] E
   refine JS.skip (aV (cS aA 2 [(W (b+1))] [] [(8,.v (I (W (b+1))))] _ ev4 E E (bZ (i,(W (b+1))) h (Nat.lt_succ_self _) (Es E) (Bs E E) [2] E [] E)))
  refine JS.exit E (aO () h ev2 (Bs E E) [0] E [] E)
 rintro _ h
 subst k
 refine aE aA 5 [(2,.v (.bool (decide ((a.length:Int)≤20))))] ev1 E E ?_
 cases h
 exact JS.ret aA () V E E [] E

def kP (a:List Int×Int):Option Bool:= some (bif decide ((a.1.length:Int)=0) then (decide (a.2=0)) else false)

theorem wI (a:List Int×Int) (b:Option Addr) (c:Nat) (r:Bool) (h:kP a=some r):
 FC Tryz.prog 103 [.agg #[sL b a.1 c,I a.2]] [fI b c a.1] (fun _:Unit=>True) (fun _=>.bool r) (fun _=>[]):= by
 refine FC.of (T:=TTx) Tryz.call103 Tryz.func103 E E fun d=>?_
 unfold kP at h
 refine aS aA 2 [] [2] [(1,.bp 2 0)] (.new 2 38 [sL b a.1 c,I a.2] .nil) ⟨ev2,(Bs E E)⟩ E E (aE aA 10 [(2,.v (.bool (bif (decide ((a.1.length:Int)=0)) then (decide (a.2=0)) else false)))] ev1 E E ?_)
 cases h
 exact JS.ret aA () V E E [] E

def qY (b:EdQ) (c:Unit→Option Bool) (d:Int→Option Bool):Int→Option Bool:=fun a=>(bif decide (a<(b.2.2.2.2.2.2.2.2.2.2.2.2.2.2.1.length:Int)) then (aN (0≤a∧a<(b.2.2.2.2.2.2.2.2.2.2.2.2.2.2.1.length:Int)) <|(aF (eF (at' b.2.2.2.2.2.2.2.2.2.2.2.2.2.2.1 a)) fun e=>(bif (!e) then some false else d (W (a+1))))) else c ())

def lS (a:EdQ):Option Bool:= (aF (eJ a.2.2.1) fun b=>(cA ((!b)=false) (eJ a.2.2.2.2.2.2.2.2.2.2.2.2.2.1) false fun c=>(cA ((bif (!b) then true else (!c))=false) (eJ a.2.2.2.2.2.2.2.2.2.2.2.2.2.2.2.2) false fun e=>(cA ((bif (bif (!b) then true else (!c)) then true else (!e))=false) (dH a.2.2.2.1 0 999) false fun g=>(cA ((bif (bif (bif (!b) then true else (!c)) then true else (!e)) then true else (!g))=false) (dH a.2.2.2.2.2.1 0 999) false fun i=>(cA ((bif (bif (bif (bif (!b) then true else (!c)) then true else (!e)) then true else (!g)) then true else (!i))=false) (sR a) false fun l=>(bif (bif (bif (bif (bif (bif (!b) then true else (!c)) then true else (!e)) then true else (!g)) then true else (!i)) then true else (!l)) then some false else (cA ((!(decide (a.2.2.2.2.2.2.2.1=0)))=true∧(bif decide (a.2.2.2.2.2.2.2.1=0) then (!(decide (a.2.2.2.2.2.2.2.2.1=0))) else false)=false) (eF a.2.2.2.2.2.2.2.1) false fun j=>(cA ((!j)=false∧(!(decide (a.2.2.2.2.2.2.2.1=0)))=true∧(bif decide (a.2.2.2.2.2.2.2.1=0) then (!(decide (a.2.2.2.2.2.2.2.2.1=0))) else false)=false) (dH a.2.2.2.2.2.2.2.2.1 0 3) false fun m=>(bif (bif (bif decide (a.2.2.2.2.2.2.2.1=0) then (!(decide (a.2.2.2.2.2.2.2.2.1=0))) else false) then true else (bif (!(decide (a.2.2.2.2.2.2.2.1=0))) then (bif (!j) then true else (!m)) else false)) then some false else (aF (dH a.2.2.2.2.2.2.2.2.2.1 0 3) fun d=>(cA ((!d)=false) (lP a.2.2.2.2.2.2.2.2.2.2.1) false fun f=>(cA ((bif (!d) then true else (!f))=false) (nY a.2.2.2.2.2.2.2.2.2.2.2.1) false fun h=>(cA ((bif (bif (!d) then true else (!f)) then true else (!h))=false) (dH a.2.2.2.2.2.2.2.2.2.2.2.2.1 0 1000000060) false fun k=>(cA ((bif (bif (bif (!d) then true else (!f)) then true else (!h)) then true else (!k))=false) (dH a.2.2.2.2.2.2.2.2.2.2.2.2.2.2.2.1 0 1000000060) false fun n=>(bif (bif (bif (bif (bif (!d) then true else (!f)) then true else (!h)) then true else (!k)) then true else (!n)) then some false else (cA ((decide (a.2.2.2.2.2.2.2.2.2.2.2.2.1=0))=true) (kP a.2.2.2.2.2.2.2.2.2.2.2.2.2.1) false fun o=>(bif (bif (bif decide (a.2.2.2.2.2.2.2.2.2.2.2.2.1=0) then (!o) else false) then true else (decide (40<(a.2.2.2.2.2.2.2.2.2.2.2.2.2.2.1.length:Int)))) then some false else (aT (fun (_:Unit)=>(cA ((bif decide ((a.2.2.2.2.2.2.2.2.2.2.2.2.2.2.1.length:Int)=0) then (decide (a.2.2.2.2.2.2.2.2.2.2.2.2.2.2.2.1=0)) else false)=true∧(decide (a.2.1=3))=false) (kP a.2.2.2.2.2.2.2.2.2.2.2.2.2.2.2.2) false fun p=> some (bif decide (a.2.1=3) then true else (bif (bif decide ((a.2.2.2.2.2.2.2.2.2.2.2.2.2.2.1.length:Int)=0) then (decide (a.2.2.2.2.2.2.2.2.2.2.2.2.2.2.2.1=0)) else false) then p else false)))) fun q=>(aZ (qY a q) bO 0))))))))))))))))))))

theorem tX (a:EdQ) (b:P6) (r:Bool) (h:lS a=some r):
 FC Tryz.prog 34 [.agg (aG a b).toArray] (cH a b []) (fun _:Unit=>True) (fun _=>.bool r) (fun _=>[]):= by
 refine FC.of (T:=TTx) Tryz.call34 Tryz.func34 E E fun w0=>?_
 unfold lS at h
 refine aS aA 2 [] [7] [(1,.bp 7 0)] (.new 7 46 (aG a b) .nil) ⟨ev2,(Bs E E)⟩ E E (JS.seq (JS.seq (JS.region (aB aA 2 [] [] [(6,.v (.agg #[sL b.1 a.2.2.1.1 b.2.1,I a.2.2.1.2]))] _ E ev1 ?_))))
 refine bnw h fun d s h=>JO.call E E E E (gE a.2.2.1 b.1 b.2.1 _ s) E [0] E E fun _ _=>aB aA 4 [] [] [(9,.v (.bool (!d))),(11,.cd [(9,false)] (.v (.agg #[sL (Q4 b).2.2.1 (Q12 a).2.1.1 (Q4 b).2.2.2.1,I (Q12 a).2.1.2])))] _ E ⟨(Es E),E⟩ ?_
 obtain ⟨e,t,-,h⟩:=bB h
 refine bR E E E E (fun u=>gE (Q12 a).2.1 (Q4 b).2.2.1 (Q4 b).2.2.2.1 _ (t u)) E [3] E E (aB aA 5 [] [] [(15,.v (.bool (bif (!d) then true else (!e)))),(17,.cd [(15,false)] (.v (.agg #[sL (Q8 b).2.2.1 (Q16 a).1 (Q8 b).2.2.2,I (Q16 a).2])))] _ E ⟨(Es E),E⟩ ?_)
 obtain ⟨g,w,-,h⟩:=bB h
 refine bR E E E E (fun x=>gE (Q16 a) (Q8 b).2.2.1 (Q8 b).2.2.2 _ (w x)) E [5] E E (aB aA 5 [] [] [(21,.v (.bool (bif (bif (!d) then true else (!e)) then true else (!g)))),(23,.cd [(21,false)] (.v (I a.2.2.2.1)))] _ E ⟨(Es E),E⟩ ?_)
 obtain ⟨j,y,-,h⟩:=bB h
 refine bR E E E E (fun A=>eG a.2.2.2.1 0 999 _ (y A)) E [] E E (aB aA 5 [] [] [(27,.v (.bool (bif (bif (bif (!d) then true else (!e)) then true else (!g)) then true else (!j)))),(29,.cd [(27,false)] (.v (I (Q4 a).2.1)))] _ E ⟨(Es E),E⟩ ?_)
 obtain ⟨l,B,-,h⟩:=bB h
 refine bR E E E E (fun C=>eG (Q4 a).2.1 0 999 _ (B C)) E [] E E (aB aA 4 [] [] [(33,.v (.bool (bif (bif (bif (bif (!d) then true else (!e)) then true else (!g)) then true else (!j)) then true else (!l)))),(34,.cd [(33,false)] (.v (.agg (aG a b).toArray)))] _ E ⟨(Es E),E⟩ ?_)
 obtain ⟨D,F,-,h⟩:=bB h
 refine bR E E E E (fun G=>aId a b _ (F G)) E [0,1,2,3,4,5] E E (aB aA 2 [] [] [(37,.v (.bool (bif (bif (bif (bif (bif (!d) then true else (!e)) then true else (!g)) then true else (!j)) then true else (!l)) then true else (!D))))] _ E ev1 (aC E ?_))
 refine aJ E h (fun h=>?_) (fun h=>?_)
 ·
  refine aE aA 1 [(2,.v (.bool false))] ev1 E E ?_
  cases h
  exact JS.ret aA () V E E [] E
 refine JS.skip (JS.seq (JS.seq (JS.region (aB aA 15 [] [] [(46,.v (.bool (bif (decide ((Q4 a).2.2.2.1=0)) then (!(decide ((Q8 a).1=0))) else false))),(50,.cd [(46,false)] (.v (.bool (!(decide ((Q4 a).2.2.2.1=0)))))),(52,.cd [(50,true),(46,false)] (.v (I (Q4 a).2.2.2.1)))] _ E ⟨(Es E),E⟩ ?_))))
 obtain ⟨m,H,-,h⟩:=bB h
 refine bR E E E E (fun J K=>iW (Q4 a).2.2.2.1 _ (H ⟨J,K⟩)) E [] E E (aB aA 4 [] [] [(55,.cd [(50,true),(46,false)] (.v (.bool (!m)))),(57,.cd [(55,false),(50,true),(46,false)] (.v (I (Q8 a).1)))] _ E ⟨(Es E),E⟩ ?_)
 obtain ⟨L,M,-,h⟩:=bB h
 refine bR E E E E (fun N O P=>eG (Q8 a).1 0 3 _ (M ⟨N,O,P⟩)) E [] E E (aB aA 4 [] [] [(62,.v (.bool (bif (bif (decide ((Q4 a).2.2.2.1=0)) then (!(decide ((Q8 a).1=0))) else false) then true else (bif (!(decide ((Q4 a).2.2.2.1=0))) then (bif (!m) then true else (!L)) else false))))] _ E ev1 (aC E ?_))
 refine aJ E h (fun h=>?_) (fun h=>?_)
 ·
  refine aE aA 1 [(2,.v (.bool false))] ev1 E E ?_
  cases h
  exact JS.ret aA () V E E [] E
 refine JS.skip (JS.seq (JS.seq (JS.region (aB aA 2 [] [] [(64,.v (I (Q8 a).2.1))] _ E ev1 ?_))))
 refine bnw h fun f Q h=>JO.call E E E E (eG (Q8 a).2.1 0 3 _ Q) E [] E E fun _ _=>aB aA 4 [] [] [(67,.v (.bool (!f))),(69,.cd [(67,false)] (.v (.agg #[sL b.2.2.1 (Q8 a).2.2.1 b.2.2.2.1])))] _ E ⟨(Es E),E⟩ ?_
 obtain ⟨i,R,-,h⟩:=bB h
 refine bR E E E E (fun S=>sW (Q8 a).2.2.1 b.2.2.1 b.2.2.2.1 _ (R S)) E [1] E E (aB aA 5 [] [] [(73,.v (.bool (bif (!f) then true else (!i)))),(75,.cd [(73,false)] (.v (.agg #[sL (Q4 b).1 (Q8 a).2.2.2.1 (Q4 b).2.1])))] _ E ⟨(Es E),E⟩ ?_)
 obtain ⟨k,U,-,h⟩:=bB h
 refine bR E E E E (fun X=>wL (Q8 a).2.2.2.1 (Q4 b).1 (Q4 b).2.1 _ (U X)) E [2] E E (aB aA 5 [] [] [(79,.v (.bool (bif (bif (!f) then true else (!i)) then true else (!k)))),(81,.cd [(79,false)] (.v (I (Q12 a).1)))] _ E ⟨(Es E),E⟩ ?_)
 obtain ⟨n,Y,-,h⟩:=bB h
 refine bR E E E E (fun Z=>eG (Q12 a).1 0 1000000060 _ (Y Z)) E [] E E (aB aA 5 [] [] [(85,.v (.bool (bif (bif (bif (!f) then true else (!i)) then true else (!k)) then true else (!n)))),(87,.cd [(85,false)] (.v (I (Q12 a).2.2.2.1)))] _ E ⟨(Es E),E⟩ ?_)
 obtain ⟨a0,a1,-,h⟩:=bB h
 refine bR E E E E (fun a2=>eG (Q12 a).2.2.2.1 0 1000000060 _ (a1 a2)) E [] E E (aB aA 2 [] [] [(90,.v (.bool (bif (bif (bif (bif (!f) then true else (!i)) then true else (!k)) then true else (!n)) then true else (!a0))))] _ E ev1 (aC E ?_))
 refine aJ E h (fun h=>?_) (fun h=>?_)
 ·
  refine aE aA 1 [(2,.v (.bool false))] ev1 E E ?_
  cases h
  exact JS.ret aA () V E E [] E
 refine JS.skip (JS.seq (JS.seq (JS.region (aB aA 6 [] [] [(94,.v (.bool (decide ((Q12 a).1=0)))),(96,.cd [(94,true)] (.v (.agg #[sL (Q4 b).2.2.1 (Q12 a).2.1.1 (Q4 b).2.2.2.1,I (Q12 a).2.1.2])))] _ E ⟨(Es E),E⟩ ?_))))
 obtain ⟨a3,a4,-,h⟩:=bB h
 refine bR E E E E (fun a5=>wI (Q12 a).2.1 (Q4 b).2.2.1 (Q4 b).2.2.2.1 _ (a4 a5)) E [3] E E (aB aA 8 [] [] [(105,.v (.bool (bif (bif (decide ((Q12 a).1=0)) then (!a3) else false) then true else (decide (40<((Q12 a).2.2.1.length:Int))))))] _ E ev1 (aC E ?_))
 refine aJ E h (fun h=>?_) (fun h=>?_)
 ·
  refine aE aA 1 [(2,.v (.bool false))] ev1 E E ?_
  cases h
  exact JS.ret aA () V E E [] E
 refine JS.skip (JS.seq (aE aA 4 [(107,.v (sL (Q8 b).1 (Q12 a).2.2.1 (Q8 b).2.1)),(108,.v (I ((Q12 a).2.2.1.length:Int))),(109,.v (I 0))] ⟨(Es E),E⟩ E E ?_))
 obtain ⟨o,a6,h⟩:=aM h
 refine bA (ι:=Unit) ⟨fun _=>o ()=some r,fun _=>[(1,.bp 7 0)],fun _=>(.new 7 46 (aG a b) .nil),fun _=>(cH a b []),fun _=>[],fun _=>0⟩ ?_ ?_
 ·
  refine JS.loop (ι:=Nat×Int) ⟨fun z=>aZ (qY a o) z.1 z.2=some r,fun z=>[(1,.bp 7 0),(107,.v (sL (Q8 b).1 (Q12 a).2.2.1 (Q8 b).2.1)),(108,.v (I ((Q12 a).2.2.1.length:Int))),(109,.v (I z.2))],fun z=>(.new 7 46 (aG a b) .nil),fun z=>[fI (Q8 b).1 (Q8 b).2.1 (Q12 a).2.2.1,fI b.1 b.2.1 a.2.2.1.1,⟨(.sl iT),⟨b.2.2.1,(Q8 a).2.2.1.length,b.2.2.2.1⟩,(Q8 a).2.2.1⟩,⟨(.pair (.sl iT) iT),⟨(Q4 b).1,(Q8 a).2.2.2.1.length,(Q4 b).2.1⟩,(Q8 a).2.2.2.1⟩,fI (Q4 b).2.2.1 (Q4 b).2.2.2.1 (Q12 a).2.1.1,fI (Q8 b).2.2.1 (Q8 b).2.2.2 (Q16 a).1],fun z=>[],fun z=>z.1⟩ (bO,0) h (Es E) (Bs E E) [4,0,1,2,3,5] E [] E ?_
  rintro ⟨p,c⟩ h
  obtain ⟨p,rfl,h⟩:=bK h
  rw [qY] at h
  refine aE aA 1 [(110,.v (.bool (decide (c<((Q12 a).2.2.1.length:Int)))))] ev1 E E (JS.seq ?_)
  refine aJ E h (fun h=>?_) (fun h=>?_)
  ·
   refine JS.skip (JS.seq (JS.block (JS.seq (JS.region (cC 0 E fun a7=>?_)))))
   obtain ⟨q,h⟩:=aH h
   refine aB aA 1 [] [] [(111,.ep ⟨(Q8 b).1,(Q12 a).2.2.1.length,(Q8 b).2.1⟩ (Int.toNat c*1))] _ E ⟨a7.ix q,ev2,E⟩ (JO.load aA E E E E E E E 0 E E (Int.toNat c) 0 (at' (Q12 a).2.2.1 c) ⟨bH q,E⟩ E E (aB aA 1 [] [] [(4,.v (I (at' (Q12 a).2.2.1 c)))] _ E ev1 (aC E (JS.seq (JS.region (aB aA 1 [] [] [(113,.v (I (at' (Q12 a).2.2.1 c)))] _ E ev1 ?_))))))
   refine bnw h fun a8 a9 h=>JO.call E E E E (iW (at' (Q12 a).2.2.1 c) _ a9) E [] E E fun _ _=>aB aA 1 [] [] [(115,.v (.bool (!a8)))] _ E ev1 (aC E ?_)
   refine aJ E h (fun h=>?_) (fun h=>?_)
   ·
    refine aE aA 1 [(2,.v (.bool false))] ev1 E E ?_
    cases h
    exact JS.ret aA () V E E [] E
   refine JS.skip (aV (cS aA 2 [(W (c+1))] [] [(109,.v (I (W (c+1))))] _ ev4 E E (bZ (p,(W (c+1))) h (Nat.lt_succ_self _) (Es E) (Bs E E) [0,1,2,3,4,5] E [] E)))
  refine JS.exit E (aO () h ev2 (Bs E E) [1,2,3,4,0,5] E [] E)
 rintro _ h
 subst a6
 refine JS.seq (JS.region (aB aA 16 [] [] [(120,.v (.bool (decide (a.2.1=3)))),(130,.cd [(120,false)] (.v (.bool (bif (decide (((Q12 a).2.2.1.length:Int)=0)) then (decide ((Q12 a).2.2.2.1=0)) else false)))),(132,.cd [(130,true),(120,false)] (.v (.agg #[sL (Q8 b).2.2.1 (Q16 a).1 (Q8 b).2.2.2,I (Q16 a).2])))] _ E ⟨(Es E),E⟩ ?_))
 obtain ⟨b0,b1,-,h⟩:=bB h
 refine bR E E E E (fun b2 b3=>wI (Q16 a) (Q8 b).2.2.1 (Q8 b).2.2.2 _ (b1 ⟨b2,b3⟩)) E [5] E E (aB aA 3 [] [] [(2,.v (.bool (bif (decide (a.2.1=3)) then true else (bif (bif (decide (((Q12 a).2.2.1.length:Int)=0)) then (decide ((Q12 a).2.2.2.1=0)) else false) then b0 else false))))] _ E ev1 (aC E ?_))
 cases h
 exact JS.ret aA () V E E [] E

def nF (b:Int×List (List UInt8)) (c:Unit→Option Bool) (d:Int→Option Bool):Int→Option Bool:=fun a=>(bif decide (a<(b.2.length:Int)) then (aN (0≤a∧a<(b.2.length:Int)) <|(aF (dH ((at' b.2 a).length:Int) 1 1000) fun e=>(bif (!e) then some false else d (W (a+1))))) else c ())

def lQ (a:Int×List (List UInt8)):Option Bool:= (aF (dH a.1 1 1000000000) fun b=>(bif (bif (!b) then true else (decide (60<(a.2.length:Int)))) then some false else (aT (fun (_:Unit)=> some true) fun c=>(aZ (nF a c) bO 0))))

theorem sX (a:Int×List (List UInt8)) (c:Option Addr) (d:Nat) (r:Bool) (h:lQ a=some r):
 FC Tryz.prog 96 [.agg #[I a.1,sL c a.2 d]] [⟨.str,⟨c,a.2.length,d⟩,a.2⟩] (fun _:Unit=>True) (fun _=>.bool r) (fun _=>[]):= by
 refine FC.of (T:=TTx) Tryz.call96 Tryz.func96 E E fun o=>?_
 unfold lQ at h
 refine aS aA 2 [] [2] [(1,.bp 2 0)] (.new 2 50 [I a.1,sL c a.2 d] .nil) ⟨ev2,(Bs E E)⟩ E E (JS.seq (JS.seq (JS.region (aB aA 2 [] [] [(6,.v (I a.1))] _ E ev1 ?_))))
 refine bnw h fun i j h=>JO.call E E E E (eG a.1 1 1000000000 _ j) E [] E E fun _ _=>aB aA 7 [] [] [(14,.v (.bool (bif (!i) then true else (decide (60<(a.2.length:Int))))))] _ E ev1 (aC E ?_)
 refine aJ E h (fun h=>?_) (fun h=>?_)
 ·
  refine aE aA 1 [(2,.v (.bool false))] ev1 E E ?_
  cases h
  exact JS.ret aA () V E E [] E
 refine JS.skip (JS.seq (aE aA 4 [(16,.v (sL c a.2 d)),(17,.v (I (a.2.length:Int))),(18,.v (I 0))] ⟨(Es E),E⟩ E E ?_))
 obtain ⟨e,k,h⟩:=aM h
 refine bA (ι:=Unit) ⟨fun _=>e ()=some r,fun _=>[],fun _=>.nil,fun _=>[],fun _=>[],fun _=>0⟩ ?_ ?_
 ·
  refine JS.loop (ι:=Nat×Int) ⟨fun z=>aZ (nF a e) z.1 z.2=some r,fun z=>[(16,.v (sL c a.2 d)),(17,.v (I (a.2.length:Int))),(18,.v (I z.2))],fun z=>.nil,fun z=>[⟨.str,⟨c,a.2.length,d⟩,a.2⟩],fun z=>[],fun z=>z.1⟩ (bO,0) h (Es E) V [0] E [] E ?_
  rintro ⟨f,b⟩ h
  obtain ⟨f,rfl,h⟩:=bK h
  rw [nF] at h
  refine aE aA 1 [(19,.v (.bool (decide (b<(a.2.length:Int)))))] ev1 E E (JS.seq ?_)
  refine aJ E h (fun h=>?_) (fun h=>?_)
  ·
   refine JS.skip (JS.seq (JS.block (JS.seq (JS.region (cC 0 E fun l=>?_)))))
   obtain ⟨g,h⟩:=aH h
   refine aB aA 1 [] [] [(20,.ep ⟨c,a.2.length,d⟩ (Int.toNat b*1))] _ E ⟨l.ix g,ev2,E⟩ (JO.load aA E E E E E E E 0 E E (Int.toNat b) 0 (at' a.2 b) ⟨bH g,E⟩ E E (aB aA 1 [] [] [(4,.v (.string (bs (at' a.2 b))))] _ E ev1 (aC E (JS.seq (JS.region (aB aA 2 [] [] [(23,.v (I ((at' a.2 b).length:Int)))] _ E ev1 ?_))))))
   refine bnw h fun m n h=>JO.call E E E E (eG ((at' a.2 b).length:Int) 1 1000 _ n) E [] E E fun _ _=>aB aA 1 [] [] [(25,.v (.bool (!m)))] _ E ev1 (aC E ?_)
   refine aJ E h (fun h=>?_) (fun h=>?_)
   ·
    refine aE aA 1 [(2,.v (.bool false))] ev1 E E ?_
    cases h
    exact JS.ret aA () V E E [] E
   refine JS.skip (aV (cS aA 2 [(W (b+1))] [] [(18,.v (I (W (b+1))))] _ ev4 E E (bZ (f,(W (b+1))) h (Nat.lt_succ_self _) (Es E) V [0] E [] E)))
  refine JS.exit E (aO () h V V [] E [] E)
 rintro _ h
 subst k
 refine aE aA 1 [(2,.v (.bool true))] ev1 E E ?_
 cases h
 exact JS.ret aA () V E E [] E

def eN (a:Int):Option Bool:= (aF (dH a 97 122) fun b=> some b)

theorem oN (a:Int) (r:Bool) (h:eN a=some r) :
 FC Tryz.prog 178 [I a] [] (fun _:Unit=>True) (fun _=>.bool r) (fun _=>[]):= by
 refine FC.of (T:=TTx) Tryz.call178 Tryz.func178 E E fun d=>?_
 unfold eN at h
 refine aE aA 1 [] ev5 E E (JS.seq (JS.region (aB aA 1 [] [] [(3,.v (I a))] _ E ev1 ?_)))
 refine bnw h fun b c h=>JO.call E E E E (eG a 97 122 _ c) E [] E E fun _ _=>aB aA 1 [] [] [(2,.v (.bool b))] _ E ev1 (aC E ?_)
 cases h
 exact JS.ret aA () V E E [] E

def uP (a:Int×Int):Option Bool:= (bif decide (a.1=1) then (aF (eF a.2) fun b=> some b) else (bif decide (a.1=2) then (cA ((decide (a.2=95))=false) (eN a.2) false fun c=> some (bif decide (a.2=95) then true else (bif (bif (bif (bif c then (!(decide (a.2=104))) else false) then (!(decide (a.2=105))) else false) then (!(decide (a.2=106))) else false) then (!(decide (a.2=109))) else false))) else (bif decide (a.1=3) then (aF (dH a.2 33 126) fun d=> some d) else (aF (dH a.1 4 16) fun e=> some (bif e then (decide (a.2=0)) else false)))))

theorem aKy (a:Int×Int) (r:Bool) (h:uP a=some r) :
 FC Tryz.prog 97 [.agg #[I a.1,I a.2]] [] (fun _:Unit=>True) (fun _=>.bool r) (fun _=>[]):= by
 refine FC.of (T:=TTx) Tryz.call97 Tryz.func97 E E fun l=>?_
 unfold uP at h
 refine aS aA 2 [] [1] [(1,.bp 1 0)] (.new 1 64 [I a.1,I a.2] .nil) ⟨ev2,(Bs E E)⟩ E E (JS.seq (aE aA 2 [(4,.v (I a.1))] ev1 E E (JS.block (aE aA 2 [(5,.v (.bool (decide (a.1=1))))] ev1 E E ?_))))
 refine aJ E h (fun h=>?_) (fun h=>?_)
 ·
  refine JS.seq (JS.region (aB aA 2 [] [] [(8,.v (I a.2))] _ E ev1 ?_))
  refine bnw h fun b c h=>JO.call E E E E (iW a.2 _ c) E [] E E fun _ _=>aB aA 1 [] [] [(2,.v (.bool b))] _ E ev1 (aC E ?_)
  cases h
  exact JS.ret aA () V E E [] E
 refine aE aA 2 [(10,.v (.bool (decide (a.1=2))))] ev1 E E ?_
 refine aJ E h (fun h=>?_) (fun h=>?_)
 ·
  refine JS.seq (JS.region (aB aA 6 [] [] [(15,.v (.bool (decide (a.2=95)))),(17,.cd [(15,false)] (.v (I a.2)))] _ E ⟨(Es E),E⟩ ?_))
  obtain ⟨d,e,-,h⟩:=bB h
  refine bR E E E E (fun f=>oN a.2 _ (e f)) E [] E E (aB aA 22 [] [] [(2,.v (.bool (bif (decide (a.2=95)) then true else (bif (bif (bif (bif d then (!(decide (a.2=104))) else false) then (!(decide (a.2=105))) else false) then (!(decide (a.2=106))) else false) then (!(decide (a.2=109))) else false))))] _ E ev1 (aC E ?_))
  cases h
  exact JS.ret aA () V E E [] E
 refine aE aA 2 [(40,.v (.bool (decide (a.1=3))))] ev1 E E ?_
 refine aJ E h (fun h=>?_) (fun h=>?_)
 ·
  refine JS.seq (JS.region (aB aA 2 [] [] [(43,.v (I a.2))] _ E ev1 ?_))
  refine bnw h fun g i h=>JO.call E E E E (eG a.2 33 126 _ i) E [] E E fun _ _=>aB aA 1 [] [] [(2,.v (.bool g))] _ E ev1 (aC E ?_)
  cases h
  exact JS.ret aA () V E E [] E
 refine JS.skip (aV (JS.seq (JS.region (aB aA 2 [] [] [(46,.v (I a.1))] _ E ev1 ?_))))
 refine bnw h fun j k h=>JO.call E E E E (eG a.1 4 16 _ k) E [] E E fun _ _=>aB aA 6 [] [] [(2,.v (.bool (bif j then (decide (a.2=0)) else false)))] _ E ev1 (aC E ?_)
 cases h
 exact JS.ret aA () V E E [] E

def nW (c:EdQ) (d:Int×List (List UInt8)) (e:Int×Int):Option Bool:= (aF (lS c) fun a=>(cA (a=true) (lQ d) false fun b=>(cA ((bif a then b else false)=true) (uP e) false fun f=> some (bif (bif a then b else false) then f else false))))

theorem wJ (c:EdQ) (a:Int×List (List UInt8)) (b:Int×Int) (d:P6) (e:Option Addr) (f:Nat) (r:Bool) (h:nW c a b=some r):
 FC Tryz.prog 84 [.agg (aG c d).toArray,.agg #[I a.1,sL e a.2 f],.agg #[I b.1,I b.2]] (cH c d [⟨.str,⟨e,a.2.length,f⟩,a.2⟩]) (fun _:Unit=>True) (fun _=>.bool r) (fun _=>[]):= by
 refine FC.of (T:=TTx) Tryz.call84 Tryz.func84 E E fun p=>?_
 unfold nW at h
 refine aS aA 4 [] [8,9,10] [(3,.bp 8 0),(4,.bp 9 0),(5,.bp 10 0)] (.new 8 46 (aG c d) (.new 9 50 [I a.1,sL e a.2 f] (.new 10 64 [I b.1,I b.2] .nil))) ⟨(Es E),(Bs E E)⟩ E E (JS.seq (JS.region (aB aA 1 [] [] [(7,.v (.agg (aG c d).toArray))] _ E ev1 ?_)))
 refine bnw h fun g j h=>JO.call E E E E (tX c d _ j) E [0,1,2,3,4,5] E E fun _ _=>aB aA 2 [] [] [(9,.v (.bool g)),(10,.cd [(9,true)] (.v (.agg #[I a.1,sL e a.2 f])))] _ E ⟨(Es E),E⟩ ?_
 obtain ⟨i,k,-,h⟩:=bB h
 refine bR E E E E (fun l=>sX a e f _ (k l)) E [6] E E (aB aA 3 [] [] [(13,.v (.bool (bif g then i else false))),(14,.cd [(13,true)] (.v (.agg #[I b.1,I b.2])))] _ E ⟨(Es E),E⟩ ?_)
 obtain ⟨m,n,-,h⟩:=bB h
 refine bR E E E E (fun o=>aKy b _ (n o)) E [] E E (aB aA 2 [] [] [(6,.v (.bool (bif (bif g then i else false) then m else false)))] _ E ev1 (aC E ?_))
 cases h
 exact JS.ret aA () V E E [] E

def cL (a:List Int):Option (List Int):= (aN (([]:List Int).length+a.length≤536870912) <|some (([]:List Int) ++ a))

theorem dC (a:List Int) (b:Option Addr) (c:Nat) (r:List Int) (h:cL a=some r):
 FC Tryz.prog 65 [sL b a c] [fI b c a] (fun _:Option Addr×Nat=>True) (fun q=>sL q.1 r q.2) (fun q=>[fI q.1 q.2 r]):= by
 refine FC.of (T:=TTx) Tryz.call65 Tryz.func65 E E fun g=>?_
 unfold cL at h
 refine aE aA 1 [] ev5 E E (JS.seq (JS.region (aB aA 1 [] [] [(3,.v (sL b a c))] _ E ev1 ?_)))
 obtain ⟨f,h⟩:=aH h
 refine aMp iT Sl.nil E E (jK aA E E E E ⟨E,E,E,E,V,E,E,E,E⟩ E E E [0] E 0 E f E fun d e=>aB aA 1 [] [] [(2,.v (sL d (([]:List Int) ++ a) e))] _ E ev1 (aC E ?_))
 cases h
 exact JS.ret aA (d,e) V E E [0] E

end
end Go.Eng
