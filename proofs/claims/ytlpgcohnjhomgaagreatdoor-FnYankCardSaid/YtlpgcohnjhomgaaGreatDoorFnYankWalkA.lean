/- The walks of the functions that FnYank reaches: what each computes, as a plain function (M_..), and that the model computes it (ok_..). Condition of each: that the plain function answers. -/
import Derived.Test.YtlpgcohnjhomgaaGreatDoorEngB
import Derived.Test.YtlpgcohnjhomgaaGreatDoorChecked
import Derived.Lib.Strings
import Derived.Lib.Slices
import Derived.Lib.Walk
import Derived.Lib.Bytealg
set_option linter.unusedVariables false
set_option linter.unusedSimpArgs false
namespace Go.Proofs

set_option maxHeartbeats 1000000 in
set_option maxRecDepth 100000 in
/-- internal/stringslite.IndexByte (what strings.IndexByte calls): IT RETURNS 'Lib.indexByte s c';the world is as it was. -/
theorem Tryz.stringslite_IndexByte (s:ByteArray) (c:Int) (w:World) :
    Calls Tryz.prog 124 #[.string s,.int .u8 c] w fun e w'=>e=.returned (.int .i64 (Lib.indexByte s.data.toList c.toNat.toUInt8))∧w'=w:=by
  go_enter Tryz.func124,Tryz.ntmps124
  go_wp2
  rw [run_callFunc_extern Tryz.func152 (by kernel_rfl) (by kernel_rfl) (by kernel_rfl) (e:=Extern.BytealgIndexByte.indexByte) (by kernel_rfl),Lib.run_indexByteString]
  simp only [Result.andThen]
  rw [Oper.upon_value]
  go_wp2
  go_ret
  exact ⟨rfl,rfl⟩

end Go.Proofs

namespace Go.Proofs

set_option maxHeartbeats 2000000 in
set_option maxRecDepth 100000 in
/-- internal/stringslite.Index (what strings.Index calls) AT A substr OF ONE BYTE c: IT RETURNS 'Lib.indexByte s c';the world is as it was. -/
theorem Tryz.stringslite_Index_one (s:ByteArray) (c:UInt8) (w:World) :
    Calls Tryz.prog 83 #[.string s,.string ⟨#[c]⟩] w fun e w'=>e=.returned (.int .i64 (Lib.indexByte s.data.toList c))∧w'=w:=by
  go_enter Tryz.func83,Tryz.ntmps83
  go_wp2_with (go_at_call 124;refine (Tryz.stringslite_IndexByte _ _ _).mono ?_;rintro e w' ⟨rfl,rfl⟩)
  · have h:([c] == s.toList)=true:=by assumption
    go_ret
    refine ⟨?_,rfl⟩
    have e:s.data.toList=[c]:=by rw [← Lib.toList_data];exact (beq_iff_eq.1 h).symm
    rw [e]
    simp [Lib.indexByte]
  · go_ret
    exact ⟨rfl,rfl⟩

end Go.Proofs

namespace Go.Proofs

set_option maxHeartbeats 1000000 in
/-- strings.Index: "Index returns the index of the first instance of substr in s, or -1 if substr is not present in s.": AT A substr OF ONE BYTE c: IT RETURNS 'Lib.indexByte s c';the world is as it was. -/
theorem Tryz.strings_Index_one (s:ByteArray) (c:UInt8) (w:World) :
    Calls Tryz.prog 63 #[.string s,.string ⟨#[c]⟩] w fun e w'=>e=.returned (.int .i64 (Lib.indexByte s.data.toList c))∧w'=w:=by
  go_enter Tryz.func63,Tryz.ntmps63
  go_wp2_with (go_at_call 83;refine (Tryz.stringslite_Index_one _ _ _).mono ?_;rintro e w' ⟨rfl,rfl⟩)
  go_ret
  exact ⟨rfl,rfl⟩

end Go.Proofs

namespace Go.Proofs

set_option maxHeartbeats 1000000 in
set_option maxRecDepth 100000 in
/-- strings.Count AT A substr OF ONE BYTE ('hp'): "Count counts the number of non-overlapping instances of substr in s.": IT RETURNS 'Lib.countByte s (that byte)';the world is as it was. ✋ NO CONTRACT HERE YET at an empty substr (utf8.RuneCountInString) or at a longer one (a loop over strings.Index). -/
theorem Tryz.strings_Count_one (s:ByteArray) (c:UInt8) (w:World) :
    Calls Tryz.prog 62 #[.string s,.string ⟨#[c]⟩] w fun e w'=>e=.returned (.int .i64 (Lib.countByte s.data.toList c))∧w'=w:=by
  go_enter Tryz.func62,Tryz.ntmps62
  go_wp2
  rw [run_callFunc_extern Tryz.func82 (by kernel_rfl) (by kernel_rfl) (by kernel_rfl) (e:=Extern.BytealgCount.count) (by kernel_rfl),Lib.run_countString]
  simp only [Result.andThen]
  rw [Oper.upon_value]
  go_wp2
  go_ret
  exact ⟨rfl,rfl⟩

end Go.Proofs

namespace Go.Eng
open Go Go.Proofs
noncomputable section

abbrev EdQ:=Bool×Int×(List Int×Int)×Int×Int×Int×Int×Int×Int×Int×List (List Int)×(List (List Int×Int))×Int×(List Int×Int)×List Int×Int×List Int×Int
@[reducible] def mN (x:Bool×Int×(List Int×Int)×Int×Int×Int×Int×Int×Int×Int×List (List Int)×(List (List Int×Int))×Int×(List Int×Int)×List Int×Int×List Int×Int) (a1:Option Addr) (c1:Nat) (a2:Option Addr) (c2:Nat) (a3:Option Addr) (c3:Nat) (a4:Option Addr) (c4:Nat) (a5:Option Addr) (c5:Nat) (a6:Option Addr) (c6:Nat):List Value:=[.bool x.1,.int .i64 x.2.1,.slice a1 x.2.2.1.1.length c1,.int .i64 x.2.2.1.2,.int .i64 x.2.2.2.1,.int .i64 x.2.2.2.2.1,.int .i64 x.2.2.2.2.2.1,.int .i64 x.2.2.2.2.2.2.1,.int .i64 x.2.2.2.2.2.2.2.1,.int .i64 x.2.2.2.2.2.2.2.2.1,.int .i64 x.2.2.2.2.2.2.2.2.2.1,.slice a2 x.2.2.2.2.2.2.2.2.2.2.1.length c2,.slice a3 x.2.2.2.2.2.2.2.2.2.2.2.1.length c3,.int .i64 x.2.2.2.2.2.2.2.2.2.2.2.2.1,.slice a4 x.2.2.2.2.2.2.2.2.2.2.2.2.2.1.1.length c4,.int .i64 x.2.2.2.2.2.2.2.2.2.2.2.2.2.1.2,.slice a5 x.2.2.2.2.2.2.2.2.2.2.2.2.2.2.1.length c5,.int .i64 x.2.2.2.2.2.2.2.2.2.2.2.2.2.2.2.1,.slice a6 x.2.2.2.2.2.2.2.2.2.2.2.2.2.2.2.2.1.length c6,.int .i64 x.2.2.2.2.2.2.2.2.2.2.2.2.2.2.2.2.2]
theorem E {α:Sort _} {a:α}:a=a:=rfl
theorem V:True:=trivial
@[reducible] def I (x:Int):Value:=.int .i64 x
abbrev Q4 {A0 A1 A2 A3 A4:Type} (x:A0×A1×A2×A3×A4):A4:=x.2.2.2.2
abbrev Q8 {A0 A1 A2 A3 A4 A5 A6 A7 A8:Type} (x:A0×A1×A2×A3×A4×A5×A6×A7×A8):A8:=x.2.2.2.2.2.2.2.2
abbrev Q12 {A0 A1 A2 A3 A4 A5 A6 A7 A8 A9 A10 A11 A12:Type} (x:A0×A1×A2×A3×A4×A5×A6×A7×A8×A9×A10×A11×A12):A12:=x.2.2.2.2.2.2.2.2.2.2.2.2
abbrev Q16 {A0 A1 A2 A3 A4 A5 A6 A7 A8 A9 A10 A11 A12 A13 A14 A15 A16:Type} (x:A0×A1×A2×A3×A4×A5×A6×A7×A8×A9×A10×A11×A12×A13×A14×A15×A16):A16:=x.2.2.2.2.2.2.2.2.2.2.2.2.2.2.2.2
abbrev Q20 {A0 A1 A2 A3 A4 A5 A6 A7 A8 A9 A10 A11 A12 A13 A14 A15 A16 A17 A18 A19 A20:Type} (x:A0×A1×A2×A3×A4×A5×A6×A7×A8×A9×A10×A11×A12×A13×A14×A15×A16×A17×A18×A19×A20):A20:=x.2.2.2.2.2.2.2.2.2.2.2.2.2.2.2.2.2.2.2.2
abbrev Q24 {A0 A1 A2 A3 A4 A5 A6 A7 A8 A9 A10 A11 A12 A13 A14 A15 A16 A17 A18 A19 A20 A21 A22 A23 A24:Type} (x:A0×A1×A2×A3×A4×A5×A6×A7×A8×A9×A10×A11×A12×A13×A14×A15×A16×A17×A18×A19×A20×A21×A22×A23×A24):A24:=x.2.2.2.2.2.2.2.2.2.2.2.2.2.2.2.2.2.2.2.2.2.2.2.2
abbrev Q28 {A0 A1 A2 A3 A4 A5 A6 A7 A8 A9 A10 A11 A12 A13 A14 A15 A16 A17 A18 A19 A20 A21 A22 A23 A24 A25 A26 A27 A28:Type} (x:A0×A1×A2×A3×A4×A5×A6×A7×A8×A9×A10×A11×A12×A13×A14×A15×A16×A17×A18×A19×A20×A21×A22×A23×A24×A25×A26×A27×A28):A28:=x.2.2.2.2.2.2.2.2.2.2.2.2.2.2.2.2.2.2.2.2.2.2.2.2.2.2.2.2
abbrev Q32 {A0 A1 A2 A3 A4 A5 A6 A7 A8 A9 A10 A11 A12 A13 A14 A15 A16 A17 A18 A19 A20 A21 A22 A23 A24 A25 A26 A27 A28 A29 A30 A31 A32:Type} (x:A0×A1×A2×A3×A4×A5×A6×A7×A8×A9×A10×A11×A12×A13×A14×A15×A16×A17×A18×A19×A20×A21×A22×A23×A24×A25×A26×A27×A28×A29×A30×A31×A32):A32:=x.2.2.2.2.2.2.2.2.2.2.2.2.2.2.2.2.2.2.2.2.2.2.2.2.2.2.2.2.2.2.2.2
@[reducible] def bP:List Value:=mN (false,0,([],0),0,0,0,0,0,0,0,[],[],0,([],0),[],0,([],0)) none 0 none 0 none 0 none 0 none 0 none 0
@[reducible] def fl33 (x:Bool×Int×(List Int×Int)×Int×Int×Int×Int×Int×Int×Int×List (List Int)×(List (List Int×Int))×Int×(List Int×Int)×List Int×Int×List Int×Int) (a0:Option Addr) (c0:Nat) (a1:Option Addr) (c1:Nat) (a2:Option Addr) (c2:Nat) (a3:Option Addr) (c3:Nat) (a4:Option Addr) (c4:Nat) (a5:Option Addr) (c5:Nat) (l:List Fact):List Fact:=⟨(.int .i64),⟨a0,x.2.2.1.1.length,c0⟩,x.2.2.1.1⟩ :: ⟨(.sl (.int .i64)),⟨a1,x.2.2.2.2.2.2.2.2.2.2.1.length,c1⟩,x.2.2.2.2.2.2.2.2.2.2.1⟩ :: ⟨(.pair (.sl (.int .i64)) (.int .i64)),⟨a2,x.2.2.2.2.2.2.2.2.2.2.2.1.length,c2⟩,x.2.2.2.2.2.2.2.2.2.2.2.1⟩ :: ⟨(.int .i64),⟨a3,x.2.2.2.2.2.2.2.2.2.2.2.2.2.1.1.length,c3⟩,x.2.2.2.2.2.2.2.2.2.2.2.2.2.1.1⟩ :: ⟨(.int .i64),⟨a4,x.2.2.2.2.2.2.2.2.2.2.2.2.2.2.1.length,c4⟩,x.2.2.2.2.2.2.2.2.2.2.2.2.2.2.1⟩ :: ⟨(.int .i64),⟨a5,x.2.2.2.2.2.2.2.2.2.2.2.2.2.2.2.2.1.length,c5⟩,x.2.2.2.2.2.2.2.2.2.2.2.2.2.2.2.2.1⟩ :: l
abbrev P6:=Option Addr×Nat×Option Addr×Nat×Option Addr×Nat×Option Addr×Nat×Option Addr×Nat×Option Addr×Nat
@[reducible] def aK (x:Bool×Int×(List Int×Int)×Int×Int×Int×Int×Int×Int×Int×List (List Int)×(List (List Int×Int))×Int×(List Int×Int)×List Int×Int×List Int×Int) (p:P6):List Value:=mN x p.1 p.2.1 p.2.2.1 p.2.2.2.1 p.2.2.2.2.1 p.2.2.2.2.2.1 p.2.2.2.2.2.2.1 p.2.2.2.2.2.2.2.1 p.2.2.2.2.2.2.2.2.1 p.2.2.2.2.2.2.2.2.2.1 p.2.2.2.2.2.2.2.2.2.2.1 p.2.2.2.2.2.2.2.2.2.2.2
@[reducible] def cY (x:Bool×Int×(List Int×Int)×Int×Int×Int×Int×Int×Int×Int×List (List Int)×(List (List Int×Int))×Int×(List Int×Int)×List Int×Int×List Int×Int) (p:P6) (l:List Fact):List Fact:=fl33 x p.1 p.2.1 p.2.2.1 p.2.2.2.1 p.2.2.2.2.1 p.2.2.2.2.2.1 p.2.2.2.2.2.2.1 p.2.2.2.2.2.2.2.1 p.2.2.2.2.2.2.2.2.1 p.2.2.2.2.2.2.2.2.2.1 p.2.2.2.2.2.2.2.2.2.2.1 p.2.2.2.2.2.2.2.2.2.2.2 l
abbrev U2 {A0 A1 A2 R:Type} (x:A0×A1×A2×R) (v:A2):A0×A1×A2×R:=(x.1,x.2.1,v,x.2.2.2)
abbrev U3 {A0 A1 A2 A3 R:Type} (x:A0×A1×A2×A3×R) (v:A3):A0×A1×A2×A3×R:=(x.1,x.2.1,x.2.2.1,v,x.2.2.2.2)
abbrev U10 {A0 A1 A2 A3 A4 A5 A6 A7 A8 A9 A10 R:Type} (x:A0×A1×A2×A3×A4×A5×A6×A7×A8×A9×A10×R) (v:A10):A0×A1×A2×A3×A4×A5×A6×A7×A8×A9×A10×R:=(x.1,x.2.1,x.2.2.1,x.2.2.2.1,x.2.2.2.2.1,x.2.2.2.2.2.1,x.2.2.2.2.2.2.1,x.2.2.2.2.2.2.2.1,x.2.2.2.2.2.2.2.2.1,x.2.2.2.2.2.2.2.2.2.1,v,x.2.2.2.2.2.2.2.2.2.2.2)
abbrev U11 {A0 A1 A2 A3 A4 A5 A6 A7 A8 A9 A10 A11 R:Type} (x:A0×A1×A2×A3×A4×A5×A6×A7×A8×A9×A10×A11×R) (v:A11):A0×A1×A2×A3×A4×A5×A6×A7×A8×A9×A10×A11×R:=(x.1,x.2.1,x.2.2.1,x.2.2.2.1,x.2.2.2.2.1,x.2.2.2.2.2.1,x.2.2.2.2.2.2.1,x.2.2.2.2.2.2.2.1,x.2.2.2.2.2.2.2.2.1,x.2.2.2.2.2.2.2.2.2.1,x.2.2.2.2.2.2.2.2.2.2.1,v,x.2.2.2.2.2.2.2.2.2.2.2.2)
abbrev U12 {A0 A1 A2 A3 A4 A5 A6 A7 A8 A9 A10 A11 A12 R:Type} (x:A0×A1×A2×A3×A4×A5×A6×A7×A8×A9×A10×A11×A12×R) (v:A12):A0×A1×A2×A3×A4×A5×A6×A7×A8×A9×A10×A11×A12×R:=(x.1,x.2.1,x.2.2.1,x.2.2.2.1,x.2.2.2.2.1,x.2.2.2.2.2.1,x.2.2.2.2.2.2.1,x.2.2.2.2.2.2.2.1,x.2.2.2.2.2.2.2.2.1,x.2.2.2.2.2.2.2.2.2.1,x.2.2.2.2.2.2.2.2.2.2.1,x.2.2.2.2.2.2.2.2.2.2.2.1,v,x.2.2.2.2.2.2.2.2.2.2.2.2.2)
abbrev U13 {A0 A1 A2 A3 A4 A5 A6 A7 A8 A9 A10 A11 A12 A13 R:Type} (x:A0×A1×A2×A3×A4×A5×A6×A7×A8×A9×A10×A11×A12×A13×R) (v:A13):A0×A1×A2×A3×A4×A5×A6×A7×A8×A9×A10×A11×A12×A13×R:=(x.1,x.2.1,x.2.2.1,x.2.2.2.1,x.2.2.2.2.1,x.2.2.2.2.2.1,x.2.2.2.2.2.2.1,x.2.2.2.2.2.2.2.1,x.2.2.2.2.2.2.2.2.1,x.2.2.2.2.2.2.2.2.2.1,x.2.2.2.2.2.2.2.2.2.2.1,x.2.2.2.2.2.2.2.2.2.2.2.1,x.2.2.2.2.2.2.2.2.2.2.2.2.1,v,x.2.2.2.2.2.2.2.2.2.2.2.2.2.2)
abbrev U14 {A0 A1 A2 A3 A4 A5 A6 A7 A8 A9 A10 A11 A12 A13 A14 R:Type} (x:A0×A1×A2×A3×A4×A5×A6×A7×A8×A9×A10×A11×A12×A13×A14×R) (v:A14):A0×A1×A2×A3×A4×A5×A6×A7×A8×A9×A10×A11×A12×A13×A14×R:=(x.1,x.2.1,x.2.2.1,x.2.2.2.1,x.2.2.2.2.1,x.2.2.2.2.2.1,x.2.2.2.2.2.2.1,x.2.2.2.2.2.2.2.1,x.2.2.2.2.2.2.2.2.1,x.2.2.2.2.2.2.2.2.2.1,x.2.2.2.2.2.2.2.2.2.2.1,x.2.2.2.2.2.2.2.2.2.2.2.1,x.2.2.2.2.2.2.2.2.2.2.2.2.1,x.2.2.2.2.2.2.2.2.2.2.2.2.2.1,v,x.2.2.2.2.2.2.2.2.2.2.2.2.2.2.2)
def TTx:TT:=[
  (2,⟨.int .i64,1,8,[.int .i64 0]⟩),
  (3,⟨.int .i64,1,8,[.int .i64 0]⟩),
  (4,⟨.bool,1,1,[.bool false]⟩),
  (5,⟨.int .u8,1,1,[.int .u8 0]⟩),
  (6,⟨.int .u8,1,1,[.int .u8 0]⟩),
  (7,⟨.struct [(0,2),(1,3),(2,4),(3,6)],4,24,[.int .i64 0,.int .i64 0,.bool false,.int .u8 0]⟩),
  (8,⟨.struct [(0,2),(1,3),(2,4),(3,6)],4,24,[.int .i64 0,.int .i64 0,.bool false,.int .u8 0]⟩),
  (9,⟨.str,1,16,[.string ByteArray.empty]⟩),
  (10,⟨.str,1,16,[.string ByteArray.empty]⟩),
  (11,⟨.str,1,16,[.string ByteArray.empty]⟩),
  (12,⟨.int .u64,1,8,[.int .u64 0]⟩),
  (13,⟨.struct [(0,9),(1,12)],2,24,[.string ByteArray.empty,.int .u64 0]⟩),
  (14,⟨.struct [(0,9),(1,12)],2,24,[.string ByteArray.empty,.int .u64 0]⟩),
  (21,⟨.int .i32,1,4,[.int .i32 0]⟩),
  (22,⟨.slice 5,1,24,[.slice none 0 0]⟩),
  (23,⟨.slice 3,1,24,[.slice none 0 0]⟩),
  (24,⟨.struct [(0,23),(1,3)],2,32,[.slice none 0 0,.int .i64 0]⟩),
  (25,⟨.struct [(0,23),(1,3)],2,32,[.slice none 0 0,.int .i64 0]⟩),
  (26,⟨.slice 66,1,24,[.slice none 0 0]⟩),
  (27,⟨.struct [(0,26)],1,24,[.slice none 0 0]⟩),
  (28,⟨.struct [(0,26)],1,24,[.slice none 0 0]⟩),
  (29,⟨.slice 25,1,24,[.slice none 0 0]⟩),
  (30,⟨.struct [(0,29)],1,24,[.slice none 0 0]⟩),
  (31,⟨.struct [(0,29)],1,24,[.slice none 0 0]⟩),
  (32,⟨.struct [(0,4),(1,3),(2,25),(4,3),(5,3),(6,3),(7,3),(8,3),(9,3),(10,3),(11,28),(12,31),(13,3),(14,25),(16,23),(17,3),(18,25)],20,256,[.bool false,.int .i64 0,.slice none 0 0,.int .i64 0,.int .i64 0,.int .i64 0,.int .i64 0,.int .i64 0,.int .i64 0,.int .i64 0,.int .i64 0,.slice none 0 0,.slice none 0 0,.int .i64 0,.slice none 0 0,.int .i64 0,.slice none 0 0,.int .i64 0,.slice none 0 0,.int .i64 0]⟩),
  (33,⟨.struct [(0,4),(1,3),(2,25),(4,3),(5,3),(6,3),(7,3),(8,3),(9,3),(10,3),(11,28),(12,31),(13,3),(14,25),(16,23),(17,3),(18,25)],20,256,[.bool false,.int .i64 0,.slice none 0 0,.int .i64 0,.int .i64 0,.int .i64 0,.int .i64 0,.int .i64 0,.int .i64 0,.int .i64 0,.int .i64 0,.slice none 0 0,.slice none 0 0,.int .i64 0,.slice none 0 0,.int .i64 0,.slice none 0 0,.int .i64 0,.slice none 0 0,.int .i64 0]⟩),
  (34,⟨.slice 9,1,24,[.slice none 0 0]⟩),
  (35,⟨.struct [(0,3),(1,34)],2,32,[.int .i64 0,.slice none 0 0]⟩),
  (36,⟨.struct [(0,3),(1,34)],2,32,[.int .i64 0,.slice none 0 0]⟩),
  (52,⟨.slice 55,1,24,[.slice none 0 0]⟩),
  (54,⟨.struct [(0,3),(1,3)],2,16,[.int .i64 0,.int .i64 0]⟩),
  (55,⟨.struct [(0,3),(1,3)],2,16,[.int .i64 0,.int .i64 0]⟩),
  (65,⟨.struct [(0,23)],1,24,[.slice none 0 0]⟩),
  (66,⟨.struct [(0,23)],1,24,[.slice none 0 0]⟩),
  (67,⟨.struct [(0,22),(1,3),(2,3)],3,40,[.slice none 0 0,.int .i64 0,.int .i64 0]⟩),
  (68,⟨.struct [(0,22),(1,3),(2,3)],3,40,[.slice none 0 0,.int .i64 0,.int .i64 0]⟩),
  (89,⟨.int .u64,1,8,[.int .u64 0]⟩),
  (157,⟨.struct [(0,5),(1,5)],2,2,[.int .u8 0,.int .u8 0]⟩),
  (158,⟨.struct [(0,5),(1,5)],2,2,[.int .u8 0,.int .u8 0]⟩),
  (160,⟨.int .u32,1,4,[.int .u32 0]⟩),
  (170,⟨.int .u8,1,1,[.int .u8 0]⟩),
  (171,⟨.int .u8,1,1,[.int .u8 0]⟩),
  (174,⟨.int .i32,1,4,[.int .i32 0]⟩),
  (175,⟨.int .i32,1,4,[.int .i32 0]⟩)]

set_option maxRecDepth 100000 in
theorem aA:cF Tryz.prog TTx:=cF.of (by
  simp only [TTx,List.forall_mem_cons]
  exact ⟨⟨⟨_,_,rfl,rfl,rfl,rfl,rfl⟩,rfl⟩,⟨⟨_,_,rfl,rfl,rfl,rfl,rfl⟩,rfl⟩,⟨⟨_,_,rfl,rfl,rfl,rfl,rfl⟩,rfl⟩,⟨⟨_,_,rfl,rfl,rfl,rfl,rfl⟩,rfl⟩,⟨⟨_,_,rfl,rfl,rfl,rfl,rfl⟩,rfl⟩,⟨⟨_,_,rfl,rfl,rfl,rfl,rfl⟩,⟨_,rfl,rfl⟩⟩,⟨⟨_,_,rfl,rfl,rfl,rfl,rfl⟩,⟨_,rfl,rfl⟩⟩,⟨⟨_,_,rfl,rfl,rfl,rfl,rfl⟩,rfl⟩,⟨⟨_,_,rfl,rfl,rfl,rfl,rfl⟩,rfl⟩,⟨⟨_,_,rfl,rfl,rfl,rfl,rfl⟩,rfl⟩,⟨⟨_,_,rfl,rfl,rfl,rfl,rfl⟩,rfl⟩,⟨⟨_,_,rfl,rfl,rfl,rfl,rfl⟩,⟨_,rfl,rfl⟩⟩,⟨⟨_,_,rfl,rfl,rfl,rfl,rfl⟩,⟨_,rfl,rfl⟩⟩,⟨⟨_,_,rfl,rfl,rfl,rfl,rfl⟩,rfl⟩,⟨⟨_,_,rfl,rfl,rfl,rfl,rfl⟩,rfl⟩,⟨⟨_,_,rfl,rfl,rfl,rfl,rfl⟩,rfl⟩,⟨⟨_,_,rfl,rfl,rfl,rfl,rfl⟩,⟨_,rfl,rfl⟩⟩,⟨⟨_,_,rfl,rfl,rfl,rfl,rfl⟩,⟨_,rfl,rfl⟩⟩,⟨⟨_,_,rfl,rfl,rfl,rfl,rfl⟩,rfl⟩,⟨⟨_,_,rfl,rfl,rfl,rfl,rfl⟩,⟨_,rfl,rfl⟩⟩,⟨⟨_,_,rfl,rfl,rfl,rfl,rfl⟩,⟨_,rfl,rfl⟩⟩,⟨⟨_,_,rfl,rfl,rfl,rfl,rfl⟩,rfl⟩,⟨⟨_,_,rfl,rfl,rfl,rfl,rfl⟩,⟨_,rfl,rfl⟩⟩,⟨⟨_,_,rfl,rfl,rfl,rfl,rfl⟩,⟨_,rfl,rfl⟩⟩,⟨⟨_,_,rfl,rfl,rfl,rfl,rfl⟩,⟨_,rfl,rfl⟩⟩,⟨⟨_,_,rfl,rfl,rfl,rfl,rfl⟩,⟨_,rfl,rfl⟩⟩,⟨⟨_,_,rfl,rfl,rfl,rfl,rfl⟩,rfl⟩,⟨⟨_,_,rfl,rfl,rfl,rfl,rfl⟩,⟨_,rfl,rfl⟩⟩,⟨⟨_,_,rfl,rfl,rfl,rfl,rfl⟩,⟨_,rfl,rfl⟩⟩,⟨⟨_,_,rfl,rfl,rfl,rfl,rfl⟩,rfl⟩,⟨⟨_,_,rfl,rfl,rfl,rfl,rfl⟩,⟨_,rfl,rfl⟩⟩,⟨⟨_,_,rfl,rfl,rfl,rfl,rfl⟩,⟨_,rfl,rfl⟩⟩,⟨⟨_,_,rfl,rfl,rfl,rfl,rfl⟩,⟨_,rfl,rfl⟩⟩,⟨⟨_,_,rfl,rfl,rfl,rfl,rfl⟩,⟨_,rfl,rfl⟩⟩,⟨⟨_,_,rfl,rfl,rfl,rfl,rfl⟩,⟨_,rfl,rfl⟩⟩,⟨⟨_,_,rfl,rfl,rfl,rfl,rfl⟩,⟨_,rfl,rfl⟩⟩,⟨⟨_,_,rfl,rfl,rfl,rfl,rfl⟩,rfl⟩,⟨⟨_,_,rfl,rfl,rfl,rfl,rfl⟩,⟨_,rfl,rfl⟩⟩,⟨⟨_,_,rfl,rfl,rfl,rfl,rfl⟩,⟨_,rfl,rfl⟩⟩,⟨⟨_,_,rfl,rfl,rfl,rfl,rfl⟩,rfl⟩,⟨⟨_,_,rfl,rfl,rfl,rfl,rfl⟩,rfl⟩,⟨⟨_,_,rfl,rfl,rfl,rfl,rfl⟩,rfl⟩,⟨⟨_,_,rfl,rfl,rfl,rfl,rfl⟩,rfl⟩,⟨⟨_,_,rfl,rfl,rfl,rfl,rfl⟩,rfl⟩,by simp⟩)

def jF (x0:List UInt8) (j16:Int→Option (List UInt8×Int×Int)) (k11:(Int×Int)→Option (List UInt8×Int×Int)):(Int×Int)→Option (List UInt8×Int×Int):=fun (x6,x7)=>
  (bif (bif (decide (x7<(x0.length:Int))) then (decide (x7<4000)) else false) then
  (aI (0≤x7∧x7<(x0.length:Int)) <|
  k11 ((W (((BitVec.ofInt (IntKind.bits .i64) (W ((W ((W (x6*137))+((at' x0 x7).toNat:Int)))+7)) &&& BitVec.ofInt (IntKind.bits .i64) 1073741823).toNat:Int))),(W (x7+1))))
  else
  j16 x6)

def oA (x0:List UInt8):Option (List UInt8×Int×Int):=
  (aY (fun (x15:Int)=>
  some (x0,0,x15)) fun j16=>
  (bI (jF x0 j16) bO ((W (600128+(x0.length:Int))),0)))

theorem aC1 (x0:List UInt8) (a2:Option Addr) (c3:Nat) (r:List UInt8×Int×Int) (h:oA x0=some r):
  FC Tryz.prog 9 [.slice a2 x0.length c3] [⟨.byte,⟨a2,x0.length,c3⟩,x0⟩] (fun _:Option Addr=>True) (fun q=>.pointer q) (fun q=>[⟨(.pair .val (.pair (.int .i64) (.int .i64))),⟨q,1,1⟩,[((Sl.v ⟨a2,x0.length,c3⟩),r.2)]⟩]):=
 by
  refine FC.of (T:=TTx) Tryz.call9 Tryz.func9 E E fun w0=>?_
  unfold oA at h
  refine aD aA 1 [] ⟨V,E⟩ E E (qP aA 4 [(W (600128+(x0.length:Int)))] [] [(3,.v (I (W (600128+(x0.length:Int)))))] _ ⟨⟨V,E⟩,⟨E,V⟩,E⟩ E E (JS.seq (aD aA 1 [(4,.v (I 0))] ⟨⟨E,V⟩,E⟩ E E ?_)))
  obtain ⟨j16,hj23,h⟩:=aO h
  refine bF (ι:=Int) ⟨fun z=>j16 z=some r,fun z=>[(0,.v (.slice a2 x0.length c3)),(3,.v (I z))],fun z=>.nil,fun z=>[⟨.byte,⟨a2,x0.length,c3⟩,x0⟩],fun z=>[],fun z=>0⟩ ?_ ?_
  ·
   refine JS.loop (ι:=Nat×Int×Int) ⟨fun z=>bI (jF x0 j16) z.1 z.2=some r,fun z=>[(0,.v (.slice a2 x0.length c3)),(3,.v (I z.2.1)),(4,.v (I z.2.2))],fun z=>.nil,fun z=>[⟨.byte,⟨a2,x0.length,c3⟩,x0⟩],fun z=>[],fun z=>z.1⟩ (bO,(W (600128+(x0.length:Int))),0) h (Es E) V [0] E [] E ?_
   rintro ⟨n12,x6,x7⟩ h
   obtain ⟨n12,rfl,h⟩:=bM h
   rw [jF] at h
   refine JS.seq (aD aA 8 [(15,.v (.bool (bif (decide (x7<(x0.length:Int))) then (decide (x7<4000)) else false)))] ⟨⟨E,V⟩,E⟩ E E ?_)
   refine aL E h (fun h=>?_) (fun h=>?_)
   ·
    refine JS.skip (JS.seq (JS.block (JS.region (bT 0 E fun hs21=>?_))))
    obtain ⟨g9,h⟩:=aF h
    refine aB aA 5 [(W (x6*137))] [] [(19,.v (I (W (x6*137)))),(22,.ep ⟨a2,x0.length,c3⟩ (Int.toNat x7*1))] _ E ⟨⟨V,E⟩,hs21.ix g9,(Es E),E⟩ (JO.load aA E E E E E E E 0 E E (Int.toNat x7) 0 (at' x0 x7) ⟨bD g9,E⟩ E E (aB aA 5 [((at' x0 x7).toNat:Int),(W ((W (x6*137))+((at' x0 x7).toNat:Int))),(W ((W ((W (x6*137))+((at' x0 x7).toNat:Int)))+7)),(W (((BitVec.ofInt (IntKind.bits .i64) (W ((W ((W (x6*137))+((at' x0 x7).toNat:Int)))+7)) &&& BitVec.ofInt (IntKind.bits .i64) 1073741823).toNat:Int)))] [] [(3,.v (I (W (((BitVec.ofInt (IntKind.bits .i64) (W ((W ((W (x6*137))+((at' x0 x7).toNat:Int)))+7)) &&& BitVec.ofInt (IntKind.bits .i64) 1073741823).toNat:Int)))))] _ E ⟨⟨V,yT _⟩,⟨V,E⟩,⟨V,E⟩,⟨V,E⟩,⟨E,V⟩,E⟩ (aC E (aV (cW aA 3 [(W (x7+1))] [] [(4,.v (I (W (x7+1))))] _ ⟨⟨V,E⟩,⟨E,V⟩,E⟩ E E (bZ (n12,(W (((BitVec.ofInt (IntKind.bits .i64) (W ((W ((W (x6*137))+((at' x0 x7).toNat:Int)))+7)) &&& BitVec.ofInt (IntKind.bits .i64) 1073741823).toNat:Int))),(W (x7+1))) h (Nat.lt_succ_self _) (Es E) V [0] E [] E))))))
   refine JS.exit E (aN x6 h (Es E) V [0] E [] E)
  rintro x15 h
  subst hj23
  refine aR aA 5 [] [9] [(2,.bp 9 0),(31,.bp 9 0)] (.new 9 68 [.slice a2 x0.length c3,.int .i64 0,.int .i64 x15] .nil) ⟨(Es E),(Bs E E)⟩ E E (aJg 9 E (B':=.nil) V E (.pair .val (.pair (.int .i64) (.int .i64))) ((Sl.v ⟨a2,x0.length,c3⟩),0,x15) ⟨E,E,E⟩ (fun a19=>[(0,.v (.slice a2 x0.length c3)),(2,.ep ⟨a19,1,1⟩ 0),(3,.v (I x15)),(31,.ep ⟨a19,1,1⟩ 0)]) (fun _=>(Es E)) fun a19=>?_)
  cases h
  exact JS.ret aA a19 V E E [0] E

def sJ (x0:Bool):Option EdQ:=
  (bif x0 then
  some (true,1,([],0),0,0,0,0,0,0,0,[],[],0,([],0),[],0,([],0))
  else
  some (false,0,([],0),0,0,0,0,0,0,0,[],[],0,([],0),[],0,([],0)))

theorem aE6 (x0:Bool) (r:EdQ) (h:sJ x0=some r) :
  FC Tryz.prog 10 [.bool x0] [] (fun _:Unit=>True) (fun _=>.agg (aK (r.1,r.2.1,([],r.2.2.1.2),r.2.2.2.1,(Q4 r).1,(Q4 r).2.1,(Q4 r).2.2.1,(Q4 r).2.2.2.1,(Q8 r).1,(Q8 r).2.1,[],[],(Q12 r).1,([],(Q12 r).2.1.2),[],(Q12 r).2.2.2.1,([],(Q16 r).2)) (none,0,none,0,none,0,none,0,none,0,none,0)).toArray) (fun _=>[]):=
 by
  refine FC.of (T:=TTx) Tryz.call10 Tryz.func10 E E fun w0=>?_
  unfold sJ at h
  refine aR aA 1 [] [1] [(2,.bp 1 0)] (.new 1 33 bP .nil) ⟨⟨E,V⟩,(Bs E E)⟩ E E (JS.seq (aD aA 1 [(3,.v (.bool x0))] ⟨⟨E,V⟩,E⟩ E E ?_))
  refine aL E h (fun h=>?_) (fun h=>?_)
  ·
   refine aR aA 2 [] [] [] (.new 1 33 (aK (true,1,([],0),0,0,0,0,0,0,0,[],[],0,([],0),[],0,([],0)) (none,0,none,0,none,0,none,0,none,0,none,0)) .nil) ⟨V,(Bs E E)⟩ E E ?_
   cases h
   exact JS.ret aA () V E E [] E
  refine JS.skip (aR aA 2 [] [] [] (.new 1 33 bP .nil) ⟨V,(Bs E E)⟩ E E ?_)
  cases h
  exact JS.ret aA () V E E [] E

def eG (x0:List UInt8×Int×Int):Option (Int×List UInt8×Int×Int):=
  (aY (fun ((x14,x15):Int×Int)=>
  some (x14,(x0.1,x15,(W ((W (x0.2.2*6364136223846793005))+1442695040888963407))))) fun j16=>
  (bif (decide (x0.2.1<(x0.1.length:Int))) then
  (aI (0≤x0.2.1∧x0.2.1<(x0.1.length:Int)) <|
  j16 ((W (((BitVec.ofInt (IntKind.bits .i64) (W ((W (((BitVec.ofInt (IntKind.bits .i64) (W (((BitVec.ofInt (IntKind.bits .i64) (Int.fdiv (W ((W (x0.2.2*6364136223846793005))+1442695040888963407)) (2 ^ (min (Int.toNat 33) (IntKind.bits .i64)))) ^^^ BitVec.ofInt (IntKind.bits .i64) (Int.fdiv (W ((W (x0.2.2*6364136223846793005))+1442695040888963407)) (2 ^ (min (Int.toNat 45) (IntKind.bits .i64))))).toNat:Int))) &&& BitVec.ofInt (IntKind.bits .i64) 255).toNat:Int)))+((at' x0.1 x0.2.1).toNat:Int))) &&& BitVec.ofInt (IntKind.bits .i64) 255).toNat:Int))),(W (x0.2.1+1))))
  else
  j16 ((W (((BitVec.ofInt (IntKind.bits .i64) (W (((BitVec.ofInt (IntKind.bits .i64) (Int.fdiv (W ((W (x0.2.2*6364136223846793005))+1442695040888963407)) (2 ^ (min (Int.toNat 33) (IntKind.bits .i64)))) ^^^ BitVec.ofInt (IntKind.bits .i64) (Int.fdiv (W ((W (x0.2.2*6364136223846793005))+1442695040888963407)) (2 ^ (min (Int.toNat 45) (IntKind.bits .i64))))).toNat:Int))) &&& BitVec.ofInt (IntKind.bits .i64) 255).toNat:Int))),x0.2.1)))

theorem lA (x0:List UInt8×Int×Int) (a2:Option Addr) (a3:Option Addr) (c4:Nat) (r:Int×List UInt8×Int×Int) (h:eG x0=some r):
  FX Tryz.prog 28 [.pointer a2] [⟨.byte,⟨a3,x0.1.length,c4⟩,x0.1⟩] [⟨(.pair .val (.pair (.int .i64) (.int .i64))),⟨a2,1,1⟩,[((Sl.v ⟨a3,x0.1.length,c4⟩),x0.2)]⟩] (fun _:Unit=>True) (fun _=>.int .i64 r.1) (fun _=>[⟨(.pair .val (.pair (.int .i64) (.int .i64))),⟨a2,1,1⟩,[((Sl.v ⟨a3,x0.1.length,c4⟩),r.2.2)]⟩]):=
 by
  refine FX.of (T:=TTx) Tryz.call28 Tryz.func28 E E fun w0 L0=>?_
  unfold eG at h
  refine mZ 0 a2 E ?_
  refine aD aA 1 [] ⟨V,E⟩ E E (JS.seq (JS.region (bT 1 E fun hs21=>aB aA 4 [] [] [(4,.ep ⟨a2,1,1⟩ 0),(7,.ep ⟨a2,1,1⟩ 2)] _ E ⟨(hs21.fa oZ).1,hs21.fa oZ,(Es E),E⟩ (dX aA E E E E E E 1 E E 0 2 ((Sl.v ⟨a3,x0.1.length,c4⟩),x0.2) ⟨E,E⟩ E E E (aB aA 4 [(W (x0.2.2*6364136223846793005)),(W ((W (x0.2.2*6364136223846793005))+1442695040888963407))] [] [(10,.v (I (W ((W (x0.2.2*6364136223846793005))+1442695040888963407)))),(12,.ep ⟨a2,1,1⟩ 2)] _ E ⟨⟨V,E⟩,⟨V,E⟩,(hs21.fa oZ).1,hs21.fa oZ,(Es E),E⟩ (gO aA E E E E E E E E E [0] (fs:=[]) E 0 2 ((Sl.v ⟨a3,x0.1.length,c4⟩),x0.2) ((Sl.v ⟨a3,x0.1.length,c4⟩),x0.2.1,(W ((W (x0.2.2*6364136223846793005))+1442695040888963407))) ⟨E,E⟩ ⟨⟨⟨E,E,E⟩,E⟩,E⟩ (aC E (JS.seq ?_))))))))
  have g8:(0:Int)≤33:=by decide
  have g9:(0:Int)≤45:=by decide
  refine iO E (by kernel_rfl) (fN aA 3 [] [(15,.ep ⟨a2,1,1⟩ 2)] E ⟨(hs21.fa oZ).1,hs21.fa oZ,⟨E,V⟩⟩ (oG aA E E E E E E 1 E E 0 2 ((Sl.v ⟨a3,x0.1.length,c4⟩),x0.2.1,(W ((W (x0.2.2*6364136223846793005))+1442695040888963407))) ⟨E,E⟩ E E E (fN aA 4 [] [(17,.v (I (Int.fdiv (W ((W (x0.2.2*6364136223846793005))+1442695040888963407)) (2 ^ (min (Int.toNat 33) (IntKind.bits .i64)))))),(20,.ep ⟨a2,1,1⟩ 2)] E ⟨g8,(hs21.fa oZ).1,hs21.fa oZ,(Es E)⟩ (oG aA E E E E E E 1 E E 0 2 ((Sl.v ⟨a3,x0.1.length,c4⟩),x0.2.1,(W ((W (x0.2.2*6364136223846793005))+1442695040888963407))) ⟨E,E⟩ E E E (fN aA 4 [(W (((BitVec.ofInt (IntKind.bits .i64) (Int.fdiv (W ((W (x0.2.2*6364136223846793005))+1442695040888963407)) (2 ^ (min (Int.toNat 33) (IntKind.bits .i64)))) ^^^ BitVec.ofInt (IntKind.bits .i64) (Int.fdiv (W ((W (x0.2.2*6364136223846793005))+1442695040888963407)) (2 ^ (min (Int.toNat 45) (IntKind.bits .i64))))).toNat:Int))),(W (((BitVec.ofInt (IntKind.bits .i64) (W (((BitVec.ofInt (IntKind.bits .i64) (Int.fdiv (W ((W (x0.2.2*6364136223846793005))+1442695040888963407)) (2 ^ (min (Int.toNat 33) (IntKind.bits .i64)))) ^^^ BitVec.ofInt (IntKind.bits .i64) (Int.fdiv (W ((W (x0.2.2*6364136223846793005))+1442695040888963407)) (2 ^ (min (Int.toNat 45) (IntKind.bits .i64))))).toNat:Int))) &&& BitVec.ofInt (IntKind.bits .i64) 255).toNat:Int)))] [(3,.v (I (W (((BitVec.ofInt (IntKind.bits .i64) (W (((BitVec.ofInt (IntKind.bits .i64) (Int.fdiv (W ((W (x0.2.2*6364136223846793005))+1442695040888963407)) (2 ^ (min (Int.toNat 33) (IntKind.bits .i64)))) ^^^ BitVec.ofInt (IntKind.bits .i64) (Int.fdiv (W ((W (x0.2.2*6364136223846793005))+1442695040888963407)) (2 ^ (min (Int.toNat 45) (IntKind.bits .i64))))).toNat:Int))) &&& BitVec.ofInt (IntKind.bits .i64) 255).toNat:Int)))))] E ⟨g9,⟨V,E⟩,⟨V,E⟩,⟨E,V⟩⟩ (oM E ?_))))))
  obtain ⟨j16,hj25,h⟩:=aO h
  refine eH (ι:=Int×Int) ⟨fun z=>j16 z=some r,fun z=>[(3,.v (I z.1))],fun z=>.nil,fun z=>[⟨.byte,⟨a3,x0.1.length,c4⟩,x0.1⟩],fun z=>[⟨(.pair .val (.pair (.int .i64) (.int .i64))),⟨a2,1,1⟩,[((Sl.v ⟨a3,x0.1.length,c4⟩),z.2,(W ((W (x0.2.2*6364136223846793005))+1442695040888963407)))]⟩],fun z=>0⟩ ?_ ?_
  ·
   refine JS.seq (iO E (by kernel_rfl) (fN aA 3 [] [(27,.ep ⟨a2,1,1⟩ 1)] E ⟨(hs21.fa oZ).1,hs21.fa oZ,⟨E,V⟩⟩ (oG aA E E E E E E 1 E E 0 1 ((Sl.v ⟨a3,x0.1.length,c4⟩),x0.2.1,(W ((W (x0.2.2*6364136223846793005))+1442695040888963407))) ⟨E,E⟩ E E E (fN aA 3 [] [(31,.ep ⟨a2,1,1⟩ 0)] E ⟨(hs21.fa oZ).1,hs21.fa oZ,⟨E,V⟩⟩ (oG aA E E E E E E 1 E E 0 0 ((Sl.v ⟨a3,x0.1.length,c4⟩),x0.2.1,(W ((W (x0.2.2*6364136223846793005))+1442695040888963407))) ⟨E,E⟩ E E E (fN aA 2 [] [(34,.v (.bool (decide (x0.2.1<(x0.1.length:Int)))))] E ⟨E,V⟩ (oM E ?_)))))))
   refine aL E h (fun h=>?_) (fun h=>?_)
   ·
    refine JS.seq ?_
    obtain ⟨g11,h⟩:=aF h
    refine gR 0 E fun hs23=>iO E (by kernel_rfl) (fN aA 4 [] [(35,.v (I (W (((BitVec.ofInt (IntKind.bits .i64) (W (((BitVec.ofInt (IntKind.bits .i64) (Int.fdiv (W ((W (x0.2.2*6364136223846793005))+1442695040888963407)) (2 ^ (min (Int.toNat 33) (IntKind.bits .i64)))) ^^^ BitVec.ofInt (IntKind.bits .i64) (Int.fdiv (W ((W (x0.2.2*6364136223846793005))+1442695040888963407)) (2 ^ (min (Int.toNat 45) (IntKind.bits .i64))))).toNat:Int))) &&& BitVec.ofInt (IntKind.bits .i64) 255).toNat:Int))))),(38,.ep ⟨a2,1,1⟩ 0)] E ⟨(hs21.fa oZ).1,hs21.fa oZ,(Es E)⟩ (oG aA E E E E E E 1 E E 0 0 ((Sl.v ⟨a3,x0.1.length,c4⟩),x0.2.1,(W ((W (x0.2.2*6364136223846793005))+1442695040888963407))) ⟨E,E⟩ E E E (fN aA 3 [] [(42,.ep ⟨a2,1,1⟩ 1)] E ⟨(hs21.fa oZ).1,hs21.fa oZ,⟨E,V⟩⟩ (oG aA E E E E E E 1 E E 0 1 ((Sl.v ⟨a3,x0.1.length,c4⟩),x0.2.1,(W ((W (x0.2.2*6364136223846793005))+1442695040888963407))) ⟨E,E⟩ E E E (fN aA 1 [] [(44,.ep ⟨a3,x0.1.length,c4⟩ (Int.toNat x0.2.1*1))] E ⟨hs23.ix g11,⟨E,V⟩⟩ (JQ.load aA E E E E E E E 0 E E (Int.toNat x0.2.1) 0 (at' x0.1 x0.2.1) ⟨bD g11,E⟩ E E (fN aA 4 [((at' x0.1 x0.2.1).toNat:Int),(W ((W (((BitVec.ofInt (IntKind.bits .i64) (W (((BitVec.ofInt (IntKind.bits .i64) (Int.fdiv (W ((W (x0.2.2*6364136223846793005))+1442695040888963407)) (2 ^ (min (Int.toNat 33) (IntKind.bits .i64)))) ^^^ BitVec.ofInt (IntKind.bits .i64) (Int.fdiv (W ((W (x0.2.2*6364136223846793005))+1442695040888963407)) (2 ^ (min (Int.toNat 45) (IntKind.bits .i64))))).toNat:Int))) &&& BitVec.ofInt (IntKind.bits .i64) 255).toNat:Int)))+((at' x0.1 x0.2.1).toNat:Int))),(W (((BitVec.ofInt (IntKind.bits .i64) (W ((W (((BitVec.ofInt (IntKind.bits .i64) (W (((BitVec.ofInt (IntKind.bits .i64) (Int.fdiv (W ((W (x0.2.2*6364136223846793005))+1442695040888963407)) (2 ^ (min (Int.toNat 33) (IntKind.bits .i64)))) ^^^ BitVec.ofInt (IntKind.bits .i64) (Int.fdiv (W ((W (x0.2.2*6364136223846793005))+1442695040888963407)) (2 ^ (min (Int.toNat 45) (IntKind.bits .i64))))).toNat:Int))) &&& BitVec.ofInt (IntKind.bits .i64) 255).toNat:Int)))+((at' x0.1 x0.2.1).toNat:Int))) &&& BitVec.ofInt (IntKind.bits .i64) 255).toNat:Int)))] [(3,.v (I (W (((BitVec.ofInt (IntKind.bits .i64) (W ((W (((BitVec.ofInt (IntKind.bits .i64) (W (((BitVec.ofInt (IntKind.bits .i64) (Int.fdiv (W ((W (x0.2.2*6364136223846793005))+1442695040888963407)) (2 ^ (min (Int.toNat 33) (IntKind.bits .i64)))) ^^^ BitVec.ofInt (IntKind.bits .i64) (Int.fdiv (W ((W (x0.2.2*6364136223846793005))+1442695040888963407)) (2 ^ (min (Int.toNat 45) (IntKind.bits .i64))))).toNat:Int))) &&& BitVec.ofInt (IntKind.bits .i64) 255).toNat:Int)))+((at' x0.1 x0.2.1).toNat:Int))) &&& BitVec.ofInt (IntKind.bits .i64) 255).toNat:Int)))))] E ⟨⟨V,yT _⟩,⟨V,E⟩,⟨V,E⟩,⟨E,V⟩⟩ (oM E (JS.region (aB aA 4 [] [] [(49,.ep ⟨a2,1,1⟩ 0),(52,.ep ⟨a2,1,1⟩ 1)] _ E ⟨(hs21.fa oZ).1,hs21.fa oZ,(Es E),E⟩ (dX aA E E E E E E 1 E E 0 1 ((Sl.v ⟨a3,x0.1.length,c4⟩),x0.2.1,(W ((W (x0.2.2*6364136223846793005))+1442695040888963407))) ⟨E,E⟩ E E E (aB aA 3 [(W (x0.2.1+1))] [] [(54,.v (I (W (x0.2.1+1)))),(56,.ep ⟨a2,1,1⟩ 1)] _ E ⟨⟨V,E⟩,(hs21.fa oZ).1,hs21.fa oZ,(Es E),E⟩ (gO aA E E E E E E E E E [0] (fs:=[]) E 0 1 ((Sl.v ⟨a3,x0.1.length,c4⟩),x0.2.1,(W ((W (x0.2.2*6364136223846793005))+1442695040888963407))) ((Sl.v ⟨a3,x0.1.length,c4⟩),(W (x0.2.1+1)),(W ((W (x0.2.2*6364136223846793005))+1442695040888963407))) ⟨E,E⟩ ⟨⟨⟨E,E,E⟩,E⟩,E⟩ (aC E (aN ((W (((BitVec.ofInt (IntKind.bits .i64) (W ((W (((BitVec.ofInt (IntKind.bits .i64) (W (((BitVec.ofInt (IntKind.bits .i64) (Int.fdiv (W ((W (x0.2.2*6364136223846793005))+1442695040888963407)) (2 ^ (min (Int.toNat 33) (IntKind.bits .i64)))) ^^^ BitVec.ofInt (IntKind.bits .i64) (Int.fdiv (W ((W (x0.2.2*6364136223846793005))+1442695040888963407)) (2 ^ (min (Int.toNat 45) (IntKind.bits .i64))))).toNat:Int))) &&& BitVec.ofInt (IntKind.bits .i64) 255).toNat:Int)))+((at' x0.1 x0.2.1).toNat:Int))) &&& BitVec.ofInt (IntKind.bits .i64) 255).toNat:Int))),(W (x0.2.1+1))) h ⟨E,V⟩ V [0] E [0] E)))))))))))))))
   refine JS.skip (aN ((W (((BitVec.ofInt (IntKind.bits .i64) (W (((BitVec.ofInt (IntKind.bits .i64) (Int.fdiv (W ((W (x0.2.2*6364136223846793005))+1442695040888963407)) (2 ^ (min (Int.toNat 33) (IntKind.bits .i64)))) ^^^ BitVec.ofInt (IntKind.bits .i64) (Int.fdiv (W ((W (x0.2.2*6364136223846793005))+1442695040888963407)) (2 ^ (min (Int.toNat 45) (IntKind.bits .i64))))).toNat:Int))) &&& BitVec.ofInt (IntKind.bits .i64) 255).toNat:Int))),x0.2.1) h ⟨E,V⟩ V [0] E [0] E)
  rintro ⟨x14,x15⟩ h
  subst hj25
  refine aD aA 2 [(2,.v (I x14))] ⟨⟨E,V⟩,E⟩ E E ?_
  cases h
  exact eI aA () V E E [0] E

def bH (x0:List UInt8×Int×Int) (x1:Int):Option (Int×List UInt8×Int×Int):=
  (bif (decide (x1≤0)) then
  some (0,x0)
  else
  (bif (decide (x1≤256)) then
  (aH (eG x0) fun (y8,y9)=>
  (aI (x1≠0) <|
  some ((Int.tmod y8 x1),(x0.1,y9.2.1,y9.2.2))))
  else
  (aH (eG x0) fun (y12,y13)=>
  (aH (eG (x0.1,y13.2.1,y13.2.2)) fun (y15,y16)=>
  (aH (eG (x0.1,y16.2.1,y16.2.2)) fun (y18,y19)=>
  (aH (eG (x0.1,y19.2.1,y19.2.2)) fun (y21,y22)=>
  (aI (x1≠0) <|
  some ((Int.tmod (W ((W ((W ((W (y12*16777216))+(W (y15*65536))))+(W (y18*256))))+y21)) x1),(x0.1,y22.2.1,y22.2.2)))))))))

theorem cA (x0:List UInt8×Int×Int) (x1:Int) (a3:Option Addr) (a4:Option Addr) (c5:Nat) (r:Int×List UInt8×Int×Int) (h:bH x0 x1=some r):
  FX Tryz.prog 13 [.pointer a3,.int .i64 x1] [⟨.byte,⟨a4,x0.1.length,c5⟩,x0.1⟩] [⟨(.pair .val (.pair (.int .i64) (.int .i64))),⟨a3,1,1⟩,[((Sl.v ⟨a4,x0.1.length,c5⟩),x0.2)]⟩] (fun _:Unit=>True) (fun _=>.int .i64 r.1) (fun _=>[⟨(.pair .val (.pair (.int .i64) (.int .i64))),⟨a3,1,1⟩,[((Sl.v ⟨a4,x0.1.length,c5⟩),r.2.2)]⟩]):=
 by
  refine FX.of (T:=TTx) Tryz.call13 Tryz.func13 E E fun w0 L0=>?_
  unfold bH at h
  refine mZ 0 a3 E ?_
  refine aD aA 1 [] ⟨V,E⟩ E E (JS.seq (aD aA 2 [(10,.v (.bool (decide (x1≤0))))] ⟨⟨E,V⟩,E⟩ E E ?_))
  refine aL E h (fun h=>?_) (fun h=>?_)
  ·
   refine aD aA 1 [(4,.v (I 0))] ⟨⟨E,V⟩,E⟩ E E ?_
   cases h
   exact eI aA () V E E [0] E
  refine JS.skip (JS.seq (aD aA 2 [(12,.v (.bool (decide (x1≤256))))] ⟨⟨E,V⟩,E⟩ E E ?_))
  refine aL E h (fun h=>?_) (fun h=>?_)
  ·
   refine JS.seq (JS.region (aB aA 1 [] [] [(13,.ep ⟨a3,1,1⟩ 0)] _ E ⟨⟨E,V⟩,E⟩ ?_))
   obtain ⟨⟨y8,y9⟩,hy10,h⟩:=aE h
   refine cE E E E E (lA x0 a3 a4 c5 _ hy10) E [0] E [0] E E fun _ _=>?_
   obtain ⟨g11,h⟩:=aF h
   refine aB aA 3 [] [] [(4,.v (I (Int.tmod y8 x1)))] _ E ⟨g11,⟨E,V⟩,E⟩ (aC E ?_)
   cases h
   exact eI aA () V E E [0] E
  refine JS.skip (JS.seq (JS.region (aB aA 1 [] [] [(17,.ep ⟨a3,1,1⟩ 0)] _ E ⟨⟨E,V⟩,E⟩ ?_)))
  obtain ⟨⟨y12,y13⟩,hy14,h⟩:=aE h
  refine cE E E E E (lA x0 a3 a4 c5 _ hy14) E [0] E [0] E E fun _ _=>aB aA 1 [] [] [(5,.v (I y12))] _ E ⟨⟨E,V⟩,E⟩ (aC E (JS.seq (JS.region (aB aA 1 [] [] [(19,.ep ⟨a3,1,1⟩ 0)] _ E ⟨⟨E,V⟩,E⟩ ?_))))
  obtain ⟨⟨y15,y16⟩,hy17,h⟩:=aE h
  refine cE E E E E (lA (x0.1,y13.2) a3 a4 c5 _ hy17) E [0] E [0] E E fun _ _=>aB aA 1 [] [] [(6,.v (I y15))] _ E ⟨⟨E,V⟩,E⟩ (aC E (JS.seq (JS.region (aB aA 1 [] [] [(21,.ep ⟨a3,1,1⟩ 0)] _ E ⟨⟨E,V⟩,E⟩ ?_))))
  obtain ⟨⟨y18,y19⟩,hy20,h⟩:=aE h
  refine cE E E E E (lA (x0.1,y16.2) a3 a4 c5 _ hy20) E [0] E [0] E E fun _ _=>aB aA 1 [] [] [(7,.v (I y18))] _ E ⟨⟨E,V⟩,E⟩ (aC E (JS.seq (JS.region (aB aA 1 [] [] [(23,.ep ⟨a3,1,1⟩ 0)] _ E ⟨⟨E,V⟩,E⟩ ?_))))
  obtain ⟨⟨y21,y22⟩,hy23,h⟩:=aE h
  refine cE E E E E (lA (x0.1,y19.2) a3 a4 c5 _ hy23) E [0] E [0] E E fun _ _=>aB aA 1 [] [] [(8,.v (I y21))] _ E ⟨⟨E,V⟩,E⟩ (aC E (JS.seq (JS.region ?_)))
  obtain ⟨g24,h⟩:=aF h
  refine aB aA 13 [(W (y12*16777216)),(W (y15*65536)),(W ((W (y12*16777216))+(W (y15*65536)))),(W (y18*256)),(W ((W ((W (y12*16777216))+(W (y15*65536))))+(W (y18*256)))),(W ((W ((W ((W (y12*16777216))+(W (y15*65536))))+(W (y18*256))))+y21))] [] [(4,.v (I (Int.tmod (W ((W ((W ((W (y12*16777216))+(W (y15*65536))))+(W (y18*256))))+y21)) x1)))] _ E ⟨⟨V,E⟩,⟨V,E⟩,⟨V,E⟩,⟨V,E⟩,⟨V,E⟩,⟨V,E⟩,g24,⟨E,V⟩,E⟩ (aC E ?_)
  cases h
  exact eI aA () V E E [0] E

def kR (x0:List UInt8×Int×Int):Option (Int×List UInt8×Int×Int):=
  (aH (bH x0 12) fun (y7,y8)=>
  (bif (decide (y7<9)) then
  (aH (bH (x0.1,y8.2.1,y8.2.2) 16) fun (y11,y12)=>
  (aI (0≤y11∧y11<(([97,98,99,120,49,50,32,32,46,45,95,233,4352,20013,128512,47]:List Int).length:Int)) <|
  some ((at' ([97,98,99,120,49,50,32,32,46,45,95,233,4352,20013,128512,47]:List Int) y11),(x0.1,y12.2.1,y12.2.2))))
  else
  (bif (decide (y7=9)) then
  (aH (bH (x0.1,y8.2.1,y8.2.2) 94) fun (y16,y17)=>
  some ((W (33+y16)),(x0.1,y17.2.1,y17.2.2)))
  else
  (bif (decide (y7=10)) then
  (aH (bH (x0.1,y8.2.1,y8.2.2) 300) fun (y19,y20)=>
  some ((W (160+y19)),(x0.1,y20.2.1,y20.2.2)))
  else
  (aH (bH (x0.1,y8.2.1,y8.2.2) 2000) fun (y22,y23)=>
  some ((W (19968+y22)),(x0.1,y23.2.1,y23.2.2)))))))

theorem aBj (x0:List UInt8×Int×Int) (a2:Option Addr) (a3:Option Addr) (c4:Nat) (r:Int×List UInt8×Int×Int) (h:kR x0=some r):
  FX Tryz.prog 59 [.pointer a2] [⟨.byte,⟨a3,x0.1.length,c4⟩,x0.1⟩] [⟨(.pair .val (.pair (.int .i64) (.int .i64))),⟨a2,1,1⟩,[((Sl.v ⟨a3,x0.1.length,c4⟩),x0.2)]⟩] (fun _:Unit=>True) (fun _=>.int .i64 r.1) (fun _=>[⟨(.pair .val (.pair (.int .i64) (.int .i64))),⟨a2,1,1⟩,[((Sl.v ⟨a3,x0.1.length,c4⟩),r.2.2)]⟩]):=
 by
  refine FX.of (T:=TTx) Tryz.call59 Tryz.func59 E E fun w0 L0=>?_
  unfold kR at h
  refine mZ 0 a2 E ?_
  refine aD aA 1 [] ⟨V,E⟩ E E (JS.seq (JS.region (aB aA 1 [] [] [(4,.ep ⟨a2,1,1⟩ 0)] _ E ⟨⟨E,V⟩,E⟩ ?_)))
  obtain ⟨⟨y7,y8⟩,hy9,h⟩:=aE h
  refine cE E E E E (cA x0 12 a2 a3 c4 _ hy9) E [0] E [0] E E fun _ _=>aB aA 1 [] [] [(3,.v (I y7))] _ E ⟨⟨E,V⟩,E⟩ (aC E (JS.seq (aD aA 2 [(7,.v (.bool (decide (y7<9))))] ⟨⟨E,V⟩,E⟩ E E ?_)))
  refine aL E h (fun h=>?_) (fun h=>?_)
  ·
   refine JS.seq (JS.region ?_)
   refine kF E (JK.buildSlice aA E E E E E E E E E E E [] E (.int .i64) [97,98,99,120,49,50,32,32,46,45,95,233,4352,20013,128512,47] ⟨E,E⟩ E E fun a10=>kE ?_)
   refine aB aA 1 [] [] [(9,.ep ⟨a2,1,1⟩ 0)] _ E ⟨⟨E,V⟩,E⟩ ?_
   obtain ⟨⟨y11,y12⟩,hy13,h⟩:=aE h
   refine cE E E E E (cA (x0.1,y8.2) 16 a2 a3 c4 _ hy13) E [1] E [0] E E fun _ _=>bT 2 E fun hs28=>?_
   obtain ⟨g15,h⟩:=aF h
   refine aB aA 1 [] [] [(11,.ep ⟨a10,([97,98,99,120,49,50,32,32,46,45,95,233,4352,20013,128512,47]:List Int).length,([97,98,99,120,49,50,32,32,46,45,95,233,4352,20013,128512,47]:List Int).length⟩ (Int.toNat y11*1))] _ E ⟨hs28.ix g15,⟨E,V⟩,E⟩ (JO.load aA E E E E E E E 2 E E (Int.toNat y11) 0 (at' ([97,98,99,120,49,50,32,32,46,45,95,233,4352,20013,128512,47]:List Int) y11) ⟨bD g15,E⟩ E E (aB aA 1 [] [] [(2,.v (I (at' ([97,98,99,120,49,50,32,32,46,45,95,233,4352,20013,128512,47]:List Int) y11)))] _ E ⟨⟨E,V⟩,E⟩ (aC E ?_)))
   cases h
   exact eI aA () V E E [0] E
  refine JS.skip (JS.seq (aD aA 2 [(14,.v (.bool (decide (y7=9))))] ⟨⟨E,V⟩,E⟩ E E ?_))
  refine aL E h (fun h=>?_) (fun h=>?_)
  ·
   refine JS.seq (JS.region (aB aA 1 [] [] [(15,.ep ⟨a2,1,1⟩ 0)] _ E ⟨⟨E,V⟩,E⟩ ?_))
   obtain ⟨⟨y16,y17⟩,hy18,h⟩:=aE h
   refine cE E E E E (cA (x0.1,y8.2) 94 a2 a3 c4 _ hy18) E [0] E [0] E E fun _ _=>aB aA 2 [(W (33+y16))] [] [(2,.v (I (W (33+y16))))] _ E ⟨⟨V,E⟩,⟨E,V⟩,E⟩ (aC E ?_)
   cases h
   exact eI aA () V E E [0] E
  refine JS.skip (JS.seq (aD aA 2 [(19,.v (.bool (decide (y7=10))))] ⟨⟨E,V⟩,E⟩ E E ?_))
  refine aL E h (fun h=>?_) (fun h=>?_)
  ·
   refine JS.seq (JS.region (aB aA 1 [] [] [(20,.ep ⟨a2,1,1⟩ 0)] _ E ⟨⟨E,V⟩,E⟩ ?_))
   obtain ⟨⟨y19,y20⟩,hy21,h⟩:=aE h
   refine cE E E E E (cA (x0.1,y8.2) 300 a2 a3 c4 _ hy21) E [0] E [0] E E fun _ _=>aB aA 2 [(W (160+y19))] [] [(2,.v (I (W (160+y19))))] _ E ⟨⟨V,E⟩,⟨E,V⟩,E⟩ (aC E ?_)
   cases h
   exact eI aA () V E E [0] E
  refine JS.skip (JS.seq (JS.region (aB aA 1 [] [] [(23,.ep ⟨a2,1,1⟩ 0)] _ E ⟨⟨E,V⟩,E⟩ ?_)))
  obtain ⟨⟨y22,y23⟩,hy24,h⟩:=aE h
  refine cE E E E E (cA (x0.1,y8.2) 2000 a2 a3 c4 _ hy24) E [0] E [0] E E fun _ _=>aB aA 2 [(W (19968+y22))] [] [(2,.v (I (W (19968+y22))))] _ E ⟨⟨V,E⟩,⟨E,V⟩,E⟩ (aC E ?_)
  cases h
  exact eI aA () V E E [0] E

def gD (x0:List UInt8×Int×Int) (j38:(List Int×Int×Int)→Option (List Int×List UInt8×Int×Int)) (k30:(List Int×Int×Int×Int)→Option (List Int×List UInt8×Int×Int)):(List Int×Int×Int×Int)→Option (List Int×List UInt8×Int×Int):=fun (x12,x15,x19,x20)=>
  (bif (decide (0<x15)) then
  (aH (kR (x0.1,x19,x20)) fun (y21,y22)=>
  (aI (x12.length+([y21]:List Int).length≤536870912) <|
  k30 ((x12 ++ ([y21]:List Int)),(W (x15 - 1)),y22.2.1,y22.2.2)))
  else
  j38 (x12,x19,x20))

def iV (x0:List UInt8×Int×Int) (x1:Int):Option (List Int×List UInt8×Int×Int):=
  (aH (bH x0 (W (x1+1))) fun (y9,y10)=>
  (aY (fun ((x33,x36,x37):List Int×Int×Int)=>
  some (x33,(x0.1,x36,x37))) fun j38=>
  (bI (gD x0 j38) bO (([]:List Int),y9,y10.2.1,y10.2.2))))

theorem zJ (x0:List UInt8×Int×Int) (x1:Int) (a3:Option Addr) (a4:Option Addr) (c5:Nat) (r:List Int×List UInt8×Int×Int) (h:iV x0 x1=some r):
  FX Tryz.prog 42 [.pointer a3,.int .i64 x1] [⟨.byte,⟨a4,x0.1.length,c5⟩,x0.1⟩] [⟨(.pair .val (.pair (.int .i64) (.int .i64))),⟨a3,1,1⟩,[((Sl.v ⟨a4,x0.1.length,c5⟩),x0.2)]⟩] (fun _:Option Addr×Nat=>True) (fun q=>.slice q.1 r.1.length q.2) (fun q=>[⟨(.pair .val (.pair (.int .i64) (.int .i64))),⟨a3,1,1⟩,[((Sl.v ⟨a4,x0.1.length,c5⟩),r.2.2)]⟩,⟨(.int .i64),⟨q.1,r.1.length,q.2⟩,r.1⟩]):=
 by
  refine FX.of (T:=TTx) Tryz.call42 Tryz.func42 E E fun w0 L0=>?_
  unfold iV at h
  refine mZ 0 a3 E ?_
  refine aD aA 1 [] ⟨V,E⟩ E E (JS.seq (JS.region ?_))
  refine kF E (JK.buildSlice aA E E E E E E E E E E E [] E (.int .i64) [] ⟨E,E⟩ E E fun a8=>kE ?_)
  refine aB aA 1 [] [] [(5,.v (.slice a8 ([]:List Int).length ([]:List Int).length))] _ E ⟨⟨E,V⟩,E⟩ (aC E (JS.seq (JS.seq (JS.region (aB aA 3 [(W (x1+1))] [] [(8,.ep ⟨a3,1,1⟩ 0),(10,.v (I (W (x1+1))))] _ E ⟨⟨V,E⟩,(Es E),E⟩ ?_)))))
  obtain ⟨⟨y9,y10⟩,hy11,h⟩:=aE h
  refine cE E E E E (cA x0 (W (x1+1)) a3 a4 c5 _ hy11) E [1] E [0] E E fun _ _=>aB aA 1 [] [] [(6,.v (I y9))] _ E ⟨⟨E,V⟩,E⟩ (aC E ?_)
  obtain ⟨j38,hj42,h⟩:=aO h
  refine bF (ι:=List Int×Int×Int×Option Addr×Nat) ⟨fun z=>j38 (z.1,z.2.1,z.2.2.1)=some r,fun z=>[(5,.v (.slice z.2.2.2.1 z.1.length (Q4 z)))],fun z=>.nil,fun z=>[⟨.byte,⟨a4,x0.1.length,c5⟩,x0.1⟩],fun z=>[⟨(.int .i64),⟨z.2.2.2.1,z.1.length,(Q4 z)⟩,z.1⟩,⟨(.pair .val (.pair (.int .i64) (.int .i64))),⟨a3,1,1⟩,[((Sl.v ⟨a4,x0.1.length,c5⟩),z.2.1,z.2.2.1)]⟩],fun z=>0⟩ ?_ ?_
  ·
   refine JS.loop (ι:=Nat×List Int×Int×Int×Int×Option Addr×Nat) ⟨fun z=>bI (gD x0 j38) z.1 (z.2.1,z.2.2.1,z.2.2.2.1,(Q4 z).1)=some r,fun z=>[(0,.ep ⟨a3,1,1⟩ 0),(5,.v (.slice (Q4 z).2.1 z.2.1.length (Q4 z).2.2)),(6,.v (I z.2.2.1))],fun z=>.nil,fun z=>[⟨.byte,⟨a4,x0.1.length,c5⟩,x0.1⟩],fun z=>[⟨(.int .i64),⟨(Q4 z).2.1,z.2.1.length,(Q4 z).2.2⟩,z.2.1⟩,⟨(.pair .val (.pair (.int .i64) (.int .i64))),⟨a3,1,1⟩,[((Sl.v ⟨a4,x0.1.length,c5⟩),z.2.2.2.1,(Q4 z).1)]⟩],fun z=>z.1⟩ (bO,([]:List Int),y9,y10.2.1,y10.2.2,a8,([]:List Int).length) h (Es E) V [0] E [1,0] E ?_
   rintro ⟨n31,x12,x15,x19,x20,a13,c14⟩ h
   obtain ⟨n31,rfl,h⟩:=bM h
   rw [gD] at h
   refine JS.seq (aD aA 2 [(13,.v (.bool (decide (0<x15))))] ⟨⟨E,V⟩,E⟩ E E ?_)
   refine aL E h (fun h=>?_) (fun h=>?_)
   ·
    refine JS.skip (JS.seq (JS.block (JS.region (aB aA 2 [] [] [(16,.v (.slice a13 x12.length c14)),(17,.ep ⟨a3,1,1⟩ 0)] _ E ⟨(Es E),E⟩ ?_))))
    obtain ⟨⟨y21,y22⟩,hy23,h⟩:=aE h
    refine cE E E E E (aBj (x0.1,x19,x20) a3 a4 c5 _ hy23) E [1] E [0] E E fun _ _=>?_
    refine kF E (JK.buildSlice aA E E E E E E E E E E E [] E (.int .i64) [y21] ⟨E,E⟩ E E fun a24=>kE ?_)
    obtain ⟨g25,h⟩:=aF h
    refine eN aA E E E E ⟨E,E,E,E,V,E,E,E,E⟩ E E E [2] E 1 E g25 E fun a26 c27=>aB aA 1 [] [] [(5,.v (.slice a26 (x12 ++ ([y21]:List Int)).length c27))] _ E ⟨⟨E,V⟩,E⟩ (aC E (aV (cW aA 3 [(W (x15 - 1))] [] [(6,.v (I (W (x15 - 1))))] _ ⟨⟨V,E⟩,⟨E,V⟩,E⟩ E E (bZ (n31,(x12 ++ ([y21]:List Int)),(W (x15 - 1)),y22.2.1,y22.2.2,a26,c27) h (Nat.lt_succ_self _) (Es E) V [0] E [0,1] E))))
   refine JS.exit E (aN (x12,x19,x20,a13,c14) h ⟨E,V⟩ V [0] E [0,0] E)
  rintro ⟨x33,x36,x37,a34,c35⟩ h
  subst hj42
  refine aD aA 2 [(4,.v (.slice a34 x33.length c35))] ⟨⟨E,V⟩,E⟩ E E ?_
  cases h
  exact eI aA (a34,c35) V E E [1,0] E

def eW (x0:List UInt8×Int×Int) (y8:List Int) (j106:(List Int×Int×Int)→Option (List Int×List UInt8×Int×Int)) (k89:(List Int×Int×Int×Int)→Option (List Int×List UInt8×Int×Int)):(List Int×Int×Int×Int)→Option (List Int×List UInt8×Int×Int):=fun (x13,x16,x20,x21)=>
  (bif (decide (x16<(y8.length:Int))) then
  (aY (fun ((x51,x54,x55):List Int×Int×Int)=>
  k89 (x51,(W (x16+1)),x54,x55)) fun j56=>
  (aH (bH (x0.1,x20,x21) 14) fun (y22,y23)=>
  (aY (fun (x28:List Int)=>
  (aY (fun (x37:List Int)=>
  (bif (decide (y22=2)) then
  (aH (bH (x0.1,y23.2.1,y23.2.2) 26) fun (y43,y44)=>
  (aI (0≤x16∧x16<(x37.length:Int)) <|
  j56 ((List.set x37 (Int.toNat x16) (W (65+y43))),y44.2.1,y44.2.2)))
  else
  j56 (x37,y23.2.1,y23.2.2))) fun j40=>
  (bif (decide (y22=1)) then
  (aI (0≤x16∧x16<(x28.length:Int)) <|
  j40 (List.set x28 (Int.toNat x16) 10))
  else
  j40 x28))) fun j31=>
  (bif (decide (y22=0)) then
  (aI (0≤x16∧x16<(x13.length:Int)) <|
  j31 (List.set x13 (Int.toNat x16) 9))
  else
  j31 x13))))
  else
  j106 (x13,x20,x21))

def fC (x0:List UInt8×Int×Int) (x1:Int):Option (List Int×List UInt8×Int×Int):=
  (aH (iV x0 x1) fun (y8,y9)=>
  (aY (fun ((x101,x104,x105):List Int×Int×Int)=>
  some (x101,(x0.1,x104,x105))) fun j106=>
  (bI (eW x0 y8 j106) bO (y8,0,y9.2.1,y9.2.2))))

theorem sT (x0:List UInt8×Int×Int) (x1:Int) (a3:Option Addr) (a4:Option Addr) (c5:Nat) (r:List Int×List UInt8×Int×Int) (h:fC x0 x1=some r):
  FX Tryz.prog 26 [.pointer a3,.int .i64 x1] [⟨.byte,⟨a4,x0.1.length,c5⟩,x0.1⟩] [⟨(.pair .val (.pair (.int .i64) (.int .i64))),⟨a3,1,1⟩,[((Sl.v ⟨a4,x0.1.length,c5⟩),x0.2)]⟩] (fun _:Option Addr×Nat=>True) (fun q=>.slice q.1 r.1.length q.2) (fun q=>[⟨(.pair .val (.pair (.int .i64) (.int .i64))),⟨a3,1,1⟩,[((Sl.v ⟨a4,x0.1.length,c5⟩),r.2.2)]⟩,⟨(.int .i64),⟨q.1,r.1.length,q.2⟩,r.1⟩]):=
 by
  refine FX.of (T:=TTx) Tryz.call26 Tryz.func26 E E fun w0 L0=>?_
  unfold fC at h
  refine mZ 0 a3 E ?_
  refine aD aA 1 [] ⟨V,E⟩ E E (JS.seq (JS.region (aB aA 2 [] [] [(8,.ep ⟨a3,1,1⟩ 0),(9,.v (I x1))] _ E ⟨(Es E),E⟩ ?_)))
  obtain ⟨⟨y8,y9⟩,hy10,h⟩:=aE h
  refine cE E E E E (zJ x0 x1 a3 a4 c5 _ hy10) E [0] E [0] E E ?_
  rintro ⟨a11,c12⟩ -
  refine aB aA 1 [] [] [(5,.v (.slice a11 y8.length c12))] _ E ⟨⟨E,V⟩,E⟩ (aC E (JS.seq (aD aA 3 [(12,.v (I (y8.length:Int))),(13,.v (I 0))] ⟨(Es E),E⟩ E E ?_)))
  obtain ⟨j106,hj128,h⟩:=aO h
  refine bF (ι:=List Int×Int×Int×Option Addr×Nat) ⟨fun z=>j106 (z.1,z.2.1,z.2.2.1)=some r,fun z=>[(5,.v (.slice z.2.2.2.1 z.1.length (Q4 z)))],fun z=>.nil,fun z=>[⟨.byte,⟨a4,x0.1.length,c5⟩,x0.1⟩],fun z=>[⟨(.int .i64),⟨z.2.2.2.1,z.1.length,(Q4 z)⟩,z.1⟩,⟨(.pair .val (.pair (.int .i64) (.int .i64))),⟨a3,1,1⟩,[((Sl.v ⟨a4,x0.1.length,c5⟩),z.2.1,z.2.2.1)]⟩],fun z=>0⟩ ?_ ?_
  ·
   refine JS.loop (ι:=Nat×List Int×Int×Int×Int×Option Addr×Nat) ⟨fun z=>bI (eW x0 y8 j106) z.1 (z.2.1,z.2.2.1,z.2.2.2.1,(Q4 z).1)=some r,fun z=>[(0,.ep ⟨a3,1,1⟩ 0),(5,.v (.slice (Q4 z).2.1 z.2.1.length (Q4 z).2.2)),(12,.v (I (y8.length:Int))),(13,.v (I z.2.2.1))],fun z=>.nil,fun z=>[⟨.byte,⟨a4,x0.1.length,c5⟩,x0.1⟩],fun z=>[⟨(.int .i64),⟨(Q4 z).2.1,z.2.1.length,(Q4 z).2.2⟩,z.2.1⟩,⟨(.pair .val (.pair (.int .i64) (.int .i64))),⟨a3,1,1⟩,[((Sl.v ⟨a4,x0.1.length,c5⟩),z.2.2.2.1,(Q4 z).1)]⟩],fun z=>z.1⟩ (bO,y8,0,y9.2.1,y9.2.2,a11,c12) h (Es E) V [0] E [1,0] E ?_
   rintro ⟨n90,x13,x16,x20,x21,a14,c15⟩ h
   obtain ⟨n90,rfl,h⟩:=bM h
   rw [eW] at h
   refine aD aA 1 [(14,.v (.bool (decide (x16<(y8.length:Int)))))] ⟨⟨E,V⟩,E⟩ E E (JS.seq ?_)
   refine aL E h (fun h=>?_) (fun h=>?_)
   ·
    refine JS.skip (JS.seq ?_)
    obtain ⟨j56,hj126,h⟩:=aO h
    refine bF (ι:=List Int×Int×Int×Option Addr×Nat) ⟨fun z=>j56 (z.1,z.2.1,z.2.2.1)=some r,fun z=>[(0,.ep ⟨a3,1,1⟩ 0),(5,.v (.slice z.2.2.2.1 z.1.length (Q4 z))),(12,.v (I (y8.length:Int))),(13,.v (I x16))],fun z=>.nil,fun z=>[⟨.byte,⟨a4,x0.1.length,c5⟩,x0.1⟩],fun z=>[⟨(.int .i64),⟨z.2.2.2.1,z.1.length,(Q4 z)⟩,z.1⟩,⟨(.pair .val (.pair (.int .i64) (.int .i64))),⟨a3,1,1⟩,[((Sl.v ⟨a4,x0.1.length,c5⟩),z.2.1,z.2.2.1)]⟩],fun z=>0⟩ ?_ ?_
    ·
     refine aD aA 2 [(6,.v (I x16))] ⟨⟨E,V⟩,E⟩ E E (JS.seq (JS.region (aB aA 1 [] [] [(16,.ep ⟨a3,1,1⟩ 0)] _ E ⟨⟨E,V⟩,E⟩ ?_)))
     obtain ⟨⟨y22,y23⟩,hy24,h⟩:=aE h
     refine cE E E E E (cA (x0.1,x20,x21) 14 a3 a4 c5 _ hy24) E [1] E [0] E E fun _ _=>aB aA 1 [] [] [(7,.v (I y22))] _ E ⟨⟨E,V⟩,E⟩ (aC E ?_)
     obtain ⟨j31,hj125,h⟩:=aO h
     refine eH (ι:=List Int×Option Addr×Nat) ⟨fun z=>j31 z.1=some r,fun z=>[(0,.ep ⟨a3,1,1⟩ 0),(5,.v (.slice z.2.1 z.1.length z.2.2)),(6,.v (I x16)),(7,.v (I y22)),(12,.v (I (y8.length:Int))),(13,.v (I x16))],fun z=>.nil,fun z=>[⟨.byte,⟨a4,x0.1.length,c5⟩,x0.1⟩],fun z=>[⟨(.int .i64),⟨z.2.1,z.1.length,z.2.2⟩,z.1⟩,⟨(.pair .val (.pair (.int .i64) (.int .i64))),⟨a3,1,1⟩,[((Sl.v ⟨a4,x0.1.length,c5⟩),y23.2)]⟩],fun z=>0⟩ ?_ ?_
     ·
      refine aD aA 2 [(19,.v (.bool (decide (y22=0))))] ⟨⟨E,V⟩,E⟩ E E ?_
      refine aL E h (fun h=>?_) (fun h=>?_)
      ·
       refine JS.region (bT 2 E fun hs118=>?_)
       obtain ⟨g26,h⟩:=aF h
       refine aB aA 3 [] [] [(22,.ep ⟨a14,x13.length,c15⟩ (Int.toNat x16*1))] _ E ⟨hs118.ix g26,⟨E,V⟩,E⟩ (gO aA E E E E E E E E E [1] (fs:=[]) E (Int.toNat x16) 0 (at' x13 x16) 9 ⟨bD g26,E⟩ ⟨E,E,E⟩ (aC E (aN ((List.set x13 (Int.toNat x16) 9),a14,c15) h ⟨E,(by simp only [List.length_set,List.length_replicate,bX,dG,mN];rfl),E,E,E,E,V⟩ V [0] E [0,0] (by simp only [List.length_set,List.length_replicate,bX,dG,mN];rfl))))
      refine JS.skip (aN (x13,a14,c15) h (Es E) V [0] E [1,0] E)
     rintro ⟨x28,a29,c30⟩ h
     subst hj125
     obtain ⟨j40,hj124,h⟩:=aO h
     refine eH (ι:=List Int×Option Addr×Nat) ⟨fun z=>j40 z.1=some r,fun z=>[(0,.ep ⟨a3,1,1⟩ 0),(5,.v (.slice z.2.1 z.1.length z.2.2)),(6,.v (I x16)),(7,.v (I y22)),(12,.v (I (y8.length:Int))),(13,.v (I x16))],fun z=>.nil,fun z=>[⟨.byte,⟨a4,x0.1.length,c5⟩,x0.1⟩],fun z=>[⟨(.int .i64),⟨z.2.1,z.1.length,z.2.2⟩,z.1⟩,⟨(.pair .val (.pair (.int .i64) (.int .i64))),⟨a3,1,1⟩,[((Sl.v ⟨a4,x0.1.length,c5⟩),y23.2)]⟩],fun z=>0⟩ ?_ ?_
     ·
      refine aD aA 2 [(24,.v (.bool (decide (y22=1))))] ⟨⟨E,V⟩,E⟩ E E ?_
      refine aL E h (fun h=>?_) (fun h=>?_)
      ·
       refine JS.region (bT 1 E fun hs120=>?_)
       obtain ⟨g35,h⟩:=aF h
       refine aB aA 3 [] [] [(27,.ep ⟨a29,x28.length,c30⟩ (Int.toNat x16*1))] _ E ⟨hs120.ix g35,⟨E,V⟩,E⟩ (gO aA E E E E E E E E E [0] (fs:=[]) E (Int.toNat x16) 0 (at' x28 x16) 10 ⟨bD g35,E⟩ ⟨E,E,E⟩ (aC E (aN ((List.set x28 (Int.toNat x16) 10),a29,c30) h ⟨E,(by simp only [List.length_set,List.length_replicate,bX,dG,mN];rfl),E,E,E,E,V⟩ V [0] E [0,0] (by simp only [List.length_set,List.length_replicate,bX,dG,mN];rfl))))
      refine JS.skip (aN (x28,a29,c30) h (Es E) V [0] E [0,0] E)
     rintro ⟨x37,a38,c39⟩ h
     subst hj124
     refine aD aA 2 [(29,.v (.bool (decide (y22=2))))] ⟨⟨E,V⟩,E⟩ E E ?_
     refine aL E h (fun h=>?_) (fun h=>?_)
     ·
      refine JS.region (aB aA 3 [] [] [(30,.v (.slice a38 x37.length c39)),(31,.v (I x16)),(32,.ep ⟨a3,1,1⟩ 0)] _ E ⟨(Es E),E⟩ ?_)
      obtain ⟨⟨y43,y44⟩,hy45,h⟩:=aE h
      refine cE E E E E (cA (x0.1,y23.2) 26 a3 a4 c5 _ hy45) E [1] E [0] E E fun _ _=>bT 2 E fun hs122=>?_
      obtain ⟨g47,h⟩:=aF h
      refine aB aA 2 [(W (65+y43))] [] [(34,.v (I (W (65+y43)))),(35,.ep ⟨a38,x37.length,c39⟩ (Int.toNat x16*1))] _ E ⟨⟨V,E⟩,hs122.ix g47,(Es E),E⟩ (gO aA E E E E E E E E E [1] (fs:=[]) E (Int.toNat x16) 0 (at' x37 x16) (W (65+y43)) ⟨bD g47,E⟩ ⟨E,E,E⟩ (aC E (aV (aN ((List.set x37 (Int.toNat x16) (W (65+y43))),y44.2.1,y44.2.2,a38,c39) h ⟨E,(by simp only [List.length_set,List.length_replicate,bX,dG,mN];rfl),E,E,V⟩ V [0] E [0,0] (by simp only [List.length_set,List.length_replicate,bX,dG,mN];rfl)))))
     refine JS.skip (aV (aN (x37,y23.2.1,y23.2.2,a38,c39) h (Es E) V [0] E [0,0] E))
    rintro ⟨x51,x54,x55,a52,c53⟩ h
    subst hj126
    refine cW aA 2 [(W (x16+1))] [] [(13,.v (I (W (x16+1))))] _ ⟨⟨V,E⟩,⟨E,V⟩,E⟩ E E (bZ (n90,x51,(W (x16+1)),x54,x55,a52,c53) h (Nat.lt_succ_self _) (Es E) V [0] E [0,0] E)
   refine JS.exit E (aN (x13,x20,x21,a14,c15) h ⟨E,V⟩ V [0] E [0,0] E)
  rintro ⟨x101,x104,x105,a102,c103⟩ h
  subst hj128
  refine aD aA 2 [(4,.v (.slice a102 x101.length c103))] ⟨⟨E,V⟩,E⟩ E E ?_
  cases h
  exact eI aA (a102,c103) V E E [1,0] E

def kP (x0:List UInt8×Int×Int):Option ((List Int×Int)×List UInt8×Int×Int):=
  (aH (fC x0 16) fun (y7,y8)=>
  (aH (bH (x0.1,y8.2.1,y8.2.2) (W ((y7.length:Int)+1))) fun (y12,y13)=>
  some ((y7,y12),(x0.1,y13.2.1,y13.2.2))))

theorem aBh (x0:List UInt8×Int×Int) (a2:Option Addr) (a3:Option Addr) (c4:Nat) (r:(List Int×Int)×List UInt8×Int×Int) (h:kP x0=some r):
  FX Tryz.prog 11 [.pointer a2] [⟨.byte,⟨a3,x0.1.length,c4⟩,x0.1⟩] [⟨(.pair .val (.pair (.int .i64) (.int .i64))),⟨a2,1,1⟩,[((Sl.v ⟨a3,x0.1.length,c4⟩),x0.2)]⟩] (fun _:Option Addr×Nat=>True) (fun q=>.agg #[.slice q.1 r.1.1.length q.2,.int .i64 r.1.2]) (fun q=>[⟨(.pair .val (.pair (.int .i64) (.int .i64))),⟨a2,1,1⟩,[((Sl.v ⟨a3,x0.1.length,c4⟩),r.2.2)]⟩,⟨(.int .i64),⟨q.1,r.1.1.length,q.2⟩,r.1.1⟩]):=
 by
  refine FX.of (T:=TTx) Tryz.call11 Tryz.func11 E E fun w0 L0=>?_
  unfold kP at h
  refine mZ 0 a2 E ?_
  refine aR aA 1 [] [3] [(2,.bp 3 0)] (.new 3 25 [.slice none 0 0,.int .i64 0] .nil) ⟨⟨E,V⟩,(Bs E E)⟩ E E (JS.seq (JS.region (aB aA 1 [] [] [(4,.ep ⟨a2,1,1⟩ 0)] _ E ⟨⟨E,V⟩,E⟩ ?_)))
  obtain ⟨⟨y7,y8⟩,hy9,h⟩:=aE h
  refine cE E E E E (sT x0 16 a2 a3 c4 _ hy9) E [0] E [0] E E ?_
  rintro ⟨a10,c11⟩ -
  refine aB aA 1 [] [] [(3,.v (.slice a10 y7.length c11))] _ E ⟨⟨E,V⟩,E⟩ (aC E (JS.seq (JS.region (aB aA 5 [(W ((y7.length:Int)+1))] [] [(6,.v (.slice a10 y7.length c11)),(7,.ep ⟨a2,1,1⟩ 0),(10,.v (I (W ((y7.length:Int)+1))))] _ E ⟨⟨V,E⟩,(Es E),E⟩ ?_))))
  obtain ⟨⟨y12,y13⟩,hy14,h⟩:=aE h
  refine cE E E E E (cA (x0.1,y8.2) (W ((y7.length:Int)+1)) a2 a3 c4 _ hy14) E [0] E [0] E E fun _ _=>aS aA 2 [] [] [] (.new 3 25 [.slice a10 y7.length c11,.int .i64 y12] .nil) E ⟨V,(Bs E E)⟩ (aC E ?_)
  cases h
  exact eI aA (a10,c11) V E E [0,0] E

def qH (x0:Int):Option Bool:=
  some (bif (bif (decide (0≤x0)) then (decide (x0≤1114111)) else false) then (bif (decide (x0<55296)) then true else (decide (57343<x0))) else false)

theorem aC2 (x0:Int) (r:Bool) (h:qH x0=some r) :
  FC Tryz.prog 151 [.int .i64 x0] [] (fun _:Unit=>True) (fun _=>.bool r) (fun _=>[]):=
 by
  refine FC.of (T:=TTx) Tryz.call151 Tryz.func151 E E fun w0=>?_
  unfold qH at h
  refine aD aA 1 [] ⟨V,E⟩ E E (aD aA 15 [(2,.v (.bool (bif (bif (decide (0≤x0)) then (decide (x0≤1114111)) else false) then (bif (decide (x0<55296)) then true else (decide (57343<x0))) else false)))] ⟨⟨E,V⟩,E⟩ E E ?_)
  cases h
  exact JS.ret aA () V E E [] E

def jH (x0:Int):Option Bool:=
  (aH (qH x0) fun (y2:Bool)=>
  some (bif (bif y2 then (decide (32≤x0)) else false) then (bif (decide (x0<127)) then true else (decide (159<x0))) else false))

theorem xT (x0:Int) (r:Bool) (h:jH x0=some r) :
  FC Tryz.prog 122 [.int .i64 x0] [] (fun _:Unit=>True) (fun _=>.bool r) (fun _=>[]):=
 by
  refine FC.of (T:=TTx) Tryz.call122 Tryz.func122 E E fun w0=>?_
  unfold jH at h
  refine aD aA 1 [] ⟨V,E⟩ E E (JS.seq (JS.region (aB aA 1 [] [] [(3,.v (I x0))] _ E ⟨⟨E,V⟩,E⟩ ?_)))
  refine bnw h fun y2 hy3 h=>JO.call E E E E (aC2 x0 _ hy3) E [] E E fun _ _=>aB aA 13 [] [] [(2,.v (.bool (bif (bif y2 then (decide (32≤x0)) else false) then (bif (decide (x0<127)) then true else (decide (159<x0))) else false)))] _ E ⟨⟨E,V⟩,E⟩ (aC E ?_)
  cases h
  exact JS.ret aA () V E E [] E

def lI (x0:Int):Option Bool:=
  (aH (jH x0) fun (y2:Bool)=>
  some (bif (bif y2 then true else (decide (x0=9))) then true else (decide (x0=10))))

theorem zI (x0:Int) (r:Bool) (h:lI x0=some r) :
  FC Tryz.prog 79 [.int .i64 x0] [] (fun _:Unit=>True) (fun _=>.bool r) (fun _=>[]):=
 by
  refine FC.of (T:=TTx) Tryz.call79 Tryz.func79 E E fun w0=>?_
  unfold lI at h
  refine aD aA 1 [] ⟨V,E⟩ E E (JS.seq (JS.region (aB aA 1 [] [] [(3,.v (I x0))] _ E ⟨⟨E,V⟩,E⟩ ?_)))
  refine bnw h fun y2 hy3 h=>JO.call E E E E (xT x0 _ hy3) E [] E E fun _ _=>aB aA 9 [] [] [(2,.v (.bool (bif (bif y2 then true else (decide (x0=9))) then true else (decide (x0=10)))))] _ E ⟨⟨E,V⟩,E⟩ (aC E ?_)
  cases h
  exact JS.ret aA () V E E [] E

def eB (x0:List Int) (j18:Unit→Option Bool) (k13:Int→Option Bool):Int→Option Bool:=fun x6=>
  (bif (decide (x6<(x0.length:Int))) then
  (aI (0≤x6∧x6<(x0.length:Int)) <|
  (aH (lI (at' x0 x6)) fun (y9:Bool)=>
  (bif (!y9) then
  some false
  else
  k13 (W (x6+1)))))
  else
  j18 ())

def gC (x0:List Int):Option Bool:=
  (aY (fun (_:Unit)=>
  some true) fun j18=>
  (bI (eB x0 j18) bO 0))

theorem vO (x0:List Int) (a2:Option Addr) (c3:Nat) (r:Bool) (h:gC x0=some r):
  FC Tryz.prog 60 [.slice a2 x0.length c3] [⟨(.int .i64),⟨a2,x0.length,c3⟩,x0⟩] (fun _:Unit=>True) (fun _=>.bool r) (fun _=>[]):=
 by
  refine FC.of (T:=TTx) Tryz.call60 Tryz.func60 E E fun w0=>?_
  unfold gC at h
  refine aD aA 1 [] ⟨V,E⟩ E E (JS.seq (aD aA 3 [(5,.v (.slice a2 x0.length c3)),(6,.v (I (x0.length:Int))),(7,.v (I 0))] ⟨(Es E),E⟩ E E ?_))
  obtain ⟨j18,hj26,h⟩:=aO h
  refine bF (ι:=Unit) ⟨fun _=>j18 ()=some r,fun _=>[],fun _=>.nil,fun _=>[],fun _=>[],fun _=>0⟩ ?_ ?_
  ·
   refine JS.loop (ι:=Nat×Int) ⟨fun z=>bI (eB x0 j18) z.1 z.2=some r,fun z=>[(5,.v (.slice a2 x0.length c3)),(6,.v (I (x0.length:Int))),(7,.v (I z.2))],fun z=>.nil,fun z=>[⟨(.int .i64),⟨a2,x0.length,c3⟩,x0⟩],fun z=>[],fun z=>z.1⟩ (bO,0) h (Es E) V [0] E [] E ?_
   rintro ⟨n14,x6⟩ h
   obtain ⟨n14,rfl,h⟩:=bM h
   rw [eB] at h
   refine aD aA 1 [(8,.v (.bool (decide (x6<(x0.length:Int)))))] ⟨⟨E,V⟩,E⟩ E E (JS.seq ?_)
   refine aL E h (fun h=>?_) (fun h=>?_)
   ·
    refine JS.skip (JS.seq (JS.block (JS.seq (JS.region (bT 0 E fun hs23=>?_)))))
    obtain ⟨g8,h⟩:=aF h
    refine aB aA 1 [] [] [(9,.ep ⟨a2,x0.length,c3⟩ (Int.toNat x6*1))] _ E ⟨hs23.ix g8,⟨E,V⟩,E⟩ (JO.load aA E E E E E E E 0 E E (Int.toNat x6) 0 (at' x0 x6) ⟨bD g8,E⟩ E E (aB aA 1 [] [] [(4,.v (I (at' x0 x6)))] _ E ⟨⟨E,V⟩,E⟩ (aC E (JS.seq (JS.region (aB aA 1 [] [] [(11,.v (I (at' x0 x6)))] _ E ⟨⟨E,V⟩,E⟩ ?_))))))
    refine bnw h fun y9 hy10 h=>JO.call E E E E (zI (at' x0 x6) _ hy10) E [] E E fun _ _=>aB aA 1 [] [] [(13,.v (.bool (!y9)))] _ E ⟨⟨E,V⟩,E⟩ (aC E ?_)
    refine aL E h (fun h=>?_) (fun h=>?_)
    ·
     refine aD aA 1 [(2,.v (.bool false))] ⟨⟨E,V⟩,E⟩ E E ?_
     cases h
     exact JS.ret aA () V E E [] E
    refine JS.skip (aV (cW aA 2 [(W (x6+1))] [] [(7,.v (I (W (x6+1))))] _ ⟨⟨V,E⟩,⟨E,V⟩,E⟩ E E (bZ (n14,(W (x6+1))) h (Nat.lt_succ_self _) (Es E) V [0] E [] E)))
   refine JS.exit E (aN () h V V [] E [] E)
  rintro _ h
  subst hj26
  refine aD aA 1 [(2,.v (.bool true))] ⟨⟨E,V⟩,E⟩ E E ?_
  cases h
  exact JS.ret aA () V E E [] E

def fB (x0:List Int):Option Bool:=
  (bU ((decide ((x0.length:Int)≤400))=true) (gC x0) false fun (y6:Bool)=>
  some (bif (decide ((x0.length:Int)≤400)) then y6 else false))

theorem sS (x0:List Int) (a2:Option Addr) (c3:Nat) (r:Bool) (h:fB x0=some r):
  FC Tryz.prog 44 [.slice a2 x0.length c3] [⟨(.int .i64),⟨a2,x0.length,c3⟩,x0⟩] (fun _:Unit=>True) (fun _=>.bool r) (fun _=>[]):=
 by
  refine FC.of (T:=TTx) Tryz.call44 Tryz.func44 E E fun w0=>?_
  unfold fB at h
  refine aD aA 1 [] ⟨V,E⟩ E E (JS.seq (JS.region (aB aA 5 [] [] [(6,.v (.bool (decide ((x0.length:Int)≤400)))),(7,.cd [(6,true)] (.v (.slice a2 x0.length c3)))] _ E ⟨(Es E),E⟩ ?_)))
  obtain ⟨y6,hy7,-,h⟩:=aU h
  refine bJ E E E E (fun q9=>vO x0 a2 c3 _ (hy7 q9)) E [0] E E (aB aA 2 [] [] [(2,.v (.bool (bif (decide ((x0.length:Int)≤400)) then y6 else false)))] _ E ⟨⟨E,V⟩,E⟩ (aC E ?_))
  cases h
  exact JS.ret aA () V E E [] E

def jG (x0:List (List Int)) (j32:Unit→Option Bool) (k26:Int→Option Bool):Int→Option Bool:=fun x6=>
  (bif (decide (x6<(x0.length:Int))) then
  (aI (0≤x6∧x6<(x0.length:Int)) <|
  (bU ((decide (((at' x0 x6).length:Int)=0))=false) (fB (at' x0 x6)) false fun (y17:Bool)=>
  (bif (bif (decide (((at' x0 x6).length:Int)=0)) then true else (!y17)) then
  some false
  else
  k26 (W (x6+1)))))
  else
  j32 ())

def oB (x0:List (List Int)):Option Bool:=
  (aY (fun (_:Unit)=>
  some (decide ((x0.length:Int)≤6))) fun j32=>
  (bI (jG x0 j32) bO 0))

theorem aC3 (x0:List (List Int)) (a2:Option Addr) (c3:Nat) (r:Bool) (h:oB x0=some r):
  FC Tryz.prog 43 [.agg #[.slice a2 x0.length c3]] [⟨(.sl (.int .i64)),⟨a2,x0.length,c3⟩,x0⟩] (fun _:Unit=>True) (fun _=>.bool r) (fun _=>[]):=
 by
  refine FC.of (T:=TTx) Tryz.call43 Tryz.func43 E E fun w0=>?_
  unfold oB at h
  refine aR aA 2 [] [2] [(1,.bp 2 0)] (.new 2 28 [.slice a2 x0.length c3] .nil) ⟨⟨E,V⟩,(Bs E E)⟩ E E (JS.seq (aD aA 4 [(6,.v (.slice a2 x0.length c3)),(7,.v (I (x0.length:Int))),(8,.v (I 0))] ⟨(Es E),E⟩ E E ?_))
  obtain ⟨j32,hj42,h⟩:=aO h
  refine bF (ι:=Unit) ⟨fun _=>j32 ()=some r,fun _=>[(1,.bp 2 0)],fun _=>(.new 2 28 [.slice a2 x0.length c3] .nil),fun _=>[⟨(.sl (.int .i64)),⟨a2,x0.length,c3⟩,x0⟩],fun _=>[],fun _=>0⟩ ?_ ?_
  ·
   refine JS.loop (ι:=Nat×Int) ⟨fun z=>bI (jG x0 j32) z.1 z.2=some r,fun z=>[(1,.bp 2 0),(6,.v (.slice a2 x0.length c3)),(7,.v (I (x0.length:Int))),(8,.v (I z.2))],fun z=>(.new 2 28 [.slice a2 x0.length c3] .nil),fun z=>[⟨(.sl (.int .i64)),⟨a2,x0.length,c3⟩,x0⟩],fun z=>[],fun z=>z.1⟩ (bO,0) h (Es E) (Bs E E) [0] E [] E ?_
   rintro ⟨n27,x6⟩ h
   obtain ⟨n27,rfl,h⟩:=bM h
   rw [jG] at h
   refine aD aA 1 [(9,.v (.bool (decide (x6<(x0.length:Int)))))] ⟨⟨E,V⟩,E⟩ E E (JS.seq ?_)
   refine aL E h (fun h=>?_) (fun h=>?_)
   ·
    refine JS.skip (JS.seq (JS.block (JS.seq (JS.region (bT 0 E fun hs38=>?_)))))
    obtain ⟨g11,h⟩:=aF h
    refine aB aA 1 [] [] [(10,.ep ⟨a2,x0.length,c3⟩ (Int.toNat x6*1))] _ E ⟨hs38.ix g11,⟨E,V⟩,E⟩ (mV 0 E (Int.toNat x6) (at' x0 x6) E fun a12 c13 ys14 hl15 hy16=>dX aA E E E E E E 0 E E (Int.toNat x6) 0 (Sl.v ⟨a12,(at' x0 x6).length,c13⟩) ⟨hy16 (rJ g11),E⟩ E E E (aS aA 2 [] [16] [(4,.bp 16 0)] (.new 2 28 [.slice a2 x0.length c3] (.new 16 66 [.slice a12 (at' x0 x6).length c13] .nil)) E ⟨⟨E,V⟩,(Bs E E)⟩ (aC E (JS.seq (JS.region (aB aA 7 [] [] [(16,.v (.bool (decide (((at' x0 x6).length:Int)=0)))),(18,.cd [(16,false)] (.v (.slice a12 (at' x0 x6).length c13)))] _ E ⟨(Es E),E⟩ ?_))))))
    obtain ⟨y17,hy18,-,h⟩:=aU h
    refine bJ E E E E (fun q39=>sS (at' x0 x6) a12 c13 _ (hy18 q39)) E [1] E E (aB aA 2 [] [] [(21,.v (.bool (bif (decide (((at' x0 x6).length:Int)=0)) then true else (!y17))))] _ E ⟨⟨E,V⟩,E⟩ (aC E ?_))
    refine aL E h (fun h=>?_) (fun h=>?_)
    ·
     refine aD aA 1 [(2,.v (.bool false))] ⟨⟨E,V⟩,E⟩ E E ?_
     cases h
     exact JS.ret aA () V E E [] E
    refine JS.skip (aV (cW aA 2 [(W (x6+1))] [] [(8,.v (I (W (x6+1))))] _ ⟨⟨V,E⟩,⟨E,V⟩,E⟩ E E (bZ (n27,(W (x6+1))) h (Nat.lt_succ_self _) (Es E) (Bs E E) [2] E [] E)))
   refine JS.exit E (aN () h ⟨E,V⟩ (Bs E E) [0] E [] E)
  rintro _ h
  subst hj42
  refine aD aA 5 [(2,.v (.bool (decide ((x0.length:Int)≤6))))] ⟨⟨E,V⟩,E⟩ E E ?_
  cases h
  exact JS.ret aA () V E E [] E

def hY (x0:List (List Int)) (j39:(List (List Int))→Option (List (List Int))) (k32:(Int×List (List Int))→Option (List (List Int))):(Int×List (List Int))→Option (List (List Int)):=fun (x6,x10)=>
  (bif (decide (x6<(x0.length:Int))) then
  (aI (0≤x6∧x6<(x0.length:Int)) <|
  (aI (([]:List Int).length+(at' x0 x6).length≤536870912) <|
  (aI (x10.length+([(([]:List Int) ++ (at' x0 x6))]:List (List Int)).length≤536870912) <|
  k32 ((W (x6+1)),(x10 ++ ([(([]:List Int) ++ (at' x0 x6))]:List (List Int)))))))
  else
  j39 x10)

def mO (x0:List (List Int)):Option (List (List Int)):=
  (aY (fun (x36:List (List Int))=>
  some x36) fun j39=>
  (bI (hY x0 j39) bO (0,([]:List (List Int)))))

theorem aBg (x0:List (List Int)) (a2:Option Addr) (c3:Nat) (r:List (List Int)) (h:mO x0=some r):
  FC Tryz.prog 45 [.agg #[.slice a2 x0.length c3]] [⟨(.sl (.int .i64)),⟨a2,x0.length,c3⟩,x0⟩] (fun _:Option Addr×Nat=>True) (fun q=>.agg #[.slice q.1 r.length q.2]) (fun q=>[⟨(.sl (.int .i64)),⟨q.1,r.length,q.2⟩,r⟩]):=
 by
  refine FC.of (T:=TTx) Tryz.call45 Tryz.func45 E E fun w0=>?_
  unfold mO at h
  refine aR aA 2 [] [2,3] [(1,.bp 2 0),(2,.bp 3 0)] (.new 2 28 [.slice a2 x0.length c3] (.new 3 28 [.slice none 0 0] .nil)) ⟨(Es E),(Bs E E)⟩ E E (aR aA 3 [] [4] [(3,.bp 4 0)] (.new 2 28 [.slice a2 x0.length c3] (.new 3 28 [.slice none 0 0] (.new 4 28 [.slice none 0 0] .nil))) ⟨⟨E,V⟩,(Bs E E)⟩ E E (JS.seq (aD aA 4 [(8,.v (.slice a2 x0.length c3)),(9,.v (I (x0.length:Int))),(10,.v (I 0))] ⟨(Es E),E⟩ E E ?_)))
  obtain ⟨j39,hj45,h⟩:=aO h
  refine bF (ι:=List (List Int)×Option Addr×Nat) ⟨fun z=>j39 z.1=some r,fun z=>[(2,.bp 3 0),(3,.bp 4 0)],fun z=>(.new 3 28 [.slice none 0 0] (.new 4 28 [.slice z.2.1 z.1.length z.2.2] .nil)),fun z=>[],fun z=>[⟨(.sl (.int .i64)),⟨z.2.1,z.1.length,z.2.2⟩,z.1⟩],fun z=>0⟩ ?_ ?_
  ·
   refine aW (.sl (.int .i64)) Sl.nil E E (JS.loop (ι:=Nat×Int×List (List Int)×Option Addr×Nat) ⟨fun z=>bI (hY x0 j39) z.1 (z.2.1,z.2.2.1)=some r,fun z=>[(2,.bp 3 0),(3,.bp 4 0),(8,.v (.slice a2 x0.length c3)),(9,.v (I (x0.length:Int))),(10,.v (I z.2.1))],fun z=>(.new 3 28 [.slice none 0 0] (.new 4 28 [.slice z.2.2.2.1 z.2.2.1.length (Q4 z)] .nil)),fun z=>[⟨(.sl (.int .i64)),⟨a2,x0.length,c3⟩,x0⟩],fun z=>[⟨(.sl (.int .i64)),⟨z.2.2.2.1,z.2.2.1.length,(Q4 z)⟩,z.2.2.1⟩],fun z=>z.1⟩ (bO,0,([]:List (List Int)),none,0) h (Es E) (Bs E E) [0] E [0] E ?_)
   rintro ⟨n33,x6,x10,a11,c12⟩ h
   obtain ⟨n33,rfl,h⟩:=bM h
   rw [hY] at h
   refine aD aA 1 [(11,.v (.bool (decide (x6<(x0.length:Int)))))] ⟨⟨E,V⟩,E⟩ E E (JS.seq ?_)
   refine aL E h (fun h=>?_) (fun h=>?_)
   ·
    refine JS.skip (JS.seq (JS.block (JS.seq (JS.region (bT 0 E fun hs43=>?_)))))
    obtain ⟨g14,h⟩:=aF h
    refine aB aA 1 [] [] [(12,.ep ⟨a2,x0.length,c3⟩ (Int.toNat x6*1))] _ E ⟨hs43.ix g14,⟨E,V⟩,E⟩ (mV 0 E (Int.toNat x6) (at' x0 x6) E fun a15 c16 ys17 hl18 hy19=>dX aA E E E E E E 0 E E (Int.toNat x6) 0 (Sl.v ⟨a15,(at' x0 x6).length,c16⟩) ⟨hy19 (rJ g14),E⟩ E E E (aS aA 2 [] [22] [(5,.bp 22 0)] (.new 3 28 [.slice none 0 0] (.new 4 28 [.slice a11 x10.length c12] (.new 22 66 [.slice a15 (at' x0 x6).length c16] .nil))) E ⟨⟨E,V⟩,(Bs E E)⟩ (aC E ?_)))
    obtain ⟨g21,h⟩:=aF h
    obtain ⟨g25,h⟩:=aF h
    refine bE E (.new 4 28 [.slice a11 x10.length c12] (.new 22 66 [.slice a15 (at' x0 x6).length c16] .nil)) [] [8,9,10] ⟨E,E,E,E,E,E,E,E,V⟩ E (fun be28=>?_)
    refine bV aA aG true 7 [0,1,3,4] E (by kernel_rfl) [] [(15,.v (.slice a11 x10.length c12)),(18,.v (.slice a15 (at' x0 x6).length c16))] ⟨E,E,E,E,E,E,E,E,V⟩ [] E E (Es E) (JA.one 2 (by kernel_rfl) (JK.buildSlice aA E E E E E E E E E E E [] E (.int .i64) [] ⟨E,E⟩ E E fun a20=>aJ ⟨E,E,E,E,E,E,E,E,V⟩ [] E (JA.one 5 (by kernel_rfl) (bB aA E E E E ⟨E,E,E,E,V,E,E,E,E⟩ E E E [0] E 1 E g21 E fun a22 c23=>aJ ⟨E,E,E,E,E,E,E,E,V⟩ [] E (bV aA aG true 4 [6] E (by kernel_rfl) [] [(20,.v (.agg #[.slice a22 (([]:List Int) ++ (at' x0 x6)).length c23]))] ⟨E,E,E,E,E,E,E,E,V⟩ [] E E ⟨E,V⟩ (JA.one 7 (by kernel_rfl) (JK.buildSlice aA E E E E E E E E E E E [0] E (.sl (.int .i64)) [(([]:List Int) ++ (at' x0 x6))] ⟨E,E,E⟩ E E fun a24=>aJ ⟨E,E,E,E,E,E,E,E,V⟩ [] E (JA.one 8 (by kernel_rfl) (iP aA E E E E ⟨E,E,E,E,V,E,E,E,E⟩ E E [1,0] E g25 E fun a26 c27=>aP E (aT aA aG 1 [9] E (by kernel_rfl) [] [(23,.bp 4 0)] E ⟨E,V⟩ (JA.one 10 (by kernel_rfl) (bA aA E E E E E E E E (aP E (bG (by kernel_rfl) (aX (B':=(.new 3 28 [.slice none 0 0] (.new 4 28 [.slice a26 (x10 ++ ([(([]:List Int) ++ (at' x0 x6))]:List (List Int))).length c27] .nil))) (Bs E E) ?_)))))))))))))))
    refine aV (cW aA 2 [(W (x6+1))] [] [(10,.v (I (W (x6+1))))] _ ⟨⟨V,E⟩,⟨E,V⟩,E⟩ E E (bZ (n33,(W (x6+1)),(x10 ++ ([(([]:List Int) ++ (at' x0 x6))]:List (List Int))),a26,c27) h (Nat.lt_succ_self _) (Es E) (Bs E E) [2] E [0] E))
   refine JS.exit E (aN (x10,a11,c12) h (Es E) (Bs E E) [] E [0] E)
  rintro ⟨x36,a37,c38⟩ h
  subst hj45
  refine aR aA 2 [] [] [] (.new 3 28 [.slice a37 x36.length c38] .nil) ⟨V,(Bs E E)⟩ E E ?_
  cases h
  exact JS.ret aA (a37,c38) V E E [0] E

def kO (x0:List Int) (x1:List Int) (x2:List Int):Option (List Int):=
  (aI (([]:List Int).length+x0.length≤536870912) <|
  (aI ((([]:List Int) ++ x0).length+x1.length≤536870912) <|
  (aI (((([]:List Int) ++ x0) ++ x1).length+x2.length≤536870912) <|
  some (((([]:List Int) ++ x0) ++ x1) ++ x2))))

theorem uH (x0:List Int) (x1:List Int) (x2:List Int) (a4:Option Addr) (c5:Nat) (a8:Option Addr) (c9:Nat) (a12:Option Addr) (c13:Nat) (r:List Int) (h:kO x0 x1 x2=some r):
  FC Tryz.prog 46 [.slice a4 x0.length c5,.slice a8 x1.length c9,.slice a12 x2.length c13] [⟨(.int .i64),⟨a4,x0.length,c5⟩,x0⟩,⟨(.int .i64),⟨a8,x1.length,c9⟩,x1⟩,⟨(.int .i64),⟨a12,x2.length,c13⟩,x2⟩] (fun _:Option Addr×Nat=>True) (fun q=>.slice q.1 r.length q.2) (fun q=>[⟨(.int .i64),⟨q.1,r.length,q.2⟩,r⟩]):=
 by
  refine FC.of (T:=TTx) Tryz.call46 Tryz.func46 E E fun w0=>?_
  unfold kO at h
  refine aD aA 1 [] ⟨V,E⟩ E E (JS.seq (JS.region ?_))
  refine kF E (JK.buildSlice aA E E E E E E E E E E E [] E (.int .i64) [] ⟨E,E⟩ E E fun a16=>kE ?_)
  refine aB aA 1 [] [] [(8,.v (.slice a4 x0.length c5))] _ E ⟨⟨E,V⟩,E⟩ ?_
  obtain ⟨g17,h⟩:=aF h
  refine eN aA E E E E ⟨E,E,E,E,V,E,E,E,E⟩ E E E [0] E 0 E g17 E fun a18 c19=>aB aA 1 [] [] [(10,.v (.slice a8 x1.length c9))] _ E ⟨⟨E,V⟩,E⟩ ?_
  obtain ⟨g20,h⟩:=aF h
  refine eN aA E E E E ⟨E,E,E,E,V,E,E,E,E⟩ E E E [0] E 1 E g20 E fun a21 c22=>aB aA 1 [] [] [(12,.v (.slice a12 x2.length c13))] _ E ⟨⟨E,V⟩,E⟩ ?_
  obtain ⟨g23,h⟩:=aF h
  refine eN aA E E E E ⟨E,E,E,E,V,E,E,E,E⟩ E E E [0] E 2 E g23 E fun a24 c25=>aB aA 1 [] [] [(6,.v (.slice a24 (((([]:List Int) ++ x0) ++ x1) ++ x2).length c25))] _ E ⟨⟨E,V⟩,E⟩ (aC E ?_)
  cases h
  exact JS.ret aA (a24,c25) V E E [0] E

def mP (x0:List (List Int)) (x1:List Int) (x2:Int):Option (List (List Int)×Bool):=
  (aH (oB x0) fun (y12:Bool)=>
  (bU ((bif (bif (!y12) then true else (decide (x2<0))) then true else (decide (2<x2)))=false) (fB x1) false fun (y14:Bool)=>
  (bif (bif (bif (bif (!y12) then true else (decide (x2<0))) then true else (decide (2<x2))) then true else (!y14)) then
  some ([],false)
  else
  (aH (mO x0) fun (y17:List (List Int))=>
  (bif (decide ((x1.length:Int)=0)) then
  some (y17,true)
  else
  (aI (((bif (!(decide (x2=0))) then (decide (0<(x0.length:Int))) else false)=true)→0≤(0:Int)∧0<(x0.length:Int)) <|
  (bif (bif (bif (!(decide (x2=0))) then (decide (0<(x0.length:Int))) else false) then (decide ((W (((at' x0 0).length:Int)+(x1.length:Int)))≤400)) else false) then
  (aI (0≤(0:Int)∧0<(x0.length:Int)) <|
  (aH (kO (at' x0 0) x1 ([]:List Int)) fun (y33:List Int)=>
  (aY (fun (x43:List Int)=>
  (aI (0≤(0:Int)∧0<(y17.length:Int)) <|
  some ((List.set y17 (Int.toNat 0) x43),true))) fun j46=>
  (bif (decide (x2=2)) then
  (aI (0≤(0:Int)∧0<(x0.length:Int)) <|
  (aH (kO x1 (at' x0 0) ([]:List Int)) fun (y38:List Int)=>
  j46 y38))
  else
  j46 y33))))
  else
  (aI (([]:List Int).length+x1.length≤536870912) <|
  (aI (([(([]:List Int) ++ x1)]:List (List Int)).length+y17.length≤536870912) <|
  (aY (fun (x64:List (List Int))=>
  some (x64,true)) fun j67=>
  (bif (decide (6<((([(([]:List Int) ++ x1)]:List (List Int)) ++ y17).length:Int))) then
  (aI (0≤(0:Int)∧(0:Int)≤(6:Int)∧(6:Int)≤((([(([]:List Int) ++ x1)]:List (List Int)) ++ y17).length:Int)) <|
  j67 (bC (([(([]:List Int) ++ x1)]:List (List Int)) ++ y17) 0 (6:Int)))
  else
  j67 (([(([]:List Int) ++ x1)]:List (List Int)) ++ y17))))))))))))

theorem aBk (x0:List (List Int)) (x1:List Int) (x2:Int) (a4:Option Addr) (c5:Nat) (a8:Option Addr) (c9:Nat) (r:List (List Int)×Bool) (h:mP x0 x1 x2=some r):
  FC Tryz.prog 27 [.agg #[.slice a4 x0.length c5],.slice a8 x1.length c9,.int .i64 x2] [⟨(.sl (.int .i64)),⟨a4,x0.length,c5⟩,x0⟩,⟨(.int .i64),⟨a8,x1.length,c9⟩,x1⟩] (fun _:Option Addr×Nat=>True) (fun q=>.tuple #[.agg #[.slice q.1 r.1.length q.2],.bool r.2]) (fun q=>[⟨(.sl (.int .i64)),⟨q.1,r.1.length,q.2⟩,r.1⟩]):=
 by
  refine FC.of (T:=TTx) Tryz.call27 Tryz.func27 E E fun w0=>?_
  unfold mP at h
  refine aR aA 3 [] [3,4] [(3,.bp 3 0),(6,.bp 4 0)] (.new 3 28 [.slice a4 x0.length c5] (.new 4 28 [.slice none 0 0] .nil)) ⟨(Es E),(Bs E E)⟩ E E (JS.seq (JS.seq (JS.region (aB aA 1 [] [] [(11,.v (.agg #[.slice a4 x0.length c5]))] _ E ⟨⟨E,V⟩,E⟩ ?_))))
  refine bnw h fun y12 hy13 h=>JO.call E E E E (aC3 x0 a4 c5 _ hy13) E [0] E E fun _ _=>aB aA 11 [] [] [(22,.v (.bool (bif (bif (!y12) then true else (decide (x2<0))) then true else (decide (2<x2))))),(23,.cd [(22,false)] (.v (.slice a8 x1.length c9)))] _ E ⟨(Es E),E⟩ ?_
  obtain ⟨y14,hy15,-,h⟩:=aU h
  refine bJ E E E E (fun q73=>sS x1 a8 c9 _ (hy15 q73)) E [1] E E (aB aA 2 [] [] [(26,.v (.bool (bif (bif (bif (!y12) then true else (decide (x2<0))) then true else (decide (2<x2))) then true else (!y14))))] _ E ⟨⟨E,V⟩,E⟩ (aC E ?_))
  refine aL E h (fun h=>?_) (fun h=>?_)
  ·
   refine aR aA 3 [] [] [(7,.v (.bool false))] (.new 4 28 [.slice none 0 0] .nil) ⟨⟨E,V⟩,(Bs E E)⟩ E E ?_
   cases h
   refine aW (.sl (.int .i64)) Sl.nil E E (JS.ret aA (none,0) V E E [0] E)
  refine JS.skip (JS.seq (JS.region (aB aA 1 [] [] [(28,.v (.agg #[.slice a4 x0.length c5]))] _ E ⟨⟨E,V⟩,E⟩ ?_)))
  refine bnw h fun y17 hy18 h=>JO.call E E E E (aBg x0 a4 c5 _ hy18) E [0] E E ?_
  rintro ⟨a19,c20⟩ -
  refine aS aA 2 [] [14] [(8,.bp 14 0)] (.new 3 28 [.slice a4 x0.length c5] (.new 4 28 [.slice none 0 0] (.new 14 28 [.slice a19 y17.length c20] .nil))) E ⟨⟨E,V⟩,(Bs E E)⟩ (aC E (JS.seq (aD aA 3 [(32,.v (.bool (decide ((x1.length:Int)=0))))] ⟨⟨E,V⟩,E⟩ E E ?_)))
  refine aL E h (fun h=>?_) (fun h=>?_)
  ·
   refine aR aA 3 [] [] [(7,.v (.bool true))] (.new 4 28 [.slice a19 y17.length c20] .nil) ⟨⟨E,V⟩,(Bs E E)⟩ E E ?_
   cases h
   exact JS.ret aA (a19,c20) V E E [0] E
  refine JS.skip (JS.seq (JS.seq (JS.region (bT 0 E fun hs74=>?_))))
  obtain ⟨g22,h⟩:=aF h
  refine aB aA 13 [] [] [(42,.v (.bool (bif (!(decide (x2=0))) then (decide (0<(x0.length:Int))) else false))),(46,.cd [(42,true)] (.ep ⟨a4,x0.length,c5⟩ (Int.toNat 0*1)))] _ E ⟨(fun q75=>hs74.ix (g22 q75)),(fun q76=>hs74.fa (g22 q76)),(Es E),E⟩ (mV 0 E (Int.toNat 0) (at' x0 0) E fun a25 c26 ys27 hl28 hy29=>dX aA E E E E E E 0 E E (Int.toNat 0) 0 (Sl.v ⟨a25,(at' x0 0).length,c26⟩) (fun q77=>⟨hy29 (rJ (g22 q77)),E⟩) E E E (aB aA 6 [(W (((at' x0 0).length:Int)+(x1.length:Int)))] [] [(53,.v (.bool (bif (bif (!(decide (x2=0))) then (decide (0<(x0.length:Int))) else false) then (decide ((W (((at' x0 0).length:Int)+(x1.length:Int)))≤400)) else false)))] _ E ⟨(fun q78=>⟨V,E⟩),⟨E,V⟩,E⟩ (aC E ?_)))
  refine aL E h (fun h=>?_) (fun h=>?_)
  ·
   refine JS.seq (JS.region ?_)
   obtain ⟨g32,h⟩:=aF h
   refine aB aA 4 [] [] [(57,.ep ⟨a4,x0.length,c5⟩ (Int.toNat 0*1))] _ E ⟨hs74.ix g32,hs74.fa g32,⟨E,V⟩,E⟩ (dX aA E E E E E E 0 E E (Int.toNat 0) 0 (Sl.v ⟨a25,(at' x0 0).length,c26⟩) ⟨hy29 (rJ g32),E⟩ E E E (aB aA 1 [] [] [(59,.v (.slice a8 x1.length c9))] _ E ⟨⟨E,V⟩,E⟩ ?_))
   refine bnw h fun y33 hy34 h=>sM (.int .i64) Sl.nil E E (JO.call E E E E (uH (at' x0 0) x1 ([]:List Int) a25 c26 a8 c9 none 0 _ hy34) E [2,4,0] E E ?_)
   rintro ⟨a35,c36⟩ -
   refine aB aA 1 [] [] [(9,.v (.slice a35 y33.length c36))] _ E ⟨⟨E,V⟩,E⟩ (aC E ?_)
   obtain ⟨j46,hj81,h⟩:=aO h
   refine eH (ι:=List Int×Option Addr×Nat) ⟨fun z=>j46 z.1=some r,fun z=>[(6,.bp 4 0),(8,.bp 14 0),(9,.v (.slice z.2.1 z.1.length z.2.2))],fun z=>(.new 4 28 [.slice none 0 0] (.new 14 28 [.slice a19 y17.length c20] .nil)),fun z=>[],fun z=>[⟨(.int .i64),⟨z.2.1,z.1.length,z.2.2⟩,z.1⟩,⟨(.sl (.int .i64)),⟨a19,y17.length,c20⟩,y17⟩],fun z=>0⟩ ?_ ?_
   ·
    refine aD aA 2 [(62,.v (.bool (decide (x2=2))))] ⟨⟨E,V⟩,E⟩ E E ?_
    refine aL E h (fun h=>?_) (fun h=>?_)
    ·
     refine JS.region ?_
     obtain ⟨g37,h⟩:=aF h
     refine aB aA 5 [] [] [(63,.v (.slice a8 x1.length c9)),(67,.ep ⟨a4,x0.length,c5⟩ (Int.toNat 0*1))] _ E ⟨hs74.ix g37,hs74.fa g37,(Es E),E⟩ (dX aA E E E E E E 1 E E (Int.toNat 0) 0 (Sl.v ⟨a25,(at' x0 0).length,c26⟩) ⟨hy29 (rJ g37),E⟩ E E E ?_)
     refine bnw h fun y38 hy39 h=>sM (.int .i64) Sl.nil E E (JO.call E E E E (uH x1 (at' x0 0) ([]:List Int) a8 c9 a25 c26 none 0 _ hy39) E [5,3,0] E E ?_)
     rintro ⟨a40,c41⟩ -
     refine aB aA 1 [] [] [(9,.v (.slice a40 y38.length c41))] _ E ⟨⟨E,V⟩,E⟩ (aC E (aN (y38,a40,c41) h (Es E) (Bs E E) [] E [0,1] E))
    refine JS.skip (aN (y33,a35,c36) h (Es E) (Bs E E) [] E [0,0] E)
   rintro ⟨x43,a44,c45⟩ h
   subst hj81
   refine JS.seq (JS.region (bT 1 E fun hs80=>?_))
   obtain ⟨g49,h⟩:=aF h
   refine aB aA 5 [] [] [(73,.v (.agg #[.slice a44 x43.length c45])),(74,.ep ⟨a19,y17.length,c20⟩ (Int.toNat 0*1))] _ E ⟨hs80.ix g49,(Es E),E⟩ (gO aA E E E E E E E E E [1,0] (fs:=[⟨(.int .i64),⟨a44,x43.length,c45⟩,x43⟩]) E (Int.toNat 0) 0 (at' y17 0) x43 ⟨bD g49,E⟩ ⟨E,E,E,E⟩ (aC E (aR aA 3 [] [] [(7,.v (.bool true))] (.new 4 28 [.slice a19 y17.length c20] .nil) ⟨⟨E,V⟩,(Bs E E)⟩ E E ?_)))
   cases h
   exact JS.ret aA (a19,c20) V E (by simp only [List.length_set,List.length_replicate,bX,dG,mN];rfl) [0] (by simp only [List.length_set,List.length_replicate,bX,dG,mN];rfl)
  refine JS.skip (JS.seq ?_)
  obtain ⟨g52,h⟩:=aF h
  obtain ⟨g56,h⟩:=aF h
  refine bE E (.new 14 28 [.slice a19 y17.length c20] .nil) [] [7,8] ⟨E,E,E,E,V⟩ E (fun be59=>?_)
  refine bV aA aG true 6 [1,5,6] E (by kernel_rfl) [] [(77,.v (.slice a8 x1.length c9)),(82,.v (.slice a19 y17.length c20))] ⟨E,E,E,E,V⟩ [] E E (Es E) (JA.one 0 (by kernel_rfl) (JK.buildSlice aA E E E E E E E E E E E [] E (.int .i64) [] ⟨E,E⟩ E E fun a51=>aJ ⟨E,E,E,E,V⟩ [] E (JA.one 2 (by kernel_rfl) (bB aA E E E E ⟨E,E,E,E,V,E,E,E,E⟩ E E E [0] E 3 E g52 E fun a53 c54=>aJ ⟨E,E,E,E,V⟩ [] E (bV aA aG true 3 [3] E (by kernel_rfl) [] [(79,.v (.agg #[.slice a53 (([]:List Int) ++ x1).length c54]))] ⟨E,E,E,E,V⟩ [] E E ⟨E,V⟩ (JA.one 4 (by kernel_rfl) (JK.buildSlice aA E E E E E E E E E E E [0] E (.sl (.int .i64)) [(([]:List Int) ++ x1)] ⟨E,E,E⟩ E E fun a55=>aJ ⟨E,E,E,E,V⟩ [] E (JA.one 7 (by kernel_rfl) (iP aA E E E E ⟨E,E,E,E,V,E,E,E,E⟩ E E [0,0] E g56 E fun a57 c58=>aP E (aT aA aG 0 [8] E (by kernel_rfl) [] [(10,.v (.slice a57 (([(([]:List Int) ++ x1)]:List (List Int)) ++ y17).length c58))] E ⟨E,V⟩ (bG (by kernel_rfl) (aX (B':=(.new 4 28 [.slice none 0 0] .nil)) (Bs E E) ?_))))))))))))
  obtain ⟨j67,hj83,h⟩:=aO h
  refine eH (ι:=List (List Int)×Option Addr×Nat) ⟨fun z=>j67 z.1=some r,fun z=>[(6,.bp 4 0),(10,.v (.slice z.2.1 z.1.length z.2.2))],fun z=>(.new 4 28 [.slice none 0 0] .nil),fun z=>[],fun z=>[⟨(.sl (.int .i64)),⟨z.2.1,z.1.length,z.2.2⟩,z.1⟩],fun z=>0⟩ ?_ ?_
  ·
   refine aD aA 3 [(86,.v (.bool (decide (6<((([(([]:List Int) ++ x1)]:List (List Int)) ++ y17).length:Int)))))] ⟨⟨E,V⟩,E⟩ E E ?_
   refine aL E h (fun h=>?_) (fun h=>?_)
   ·
    refine JS.region (aB aA 1 [] [] [(87,.v (.slice a57 (([(([]:List Int) ++ x1)]:List (List Int)) ++ y17).length c58))] _ E ⟨⟨E,V⟩,E⟩ ?_)
    obtain ⟨g60,h⟩:=aF h
    refine oH aA E E E E E E E E [0] E (0:Int) (6:Int) E E g60 E fun a61 c62=>aB aA 1 [] [] [(10,.v (.slice a61 (bC (([(([]:List Int) ++ x1)]:List (List Int)) ++ y17) 0 (6:Int)).length c62))] _ E ⟨⟨E,V⟩,E⟩ (aC E (aN ((bC (([(([]:List Int) ++ x1)]:List (List Int)) ++ y17) 0 (6:Int)),a61,c62) h (Es E) (Bs E E) [] E [0] E))
   refine JS.skip (aN ((([(([]:List Int) ++ x1)]:List (List Int)) ++ y17),a57,c58) h (Es E) (Bs E E) [] E [0] E)
  rintro ⟨x64,a65,c66⟩ h
  subst hj83
  refine aR aA 4 [] [] [(7,.v (.bool true))] (.new 4 28 [.slice a65 x64.length c66] .nil) ⟨⟨E,V⟩,(Bs E E)⟩ E E ?_
  cases h
  exact JS.ret aA (a65,c66) V E E [0] E

def hX (x0:List UInt8×Int×Int) (j46:(List (List Int)×Int×Int)→Option (List (List Int)×List UInt8×Int×Int)) (k38:(Int×List (List Int)×Int×Int)→Option (List (List Int)×List UInt8×Int×Int)):(Int×List (List Int)×Int×Int)→Option (List (List Int)×List UInt8×Int×Int):=fun (x10,x14,x20,x21)=>
  (bif (decide (0<x10)) then
  (aH (fC (x0.1,x20,x21) 5) fun (y22,y23)=>
  (aH (bH (x0.1,y23.2.1,y23.2.2) 3) fun (y27,y28)=>
  (aH (mP x14 y22 y27) fun (y30,y31)=>
  k38 ((W (x10 - 1)),y30,y28.2.1,y28.2.2))))
  else
  j46 (x14,x20,x21))

def kN (x0:List UInt8×Int×Int):Option (List (List Int)×List UInt8×Int×Int):=
  (aH (bH x0 8) fun (y7,y8)=>
  (aY (fun ((x41,x44,x45):List (List Int)×Int×Int)=>
  some (x41,(x0.1,x44,x45))) fun j46=>
  (bI (hX x0 j46) bO (y7,([]:List (List Int)),y8.2.1,y8.2.2))))

theorem aBf (x0:List UInt8×Int×Int) (a2:Option Addr) (a3:Option Addr) (c4:Nat) (r:List (List Int)×List UInt8×Int×Int) (h:kN x0=some r):
  FX Tryz.prog 12 [.pointer a2] [⟨.byte,⟨a3,x0.1.length,c4⟩,x0.1⟩] [⟨(.pair .val (.pair (.int .i64) (.int .i64))),⟨a2,1,1⟩,[((Sl.v ⟨a3,x0.1.length,c4⟩),x0.2)]⟩] (fun _:Option Addr×Nat=>True) (fun q=>.agg #[.slice q.1 r.1.length q.2]) (fun q=>[⟨(.pair .val (.pair (.int .i64) (.int .i64))),⟨a2,1,1⟩,[((Sl.v ⟨a3,x0.1.length,c4⟩),r.2.2)]⟩,⟨(.sl (.int .i64)),⟨q.1,r.1.length,q.2⟩,r.1⟩]):=
 by
  refine FX.of (T:=TTx) Tryz.call12 Tryz.func12 E E fun w0 L0=>?_
  unfold kN at h
  refine mZ 0 a2 E ?_
  refine aR aA 1 [] [3] [(2,.bp 3 0)] (.new 3 28 [.slice none 0 0] .nil) ⟨⟨E,V⟩,(Bs E E)⟩ E E (aR aA 3 [] [4] [(3,.bp 4 0)] (.new 3 28 [.slice none 0 0] (.new 4 28 [.slice none 0 0] .nil)) ⟨⟨E,V⟩,(Bs E E)⟩ E E (JS.seq (JS.seq (JS.region (aB aA 1 [] [] [(6,.ep ⟨a2,1,1⟩ 0)] _ E ⟨⟨E,V⟩,E⟩ ?_)))))
  obtain ⟨⟨y7,y8⟩,hy9,h⟩:=aE h
  refine cE E E E E (cA x0 8 a2 a3 c4 _ hy9) E [0] E [0] E E fun _ _=>aB aA 1 [] [] [(4,.v (I y7))] _ E ⟨⟨E,V⟩,E⟩ (aC E ?_)
  obtain ⟨j46,hj50,h⟩:=aO h
  refine bF (ι:=List (List Int)×Int×Int×Option Addr×Nat) ⟨fun z=>j46 (z.1,z.2.1,z.2.2.1)=some r,fun z=>[(2,.bp 3 0),(3,.bp 4 0)],fun z=>(.new 3 28 [.slice none 0 0] (.new 4 28 [.slice z.2.2.2.1 z.1.length (Q4 z)] .nil)),fun z=>[⟨.byte,⟨a3,x0.1.length,c4⟩,x0.1⟩],fun z=>[⟨(.sl (.int .i64)),⟨z.2.2.2.1,z.1.length,(Q4 z)⟩,z.1⟩,⟨(.pair .val (.pair (.int .i64) (.int .i64))),⟨a2,1,1⟩,[((Sl.v ⟨a3,x0.1.length,c4⟩),z.2.1,z.2.2.1)]⟩],fun z=>0⟩ ?_ ?_
  ·
   refine aW (.sl (.int .i64)) Sl.nil E E (JS.loop (ι:=Nat×Int×List (List Int)×Int×Int×Option Addr×Nat) ⟨fun z=>bI (hX x0 j46) z.1 (z.2.1,z.2.2.1,z.2.2.2.1,(Q4 z).1)=some r,fun z=>[(0,.ep ⟨a2,1,1⟩ 0),(2,.bp 3 0),(3,.bp 4 0),(4,.v (I z.2.1))],fun z=>(.new 3 28 [.slice none 0 0] (.new 4 28 [.slice (Q4 z).2.1 z.2.2.1.length (Q4 z).2.2] .nil)),fun z=>[⟨.byte,⟨a3,x0.1.length,c4⟩,x0.1⟩],fun z=>[⟨(.sl (.int .i64)),⟨(Q4 z).2.1,z.2.2.1.length,(Q4 z).2.2⟩,z.2.2.1⟩,⟨(.pair .val (.pair (.int .i64) (.int .i64))),⟨a2,1,1⟩,[((Sl.v ⟨a3,x0.1.length,c4⟩),z.2.2.2.1,(Q4 z).1)]⟩],fun z=>z.1⟩ (bO,y7,([]:List (List Int)),y8.2.1,y8.2.2,none,0) h (Es E) (Bs E E) [0] E [0,0] E ?_)
   rintro ⟨n39,x10,x14,x20,x21,a15,c16⟩ h
   obtain ⟨n39,rfl,h⟩:=bM h
   rw [hX] at h
   refine JS.seq (aD aA 2 [(9,.v (.bool (decide (0<x10))))] ⟨⟨E,V⟩,E⟩ E E ?_)
   refine aL E h (fun h=>?_) (fun h=>?_)
   ·
    refine JS.skip (JS.seq (JS.block ?_))
    obtain ⟨⟨y22,y23⟩,hy24,h⟩:=aE h
    obtain ⟨⟨y27,y28⟩,hy29,h⟩:=aE h
    obtain ⟨⟨y30,y31⟩,hy32,h⟩:=aE h
    refine bE E (.new 4 28 [.slice a15 x14.length c16] .nil) [] [5,6,7,8,9] ⟨E,E,E,E,V⟩ E (fun be35=>?_)
    refine bV aA sG true 7 [0,1,3] E (by kernel_rfl) [] [(13,.v (.agg #[.slice a15 x14.length c16])),(14,.ep ⟨a2,1,1⟩ 0),(16,.ep ⟨a2,1,1⟩ 0)] ⟨E,E,E,E,V⟩ [] E E (Es E) (JA.one 2 (by kernel_rfl) (pN E E E E (sT (x0.1,x20,x21) 5 a2 a3 c4 _ hy24) E [1] E [0] E E ?_))
    rintro ⟨a25,c26⟩ -
    refine aJ ⟨E,E,E,E,V⟩ [] E (JA.one 4 (by kernel_rfl) (pN E E E E (cA (x0.1,y23.2) 3 a2 a3 c4 _ hy29) E [0] E [0] E E fun _ _=>aJ ⟨E,E,E,E,V⟩ [] E (JA.one 5 (by kernel_rfl) (JK.call E E E E (aBk x14 y22 y27 a15 c16 a25 c26 _ hy32) E [3,2] E E ?_))))
    rintro ⟨a33,c34⟩ -
    refine aP E (aT aA sG 1 [6,7,8] E (by kernel_rfl) [] [(19,.v (.agg #[.slice a33 y30.length c34]))] E ⟨E,V⟩ (JA.one 9 (by kernel_rfl) (bA aA E E E E E E E E (aP E (bG (by kernel_rfl) (aX (B':=(.new 3 28 [.slice none 0 0] (.new 4 28 [.slice a33 y30.length c34] .nil))) (Bs E E) (aV (cW aA 3 [(W (x10 - 1))] [] [(4,.v (I (W (x10 - 1))))] _ ⟨⟨V,E⟩,⟨E,V⟩,E⟩ E E (bZ (n39,(W (x10 - 1)),y30,y28.2.1,y28.2.2,a33,c34) h (Nat.lt_succ_self _) (Es E) (Bs E E) [0] E [0,0] E)))))))))
   refine JS.exit E (aN (x14,x20,x21,a15,c16) h (Es E) (Bs E E) [0] E [0,0] E)
  rintro ⟨x41,x44,x45,a42,c43⟩ h
  subst hj50
  refine aR aA 2 [] [] [] (.new 3 28 [.slice a42 x41.length c43] .nil) ⟨V,(Bs E E)⟩ E E ?_
  cases h
  exact eI aA (a42,c43) V E E [1,0] E

def kQ (x0:List UInt8×Int×Int):Option (List UInt8×List UInt8×Int×Int):=
  (aH (bH x0 12) fun (y8,y9)=>
  (aI (0≤y8∧y8<(([([108,115]:List UInt8),([101,99,104,111,32,97]:List UInt8),([99,97,116,32,98]:List UInt8),([97,32,124,32,98]:List UInt8),([120,61,49]:List UInt8),([105,102,32,97,59,32,116,104,101,110,32,98,59,32,102,105]:List UInt8),([101,99,104,111,32,39,97,10,98,39]:List UInt8),([109,97,107,101]:List UInt8),([108,115,32,45,108]:List UInt8),([101,99,104,111,32,195,169]:List UInt8),([103,105,116,32,108,111,103]:List UInt8),([119]:List UInt8)]:List (List UInt8)).length:Int)) <|
  some ((at' ([([108,115]:List UInt8),([101,99,104,111,32,97]:List UInt8),([99,97,116,32,98]:List UInt8),([97,32,124,32,98]:List UInt8),([120,61,49]:List UInt8),([105,102,32,97,59,32,116,104,101,110,32,98,59,32,102,105]:List UInt8),([101,99,104,111,32,39,97,10,98,39]:List UInt8),([109,97,107,101]:List UInt8),([108,115,32,45,108]:List UInt8),([101,99,104,111,32,195,169]:List UInt8),([103,105,116,32,108,111,103]:List UInt8),([119]:List UInt8)]:List (List UInt8)) y8),(x0.1,y9.2.1,y9.2.2))))

theorem aBi (x0:List UInt8×Int×Int) (a2:Option Addr) (a3:Option Addr) (c4:Nat) (r:List UInt8×List UInt8×Int×Int) (h:kQ x0=some r):
  FX Tryz.prog 30 [.pointer a2] [⟨.byte,⟨a3,x0.1.length,c4⟩,x0.1⟩] [⟨(.pair .val (.pair (.int .i64) (.int .i64))),⟨a2,1,1⟩,[((Sl.v ⟨a3,x0.1.length,c4⟩),x0.2)]⟩] (fun _:Unit=>True) (fun _=>.string (bs r.1)) (fun _=>[⟨(.pair .val (.pair (.int .i64) (.int .i64))),⟨a2,1,1⟩,[((Sl.v ⟨a3,x0.1.length,c4⟩),r.2.2)]⟩]):=
 by
  refine FX.of (T:=TTx) Tryz.call30 Tryz.func30 E E fun w0 L0=>?_
  unfold kQ at h
  refine mZ 0 a2 E ?_
  refine aD aA 1 [] ⟨V,E⟩ E E (JS.seq (JS.region ?_))
  refine kF E (JK.buildSlice aA E E E E E E E E E E E [] E .str [([108,115]:List UInt8),([101,99,104,111,32,97]:List UInt8),([99,97,116,32,98]:List UInt8),([97,32,124,32,98]:List UInt8),([120,61,49]:List UInt8),([105,102,32,97,59,32,116,104,101,110,32,98,59,32,102,105]:List UInt8),([101,99,104,111,32,39,97,10,98,39]:List UInt8),([109,97,107,101]:List UInt8),([108,115,32,45,108]:List UInt8),([101,99,104,111,32,195,169]:List UInt8),([103,105,116,32,108,111,103]:List UInt8),([119]:List UInt8)] ⟨E,E⟩ E E fun a7=>kE ?_)
  refine aB aA 1 [] [] [(4,.ep ⟨a2,1,1⟩ 0)] _ E ⟨⟨E,V⟩,E⟩ ?_
  obtain ⟨⟨y8,y9⟩,hy10,h⟩:=aE h
  refine cE E E E E (cA x0 12 a2 a3 c4 _ hy10) E [1] E [0] E E fun _ _=>bT 2 E fun hs13=>?_
  obtain ⟨g12,h⟩:=aF h
  refine aB aA 1 [] [] [(6,.ep ⟨a7,([([108,115]:List UInt8),([101,99,104,111,32,97]:List UInt8),([99,97,116,32,98]:List UInt8),([97,32,124,32,98]:List UInt8),([120,61,49]:List UInt8),([105,102,32,97,59,32,116,104,101,110,32,98,59,32,102,105]:List UInt8),([101,99,104,111,32,39,97,10,98,39]:List UInt8),([109,97,107,101]:List UInt8),([108,115,32,45,108]:List UInt8),([101,99,104,111,32,195,169]:List UInt8),([103,105,116,32,108,111,103]:List UInt8),([119]:List UInt8)]:List (List UInt8)).length,([([108,115]:List UInt8),([101,99,104,111,32,97]:List UInt8),([99,97,116,32,98]:List UInt8),([97,32,124,32,98]:List UInt8),([120,61,49]:List UInt8),([105,102,32,97,59,32,116,104,101,110,32,98,59,32,102,105]:List UInt8),([101,99,104,111,32,39,97,10,98,39]:List UInt8),([109,97,107,101]:List UInt8),([108,115,32,45,108]:List UInt8),([101,99,104,111,32,195,169]:List UInt8),([103,105,116,32,108,111,103]:List UInt8),([119]:List UInt8)]:List (List UInt8)).length⟩ (Int.toNat y8*1))] _ E ⟨hs13.ix g12,⟨E,V⟩,E⟩ (JO.load aA E E E E E E E 2 E E (Int.toNat y8) 0 (at' ([([108,115]:List UInt8),([101,99,104,111,32,97]:List UInt8),([99,97,116,32,98]:List UInt8),([97,32,124,32,98]:List UInt8),([120,61,49]:List UInt8),([105,102,32,97,59,32,116,104,101,110,32,98,59,32,102,105]:List UInt8),([101,99,104,111,32,39,97,10,98,39]:List UInt8),([109,97,107,101]:List UInt8),([108,115,32,45,108]:List UInt8),([101,99,104,111,32,195,169]:List UInt8),([103,105,116,32,108,111,103]:List UInt8),([119]:List UInt8)]:List (List UInt8)) y8) ⟨bD g12,E⟩ E E (aB aA 1 [] [] [(2,.v (.string (bs (at' ([([108,115]:List UInt8),([101,99,104,111,32,97]:List UInt8),([99,97,116,32,98]:List UInt8),([97,32,124,32,98]:List UInt8),([120,61,49]:List UInt8),([105,102,32,97,59,32,116,104,101,110,32,98,59,32,102,105]:List UInt8),([101,99,104,111,32,39,97,10,98,39]:List UInt8),([109,97,107,101]:List UInt8),([108,115,32,45,108]:List UInt8),([101,99,104,111,32,195,169]:List UInt8),([103,105,116,32,108,111,103]:List UInt8),([119]:List UInt8)]:List (List UInt8)) y8))))] _ E ⟨⟨E,V⟩,E⟩ (aC E ?_)))
  cases h
  exact eI aA () V E E [0] E

def jJ (x0:Int×List (List UInt8)) (j23:Unit→Option Bool) (k18:Int→Option Bool):Int→Option Bool:=fun x6=>
  (bif (decide (x6<(x0.2.length:Int))) then
  (aI (0≤x6∧x6<(x0.2.length:Int)) <|
  (bif (bif (decide (((at' x0.2 x6).length:Int)<1)) then true else (decide (1000<((at' x0.2 x6).length:Int)))) then
  some false
  else
  k18 (W (x6+1))))
  else
  j23 ())

def fW (x0:Int×List (List UInt8)):Option Bool:=
  (aY (fun (_:Unit)=>
  some (bif (bif (decide (1≤x0.1)) then (decide (x0.1≤1000000000)) else false) then (decide ((x0.2.length:Int)≤60)) else false)) fun j23=>
  (bI (jJ x0 j23) bO 0))

theorem wD (x0:Int×List (List UInt8)) (a2:Option Addr) (c3:Nat) (r:Bool) (h:fW x0=some r):
  FC Tryz.prog 47 [.agg #[.int .i64 x0.1,.slice a2 x0.2.length c3]] [⟨.str,⟨a2,x0.2.length,c3⟩,x0.2⟩] (fun _:Unit=>True) (fun _=>.bool r) (fun _=>[]):=
 by
  refine FC.of (T:=TTx) Tryz.call47 Tryz.func47 E E fun w0=>?_
  unfold fW at h
  refine aR aA 2 [] [2] [(1,.bp 2 0)] (.new 2 36 [.int .i64 x0.1,.slice a2 x0.2.length c3] .nil) ⟨⟨E,V⟩,(Bs E E)⟩ E E (JS.seq (aD aA 4 [(6,.v (.slice a2 x0.2.length c3)),(7,.v (I (x0.2.length:Int))),(8,.v (I 0))] ⟨(Es E),E⟩ E E ?_))
  obtain ⟨j23,hj31,h⟩:=aO h
  refine bF (ι:=Unit) ⟨fun _=>j23 ()=some r,fun _=>[(1,.bp 2 0)],fun _=>(.new 2 36 [.int .i64 x0.1,.slice a2 x0.2.length c3] .nil),fun _=>[⟨.str,⟨a2,x0.2.length,c3⟩,x0.2⟩],fun _=>[],fun _=>0⟩ ?_ ?_
  ·
   refine JS.loop (ι:=Nat×Int) ⟨fun z=>bI (jJ x0 j23) z.1 z.2=some r,fun z=>[(1,.bp 2 0),(6,.v (.slice a2 x0.2.length c3)),(7,.v (I (x0.2.length:Int))),(8,.v (I z.2))],fun z=>(.new 2 36 [.int .i64 x0.1,.slice a2 x0.2.length c3] .nil),fun z=>[⟨.str,⟨a2,x0.2.length,c3⟩,x0.2⟩],fun z=>[],fun z=>z.1⟩ (bO,0) h (Es E) (Bs E E) [0] E [] E ?_
   rintro ⟨n19,x6⟩ h
   obtain ⟨n19,rfl,h⟩:=bM h
   rw [jJ] at h
   refine aD aA 1 [(9,.v (.bool (decide (x6<(x0.2.length:Int)))))] ⟨⟨E,V⟩,E⟩ E E (JS.seq ?_)
   refine aL E h (fun h=>?_) (fun h=>?_)
   ·
    refine JS.skip (JS.seq (JS.block (JS.seq (JS.region (bT 0 E fun hs28=>?_)))))
    obtain ⟨g12,h⟩:=aF h
    refine aB aA 1 [] [] [(10,.ep ⟨a2,x0.2.length,c3⟩ (Int.toNat x6*1))] _ E ⟨hs28.ix g12,⟨E,V⟩,E⟩ (JO.load aA E E E E E E E 0 E E (Int.toNat x6) 0 (at' x0.2 x6) ⟨bD g12,E⟩ E E (aB aA 1 [] [] [(4,.v (.string (bs (at' x0.2 x6))))] _ E ⟨⟨E,V⟩,E⟩ (aC E (aD aA 8 [(19,.v (.bool (bif (decide (((at' x0.2 x6).length:Int)<1)) then true else (decide (1000<((at' x0.2 x6).length:Int))))))] ⟨⟨E,V⟩,E⟩ E E ?_))))
    refine aL E h (fun h=>?_) (fun h=>?_)
    ·
     refine aD aA 1 [(2,.v (.bool false))] ⟨⟨E,V⟩,E⟩ E E ?_
     cases h
     exact JS.ret aA () V E E [] E
    refine JS.skip (aV (cW aA 2 [(W (x6+1))] [] [(8,.v (I (W (x6+1))))] _ ⟨⟨V,E⟩,⟨E,V⟩,E⟩ E E (bZ (n19,(W (x6+1))) h (Nat.lt_succ_self _) (Es E) (Bs E E) [0] E [] E)))
   refine JS.exit E (aN () h ⟨E,V⟩ (Bs E E) [0] E [] E)
  rintro _ h
  subst hj31
  refine aD aA 15 [(2,.v (.bool (bif (bif (decide (1≤x0.1)) then (decide (x0.1≤1000000000)) else false) then (decide ((x0.2.length:Int)≤60)) else false)))] ⟨⟨E,V⟩,E⟩ E E ?_
  cases h
  exact JS.ret aA () V E E [] E

def mQ (x0:Int×List (List UInt8)) (x1:List UInt8):Option ((Int×List (List UInt8))×Bool):=
  (aY (fun (x16:List (List UInt8))=>
  (aY (fun ((x24,x25):Int×List (List UInt8))=>
  (aH (fW x0) fun (y30:Bool)=>
  (bU ((!y30)=false) (fW (x24,x25)) false fun (y32:Bool)=>
  (bif (bif (!y30) then true else (!y32)) then
  some ((0,[]),false)
  else
  some ((x24,x25),true))))) fun j28=>
  (bif (decide (60<(x16.length:Int))) then
  (aI (0≤(1:Int)∧(1:Int)≤(x16.length:Int)∧(x16.length:Int)≤(x16.length:Int)) <|
  j28 ((W (x0.1+1)),(bC x16 1 (x16.length:Int))))
  else
  j28 (x0.1,x16)))) fun j19=>
  (aI (([]:List (List UInt8)).length+x0.2.length≤536870912) <|
  (aI ((([]:List (List UInt8)) ++ x0.2).length+([x1]:List (List UInt8)).length≤536870912) <|
  j19 ((([]:List (List UInt8)) ++ x0.2) ++ ([x1]:List (List UInt8))))))

theorem aBl (x0:Int×List (List UInt8)) (x1:List UInt8) (a3:Option Addr) (c4:Nat) (r:(Int×List (List UInt8))×Bool) (h:mQ x0 x1=some r):
  FC Tryz.prog 29 [.agg #[.int .i64 x0.1,.slice a3 x0.2.length c4],.string (bs x1)] [⟨.str,⟨a3,x0.2.length,c4⟩,x0.2⟩] (fun _:Option Addr×Nat=>True) (fun q=>.tuple #[.agg #[.int .i64 r.1.1,.slice q.1 r.1.2.length q.2],.bool r.2]) (fun q=>[⟨.str,⟨q.1,r.1.2.length,q.2⟩,r.1.2⟩]):=
 by
  refine FC.of (T:=TTx) Tryz.call29 Tryz.func29 E E fun w0=>?_
  unfold mQ at h
  refine aR aA 3 [] [2,3] [(2,.bp 2 0),(4,.bp 3 0)] (.new 2 36 [.int .i64 x0.1,.slice a3 x0.2.length c4] (.new 3 36 [.int .i64 0,.slice none 0 0] .nil)) ⟨(Es E),(Bs E E)⟩ E E (JS.seq ?_)
  obtain ⟨j19,hj42,h⟩:=aO h
  refine sL (ι:=List (List UInt8)×Option Addr×Nat) ⟨fun z=>j19 z.1=some r,fun z=>[(2,.bp 2 0),(4,.bp 3 0),(6,.bp 16 0)],fun z=>(.new 2 36 [.int .i64 x0.1,.slice a3 x0.2.length c4] (.new 3 36 [.int .i64 0,.slice none 0 0] (.new 16 36 [.int .i64 x0.1,.slice z.2.1 z.1.length z.2.2] .nil))),fun z=>[⟨.str,⟨a3,x0.2.length,c4⟩,x0.2⟩],fun z=>[⟨.str,⟨z.2.1,z.1.length,z.2.2⟩,z.1⟩],fun z=>0⟩ ?_ ?_
  ·
   obtain ⟨g8,h⟩:=aF h
   obtain ⟨g12,h⟩:=aF h
   refine bE E (.new 2 36 [.int .i64 x0.1,.slice a3 x0.2.length c4] .nil) [] [9,11] ⟨E,E,E,E,V⟩ E (fun be15=>?_)
   refine bV aA aG true 7 [0,1,3,4,6] E (by kernel_rfl) [] [(8,.v (I x0.1)),(11,.v (.slice a3 x0.2.length c4)),(13,.v (.string (bs x1)))] ⟨E,E,E,E,V⟩ [] E E (Es E) ?_
   refine JA.all (rs:=[2,7,10]) (by kernel_rfl) E (List.forall_mem_cons.2 ⟨?_,List.forall_mem_cons.2 ⟨?_,List.forall_mem_cons.2 ⟨?_,(fun _ hx=>absurd hx List.not_mem_nil)⟩⟩⟩)
   ·
    refine JK.buildSlice aA E E E E E E E E E E E [] E .str [] ⟨E,E⟩ E E fun a7=>aJ ⟨E,E,E,E,V⟩ [] E ?_
    refine JA.all (rs:=[5,7,10]) (by kernel_rfl) E (List.forall_mem_cons.2 ⟨?_,List.forall_mem_cons.2 ⟨?_,List.forall_mem_cons.2 ⟨?_,(fun _ hx=>absurd hx List.not_mem_nil)⟩⟩⟩)
    ·
     refine bB aA E E E E ⟨E,E,E,E,V,E,E,E,E⟩ E E E [0] E 0 E g8 E fun a9 c10=>aJ ⟨E,E,E,E,V⟩ [] E ?_
     refine JA.all (rs:=[7,10]) (by kernel_rfl) E (List.forall_mem_cons.2 ⟨?_,List.forall_mem_cons.2 ⟨?_,(fun _ hx=>absurd hx List.not_mem_nil)⟩⟩)
     ·
      refine JK.buildSlice aA E E E E E E E E E E E [] E .str [x1] ⟨E,E⟩ E E fun a11=>aJ ⟨E,E,E,E,V⟩ [] E ?_
      refine JA.all (rs:=[8,10]) (by kernel_rfl) E (List.forall_mem_cons.2 ⟨?_,List.forall_mem_cons.2 ⟨?_,(fun _ hx=>absurd hx List.not_mem_nil)⟩⟩)
      ·
       refine bB aA E E E E ⟨E,E,E,E,V,E,E,E,E⟩ E E E [1] E 1 E g12 E fun a13 c14=>aJ ⟨E,E,E,E,V⟩ [] E (aT aA aG 2 [9] E (by kernel_rfl) [] [(16,.v (.agg #[.int .i64 x0.1,.slice a13 ((([]:List (List UInt8)) ++ x0.2) ++ ([x1]:List (List UInt8))).length c14]))] E ⟨E,V⟩ (JA.one 10 (by kernel_rfl) (JK.alloc aA E E E E E 16 E (eF _ E) (aJ ⟨E,E,E,E,V⟩ [] E (JA.one 11 (by kernel_rfl) (bA aA E E E E E E E E (aP E (bG (by kernel_rfl) (aX (B':=(.new 2 36 [.int .i64 x0.1,.slice a3 x0.2.length c4] (.new 3 36 [.int .i64 0,.slice none 0 0] (.new 16 36 [.int .i64 x0.1,.slice a13 ((([]:List (List UInt8)) ++ x0.2) ++ ([x1]:List (List UInt8))).length c14] .nil)))) (Bs E E) (aN (((([]:List (List UInt8)) ++ x0.2) ++ ([x1]:List (List UInt8))),a13,c14) h (Es E) (Bs E E) [0] E [0] E))))))))))
      refine JK.alloc aA E E E E E 16 E (eF _ E) (aJ ⟨E,E,E,E,V⟩ [] E (JA.one 8 (by kernel_rfl) (bB aA E E E E ⟨E,E,E,E,V,E,E,E,E⟩ E E E [1] E 1 E g12 E fun a13 c14=>aJ ⟨E,E,E,E,V⟩ [] E (aT aA aG 1 [9] E (by kernel_rfl) [] [(16,.v (.agg #[.int .i64 x0.1,.slice a13 ((([]:List (List UInt8)) ++ x0.2) ++ ([x1]:List (List UInt8))).length c14]))] E ⟨E,V⟩ (JA.one 11 (by kernel_rfl) (bA aA E E E E E E E E (aP E (bG (by kernel_rfl) (aX (B':=(.new 2 36 [.int .i64 x0.1,.slice a3 x0.2.length c4] (.new 3 36 [.int .i64 0,.slice none 0 0] (.new 16 36 [.int .i64 x0.1,.slice a13 ((([]:List (List UInt8)) ++ x0.2) ++ ([x1]:List (List UInt8))).length c14] .nil)))) (Bs E E) (aN (((([]:List (List UInt8)) ++ x0.2) ++ ([x1]:List (List UInt8))),a13,c14) h (Es E) (Bs E E) [0] E [0] E))))))))))
     refine JK.alloc aA E E E E E 16 E (eF _ E) (aJ ⟨E,E,E,E,V⟩ [] E (JA.one 7 (by kernel_rfl) (JK.buildSlice aA E E E E E E E E E E E [] E .str [x1] ⟨E,E⟩ E E fun a11=>aJ ⟨E,E,E,E,V⟩ [] E (JA.one 8 (by kernel_rfl) (bB aA E E E E ⟨E,E,E,E,V,E,E,E,E⟩ E E E [1] E 1 E g12 E fun a13 c14=>aJ ⟨E,E,E,E,V⟩ [] E (aT aA aG 1 [9] E (by kernel_rfl) [] [(16,.v (.agg #[.int .i64 x0.1,.slice a13 ((([]:List (List UInt8)) ++ x0.2) ++ ([x1]:List (List UInt8))).length c14]))] E ⟨E,V⟩ (JA.one 11 (by kernel_rfl) (bA aA E E E E E E E E (aP E (bG (by kernel_rfl) (aX (B':=(.new 2 36 [.int .i64 x0.1,.slice a3 x0.2.length c4] (.new 3 36 [.int .i64 0,.slice none 0 0] (.new 16 36 [.int .i64 x0.1,.slice a13 ((([]:List (List UInt8)) ++ x0.2) ++ ([x1]:List (List UInt8))).length c14] .nil)))) (Bs E E) (aN (((([]:List (List UInt8)) ++ x0.2) ++ ([x1]:List (List UInt8))),a13,c14) h (Es E) (Bs E E) [0] E [0] E))))))))))))
    ·
     refine JK.buildSlice aA E E E E E E E E E E E [] E .str [x1] ⟨E,E⟩ E E fun a11=>aJ ⟨E,E,E,E,V⟩ [] E ?_
     refine JA.all (rs:=[5,10]) (by kernel_rfl) E (List.forall_mem_cons.2 ⟨?_,List.forall_mem_cons.2 ⟨?_,(fun _ hx=>absurd hx List.not_mem_nil)⟩⟩)
     ·
      refine bB aA E E E E ⟨E,E,E,E,V,E,E,E,E⟩ E E E [1] E 0 E g8 E fun a9 c10=>aJ ⟨E,E,E,E,V⟩ [] E ?_
      refine JA.all (rs:=[8,10]) (by kernel_rfl) E (List.forall_mem_cons.2 ⟨?_,List.forall_mem_cons.2 ⟨?_,(fun _ hx=>absurd hx List.not_mem_nil)⟩⟩)
      ·
       refine bB aA E E E E ⟨E,E,E,E,V,E,E,E,E⟩ E E E [0] E 2 E g12 E fun a13 c14=>aJ ⟨E,E,E,E,V⟩ [] E (aT aA aG 2 [9] E (by kernel_rfl) [] [(16,.v (.agg #[.int .i64 x0.1,.slice a13 ((([]:List (List UInt8)) ++ x0.2) ++ ([x1]:List (List UInt8))).length c14]))] E ⟨E,V⟩ (JA.one 10 (by kernel_rfl) (JK.alloc aA E E E E E 16 E (eF _ E) (aJ ⟨E,E,E,E,V⟩ [] E (JA.one 11 (by kernel_rfl) (bA aA E E E E E E E E (aP E (bG (by kernel_rfl) (aX (B':=(.new 2 36 [.int .i64 x0.1,.slice a3 x0.2.length c4] (.new 3 36 [.int .i64 0,.slice none 0 0] (.new 16 36 [.int .i64 x0.1,.slice a13 ((([]:List (List UInt8)) ++ x0.2) ++ ([x1]:List (List UInt8))).length c14] .nil)))) (Bs E E) (aN (((([]:List (List UInt8)) ++ x0.2) ++ ([x1]:List (List UInt8))),a13,c14) h (Es E) (Bs E E) [0] E [0] E))))))))))
      refine JK.alloc aA E E E E E 16 E (eF _ E) (aJ ⟨E,E,E,E,V⟩ [] E (JA.one 8 (by kernel_rfl) (bB aA E E E E ⟨E,E,E,E,V,E,E,E,E⟩ E E E [0] E 2 E g12 E fun a13 c14=>aJ ⟨E,E,E,E,V⟩ [] E (aT aA aG 1 [9] E (by kernel_rfl) [] [(16,.v (.agg #[.int .i64 x0.1,.slice a13 ((([]:List (List UInt8)) ++ x0.2) ++ ([x1]:List (List UInt8))).length c14]))] E ⟨E,V⟩ (JA.one 11 (by kernel_rfl) (bA aA E E E E E E E E (aP E (bG (by kernel_rfl) (aX (B':=(.new 2 36 [.int .i64 x0.1,.slice a3 x0.2.length c4] (.new 3 36 [.int .i64 0,.slice none 0 0] (.new 16 36 [.int .i64 x0.1,.slice a13 ((([]:List (List UInt8)) ++ x0.2) ++ ([x1]:List (List UInt8))).length c14] .nil)))) (Bs E E) (aN (((([]:List (List UInt8)) ++ x0.2) ++ ([x1]:List (List UInt8))),a13,c14) h (Es E) (Bs E E) [0] E [0] E))))))))))
     refine JK.alloc aA E E E E E 16 E (eF _ E) (aJ ⟨E,E,E,E,V⟩ [] E (JA.one 5 (by kernel_rfl) (bB aA E E E E ⟨E,E,E,E,V,E,E,E,E⟩ E E E [1] E 0 E g8 E fun a9 c10=>aJ ⟨E,E,E,E,V⟩ [] E (JA.one 8 (by kernel_rfl) (bB aA E E E E ⟨E,E,E,E,V,E,E,E,E⟩ E E E [0] E 2 E g12 E fun a13 c14=>aJ ⟨E,E,E,E,V⟩ [] E (aT aA aG 1 [9] E (by kernel_rfl) [] [(16,.v (.agg #[.int .i64 x0.1,.slice a13 ((([]:List (List UInt8)) ++ x0.2) ++ ([x1]:List (List UInt8))).length c14]))] E ⟨E,V⟩ (JA.one 11 (by kernel_rfl) (bA aA E E E E E E E E (aP E (bG (by kernel_rfl) (aX (B':=(.new 2 36 [.int .i64 x0.1,.slice a3 x0.2.length c4] (.new 3 36 [.int .i64 0,.slice none 0 0] (.new 16 36 [.int .i64 x0.1,.slice a13 ((([]:List (List UInt8)) ++ x0.2) ++ ([x1]:List (List UInt8))).length c14] .nil)))) (Bs E E) (aN (((([]:List (List UInt8)) ++ x0.2) ++ ([x1]:List (List UInt8))),a13,c14) h (Es E) (Bs E E) [0] E [0] E))))))))))))
    refine JK.alloc aA E E E E E 16 E (eF _ E) (aJ ⟨E,E,E,E,V⟩ [] E ?_)
    refine JA.all (rs:=[5,7]) (by kernel_rfl) E (List.forall_mem_cons.2 ⟨?_,List.forall_mem_cons.2 ⟨?_,(fun _ hx=>absurd hx List.not_mem_nil)⟩⟩)
    ·
     refine bB aA E E E E ⟨E,E,E,E,V,E,E,E,E⟩ E E E [0] E 0 E g8 E fun a9 c10=>aJ ⟨E,E,E,E,V⟩ [] E (JA.one 7 (by kernel_rfl) (JK.buildSlice aA E E E E E E E E E E E [] E .str [x1] ⟨E,E⟩ E E fun a11=>aJ ⟨E,E,E,E,V⟩ [] E (JA.one 8 (by kernel_rfl) (bB aA E E E E ⟨E,E,E,E,V,E,E,E,E⟩ E E E [1] E 1 E g12 E fun a13 c14=>aJ ⟨E,E,E,E,V⟩ [] E (aT aA aG 1 [9] E (by kernel_rfl) [] [(16,.v (.agg #[.int .i64 x0.1,.slice a13 ((([]:List (List UInt8)) ++ x0.2) ++ ([x1]:List (List UInt8))).length c14]))] E ⟨E,V⟩ (JA.one 11 (by kernel_rfl) (bA aA E E E E E E E E (aP E (bG (by kernel_rfl) (aX (B':=(.new 2 36 [.int .i64 x0.1,.slice a3 x0.2.length c4] (.new 3 36 [.int .i64 0,.slice none 0 0] (.new 16 36 [.int .i64 x0.1,.slice a13 ((([]:List (List UInt8)) ++ x0.2) ++ ([x1]:List (List UInt8))).length c14] .nil)))) (Bs E E) (aN (((([]:List (List UInt8)) ++ x0.2) ++ ([x1]:List (List UInt8))),a13,c14) h (Es E) (Bs E E) [0] E [0] E)))))))))))
    refine JK.buildSlice aA E E E E E E E E E E E [] E .str [x1] ⟨E,E⟩ E E fun a11=>aJ ⟨E,E,E,E,V⟩ [] E (JA.one 5 (by kernel_rfl) (bB aA E E E E ⟨E,E,E,E,V,E,E,E,E⟩ E E E [1] E 0 E g8 E fun a9 c10=>aJ ⟨E,E,E,E,V⟩ [] E (JA.one 8 (by kernel_rfl) (bB aA E E E E ⟨E,E,E,E,V,E,E,E,E⟩ E E E [0] E 2 E g12 E fun a13 c14=>aJ ⟨E,E,E,E,V⟩ [] E (aT aA aG 1 [9] E (by kernel_rfl) [] [(16,.v (.agg #[.int .i64 x0.1,.slice a13 ((([]:List (List UInt8)) ++ x0.2) ++ ([x1]:List (List UInt8))).length c14]))] E ⟨E,V⟩ (JA.one 11 (by kernel_rfl) (bA aA E E E E E E E E (aP E (bG (by kernel_rfl) (aX (B':=(.new 2 36 [.int .i64 x0.1,.slice a3 x0.2.length c4] (.new 3 36 [.int .i64 0,.slice none 0 0] (.new 16 36 [.int .i64 x0.1,.slice a13 ((([]:List (List UInt8)) ++ x0.2) ++ ([x1]:List (List UInt8))).length c14] .nil)))) (Bs E E) (aN (((([]:List (List UInt8)) ++ x0.2) ++ ([x1]:List (List UInt8))),a13,c14) h (Es E) (Bs E E) [0] E [0] E)))))))))))
   ·
    refine JK.buildSlice aA E E E E E E E E E E E [] E .str [x1] ⟨E,E⟩ E E fun a11=>aJ ⟨E,E,E,E,V⟩ [] E ?_
    refine JA.all (rs:=[2,10]) (by kernel_rfl) E (List.forall_mem_cons.2 ⟨?_,List.forall_mem_cons.2 ⟨?_,(fun _ hx=>absurd hx List.not_mem_nil)⟩⟩)
    ·
     refine JK.buildSlice aA E E E E E E E E E E E [] E .str [] ⟨E,E⟩ E E fun a7=>aJ ⟨E,E,E,E,V⟩ [] E ?_
     refine JA.all (rs:=[5,10]) (by kernel_rfl) E (List.forall_mem_cons.2 ⟨?_,List.forall_mem_cons.2 ⟨?_,(fun _ hx=>absurd hx List.not_mem_nil)⟩⟩)
     ·
      refine bB aA E E E E ⟨E,E,E,E,V,E,E,E,E⟩ E E E [0] E 0 E g8 E fun a9 c10=>aJ ⟨E,E,E,E,V⟩ [] E ?_
      refine JA.all (rs:=[8,10]) (by kernel_rfl) E (List.forall_mem_cons.2 ⟨?_,List.forall_mem_cons.2 ⟨?_,(fun _ hx=>absurd hx List.not_mem_nil)⟩⟩)
      ·
       refine bB aA E E E E ⟨E,E,E,E,V,E,E,E,E⟩ E E E [0] E 2 E g12 E fun a13 c14=>aJ ⟨E,E,E,E,V⟩ [] E (aT aA aG 2 [9] E (by kernel_rfl) [] [(16,.v (.agg #[.int .i64 x0.1,.slice a13 ((([]:List (List UInt8)) ++ x0.2) ++ ([x1]:List (List UInt8))).length c14]))] E ⟨E,V⟩ (JA.one 10 (by kernel_rfl) (JK.alloc aA E E E E E 16 E (eF _ E) (aJ ⟨E,E,E,E,V⟩ [] E (JA.one 11 (by kernel_rfl) (bA aA E E E E E E E E (aP E (bG (by kernel_rfl) (aX (B':=(.new 2 36 [.int .i64 x0.1,.slice a3 x0.2.length c4] (.new 3 36 [.int .i64 0,.slice none 0 0] (.new 16 36 [.int .i64 x0.1,.slice a13 ((([]:List (List UInt8)) ++ x0.2) ++ ([x1]:List (List UInt8))).length c14] .nil)))) (Bs E E) (aN (((([]:List (List UInt8)) ++ x0.2) ++ ([x1]:List (List UInt8))),a13,c14) h (Es E) (Bs E E) [0] E [0] E))))))))))
      refine JK.alloc aA E E E E E 16 E (eF _ E) (aJ ⟨E,E,E,E,V⟩ [] E (JA.one 8 (by kernel_rfl) (bB aA E E E E ⟨E,E,E,E,V,E,E,E,E⟩ E E E [0] E 2 E g12 E fun a13 c14=>aJ ⟨E,E,E,E,V⟩ [] E (aT aA aG 1 [9] E (by kernel_rfl) [] [(16,.v (.agg #[.int .i64 x0.1,.slice a13 ((([]:List (List UInt8)) ++ x0.2) ++ ([x1]:List (List UInt8))).length c14]))] E ⟨E,V⟩ (JA.one 11 (by kernel_rfl) (bA aA E E E E E E E E (aP E (bG (by kernel_rfl) (aX (B':=(.new 2 36 [.int .i64 x0.1,.slice a3 x0.2.length c4] (.new 3 36 [.int .i64 0,.slice none 0 0] (.new 16 36 [.int .i64 x0.1,.slice a13 ((([]:List (List UInt8)) ++ x0.2) ++ ([x1]:List (List UInt8))).length c14] .nil)))) (Bs E E) (aN (((([]:List (List UInt8)) ++ x0.2) ++ ([x1]:List (List UInt8))),a13,c14) h (Es E) (Bs E E) [0] E [0] E))))))))))
     refine JK.alloc aA E E E E E 16 E (eF _ E) (aJ ⟨E,E,E,E,V⟩ [] E (JA.one 5 (by kernel_rfl) (bB aA E E E E ⟨E,E,E,E,V,E,E,E,E⟩ E E E [0] E 0 E g8 E fun a9 c10=>aJ ⟨E,E,E,E,V⟩ [] E (JA.one 8 (by kernel_rfl) (bB aA E E E E ⟨E,E,E,E,V,E,E,E,E⟩ E E E [0] E 2 E g12 E fun a13 c14=>aJ ⟨E,E,E,E,V⟩ [] E (aT aA aG 1 [9] E (by kernel_rfl) [] [(16,.v (.agg #[.int .i64 x0.1,.slice a13 ((([]:List (List UInt8)) ++ x0.2) ++ ([x1]:List (List UInt8))).length c14]))] E ⟨E,V⟩ (JA.one 11 (by kernel_rfl) (bA aA E E E E E E E E (aP E (bG (by kernel_rfl) (aX (B':=(.new 2 36 [.int .i64 x0.1,.slice a3 x0.2.length c4] (.new 3 36 [.int .i64 0,.slice none 0 0] (.new 16 36 [.int .i64 x0.1,.slice a13 ((([]:List (List UInt8)) ++ x0.2) ++ ([x1]:List (List UInt8))).length c14] .nil)))) (Bs E E) (aN (((([]:List (List UInt8)) ++ x0.2) ++ ([x1]:List (List UInt8))),a13,c14) h (Es E) (Bs E E) [0] E [0] E))))))))))))
    refine JK.alloc aA E E E E E 16 E (eF _ E) (aJ ⟨E,E,E,E,V⟩ [] E (JA.one 2 (by kernel_rfl) (JK.buildSlice aA E E E E E E E E E E E [] E .str [] ⟨E,E⟩ E E fun a7=>aJ ⟨E,E,E,E,V⟩ [] E (JA.one 5 (by kernel_rfl) (bB aA E E E E ⟨E,E,E,E,V,E,E,E,E⟩ E E E [0] E 0 E g8 E fun a9 c10=>aJ ⟨E,E,E,E,V⟩ [] E (JA.one 8 (by kernel_rfl) (bB aA E E E E ⟨E,E,E,E,V,E,E,E,E⟩ E E E [0] E 2 E g12 E fun a13 c14=>aJ ⟨E,E,E,E,V⟩ [] E (aT aA aG 1 [9] E (by kernel_rfl) [] [(16,.v (.agg #[.int .i64 x0.1,.slice a13 ((([]:List (List UInt8)) ++ x0.2) ++ ([x1]:List (List UInt8))).length c14]))] E ⟨E,V⟩ (JA.one 11 (by kernel_rfl) (bA aA E E E E E E E E (aP E (bG (by kernel_rfl) (aX (B':=(.new 2 36 [.int .i64 x0.1,.slice a3 x0.2.length c4] (.new 3 36 [.int .i64 0,.slice none 0 0] (.new 16 36 [.int .i64 x0.1,.slice a13 ((([]:List (List UInt8)) ++ x0.2) ++ ([x1]:List (List UInt8))).length c14] .nil)))) (Bs E E) (aN (((([]:List (List UInt8)) ++ x0.2) ++ ([x1]:List (List UInt8))),a13,c14) h (Es E) (Bs E E) [0] E [0] E))))))))))))))
   refine JK.alloc aA E E E E E 16 E (eF _ E) (aJ ⟨E,E,E,E,V⟩ [] E ?_)
   refine JA.all (rs:=[2,7]) (by kernel_rfl) E (List.forall_mem_cons.2 ⟨?_,List.forall_mem_cons.2 ⟨?_,(fun _ hx=>absurd hx List.not_mem_nil)⟩⟩)
   ·
    refine JK.buildSlice aA E E E E E E E E E E E [] E .str [] ⟨E,E⟩ E E fun a7=>aJ ⟨E,E,E,E,V⟩ [] E ?_
    refine JA.all (rs:=[5,7]) (by kernel_rfl) E (List.forall_mem_cons.2 ⟨?_,List.forall_mem_cons.2 ⟨?_,(fun _ hx=>absurd hx List.not_mem_nil)⟩⟩)
    ·
     refine bB aA E E E E ⟨E,E,E,E,V,E,E,E,E⟩ E E E [0] E 0 E g8 E fun a9 c10=>aJ ⟨E,E,E,E,V⟩ [] E (JA.one 7 (by kernel_rfl) (JK.buildSlice aA E E E E E E E E E E E [] E .str [x1] ⟨E,E⟩ E E fun a11=>aJ ⟨E,E,E,E,V⟩ [] E (JA.one 8 (by kernel_rfl) (bB aA E E E E ⟨E,E,E,E,V,E,E,E,E⟩ E E E [1] E 1 E g12 E fun a13 c14=>aJ ⟨E,E,E,E,V⟩ [] E (aT aA aG 1 [9] E (by kernel_rfl) [] [(16,.v (.agg #[.int .i64 x0.1,.slice a13 ((([]:List (List UInt8)) ++ x0.2) ++ ([x1]:List (List UInt8))).length c14]))] E ⟨E,V⟩ (JA.one 11 (by kernel_rfl) (bA aA E E E E E E E E (aP E (bG (by kernel_rfl) (aX (B':=(.new 2 36 [.int .i64 x0.1,.slice a3 x0.2.length c4] (.new 3 36 [.int .i64 0,.slice none 0 0] (.new 16 36 [.int .i64 x0.1,.slice a13 ((([]:List (List UInt8)) ++ x0.2) ++ ([x1]:List (List UInt8))).length c14] .nil)))) (Bs E E) (aN (((([]:List (List UInt8)) ++ x0.2) ++ ([x1]:List (List UInt8))),a13,c14) h (Es E) (Bs E E) [0] E [0] E)))))))))))
    refine JK.buildSlice aA E E E E E E E E E E E [] E .str [x1] ⟨E,E⟩ E E fun a11=>aJ ⟨E,E,E,E,V⟩ [] E (JA.one 5 (by kernel_rfl) (bB aA E E E E ⟨E,E,E,E,V,E,E,E,E⟩ E E E [1] E 0 E g8 E fun a9 c10=>aJ ⟨E,E,E,E,V⟩ [] E (JA.one 8 (by kernel_rfl) (bB aA E E E E ⟨E,E,E,E,V,E,E,E,E⟩ E E E [0] E 2 E g12 E fun a13 c14=>aJ ⟨E,E,E,E,V⟩ [] E (aT aA aG 1 [9] E (by kernel_rfl) [] [(16,.v (.agg #[.int .i64 x0.1,.slice a13 ((([]:List (List UInt8)) ++ x0.2) ++ ([x1]:List (List UInt8))).length c14]))] E ⟨E,V⟩ (JA.one 11 (by kernel_rfl) (bA aA E E E E E E E E (aP E (bG (by kernel_rfl) (aX (B':=(.new 2 36 [.int .i64 x0.1,.slice a3 x0.2.length c4] (.new 3 36 [.int .i64 0,.slice none 0 0] (.new 16 36 [.int .i64 x0.1,.slice a13 ((([]:List (List UInt8)) ++ x0.2) ++ ([x1]:List (List UInt8))).length c14] .nil)))) (Bs E E) (aN (((([]:List (List UInt8)) ++ x0.2) ++ ([x1]:List (List UInt8))),a13,c14) h (Es E) (Bs E E) [0] E [0] E)))))))))))
   refine JK.buildSlice aA E E E E E E E E E E E [] E .str [x1] ⟨E,E⟩ E E fun a11=>aJ ⟨E,E,E,E,V⟩ [] E (JA.one 2 (by kernel_rfl) (JK.buildSlice aA E E E E E E E E E E E [] E .str [] ⟨E,E⟩ E E fun a7=>aJ ⟨E,E,E,E,V⟩ [] E (JA.one 5 (by kernel_rfl) (bB aA E E E E ⟨E,E,E,E,V,E,E,E,E⟩ E E E [0] E 0 E g8 E fun a9 c10=>aJ ⟨E,E,E,E,V⟩ [] E (JA.one 8 (by kernel_rfl) (bB aA E E E E ⟨E,E,E,E,V,E,E,E,E⟩ E E E [0] E 2 E g12 E fun a13 c14=>aJ ⟨E,E,E,E,V⟩ [] E (aT aA aG 1 [9] E (by kernel_rfl) [] [(16,.v (.agg #[.int .i64 x0.1,.slice a13 ((([]:List (List UInt8)) ++ x0.2) ++ ([x1]:List (List UInt8))).length c14]))] E ⟨E,V⟩ (JA.one 11 (by kernel_rfl) (bA aA E E E E E E E E (aP E (bG (by kernel_rfl) (aX (B':=(.new 2 36 [.int .i64 x0.1,.slice a3 x0.2.length c4] (.new 3 36 [.int .i64 0,.slice none 0 0] (.new 16 36 [.int .i64 x0.1,.slice a13 ((([]:List (List UInt8)) ++ x0.2) ++ ([x1]:List (List UInt8))).length c14] .nil)))) (Bs E E) (aN (((([]:List (List UInt8)) ++ x0.2) ++ ([x1]:List (List UInt8))),a13,c14) h (Es E) (Bs E E) [0] E [0] E)))))))))))))
  rintro ⟨x16,a17,c18⟩ h
  subst hj42
  obtain ⟨j28,hj41,h⟩:=aO h
  refine eH (ι:=Int×List (List UInt8)×Option Addr×Nat) ⟨fun z=>j28 (z.1,z.2.1)=some r,fun z=>[(2,.bp 2 0),(4,.bp 3 0),(6,.bp 16 0)],fun z=>(.new 2 36 [.int .i64 x0.1,.slice a3 x0.2.length c4] (.new 3 36 [.int .i64 0,.slice none 0 0] (.new 16 36 [.int .i64 z.1,.slice z.2.2.1 z.2.1.length z.2.2.2] .nil))),fun z=>[⟨.str,⟨a3,x0.2.length,c4⟩,x0.2⟩],fun z=>[⟨.str,⟨z.2.2.1,z.2.1.length,z.2.2.2⟩,z.2.1⟩],fun z=>0⟩ ?_ ?_
  ·
   refine aD aA 4 [(20,.v (.bool (decide (60<(x16.length:Int)))))] ⟨⟨E,V⟩,E⟩ E E ?_
   refine aL E h (fun h=>?_) (fun h=>?_)
   ·
    refine JS.seq (JS.region (aB aA 2 [] [] [(22,.v (.slice a17 x16.length c18))] _ E ⟨⟨E,V⟩,E⟩ ?_))
    obtain ⟨g20,h⟩:=aF h
    refine oH aA E E E E E E E E [0] E (1:Int) (x16.length:Int) E E g20 E fun a21 c22=>aS aA 2 [] [] [] (.new 2 36 [.int .i64 x0.1,.slice a3 x0.2.length c4] (.new 3 36 [.int .i64 0,.slice none 0 0] (.new 16 36 [.int .i64 x0.1,.slice a21 (bC x16 1 (x16.length:Int)).length c22] .nil))) E ⟨V,(Bs E E)⟩ (aC E (yW aA 5 [(W (x0.1+1))] [] [] (.new 2 36 [.int .i64 x0.1,.slice a3 x0.2.length c4] (.new 3 36 [.int .i64 0,.slice none 0 0] (.new 16 36 [.int .i64 (W (x0.1+1)),.slice a21 (bC x16 1 (x16.length:Int)).length c22] .nil))) ⟨⟨V,E⟩,V,(Bs E E)⟩ E E (aN ((W (x0.1+1)),(bC x16 1 (x16.length:Int)),a21,c22) h (Es E) (Bs E E) [0] E [0] E)))
   refine JS.skip (aN (x0.1,x16,a17,c18) h (Es E) (Bs E E) [0] E [0] E)
  rintro ⟨x24,x25,a26,c27⟩ h
  subst hj41
  refine JS.seq (JS.seq (JS.region (aB aA 1 [] [] [(29,.v (.agg #[.int .i64 x0.1,.slice a3 x0.2.length c4]))] _ E ⟨⟨E,V⟩,E⟩ ?_)))
  refine bnw h fun y30 hy31 h=>JO.call E E E E (wD x0 a3 c4 _ hy31) E [0] E E fun _ _=>aB aA 3 [] [] [(32,.v (.bool (!y30))),(33,.cd [(32,false)] (.v (.agg #[.int .i64 x24,.slice a26 x25.length c27])))] _ E ⟨(Es E),E⟩ ?_
  obtain ⟨y32,hy33,-,h⟩:=aU h
  refine bJ E E E E (fun q39=>wD (x24,x25) a26 c27 _ (hy33 q39)) E [1] E E (aB aA 2 [] [] [(36,.v (.bool (bif (!y30) then true else (!y32))))] _ E ⟨⟨E,V⟩,E⟩ (aC E ?_))
  refine aL E h (fun h=>?_) (fun h=>?_)
  ·
   refine aR aA 3 [] [] [(5,.v (.bool false))] (.new 3 36 [.int .i64 0,.slice none 0 0] .nil) ⟨⟨E,V⟩,(Bs E E)⟩ E E ?_
   cases h
   refine aW .str Sl.nil E E (JS.ret aA (none,0) V E E [0] E)
  refine JS.skip (aR aA 3 [] [] [(5,.v (.bool true))] (.new 3 36 [.int .i64 x24,.slice a26 x25.length c27] .nil) ⟨⟨E,V⟩,(Bs E E)⟩ E E ?_)
  cases h
  exact JS.ret aA (a26,c27) V E E [0] E

def fQ (x0:List UInt8×Int×Int) (j59:(Int×List (List UInt8)×Int×Int)→Option ((Int×List (List UInt8))×List UInt8×Int×Int)) (k50:(Int×Int×List (List UInt8)×Int×Int)→Option ((Int×List (List UInt8))×List UInt8×Int×Int)):(Int×Int×List (List UInt8)×Int×Int)→Option ((Int×List (List UInt8))×List UInt8×Int×Int):=fun (x25,x30,x31,x37,x38)=>
  (bif (decide (0<x25)) then
  (aH (kQ (x0.1,x37,x38)) fun (y39,y40)=>
  (aH (mQ (x30,x31) y39) fun (y42,y43)=>
  k50 ((W (x25 - 1)),y42.1,y42.2,y40.2.1,y40.2.2)))
  else
  j59 (x30,x31,x37,x38))

def kM (x0:List UInt8×Int×Int):Option ((Int×List (List UInt8))×List UInt8×Int×Int):=
  (aH (bH x0 5) fun (y7,y8)=>
  (aH (bH (x0.1,y8.2.1,y8.2.2) 8) fun (y10,y11)=>
  (aY (fun ((x20,x21,x22):Int×Int×Int)=>
  (aY (fun ((x53,x54,x57,x58):Int×List (List UInt8)×Int×Int)=>
  some ((x53,x54),(x0.1,x57,x58))) fun j59=>
  (bI (fQ x0 j59) bO (x20,(W (1+y7)),([]:List (List UInt8)),x21,x22)))) fun j23=>
  (aH (bH (x0.1,y11.2.1,y11.2.2) 12) fun (y13,y14)=>
  (bif (decide (y13=0)) then
  (aH (bH (x0.1,y14.2.1,y14.2.2) 4) fun (y16,y17)=>
  j23 ((W (59+y16)),y17.2.1,y17.2.2))
  else
  j23 (y10,y14.2.1,y14.2.2))))))

theorem aBe (x0:List UInt8×Int×Int) (a2:Option Addr) (a3:Option Addr) (c4:Nat) (r:(Int×List (List UInt8))×List UInt8×Int×Int) (h:kM x0=some r):
  FX Tryz.prog 14 [.pointer a2] [⟨.byte,⟨a3,x0.1.length,c4⟩,x0.1⟩] [⟨(.pair .val (.pair (.int .i64) (.int .i64))),⟨a2,1,1⟩,[((Sl.v ⟨a3,x0.1.length,c4⟩),x0.2)]⟩] (fun _:Option Addr×Nat=>True) (fun q=>.agg #[.int .i64 r.1.1,.slice q.1 r.1.2.length q.2]) (fun q=>[⟨(.pair .val (.pair (.int .i64) (.int .i64))),⟨a2,1,1⟩,[((Sl.v ⟨a3,x0.1.length,c4⟩),r.2.2)]⟩,⟨.str,⟨q.1,r.1.2.length,q.2⟩,r.1.2⟩]):=
 by
  refine FX.of (T:=TTx) Tryz.call14 Tryz.func14 E E fun w0 L0=>?_
  unfold kM at h
  refine mZ 0 a2 E ?_
  refine aR aA 1 [] [3] [(2,.bp 3 0)] (.new 3 36 [.int .i64 0,.slice none 0 0] .nil) ⟨⟨E,V⟩,(Bs E E)⟩ E E (JS.seq (JS.region (aB aA 1 [] [] [(5,.ep ⟨a2,1,1⟩ 0)] _ E ⟨⟨E,V⟩,E⟩ ?_)))
  obtain ⟨⟨y7,y8⟩,hy9,h⟩:=aE h
  refine cE E E E E (cA x0 5 a2 a3 c4 _ hy9) E [0] E [0] E E fun _ _=>aS aA 4 [(W (1+y7))] [7] [(3,.bp 7 0)] (.new 3 36 [.int .i64 0,.slice none 0 0] (.new 7 36 [.int .i64 (W (1+y7)),.slice none 0 0] .nil)) E ⟨⟨V,E⟩,⟨E,V⟩,(Bs E E)⟩ (aC E (JS.seq (JS.region (aB aA 1 [] [] [(9,.ep ⟨a2,1,1⟩ 0)] _ E ⟨⟨E,V⟩,E⟩ ?_))))
  obtain ⟨⟨y10,y11⟩,hy12,h⟩:=aE h
  refine cE E E E E (cA (x0.1,y8.2) 8 a2 a3 c4 _ hy12) E [0] E [0] E E fun _ _=>aB aA 1 [] [] [(4,.v (I y10))] _ E ⟨⟨E,V⟩,E⟩ (aC E ?_)
  obtain ⟨j23,hj66,h⟩:=aO h
  refine eH (ι:=Int×Int×Int) ⟨fun z=>j23 z=some r,fun z=>[(0,.ep ⟨a2,1,1⟩ 0),(2,.bp 3 0),(3,.bp 7 0),(4,.v (I z.1))],fun z=>(.new 3 36 [.int .i64 0,.slice none 0 0] (.new 7 36 [.int .i64 (W (1+y7)),.slice none 0 0] .nil)),fun z=>[⟨.byte,⟨a3,x0.1.length,c4⟩,x0.1⟩],fun z=>[⟨(.pair .val (.pair (.int .i64) (.int .i64))),⟨a2,1,1⟩,[((Sl.v ⟨a3,x0.1.length,c4⟩),z.2)]⟩],fun z=>0⟩ ?_ ?_
  ·
   refine JS.seq (JS.region (aB aA 1 [] [] [(11,.ep ⟨a2,1,1⟩ 0)] _ E ⟨⟨E,V⟩,E⟩ ?_))
   obtain ⟨⟨y13,y14⟩,hy15,h⟩:=aE h
   refine cE E E E E (cA (x0.1,y11.2) 12 a2 a3 c4 _ hy15) E [0] E [0] E E fun _ _=>aB aA 1 [] [] [(13,.v (.bool (decide (y13=0))))] _ E ⟨⟨E,V⟩,E⟩ (aC E ?_)
   refine aL E h (fun h=>?_) (fun h=>?_)
   ·
    refine JS.region (aB aA 1 [] [] [(14,.ep ⟨a2,1,1⟩ 0)] _ E ⟨⟨E,V⟩,E⟩ ?_)
    obtain ⟨⟨y16,y17⟩,hy18,h⟩:=aE h
    refine cE E E E E (cA (x0.1,y14.2) 4 a2 a3 c4 _ hy18) E [0] E [0] E E fun _ _=>aB aA 2 [(W (59+y16))] [] [(4,.v (I (W (59+y16))))] _ E ⟨⟨V,E⟩,⟨E,V⟩,E⟩ (aC E (aN ((W (59+y16)),y17.2) h (Es E) (Bs E E) [0] E [0] E))
   refine JS.skip (aN (y10,y14.2) h (Es E) (Bs E E) [0] E [0] E)
  rintro ⟨x20,x21,x22⟩ h
  subst hj66
  refine JS.seq ?_
  obtain ⟨j59,hj65,h⟩:=aO h
  refine bF (ι:=Int×List (List UInt8)×Int×Int×Option Addr×Nat) ⟨fun z=>j59 (z.1,z.2.1,z.2.2.1,z.2.2.2.1)=some r,fun z=>[(2,.bp 3 0),(3,.bp 7 0)],fun z=>(.new 3 36 [.int .i64 0,.slice none 0 0] (.new 7 36 [.int .i64 z.1,.slice (Q4 z).1 z.2.1.length (Q4 z).2] .nil)),fun z=>[⟨.byte,⟨a3,x0.1.length,c4⟩,x0.1⟩],fun z=>[⟨.str,⟨(Q4 z).1,z.2.1.length,(Q4 z).2⟩,z.2.1⟩,⟨(.pair .val (.pair (.int .i64) (.int .i64))),⟨a2,1,1⟩,[((Sl.v ⟨a3,x0.1.length,c4⟩),z.2.2.1,z.2.2.2.1)]⟩],fun z=>0⟩ ?_ ?_
  ·
   refine aW .str Sl.nil E E (JS.loop (ι:=Nat×Int×Int×List (List UInt8)×Int×Int×Option Addr×Nat) ⟨fun z=>bI (fQ x0 j59) z.1 (z.2.1,z.2.2.1,z.2.2.2.1,(Q4 z).1,(Q4 z).2.1)=some r,fun z=>[(0,.ep ⟨a2,1,1⟩ 0),(2,.bp 3 0),(3,.bp 7 0),(4,.v (I z.2.1))],fun z=>(.new 3 36 [.int .i64 0,.slice none 0 0] (.new 7 36 [.int .i64 z.2.2.1,.slice (Q4 z).2.2.1 z.2.2.2.1.length (Q4 z).2.2.2] .nil)),fun z=>[⟨.byte,⟨a3,x0.1.length,c4⟩,x0.1⟩],fun z=>[⟨.str,⟨(Q4 z).2.2.1,z.2.2.2.1.length,(Q4 z).2.2.2⟩,z.2.2.2.1⟩,⟨(.pair .val (.pair (.int .i64) (.int .i64))),⟨a2,1,1⟩,[((Sl.v ⟨a3,x0.1.length,c4⟩),(Q4 z).1,(Q4 z).2.1)]⟩],fun z=>z.1⟩ (bO,x20,(W (1+y7)),([]:List (List UInt8)),x21,x22,none,0) h (Es E) (Bs E E) [0] E [0,0] E ?_)
   rintro ⟨n51,x25,x30,x31,x37,x38,a32,c33⟩ h
   obtain ⟨n51,rfl,h⟩:=bM h
   rw [fQ] at h
   refine JS.seq (aD aA 2 [(18,.v (.bool (decide (0<x25))))] ⟨⟨E,V⟩,E⟩ E E ?_)
   refine aL E h (fun h=>?_) (fun h=>?_)
   ·
    refine JS.skip (JS.seq (JS.block ?_))
    obtain ⟨⟨y39,y40⟩,hy41,h⟩:=aE h
    obtain ⟨⟨y42,y43⟩,hy44,h⟩:=aE h
    refine bE E (.new 7 36 [.int .i64 x30,.slice a32 x31.length c33] .nil) [] [3,4,5,6,7] ⟨E,E,E,E,V⟩ E (fun be47=>?_)
    refine bV aA sG true 6 [0,1] E (by kernel_rfl) [] [(22,.v (.agg #[.int .i64 x30,.slice a32 x31.length c33])),(23,.ep ⟨a2,1,1⟩ 0)] ⟨E,E,E,E,V⟩ [] E E (Es E) (JA.one 2 (by kernel_rfl) (pN E E E E (aBi (x0.1,x37,x38) a2 a3 c4 _ hy41) E [1] E [0] E E fun _ _=>aJ ⟨E,E,E,E,V⟩ [] E (JA.one 3 (by kernel_rfl) (JK.call E E E E (aBl (x30,x31) y39 a32 c33 _ hy44) E [2] E E ?_))))
    rintro ⟨a45,c46⟩ -
    refine aP E (aT aA sG 1 [4,5,6] E (by kernel_rfl) [] [(26,.v (.agg #[.int .i64 y42.1,.slice a45 y42.2.length c46]))] E ⟨E,V⟩ (JA.one 7 (by kernel_rfl) (bA aA E E E E E E E E (aP E (bG (by kernel_rfl) (aX (B':=(.new 3 36 [.int .i64 0,.slice none 0 0] (.new 7 36 [.int .i64 y42.1,.slice a45 y42.2.length c46] .nil))) (Bs E E) (aV (cW aA 3 [(W (x25 - 1))] [] [(4,.v (I (W (x25 - 1))))] _ ⟨⟨V,E⟩,⟨E,V⟩,E⟩ E E (bZ (n51,(W (x25 - 1)),y42.1,y42.2,y40.2.1,y40.2.2,a45,c46) h (Nat.lt_succ_self _) (Es E) (Bs E E) [0] E [0,0] E)))))))))
   refine JS.exit E (aN (x30,x31,x37,x38,a32,c33) h (Es E) (Bs E E) [0] E [0,0] E)
  rintro ⟨x53,x54,x57,x58,a55,c56⟩ h
  subst hj65
  refine aR aA 2 [] [] [] (.new 3 36 [.int .i64 x53,.slice a55 x54.length c56] .nil) ⟨V,(Bs E E)⟩ E E ?_
  cases h
  exact eI aA (a55,c56) V E E [1,0] E

def jI (x0:List UInt8):Option (EdQ×Int×List (List UInt8)):=
  (aH (oA x0) fun (y6:List UInt8×Int×Int)=>
  (aH (sJ false) fun (y9:EdQ)=>
  (aH (kP (x0,y6.2.1,y6.2.2)) fun (y11,y12)=>
  (aH (kN (x0,y12.2.1,y12.2.2)) fun (y16,y17)=>
  (aH (bH (x0,y17.2.1,y17.2.2) 4) fun (y21,y22)=>
  (aH (kM (x0,y22.2.1,y22.2.2)) fun (y24,y25)=>
  some ((y9.1,y9.2.1,y11,y9.2.2.2.1,y9.2.2.2.2.1,y9.2.2.2.2.2.1,y9.2.2.2.2.2.2.1,y9.2.2.2.2.2.2.2.1,y9.2.2.2.2.2.2.2.2.1,y21,y16,[],y9.2.2.2.2.2.2.2.2.2.2.2.2.1,([],y9.2.2.2.2.2.2.2.2.2.2.2.2.2.1.2),[],y9.2.2.2.2.2.2.2.2.2.2.2.2.2.2.2.1,([],y9.2.2.2.2.2.2.2.2.2.2.2.2.2.2.2.2.2)),y24)))))))

theorem xU (x0:List UInt8) (a2:Option Addr) (c3:Nat) (r:EdQ×Int×List (List UInt8)) (h:jI x0=some r):
  FC Tryz.prog 4 [.slice a2 x0.length c3] [⟨.byte,⟨a2,x0.length,c3⟩,x0⟩] (fun _:Option Addr×Nat×Option Addr×Nat×Option Addr×Nat=>True) (fun q=>.tuple #[.agg (aK (r.1.1,r.1.2.1,r.1.2.2.1,r.1.2.2.2.1,r.1.2.2.2.2.1,r.1.2.2.2.2.2.1,r.1.2.2.2.2.2.2.1,r.1.2.2.2.2.2.2.2.1,r.1.2.2.2.2.2.2.2.2.1,r.1.2.2.2.2.2.2.2.2.2.1,r.1.2.2.2.2.2.2.2.2.2.2.1,[],r.1.2.2.2.2.2.2.2.2.2.2.2.2.1,([],r.1.2.2.2.2.2.2.2.2.2.2.2.2.2.1.2),[],r.1.2.2.2.2.2.2.2.2.2.2.2.2.2.2.2.1,([],r.1.2.2.2.2.2.2.2.2.2.2.2.2.2.2.2.2.2)) (q.1,q.2.1,q.2.2.1,q.2.2.2.1,none,0,none,0,none,0,none,0)).toArray,.agg #[.int .i64 r.2.1,.slice (Q4 q).1 r.2.2.length (Q4 q).2]]) (fun q=>[⟨(.int .i64),⟨q.1,r.1.2.2.1.1.length,q.2.1⟩,r.1.2.2.1.1⟩,⟨(.sl (.int .i64)),⟨q.2.2.1,r.1.2.2.2.2.2.2.2.2.2.2.1.length,q.2.2.2.1⟩,r.1.2.2.2.2.2.2.2.2.2.2.1⟩,⟨.str,⟨(Q4 q).1,r.2.2.length,(Q4 q).2⟩,r.2.2⟩]):=
 by
  refine FC.of (T:=TTx) Tryz.call4 Tryz.func4 E E fun w0=>?_
  unfold jI at h
  refine aR aA 2 [] [2,3] [(2,.bp 2 0),(3,.bp 3 0)] (.new 2 33 bP (.new 3 36 [.int .i64 0,.slice none 0 0] .nil)) ⟨(Es E),(Bs E E)⟩ E E (JS.seq (JS.region (aB aA 1 [] [] [(7,.v (.slice a2 x0.length c3))] _ E ⟨⟨E,V⟩,E⟩ ?_)))
  refine bnw h fun y6 hy7 h=>JO.call E E E E (aC1 x0 a2 c3 _ hy7) E [0] E E fun a8 _=>aLm 8 a8 E (aB aA 1 [] [] [(4,.ep ⟨a8,1,1⟩ 0)] _ E ⟨⟨E,V⟩,E⟩ (aC E (JS.seq (JS.region ?_))))
  refine bnw h fun y9 hy10 h=>JO.call E E E E (aE6 false _ hy10) E [] E E fun _ _=>aS aA 2 [] [10] [(5,.bp 10 0)] (.new 2 33 bP (.new 3 36 [.int .i64 0,.slice none 0 0] (.new 10 33 (aK (y9.1,y9.2.1,([],y9.2.2.1.2),y9.2.2.2.1,(Q4 y9).1,(Q4 y9).2.1,(Q4 y9).2.2.1,(Q4 y9).2.2.2.1,(Q8 y9).1,(Q8 y9).2.1,[],[],(Q12 y9).1,([],(Q12 y9).2.1.2),[],(Q12 y9).2.2.2.1,([],(Q16 y9).2)) (none,0,none,0,none,0,none,0,none,0,none,0)) .nil))) E ⟨⟨E,V⟩,(Bs E E)⟩ (aC E (JS.seq (JS.region (aB aA 1 [] [] [(10,.ep ⟨a8,1,1⟩ 0)] _ E ⟨⟨E,V⟩,E⟩ ?_))))
  obtain ⟨⟨y11,y12⟩,hy13,h⟩:=aE h
  refine cE E E E E (aBh (x0,y6.2) a8 a2 c3 _ hy13) E [0] E [0] E E ?_
  rintro ⟨a14,c15⟩ -
  refine aS aA 2 [] [] [] (.new 2 33 bP (.new 3 36 [.int .i64 0,.slice none 0 0] (.new 10 33 (aK (y9.1,y9.2.1,y11,y9.2.2.2.1,(Q4 y9).1,(Q4 y9).2.1,(Q4 y9).2.2.1,(Q4 y9).2.2.2.1,(Q8 y9).1,(Q8 y9).2.1,[],[],(Q12 y9).1,([],(Q12 y9).2.1.2),[],(Q12 y9).2.2.2.1,([],(Q16 y9).2)) (a14,c15,none,0,none,0,none,0,none,0,none,0)) .nil))) E ⟨V,(Bs E E)⟩ (aC E (JS.seq (JS.region (aB aA 1 [] [] [(13,.ep ⟨a8,1,1⟩ 0)] _ E ⟨⟨E,V⟩,E⟩ ?_))))
  obtain ⟨⟨y16,y17⟩,hy18,h⟩:=aE h
  refine cE E E E E (aBf (x0,y12.2) a8 a2 c3 _ hy18) E [0] E [0] E E ?_
  rintro ⟨a19,c20⟩ -
  refine aS aA 2 [] [] [] (.new 2 33 bP (.new 3 36 [.int .i64 0,.slice none 0 0] (.new 10 33 (aK (y9.1,y9.2.1,y11,y9.2.2.2.1,(Q4 y9).1,(Q4 y9).2.1,(Q4 y9).2.2.1,(Q4 y9).2.2.2.1,(Q8 y9).1,(Q8 y9).2.1,y16,[],(Q12 y9).1,([],(Q12 y9).2.1.2),[],(Q12 y9).2.2.2.1,([],(Q16 y9).2)) (a14,c15,a19,c20,none,0,none,0,none,0,none,0)) .nil))) E ⟨V,(Bs E E)⟩ (aC E (JS.seq (JS.region (aB aA 1 [] [] [(16,.ep ⟨a8,1,1⟩ 0)] _ E ⟨⟨E,V⟩,E⟩ ?_))))
  obtain ⟨⟨y21,y22⟩,hy23,h⟩:=aE h
  refine cE E E E E (cA (x0,y17.2) 4 a8 a2 c3 _ hy23) E [0] E [0] E E fun _ _=>aS aA 2 [] [] [] (.new 2 33 bP (.new 3 36 [.int .i64 0,.slice none 0 0] (.new 10 33 (aK (y9.1,y9.2.1,y11,y9.2.2.2.1,(Q4 y9).1,(Q4 y9).2.1,(Q4 y9).2.2.1,(Q4 y9).2.2.2.1,(Q8 y9).1,y21,y16,[],(Q12 y9).1,([],(Q12 y9).2.1.2),[],(Q12 y9).2.2.2.1,([],(Q16 y9).2)) (a14,c15,a19,c20,none,0,none,0,none,0,none,0)) .nil))) E ⟨V,(Bs E E)⟩ (aC E (JS.seq (JS.region (aB aA 1 [] [] [(19,.ep ⟨a8,1,1⟩ 0)] _ E ⟨⟨E,V⟩,E⟩ ?_))))
  obtain ⟨⟨y24,y25⟩,hy26,h⟩:=aE h
  refine cE E E E E (aBe (x0,y22.2) a8 a2 c3 _ hy26) E [0] E [0] E E ?_
  rintro ⟨a27,c28⟩ -
  refine aS aA 2 [] [32] [(6,.bp 32 0)] (.new 2 33 bP (.new 3 36 [.int .i64 0,.slice none 0 0] (.new 10 33 (aK (y9.1,y9.2.1,y11,y9.2.2.2.1,(Q4 y9).1,(Q4 y9).2.1,(Q4 y9).2.2.1,(Q4 y9).2.2.2.1,(Q8 y9).1,y21,y16,[],(Q12 y9).1,([],(Q12 y9).2.1.2),[],(Q12 y9).2.2.2.1,([],(Q16 y9).2)) (a14,c15,a19,c20,none,0,none,0,none,0,none,0)) (.new 32 36 [.int .i64 y24.1,.slice a27 y24.2.length c28] .nil)))) E ⟨⟨E,V⟩,(Bs E E)⟩ (aC E (JS.seq ?_))
  refine bE E (.new 10 33 (aK (y9.1,y9.2.1,y11,y9.2.2.2.1,(Q4 y9).1,(Q4 y9).2.1,(Q4 y9).2.2.1,(Q4 y9).2.2.2.1,(Q8 y9).1,y21,y16,[],(Q12 y9).1,([],(Q12 y9).2.1.2),[],(Q12 y9).2.2.2.1,([],(Q16 y9).2)) (a14,c15,a19,c20,none,0,none,0,none,0,none,0)) (.new 32 36 [.int .i64 y24.1,.slice a27 y24.2.length c28] .nil)) [] [3] ⟨E,E,E,E,E,E,E,E,V⟩ E (fun be29=>?_)
  refine bV aA aG true 2 [0,1] E (by kernel_rfl) [] [(21,.v (.agg (aK (y9.1,y9.2.1,y11,y9.2.2.2.1,(Q4 y9).1,(Q4 y9).2.1,(Q4 y9).2.2.1,(Q4 y9).2.2.2.1,(Q8 y9).1,y21,y16,[],(Q12 y9).1,([],(Q12 y9).2.1.2),[],(Q12 y9).2.2.2.1,([],(Q16 y9).2)) (a14,c15,a19,c20,none,0,none,0,none,0,none,0)).toArray)),(22,.v (.agg #[.int .i64 y24.1,.slice a27 y24.2.length c28]))] ⟨E,E,E,E,E,E,E,E,V⟩ [] E E (Es E) (JA.one 2 (by kernel_rfl) (bA aA E E E E E E E E (aJ ⟨E,E,E,E,E,E,E,E,V⟩ [] E (JA.one 3 (by kernel_rfl) (bA aA E E E E E E E E (aP E (bG (by kernel_rfl) (aX (B':=(.new 2 33 (aK (y9.1,y9.2.1,y11,y9.2.2.2.1,(Q4 y9).1,(Q4 y9).2.1,(Q4 y9).2.2.1,(Q4 y9).2.2.2.1,(Q8 y9).1,y21,y16,[],(Q12 y9).1,([],(Q12 y9).2.1.2),[],(Q12 y9).2.2.2.1,([],(Q16 y9).2)) (a14,c15,a19,c20,none,0,none,0,none,0,none,0)) (.new 3 36 [.int .i64 y24.1,.slice a27 y24.2.length c28] .nil))) (Bs E E) ?_))))))))
  cases h
  exact JS.ret aA (a14,c15,a19,c20,a27,c28) V E E [3,2,1] E

def dP (x0:List UInt8):Option Int:=
  none

theorem kY (x0:List UInt8) (r:Int) (h:dP x0=some r) :
  FC Tryz.prog 80 [.string (bs x0)] [] (fun _:Unit=>True) (fun _=>.int .i64 r) (fun _=>[]):=
 by
  refine FC.of (T:=TTx) Tryz.call80 Tryz.func80 E E fun w0=>?_
  unfold dP at h
  refine aD aA 1 [(2,.v (I 0))] ⟨⟨E,V⟩,E⟩ E E (JS.seq (JS.seq ?_))
  cases h

def cT (x0:List UInt8):Option (Int×Int):=
  (bif (decide ((x0.length:Int)<1)) then
  some (65533,0)
  else
  (aI (0≤(0:Int)∧0<(x0.length:Int)) <|
  none))

theorem gU (x0:List UInt8) (r:Int×Int) (h:cT x0=some r) :
  FC Tryz.prog 123 [.string (bs x0)] [] (fun _:Unit=>True) (fun _=>.tuple #[.int .i32 r.1,.int .i64 r.2]) (fun _=>[]):=
 by
  refine FC.of (T:=TTx) Tryz.call123 Tryz.func123 E E fun w0=>?_
  unfold cT at h
  refine aD aA 2 [] ⟨V,E⟩ E E (aD aA 3 [(4,.v (I (x0.length:Int)))] ⟨⟨E,V⟩,E⟩ E E (JS.seq (aD aA 2 [(16,.v (.bool (decide ((x0.length:Int)<1))))] ⟨⟨E,V⟩,E⟩ E E ?_)))
  refine aL E h (fun h=>?_) (fun h=>?_)
  ·
   refine aD aA 2 [(2,.v (.int .i32 65533)),(3,.v (I 0))] ⟨(Es E),E⟩ E E ?_
   cases h
   exact JS.ret aA () V E E [] E
  refine JS.skip (JS.seq (JS.region ?_))
  obtain ⟨g2,h⟩:=aF h
  refine aB aA 3 [] [] [(5,.v (.int .u8 ((at' x0 0).toNat:Int)))] _ E ⟨g2,⟨E,V⟩,E⟩ (aC E (JS.seq ?_))
  cases h

def dH (x0:List UInt8):Option (Int×Int):=
  (aI (((!(decide (x0=[])))=true)→0≤(0:Int)∧0<(x0.length:Int)) <|
  (bif (bif (!(decide (x0=[]))) then (decide (((at' x0 0).toNat:Int)<(128:Int))) else false) then
  (aI (0≤(0:Int)∧0<(x0.length:Int)) <|
  some ((IntKind.i32.wrap (((at' x0 0).toNat:Int))),1))
  else
  (aH (cT x0) fun (y5,y6)=>
  some (y5,y6))))

theorem jW (x0:List UInt8) (r:Int×Int) (h:dH x0=some r) :
  FC Tryz.prog 81 [.string (bs x0)] [] (fun _:Unit=>True) (fun _=>.tuple #[.int .i32 r.1,.int .i64 r.2]) (fun _=>[]):=
 by
  refine FC.of (T:=TTx) Tryz.call81 Tryz.func81 E E fun w0=>?_
  unfold dH at h
  refine aD aA 2 [] ⟨V,E⟩ E E (JS.seq (JS.seq (JS.region ?_)))
  obtain ⟨g2,h⟩:=aF h
  refine aB aA 7 [] [] [(10,.v (.bool (bif (!(decide (x0=[]))) then (decide (((at' x0 0).toNat:Int)<(128:Int))) else false)))] _ E ⟨(fun q9=>(g2 q9)),⟨E,V⟩,E⟩ (aC E ?_)
  refine aL E h (fun h=>?_) (fun h=>?_)
  ·
   refine JS.seq (JS.region ?_)
   obtain ⟨g4,h⟩:=aF h
   refine aB aA 5 [(IntKind.i32.wrap (((at' x0 0).toNat:Int)))] [] [(2,.v (.int .i32 (IntKind.i32.wrap (((at' x0 0).toNat:Int))))),(3,.v (I 1))] _ E ⟨g4,⟨V,E⟩,(Es E),E⟩ (aC E ?_)
   cases h
   exact JS.ret aA () V E E [] E
  refine JS.region (aB aA 1 [] [] [(15,.v (.string (bs x0)))] _ E ⟨⟨E,V⟩,E⟩ ?_)
  obtain ⟨⟨y5,y6⟩,hy7,h⟩:=aE h
  refine JO.call E E E E (gU x0 _ hy7) E [] E E fun _ _=>aB aA 5 [] [] [(2,.v (.int .i32 y5)),(3,.v (I y6))] _ E ⟨(Es E),E⟩ (aC E ?_)
  cases h
  exact JS.ret aA () V E E [] E

def hJ (x6:Int) (j32:(List UInt8×List (List UInt8))→Option (List (List UInt8))) (k24:(List UInt8×List (List UInt8)×Int)→Option (List (List UInt8))):(List UInt8×List (List UInt8)×Int)→Option (List (List UInt8)):=fun (x11,x12,x15)=>
  (bif (decide (x15<(W (x6 - 1)))) then
  (aH (dH x11) fun (y16,y17)=>
  (aI (0≤(0:Int)∧(0:Int)≤y17∧y17≤(x11.length:Int)) <|
  (aI (0≤x15∧x15<(x12.length:Int)) <|
  (aI (0≤y17∧y17≤(x11.length:Int)∧(x11.length:Int)≤(x11.length:Int)) <|
  k24 ((bC x11 y17 (x11.length:Int)),(List.set x12 (Int.toNat x15) (bC x11 0 y17)),(W (x15+1)))))))
  else
  j32 (x11,x12))

def lH (x0:List UInt8) (x1:Int):Option (List (List UInt8)):=
  (aH (dP x0) fun (y3:Int)=>
  (aY (fun (x6:Int)=>
  (aI (0≤x6∧x6≤536870912) <|
  (aY (fun ((x28,x29):List UInt8×List (List UInt8))=>
  (aY (fun (x38:List (List UInt8))=>
  some x38) fun j41=>
  (bif (decide (0<x6)) then
  (aI (0≤(W (x6 - 1))∧(W (x6 - 1))<(x29.length:Int)) <|
  j41 (List.set x29 (Int.toNat (W (x6 - 1))) x28))
  else
  j41 x29))) fun j32=>
  (bI (hJ x6 j32) bO (x0,(List.replicate (Int.toNat x6) []),0))))) fun j7=>
  (bif (bif (decide (x1<0)) then true else (decide (y3<x1))) then
  j7 y3
  else
  j7 x1)))

theorem tH (x0:List UInt8) (x1:Int) (r:List (List UInt8)) (h:lH x0 x1=some r) :
  FC Tryz.prog 61 [.string (bs x0),.int .i64 x1] [] (fun _:Option Addr×Nat=>True) (fun q=>.slice q.1 r.length q.2) (fun q=>[⟨.str,⟨q.1,r.length,q.2⟩,r⟩]):=
 by
  refine FC.of (T:=TTx) Tryz.call61 Tryz.func61 E E fun w0=>?_
  unfold lH at h
  refine aD aA 1 [] ⟨V,E⟩ E E (JS.seq (JS.region (aB aA 1 [] [] [(10,.v (.string (bs x0)))] _ E ⟨⟨E,V⟩,E⟩ ?_)))
  refine bnw h fun y3 hy4 h=>JO.call E E E E (kY x0 _ hy4) E [] E E fun _ _=>aB aA 1 [] [] [(5,.v (I y3))] _ E ⟨⟨E,V⟩,E⟩ (aC E ?_)
  obtain ⟨j7,hj54,h⟩:=aO h
  refine eH (ι:=Int) ⟨fun z=>j7 z=some r,fun z=>[(0,.v (.string (bs x0))),(1,.v (I z))],fun z=>.nil,fun z=>[],fun z=>[],fun z=>0⟩ ?_ ?_
  ·
   refine aD aA 7 [(18,.v (.bool (bif (decide (x1<0)) then true else (decide (y3<x1)))))] ⟨⟨E,V⟩,E⟩ E E ?_
   refine aL E h (fun h=>?_) (fun h=>?_)
   ·
    refine tS aA 2 [(1,.v (I y3))] ⟨⟨E,V⟩,E⟩ E E (aN y3 h (Es E) V [] E [] E)
   refine JS.skip (aN x1 h (Es E) V [] E [] E)
  rintro x6 h
  subst hj54
  refine JS.seq (JS.region (aB aA 1 [] [] [(20,.v (I x6))] _ E ⟨⟨E,V⟩,E⟩ ?_))
  obtain ⟨g9,h⟩:=aF h
  refine JO.makeSlice aA E E E E E E E E (Int.toNat x6) (Int.toNat_of_nonneg g9.1).symm (by omega) .str E E E E E fun a10=>aB aA 1 [] [] [(6,.v (.slice a10 (Int.toNat x6) (Int.toNat x6)))] _ E ⟨⟨E,V⟩,E⟩ (aC E (JS.seq (aD aA 1 [(7,.v (I 0))] ⟨⟨E,V⟩,E⟩ E E ?_)))
  obtain ⟨j32,hj53,h⟩:=aO h
  refine bF (ι:=List UInt8×List (List UInt8)×Option Addr×Nat) ⟨fun z=>j32 (z.1,z.2.1)=some r,fun z=>[(0,.v (.string (bs z.1))),(1,.v (I x6)),(6,.v (.slice z.2.2.1 z.2.1.length z.2.2.2))],fun z=>.nil,fun z=>[],fun z=>[⟨.str,⟨z.2.2.1,z.2.1.length,z.2.2.2⟩,z.2.1⟩],fun z=>0⟩ ?_ ?_
  ·
   refine JS.loop (ι:=Nat×List UInt8×List (List UInt8)×Int×Option Addr×Nat) ⟨fun z=>bI (hJ x6 j32) z.1 (z.2.1,z.2.2.1,z.2.2.2.1)=some r,fun z=>[(0,.v (.string (bs z.2.1))),(1,.v (I x6)),(6,.v (.slice (Q4 z).1 z.2.2.1.length (Q4 z).2)),(7,.v (I z.2.2.2.1))],fun z=>.nil,fun z=>[],fun z=>[⟨.str,⟨(Q4 z).1,z.2.2.1.length,(Q4 z).2⟩,z.2.2.1⟩],fun z=>z.1⟩ (bO,x0,(List.replicate (Int.toNat x6) []),0,a10,(Int.toNat x6)) h ⟨E,E,(by simp only [List.length_set,List.length_replicate,bX,dG,mN];rfl),E,V⟩ V [] E [0] (by simp only [List.length_set,List.length_replicate,bX,dG,mN];rfl) ?_
   rintro ⟨n25,x11,x12,x15,a13,c14⟩ h
   obtain ⟨n25,rfl,h⟩:=bM h
   rw [hJ] at h
   refine JS.seq (qP aA 4 [(W (x6 - 1))] [] [(25,.v (.bool (decide (x15<(W (x6 - 1))))))] _ ⟨⟨V,E⟩,⟨E,V⟩,E⟩ E E ?_)
   refine aL E h (fun h=>?_) (fun h=>?_)
   ·
    refine JS.skip (JS.seq (JS.block (JS.seq (JS.region (aB aA 1 [] [] [(29,.v (.string (bs x11)))] _ E ⟨⟨E,V⟩,E⟩ ?_)))))
    obtain ⟨⟨y16,y17⟩,hy18,h⟩:=aE h
    refine JO.call E E E E (jW x11 _ hy18) E [] E E fun _ _=>aB aA 5 [] [] [(9,.v (I y17))] _ E ⟨⟨E,V⟩,E⟩ (aC E (JS.seq (JS.region ?_)))
    obtain ⟨g19,h⟩:=aF h
    refine bT 0 E fun hs48=>?_
    obtain ⟨g21,h⟩:=aF h
    refine aB aA 6 [] [] [(37,.v (.string (bs (bC x11 0 y17)))),(38,.ep ⟨a13,x12.length,c14⟩ (Int.toNat x15*1))] _ E ⟨g19,hs48.ix g21,(Es E),E⟩ (gO aA E E E E E E E E E [0] (fs:=[]) E (Int.toNat x15) 0 (at' x12 x15) (bC x11 0 y17) ⟨bD g21,E⟩ ⟨E,E,E⟩ (aC E (JS.region ?_)))
    obtain ⟨g22,h⟩:=aF h
    refine aB aA 4 [] [] [(0,.v (.string (bs (bC x11 y17 (x11.length:Int)))))] _ E ⟨g22,⟨E,V⟩,E⟩ (aC E (aV (cW aA 3 [(W (x15+1))] [] [(7,.v (I (W (x15+1))))] _ ⟨⟨V,E⟩,⟨E,V⟩,E⟩ E E (bZ (n25,(bC x11 y17 (x11.length:Int)),(List.set x12 (Int.toNat x15) (bC x11 0 y17)),(W (x15+1)),a13,c14) h (Nat.lt_succ_self _) ⟨E,E,(by simp only [List.length_set,List.length_replicate,bX,dG,mN];rfl),E,V⟩ V [] E [0] (by simp only [List.length_set,List.length_replicate,bX,dG,mN];rfl)))))
   refine JS.exit E (aN (x11,x12,a13,c14) h (Es E) V [] E [0] E)
  rintro ⟨x28,x29,a30,c31⟩ h
  subst hj53
  obtain ⟨j41,hj52,h⟩:=aO h
  refine eH (ι:=List (List UInt8)×Option Addr×Nat) ⟨fun z=>j41 z.1=some r,fun z=>[(6,.v (.slice z.2.1 z.1.length z.2.2))],fun z=>.nil,fun z=>[],fun z=>[⟨.str,⟨z.2.1,z.1.length,z.2.2⟩,z.1⟩],fun z=>0⟩ ?_ ?_
  ·
   refine aD aA 2 [(43,.v (.bool (decide (0<x6))))] ⟨⟨E,V⟩,E⟩ E E ?_
   refine aL E h (fun h=>?_) (fun h=>?_)
   ·
    refine JS.region (bT 0 E fun hs50=>?_)
    obtain ⟨g36,h⟩:=aF h
    refine aB aA 5 [(W (x6 - 1))] [] [(47,.v (.string (bs x28))),(48,.ep ⟨a30,x29.length,c31⟩ (Int.toNat (W (x6 - 1))*1))] _ E ⟨⟨V,E⟩,hs50.ix g36,(Es E),E⟩ (gO aA E E E E E E E E E [0] (fs:=[]) E (Int.toNat (W (x6 - 1))) 0 (at' x29 (W (x6 - 1))) x28 ⟨bD g36,E⟩ ⟨E,E,E⟩ (aC E (aN ((List.set x29 (Int.toNat (W (x6 - 1))) x28),a30,c31) h ⟨(by simp only [List.length_set,List.length_replicate,bX,dG,mN];rfl),V⟩ V [] E [0] (by simp only [List.length_set,List.length_replicate,bX,dG,mN];rfl))))
   refine JS.skip (aN (x29,a30,c31) h ⟨E,V⟩ V [] E [0] E)
  rintro ⟨x38,a39,c40⟩ h
  subst hj52
  refine aD aA 2 [(4,.v (.slice a39 x38.length c40))] ⟨⟨E,V⟩,E⟩ E E ?_
  cases h
  exact JS.ret aA (a39,c40) V E E [0] E

def mX (x0:List UInt8) (x1:List UInt8):Option Int:=match x1 with
  | [c]=>some (Lib.indexByte x0 c)
  | _=>none

theorem vM (x0:List UInt8) (x1:List UInt8) (r:Int) (h:mX x0 x1=some r):FV Tryz.prog 63 [.string (bs x0),.string (bs x1)] [] (.int .i64 r):=by
 match x1,h with
 | [c],h=>
  cases h
  refine FV.of_calls Tryz.call63 fun w=>?_
  exact Tryz.strings_Index_one (bs x0) c w
 | [],h=>cases h
 | _ :: _ :: _,h=>cases h

def mY (x0:List UInt8) (x1:List UInt8):Option Int:=match x1 with
  | [c]=>some (Lib.countByte x0 c:Int)
  | _=>none

theorem vN (x0:List UInt8) (x1:List UInt8) (r:Int) (h:mY x0 x1=some r):FV Tryz.prog 62 [.string (bs x0),.string (bs x1)] [] (.int .i64 r):=by
 match x1,h with
 | [c],h=>
  cases h
  refine FV.of_calls Tryz.call62 fun w=>?_
  exact Tryz.strings_Count_one (bs x0) c w
 | [],h=>cases h
 | _ :: _ :: _,h=>cases h

def dV (x0:List UInt8) (x1:List UInt8) (x2:Int) (x12:Int) (j40:(List UInt8×List (List UInt8)×Int)→Option (List (List UInt8))) (k30:(List UInt8×List (List UInt8)×Int)→Option (List (List UInt8))):(List UInt8×List (List UInt8)×Int)→Option (List (List UInt8)):=fun (x17,x18,x21)=>
  (bif (decide (x21<(W ((min x12 (W ((x0.length:Int)+1))) - 1)))) then
  (aH (mX x17 x1) fun (y22:Int)=>
  (bif (decide (y22<0)) then
  j40 (x17,x18,x21)
  else
  (aI (0≤(0:Int)∧(0:Int)≤(W (y22+x2))∧(W (y22+x2))≤(x17.length:Int)) <|
  (aI (0≤x21∧x21<(x18.length:Int)) <|
  (aI (0≤(W (y22+(x1.length:Int)))∧(W (y22+(x1.length:Int)))≤(x17.length:Int)∧(x17.length:Int)≤(x17.length:Int)) <|
  k30 ((bC x17 (W (y22+(x1.length:Int))) (x17.length:Int)),(List.set x18 (Int.toNat x21) (bC x17 0 (W (y22+x2)))),(W (x21+1))))))))
  else
  j40 (x17,x18,x21))

def eR (x0:List UInt8) (x1:List UInt8) (x2:Int) (x3:Int):Option (List (List UInt8)):=
  (bif (decide (x3=0)) then
  some ([])
  else
  (bif (decide (x1=[])) then
  (aH (lH x0 x3) fun (y5:List (List UInt8))=>
  some y5)
  else
  (aY (fun (x12:Int)=>
  (aI (0≤(min x12 (W ((x0.length:Int)+1)))∧(min x12 (W ((x0.length:Int)+1)))≤536870912) <|
  (aY (fun ((x35,x36,x39):List UInt8×List (List UInt8)×Int)=>
  (aI (0≤x39∧x39<(x36.length:Int)) <|
  (aI (0≤(0:Int)∧(0:Int)≤(W (x39+1))∧(W (x39+1))≤((List.set x36 (Int.toNat x39) x35).length:Int)) <|
  some (bC (List.set x36 (Int.toNat x39) x35) 0 (W (x39+1)))))) fun j40=>
  (bI (dV x0 x1 x2 x12 j40) bO (x0,(List.replicate (Int.toNat (min x12 (W ((x0.length:Int)+1)))) []),0))))) fun j13=>
  (bif (decide (x3<0)) then
  (aH (mY x0 x1) fun (y9:Int)=>
  j13 (W (y9+1)))
  else
  j13 x3))))

theorem sN (x0:List UInt8) (x1:List UInt8) (x2:Int) (x3:Int) (r:List (List UInt8)) (h:eR x0 x1 x2 x3=some r) :
  FC Tryz.prog 48 [.string (bs x0),.string (bs x1),.int .i64 x2,.int .i64 x3] [] (fun _:Option Addr×Nat=>True) (fun q=>.slice q.1 r.length q.2) (fun q=>[⟨.str,⟨q.1,r.length,q.2⟩,r⟩]):=
 by
  refine FC.of (T:=TTx) Tryz.call48 Tryz.func48 E E fun w0=>?_
  unfold eR at h
  refine aD aA 1 [] ⟨V,E⟩ E E (JS.seq (aD aA 2 [(13,.v (.bool (decide (x3=0))))] ⟨⟨E,V⟩,E⟩ E E ?_))
  refine aL E h (fun h=>?_) (fun h=>?_)
  ·
   refine aD aA 1 [(8,.v (.slice none 0 0))] ⟨⟨E,V⟩,E⟩ E E ?_
   cases h
   refine aW .str Sl.nil E E (JS.ret aA (none,0) V E E [0] E)
  refine JS.skip (JS.seq (aD aA 2 [(15,.v (.bool (decide (x1=[]))))] ⟨⟨E,V⟩,E⟩ E E ?_))
  refine aL E h (fun h=>?_) (fun h=>?_)
  ·
   refine JS.seq (JS.region (aB aA 2 [] [] [(16,.v (.string (bs x0))),(17,.v (I x3))] _ E ⟨(Es E),E⟩ ?_))
   refine bnw h fun y5 hy6 h=>JO.call E E E E (tH x0 x3 _ hy6) E [] E E ?_
   rintro ⟨a7,c8⟩ -
   refine aB aA 1 [] [] [(8,.v (.slice a7 y5.length c8))] _ E ⟨⟨E,V⟩,E⟩ (aC E ?_)
   cases h
   exact JS.ret aA (a7,c8) V E E [0] E
  refine JS.skip ?_
  obtain ⟨j13,hj59,h⟩:=aO h
  refine eH (ι:=Int) ⟨fun z=>j13 z=some r,fun z=>[(0,.v (.string (bs x0))),(1,.v (.string (bs x1))),(2,.v (I x2)),(3,.v (I z))],fun z=>.nil,fun z=>[],fun z=>[],fun z=>0⟩ ?_ ?_
  ·
   refine aD aA 2 [(20,.v (.bool (decide (x3<0))))] ⟨⟨E,V⟩,E⟩ E E ?_
   refine aL E h (fun h=>?_) (fun h=>?_)
   ·
    refine JS.region (aB aA 2 [] [] [(21,.v (.string (bs x0))),(22,.v (.string (bs x1)))] _ E ⟨(Es E),E⟩ ?_)
    obtain ⟨y9,hy10,h⟩:=aE h
    refine JO.call E E E E (vN x0 x1 _ hy10) E [] E E fun _ _=>aB aA 2 [(W (y9+1))] [] [(3,.v (I (W (y9+1))))] _ E ⟨⟨V,E⟩,⟨E,V⟩,E⟩ (aC E (aN (W (y9+1)) h (Es E) V [] E [] E))
   refine JS.skip (aN x3 h (Es E) V [] E [] E)
  rintro x12 h
  subst hj59
  refine qP aA 6 [(W ((x0.length:Int)+1))] [] [(3,.v (I (min x12 (W ((x0.length:Int)+1)))))] _ ⟨⟨V,E⟩,⟨E,V⟩,E⟩ E E (JS.seq (JS.region (aB aA 1 [] [] [(30,.v (I (min x12 (W ((x0.length:Int)+1)))))] _ E ⟨⟨E,V⟩,E⟩ ?_)))
  obtain ⟨g15,h⟩:=aF h
  refine JO.makeSlice aA E E E E E E E E (Int.toNat (min x12 (W ((x0.length:Int)+1)))) (Int.toNat_of_nonneg g15.1).symm (by omega) .str E E E E E fun a16=>aB aA 1 [] [] [(9,.v (.slice a16 (Int.toNat (min x12 (W ((x0.length:Int)+1)))) (Int.toNat (min x12 (W ((x0.length:Int)+1))))))] _ E ⟨⟨E,V⟩,E⟩ (aC E (qP aA 3 [(W ((min x12 (W ((x0.length:Int)+1))) - 1))] [] [(3,.v (I (W ((min x12 (W ((x0.length:Int)+1))) - 1))))] _ ⟨⟨V,E⟩,⟨E,V⟩,E⟩ E E (aD aA 1 [(10,.v (I 0))] ⟨⟨E,V⟩,E⟩ E E (JS.seq ?_))))
  obtain ⟨j40,hj58,h⟩:=aO h
  refine bF (ι:=List UInt8×List (List UInt8)×Int×Option Addr×Nat) ⟨fun z=>j40 (z.1,z.2.1,z.2.2.1)=some r,fun z=>[(0,.v (.string (bs z.1))),(9,.v (.slice z.2.2.2.1 z.2.1.length (Q4 z))),(10,.v (I z.2.2.1))],fun z=>.nil,fun z=>[],fun z=>[⟨.str,⟨z.2.2.2.1,z.2.1.length,(Q4 z)⟩,z.2.1⟩],fun z=>0⟩ ?_ ?_
  ·
   refine JS.loop (ι:=Nat×List UInt8×List (List UInt8)×Int×Option Addr×Nat) ⟨fun z=>bI (dV x0 x1 x2 x12 j40) z.1 (z.2.1,z.2.2.1,z.2.2.2.1)=some r,fun z=>[(0,.v (.string (bs z.2.1))),(1,.v (.string (bs x1))),(2,.v (I x2)),(3,.v (I (W ((min x12 (W ((x0.length:Int)+1))) - 1)))),(9,.v (.slice (Q4 z).1 z.2.2.1.length (Q4 z).2)),(10,.v (I z.2.2.2.1))],fun z=>.nil,fun z=>[],fun z=>[⟨.str,⟨(Q4 z).1,z.2.2.1.length,(Q4 z).2⟩,z.2.2.1⟩],fun z=>z.1⟩ (bO,x0,(List.replicate (Int.toNat (min x12 (W ((x0.length:Int)+1)))) []),0,a16,(Int.toNat (min x12 (W ((x0.length:Int)+1))))) h ⟨E,E,E,E,(by simp only [List.length_set,List.length_replicate,bX,dG,mN];rfl),E,V⟩ V [] E [0] (by simp only [List.length_set,List.length_replicate,bX,dG,mN];rfl) ?_
   rintro ⟨n31,x17,x18,x21,a19,c20⟩ h
   obtain ⟨n31,rfl,h⟩:=bM h
   rw [dV] at h
   refine JS.seq (aD aA 3 [(36,.v (.bool (decide (x21<(W ((min x12 (W ((x0.length:Int)+1))) - 1))))))] ⟨⟨E,V⟩,E⟩ E E ?_)
   refine aL E h (fun h=>?_) (fun h=>?_)
   ·
    refine JS.skip (JS.block (JS.seq (JS.region (aB aA 2 [] [] [(37,.v (.string (bs x17))),(38,.v (.string (bs x1)))] _ E ⟨(Es E),E⟩ ?_))))
    refine bnw h fun y22 hy23 h=>JO.call E E E E (vM x17 x1 _ hy23) E [] E E fun _ _=>aB aA 1 [] [] [(11,.v (I y22))] _ E ⟨⟨E,V⟩,E⟩ (aC E (JS.seq (aD aA 2 [(41,.v (.bool (decide (y22<0))))] ⟨⟨E,V⟩,E⟩ E E ?_)))
    refine aL E h (fun h=>?_) (fun h=>?_)
    ·
     refine JS.exit E (aN (x17,x18,x21,a19,c20) h (Es E) V [] E [0] E)
    refine JS.skip (JS.seq (JS.region ?_))
    obtain ⟨g24,h⟩:=aF h
    refine bT 0 E fun hs54=>?_
    obtain ⟨g26,h⟩:=aF h
    refine aB aA 8 [(W (y22+x2))] [] [(48,.v (.string (bs (bC x17 0 (W (y22+x2)))))),(49,.ep ⟨a19,x18.length,c20⟩ (Int.toNat x21*1))] _ E ⟨⟨V,E⟩,g24,hs54.ix g26,(Es E),E⟩ (gO aA E E E E E E E E E [0] (fs:=[]) E (Int.toNat x21) 0 (at' x18 x21) (bC x17 0 (W (y22+x2))) ⟨bD g26,E⟩ ⟨E,E,E⟩ (aC E (JS.seq (JS.region ?_))))
    obtain ⟨g27,h⟩:=aF h
    refine aB aA 7 [(W (y22+(x1.length:Int)))] [] [(0,.v (.string (bs (bC x17 (W (y22+(x1.length:Int))) (x17.length:Int)))))] _ E ⟨⟨V,E⟩,g27,⟨E,V⟩,E⟩ (aC E (cW aA 3 [(W (x21+1))] [] [(10,.v (I (W (x21+1))))] _ ⟨⟨V,E⟩,⟨E,V⟩,E⟩ E E (aV (bZ (n31,(bC x17 (W (y22+(x1.length:Int))) (x17.length:Int)),(List.set x18 (Int.toNat x21) (bC x17 0 (W (y22+x2)))),(W (x21+1)),a19,c20) h (Nat.lt_succ_self _) ⟨E,E,E,E,(by simp only [List.length_set,List.length_replicate,bX,dG,mN];rfl),E,V⟩ V [] E [0] (by simp only [List.length_set,List.length_replicate,bX,dG,mN];rfl)))))
   refine JS.exit E (aN (x17,x18,x21,a19,c20) h (Es E) V [] E [0] E)
  rintro ⟨x35,x36,x39,a37,c38⟩ h
  subst hj58
  refine JS.seq (JS.region (bT 0 E fun hs57=>?_))
  obtain ⟨g45,h⟩:=aF h
  refine aB aA 4 [] [] [(60,.v (.string (bs x35))),(61,.ep ⟨a37,x36.length,c38⟩ (Int.toNat x39*1))] _ E ⟨hs57.ix g45,(Es E),E⟩ (gO aA E E E E E E E E E [0] (fs:=[]) E (Int.toNat x39) 0 (at' x36 x39) x35 ⟨bD g45,E⟩ ⟨E,E,E⟩ (aC E (JS.seq (JS.region (aB aA 3 [(W (x39+1))] [] [(62,.v (.slice a37 x36.length c38)),(64,.v (I (W (x39+1))))] _ E ⟨⟨V,E⟩,(Es E),E⟩ ?_)))))
  obtain ⟨g46,h⟩:=aF h
  refine oH aA E E E E E E E E [0] E (0:Int) (W (x39+1)) E E g46 E fun a47 c48=>aB aA 1 [] [] [(8,.v (.slice a47 (bC (List.set x36 (Int.toNat x39) x35) 0 (W (x39+1))).length c48))] _ E ⟨⟨E,V⟩,E⟩ (aC E ?_)
  cases h
  exact JS.ret aA (a47,c48) V E E [0] E

def eJ (x0:List UInt8) (x1:List UInt8):Option (List (List UInt8)):=
  (aH (eR x0 x1 0 (-1)) fun (y3:List (List UInt8))=>
  some y3)

theorem lX (x0:List UInt8) (x1:List UInt8) (r:List (List UInt8)) (h:eJ x0 x1=some r) :
  FC Tryz.prog 31 [.string (bs x0),.string (bs x1)] [] (fun _:Option Addr×Nat=>True) (fun q=>.slice q.1 r.length q.2) (fun q=>[⟨.str,⟨q.1,r.length,q.2⟩,r⟩]):=
 by
  refine FC.of (T:=TTx) Tryz.call31 Tryz.func31 E E fun w0=>?_
  unfold eJ at h
  refine aD aA 1 [] ⟨V,E⟩ E E (JS.seq (JS.region (aB aA 2 [] [] [(5,.v (.string (bs x0))),(6,.v (.string (bs x1)))] _ E ⟨(Es E),E⟩ ?_)))
  refine bnw h fun y3 hy4 h=>JO.call E E E E (sN x0 x1 0 (-1) _ hy4) E [] E E ?_
  rintro ⟨a5,c6⟩ -
  refine aB aA 1 [] [] [(4,.v (.slice a5 y3.length c6))] _ E ⟨⟨E,V⟩,E⟩ (aC E ?_)
  cases h
  exact JS.ret aA (a5,c6) V E E [0] E

def pK (x0:List UInt8):Option (List (List UInt8)):=
  (aH (eJ x0 ([32]:List UInt8)) fun (y2:List (List UInt8))=>
  some y2)

theorem aE9 (x0:List UInt8) (r:List (List UInt8)) (h:pK x0=some r) :
  FC Tryz.prog 15 [.string (bs x0)] [] (fun _:Option Addr×Nat=>True) (fun q=>.slice q.1 r.length q.2) (fun q=>[⟨.str,⟨q.1,r.length,q.2⟩,r⟩]):=
 by
  refine FC.of (T:=TTx) Tryz.call15 Tryz.func15 E E fun w0=>?_
  unfold pK at h
  refine aD aA 1 [] ⟨V,E⟩ E E (JS.seq (JS.region (aB aA 1 [] [] [(3,.v (.string (bs x0)))] _ E ⟨⟨E,V⟩,E⟩ ?_)))
  refine bnw h fun y2 hy3 h=>JO.call E E E E (lX x0 ([32]:List UInt8) _ hy3) E [] E E ?_
  rintro ⟨a4,c5⟩ -
  refine aB aA 1 [] [] [(2,.v (.slice a4 y2.length c5))] _ E ⟨⟨E,V⟩,E⟩ (aC E ?_)
  cases h
  exact JS.ret aA (a4,c5) V E E [0] E

def cN (x0:Int) (x1:Int) (x2:Int):Option Bool:=
  some (bif (decide (x1≤x0)) then (decide (x0≤x2)) else false)

theorem dL (x0:Int) (x1:Int) (x2:Int) (r:Bool) (h:cN x0 x1 x2=some r) :
  FC Tryz.prog 19 [.int .i64 x0,.int .i64 x1,.int .i64 x2] [] (fun _:Unit=>True) (fun _=>.bool r) (fun _=>[]):=
 by
  refine FC.of (T:=TTx) Tryz.call19 Tryz.func19 E E fun w0=>?_
  unfold cN at h
  refine aD aA 1 [] ⟨V,E⟩ E E (aD aA 9 [(6,.v (.bool (bif (decide (x1≤x0)) then (decide (x0≤x2)) else false)))] ⟨⟨E,V⟩,E⟩ E E ?_)
  cases h
  exact JS.ret aA () V E E [] E

def iH (x0:Int):Option Bool:=
  (aH (cN x0 0 1114111) fun (y2:Bool)=>
  (bU (y2=true) (cN x0 55296 57343) false fun (y4:Bool)=>
  some (bif y2 then (!y4) else false)))

theorem wF (x0:Int) (r:Bool) (h:iH x0=some r) :
  FC Tryz.prog 41 [.int .i64 x0] [] (fun _:Unit=>True) (fun _=>.bool r) (fun _=>[]):=
 by
  refine FC.of (T:=TTx) Tryz.call41 Tryz.func41 E E fun w0=>?_
  unfold iH at h
  refine aD aA 1 [] ⟨V,E⟩ E E (JS.seq (JS.region (aB aA 1 [] [] [(3,.v (I x0))] _ E ⟨⟨E,V⟩,E⟩ ?_)))
  refine bnw h fun y2 hy3 h=>JO.call E E E E (dL x0 0 1114111 _ hy3) E [] E E fun _ _=>aB aA 2 [] [] [(5,.v (.bool y2)),(6,.cd [(5,true)] (.v (I x0)))] _ E ⟨(Es E),E⟩ ?_
  obtain ⟨y4,hy5,-,h⟩:=aU h
  refine bJ E E E E (fun q7=>dL x0 55296 57343 _ (hy5 q7)) E [] E E (aB aA 3 [] [] [(2,.v (.bool (bif y2 then (!y4) else false)))] _ E ⟨⟨E,V⟩,E⟩ (aC E ?_))
  cases h
  exact JS.ret aA () V E E [] E

def fM (x0:Int):Option (List UInt8):=
  (aH (iH x0) fun (y2:Bool)=>
  (bif (!y2) then
  some ([])
  else
  (bif (decide (x0<128)) then
  some ([(u8 (x0))]:List UInt8)
  else
  (bif (decide (x0<2048)) then
  some ([(u8 ((W (192+(W (Int.tdiv x0 64)))))),(u8 ((W (128+(Int.tmod x0 64)))))]:List UInt8)
  else
  (bif (decide (x0<65536)) then
  some ([(u8 ((W (224+(W (Int.tdiv x0 4096)))))),(u8 ((W (128+(Int.tmod (W (Int.tdiv x0 64)) 64))))),(u8 ((W (128+(Int.tmod x0 64)))))]:List UInt8)
  else
  some ([(u8 ((W (240+(W (Int.tdiv x0 262144)))))),(u8 ((W (128+(Int.tmod (W (Int.tdiv x0 4096)) 64))))),(u8 ((W (128+(Int.tmod (W (Int.tdiv x0 64)) 64))))),(u8 ((W (128+(Int.tmod x0 64)))))]:List UInt8))))))

theorem rG (x0:Int) (r:List UInt8) (h:fM x0=some r) :
  FC Tryz.prog 64 [.int .i64 x0] [] (fun _:Option Addr×Nat=>True) (fun q=>.slice q.1 r.length q.2) (fun q=>[⟨.byte,⟨q.1,r.length,q.2⟩,r⟩]):=
 by
  refine FC.of (T:=TTx) Tryz.call64 Tryz.func64 E E fun w0=>?_
  unfold fM at h
  refine aD aA 1 [] ⟨V,E⟩ E E (JS.seq (JS.block (JS.seq (JS.region (aB aA 1 [] [] [(4,.v (I x0))] _ E ⟨⟨E,V⟩,E⟩ ?_)))))
  refine bnw h fun y2 hy3 h=>JO.call E E E E (wF x0 _ hy3) E [] E E fun _ _=>aB aA 2 [] [] [(3,.v (.bool (!y2)))] _ E ⟨⟨E,V⟩,E⟩ (aC E ?_)
  refine aL E h (fun h=>?_) (fun h=>?_)
  ·
   refine aD aA 1 [(2,.v (.slice none 0 0))] ⟨⟨E,V⟩,E⟩ E E ?_
   cases h
   refine aW .byte Sl.nil E E (JS.ret aA (none,0) V E E [0] E)
  refine aD aA 3 [(7,.v (.bool (decide (x0<128))))] ⟨⟨E,V⟩,E⟩ E E ?_
  refine aL E h (fun h=>?_) (fun h=>?_)
  ·
   refine JS.seq (JS.region (aB aA 2 [((u8 (x0)).toNat:Int)] [] [(11,.v (.int .u8 ((u8 (x0)).toNat:Int)))] _ E ⟨⟨V,mE _⟩,⟨E,V⟩,E⟩ ?_))
   refine kF E (JK.buildSlice aA E E E E E E E E E E E [] E .byte [(u8 (x0))] ⟨E,E⟩ E E fun a4=>kE ?_)
   refine aB aA 1 [] [] [(2,.v (.slice a4 ([(u8 (x0))]:List UInt8).length ([(u8 (x0))]:List UInt8).length))] _ E ⟨⟨E,V⟩,E⟩ (aC E ?_)
   cases h
   exact JS.ret aA (a4,([(u8 (x0))]:List UInt8).length) V E E [0] E
  refine aD aA 3 [(13,.v (.bool (decide (x0<2048))))] ⟨⟨E,V⟩,E⟩ E E ?_
  refine aL E h (fun h=>?_) (fun h=>?_)
  ·
   refine JS.seq (JS.region ?_)
   have g5:(64:Int)≠0:=by decide
   have g6:(64:Int)≠0:=by decide
   refine aB aA 8 [(W (Int.tdiv x0 64)),(W (192+(W (Int.tdiv x0 64)))),((u8 ((W (192+(W (Int.tdiv x0 64)))))).toNat:Int),(W (128+(Int.tmod x0 64))),((u8 ((W (128+(Int.tmod x0 64))))).toNat:Int)] [] [(19,.v (.int .u8 ((u8 ((W (192+(W (Int.tdiv x0 64)))))).toNat:Int))),(23,.v (.int .u8 ((u8 ((W (128+(Int.tmod x0 64))))).toNat:Int)))] _ E ⟨⟨g5,E⟩,⟨V,E⟩,⟨V,mE _⟩,g6,⟨V,E⟩,⟨V,mE _⟩,(Es E),E⟩ ?_
   refine kF E (JK.buildSlice aA E E E E E E E E E E E [] E .byte [(u8 ((W (192+(W (Int.tdiv x0 64)))))),(u8 ((W (128+(Int.tmod x0 64)))))] ⟨E,E⟩ E E fun a7=>kE ?_)
   refine aB aA 1 [] [] [(2,.v (.slice a7 ([(u8 ((W (192+(W (Int.tdiv x0 64)))))),(u8 ((W (128+(Int.tmod x0 64)))))]:List UInt8).length ([(u8 ((W (192+(W (Int.tdiv x0 64)))))),(u8 ((W (128+(Int.tmod x0 64)))))]:List UInt8).length))] _ E ⟨⟨E,V⟩,E⟩ (aC E ?_)
   cases h
   exact JS.ret aA (a7,([(u8 ((W (192+(W (Int.tdiv x0 64)))))),(u8 ((W (128+(Int.tmod x0 64)))))]:List UInt8).length) V E E [0] E
  refine aD aA 3 [(25,.v (.bool (decide (x0<65536))))] ⟨⟨E,V⟩,E⟩ E E ?_
  refine aL E h (fun h=>?_) (fun h=>?_)
  ·
   refine JS.seq (JS.region ?_)
   have g8:(4096:Int)≠0:=by decide
   have g9:(64:Int)≠0:=by decide
   have g10:(64:Int)≠0:=by decide
   have g11:(64:Int)≠0:=by decide
   refine aB aA 13 [(W (Int.tdiv x0 4096)),(W (224+(W (Int.tdiv x0 4096)))),((u8 ((W (224+(W (Int.tdiv x0 4096)))))).toNat:Int),(W (Int.tdiv x0 64)),(W (128+(Int.tmod (W (Int.tdiv x0 64)) 64))),((u8 ((W (128+(Int.tmod (W (Int.tdiv x0 64)) 64))))).toNat:Int),(W (128+(Int.tmod x0 64))),((u8 ((W (128+(Int.tmod x0 64))))).toNat:Int)] [] [(31,.v (.int .u8 ((u8 ((W (224+(W (Int.tdiv x0 4096)))))).toNat:Int))),(36,.v (.int .u8 ((u8 ((W (128+(Int.tmod (W (Int.tdiv x0 64)) 64))))).toNat:Int))),(40,.v (.int .u8 ((u8 ((W (128+(Int.tmod x0 64))))).toNat:Int)))] _ E ⟨⟨g8,E⟩,⟨V,E⟩,⟨V,mE _⟩,⟨g9,E⟩,g10,⟨V,E⟩,⟨V,mE _⟩,g11,⟨V,E⟩,⟨V,mE _⟩,(Es E),E⟩ ?_
   refine kF E (JK.buildSlice aA E E E E E E E E E E E [] E .byte [(u8 ((W (224+(W (Int.tdiv x0 4096)))))),(u8 ((W (128+(Int.tmod (W (Int.tdiv x0 64)) 64))))),(u8 ((W (128+(Int.tmod x0 64)))))] ⟨E,E⟩ E E fun a12=>kE ?_)
   refine aB aA 1 [] [] [(2,.v (.slice a12 ([(u8 ((W (224+(W (Int.tdiv x0 4096)))))),(u8 ((W (128+(Int.tmod (W (Int.tdiv x0 64)) 64))))),(u8 ((W (128+(Int.tmod x0 64)))))]:List UInt8).length ([(u8 ((W (224+(W (Int.tdiv x0 4096)))))),(u8 ((W (128+(Int.tmod (W (Int.tdiv x0 64)) 64))))),(u8 ((W (128+(Int.tmod x0 64)))))]:List UInt8).length))] _ E ⟨⟨E,V⟩,E⟩ (aC E ?_)
   cases h
   exact JS.ret aA (a12,([(u8 ((W (224+(W (Int.tdiv x0 4096)))))),(u8 ((W (128+(Int.tmod (W (Int.tdiv x0 64)) 64))))),(u8 ((W (128+(Int.tmod x0 64)))))]:List UInt8).length) V E E [0] E
  refine JS.skip (aV (JS.seq (JS.region ?_)))
  have g13:(262144:Int)≠0:=by decide
  have g14:(4096:Int)≠0:=by decide
  have g15:(64:Int)≠0:=by decide
  have g16:(64:Int)≠0:=by decide
  have g17:(64:Int)≠0:=by decide
  have g18:(64:Int)≠0:=by decide
  refine aB aA 18 [(W (Int.tdiv x0 262144)),(W (240+(W (Int.tdiv x0 262144)))),((u8 ((W (240+(W (Int.tdiv x0 262144)))))).toNat:Int),(W (Int.tdiv x0 4096)),(W (128+(Int.tmod (W (Int.tdiv x0 4096)) 64))),((u8 ((W (128+(Int.tmod (W (Int.tdiv x0 4096)) 64))))).toNat:Int),(W (Int.tdiv x0 64)),(W (128+(Int.tmod (W (Int.tdiv x0 64)) 64))),((u8 ((W (128+(Int.tmod (W (Int.tdiv x0 64)) 64))))).toNat:Int),(W (128+(Int.tmod x0 64))),((u8 ((W (128+(Int.tmod x0 64))))).toNat:Int)] [] [(45,.v (.int .u8 ((u8 ((W (240+(W (Int.tdiv x0 262144)))))).toNat:Int))),(50,.v (.int .u8 ((u8 ((W (128+(Int.tmod (W (Int.tdiv x0 4096)) 64))))).toNat:Int))),(55,.v (.int .u8 ((u8 ((W (128+(Int.tmod (W (Int.tdiv x0 64)) 64))))).toNat:Int))),(59,.v (.int .u8 ((u8 ((W (128+(Int.tmod x0 64))))).toNat:Int)))] _ E ⟨⟨g13,E⟩,⟨V,E⟩,⟨V,mE _⟩,⟨g14,E⟩,g15,⟨V,E⟩,⟨V,mE _⟩,⟨g16,E⟩,g17,⟨V,E⟩,⟨V,mE _⟩,g18,⟨V,E⟩,⟨V,mE _⟩,(Es E),E⟩ ?_
  refine kF E (JK.buildSlice aA E E E E E E E E E E E [] E .byte [(u8 ((W (240+(W (Int.tdiv x0 262144)))))),(u8 ((W (128+(Int.tmod (W (Int.tdiv x0 4096)) 64))))),(u8 ((W (128+(Int.tmod (W (Int.tdiv x0 64)) 64))))),(u8 ((W (128+(Int.tmod x0 64)))))] ⟨E,E⟩ E E fun a19=>kE ?_)
  refine aB aA 1 [] [] [(2,.v (.slice a19 ([(u8 ((W (240+(W (Int.tdiv x0 262144)))))),(u8 ((W (128+(Int.tmod (W (Int.tdiv x0 4096)) 64))))),(u8 ((W (128+(Int.tmod (W (Int.tdiv x0 64)) 64))))),(u8 ((W (128+(Int.tmod x0 64)))))]:List UInt8).length ([(u8 ((W (240+(W (Int.tdiv x0 262144)))))),(u8 ((W (128+(Int.tmod (W (Int.tdiv x0 4096)) 64))))),(u8 ((W (128+(Int.tmod (W (Int.tdiv x0 64)) 64))))),(u8 ((W (128+(Int.tmod x0 64)))))]:List UInt8).length))] _ E ⟨⟨E,V⟩,E⟩ (aC E ?_)
  cases h
  exact JS.ret aA (a19,([(u8 ((W (240+(W (Int.tdiv x0 262144)))))),(u8 ((W (128+(Int.tmod (W (Int.tdiv x0 4096)) 64))))),(u8 ((W (128+(Int.tmod (W (Int.tdiv x0 64)) 64))))),(u8 ((W (128+(Int.tmod x0 64)))))]:List UInt8).length) V E E [0] E

def dS (x0:List UInt8) (x1:Int) (x19:Int) (j39:Int→Option (Int×Int)) (k34:(Int×Int)→Option (Int×Int)):(Int×Int)→Option (Int×Int):=fun (x29,x30)=>
  (bif (decide (x30<((bC x0 (W (x1+1)) (W (x1+x19))).length:Int))) then
  (aI (0≤x30∧x30<((bC x0 (W (x1+1)) (W (x1+x19))).length:Int)) <|
  k34 ((W ((W ((W (x29*64))+((at' (bC x0 (W (x1+1)) (W (x1+x19))) x30).toNat:Int))) - 128)),(W (x30+1))))
  else
  j39 x29)

def lN (x0:List UInt8) (x1:Int):Option (Int×Int):=
  (bif (bif (decide (x1<0)) then true else (decide ((x0.length:Int)≤x1))) then
  some (0,0)
  else
  (aI (0≤x1∧x1<(x0.length:Int)) <|
  (aY (fun ((x19,x20):Int×Int)=>
  (bif (decide ((W ((x0.length:Int) - x19))<x1)) then
  some (0,0)
  else
  (aI (0≤(W (x1+1))∧(W (x1+1))≤(W (x1+x19))∧(W (x1+x19))≤(x0.length:Int)) <|
  (aY (fun (x38:Int)=>
  (aH (fM x38) fun (y42:List UInt8)=>
  (aI (0≤x1∧x1≤(W (x1+x19))∧(W (x1+x19))≤(x0.length:Int)) <|
  (bif (!(decide (y42=(bC x0 x1 (W (x1+x19)))))) then
  some (0,0)
  else
  some (x38,x19))))) fun j39=>
  (bI (dS x0 x1 x19 j39) bO (x20,0)))))) fun j21=>
  (bif (decide (((at' x0 x1).toNat:Int)<128)) then
  some (((at' x0 x1).toNat:Int),1)
  else
  (aH (cN ((at' x0 x1).toNat:Int) 192 223) fun (y9:Bool)=>
  (bif y9 then
  j21 (2,(W (((at' x0 x1).toNat:Int) - 192)))
  else
  (aH (cN ((at' x0 x1).toNat:Int) 224 239) fun (y11:Bool)=>
  (bif y11 then
  j21 (3,(W (((at' x0 x1).toNat:Int) - 224)))
  else
  (aH (cN ((at' x0 x1).toNat:Int) 240 247) fun (y13:Bool)=>
  (bif y13 then
  j21 (4,(W (((at' x0 x1).toNat:Int) - 240)))
  else
  some (0,0)))))))))))

theorem zM (x0:List UInt8) (x1:Int) (a3:Option Addr) (c4:Nat) (r:Int×Int) (h:lN x0 x1=some r):
  FC Tryz.prog 49 [.slice a3 x0.length c4,.int .i64 x1] [⟨.byte,⟨a3,x0.length,c4⟩,x0⟩] (fun _:Unit=>True) (fun _=>.tuple #[.int .i64 r.1,.int .i64 r.2]) (fun _=>[]):=
 by
  refine FC.of (T:=TTx) Tryz.call49 Tryz.func49 E E fun w0=>?_
  unfold lN at h
  refine aD aA 2 [] ⟨V,E⟩ E E (JS.seq (aD aA 8 [(18,.v (.bool (bif (decide (x1<0)) then true else (decide ((x0.length:Int)≤x1)))))] ⟨⟨E,V⟩,E⟩ E E ?_))
  refine aL E h (fun h=>?_) (fun h=>?_)
  ·
   refine aD aA 2 [(4,.v (I 0)),(5,.v (I 0))] ⟨(Es E),E⟩ E E ?_
   cases h
   exact JS.ret aA () V E E [] E
  refine JS.skip (JS.seq (JS.region (bT 0 E fun hs59=>?_)))
  obtain ⟨g8,h⟩:=aF h
  refine aB aA 3 [] [] [(21,.ep ⟨a3,x0.length,c4⟩ (Int.toNat x1*1))] _ E ⟨hs59.ix g8,⟨E,V⟩,E⟩ (JO.load aA E E E E E E E 0 E E (Int.toNat x1) 0 (at' x0 x1) ⟨bD g8,E⟩ E E (aB aA 2 [((at' x0 x1).toNat:Int)] [] [(6,.v (I ((at' x0 x1).toNat:Int)))] _ E ⟨⟨V,yT _⟩,⟨E,V⟩,E⟩ (aC E (aD aA 2 [] ⟨V,E⟩ E E (JS.seq ?_)))))
  obtain ⟨j21,hj72,h⟩:=aO h
  refine bF (ι:=Int×Int) ⟨fun z=>j21 z=some r,fun z=>[(0,.v (.slice a3 x0.length c4)),(1,.v (I x1)),(7,.v (I z.1)),(8,.v (I z.2))],fun z=>.nil,fun z=>[⟨.byte,⟨a3,x0.length,c4⟩,x0⟩],fun z=>[],fun z=>0⟩ ?_ ?_
  ·
   refine aD aA 3 [(24,.v (.bool (decide (((at' x0 x1).toNat:Int)<128))))] ⟨⟨E,V⟩,E⟩ E E ?_
   refine aL E h (fun h=>?_) (fun h=>?_)
   ·
    refine aD aA 3 [(4,.v (I ((at' x0 x1).toNat:Int))),(5,.v (I 1))] ⟨(Es E),E⟩ E E ?_
    cases h
    exact JS.ret aA () V E E [] E
   refine JS.seq (JS.region (aB aA 1 [] [] [(29,.v (I ((at' x0 x1).toNat:Int)))] _ E ⟨⟨E,V⟩,E⟩ ?_))
   refine bnw h fun y9 hy10 h=>JO.call E E E E (dL ((at' x0 x1).toNat:Int) 192 223 _ hy10) E [] E E fun _ _=>aB aA 1 [] [] [(28,.v (.bool y9))] _ E ⟨⟨E,V⟩,E⟩ (aC E ?_)
   refine aL E h (fun h=>?_) (fun h=>?_)
   ·
    refine cW aA 4 [(W (((at' x0 x1).toNat:Int) - 192))] [] [(7,.v (I 2)),(8,.v (I (W (((at' x0 x1).toNat:Int) - 192))))] _ ⟨⟨V,E⟩,(Es E),E⟩ E E (aV (aN (2,(W (((at' x0 x1).toNat:Int) - 192))) h (Es E) V [0] E [] E))
   refine JS.seq (JS.region (aB aA 1 [] [] [(34,.v (I ((at' x0 x1).toNat:Int)))] _ E ⟨⟨E,V⟩,E⟩ ?_))
   refine bnw h fun y11 hy12 h=>JO.call E E E E (dL ((at' x0 x1).toNat:Int) 224 239 _ hy12) E [] E E fun _ _=>aB aA 1 [] [] [(33,.v (.bool y11))] _ E ⟨⟨E,V⟩,E⟩ (aC E ?_)
   refine aL E h (fun h=>?_) (fun h=>?_)
   ·
    refine cW aA 4 [(W (((at' x0 x1).toNat:Int) - 224))] [] [(7,.v (I 3)),(8,.v (I (W (((at' x0 x1).toNat:Int) - 224))))] _ ⟨⟨V,E⟩,(Es E),E⟩ E E (aV (aN (3,(W (((at' x0 x1).toNat:Int) - 224))) h (Es E) V [0] E [] E))
   refine JS.seq (JS.region (aB aA 1 [] [] [(39,.v (I ((at' x0 x1).toNat:Int)))] _ E ⟨⟨E,V⟩,E⟩ ?_))
   refine bnw h fun y13 hy14 h=>JO.call E E E E (dL ((at' x0 x1).toNat:Int) 240 247 _ hy14) E [] E E fun _ _=>aB aA 1 [] [] [(38,.v (.bool y13))] _ E ⟨⟨E,V⟩,E⟩ (aC E ?_)
   refine aL E h (fun h=>?_) (fun h=>?_)
   ·
    refine cW aA 4 [(W (((at' x0 x1).toNat:Int) - 240))] [] [(7,.v (I 4)),(8,.v (I (W (((at' x0 x1).toNat:Int) - 240))))] _ ⟨⟨V,E⟩,(Es E),E⟩ E E (aV (aN (4,(W (((at' x0 x1).toNat:Int) - 240))) h (Es E) V [0] E [] E))
   refine aD aA 2 [(4,.v (I 0)),(5,.v (I 0))] ⟨(Es E),E⟩ E E ?_
   cases h
   exact JS.ret aA () V E E [] E
  rintro ⟨x19,x20⟩ h
  subst hj72
  refine JS.seq (qP aA 6 [(W ((x0.length:Int) - x19))] [] [(48,.v (.bool (decide ((W ((x0.length:Int) - x19))<x1))))] _ ⟨⟨V,E⟩,⟨E,V⟩,E⟩ E E ?_)
  refine aL E h (fun h=>?_) (fun h=>?_)
  ·
   refine aD aA 2 [(4,.v (I 0)),(5,.v (I 0))] ⟨(Es E),E⟩ E E ?_
   cases h
   exact JS.ret aA () V E E [] E
  refine JS.skip (JS.seq (JS.seq (JS.region (aB aA 6 [(W (x1+1)),(W (x1+x19))] [] [(49,.v (.slice a3 x0.length c4)),(51,.v (I (W (x1+1)))),(54,.v (I (W (x1+x19))))] _ E ⟨⟨V,E⟩,⟨V,E⟩,(Es E),E⟩ ?_))))
  obtain ⟨g26,h⟩:=aF h
  refine yY aA E E E E E E E E 0 E (W (x1+1)) (W (x1+x19)) E E g26 E fun a27 c28=>aB aA 2 [] [] [(56,.v (I ((bC x0 (W (x1+1)) (W (x1+x19))).length:Int))),(57,.v (I 0))] _ E ⟨(Es E),E⟩ (aC E ?_)
  obtain ⟨j39,hj70,h⟩:=aO h
  refine bF (ι:=Int) ⟨fun z=>j39 z=some r,fun z=>[(0,.v (.slice a3 x0.length c4)),(1,.v (I x1)),(7,.v (I x19)),(8,.v (I z))],fun z=>.nil,fun z=>[⟨.byte,⟨a3,x0.length,c4⟩,x0⟩],fun z=>[],fun z=>0⟩ ?_ ?_
  ·
   refine JS.loop (ι:=Nat×Int×Int) ⟨fun z=>bI (dS x0 x1 x19 j39) z.1 z.2=some r,fun z=>[(0,.v (.slice a3 x0.length c4)),(1,.v (I x1)),(7,.v (I x19)),(8,.v (I z.2.1)),(55,.v (.slice a27 (bC x0 (W (x1+1)) (W (x1+x19))).length c28)),(56,.v (I ((bC x0 (W (x1+1)) (W (x1+x19))).length:Int))),(57,.v (I z.2.2))],fun z=>.nil,fun z=>[⟨.byte,⟨a3,x0.length,c4⟩,x0⟩,⟨.byte,⟨a27,(bC x0 (W (x1+1)) (W (x1+x19))).length,c28⟩,(bC x0 (W (x1+1)) (W (x1+x19)))⟩],fun z=>[],fun z=>z.1⟩ (bO,x20,0) h (Es E) V [1,0] E [] E ?_
   rintro ⟨n35,x29,x30⟩ h
   obtain ⟨n35,rfl,h⟩:=bM h
   rw [dS] at h
   refine aD aA 1 [(58,.v (.bool (decide (x30<((bC x0 (W (x1+1)) (W (x1+x19))).length:Int)))))] ⟨⟨E,V⟩,E⟩ E E (JS.seq ?_)
   refine aL E h (fun h=>?_) (fun h=>?_)
   ·
    refine JS.skip (JS.seq (JS.block (JS.seq (JS.region (bT 1 E fun hs64=>?_)))))
    obtain ⟨g32,h⟩:=aF h
    refine aB aA 1 [] [] [(59,.ep ⟨a27,(bC x0 (W (x1+1)) (W (x1+x19))).length,c28⟩ (Int.toNat x30*1))] _ E ⟨hs64.ix g32,⟨E,V⟩,E⟩ (JO.load aA E E E E E E E 1 E E (Int.toNat x30) 0 (at' (bC x0 (W (x1+1)) (W (x1+x19))) x30) ⟨bD g32,E⟩ E E (aB aA 1 [] [] [(10,.v (.int .u8 ((at' (bC x0 (W (x1+1)) (W (x1+x19))) x30).toNat:Int)))] _ E ⟨⟨E,V⟩,E⟩ (aC E (cW aA 7 [(W (x29*64)),((at' (bC x0 (W (x1+1)) (W (x1+x19))) x30).toNat:Int),(W ((W (x29*64))+((at' (bC x0 (W (x1+1)) (W (x1+x19))) x30).toNat:Int))),(W ((W ((W (x29*64))+((at' (bC x0 (W (x1+1)) (W (x1+x19))) x30).toNat:Int))) - 128))] [] [(8,.v (I (W ((W ((W (x29*64))+((at' (bC x0 (W (x1+1)) (W (x1+x19))) x30).toNat:Int))) - 128))))] _ ⟨⟨V,E⟩,⟨V,yT _⟩,⟨V,E⟩,⟨V,E⟩,⟨E,V⟩,E⟩ E E (aV (cW aA 2 [(W (x30+1))] [] [(57,.v (I (W (x30+1))))] _ ⟨⟨V,E⟩,⟨E,V⟩,E⟩ E E (bZ (n35,(W ((W ((W (x29*64))+((at' (bC x0 (W (x1+1)) (W (x1+x19))) x30).toNat:Int))) - 128)),(W (x30+1))) h (Nat.lt_succ_self _) (Es E) V [0,1] E [] E)))))))
   refine JS.exit E (aN x29 h (Es E) V [0] E [] E)
  rintro x38 h
  subst hj70
  refine JS.seq (JS.seq ?_)
  obtain ⟨y42,hy43,h⟩:=aE h
  obtain ⟨g46,h⟩:=aF h
  refine sK 0 E x1 (W (x1+x19)) fun a47 c48 hu49=>gR 1 E fun hs68=>?_
  refine bE E .nil [0] [10] V E (fun be53=>?_)
  refine bV aA aG true 5 [0,3,4,5,6,7] E (by kernel_rfl) [(W (x1+x19))] [(68,.v (I x38)),(71,.v (.slice a3 x0.length c4)),(72,.v (I x1)),(75,.v (I (W (x1+x19))))] V [0] E E ⟨⟨V,E⟩,(Es E)⟩ (mD aA aG 8 E (by kernel_rfl) E E E E E E x1 (W (x1+x19)) E E ⟨g46.1,g46.2.1,g46.2.2,hs68.cap,hu49 g46⟩ E (aJm aA aG 9 E (by kernel_rfl) E E E E E E E 0 E E V [0] E (JA.one 1 (by kernel_rfl) (JK.call E E E E (rG x38 _ hy43) E [] E E ?_))))
  rintro ⟨a44,c45⟩ -
  refine aJ V [0] E (JA.one 2 (by kernel_rfl) (aJk aA E E E E E E E E 2 E E (aJ V [0] E (aT aA aG 0 [10] E (by kernel_rfl) [] [(78,.v (.bool (!(decide (y42=(bC x0 x1 (W (x1+x19))))))))] E ⟨E,V⟩ (bG (by kernel_rfl) (aX (B':=.nil) V ?_))))))
  refine aL E h (fun h=>?_) (fun h=>?_)
  ·
   refine aD aA 2 [(4,.v (I 0)),(5,.v (I 0))] ⟨(Es E),E⟩ E E ?_
   cases h
   exact JS.ret aA () V E E [] E
  refine JS.skip (aD aA 4 [(4,.v (I x38)),(5,.v (I x19))] ⟨(Es E),E⟩ E E ?_)
  cases h
  exact JS.ret aA () V E E [] E

def fR (x0:List UInt8) (j29:(List Int)→Option (List Int×Bool)) (k22:(List Int×Int)→Option (List Int×Bool)):(List Int×Int)→Option (List Int×Bool):=fun (x4,x10)=>
  (bif (decide (x10<(x0.length:Int))) then
  (aH (lN x0 x10) fun (y11,y12)=>
  (bif (decide (y12=0)) then
  some ([],false)
  else
  (aI (x4.length+([y11]:List Int).length≤536870912) <|
  k22 ((x4 ++ ([y11]:List Int)),(W (x10+y12))))))
  else
  j29 x4)

def kV (x0:List UInt8):Option (List Int×Bool):=
  (bif (decide (65536<(x0.length:Int))) then
  some ([],false)
  else
  (aY (fun (x26:List Int)=>
  some (x26,true)) fun j29=>
  (bI (fR x0 j29) bO (([]:List Int),0))))

theorem uM (x0:List UInt8) (r:List Int×Bool) (h:kV x0=some r) :
  FC Tryz.prog 32 [.string (bs x0)] [] (fun _:Option Addr×Nat=>True) (fun q=>.tuple #[.slice q.1 r.1.length q.2,.bool r.2]) (fun q=>[⟨(.int .i64),⟨q.1,r.1.length,q.2⟩,r.1⟩]):=
 by
  refine FC.of (T:=TTx) Tryz.call32 Tryz.func32 E E fun w0=>?_
  unfold kV at h
  refine aD aA 2 [] ⟨V,E⟩ E E (JS.seq (aD aA 3 [(11,.v (.bool (decide (65536<(x0.length:Int)))))] ⟨⟨E,V⟩,E⟩ E E ?_))
  refine aL E h (fun h=>?_) (fun h=>?_)
  ·
   refine aD aA 2 [(2,.v (.slice none 0 0)),(3,.v (.bool false))] ⟨(Es E),E⟩ E E ?_
   cases h
   refine aW (.int .i64) Sl.nil E E (JS.ret aA (none,0) V E E [0] E)
  refine JS.skip (aD aA 1 [(4,.v (.slice none 0 0))] ⟨⟨E,V⟩,E⟩ E E (JS.seq (JS.region (aB aA 1 [] [] [(12,.v (.string (bs x0)))] _ E ⟨⟨E,V⟩,E⟩ (aFr aA E E E E E E E E E fun a2 c3=>aB aA 1 [] [] [(5,.v (.slice a2 x0.length c3))] _ E ⟨⟨E,V⟩,E⟩ (aC E (JS.seq (aD aA 1 [(6,.v (I 0))] ⟨⟨E,V⟩,E⟩ E E ?_))))))))
  obtain ⟨j29,hj36,h⟩:=aO h
  refine bF (ι:=List Int×Option Addr×Nat) ⟨fun z=>j29 z.1=some r,fun z=>[(4,.v (.slice z.2.1 z.1.length z.2.2))],fun z=>.nil,fun z=>[],fun z=>[⟨(.int .i64),⟨z.2.1,z.1.length,z.2.2⟩,z.1⟩],fun z=>0⟩ ?_ ?_
  ·
   refine aW (.int .i64) Sl.nil E E (JS.loop (ι:=Nat×List Int×Int×Option Addr×Nat) ⟨fun z=>bI (fR x0 j29) z.1 (z.2.1,z.2.2.1)=some r,fun z=>[(4,.v (.slice z.2.2.2.1 z.2.1.length (Q4 z))),(5,.v (.slice a2 x0.length c3)),(6,.v (I z.2.2.1))],fun z=>.nil,fun z=>[],fun z=>[⟨(.int .i64),⟨z.2.2.2.1,z.2.1.length,(Q4 z)⟩,z.2.1⟩,⟨.byte,⟨a2,x0.length,c3⟩,x0⟩],fun z=>z.1⟩ (bO,([]:List Int),0,none,0) h (Es E) V [] E [0,0] E ?_)
   rintro ⟨n23,x4,x10,a5,c6⟩ h
   obtain ⟨n23,rfl,h⟩:=bM h
   rw [fR] at h
   refine JS.seq (aD aA 4 [(17,.v (.bool (decide (x10<(x0.length:Int)))))] ⟨⟨E,V⟩,E⟩ E E ?_)
   refine aL E h (fun h=>?_) (fun h=>?_)
   ·
    refine JS.skip (JS.block (JS.seq (JS.region (aB aA 2 [] [] [(19,.v (.slice a2 x0.length c3)),(20,.v (I x10))] _ E ⟨(Es E),E⟩ ?_))))
    obtain ⟨⟨y11,y12⟩,hy13,h⟩:=aE h
    refine JO.call E E E E (zM x0 x10 a2 c3 _ hy13) E [1] E E fun _ _=>aB aA 5 [] [] [(7,.v (I y11)),(8,.v (I y12))] _ E ⟨(Es E),E⟩ (aC E (JS.seq (aD aA 2 [(25,.v (.bool (decide (y12=0))))] ⟨⟨E,V⟩,E⟩ E E ?_)))
    refine aL E h (fun h=>?_) (fun h=>?_)
    ·
     refine aD aA 2 [(2,.v (.slice none 0 0)),(3,.v (.bool false))] ⟨(Es E),E⟩ E E ?_
     cases h
     refine aW (.int .i64) Sl.nil E E (JS.ret aA (none,0) V E E [0] E)
    refine JS.skip (JS.seq (JS.region (aB aA 2 [] [] [(26,.v (.slice a5 x4.length c6)),(27,.v (I y11))] _ E ⟨(Es E),E⟩ ?_)))
    refine kF E (JK.buildSlice aA E E E E E E E E E E E [] E (.int .i64) [y11] ⟨E,E⟩ E E fun a14=>kE ?_)
    obtain ⟨g15,h⟩:=aF h
    refine eN aA E E E E ⟨E,E,E,E,V,E,E,E,E⟩ E E E [1] E 0 E g15 E fun a16 c17=>aB aA 1 [] [] [(4,.v (.slice a16 (x4 ++ ([y11]:List Int)).length c17))] _ E ⟨⟨E,V⟩,E⟩ (aC E (cW aA 4 [(W (x10+y12))] [] [(6,.v (I (W (x10+y12))))] _ ⟨⟨V,E⟩,⟨E,V⟩,E⟩ E E (aV (bZ (n23,(x4 ++ ([y11]:List Int)),(W (x10+y12)),a16,c17) h (Nat.lt_succ_self _) (Es E) V [] E [0,1] E))))
   refine JS.exit E (aN (x4,a5,c6) h ⟨E,V⟩ V [] E [0] E)
  rintro ⟨x26,a27,c28⟩ h
  subst hj36
  refine aD aA 3 [(2,.v (.slice a27 x26.length c28)),(3,.v (.bool true))] ⟨(Es E),E⟩ E E ?_
  cases h
  exact JS.ret aA (a27,c28) V E E [0] E

def eM (x0:Int):Option Bool:=
  (aH (cN x0 97 122) fun (y2:Bool)=>
  some y2)

theorem nE (x0:Int) (r:Bool) (h:eM x0=some r) :
  FC Tryz.prog 51 [.int .i64 x0] [] (fun _:Unit=>True) (fun _=>.bool r) (fun _=>[]):=
 by
  refine FC.of (T:=TTx) Tryz.call51 Tryz.func51 E E fun w0=>?_
  unfold eM at h
  refine aD aA 1 [] ⟨V,E⟩ E E (JS.seq (JS.region (aB aA 1 [] [] [(3,.v (I x0))] _ E ⟨⟨E,V⟩,E⟩ ?_)))
  refine bnw h fun y2 hy3 h=>JO.call E E E E (dL x0 97 122 _ hy3) E [] E E fun _ _=>aB aA 1 [] [] [(2,.v (.bool y2))] _ E ⟨⟨E,V⟩,E⟩ (aC E ?_)
  cases h
  exact JS.ret aA () V E E [] E

def dK (x0:Int):Option Bool:=
  (aH (iH x0) fun (y2:Bool)=>
  (bU ((bif y2 then (decide (32≤x0)) else false)=true) (cN x0 127 159) false fun (y4:Bool)=>
  some (bif (bif y2 then (decide (32≤x0)) else false) then (!y4) else false)))

theorem gV (x0:Int) (r:Bool) (h:dK x0=some r) :
  FC Tryz.prog 21 [.int .i64 x0] [] (fun _:Unit=>True) (fun _=>.bool r) (fun _=>[]):=
 by
  refine FC.of (T:=TTx) Tryz.call21 Tryz.func21 E E fun w0=>?_
  unfold dK at h
  refine aD aA 1 [] ⟨V,E⟩ E E (JS.seq (JS.region (aB aA 1 [] [] [(3,.v (I x0))] _ E ⟨⟨E,V⟩,E⟩ ?_)))
  refine bnw h fun y2 hy3 h=>JO.call E E E E (wF x0 _ hy3) E [] E E fun _ _=>aB aA 6 [] [] [(9,.v (.bool (bif y2 then (decide (32≤x0)) else false))),(10,.cd [(9,true)] (.v (I x0)))] _ E ⟨(Es E),E⟩ ?_
  obtain ⟨y4,hy5,-,h⟩:=aU h
  refine bJ E E E E (fun q7=>dL x0 127 159 _ (hy5 q7)) E [] E E (aB aA 3 [] [] [(2,.v (.bool (bif (bif y2 then (decide (32≤x0)) else false) then (!y4) else false)))] _ E ⟨⟨E,V⟩,E⟩ (aC E ?_))
  cases h
  exact JS.ret aA () V E E [] E

def mB (x0:Int×Int):Option Bool:=
  (bif (decide (x0.1=1)) then
  (aH (dK x0.2) fun (y2:Bool)=>
  some y2)
  else
  (bif (decide (x0.1=2)) then
  (bU ((decide (x0.2=95))=false) (eM x0.2) false fun (y4:Bool)=>
  some (bif (decide (x0.2=95)) then true else (bif (bif (bif (bif y4 then (!(decide (x0.2=104))) else false) then (!(decide (x0.2=105))) else false) then (!(decide (x0.2=106))) else false) then (!(decide (x0.2=109))) else false)))
  else
  (bif (decide (x0.1=3)) then
  (aH (cN x0.2 33 126) fun (y7:Bool)=>
  some y7)
  else
  (aH (cN x0.1 4 16) fun (y9:Bool)=>
  some (bif y9 then (decide (x0.2=0)) else false)))))

theorem tI (x0:Int×Int) (r:Bool) (h:mB x0=some r) :
  FC Tryz.prog 35 [.agg #[.int .i64 x0.1,.int .i64 x0.2]] [] (fun _:Unit=>True) (fun _=>.bool r) (fun _=>[]):=
 by
  refine FC.of (T:=TTx) Tryz.call35 Tryz.func35 E E fun w0=>?_
  unfold mB at h
  refine aR aA 2 [] [1] [(1,.bp 1 0)] (.new 1 55 [.int .i64 x0.1,.int .i64 x0.2] .nil) ⟨⟨E,V⟩,(Bs E E)⟩ E E (JS.seq (aD aA 2 [(4,.v (I x0.1))] ⟨⟨E,V⟩,E⟩ E E (JS.block (aD aA 2 [(5,.v (.bool (decide (x0.1=1))))] ⟨⟨E,V⟩,E⟩ E E ?_))))
  refine aL E h (fun h=>?_) (fun h=>?_)
  ·
   refine JS.seq (JS.region (aB aA 2 [] [] [(8,.v (I x0.2))] _ E ⟨⟨E,V⟩,E⟩ ?_))
   refine bnw h fun y2 hy3 h=>JO.call E E E E (gV x0.2 _ hy3) E [] E E fun _ _=>aB aA 1 [] [] [(2,.v (.bool y2))] _ E ⟨⟨E,V⟩,E⟩ (aC E ?_)
   cases h
   exact JS.ret aA () V E E [] E
  refine aD aA 2 [(10,.v (.bool (decide (x0.1=2))))] ⟨⟨E,V⟩,E⟩ E E ?_
  refine aL E h (fun h=>?_) (fun h=>?_)
  ·
   refine JS.seq (JS.region (aB aA 6 [] [] [(15,.v (.bool (decide (x0.2=95)))),(17,.cd [(15,false)] (.v (I x0.2)))] _ E ⟨(Es E),E⟩ ?_))
   obtain ⟨y4,hy5,-,h⟩:=aU h
   refine bJ E E E E (fun q14=>nE x0.2 _ (hy5 q14)) E [] E E (aB aA 22 [] [] [(2,.v (.bool (bif (decide (x0.2=95)) then true else (bif (bif (bif (bif y4 then (!(decide (x0.2=104))) else false) then (!(decide (x0.2=105))) else false) then (!(decide (x0.2=106))) else false) then (!(decide (x0.2=109))) else false))))] _ E ⟨⟨E,V⟩,E⟩ (aC E ?_))
   cases h
   exact JS.ret aA () V E E [] E
  refine aD aA 2 [(40,.v (.bool (decide (x0.1=3))))] ⟨⟨E,V⟩,E⟩ E E ?_
  refine aL E h (fun h=>?_) (fun h=>?_)
  ·
   refine JS.seq (JS.region (aB aA 2 [] [] [(43,.v (I x0.2))] _ E ⟨⟨E,V⟩,E⟩ ?_))
   refine bnw h fun y7 hy8 h=>JO.call E E E E (dL x0.2 33 126 _ hy8) E [] E E fun _ _=>aB aA 1 [] [] [(2,.v (.bool y7))] _ E ⟨⟨E,V⟩,E⟩ (aC E ?_)
   cases h
   exact JS.ret aA () V E E [] E
  refine JS.skip (aV (JS.seq (JS.region (aB aA 2 [] [] [(46,.v (I x0.1))] _ E ⟨⟨E,V⟩,E⟩ ?_))))
  refine bnw h fun y9 hy10 h=>JO.call E E E E (dL x0.1 4 16 _ hy10) E [] E E fun _ _=>aB aA 6 [] [] [(2,.v (.bool (bif y9 then (decide (x0.2=0)) else false)))] _ E ⟨⟨E,V⟩,E⟩ (aC E ?_)
  cases h
  exact JS.ret aA () V E E [] E

def mH (x0:List Int) (j27:(List UInt8)→Option (List UInt8)) (k20:(List UInt8×Int)→Option (List UInt8)):(List UInt8×Int)→Option (List UInt8):=fun (x6,x9)=>
  (bif (decide (x9<(x0.length:Int))) then
  (aI (0≤x9∧x9<(x0.length:Int)) <|
  (aH (fM (at' x0 x9)) fun (y12:List UInt8)=>
  (aI (x6.length+y12.length≤536870912) <|
  k20 ((x6 ++ y12),(W (x9+1))))))
  else
  j27 x6)

def kD (x0:List Int):Option (List UInt8):=
  (aY (fun (x24:List UInt8)=>
  some x24) fun j27=>
  (bI (mH x0 j27) bO (([]:List UInt8),0)))

theorem rF (x0:List Int) (a2:Option Addr) (c3:Nat) (r:List UInt8) (h:kD x0=some r):
  FC Tryz.prog 50 [.slice a2 x0.length c3] [⟨(.int .i64),⟨a2,x0.length,c3⟩,x0⟩] (fun _:Unit=>True) (fun _=>.string (bs r)) (fun _=>[]):=
 by
  refine FC.of (T:=TTx) Tryz.call50 Tryz.func50 E E fun w0=>?_
  unfold kD at h
  refine aD aA 1 [] ⟨V,E⟩ E E (aD aA 1 [(3,.v (.slice none 0 0))] ⟨⟨E,V⟩,E⟩ E E (JS.seq (aD aA 3 [(6,.v (.slice a2 x0.length c3)),(7,.v (I (x0.length:Int))),(8,.v (I 0))] ⟨(Es E),E⟩ E E ?_)))
  obtain ⟨j27,hj33,h⟩:=aO h
  refine bF (ι:=List UInt8×Option Addr×Nat) ⟨fun z=>j27 z.1=some r,fun z=>[(3,.v (.slice z.2.1 z.1.length z.2.2))],fun z=>.nil,fun z=>[],fun z=>[⟨.byte,⟨z.2.1,z.1.length,z.2.2⟩,z.1⟩],fun z=>0⟩ ?_ ?_
  ·
   refine aW .byte Sl.nil E E (JS.loop (ι:=Nat×List UInt8×Int×Option Addr×Nat) ⟨fun z=>bI (mH x0 j27) z.1 (z.2.1,z.2.2.1)=some r,fun z=>[(3,.v (.slice z.2.2.2.1 z.2.1.length (Q4 z))),(6,.v (.slice a2 x0.length c3)),(7,.v (I (x0.length:Int))),(8,.v (I z.2.2.1))],fun z=>.nil,fun z=>[⟨(.int .i64),⟨a2,x0.length,c3⟩,x0⟩],fun z=>[⟨.byte,⟨z.2.2.2.1,z.2.1.length,(Q4 z)⟩,z.2.1⟩],fun z=>z.1⟩ (bO,([]:List UInt8),0,none,0) h (Es E) V [0] E [0] E ?_)
   rintro ⟨n21,x6,x9,a7,c8⟩ h
   obtain ⟨n21,rfl,h⟩:=bM h
   rw [mH] at h
   refine aD aA 1 [(9,.v (.bool (decide (x9<(x0.length:Int)))))] ⟨⟨E,V⟩,E⟩ E E (JS.seq ?_)
   refine aL E h (fun h=>?_) (fun h=>?_)
   ·
    refine JS.skip (JS.seq (JS.block (JS.seq (JS.region (bT 0 E fun hs31=>?_)))))
    obtain ⟨g11,h⟩:=aF h
    refine aB aA 1 [] [] [(10,.ep ⟨a2,x0.length,c3⟩ (Int.toNat x9*1))] _ E ⟨hs31.ix g11,⟨E,V⟩,E⟩ (JO.load aA E E E E E E E 0 E E (Int.toNat x9) 0 (at' x0 x9) ⟨bD g11,E⟩ E E (aB aA 1 [] [] [(5,.v (I (at' x0 x9)))] _ E ⟨⟨E,V⟩,E⟩ (aC E (JS.region (aB aA 2 [] [] [(12,.v (.slice a7 x6.length c8)),(13,.v (I (at' x0 x9)))] _ E ⟨(Es E),E⟩ ?_)))))
    refine bnw h fun y12 hy13 h=>JO.call E E E E (rG (at' x0 x9) _ hy13) E [] E E ?_
    rintro ⟨a14,c15⟩ -
    obtain ⟨g16,h⟩:=aF h
    refine eN aA E E E E ⟨E,E,E,E,V,E,E,E,E⟩ E E E [1] E 1 E g16 E fun a17 c18=>aB aA 1 [] [] [(3,.v (.slice a17 (x6 ++ y12).length c18))] _ E ⟨⟨E,V⟩,E⟩ (aC E (aV (cW aA 2 [(W (x9+1))] [] [(8,.v (I (W (x9+1))))] _ ⟨⟨V,E⟩,⟨E,V⟩,E⟩ E E (bZ (n21,(x6 ++ y12),(W (x9+1)),a17,c18) h (Nat.lt_succ_self _) (Es E) V [0] E [0] E))))
   refine JS.exit E (aN (x6,a7,c8) h ⟨E,V⟩ V [] E [0] E)
  rintro ⟨x24,a25,c26⟩ h
  subst hj33
  refine JS.seq (JS.region (aB aA 1 [] [] [(17,.v (.slice a25 x24.length c26))] _ E ⟨⟨E,V⟩,E⟩ (aJj aA E E E E E E E E 0 E E (aB aA 1 [] [] [(2,.v (.string (bs x24)))] _ E ⟨⟨E,V⟩,E⟩ (aC E ?_)))))
  cases h
  exact JS.ret aA () V E E [] E

def iK (x0:Int×Int):Option (List UInt8):=
  (aH (mB x0) fun (y2:Bool)=>
  (bif (!y2) then
  some ([])
  else
  (bif (decide (x0.1=1)) then
  (bif (decide (x0.2=32)) then
  some ([83,80,67]:List UInt8)
  else
  (aH (kD ([x0.2]:List Int)) fun (y5:List UInt8)=>
  some y5))
  else
  (bif (decide (x0.1=2)) then
  (aH (kD ([x0.2]:List Int)) fun (y9:List UInt8)=>
  (aI (((([67,45]:List UInt8).length+y9.length:Nat):Int)≤9223372036854775807) <|
  some (([67,45]:List UInt8) ++ y9)))
  else
  (bif (decide (x0.1=3)) then
  (aH (kD ([x0.2]:List Int)) fun (y13:List UInt8)=>
  (aI (((([77,45]:List UInt8).length+y13.length:Nat):Int)≤9223372036854775807) <|
  some (([77,45]:List UInt8) ++ y13)))
  else
  (aH (eJ ([69,78,84,69,82,32,66,65,67,75,32,84,65,66,32,69,83,67,32,85,80,32,68,79,87,78,32,82,73,71,72,84,32,76,69,70,84,32,72,79,77,69,32,69,78,68,32,68,69,76,69,84,69,32,77,66,65,67,75,32,66,65,68]:List UInt8) ([32]:List UInt8)) fun (y16:List (List UInt8))=>
  (aI (0≤(W (x0.1 - 4))∧(W (x0.1 - 4))<(y16.length:Int)) <|
  some (at' y16 (W (x0.1 - 4))))))))))

theorem aBp (x0:Int×Int) (r:List UInt8) (h:iK x0=some r) :
  FC Tryz.prog 33 [.agg #[.int .i64 x0.1,.int .i64 x0.2]] [] (fun _:Unit=>True) (fun _=>.string (bs r)) (fun _=>[]):=
 by
  refine FC.of (T:=TTx) Tryz.call33 Tryz.func33 E E fun w0=>?_
  unfold iK at h
  refine aR aA 2 [] [1] [(1,.bp 1 0)] (.new 1 55 [.int .i64 x0.1,.int .i64 x0.2] .nil) ⟨⟨E,V⟩,(Bs E E)⟩ E E (JS.seq (JS.seq (JS.region (aB aA 1 [] [] [(3,.v (.agg #[.int .i64 x0.1,.int .i64 x0.2]))] _ E ⟨⟨E,V⟩,E⟩ ?_))))
  refine bnw h fun y2 hy3 h=>JO.call E E E E (tI x0 _ hy3) E [] E E fun _ _=>aB aA 1 [] [] [(5,.v (.bool (!y2)))] _ E ⟨⟨E,V⟩,E⟩ (aC E ?_)
  refine aL E h (fun h=>?_) (fun h=>?_)
  ·
   refine aD aA 1 [(2,.v (.string (bs [])))] ⟨⟨E,V⟩,E⟩ E E ?_
   cases h
   exact JS.ret aA () V E E [] E
  refine JS.skip (JS.seq (aD aA 2 [(7,.v (I x0.1))] ⟨⟨E,V⟩,E⟩ E E (JS.block (aD aA 2 [(8,.v (.bool (decide (x0.1=1))))] ⟨⟨E,V⟩,E⟩ E E ?_))))
  refine aL E h (fun h=>?_) (fun h=>?_)
  ·
   refine JS.seq (aD aA 3 [(12,.v (.bool (decide (x0.2=32))))] ⟨⟨E,V⟩,E⟩ E E ?_)
   refine aL E h (fun h=>?_) (fun h=>?_)
   ·
    refine aD aA 1 [(2,.v (.string (bs ([83,80,67]:List UInt8))))] ⟨⟨E,V⟩,E⟩ E E ?_
    cases h
    exact JS.ret aA () V E E [] E
   refine JS.skip (JS.seq (JS.region (aB aA 2 [] [] [(14,.v (I x0.2))] _ E ⟨⟨E,V⟩,E⟩ ?_)))
   refine kF E (JK.buildSlice aA E E E E E E E E E E E [] E (.int .i64) [x0.2] ⟨E,E⟩ E E fun a4=>kE ?_)
   refine bnw h fun y5 hy6 h=>JO.call E E E E (rF ([x0.2]:List Int) a4 (([x0.2]:List Int).length) _ hy6) E [0] E E fun _ _=>aB aA 1 [] [] [(2,.v (.string (bs y5)))] _ E ⟨⟨E,V⟩,E⟩ (aC E ?_)
   cases h
   exact JS.ret aA () V E E [] E
  refine aD aA 2 [(17,.v (.bool (decide (x0.1=2))))] ⟨⟨E,V⟩,E⟩ E E ?_
  refine aL E h (fun h=>?_) (fun h=>?_)
  ·
   refine JS.seq (JS.region (aB aA 2 [] [] [(20,.v (I x0.2))] _ E ⟨⟨E,V⟩,E⟩ ?_))
   refine kF E (JK.buildSlice aA E E E E E E E E E E E [] E (.int .i64) [x0.2] ⟨E,E⟩ E E fun a8=>kE ?_)
   refine bnw h fun y9 hy10 h=>JO.call E E E E (rF ([x0.2]:List Int) a8 (([x0.2]:List Int).length) _ hy10) E [0] E E fun _ _=>?_
   obtain ⟨g11,h⟩:=aF h
   refine aB aA 2 [] [] [(2,.v (.string (bs (([67,45]:List UInt8) ++ y9))))] _ E ⟨g11,⟨E,V⟩,E⟩ (aC E ?_)
   cases h
   exact JS.ret aA () V E E [] E
  refine aD aA 2 [(24,.v (.bool (decide (x0.1=3))))] ⟨⟨E,V⟩,E⟩ E E ?_
  refine aL E h (fun h=>?_) (fun h=>?_)
  ·
   refine JS.seq (JS.region (aB aA 2 [] [] [(27,.v (I x0.2))] _ E ⟨⟨E,V⟩,E⟩ ?_))
   refine kF E (JK.buildSlice aA E E E E E E E E E E E [] E (.int .i64) [x0.2] ⟨E,E⟩ E E fun a12=>kE ?_)
   refine bnw h fun y13 hy14 h=>JO.call E E E E (rF ([x0.2]:List Int) a12 (([x0.2]:List Int).length) _ hy14) E [0] E E fun _ _=>?_
   obtain ⟨g15,h⟩:=aF h
   refine aB aA 2 [] [] [(2,.v (.string (bs (([77,45]:List UInt8) ++ y13))))] _ E ⟨g15,⟨E,V⟩,E⟩ (aC E ?_)
   cases h
   exact JS.ret aA () V E E [] E
  refine JS.skip (aV (JS.seq ?_))
  obtain ⟨y16,hy17,h⟩:=aE h
  obtain ⟨g21,h⟩:=aF h
  refine bE E (.new 1 55 [.int .i64 x0.1,.int .i64 x0.2] .nil) [] [3,4,5,6] ⟨E,E,E,E,V⟩ E (fun be23=>?_)
  refine bV aA aG true 5 [1,2] E (by kernel_rfl) [] [(33,.v (I x0.1))] ⟨E,E,E,E,V⟩ [] E E ⟨E,V⟩ (aT aA aG 4 [3] E (by kernel_rfl) [(W (x0.1 - 4))] [(34,.v (I (W (x0.1 - 4))))] E ⟨⟨V,E⟩,⟨E,V⟩⟩ (JA.one 0 (by kernel_rfl) (JK.call E E E E (lX ([69,78,84,69,82,32,66,65,67,75,32,84,65,66,32,69,83,67,32,85,80,32,68,79,87,78,32,82,73,71,72,84,32,76,69,70,84,32,72,79,77,69,32,69,78,68,32,68,69,76,69,84,69,32,77,66,65,67,75,32,66,65,68]:List UInt8) ([32]:List UInt8) _ hy17) E [] E E ?_)))
  rintro ⟨a18,c19⟩ -
  refine aJ ⟨E,E,E,E,V⟩ [] E (aKm 0 E fun hs32=>aT aA aG 2 [4] E (by kernel_rfl) [] [(35,.ep ⟨a18,y16.length,c19⟩ (Int.toNat (W (x0.1 - 4))*1))] E ⟨hs32.ix g21,⟨E,V⟩⟩ (JA.one 5 (by kernel_rfl) (JK.load aA E E E E E E E 0 E E (Int.toNat (W (x0.1 - 4))) 0 (at' y16 (W (x0.1 - 4))) ⟨bD g21,E⟩ E E (aP E (aT aA aG 0 [6] E (by kernel_rfl) [] [(2,.v (.string (bs (at' y16 (W (x0.1 - 4))))))] E ⟨E,V⟩ (bG (by kernel_rfl) (aX (B':=.nil) V ?_)))))))
  cases h
  exact JS.ret aA () V E E [] E

def iG (x0:List UInt8) (y2:List (List UInt8)) (j24:Unit→Option ((Int×Int)×Bool)) (k19:Int→Option ((Int×Int)×Bool)):Int→Option ((Int×Int)×Bool):=fun x9=>
  (bif (decide (x9<(y2.length:Int))) then
  (aI (0≤x9∧x9<(y2.length:Int)) <|
  (bif (decide ((at' y2 x9)=x0)) then
  some (((W (4+x9)),0),true)
  else
  k19 (W (x9+1))))
  else
  j24 ())

def mS (x0:List UInt8):Option ((Int×Int)×Bool):=
  (aH (eJ ([69,78,84,69,82,32,66,65,67,75,32,84,65,66,32,69,83,67,32,85,80,32,68,79,87,78,32,82,73,71,72,84,32,76,69,70,84,32,72,79,77,69,32,69,78,68,32,68,69,76,69,84,69,32,77,66,65,67,75,32,66,65,68]:List UInt8) ([32]:List UInt8)) fun (y2:List (List UInt8))=>
  (aY (fun (_:Unit)=>
  (aH (kV x0) fun (y28,y29)=>
  (aY (fun ((x48,x49):Int×Int)=>
  (aH (iK (x48,x49)) fun (y61:List UInt8)=>
  (bif (!(decide (y61=x0))) then
  some ((0,0),false)
  else
  some ((x48,x49),true)))) fun j50=>
  (bif (bif (!y29) then true else (decide ((y28.length:Int)=0))) then
  some ((0,0),false)
  else
  (bif (decide (x0=([83,80,67]:List UInt8))) then
  some ((1,32),true)
  else
  (bif (decide ((y28.length:Int)=1)) then
  (aI (0≤(0:Int)∧0<(y28.length:Int)) <|
  j50 (1,(at' y28 0)))
  else
  (aI (((decide ((y28.length:Int)=3))=true)→0≤(0:Int)∧(0:Int)≤(2:Int)∧(2:Int)≤(x0.length:Int)) <|
  (bif (bif (decide ((y28.length:Int)=3)) then (decide ((bC x0 0 (2:Int))=([67,45]:List UInt8))) else false) then
  (aI (0≤(2:Int)∧2<(y28.length:Int)) <|
  j50 (2,(at' y28 2)))
  else
  (aI (((decide ((y28.length:Int)=3))=true)→0≤(0:Int)∧(0:Int)≤(2:Int)∧(2:Int)≤(x0.length:Int)) <|
  (bif (bif (decide ((y28.length:Int)=3)) then (decide ((bC x0 0 (2:Int))=([77,45]:List UInt8))) else false) then
  (aI (0≤(2:Int)∧2<(y28.length:Int)) <|
  j50 (3,(at' y28 2)))
  else
  j50 (0,0))))))))))) fun j24=>
  (bI (iG x0 y2 j24) bO 0)))

theorem aBn (x0:List UInt8) (r:(Int×Int)×Bool) (h:mS x0=some r) :
  FC Tryz.prog 16 [.string (bs x0)] [] (fun _:Unit=>True) (fun _=>.tuple #[.agg #[.int .i64 r.1.1,.int .i64 r.1.2],.bool r.2]) (fun _=>[]):=
 by
  refine FC.of (T:=TTx) Tryz.call16 Tryz.func16 E E fun w0=>?_
  unfold mS at h
  refine aR aA 2 [] [1] [(2,.bp 1 0)] (.new 1 55 [.int .i64 0,.int .i64 0] .nil) ⟨⟨E,V⟩,(Bs E E)⟩ E E (JS.seq (JS.seq (JS.region ?_)))
  refine bnw h fun y2 hy3 h=>JO.call E E E E (lX ([69,78,84,69,82,32,66,65,67,75,32,84,65,66,32,69,83,67,32,85,80,32,68,79,87,78,32,82,73,71,72,84,32,76,69,70,84,32,72,79,77,69,32,69,78,68,32,68,69,76,69,84,69,32,77,66,65,67,75,32,66,65,68]:List UInt8) ([32]:List UInt8) _ hy3) E [] E E ?_
  rintro ⟨a4,c5⟩ -
  refine aB aA 2 [] [] [(10,.v (I (y2.length:Int))),(11,.v (I 0))] _ E ⟨(Es E),E⟩ (aC E ?_)
  obtain ⟨j24,hj81,h⟩:=aO h
  refine bF (ι:=Unit) ⟨fun _=>j24 ()=some r,fun _=>[(0,.v (.string (bs x0))),(2,.bp 1 0)],fun _=>(.new 1 55 [.int .i64 0,.int .i64 0] .nil),fun _=>[],fun _=>[],fun _=>0⟩ ?_ ?_
  ·
   refine JS.loop (ι:=Nat×Int) ⟨fun z=>bI (iG x0 y2 j24) z.1 z.2=some r,fun z=>[(0,.v (.string (bs x0))),(2,.bp 1 0),(9,.v (.slice a4 y2.length c5)),(10,.v (I (y2.length:Int))),(11,.v (I z.2))],fun z=>(.new 1 55 [.int .i64 0,.int .i64 0] .nil),fun z=>[],fun z=>[⟨.str,⟨a4,y2.length,c5⟩,y2⟩],fun z=>z.1⟩ (bO,0) h (Es E) (Bs E E) [] E [0] E ?_
   rintro ⟨n20,x9⟩ h
   obtain ⟨n20,rfl,h⟩:=bM h
   rw [iG] at h
   refine aD aA 1 [(12,.v (.bool (decide (x9<(y2.length:Int)))))] ⟨⟨E,V⟩,E⟩ E E (JS.seq ?_)
   refine aL E h (fun h=>?_) (fun h=>?_)
   ·
    refine JS.skip (JS.seq (JS.block (JS.seq (JS.region (bT 0 E fun hs66=>?_)))))
    obtain ⟨g13,h⟩:=aF h
    refine aB aA 2 [] [] [(13,.v (I x9)),(14,.ep ⟨a4,y2.length,c5⟩ (Int.toNat x9*1))] _ E ⟨hs66.ix g13,(Es E),E⟩ (JO.load aA E E E E E E E 0 E E (Int.toNat x9) 0 (at' y2 x9) ⟨bD g13,E⟩ E E (aB aA 2 [] [] [(4,.v (I x9)),(5,.v (.string (bs (at' y2 x9))))] _ E ⟨(Es E),E⟩ (aC E (aD aA 3 [(18,.v (.bool (decide ((at' y2 x9)=x0))))] ⟨⟨E,V⟩,E⟩ E E ?_))))
    refine aL E h (fun h=>?_) (fun h=>?_)
    ·
     refine aR aA 5 [(W (4+x9))] [] [(3,.v (.bool true))] (.new 1 55 [.int .i64 (W (4+x9)),.int .i64 0] .nil) ⟨⟨V,E⟩,⟨E,V⟩,(Bs E E)⟩ E E ?_
     cases h
     exact JS.ret aA () V E E [] E
    refine JS.skip (aV (cW aA 2 [(W (x9+1))] [] [(11,.v (I (W (x9+1))))] _ ⟨⟨V,E⟩,⟨E,V⟩,E⟩ E E (bZ (n20,(W (x9+1))) h (Nat.lt_succ_self _) (Es E) (Bs E E) [] E [0] E)))
   refine JS.exit E (aN () h (Es E) (Bs E E) [] E [] E)
  rintro _ h
  subst hj81
  refine JS.seq (JS.region (aB aA 1 [] [] [(24,.v (.string (bs x0)))] _ E ⟨⟨E,V⟩,E⟩ ?_))
  obtain ⟨⟨y28,y29⟩,hy30,h⟩:=aE h
  refine JO.call E E E E (uM x0 _ hy30) E [] E E ?_
  rintro ⟨a31,c32⟩ -
  refine aB aA 5 [] [] [(6,.v (.slice a31 y28.length c32)),(7,.v (.bool y29))] _ E ⟨(Es E),E⟩ (aC E (aR aA 1 [] [24] [(8,.bp 24 0)] (.new 1 55 [.int .i64 0,.int .i64 0] (.new 24 55 [.int .i64 0,.int .i64 0] .nil)) ⟨⟨E,V⟩,(Bs E E)⟩ E E (JS.seq ?_)))
  obtain ⟨j50,hj80,h⟩:=aO h
  refine bF (ι:=Int×Int) ⟨fun z=>j50 z=some r,fun z=>[(0,.v (.string (bs x0))),(2,.bp 1 0),(8,.bp 24 0)],fun z=>(.new 1 55 [.int .i64 0,.int .i64 0] (.new 24 55 [.int .i64 z.1,.int .i64 z.2] .nil)),fun z=>[],fun z=>[],fun z=>0⟩ ?_ ?_
  ·
   refine aD aA 8 [(28,.v (.bool (bif (!y29) then true else (decide ((y28.length:Int)=0)))))] ⟨⟨E,V⟩,E⟩ E E ?_
   refine aL E h (fun h=>?_) (fun h=>?_)
   ·
    refine aR aA 3 [] [] [(3,.v (.bool false))] (.new 1 55 [.int .i64 0,.int .i64 0] .nil) ⟨⟨E,V⟩,(Bs E E)⟩ E E ?_
    cases h
    exact JS.ret aA () V E E [] E
   refine aD aA 3 [(37,.v (.bool (decide (x0=([83,80,67]:List UInt8)))))] ⟨⟨E,V⟩,E⟩ E E ?_
   refine aL E h (fun h=>?_) (fun h=>?_)
   ·
    refine aR aA 3 [] [] [(3,.v (.bool true))] (.new 1 55 [.int .i64 1,.int .i64 32] .nil) ⟨⟨E,V⟩,(Bs E E)⟩ E E ?_
    cases h
    exact JS.ret aA () V E E [] E
   refine aD aA 4 [(41,.v (.bool (decide ((y28.length:Int)=1))))] ⟨⟨E,V⟩,E⟩ E E ?_
   refine aL E h (fun h=>?_) (fun h=>?_)
   ·
    refine JS.region (bT 0 E fun hs69=>?_)
    obtain ⟨g34,h⟩:=aF h
    refine aB aA 2 [] [] [(46,.ep ⟨a31,y28.length,c32⟩ (Int.toNat 0*1))] _ E ⟨hs69.ix g34,⟨E,V⟩,E⟩ (JO.load aA E E E E E E E 0 E E (Int.toNat 0) 0 (at' y28 0) ⟨bD g34,E⟩ E E (aS aA 2 [] [] [] (.new 1 55 [.int .i64 0,.int .i64 0] (.new 24 55 [.int .i64 1,.int .i64 (at' y28 0)] .nil)) E ⟨V,(Bs E E)⟩ (aC E (aV (aN (1,(at' y28 0)) h (Es E) (Bs E E) [] E [] E)))))
   refine JS.seq (JS.region ?_)
   obtain ⟨g35,h⟩:=aF h
   refine aB aA 9 [] [] [(49,.v (.bool (bif (decide ((y28.length:Int)=3)) then (decide ((bC x0 0 (2:Int))=([67,45]:List UInt8))) else false)))] _ E ⟨(fun q70=>(g35 q70)),⟨E,V⟩,E⟩ (aC E ?_)
   refine aL E h (fun h=>?_) (fun h=>?_)
   ·
    refine JS.region (bT 0 E fun hs71=>?_)
    obtain ⟨g38,h⟩:=aF h
    refine aB aA 2 [] [] [(59,.ep ⟨a31,y28.length,c32⟩ (Int.toNat 2*1))] _ E ⟨hs71.ix g38,⟨E,V⟩,E⟩ (JO.load aA E E E E E E E 0 E E (Int.toNat 2) 0 (at' y28 2) ⟨bD g38,E⟩ E E (aS aA 2 [] [] [] (.new 1 55 [.int .i64 0,.int .i64 0] (.new 24 55 [.int .i64 2,.int .i64 (at' y28 2)] .nil)) E ⟨V,(Bs E E)⟩ (aC E (aV (aN (2,(at' y28 2)) h (Es E) (Bs E E) [] E [] E)))))
   refine JS.seq (JS.region ?_)
   obtain ⟨g39,h⟩:=aF h
   refine aB aA 9 [] [] [(62,.v (.bool (bif (decide ((y28.length:Int)=3)) then (decide ((bC x0 0 (2:Int))=([77,45]:List UInt8))) else false)))] _ E ⟨(fun q72=>(g39 q72)),⟨E,V⟩,E⟩ (aC E ?_)
   refine aL E h (fun h=>?_) (fun h=>?_)
   ·
    refine JS.region (bT 0 E fun hs73=>?_)
    obtain ⟨g42,h⟩:=aF h
    refine aB aA 2 [] [] [(72,.ep ⟨a31,y28.length,c32⟩ (Int.toNat 2*1))] _ E ⟨hs73.ix g42,⟨E,V⟩,E⟩ (JO.load aA E E E E E E E 0 E E (Int.toNat 2) 0 (at' y28 2) ⟨bD g42,E⟩ E E (aS aA 2 [] [] [] (.new 1 55 [.int .i64 0,.int .i64 0] (.new 24 55 [.int .i64 3,.int .i64 (at' y28 2)] .nil)) E ⟨V,(Bs E E)⟩ (aC E (aV (aN (3,(at' y28 2)) h (Es E) (Bs E E) [] E [] E)))))
   refine JS.skip (aV (aN (0,0) h (Es E) (Bs E E) [] E [] E))
  rintro ⟨x48,x49⟩ h
  subst hj80
  refine JS.seq (JS.seq (JS.region (aB aA 1 [] [] [(75,.v (.agg #[.int .i64 x48,.int .i64 x49]))] _ E ⟨⟨E,V⟩,E⟩ ?_)))
  refine bnw h fun y61 hy62 h=>JO.call E E E E (aBp (x48,x49) _ hy62) E [] E E fun _ _=>aB aA 2 [] [] [(78,.v (.bool (!(decide (y61=x0)))))] _ E ⟨⟨E,V⟩,E⟩ (aC E ?_)
  refine aL E h (fun h=>?_) (fun h=>?_)
  ·
   refine aR aA 3 [] [] [(3,.v (.bool false))] (.new 1 55 [.int .i64 0,.int .i64 0] .nil) ⟨⟨E,V⟩,(Bs E E)⟩ E E ?_
   cases h
   exact JS.ret aA () V E E [] E
  refine JS.skip (aR aA 3 [] [] [(3,.v (.bool true))] (.new 1 55 [.int .i64 x48,.int .i64 x49] .nil) ⟨⟨E,V⟩,(Bs E E)⟩ E E ?_)
  cases h
  exact JS.ret aA () V E E [] E

def iE (x0:Int):Option Bool:=
  (aH (dK x0) fun (y2:Bool)=>
  some (bif (bif y2 then true else (decide (x0=9))) then true else (decide (x0=10))))

theorem wU (x0:Int) (r:Bool) (h:iE x0=some r) :
  FC Tryz.prog 58 [.int .i64 x0] [] (fun _:Unit=>True) (fun _=>.bool r) (fun _=>[]):=
 by
  refine FC.of (T:=TTx) Tryz.call58 Tryz.func58 E E fun w0=>?_
  unfold iE at h
  refine aD aA 1 [] ⟨V,E⟩ E E (JS.seq (JS.region (aB aA 1 [] [] [(3,.v (I x0))] _ E ⟨⟨E,V⟩,E⟩ ?_)))
  refine bnw h fun y2 hy3 h=>JO.call E E E E (gV x0 _ hy3) E [] E E fun _ _=>aB aA 9 [] [] [(2,.v (.bool (bif (bif y2 then true else (decide (x0=9))) then true else (decide (x0=10)))))] _ E ⟨⟨E,V⟩,E⟩ (aC E ?_)
  cases h
  exact JS.ret aA () V E E [] E

def dE (x0:List Int) (j20:Unit→Option Bool) (k14:Int→Option Bool):Int→Option Bool:=fun x6=>
  (bif (decide (x6<(x0.length:Int))) then
  (aI (0≤x6∧x6<(x0.length:Int)) <|
  (bU ((decide (400≤x6))=false) (iE (at' x0 x6)) false fun (y9:Bool)=>
  (bif (bif (decide (400≤x6)) then true else (!y9)) then
  some false
  else
  k14 (W (x6+1)))))
  else
  j20 ())

def dQ (x0:List Int):Option Bool:=
  (aY (fun (_:Unit)=>
  some true) fun j20=>
  (bI (dE x0 j20) bO 0))

theorem jX (x0:List Int) (a2:Option Addr) (c3:Nat) (r:Bool) (h:dQ x0=some r):
  FC Tryz.prog 38 [.slice a2 x0.length c3] [⟨(.int .i64),⟨a2,x0.length,c3⟩,x0⟩] (fun _:Unit=>True) (fun _=>.bool r) (fun _=>[]):=
 by
  refine FC.of (T:=TTx) Tryz.call38 Tryz.func38 E E fun w0=>?_
  unfold dQ at h
  refine aD aA 1 [] ⟨V,E⟩ E E (JS.seq (aD aA 3 [(5,.v (.slice a2 x0.length c3)),(6,.v (I (x0.length:Int))),(7,.v (I 0))] ⟨(Es E),E⟩ E E ?_))
  obtain ⟨j20,hj30,h⟩:=aO h
  refine bF (ι:=Unit) ⟨fun _=>j20 ()=some r,fun _=>[],fun _=>.nil,fun _=>[],fun _=>[],fun _=>0⟩ ?_ ?_
  ·
   refine JS.loop (ι:=Nat×Int) ⟨fun z=>bI (dE x0 j20) z.1 z.2=some r,fun z=>[(5,.v (.slice a2 x0.length c3)),(6,.v (I (x0.length:Int))),(7,.v (I z.2))],fun z=>.nil,fun z=>[⟨(.int .i64),⟨a2,x0.length,c3⟩,x0⟩],fun z=>[],fun z=>z.1⟩ (bO,0) h (Es E) V [0] E [] E ?_
   rintro ⟨n15,x6⟩ h
   obtain ⟨n15,rfl,h⟩:=bM h
   rw [dE] at h
   refine aD aA 1 [(8,.v (.bool (decide (x6<(x0.length:Int)))))] ⟨⟨E,V⟩,E⟩ E E (JS.seq ?_)
   refine aL E h (fun h=>?_) (fun h=>?_)
   ·
    refine JS.skip (JS.seq (JS.block (JS.seq (JS.region (bT 0 E fun hs26=>?_)))))
    obtain ⟨g8,h⟩:=aF h
    refine aB aA 2 [] [] [(9,.v (I x6)),(10,.ep ⟨a2,x0.length,c3⟩ (Int.toNat x6*1))] _ E ⟨hs26.ix g8,(Es E),E⟩ (JO.load aA E E E E E E E 0 E E (Int.toNat x6) 0 (at' x0 x6) ⟨bD g8,E⟩ E E (aB aA 2 [] [] [(3,.v (I x6)),(4,.v (I (at' x0 x6)))] _ E ⟨(Es E),E⟩ (aC E (JS.seq (JS.region (aB aA 4 [] [] [(14,.v (.bool (decide (400≤x6)))),(15,.cd [(14,false)] (.v (I (at' x0 x6))))] _ E ⟨(Es E),E⟩ ?_))))))
    obtain ⟨y9,hy10,-,h⟩:=aU h
    refine bJ E E E E (fun q27=>wU (at' x0 x6) _ (hy10 q27)) E [] E E (aB aA 2 [] [] [(18,.v (.bool (bif (decide (400≤x6)) then true else (!y9))))] _ E ⟨⟨E,V⟩,E⟩ (aC E ?_))
    refine aL E h (fun h=>?_) (fun h=>?_)
    ·
     refine aD aA 1 [(2,.v (.bool false))] ⟨⟨E,V⟩,E⟩ E E ?_
     cases h
     exact JS.ret aA () V E E [] E
    refine JS.skip (aV (cW aA 2 [(W (x6+1))] [] [(7,.v (I (W (x6+1))))] _ ⟨⟨V,E⟩,⟨E,V⟩,E⟩ E E (bZ (n15,(W (x6+1))) h (Nat.lt_succ_self _) (Es E) V [0] E [] E)))
   refine JS.exit E (aN () h V V [] E [] E)
  rintro _ h
  subst hj30
  refine aD aA 1 [(2,.v (.bool true))] ⟨⟨E,V⟩,E⟩ E E ?_
  cases h
  exact JS.ret aA () V E E [] E

def dB (x0:List Int×Int):Option Bool:=
  (aH (dQ x0.1) fun (y6:Bool)=>
  (bU (y6=true) (cN x0.2 0 (x0.1.length:Int)) false fun (y8:Bool)=>
  some (bif y6 then y8 else false)))

theorem eL (x0:List Int×Int) (a2:Option Addr) (c3:Nat) (r:Bool) (h:dB x0=some r):
  FC Tryz.prog 18 [.agg #[.slice a2 x0.1.length c3,.int .i64 x0.2]] [⟨(.int .i64),⟨a2,x0.1.length,c3⟩,x0.1⟩] (fun _:Unit=>True) (fun _=>.bool r) (fun _=>[]):=
 by
  refine FC.of (T:=TTx) Tryz.call18 Tryz.func18 E E fun w0=>?_
  unfold dB at h
  refine aR aA 2 [] [2] [(1,.bp 2 0)] (.new 2 25 [.slice a2 x0.1.length c3,.int .i64 x0.2] .nil) ⟨⟨E,V⟩,(Bs E E)⟩ E E (JS.seq (JS.region (aB aA 2 [] [] [(4,.v (.slice a2 x0.1.length c3))] _ E ⟨⟨E,V⟩,E⟩ ?_)))
  refine bnw h fun y6 hy7 h=>JO.call E E E E (jX x0.1 a2 c3 _ hy7) E [0] E E fun _ _=>aB aA 6 [] [] [(6,.v (.bool y6)),(8,.cd [(6,true)] (.v (I x0.2))),(11,.cd [(6,true)] (.v (I (x0.1.length:Int))))] _ E ⟨(Es E),E⟩ ?_
  obtain ⟨y8,hy9,-,h⟩:=aU h
  refine bJ E E E E (fun q11=>dL x0.2 0 (x0.1.length:Int) _ (hy9 q11)) E [] E E (aB aA 2 [] [] [(2,.v (.bool (bif y6 then y8 else false)))] _ E ⟨⟨E,V⟩,E⟩ (aC E ?_))
  cases h
  exact JS.ret aA () V E E [] E

def kT (x0:List Int×Int):Option Bool:=
  some (bif (decide (0<(x0.1.length:Int))) then (decide (x0.2=(x0.1.length:Int))) else false)

theorem uK (x0:List Int×Int) (a2:Option Addr) (c3:Nat) (r:Bool) (h:kT x0=some r):
  FC Tryz.prog 39 [.agg #[.slice a2 x0.1.length c3,.int .i64 x0.2]] [⟨(.int .i64),⟨a2,x0.1.length,c3⟩,x0.1⟩] (fun _:Unit=>True) (fun _=>.bool r) (fun _=>[]):=
 by
  refine FC.of (T:=TTx) Tryz.call39 Tryz.func39 E E fun w0=>?_
  unfold kT at h
  refine aR aA 2 [] [2] [(1,.bp 2 0)] (.new 2 25 [.slice a2 x0.1.length c3,.int .i64 x0.2] .nil) ⟨⟨E,V⟩,(Bs E E)⟩ E E (aD aA 13 [(2,.v (.bool (bif (decide (0<(x0.1.length:Int))) then (decide (x0.2=(x0.1.length:Int))) else false)))] ⟨⟨E,V⟩,E⟩ E E ?_)
  cases h
  exact JS.ret aA () V E E [] E

def iB (x0:Int) (x1:List UInt8) (j11:Unit→Option Bool) (k7:Int→Option Bool):Int→Option Bool:=fun x3=>
  (bif (decide (x3<(x1.length:Int))) then
  (aI (0≤x3∧x3<(x1.length:Int)) <|
  (bif (decide (((at' x1 x3).toNat:Int)=x0)) then
  some true
  else
  k7 (W (x3+1))))
  else
  j11 ())

def kU (x0:Int) (x1:List UInt8):Option Bool:=
  (aY (fun (_:Unit)=>
  some false) fun j11=>
  (bI (iB x0 x1 j11) bO 0))

theorem uL (x0:Int) (x1:List UInt8) (r:Bool) (h:kU x0 x1=some r) :
  FC Tryz.prog 40 [.int .i64 x0,.string (bs x1)] [] (fun _:Unit=>True) (fun _=>.bool r) (fun _=>[]):=
 by
  refine FC.of (T:=TTx) Tryz.call40 Tryz.func40 E E fun w0=>?_
  unfold kU at h
  refine aD aA 1 [] ⟨V,E⟩ E E (JS.seq (aD aA 1 [(5,.v (I 0))] ⟨⟨E,V⟩,E⟩ E E ?_))
  obtain ⟨j11,hj17,h⟩:=aO h
  refine bF (ι:=Unit) ⟨fun _=>j11 ()=some r,fun _=>[],fun _=>.nil,fun _=>[],fun _=>[],fun _=>0⟩ ?_ ?_
  ·
   refine JS.loop (ι:=Nat×Int) ⟨fun z=>bI (iB x0 x1 j11) z.1 z.2=some r,fun z=>[(0,.v (I x0)),(1,.v (.string (bs x1))),(5,.v (I z.2))],fun z=>.nil,fun z=>[],fun z=>[],fun z=>z.1⟩ (bO,0) h (Es E) V [] E [] E ?_
   rintro ⟨n8,x3⟩ h
   obtain ⟨n8,rfl,h⟩:=bM h
   rw [iB] at h
   refine JS.seq (aD aA 4 [(9,.v (.bool (decide (x3<(x1.length:Int)))))] ⟨⟨E,V⟩,E⟩ E E ?_)
   refine aL E h (fun h=>?_) (fun h=>?_)
   ·
    refine JS.skip (JS.seq (JS.block (JS.seq (JS.region ?_))))
    obtain ⟨g4,h⟩:=aF h
    refine aB aA 6 [((at' x1 x3).toNat:Int)] [] [(17,.v (.bool (decide (((at' x1 x3).toNat:Int)=x0))))] _ E ⟨g4,⟨V,yT _⟩,⟨E,V⟩,E⟩ (aC E ?_)
    refine aL E h (fun h=>?_) (fun h=>?_)
    ·
     refine aD aA 1 [(4,.v (.bool true))] ⟨⟨E,V⟩,E⟩ E E ?_
     cases h
     exact JS.ret aA () V E E [] E
    refine JS.skip (aV (cW aA 3 [(W (x3+1))] [] [(5,.v (I (W (x3+1))))] _ ⟨⟨V,E⟩,⟨E,V⟩,E⟩ E E (bZ (n8,(W (x3+1))) h (Nat.lt_succ_self _) (Es E) V [] E [] E)))
   refine JS.exit E (aN () h V V [] E [] E)
  rintro _ h
  subst hj17
  refine aD aA 1 [(4,.v (.bool false))] ⟨⟨E,V⟩,E⟩ E E ?_
  cases h
  exact JS.ret aA () V E E [] E

def oC (x0:EdQ):Option Bool:=
  (aY (fun (_:Unit)=>
  (bU ((decide (x0.2.1=2))=true) (kT x0.2.2.1) false fun (y44:Bool)=>
  (bif (bif (decide (x0.2.1=2)) then y44 else false) then
  some false
  else
  (bif (bif (bif (!(decide (x0.2.1=2))) then (bif (bif (!(decide (x0.2.2.2.2.1=0))) then true else (!(decide (x0.2.2.2.2.2.2.1=0)))) then true else (!(decide (x0.2.2.2.2.2.1=0)))) else false) then true else (bif (decide (x0.2.2.2.2.1=0)) then (!(decide (x0.2.2.2.2.2.1=0))) else false)) then
  some false
  else
  (bU ((decide (x0.2.2.2.2.1=0))=false) (kU x0.2.2.2.2.1 ([100,99,121]:List UInt8)) false fun (y47:Bool)=>
  (bU ((decide (x0.2.2.2.2.2.2.1=0))=false∧(bif (decide (x0.2.2.2.2.1=0)) then true else y47)=true) (kU x0.2.2.2.2.2.2.1 ([102,70,116,84,114]:List UInt8)) false fun (y50:Bool)=>
  some (bif (bif (decide (x0.2.2.2.2.1=0)) then true else y47) then (bif (decide (x0.2.2.2.2.2.2.1=0)) then true else y50) else false))))))) fun j36=>
  (bif (decide (x0.2.1=0)) then
  (bif x0.1 then
  some false
  else
  j36 ())
  else
  (aY (fun (x28:Bool)=>
  (bif x28 then
  (bif (!x0.1) then
  some false
  else
  j36 ())
  else
  (bif (decide (x0.2.1=3)) then
  j36 ()
  else
  some false))) fun j29=>
  (bif (decide (x0.2.1=1)) then
  j29 (decide (x0.2.1=1))
  else
  j29 (decide (x0.2.1=2))))))

theorem aC4 (x0:EdQ) (q2:P6) (r:Bool) (h:oC x0=some r):
  FC Tryz.prog 20 [.agg (aK x0 q2).toArray] (cY x0 q2 []) (fun _:Unit=>True) (fun _=>.bool r) (fun _=>[]):=
 by
  refine FC.of (T:=TTx) Tryz.call20 Tryz.func20 E E fun w0=>?_
  unfold oC at h
  refine aR aA 2 [] [7] [(1,.bp 7 0)] (.new 7 33 (aK x0 q2) .nil) ⟨⟨E,V⟩,(Bs E E)⟩ E E (JS.seq (aD aA 2 [(4,.v (I x0.2.1))] ⟨⟨E,V⟩,E⟩ E E ?_))
  obtain ⟨j36,hj70,h⟩:=aO h
  refine bF (ι:=Unit) ⟨fun _=>j36 ()=some r,fun _=>[(1,.bp 7 0)],fun _=>(.new 7 33 (aK x0 q2) .nil),fun _=>(cY x0 q2 []),fun _=>[],fun _=>0⟩ ?_ ?_
  ·
   refine aD aA 2 [(5,.v (.bool (decide (x0.2.1=0))))] ⟨⟨E,V⟩,E⟩ E E ?_
   refine aL E h (fun h=>?_) (fun h=>?_)
   ·
    refine aD aA 2 [(8,.v (.bool x0.1))] ⟨⟨E,V⟩,E⟩ E E ?_
    refine aL E h (fun h=>?_) (fun h=>?_)
    ·
     refine aD aA 1 [(2,.v (.bool false))] ⟨⟨E,V⟩,E⟩ E E ?_
     cases h
     exact JS.ret aA () V E E [] E
    refine JS.skip (aV (aN () h ⟨E,V⟩ (Bs E E) [0,1,2,3,4,5] E [] E))
   obtain ⟨j29,hj62,h⟩:=aO h
   refine eH (ι:=Bool) ⟨fun z=>j29 z=some r,fun z=>[(1,.bp 7 0),(4,.v (I x0.2.1)),(9,.v (.bool z))],fun z=>(.new 7 33 (aK x0 q2) .nil),fun z=>(cY x0 q2 []),fun z=>[],fun z=>0⟩ ?_ ?_
   ·
    refine aD aA 2 [(9,.v (.bool (decide (x0.2.1=1))))] ⟨⟨E,V⟩,E⟩ E E ?_
    refine aL E h (fun h=>?_) (fun h=>?_)
    ·
     refine JS.skip (aN (decide (x0.2.1=1)) h (Es E) (Bs E E) [0,1,2,3,4,5] E [] E)
    refine tS aA 2 [(9,.v (.bool (decide (x0.2.1=2))))] ⟨⟨E,V⟩,E⟩ E E (aN (decide (x0.2.1=2)) h (Es E) (Bs E E) [0,1,2,3,4,5] E [] E)
   rintro x28 h
   subst hj62
   refine aL E h (fun h=>?_) (fun h=>?_)
   ·
    refine aD aA 3 [(14,.v (.bool (!x0.1)))] ⟨⟨E,V⟩,E⟩ E E ?_
    refine aL E h (fun h=>?_) (fun h=>?_)
    ·
     refine aD aA 1 [(2,.v (.bool false))] ⟨⟨E,V⟩,E⟩ E E ?_
     cases h
     exact JS.ret aA () V E E [] E
    refine JS.skip (aV (aN () h ⟨E,V⟩ (Bs E E) [0,1,2,3,4,5] E [] E))
   refine aD aA 2 [(15,.v (.bool (decide (x0.2.1=3))))] ⟨⟨E,V⟩,E⟩ E E ?_
   refine aL E h (fun h=>?_) (fun h=>?_)
   ·
    refine JS.skip (aV (aN () h ⟨E,V⟩ (Bs E E) [0,1,2,3,4,5] E [] E))
   refine aD aA 1 [(2,.v (.bool false))] ⟨⟨E,V⟩,E⟩ E E ?_
   cases h
   exact JS.ret aA () V E E [] E
  rintro _ h
  subst hj70
  refine JS.seq (JS.seq (JS.region (aB aA 6 [] [] [(20,.v (.bool (decide (x0.2.1=2)))),(22,.cd [(20,true)] (.v (.agg #[.slice q2.1 x0.2.2.1.1.length q2.2.1,.int .i64 x0.2.2.1.2])))] _ E ⟨(Es E),E⟩ ?_)))
  obtain ⟨y44,hy45,-,h⟩:=aU h
  refine bJ E E E E (fun q64=>uK x0.2.2.1 q2.1 q2.2.1 _ (hy45 q64)) E [0] E E (aB aA 1 [] [] [(24,.v (.bool (bif (decide (x0.2.1=2)) then y44 else false)))] _ E ⟨⟨E,V⟩,E⟩ (aC E ?_))
  refine aL E h (fun h=>?_) (fun h=>?_)
  ·
   refine aD aA 1 [(2,.v (.bool false))] ⟨⟨E,V⟩,E⟩ E E ?_
   cases h
   exact JS.ret aA () V E E [] E
  refine JS.skip (JS.seq (aD aA 28 [(52,.v (.bool (bif (bif (!(decide (x0.2.1=2))) then (bif (bif (!(decide ((Q4 x0).1=0))) then true else (!(decide ((Q4 x0).2.2.1=0)))) then true else (!(decide ((Q4 x0).2.1=0)))) else false) then true else (bif (decide ((Q4 x0).1=0)) then (!(decide ((Q4 x0).2.1=0))) else false))))] ⟨⟨E,V⟩,E⟩ E E ?_))
  refine aL E h (fun h=>?_) (fun h=>?_)
  ·
   refine aD aA 1 [(2,.v (.bool false))] ⟨⟨E,V⟩,E⟩ E E ?_
   cases h
   exact JS.ret aA () V E E [] E
  refine JS.skip (JS.seq (JS.region (aB aA 6 [] [] [(56,.v (.bool (decide ((Q4 x0).1=0)))),(58,.cd [(56,false)] (.v (I (Q4 x0).1)))] _ E ⟨(Es E),E⟩ ?_)))
  obtain ⟨y47,hy48,-,h⟩:=aU h
  refine bJ E E E E (fun q65=>uL (Q4 x0).1 ([100,99,121]:List UInt8) _ (hy48 q65)) E [] E E (aB aA 8 [] [] [(61,.v (.bool (bif (decide ((Q4 x0).1=0)) then true else y47))),(65,.cd [(61,true)] (.v (.bool (decide ((Q4 x0).2.2.1=0))))),(67,.cd [(65,false),(61,true)] (.v (I (Q4 x0).2.2.1)))] _ E ⟨(Es E),E⟩ ?_)
  obtain ⟨y50,hy51,-,h⟩:=aU h
  refine bJ E E E E (fun q66 q67=>uL (Q4 x0).2.2.1 ([102,70,116,84,114]:List UInt8) _ (hy51 ⟨q66,q67⟩)) E [] E E (aB aA 3 [] [] [(2,.v (.bool (bif (bif (decide ((Q4 x0).1=0)) then true else y47) then (bif (decide ((Q4 x0).2.2.1=0)) then true else y50) else false)))] _ E ⟨⟨E,V⟩,E⟩ (aC E ?_))
  cases h
  exact JS.ret aA () V E E [] E

def jP (x0:List (List Int)) (j32:Unit→Option Bool) (k26:Int→Option Bool):Int→Option Bool:=fun x6=>
  (bif (decide (x6<(x0.length:Int))) then
  (aI (0≤x6∧x6<(x0.length:Int)) <|
  (bU ((decide (((at' x0 x6).length:Int)=0))=false) (dQ (at' x0 x6)) false fun (y17:Bool)=>
  (bif (bif (decide (((at' x0 x6).length:Int)=0)) then true else (!y17)) then
  some false
  else
  k26 (W (x6+1)))))
  else
  j32 ())

def iI (x0:List (List Int)):Option Bool:=
  (aY (fun (_:Unit)=>
  some (decide ((x0.length:Int)≤6))) fun j32=>
  (bI (jP x0 j32) bO 0))

theorem oJ (x0:List (List Int)) (a2:Option Addr) (c3:Nat) (r:Bool) (h:iI x0=some r):
  FC Tryz.prog 22 [.agg #[.slice a2 x0.length c3]] [⟨(.sl (.int .i64)),⟨a2,x0.length,c3⟩,x0⟩] (fun _:Unit=>True) (fun _=>.bool r) (fun _=>[]):=
 by
  refine FC.of (T:=TTx) Tryz.call22 Tryz.func22 E E fun w0=>?_
  unfold iI at h
  refine aR aA 2 [] [2] [(1,.bp 2 0)] (.new 2 28 [.slice a2 x0.length c3] .nil) ⟨⟨E,V⟩,(Bs E E)⟩ E E (JS.seq (aD aA 4 [(6,.v (.slice a2 x0.length c3)),(7,.v (I (x0.length:Int))),(8,.v (I 0))] ⟨(Es E),E⟩ E E ?_))
  obtain ⟨j32,hj42,h⟩:=aO h
  refine bF (ι:=Unit) ⟨fun _=>j32 ()=some r,fun _=>[(1,.bp 2 0)],fun _=>(.new 2 28 [.slice a2 x0.length c3] .nil),fun _=>[⟨(.sl (.int .i64)),⟨a2,x0.length,c3⟩,x0⟩],fun _=>[],fun _=>0⟩ ?_ ?_
  ·
   refine JS.loop (ι:=Nat×Int) ⟨fun z=>bI (jP x0 j32) z.1 z.2=some r,fun z=>[(1,.bp 2 0),(6,.v (.slice a2 x0.length c3)),(7,.v (I (x0.length:Int))),(8,.v (I z.2))],fun z=>(.new 2 28 [.slice a2 x0.length c3] .nil),fun z=>[⟨(.sl (.int .i64)),⟨a2,x0.length,c3⟩,x0⟩],fun z=>[],fun z=>z.1⟩ (bO,0) h (Es E) (Bs E E) [0] E [] E ?_
   rintro ⟨n27,x6⟩ h
   obtain ⟨n27,rfl,h⟩:=bM h
   rw [jP] at h
   refine aD aA 1 [(9,.v (.bool (decide (x6<(x0.length:Int)))))] ⟨⟨E,V⟩,E⟩ E E (JS.seq ?_)
   refine aL E h (fun h=>?_) (fun h=>?_)
   ·
    refine JS.skip (JS.seq (JS.block (JS.seq (JS.region (bT 0 E fun hs38=>?_)))))
    obtain ⟨g11,h⟩:=aF h
    refine aB aA 1 [] [] [(10,.ep ⟨a2,x0.length,c3⟩ (Int.toNat x6*1))] _ E ⟨hs38.ix g11,⟨E,V⟩,E⟩ (mV 0 E (Int.toNat x6) (at' x0 x6) E fun a12 c13 ys14 hl15 hy16=>dX aA E E E E E E 0 E E (Int.toNat x6) 0 (Sl.v ⟨a12,(at' x0 x6).length,c13⟩) ⟨hy16 (rJ g11),E⟩ E E E (aS aA 2 [] [16] [(4,.bp 16 0)] (.new 2 28 [.slice a2 x0.length c3] (.new 16 66 [.slice a12 (at' x0 x6).length c13] .nil)) E ⟨⟨E,V⟩,(Bs E E)⟩ (aC E (JS.seq (JS.region (aB aA 7 [] [] [(16,.v (.bool (decide (((at' x0 x6).length:Int)=0)))),(18,.cd [(16,false)] (.v (.slice a12 (at' x0 x6).length c13)))] _ E ⟨(Es E),E⟩ ?_))))))
    obtain ⟨y17,hy18,-,h⟩:=aU h
    refine bJ E E E E (fun q39=>jX (at' x0 x6) a12 c13 _ (hy18 q39)) E [1] E E (aB aA 2 [] [] [(21,.v (.bool (bif (decide (((at' x0 x6).length:Int)=0)) then true else (!y17))))] _ E ⟨⟨E,V⟩,E⟩ (aC E ?_))
    refine aL E h (fun h=>?_) (fun h=>?_)
    ·
     refine aD aA 1 [(2,.v (.bool false))] ⟨⟨E,V⟩,E⟩ E E ?_
     cases h
     exact JS.ret aA () V E E [] E
    refine JS.skip (aV (cW aA 2 [(W (x6+1))] [] [(8,.v (I (W (x6+1))))] _ ⟨⟨V,E⟩,⟨E,V⟩,E⟩ E E (bZ (n27,(W (x6+1))) h (Nat.lt_succ_self _) (Es E) (Bs E E) [2] E [] E)))
   refine JS.exit E (aN () h ⟨E,V⟩ (Bs E E) [0] E [] E)
  rintro _ h
  subst hj42
  refine aD aA 5 [(2,.v (.bool (decide ((x0.length:Int)≤6))))] ⟨⟨E,V⟩,E⟩ E E ?_
  cases h
  exact JS.ret aA () V E E [] E

def jO (x0:List (List Int×Int)) (j29:Unit→Option Bool) (k24:Int→Option Bool):Int→Option Bool:=fun x6=>
  (bif (decide (x6<(x0.length:Int))) then
  (aI (0≤x6∧x6<(x0.length:Int)) <|
  (aH (dB ((at' x0 x6).1,(at' x0 x6).2)) fun (y17:Bool)=>
  (bif (!y17) then
  some false
  else
  k24 (W (x6+1)))))
  else
  j29 ())

def kC (x0:List (List Int×Int)):Option Bool:=
  (aY (fun (_:Unit)=>
  some (decide ((x0.length:Int)≤20))) fun j29=>
  (bI (jO x0 j29) bO 0))

theorem rE (x0:List (List Int×Int)) (a2:Option Addr) (c3:Nat) (r:Bool) (h:kC x0=some r):
  FC Tryz.prog 23 [.agg #[.slice a2 x0.length c3]] [⟨(.pair (.sl (.int .i64)) (.int .i64)),⟨a2,x0.length,c3⟩,x0⟩] (fun _:Unit=>True) (fun _=>.bool r) (fun _=>[]):=
 by
  refine FC.of (T:=TTx) Tryz.call23 Tryz.func23 E E fun w0=>?_
  unfold kC at h
  refine aR aA 2 [] [2] [(1,.bp 2 0)] (.new 2 31 [.slice a2 x0.length c3] .nil) ⟨⟨E,V⟩,(Bs E E)⟩ E E (JS.seq (aD aA 4 [(6,.v (.slice a2 x0.length c3)),(7,.v (I (x0.length:Int))),(8,.v (I 0))] ⟨(Es E),E⟩ E E ?_))
  obtain ⟨j29,hj37,h⟩:=aO h
  refine bF (ι:=Unit) ⟨fun _=>j29 ()=some r,fun _=>[(1,.bp 2 0)],fun _=>(.new 2 31 [.slice a2 x0.length c3] .nil),fun _=>[⟨(.pair (.sl (.int .i64)) (.int .i64)),⟨a2,x0.length,c3⟩,x0⟩],fun _=>[],fun _=>0⟩ ?_ ?_
  ·
   refine JS.loop (ι:=Nat×Int) ⟨fun z=>bI (jO x0 j29) z.1 z.2=some r,fun z=>[(1,.bp 2 0),(6,.v (.slice a2 x0.length c3)),(7,.v (I (x0.length:Int))),(8,.v (I z.2))],fun z=>(.new 2 31 [.slice a2 x0.length c3] .nil),fun z=>[⟨(.pair (.sl (.int .i64)) (.int .i64)),⟨a2,x0.length,c3⟩,x0⟩],fun z=>[],fun z=>z.1⟩ (bO,0) h (Es E) (Bs E E) [0] E [] E ?_
   rintro ⟨n25,x6⟩ h
   obtain ⟨n25,rfl,h⟩:=bM h
   rw [jO] at h
   refine aD aA 1 [(9,.v (.bool (decide (x6<(x0.length:Int)))))] ⟨⟨E,V⟩,E⟩ E E (JS.seq ?_)
   refine aL E h (fun h=>?_) (fun h=>?_)
   ·
    refine JS.skip (JS.seq (JS.block (JS.seq (JS.region (bT 0 E fun hs34=>?_)))))
    obtain ⟨g11,h⟩:=aF h
    refine aB aA 1 [] [] [(10,.ep ⟨a2,x0.length,c3⟩ (Int.toNat x6*2))] _ E ⟨hs34.ix g11,⟨E,V⟩,E⟩ (mV 0 E (Int.toNat x6) (at' x0 x6) E fun a12 c13 ys14 hl15 hy16=>dX aA E E E E E E 0 E E (Int.toNat x6) 0 ((Sl.v ⟨a12,((at' x0 x6).1).length,c13⟩),(at' x0 x6).2) ⟨hy16 (rJ g11),E⟩ E E E (aS aA 2 [] [16] [(4,.bp 16 0)] (.new 2 31 [.slice a2 x0.length c3] (.new 16 25 [.slice a12 ((at' x0 x6).1).length c13,.int .i64 (at' x0 x6).2] .nil)) E ⟨⟨E,V⟩,(Bs E E)⟩ (aC E (JS.seq (JS.region (aB aA 1 [] [] [(12,.v (.agg #[.slice a12 ((at' x0 x6).1).length c13,.int .i64 (at' x0 x6).2]))] _ E ⟨⟨E,V⟩,E⟩ ?_))))))
    refine bnw h fun y17 hy18 h=>JO.call E E E E (eL ((at' x0 x6).1,(at' x0 x6).2) a12 c13 _ hy18) E [1] E E fun _ _=>aB aA 1 [] [] [(14,.v (.bool (!y17)))] _ E ⟨⟨E,V⟩,E⟩ (aC E ?_)
    refine aL E h (fun h=>?_) (fun h=>?_)
    ·
     refine aD aA 1 [(2,.v (.bool false))] ⟨⟨E,V⟩,E⟩ E E ?_
     cases h
     exact JS.ret aA () V E E [] E
    refine JS.skip (aV (cW aA 2 [(W (x6+1))] [] [(8,.v (I (W (x6+1))))] _ ⟨⟨V,E⟩,⟨E,V⟩,E⟩ E E (bZ (n25,(W (x6+1))) h (Nat.lt_succ_self _) (Es E) (Bs E E) [2] E [] E)))
   refine JS.exit E (aN () h ⟨E,V⟩ (Bs E E) [0] E [] E)
  rintro _ h
  subst hj37
  refine aD aA 5 [(2,.v (.bool (decide ((x0.length:Int)≤20))))] ⟨⟨E,V⟩,E⟩ E E ?_
  cases h
  exact JS.ret aA () V E E [] E

def gL (x0:List Int×Int):Option Bool:=
  some (bif (decide ((x0.1.length:Int)=0)) then (decide (x0.2=0)) else false)

theorem rC (x0:List Int×Int) (a2:Option Addr) (c3:Nat) (r:Bool) (h:gL x0=some r):
  FC Tryz.prog 24 [.agg #[.slice a2 x0.1.length c3,.int .i64 x0.2]] [⟨(.int .i64),⟨a2,x0.1.length,c3⟩,x0.1⟩] (fun _:Unit=>True) (fun _=>.bool r) (fun _=>[]):=
 by
  refine FC.of (T:=TTx) Tryz.call24 Tryz.func24 E E fun w0=>?_
  unfold gL at h
  refine aR aA 2 [] [2] [(1,.bp 2 0)] (.new 2 25 [.slice a2 x0.1.length c3,.int .i64 x0.2] .nil) ⟨⟨E,V⟩,(Bs E E)⟩ E E (aD aA 10 [(2,.v (.bool (bif (decide ((x0.1.length:Int)=0)) then (decide (x0.2=0)) else false)))] ⟨⟨E,V⟩,E⟩ E E ?_)
  cases h
  exact JS.ret aA () V E E [] E

def mU (x0:EdQ) (j116:Unit→Option Bool) (k111:Int→Option Bool):Int→Option Bool:=fun x69=>
  (bif (decide (x69<(x0.2.2.2.2.2.2.2.2.2.2.2.2.2.2.1.length:Int))) then
  (aI (0≤x69∧x69<(x0.2.2.2.2.2.2.2.2.2.2.2.2.2.2.1.length:Int)) <|
  (aH (dK (at' x0.2.2.2.2.2.2.2.2.2.2.2.2.2.2.1 x69)) fun (y104:Bool)=>
  (bif (!y104) then
  some false
  else
  k111 (W (x69+1)))))
  else
  j116 ())

def lR (x0:EdQ):Option Bool:=
  (aH (dB x0.2.2.1) fun (y26:Bool)=>
  (bU ((!y26)=false) (dB x0.2.2.2.2.2.2.2.2.2.2.2.2.2.1) false fun (y28:Bool)=>
  (bU ((bif (!y26) then true else (!y28))=false) (dB x0.2.2.2.2.2.2.2.2.2.2.2.2.2.2.2.2) false fun (y31:Bool)=>
  (bU ((bif (bif (!y26) then true else (!y28)) then true else (!y31))=false) (cN x0.2.2.2.1 0 999) false fun (y34:Bool)=>
  (bU ((bif (bif (bif (!y26) then true else (!y28)) then true else (!y31)) then true else (!y34))=false) (cN x0.2.2.2.2.2.1 0 999) false fun (y37:Bool)=>
  (bU ((bif (bif (bif (bif (!y26) then true else (!y28)) then true else (!y31)) then true else (!y34)) then true else (!y37))=false) (oC x0) false fun (y40:Bool)=>
  (bif (bif (bif (bif (bif (bif (!y26) then true else (!y28)) then true else (!y31)) then true else (!y34)) then true else (!y37)) then true else (!y40)) then
  some false
  else
  (bU ((!(decide (x0.2.2.2.2.2.2.2.1=0)))=true∧(bif (decide (x0.2.2.2.2.2.2.2.1=0)) then (!(decide (x0.2.2.2.2.2.2.2.2.1=0))) else false)=false) (dK x0.2.2.2.2.2.2.2.1) false fun (y43:Bool)=>
  (bU ((!y43)=false∧(!(decide (x0.2.2.2.2.2.2.2.1=0)))=true∧(bif (decide (x0.2.2.2.2.2.2.2.1=0)) then (!(decide (x0.2.2.2.2.2.2.2.2.1=0))) else false)=false) (cN x0.2.2.2.2.2.2.2.2.1 0 3) false fun (y47:Bool)=>
  (bif (bif (bif (decide (x0.2.2.2.2.2.2.2.1=0)) then (!(decide (x0.2.2.2.2.2.2.2.2.1=0))) else false) then true else (bif (!(decide (x0.2.2.2.2.2.2.2.1=0))) then (bif (!y43) then true else (!y47)) else false)) then
  some false
  else
  (aH (cN x0.2.2.2.2.2.2.2.2.2.1 0 3) fun (y52:Bool)=>
  (bU ((!y52)=false) (iI x0.2.2.2.2.2.2.2.2.2.2.1) false fun (y54:Bool)=>
  (bU ((bif (!y52) then true else (!y54))=false) (kC x0.2.2.2.2.2.2.2.2.2.2.2.1) false fun (y57:Bool)=>
  (bU ((bif (bif (!y52) then true else (!y54)) then true else (!y57))=false) (cN x0.2.2.2.2.2.2.2.2.2.2.2.2.1 0 1000000060) false fun (y60:Bool)=>
  (bU ((bif (bif (bif (!y52) then true else (!y54)) then true else (!y57)) then true else (!y60))=false) (cN x0.2.2.2.2.2.2.2.2.2.2.2.2.2.2.2.1 0 1000000060) false fun (y63:Bool)=>
  (bif (bif (bif (bif (bif (!y52) then true else (!y54)) then true else (!y57)) then true else (!y60)) then true else (!y63)) then
  some false
  else
  (bU ((decide (x0.2.2.2.2.2.2.2.2.2.2.2.2.1=0))=true) (gL x0.2.2.2.2.2.2.2.2.2.2.2.2.2.1) false fun (y66:Bool)=>
  (bif (bif (bif (decide (x0.2.2.2.2.2.2.2.2.2.2.2.2.1=0)) then (!y66) else false) then true else (decide (40<(x0.2.2.2.2.2.2.2.2.2.2.2.2.2.2.1.length:Int)))) then
  some false
  else
  (aY (fun (_:Unit)=>
  (bU ((bif (decide ((x0.2.2.2.2.2.2.2.2.2.2.2.2.2.2.1.length:Int)=0)) then (decide (x0.2.2.2.2.2.2.2.2.2.2.2.2.2.2.2.1=0)) else false)=true∧(decide (x0.2.1=3))=false) (gL x0.2.2.2.2.2.2.2.2.2.2.2.2.2.2.2.2) false fun (y120:Bool)=>
  some (bif (decide (x0.2.1=3)) then true else (bif (bif (decide ((x0.2.2.2.2.2.2.2.2.2.2.2.2.2.2.1.length:Int)=0)) then (decide (x0.2.2.2.2.2.2.2.2.2.2.2.2.2.2.2.1=0)) else false) then y120 else false)))) fun j116=>
  (bI (mU x0 j116) bO 0))))))))))))))))))))

theorem sH (x0:EdQ) (q2:P6) (r:Bool) (h:lR x0=some r):
  FC Tryz.prog 6 [.agg (aK x0 q2).toArray] (cY x0 q2 []) (fun _:Unit=>True) (fun _=>.bool r) (fun _=>[]):=
 by
  refine FC.of (T:=TTx) Tryz.call6 Tryz.func6 E E fun w0=>?_
  unfold lR at h
  refine aR aA 2 [] [7] [(1,.bp 7 0)] (.new 7 33 (aK x0 q2) .nil) ⟨⟨E,V⟩,(Bs E E)⟩ E E (JS.seq (JS.seq (JS.region (aB aA 2 [] [] [(6,.v (.agg #[.slice q2.1 x0.2.2.1.1.length q2.2.1,.int .i64 x0.2.2.1.2]))] _ E ⟨⟨E,V⟩,E⟩ ?_))))
  refine bnw h fun y26 hy27 h=>JO.call E E E E (eL x0.2.2.1 q2.1 q2.2.1 _ hy27) E [0] E E fun _ _=>aB aA 4 [] [] [(9,.v (.bool (!y26))),(11,.cd [(9,false)] (.v (.agg #[.slice (Q4 q2).2.2.1 (Q12 x0).2.1.1.length (Q4 q2).2.2.2.1,.int .i64 (Q12 x0).2.1.2])))] _ E ⟨(Es E),E⟩ ?_
  obtain ⟨y28,hy29,-,h⟩:=aU h
  refine bJ E E E E (fun q129=>eL (Q12 x0).2.1 (Q4 q2).2.2.1 (Q4 q2).2.2.2.1 _ (hy29 q129)) E [3] E E (aB aA 5 [] [] [(15,.v (.bool (bif (!y26) then true else (!y28)))),(17,.cd [(15,false)] (.v (.agg #[.slice (Q8 q2).2.2.1 (Q16 x0).1.length (Q8 q2).2.2.2,.int .i64 (Q16 x0).2])))] _ E ⟨(Es E),E⟩ ?_)
  obtain ⟨y31,hy32,-,h⟩:=aU h
  refine bJ E E E E (fun q130=>eL (Q16 x0) (Q8 q2).2.2.1 (Q8 q2).2.2.2 _ (hy32 q130)) E [5] E E (aB aA 5 [] [] [(21,.v (.bool (bif (bif (!y26) then true else (!y28)) then true else (!y31)))),(23,.cd [(21,false)] (.v (I x0.2.2.2.1)))] _ E ⟨(Es E),E⟩ ?_)
  obtain ⟨y34,hy35,-,h⟩:=aU h
  refine bJ E E E E (fun q131=>dL x0.2.2.2.1 0 999 _ (hy35 q131)) E [] E E (aB aA 5 [] [] [(27,.v (.bool (bif (bif (bif (!y26) then true else (!y28)) then true else (!y31)) then true else (!y34)))),(29,.cd [(27,false)] (.v (I (Q4 x0).2.1)))] _ E ⟨(Es E),E⟩ ?_)
  obtain ⟨y37,hy38,-,h⟩:=aU h
  refine bJ E E E E (fun q132=>dL (Q4 x0).2.1 0 999 _ (hy38 q132)) E [] E E (aB aA 4 [] [] [(33,.v (.bool (bif (bif (bif (bif (!y26) then true else (!y28)) then true else (!y31)) then true else (!y34)) then true else (!y37)))),(34,.cd [(33,false)] (.v (.agg (aK x0 q2).toArray)))] _ E ⟨(Es E),E⟩ ?_)
  obtain ⟨y40,hy41,-,h⟩:=aU h
  refine bJ E E E E (fun q133=>aC4 x0 q2 _ (hy41 q133)) E [0,1,2,3,4,5] E E (aB aA 2 [] [] [(37,.v (.bool (bif (bif (bif (bif (bif (!y26) then true else (!y28)) then true else (!y31)) then true else (!y34)) then true else (!y37)) then true else (!y40))))] _ E ⟨⟨E,V⟩,E⟩ (aC E ?_))
  refine aL E h (fun h=>?_) (fun h=>?_)
  ·
   refine aD aA 1 [(2,.v (.bool false))] ⟨⟨E,V⟩,E⟩ E E ?_
   cases h
   exact JS.ret aA () V E E [] E
  refine JS.skip (JS.seq (JS.seq (JS.region (aB aA 15 [] [] [(46,.v (.bool (bif (decide ((Q4 x0).2.2.2.1=0)) then (!(decide ((Q8 x0).1=0))) else false))),(50,.cd [(46,false)] (.v (.bool (!(decide ((Q4 x0).2.2.2.1=0)))))),(52,.cd [(50,true),(46,false)] (.v (I (Q4 x0).2.2.2.1)))] _ E ⟨(Es E),E⟩ ?_))))
  obtain ⟨y43,hy44,-,h⟩:=aU h
  refine bJ E E E E (fun q134 q135=>gV (Q4 x0).2.2.2.1 _ (hy44 ⟨q134,q135⟩)) E [] E E (aB aA 4 [] [] [(55,.cd [(50,true),(46,false)] (.v (.bool (!y43)))),(57,.cd [(55,false),(50,true),(46,false)] (.v (I (Q8 x0).1)))] _ E ⟨(Es E),E⟩ ?_)
  obtain ⟨y47,hy48,-,h⟩:=aU h
  refine bJ E E E E (fun q136 q137 q138=>dL (Q8 x0).1 0 3 _ (hy48 ⟨q136,q137,q138⟩)) E [] E E (aB aA 4 [] [] [(62,.v (.bool (bif (bif (decide ((Q4 x0).2.2.2.1=0)) then (!(decide ((Q8 x0).1=0))) else false) then true else (bif (!(decide ((Q4 x0).2.2.2.1=0))) then (bif (!y43) then true else (!y47)) else false))))] _ E ⟨⟨E,V⟩,E⟩ (aC E ?_))
  refine aL E h (fun h=>?_) (fun h=>?_)
  ·
   refine aD aA 1 [(2,.v (.bool false))] ⟨⟨E,V⟩,E⟩ E E ?_
   cases h
   exact JS.ret aA () V E E [] E
  refine JS.skip (JS.seq (JS.seq (JS.region (aB aA 2 [] [] [(64,.v (I (Q8 x0).2.1))] _ E ⟨⟨E,V⟩,E⟩ ?_))))
  refine bnw h fun y52 hy53 h=>JO.call E E E E (dL (Q8 x0).2.1 0 3 _ hy53) E [] E E fun _ _=>aB aA 4 [] [] [(67,.v (.bool (!y52))),(69,.cd [(67,false)] (.v (.agg #[.slice q2.2.2.1 (Q8 x0).2.2.1.length q2.2.2.2.1])))] _ E ⟨(Es E),E⟩ ?_
  obtain ⟨y54,hy55,-,h⟩:=aU h
  refine bJ E E E E (fun q139=>oJ (Q8 x0).2.2.1 q2.2.2.1 q2.2.2.2.1 _ (hy55 q139)) E [1] E E (aB aA 5 [] [] [(73,.v (.bool (bif (!y52) then true else (!y54)))),(75,.cd [(73,false)] (.v (.agg #[.slice (Q4 q2).1 (Q8 x0).2.2.2.1.length (Q4 q2).2.1])))] _ E ⟨(Es E),E⟩ ?_)
  obtain ⟨y57,hy58,-,h⟩:=aU h
  refine bJ E E E E (fun q140=>rE (Q8 x0).2.2.2.1 (Q4 q2).1 (Q4 q2).2.1 _ (hy58 q140)) E [2] E E (aB aA 5 [] [] [(79,.v (.bool (bif (bif (!y52) then true else (!y54)) then true else (!y57)))),(81,.cd [(79,false)] (.v (I (Q12 x0).1)))] _ E ⟨(Es E),E⟩ ?_)
  obtain ⟨y60,hy61,-,h⟩:=aU h
  refine bJ E E E E (fun q141=>dL (Q12 x0).1 0 1000000060 _ (hy61 q141)) E [] E E (aB aA 5 [] [] [(85,.v (.bool (bif (bif (bif (!y52) then true else (!y54)) then true else (!y57)) then true else (!y60)))),(87,.cd [(85,false)] (.v (I (Q12 x0).2.2.2.1)))] _ E ⟨(Es E),E⟩ ?_)
  obtain ⟨y63,hy64,-,h⟩:=aU h
  refine bJ E E E E (fun q142=>dL (Q12 x0).2.2.2.1 0 1000000060 _ (hy64 q142)) E [] E E (aB aA 2 [] [] [(90,.v (.bool (bif (bif (bif (bif (!y52) then true else (!y54)) then true else (!y57)) then true else (!y60)) then true else (!y63))))] _ E ⟨⟨E,V⟩,E⟩ (aC E ?_))
  refine aL E h (fun h=>?_) (fun h=>?_)
  ·
   refine aD aA 1 [(2,.v (.bool false))] ⟨⟨E,V⟩,E⟩ E E ?_
   cases h
   exact JS.ret aA () V E E [] E
  refine JS.skip (JS.seq (JS.seq (JS.region (aB aA 6 [] [] [(94,.v (.bool (decide ((Q12 x0).1=0)))),(96,.cd [(94,true)] (.v (.agg #[.slice (Q4 q2).2.2.1 (Q12 x0).2.1.1.length (Q4 q2).2.2.2.1,.int .i64 (Q12 x0).2.1.2])))] _ E ⟨(Es E),E⟩ ?_))))
  obtain ⟨y66,hy67,-,h⟩:=aU h
  refine bJ E E E E (fun q143=>rC (Q12 x0).2.1 (Q4 q2).2.2.1 (Q4 q2).2.2.2.1 _ (hy67 q143)) E [3] E E (aB aA 8 [] [] [(105,.v (.bool (bif (bif (decide ((Q12 x0).1=0)) then (!y66) else false) then true else (decide (40<((Q12 x0).2.2.1.length:Int))))))] _ E ⟨⟨E,V⟩,E⟩ (aC E ?_))
  refine aL E h (fun h=>?_) (fun h=>?_)
  ·
   refine aD aA 1 [(2,.v (.bool false))] ⟨⟨E,V⟩,E⟩ E E ?_
   cases h
   exact JS.ret aA () V E E [] E
  refine JS.skip (JS.seq (aD aA 4 [(107,.v (.slice (Q8 q2).1 (Q12 x0).2.2.1.length (Q8 q2).2.1)),(108,.v (I ((Q12 x0).2.2.1.length:Int))),(109,.v (I 0))] ⟨(Es E),E⟩ E E ?_))
  obtain ⟨j116,hj149,h⟩:=aO h
  refine bF (ι:=Unit) ⟨fun _=>j116 ()=some r,fun _=>[(1,.bp 7 0)],fun _=>(.new 7 33 (aK x0 q2) .nil),fun _=>(cY x0 q2 []),fun _=>[],fun _=>0⟩ ?_ ?_
  ·
   refine JS.loop (ι:=Nat×Int) ⟨fun z=>bI (mU x0 j116) z.1 z.2=some r,fun z=>[(1,.bp 7 0),(107,.v (.slice (Q8 q2).1 (Q12 x0).2.2.1.length (Q8 q2).2.1)),(108,.v (I ((Q12 x0).2.2.1.length:Int))),(109,.v (I z.2))],fun z=>(.new 7 33 (aK x0 q2) .nil),fun z=>[⟨(.int .i64),⟨(Q8 q2).1,(Q12 x0).2.2.1.length,(Q8 q2).2.1⟩,(Q12 x0).2.2.1⟩,⟨(.int .i64),⟨q2.1,x0.2.2.1.1.length,q2.2.1⟩,x0.2.2.1.1⟩,⟨(.sl (.int .i64)),⟨q2.2.2.1,(Q8 x0).2.2.1.length,q2.2.2.2.1⟩,(Q8 x0).2.2.1⟩,⟨(.pair (.sl (.int .i64)) (.int .i64)),⟨(Q4 q2).1,(Q8 x0).2.2.2.1.length,(Q4 q2).2.1⟩,(Q8 x0).2.2.2.1⟩,⟨(.int .i64),⟨(Q4 q2).2.2.1,(Q12 x0).2.1.1.length,(Q4 q2).2.2.2.1⟩,(Q12 x0).2.1.1⟩,⟨(.int .i64),⟨(Q8 q2).2.2.1,(Q16 x0).1.length,(Q8 q2).2.2.2⟩,(Q16 x0).1⟩],fun z=>[],fun z=>z.1⟩ (bO,0) h (Es E) (Bs E E) [4,0,1,2,3,5] E [] E ?_
   rintro ⟨n112,x69⟩ h
   obtain ⟨n112,rfl,h⟩:=bM h
   rw [mU] at h
   refine aD aA 1 [(110,.v (.bool (decide (x69<((Q12 x0).2.2.1.length:Int)))))] ⟨⟨E,V⟩,E⟩ E E (JS.seq ?_)
   refine aL E h (fun h=>?_) (fun h=>?_)
   ·
    refine JS.skip (JS.seq (JS.block (JS.seq (JS.region (bT 0 E fun hs144=>?_)))))
    obtain ⟨g103,h⟩:=aF h
    refine aB aA 1 [] [] [(111,.ep ⟨(Q8 q2).1,(Q12 x0).2.2.1.length,(Q8 q2).2.1⟩ (Int.toNat x69*1))] _ E ⟨hs144.ix g103,⟨E,V⟩,E⟩ (JO.load aA E E E E E E E 0 E E (Int.toNat x69) 0 (at' (Q12 x0).2.2.1 x69) ⟨bD g103,E⟩ E E (aB aA 1 [] [] [(4,.v (I (at' (Q12 x0).2.2.1 x69)))] _ E ⟨⟨E,V⟩,E⟩ (aC E (JS.seq (JS.region (aB aA 1 [] [] [(113,.v (I (at' (Q12 x0).2.2.1 x69)))] _ E ⟨⟨E,V⟩,E⟩ ?_))))))
    refine bnw h fun y104 hy105 h=>JO.call E E E E (gV (at' (Q12 x0).2.2.1 x69) _ hy105) E [] E E fun _ _=>aB aA 1 [] [] [(115,.v (.bool (!y104)))] _ E ⟨⟨E,V⟩,E⟩ (aC E ?_)
    refine aL E h (fun h=>?_) (fun h=>?_)
    ·
     refine aD aA 1 [(2,.v (.bool false))] ⟨⟨E,V⟩,E⟩ E E ?_
     cases h
     exact JS.ret aA () V E E [] E
    refine JS.skip (aV (cW aA 2 [(W (x69+1))] [] [(109,.v (I (W (x69+1))))] _ ⟨⟨V,E⟩,⟨E,V⟩,E⟩ E E (bZ (n112,(W (x69+1))) h (Nat.lt_succ_self _) (Es E) (Bs E E) [0,1,2,3,4,5] E [] E)))
   refine JS.exit E (aN () h ⟨E,V⟩ (Bs E E) [1,2,3,4,0,5] E [] E)
  rintro _ h
  subst hj149
  refine JS.seq (JS.region (aB aA 16 [] [] [(120,.v (.bool (decide (x0.2.1=3)))),(130,.cd [(120,false)] (.v (.bool (bif (decide (((Q12 x0).2.2.1.length:Int)=0)) then (decide ((Q12 x0).2.2.2.1=0)) else false)))),(132,.cd [(130,true),(120,false)] (.v (.agg #[.slice (Q8 q2).2.2.1 (Q16 x0).1.length (Q8 q2).2.2.2,.int .i64 (Q16 x0).2])))] _ E ⟨(Es E),E⟩ ?_))
  obtain ⟨y120,hy121,-,h⟩:=aU h
  refine bJ E E E E (fun q147 q148=>rC (Q16 x0) (Q8 q2).2.2.1 (Q8 q2).2.2.2 _ (hy121 ⟨q147,q148⟩)) E [5] E E (aB aA 3 [] [] [(2,.v (.bool (bif (decide (x0.2.1=3)) then true else (bif (bif (decide (((Q12 x0).2.2.1.length:Int)=0)) then (decide ((Q12 x0).2.2.2.1=0)) else false) then y120 else false))))] _ E ⟨⟨E,V⟩,E⟩ (aC E ?_))
  cases h
  exact JS.ret aA () V E E [] E

def jQ (x0:Int×List (List UInt8)) (j20:Unit→Option Bool) (k15:Int→Option Bool):Int→Option Bool:=fun x8=>
  (bif (decide (x8<(x0.2.length:Int))) then
  (aI (0≤x8∧x8<(x0.2.length:Int)) <|
  (aH (cN ((at' x0.2 x8).length:Int) 1 1000) fun (y11:Bool)=>
  (bif (!y11) then
  some false
  else
  k15 (W (x8+1)))))
  else
  j20 ())

def iL (x0:Int×List (List UInt8)):Option Bool:=
  (aH (cN x0.1 1 1000000000) fun (y6:Bool)=>
  (bif (bif (!y6) then true else (decide (60<(x0.2.length:Int)))) then
  some false
  else
  (aY (fun (_:Unit)=>
  some true) fun j20=>
  (bI (jQ x0 j20) bO 0))))

theorem oK (x0:Int×List (List UInt8)) (a2:Option Addr) (c3:Nat) (r:Bool) (h:iL x0=some r):
  FC Tryz.prog 34 [.agg #[.int .i64 x0.1,.slice a2 x0.2.length c3]] [⟨.str,⟨a2,x0.2.length,c3⟩,x0.2⟩] (fun _:Unit=>True) (fun _=>.bool r) (fun _=>[]):=
 by
  refine FC.of (T:=TTx) Tryz.call34 Tryz.func34 E E fun w0=>?_
  unfold iL at h
  refine aR aA 2 [] [2] [(1,.bp 2 0)] (.new 2 36 [.int .i64 x0.1,.slice a2 x0.2.length c3] .nil) ⟨⟨E,V⟩,(Bs E E)⟩ E E (JS.seq (JS.seq (JS.region (aB aA 2 [] [] [(6,.v (I x0.1))] _ E ⟨⟨E,V⟩,E⟩ ?_))))
  refine bnw h fun y6 hy7 h=>JO.call E E E E (dL x0.1 1 1000000000 _ hy7) E [] E E fun _ _=>aB aA 7 [] [] [(14,.v (.bool (bif (!y6) then true else (decide (60<(x0.2.length:Int))))))] _ E ⟨⟨E,V⟩,E⟩ (aC E ?_)
  refine aL E h (fun h=>?_) (fun h=>?_)
  ·
   refine aD aA 1 [(2,.v (.bool false))] ⟨⟨E,V⟩,E⟩ E E ?_
   cases h
   exact JS.ret aA () V E E [] E
  refine JS.skip (JS.seq (aD aA 4 [(16,.v (.slice a2 x0.2.length c3)),(17,.v (I (x0.2.length:Int))),(18,.v (I 0))] ⟨(Es E),E⟩ E E ?_))
  obtain ⟨j20,hj29,h⟩:=aO h
  refine bF (ι:=Unit) ⟨fun _=>j20 ()=some r,fun _=>[],fun _=>.nil,fun _=>[],fun _=>[],fun _=>0⟩ ?_ ?_
  ·
   refine JS.loop (ι:=Nat×Int) ⟨fun z=>bI (jQ x0 j20) z.1 z.2=some r,fun z=>[(16,.v (.slice a2 x0.2.length c3)),(17,.v (I (x0.2.length:Int))),(18,.v (I z.2))],fun z=>.nil,fun z=>[⟨.str,⟨a2,x0.2.length,c3⟩,x0.2⟩],fun z=>[],fun z=>z.1⟩ (bO,0) h (Es E) V [0] E [] E ?_
   rintro ⟨n16,x8⟩ h
   obtain ⟨n16,rfl,h⟩:=bM h
   rw [jQ] at h
   refine aD aA 1 [(19,.v (.bool (decide (x8<(x0.2.length:Int)))))] ⟨⟨E,V⟩,E⟩ E E (JS.seq ?_)
   refine aL E h (fun h=>?_) (fun h=>?_)
   ·
    refine JS.skip (JS.seq (JS.block (JS.seq (JS.region (bT 0 E fun hs26=>?_)))))
    obtain ⟨g10,h⟩:=aF h
    refine aB aA 1 [] [] [(20,.ep ⟨a2,x0.2.length,c3⟩ (Int.toNat x8*1))] _ E ⟨hs26.ix g10,⟨E,V⟩,E⟩ (JO.load aA E E E E E E E 0 E E (Int.toNat x8) 0 (at' x0.2 x8) ⟨bD g10,E⟩ E E (aB aA 1 [] [] [(4,.v (.string (bs (at' x0.2 x8))))] _ E ⟨⟨E,V⟩,E⟩ (aC E (JS.seq (JS.region (aB aA 2 [] [] [(23,.v (I ((at' x0.2 x8).length:Int)))] _ E ⟨⟨E,V⟩,E⟩ ?_))))))
    refine bnw h fun y11 hy12 h=>JO.call E E E E (dL ((at' x0.2 x8).length:Int) 1 1000 _ hy12) E [] E E fun _ _=>aB aA 1 [] [] [(25,.v (.bool (!y11)))] _ E ⟨⟨E,V⟩,E⟩ (aC E ?_)
    refine aL E h (fun h=>?_) (fun h=>?_)
    ·
     refine aD aA 1 [(2,.v (.bool false))] ⟨⟨E,V⟩,E⟩ E E ?_
     cases h
     exact JS.ret aA () V E E [] E
    refine JS.skip (aV (cW aA 2 [(W (x8+1))] [] [(18,.v (I (W (x8+1))))] _ ⟨⟨V,E⟩,⟨E,V⟩,E⟩ E E (bZ (n16,(W (x8+1))) h (Nat.lt_succ_self _) (Es E) V [0] E [] E)))
   refine JS.exit E (aN () h V V [] E [] E)
  rintro _ h
  subst hj29
  refine aD aA 1 [(2,.v (.bool true))] ⟨⟨E,V⟩,E⟩ E E ?_
  cases h
  exact JS.ret aA () V E E [] E

def cG (x0:List Int):Option (List Int):=
  (aI (([]:List Int).length+x0.length≤536870912) <|
  some (([]:List Int) ++ x0))

theorem cS (x0:List Int) (a2:Option Addr) (c3:Nat) (r:List Int) (h:cG x0=some r):
  FC Tryz.prog 25 [.slice a2 x0.length c3] [⟨(.int .i64),⟨a2,x0.length,c3⟩,x0⟩] (fun _:Option Addr×Nat=>True) (fun q=>.slice q.1 r.length q.2) (fun q=>[⟨(.int .i64),⟨q.1,r.length,q.2⟩,r⟩]):=
 by
  refine FC.of (T:=TTx) Tryz.call25 Tryz.func25 E E fun w0=>?_
  unfold cG at h
  refine aD aA 1 [] ⟨V,E⟩ E E (JS.seq (JS.region (aB aA 1 [] [] [(3,.v (.slice a2 x0.length c3))] _ E ⟨⟨E,V⟩,E⟩ ?_)))
  obtain ⟨g6,h⟩:=aF h
  refine aGi (.int .i64) Sl.nil E E (eN aA E E E E ⟨E,E,E,E,V,E,E,E,E⟩ E E E [0] E 0 E g6 E fun a7 c8=>aB aA 1 [] [] [(2,.v (.slice a7 (([]:List Int) ++ x0).length c8))] _ E ⟨⟨E,V⟩,E⟩ (aC E ?_))
  cases h
  exact JS.ret aA (a7,c8) V E E [0] E

def cM (x0:List Int×Int):Option (List Int×Int):=
  (aH (cG x0.1) fun (y6:List Int)=>
  some (y6,x0.2))

theorem dJ (x0:List Int×Int) (a2:Option Addr) (c3:Nat) (r:List Int×Int) (h:cM x0=some r):
  FC Tryz.prog 52 [.agg #[.slice a2 x0.1.length c3,.int .i64 x0.2]] [⟨(.int .i64),⟨a2,x0.1.length,c3⟩,x0.1⟩] (fun _:Option Addr×Nat=>True) (fun q=>.agg #[.slice q.1 r.1.length q.2,.int .i64 r.2]) (fun q=>[⟨(.int .i64),⟨q.1,r.1.length,q.2⟩,r.1⟩]):=
 by
  refine FC.of (T:=TTx) Tryz.call52 Tryz.func52 E E fun w0=>?_
  unfold cM at h
  refine aR aA 2 [] [2,3] [(1,.bp 2 0),(2,.bp 3 0)] (.new 2 25 [.slice a2 x0.1.length c3,.int .i64 x0.2] (.new 3 25 [.slice none 0 0,.int .i64 0] .nil)) ⟨(Es E),(Bs E E)⟩ E E (JS.seq ?_)
  refine bnw h fun y6 hy7 h=>bE E (.new 2 25 [.slice a2 x0.1.length c3,.int .i64 x0.2] .nil) [] [5,6] ⟨E,E,E,E,V⟩ E (fun be10=>?_)
  refine bV aA aG true 3 [0,1,3,4] E (by kernel_rfl) [] [(4,.v (.slice a2 x0.1.length c3)),(7,.v (I x0.2))] ⟨E,E,E,E,V⟩ [] E E (Es E) (JA.one 2 (by kernel_rfl) (JK.call E E E E (cS x0.1 a2 c3 _ hy7) E [0] E E ?_))
  rintro ⟨a8,c9⟩ -
  refine aJ ⟨E,E,E,E,V⟩ [] E (aT aA aG 1 [5] E (by kernel_rfl) [] [(8,.v (.agg #[.slice a8 y6.length c9,.int .i64 x0.2]))] E ⟨E,V⟩ (JA.one 6 (by kernel_rfl) (bA aA E E E E E E E E (aP E (bG (by kernel_rfl) (aX (B':=(.new 3 25 [.slice a8 y6.length c9,.int .i64 x0.2] .nil)) (Bs E E) ?_))))))
  cases h
  exact JS.ret aA (a8,c9) V E E [0] E

def gH (x0:List (List Int)) (j39:(List (List Int))→Option (List (List Int))) (k32:(Int×List (List Int))→Option (List (List Int))):(Int×List (List Int))→Option (List (List Int)):=fun (x6,x10)=>
  (bif (decide (x6<(x0.length:Int))) then
  (aI (0≤x6∧x6<(x0.length:Int)) <|
  (aH (cG (at' x0 x6)) fun (y20:List Int)=>
  (aI (x10.length+([y20]:List (List Int)).length≤536870912) <|
  k32 ((W (x6+1)),(x10 ++ ([y20]:List (List Int)))))))
  else
  j39 x10)

def gA (x0:List (List Int)):Option (List (List Int)):=
  (aY (fun (x36:List (List Int))=>
  some x36) fun j39=>
  (bI (gH x0 j39) bO (0,([]:List (List Int)))))

theorem oS (x0:List (List Int)) (a2:Option Addr) (c3:Nat) (r:List (List Int)) (h:gA x0=some r):
  FC Tryz.prog 53 [.agg #[.slice a2 x0.length c3]] [⟨(.sl (.int .i64)),⟨a2,x0.length,c3⟩,x0⟩] (fun _:Option Addr×Nat=>True) (fun q=>.agg #[.slice q.1 r.length q.2]) (fun q=>[⟨(.sl (.int .i64)),⟨q.1,r.length,q.2⟩,r⟩]):=
 by
  refine FC.of (T:=TTx) Tryz.call53 Tryz.func53 E E fun w0=>?_
  unfold gA at h
  refine aR aA 2 [] [2,3] [(1,.bp 2 0),(2,.bp 3 0)] (.new 2 28 [.slice a2 x0.length c3] (.new 3 28 [.slice none 0 0] .nil)) ⟨(Es E),(Bs E E)⟩ E E (aR aA 1 [] [4] [(3,.bp 4 0)] (.new 2 28 [.slice a2 x0.length c3] (.new 3 28 [.slice none 0 0] (.new 4 28 [.slice none 0 0] .nil))) ⟨⟨E,V⟩,(Bs E E)⟩ E E (JS.seq (aD aA 4 [(7,.v (.slice a2 x0.length c3)),(8,.v (I (x0.length:Int))),(9,.v (I 0))] ⟨(Es E),E⟩ E E ?_)))
  obtain ⟨j39,hj45,h⟩:=aO h
  refine bF (ι:=List (List Int)×Option Addr×Nat) ⟨fun z=>j39 z.1=some r,fun z=>[(2,.bp 3 0),(3,.bp 4 0)],fun z=>(.new 3 28 [.slice none 0 0] (.new 4 28 [.slice z.2.1 z.1.length z.2.2] .nil)),fun z=>[],fun z=>[⟨(.sl (.int .i64)),⟨z.2.1,z.1.length,z.2.2⟩,z.1⟩],fun z=>0⟩ ?_ ?_
  ·
   refine aW (.sl (.int .i64)) Sl.nil E E (JS.loop (ι:=Nat×Int×List (List Int)×Option Addr×Nat) ⟨fun z=>bI (gH x0 j39) z.1 (z.2.1,z.2.2.1)=some r,fun z=>[(2,.bp 3 0),(3,.bp 4 0),(7,.v (.slice a2 x0.length c3)),(8,.v (I (x0.length:Int))),(9,.v (I z.2.1))],fun z=>(.new 3 28 [.slice none 0 0] (.new 4 28 [.slice z.2.2.2.1 z.2.2.1.length (Q4 z)] .nil)),fun z=>[⟨(.sl (.int .i64)),⟨a2,x0.length,c3⟩,x0⟩],fun z=>[⟨(.sl (.int .i64)),⟨z.2.2.2.1,z.2.2.1.length,(Q4 z)⟩,z.2.2.1⟩],fun z=>z.1⟩ (bO,0,([]:List (List Int)),none,0) h (Es E) (Bs E E) [0] E [0] E ?_)
   rintro ⟨n33,x6,x10,a11,c12⟩ h
   obtain ⟨n33,rfl,h⟩:=bM h
   rw [gH] at h
   refine aD aA 1 [(10,.v (.bool (decide (x6<(x0.length:Int)))))] ⟨⟨E,V⟩,E⟩ E E (JS.seq ?_)
   refine aL E h (fun h=>?_) (fun h=>?_)
   ·
    refine JS.skip (JS.seq (JS.block (JS.seq (JS.region (bT 0 E fun hs43=>?_)))))
    obtain ⟨g14,h⟩:=aF h
    refine aB aA 1 [] [] [(11,.ep ⟨a2,x0.length,c3⟩ (Int.toNat x6*1))] _ E ⟨hs43.ix g14,⟨E,V⟩,E⟩ (mV 0 E (Int.toNat x6) (at' x0 x6) E fun a15 c16 ys17 hl18 hy19=>dX aA E E E E E E 0 E E (Int.toNat x6) 0 (Sl.v ⟨a15,(at' x0 x6).length,c16⟩) ⟨hy19 (rJ g14),E⟩ E E E (aS aA 2 [] [22] [(5,.bp 22 0)] (.new 3 28 [.slice none 0 0] (.new 4 28 [.slice a11 x10.length c12] (.new 22 66 [.slice a15 (at' x0 x6).length c16] .nil))) E ⟨⟨E,V⟩,(Bs E E)⟩ (aC E ?_)))
    obtain ⟨y20,hy21,h⟩:=aE h
    obtain ⟨g25,h⟩:=aF h
    refine bE E (.new 4 28 [.slice a11 x10.length c12] (.new 22 66 [.slice a15 (at' x0 x6).length c16] .nil)) [] [7,8,9] ⟨E,E,E,E,E,E,E,E,V⟩ E (fun be28=>?_)
    refine bV aA aG true 6 [0,1,2,3] E (by kernel_rfl) [] [(14,.v (.slice a11 x10.length c12)),(16,.v (.slice a15 (at' x0 x6).length c16))] ⟨E,E,E,E,E,E,E,E,V⟩ [] E E (Es E) (JA.one 4 (by kernel_rfl) (JK.call E E E E (cS (at' x0 x6) a15 c16 _ hy21) E [1] E E ?_))
    rintro ⟨a22,c23⟩ -
    refine aJ ⟨E,E,E,E,E,E,E,E,V⟩ [] E (bV aA aG true 4 [5] E (by kernel_rfl) [] [(18,.v (.agg #[.slice a22 y20.length c23]))] ⟨E,E,E,E,E,E,E,E,V⟩ [] E E ⟨E,V⟩ (JA.one 6 (by kernel_rfl) (JK.buildSlice aA E E E E E E E E E E E [0] E (.sl (.int .i64)) [y20] ⟨E,E,E⟩ E E fun a24=>aJ ⟨E,E,E,E,E,E,E,E,V⟩ [] E (JA.one 7 (by kernel_rfl) (iP aA E E E E ⟨E,E,E,E,V,E,E,E,E⟩ E E [1,0] E g25 E fun a26 c27=>aP E (aT aA aG 1 [8] E (by kernel_rfl) [] [(21,.bp 4 0)] E ⟨E,V⟩ (JA.one 9 (by kernel_rfl) (bA aA E E E E E E E E (aP E (bG (by kernel_rfl) (aX (B':=(.new 3 28 [.slice none 0 0] (.new 4 28 [.slice a26 (x10 ++ ([y20]:List (List Int))).length c27] .nil))) (Bs E E) (aV (cW aA 2 [(W (x6+1))] [] [(9,.v (I (W (x6+1))))] _ ⟨⟨V,E⟩,⟨E,V⟩,E⟩ E E (bZ (n33,(W (x6+1)),(x10 ++ ([y20]:List (List Int))),a26,c27) h (Nat.lt_succ_self _) (Es E) (Bs E E) [2] E [0] E))))))))))))))
   refine JS.exit E (aN (x10,a11,c12) h (Es E) (Bs E E) [] E [0] E)
  rintro ⟨x36,a37,c38⟩ h
  subst hj45
  refine aR aA 2 [] [] [] (.new 3 28 [.slice a37 x36.length c38] .nil) ⟨V,(Bs E E)⟩ E E ?_
  cases h
  exact JS.ret aA (a37,c38) V E E [0] E

def gG (x0:List (List Int×Int)) (j39:(List (List Int×Int))→Option (List (List Int×Int))) (k32:(Int×(List (List Int×Int)))→Option (List (List Int×Int))):(Int×(List (List Int×Int)))→Option (List (List Int×Int)):=fun (x6,x10)=>
  (bif (decide (x6<(x0.length:Int))) then
  (aI (0≤x6∧x6<(x0.length:Int)) <|
  (aH (cM ((at' x0 x6).1,(at' x0 x6).2)) fun (y20:List Int×Int)=>
  (aI (x10.length+([y20]:List (List Int×Int)).length≤536870912) <|
  k32 ((W (x6+1)),(x10 ++ ([y20]:List (List Int×Int)))))))
  else
  j39 x10)

def fZ (x0:List (List Int×Int)):Option (List (List Int×Int)):=
  (aY (fun (x36:List (List Int×Int))=>
  some x36) fun j39=>
  (bI (gG x0 j39) bO (0,([]:List (List Int×Int)))))

theorem oR (x0:List (List Int×Int)) (a2:Option Addr) (c3:Nat) (r:List (List Int×Int)) (h:fZ x0=some r):
  FC Tryz.prog 54 [.agg #[.slice a2 x0.length c3]] [⟨(.pair (.sl (.int .i64)) (.int .i64)),⟨a2,x0.length,c3⟩,x0⟩] (fun _:Option Addr×Nat=>True) (fun q=>.agg #[.slice q.1 r.length q.2]) (fun q=>[⟨(.pair (.sl (.int .i64)) (.int .i64)),⟨q.1,r.length,q.2⟩,r⟩]):=
 by
  refine FC.of (T:=TTx) Tryz.call54 Tryz.func54 E E fun w0=>?_
  unfold fZ at h
  refine aR aA 2 [] [2,3] [(1,.bp 2 0),(2,.bp 3 0)] (.new 2 31 [.slice a2 x0.length c3] (.new 3 31 [.slice none 0 0] .nil)) ⟨(Es E),(Bs E E)⟩ E E (aR aA 1 [] [4] [(3,.bp 4 0)] (.new 2 31 [.slice a2 x0.length c3] (.new 3 31 [.slice none 0 0] (.new 4 31 [.slice none 0 0] .nil))) ⟨⟨E,V⟩,(Bs E E)⟩ E E (JS.seq (aD aA 4 [(7,.v (.slice a2 x0.length c3)),(8,.v (I (x0.length:Int))),(9,.v (I 0))] ⟨(Es E),E⟩ E E ?_)))
  obtain ⟨j39,hj45,h⟩:=aO h
  refine bF (ι:=(List (List Int×Int))×Option Addr×Nat) ⟨fun z=>j39 z.1=some r,fun z=>[(2,.bp 3 0),(3,.bp 4 0)],fun z=>(.new 3 31 [.slice none 0 0] (.new 4 31 [.slice z.2.1 z.1.length z.2.2] .nil)),fun z=>[],fun z=>[⟨(.pair (.sl (.int .i64)) (.int .i64)),⟨z.2.1,z.1.length,z.2.2⟩,z.1⟩],fun z=>0⟩ ?_ ?_
  ·
   refine aW (.pair (.sl (.int .i64)) (.int .i64)) Sl.nil E E (JS.loop (ι:=Nat×Int×(List (List Int×Int))×Option Addr×Nat) ⟨fun z=>bI (gG x0 j39) z.1 (z.2.1,z.2.2.1)=some r,fun z=>[(2,.bp 3 0),(3,.bp 4 0),(7,.v (.slice a2 x0.length c3)),(8,.v (I (x0.length:Int))),(9,.v (I z.2.1))],fun z=>(.new 3 31 [.slice none 0 0] (.new 4 31 [.slice z.2.2.2.1 z.2.2.1.length (Q4 z)] .nil)),fun z=>[⟨(.pair (.sl (.int .i64)) (.int .i64)),⟨a2,x0.length,c3⟩,x0⟩],fun z=>[⟨(.pair (.sl (.int .i64)) (.int .i64)),⟨z.2.2.2.1,z.2.2.1.length,(Q4 z)⟩,z.2.2.1⟩],fun z=>z.1⟩ (bO,0,([]:List (List Int×Int)),none,0) h (Es E) (Bs E E) [0] E [0] E ?_)
   rintro ⟨n33,x6,x10,a11,c12⟩ h
   obtain ⟨n33,rfl,h⟩:=bM h
   rw [gG] at h
   refine aD aA 1 [(10,.v (.bool (decide (x6<(x0.length:Int)))))] ⟨⟨E,V⟩,E⟩ E E (JS.seq ?_)
   refine aL E h (fun h=>?_) (fun h=>?_)
   ·
    refine JS.skip (JS.seq (JS.block (JS.seq (JS.region (bT 0 E fun hs43=>?_)))))
    obtain ⟨g14,h⟩:=aF h
    refine aB aA 1 [] [] [(11,.ep ⟨a2,x0.length,c3⟩ (Int.toNat x6*2))] _ E ⟨hs43.ix g14,⟨E,V⟩,E⟩ (mV 0 E (Int.toNat x6) (at' x0 x6) E fun a15 c16 ys17 hl18 hy19=>dX aA E E E E E E 0 E E (Int.toNat x6) 0 ((Sl.v ⟨a15,((at' x0 x6).1).length,c16⟩),(at' x0 x6).2) ⟨hy19 (rJ g14),E⟩ E E E (aS aA 2 [] [22] [(5,.bp 22 0)] (.new 3 31 [.slice none 0 0] (.new 4 31 [.slice a11 x10.length c12] (.new 22 25 [.slice a15 ((at' x0 x6).1).length c16,.int .i64 (at' x0 x6).2] .nil))) E ⟨⟨E,V⟩,(Bs E E)⟩ (aC E ?_)))
    obtain ⟨y20,hy21,h⟩:=aE h
    obtain ⟨g25,h⟩:=aF h
    refine bE E (.new 4 31 [.slice a11 x10.length c12] (.new 22 25 [.slice a15 ((at' x0 x6).1).length c16,.int .i64 (at' x0 x6).2] .nil)) [] [5,6,7] ⟨E,E,E,E,E,E,E,E,V⟩ E (fun be28=>?_)
    refine bV aA aG true 5 [0,1,2] E (by kernel_rfl) [] [(14,.v (.slice a11 x10.length c12)),(15,.v (.agg #[.slice a15 ((at' x0 x6).1).length c16,.int .i64 (at' x0 x6).2]))] ⟨E,E,E,E,E,E,E,E,V⟩ [] E E (Es E) (JA.one 3 (by kernel_rfl) (JK.call E E E E (dJ ((at' x0 x6).1,(at' x0 x6).2) a15 c16 _ hy21) E [1] E E ?_))
    rintro ⟨a22,c23⟩ -
    refine aJ ⟨E,E,E,E,E,E,E,E,V⟩ [] E (JA.one 4 (by kernel_rfl) (JK.buildSlice aA E E E E E E E E E E E [0] E (.pair (.sl (.int .i64)) (.int .i64)) [y20] ⟨E,E,E⟩ E E fun a24=>aJ ⟨E,E,E,E,E,E,E,E,V⟩ [] E (JA.one 5 (by kernel_rfl) (iP aA E E E E ⟨E,E,E,E,V,E,E,E,E⟩ E E [1,0] E g25 E fun a26 c27=>aP E (aT aA aG 1 [6] E (by kernel_rfl) [] [(19,.bp 4 0)] E ⟨E,V⟩ (JA.one 7 (by kernel_rfl) (bA aA E E E E E E E E (aP E (bG (by kernel_rfl) (aX (B':=(.new 3 31 [.slice none 0 0] (.new 4 31 [.slice a26 (x10 ++ ([y20]:List (List Int×Int))).length c27] .nil))) (Bs E E) (aV (cW aA 2 [(W (x6+1))] [] [(9,.v (I (W (x6+1))))] _ ⟨⟨V,E⟩,⟨E,V⟩,E⟩ E E (bZ (n33,(W (x6+1)),(x10 ++ ([y20]:List (List Int×Int))),a26,c27) h (Nat.lt_succ_self _) (Es E) (Bs E E) [2] E [0] E)))))))))))))
   refine JS.exit E (aN (x10,a11,c12) h (Es E) (Bs E E) [] E [0] E)
  rintro ⟨x36,a37,c38⟩ h
  subst hj45
  refine aR aA 2 [] [] [] (.new 3 31 [.slice a37 x36.length c38] .nil) ⟨V,(Bs E E)⟩ E E ?_
  cases h
  exact JS.ret aA (a37,c38) V E E [0] E

end
end Go.Eng
