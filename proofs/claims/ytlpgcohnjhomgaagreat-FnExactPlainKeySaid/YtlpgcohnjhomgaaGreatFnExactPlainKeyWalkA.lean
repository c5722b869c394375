/- The walks of the functions that FnExactPlainKey reaches: what each computes, as a plain function (M_..), and that the model computes it (ok_..). Condition of each: that the plain function answers. -/
import Derived.Test.YtlpgcohnjhomgaaGreatEngB
import Derived.Test.YtlpgcohnjhomgaaGreatChecked
set_option linter.unusedVariables false
set_option linter.unusedSimpArgs false
namespace Go.Eng
open Go Go.Proofs
noncomputable section

abbrev EdQ := Bool × Int × (List Int × Int) × Int × Int × Int × Int × Int × Int × Int × List (List Int) × (List (List Int × Int)) × Int × (List Int × Int) × List Int × Int × List Int × Int
@[reducible] def cl32 (x : Bool × Int × (List Int × Int) × Int × Int × Int × Int × Int × Int × Int × List (List Int) × (List (List Int × Int)) × Int × (List Int × Int) × List Int × Int × List Int × Int) (a1 : Option Addr) (c1 : Nat) (a2 : Option Addr) (c2 : Nat) (a3 : Option Addr) (c3 : Nat) (a4 : Option Addr) (c4 : Nat) (a5 : Option Addr) (c5 : Nat) (a6 : Option Addr) (c6 : Nat) : List Value := [.bool x.1, .int .i64 x.2.1, .slice a1 x.2.2.1.1.length c1, .int .i64 x.2.2.1.2, .int .i64 x.2.2.2.1, .int .i64 x.2.2.2.2.1, .int .i64 x.2.2.2.2.2.1, .int .i64 x.2.2.2.2.2.2.1, .int .i64 x.2.2.2.2.2.2.2.1, .int .i64 x.2.2.2.2.2.2.2.2.1, .int .i64 x.2.2.2.2.2.2.2.2.2.1, .slice a2 x.2.2.2.2.2.2.2.2.2.2.1.length c2, .slice a3 x.2.2.2.2.2.2.2.2.2.2.2.1.length c3, .int .i64 x.2.2.2.2.2.2.2.2.2.2.2.2.1, .slice a4 x.2.2.2.2.2.2.2.2.2.2.2.2.2.1.1.length c4, .int .i64 x.2.2.2.2.2.2.2.2.2.2.2.2.2.1.2, .slice a5 x.2.2.2.2.2.2.2.2.2.2.2.2.2.2.1.length c5, .int .i64 x.2.2.2.2.2.2.2.2.2.2.2.2.2.2.2.1, .slice a6 x.2.2.2.2.2.2.2.2.2.2.2.2.2.2.2.2.1.length c6, .int .i64 x.2.2.2.2.2.2.2.2.2.2.2.2.2.2.2.2.2]
@[reducible] def cl46 (x : Bool × Int × (List Int × Int) × Int × Int × Int × Int × Int × Int × Int × List (List Int) × (List (List Int × Int)) × Int × (List Int × Int) × List Int × Int × List Int × Int) (a1 : Option Addr) (c1 : Nat) (a2 : Option Addr) (c2 : Nat) (a3 : Option Addr) (c3 : Nat) (a4 : Option Addr) (c4 : Nat) (a5 : Option Addr) (c5 : Nat) (a6 : Option Addr) (c6 : Nat) : List Value := [.bool x.1, .int .i64 x.2.1, .slice a1 x.2.2.1.1.length c1, .int .i64 x.2.2.1.2, .int .i64 x.2.2.2.1, .int .i64 x.2.2.2.2.1, .int .i64 x.2.2.2.2.2.1, .int .i64 x.2.2.2.2.2.2.1, .int .i64 x.2.2.2.2.2.2.2.1, .int .i64 x.2.2.2.2.2.2.2.2.1, .int .i64 x.2.2.2.2.2.2.2.2.2.1, .slice a2 x.2.2.2.2.2.2.2.2.2.2.1.length c2, .slice a3 x.2.2.2.2.2.2.2.2.2.2.2.1.length c3, .int .i64 x.2.2.2.2.2.2.2.2.2.2.2.2.1, .slice a4 x.2.2.2.2.2.2.2.2.2.2.2.2.2.1.1.length c4, .int .i64 x.2.2.2.2.2.2.2.2.2.2.2.2.2.1.2, .slice a5 x.2.2.2.2.2.2.2.2.2.2.2.2.2.2.1.length c5, .int .i64 x.2.2.2.2.2.2.2.2.2.2.2.2.2.2.2.1, .slice a6 x.2.2.2.2.2.2.2.2.2.2.2.2.2.2.2.2.1.length c6, .int .i64 x.2.2.2.2.2.2.2.2.2.2.2.2.2.2.2.2.2]
theorem E {α : Sort _} {a : α} : a = a := rfl
theorem V : True := trivial
@[reducible] def I (x : Int) : Value := .int .i64 x
abbrev Q4 {A0 A1 A2 A3 A4 : Type} (x : A0 × A1 × A2 × A3 × A4) : A4 := x.2.2.2.2
abbrev Q8 {A0 A1 A2 A3 A4 A5 A6 A7 A8 : Type} (x : A0 × A1 × A2 × A3 × A4 × A5 × A6 × A7 × A8) : A8 := x.2.2.2.2.2.2.2.2
abbrev Q12 {A0 A1 A2 A3 A4 A5 A6 A7 A8 A9 A10 A11 A12 : Type} (x : A0 × A1 × A2 × A3 × A4 × A5 × A6 × A7 × A8 × A9 × A10 × A11 × A12) : A12 := x.2.2.2.2.2.2.2.2.2.2.2.2
abbrev Q16 {A0 A1 A2 A3 A4 A5 A6 A7 A8 A9 A10 A11 A12 A13 A14 A15 A16 : Type} (x : A0 × A1 × A2 × A3 × A4 × A5 × A6 × A7 × A8 × A9 × A10 × A11 × A12 × A13 × A14 × A15 × A16) : A16 := x.2.2.2.2.2.2.2.2.2.2.2.2.2.2.2.2
abbrev Q20 {A0 A1 A2 A3 A4 A5 A6 A7 A8 A9 A10 A11 A12 A13 A14 A15 A16 A17 A18 A19 A20 : Type} (x : A0 × A1 × A2 × A3 × A4 × A5 × A6 × A7 × A8 × A9 × A10 × A11 × A12 × A13 × A14 × A15 × A16 × A17 × A18 × A19 × A20) : A20 := x.2.2.2.2.2.2.2.2.2.2.2.2.2.2.2.2.2.2.2.2
abbrev Q24 {A0 A1 A2 A3 A4 A5 A6 A7 A8 A9 A10 A11 A12 A13 A14 A15 A16 A17 A18 A19 A20 A21 A22 A23 A24 : Type} (x : A0 × A1 × A2 × A3 × A4 × A5 × A6 × A7 × A8 × A9 × A10 × A11 × A12 × A13 × A14 × A15 × A16 × A17 × A18 × A19 × A20 × A21 × A22 × A23 × A24) : A24 := x.2.2.2.2.2.2.2.2.2.2.2.2.2.2.2.2.2.2.2.2.2.2.2.2
abbrev Q28 {A0 A1 A2 A3 A4 A5 A6 A7 A8 A9 A10 A11 A12 A13 A14 A15 A16 A17 A18 A19 A20 A21 A22 A23 A24 A25 A26 A27 A28 : Type} (x : A0 × A1 × A2 × A3 × A4 × A5 × A6 × A7 × A8 × A9 × A10 × A11 × A12 × A13 × A14 × A15 × A16 × A17 × A18 × A19 × A20 × A21 × A22 × A23 × A24 × A25 × A26 × A27 × A28) : A28 := x.2.2.2.2.2.2.2.2.2.2.2.2.2.2.2.2.2.2.2.2.2.2.2.2.2.2.2.2
abbrev Q32 {A0 A1 A2 A3 A4 A5 A6 A7 A8 A9 A10 A11 A12 A13 A14 A15 A16 A17 A18 A19 A20 A21 A22 A23 A24 A25 A26 A27 A28 A29 A30 A31 A32 : Type} (x : A0 × A1 × A2 × A3 × A4 × A5 × A6 × A7 × A8 × A9 × A10 × A11 × A12 × A13 × A14 × A15 × A16 × A17 × A18 × A19 × A20 × A21 × A22 × A23 × A24 × A25 × A26 × A27 × A28 × A29 × A30 × A31 × A32) : A32 := x.2.2.2.2.2.2.2.2.2.2.2.2.2.2.2.2.2.2.2.2.2.2.2.2.2.2.2.2.2.2.2.2
@[reducible] def cz32 : List Value := cl32 (false, 0, ([], 0), 0, 0, 0, 0, 0, 0, 0, [], [], 0, ([], 0), [], 0, ([], 0)) none 0 none 0 none 0 none 0 none 0 none 0
@[reducible] def cz46 : List Value := cl46 (false, 0, ([], 0), 0, 0, 0, 0, 0, 0, 0, [], [], 0, ([], 0), [], 0, ([], 0)) none 0 none 0 none 0 none 0 none 0 none 0
@[reducible] def fl32 (x : Bool × Int × (List Int × Int) × Int × Int × Int × Int × Int × Int × Int × List (List Int) × (List (List Int × Int)) × Int × (List Int × Int) × List Int × Int × List Int × Int) (a0 : Option Addr) (c0 : Nat) (a1 : Option Addr) (c1 : Nat) (a2 : Option Addr) (c2 : Nat) (a3 : Option Addr) (c3 : Nat) (a4 : Option Addr) (c4 : Nat) (a5 : Option Addr) (c5 : Nat) (l : List Fact) : List Fact := ⟨(.int .i64), ⟨a0, x.2.2.1.1.length, c0⟩, x.2.2.1.1⟩ :: ⟨(.sl (.int .i64)), ⟨a1, x.2.2.2.2.2.2.2.2.2.2.1.length, c1⟩, x.2.2.2.2.2.2.2.2.2.2.1⟩ :: ⟨(.pair (.sl (.int .i64)) (.int .i64)), ⟨a2, x.2.2.2.2.2.2.2.2.2.2.2.1.length, c2⟩, x.2.2.2.2.2.2.2.2.2.2.2.1⟩ :: ⟨(.int .i64), ⟨a3, x.2.2.2.2.2.2.2.2.2.2.2.2.2.1.1.length, c3⟩, x.2.2.2.2.2.2.2.2.2.2.2.2.2.1.1⟩ :: ⟨(.int .i64), ⟨a4, x.2.2.2.2.2.2.2.2.2.2.2.2.2.2.1.length, c4⟩, x.2.2.2.2.2.2.2.2.2.2.2.2.2.2.1⟩ :: ⟨(.int .i64), ⟨a5, x.2.2.2.2.2.2.2.2.2.2.2.2.2.2.2.2.1.length, c5⟩, x.2.2.2.2.2.2.2.2.2.2.2.2.2.2.2.2.1⟩ :: l
@[reducible] def fl46 (x : Bool × Int × (List Int × Int) × Int × Int × Int × Int × Int × Int × Int × List (List Int) × (List (List Int × Int)) × Int × (List Int × Int) × List Int × Int × List Int × Int) (a0 : Option Addr) (c0 : Nat) (a1 : Option Addr) (c1 : Nat) (a2 : Option Addr) (c2 : Nat) (a3 : Option Addr) (c3 : Nat) (a4 : Option Addr) (c4 : Nat) (a5 : Option Addr) (c5 : Nat) (l : List Fact) : List Fact := ⟨(.int .i64), ⟨a0, x.2.2.1.1.length, c0⟩, x.2.2.1.1⟩ :: ⟨(.sl (.int .i64)), ⟨a1, x.2.2.2.2.2.2.2.2.2.2.1.length, c1⟩, x.2.2.2.2.2.2.2.2.2.2.1⟩ :: ⟨(.pair (.sl (.int .i64)) (.int .i64)), ⟨a2, x.2.2.2.2.2.2.2.2.2.2.2.1.length, c2⟩, x.2.2.2.2.2.2.2.2.2.2.2.1⟩ :: ⟨(.int .i64), ⟨a3, x.2.2.2.2.2.2.2.2.2.2.2.2.2.1.1.length, c3⟩, x.2.2.2.2.2.2.2.2.2.2.2.2.2.1.1⟩ :: ⟨(.int .i64), ⟨a4, x.2.2.2.2.2.2.2.2.2.2.2.2.2.2.1.length, c4⟩, x.2.2.2.2.2.2.2.2.2.2.2.2.2.2.1⟩ :: ⟨(.int .i64), ⟨a5, x.2.2.2.2.2.2.2.2.2.2.2.2.2.2.2.2.1.length, c5⟩, x.2.2.2.2.2.2.2.2.2.2.2.2.2.2.2.2.1⟩ :: l
def TTx : TT := [
  (2, ⟨.int .i64, 1, 8, [.int .i64 0]⟩),
  (3, ⟨.int .i64, 1, 8, [.int .i64 0]⟩),
  (4, ⟨.bool, 1, 1, [.bool false]⟩),
  (5, ⟨.int .u8, 1, 1, [.int .u8 0]⟩),
  (6, ⟨.int .u8, 1, 1, [.int .u8 0]⟩),
  (7, ⟨.struct [(0, 2), (1, 3), (2, 4), (3, 6)], 4, 24, [.int .i64 0, .int .i64 0, .bool false, .int .u8 0]⟩),
  (8, ⟨.struct [(0, 2), (1, 3), (2, 4), (3, 6)], 4, 24, [.int .i64 0, .int .i64 0, .bool false, .int .u8 0]⟩),
  (9, ⟨.str, 1, 16, [.string ByteArray.empty]⟩),
  (10, ⟨.str, 1, 16, [.string ByteArray.empty]⟩),
  (11, ⟨.str, 1, 16, [.string ByteArray.empty]⟩),
  (12, ⟨.int .u64, 1, 8, [.int .u64 0]⟩),
  (13, ⟨.struct [(0, 9), (1, 12)], 2, 24, [.string ByteArray.empty, .int .u64 0]⟩),
  (14, ⟨.struct [(0, 9), (1, 12)], 2, 24, [.string ByteArray.empty, .int .u64 0]⟩),
  (21, ⟨.int .i32, 1, 4, [.int .i32 0]⟩),
  (22, ⟨.slice 3, 1, 24, [.slice none 0 0]⟩),
  (23, ⟨.struct [(0, 22), (1, 3)], 2, 32, [.slice none 0 0, .int .i64 0]⟩),
  (24, ⟨.struct [(0, 22), (1, 3)], 2, 32, [.slice none 0 0, .int .i64 0]⟩),
  (25, ⟨.slice 193, 1, 24, [.slice none 0 0]⟩),
  (26, ⟨.struct [(0, 25)], 1, 24, [.slice none 0 0]⟩),
  (27, ⟨.struct [(0, 25)], 1, 24, [.slice none 0 0]⟩),
  (28, ⟨.slice 24, 1, 24, [.slice none 0 0]⟩),
  (29, ⟨.struct [(0, 28)], 1, 24, [.slice none 0 0]⟩),
  (30, ⟨.struct [(0, 28)], 1, 24, [.slice none 0 0]⟩),
  (31, ⟨.struct [(0, 4), (1, 3), (2, 24), (4, 3), (5, 3), (6, 3), (7, 3), (8, 3), (9, 3), (10, 3), (11, 27), (12, 30), (13, 3), (14, 24), (16, 22), (17, 3), (18, 24)], 20, 256, [.bool false, .int .i64 0, .slice none 0 0, .int .i64 0, .int .i64 0, .int .i64 0, .int .i64 0, .int .i64 0, .int .i64 0, .int .i64 0, .int .i64 0, .slice none 0 0, .slice none 0 0, .int .i64 0, .slice none 0 0, .int .i64 0, .slice none 0 0, .int .i64 0, .slice none 0 0, .int .i64 0]⟩),
  (32, ⟨.struct [(0, 4), (1, 3), (2, 24), (4, 3), (5, 3), (6, 3), (7, 3), (8, 3), (9, 3), (10, 3), (11, 27), (12, 30), (13, 3), (14, 24), (16, 22), (17, 3), (18, 24)], 20, 256, [.bool false, .int .i64 0, .slice none 0 0, .int .i64 0, .int .i64 0, .int .i64 0, .int .i64 0, .int .i64 0, .int .i64 0, .int .i64 0, .int .i64 0, .slice none 0 0, .slice none 0 0, .int .i64 0, .slice none 0 0, .int .i64 0, .slice none 0 0, .int .i64 0, .slice none 0 0, .int .i64 0]⟩),
  (33, ⟨.slice 9, 1, 24, [.slice none 0 0]⟩),
  (34, ⟨.struct [(0, 3), (1, 33)], 2, 32, [.int .i64 0, .slice none 0 0]⟩),
  (35, ⟨.struct [(0, 3), (1, 33)], 2, 32, [.int .i64 0, .slice none 0 0]⟩),
  (38, ⟨.struct [(0, 22), (1, 3)], 2, 32, [.slice none 0 0, .int .i64 0]⟩),
  (39, ⟨.slice 174, 1, 24, [.slice none 0 0]⟩),
  (40, ⟨.struct [(0, 39)], 1, 24, [.slice none 0 0]⟩),
  (41, ⟨.struct [(0, 39)], 1, 24, [.slice none 0 0]⟩),
  (42, ⟨.slice 38, 1, 24, [.slice none 0 0]⟩),
  (43, ⟨.struct [(0, 42)], 1, 24, [.slice none 0 0]⟩),
  (44, ⟨.struct [(0, 42)], 1, 24, [.slice none 0 0]⟩),
  (45, ⟨.struct [(0, 4), (1, 3), (2, 38), (4, 3), (5, 3), (6, 3), (7, 3), (8, 3), (9, 3), (10, 3), (11, 41), (12, 44), (13, 3), (14, 38), (16, 22), (17, 3), (18, 38)], 20, 256, [.bool false, .int .i64 0, .slice none 0 0, .int .i64 0, .int .i64 0, .int .i64 0, .int .i64 0, .int .i64 0, .int .i64 0, .int .i64 0, .int .i64 0, .slice none 0 0, .slice none 0 0, .int .i64 0, .slice none 0 0, .int .i64 0, .slice none 0 0, .int .i64 0, .slice none 0 0, .int .i64 0]⟩),
  (46, ⟨.struct [(0, 4), (1, 3), (2, 38), (4, 3), (5, 3), (6, 3), (7, 3), (8, 3), (9, 3), (10, 3), (11, 41), (12, 44), (13, 3), (14, 38), (16, 22), (17, 3), (18, 38)], 20, 256, [.bool false, .int .i64 0, .slice none 0 0, .int .i64 0, .int .i64 0, .int .i64 0, .int .i64 0, .int .i64 0, .int .i64 0, .int .i64 0, .int .i64 0, .slice none 0 0, .slice none 0 0, .int .i64 0, .slice none 0 0, .int .i64 0, .slice none 0 0, .int .i64 0, .slice none 0 0, .int .i64 0]⟩),
  (50, ⟨.struct [(0, 3), (1, 33)], 2, 32, [.int .i64 0, .slice none 0 0]⟩),
  (60, ⟨.struct [(0, 3), (1, 3)], 2, 16, [.int .i64 0, .int .i64 0]⟩),
  (61, ⟨.struct [(0, 3), (1, 3)], 2, 16, [.int .i64 0, .int .i64 0]⟩),
  (64, ⟨.struct [(0, 3), (1, 3)], 2, 16, [.int .i64 0, .int .i64 0]⟩),
  (69, ⟨.slice 5, 1, 24, [.slice none 0 0]⟩),
  (73, ⟨.slice 64, 1, 24, [.slice none 0 0]⟩),
  (74, ⟨.slice 4, 1, 24, [.slice none 0 0]⟩),
  (163, ⟨.struct [(0, 69), (1, 3), (2, 3)], 3, 40, [.slice none 0 0, .int .i64 0, .int .i64 0]⟩),
  (164, ⟨.struct [(0, 69), (1, 3), (2, 3)], 3, 40, [.slice none 0 0, .int .i64 0, .int .i64 0]⟩),
  (173, ⟨.struct [(0, 22)], 1, 24, [.slice none 0 0]⟩),
  (174, ⟨.struct [(0, 22)], 1, 24, [.slice none 0 0]⟩),
  (193, ⟨.struct [(0, 22)], 1, 24, [.slice none 0 0]⟩),
  (197, ⟨.int .u64, 1, 8, [.int .u64 0]⟩),
  (214, ⟨.int .u32, 1, 4, [.int .u32 0]⟩),
  (225, ⟨.int .u8, 1, 1, [.int .u8 0]⟩),
  (226, ⟨.int .u8, 1, 1, [.int .u8 0]⟩),
  (229, ⟨.int .i32, 1, 4, [.int .i32 0]⟩),
  (230, ⟨.int .i32, 1, 4, [.int .i32 0]⟩)]

set_option maxRecDepth 100000 in
theorem ttOk : TTok Tryz.prog TTx := TTok.of (by
  simp only [TTx, List.forall_mem_cons]
  exact ⟨⟨⟨_, _, rfl, rfl, rfl, rfl, rfl⟩, rfl⟩, ⟨⟨_, _, rfl, rfl, rfl, rfl, rfl⟩, rfl⟩, ⟨⟨_, _, rfl, rfl, rfl, rfl, rfl⟩, rfl⟩, ⟨⟨_, _, rfl, rfl, rfl, rfl, rfl⟩, rfl⟩, ⟨⟨_, _, rfl, rfl, rfl, rfl, rfl⟩, rfl⟩, ⟨⟨_, _, rfl, rfl, rfl, rfl, rfl⟩, ⟨_, rfl, rfl⟩⟩, ⟨⟨_, _, rfl, rfl, rfl, rfl, rfl⟩, ⟨_, rfl, rfl⟩⟩, ⟨⟨_, _, rfl, rfl, rfl, rfl, rfl⟩, rfl⟩, ⟨⟨_, _, rfl, rfl, rfl, rfl, rfl⟩, rfl⟩, ⟨⟨_, _, rfl, rfl, rfl, rfl, rfl⟩, rfl⟩, ⟨⟨_, _, rfl, rfl, rfl, rfl, rfl⟩, rfl⟩, ⟨⟨_, _, rfl, rfl, rfl, rfl, rfl⟩, ⟨_, rfl, rfl⟩⟩, ⟨⟨_, _, rfl, rfl, rfl, rfl, rfl⟩, ⟨_, rfl, rfl⟩⟩, ⟨⟨_, _, rfl, rfl, rfl, rfl, rfl⟩, rfl⟩, ⟨⟨_, _, rfl, rfl, rfl, rfl, rfl⟩, rfl⟩, ⟨⟨_, _, rfl, rfl, rfl, rfl, rfl⟩, ⟨_, rfl, rfl⟩⟩, ⟨⟨_, _, rfl, rfl, rfl, rfl, rfl⟩, ⟨_, rfl, rfl⟩⟩, ⟨⟨_, _, rfl, rfl, rfl, rfl, rfl⟩, rfl⟩, ⟨⟨_, _, rfl, rfl, rfl, rfl, rfl⟩, ⟨_, rfl, rfl⟩⟩, ⟨⟨_, _, rfl, rfl, rfl, rfl, rfl⟩, ⟨_, rfl, rfl⟩⟩, ⟨⟨_, _, rfl, rfl, rfl, rfl, rfl⟩, rfl⟩, ⟨⟨_, _, rfl, rfl, rfl, rfl, rfl⟩, ⟨_, rfl, rfl⟩⟩, ⟨⟨_, _, rfl, rfl, rfl, rfl, rfl⟩, ⟨_, rfl, rfl⟩⟩, ⟨⟨_, _, rfl, rfl, rfl, rfl, rfl⟩, ⟨_, rfl, rfl⟩⟩, ⟨⟨_, _, rfl, rfl, rfl, rfl, rfl⟩, ⟨_, rfl, rfl⟩⟩, ⟨⟨_, _, rfl, rfl, rfl, rfl, rfl⟩, rfl⟩, ⟨⟨_, _, rfl, rfl, rfl, rfl, rfl⟩, ⟨_, rfl, rfl⟩⟩, ⟨⟨_, _, rfl, rfl, rfl, rfl, rfl⟩, ⟨_, rfl, rfl⟩⟩, ⟨⟨_, _, rfl, rfl, rfl, rfl, rfl⟩, ⟨_, rfl, rfl⟩⟩, ⟨⟨_, _, rfl, rfl, rfl, rfl, rfl⟩, rfl⟩, ⟨⟨_, _, rfl, rfl, rfl, rfl, rfl⟩, ⟨_, rfl, rfl⟩⟩, ⟨⟨_, _, rfl, rfl, rfl, rfl, rfl⟩, ⟨_, rfl, rfl⟩⟩, ⟨⟨_, _, rfl, rfl, rfl, rfl, rfl⟩, rfl⟩, ⟨⟨_, _, rfl, rfl, rfl, rfl, rfl⟩, ⟨_, rfl, rfl⟩⟩, ⟨⟨_, _, rfl, rfl, rfl, rfl, rfl⟩, ⟨_, rfl, rfl⟩⟩, ⟨⟨_, _, rfl, rfl, rfl, rfl, rfl⟩, ⟨_, rfl, rfl⟩⟩, ⟨⟨_, _, rfl, rfl, rfl, rfl, rfl⟩, ⟨_, rfl, rfl⟩⟩, ⟨⟨_, _, rfl, rfl, rfl, rfl, rfl⟩, ⟨_, rfl, rfl⟩⟩, ⟨⟨_, _, rfl, rfl, rfl, rfl, rfl⟩, ⟨_, rfl, rfl⟩⟩, ⟨⟨_, _, rfl, rfl, rfl, rfl, rfl⟩, ⟨_, rfl, rfl⟩⟩, ⟨⟨_, _, rfl, rfl, rfl, rfl, rfl⟩, ⟨_, rfl, rfl⟩⟩, ⟨⟨_, _, rfl, rfl, rfl, rfl, rfl⟩, rfl⟩, ⟨⟨_, _, rfl, rfl, rfl, rfl, rfl⟩, rfl⟩, ⟨⟨_, _, rfl, rfl, rfl, rfl, rfl⟩, rfl⟩, ⟨⟨_, _, rfl, rfl, rfl, rfl, rfl⟩, ⟨_, rfl, rfl⟩⟩, ⟨⟨_, _, rfl, rfl, rfl, rfl, rfl⟩, ⟨_, rfl, rfl⟩⟩, ⟨⟨_, _, rfl, rfl, rfl, rfl, rfl⟩, ⟨_, rfl, rfl⟩⟩, ⟨⟨_, _, rfl, rfl, rfl, rfl, rfl⟩, ⟨_, rfl, rfl⟩⟩, ⟨⟨_, _, rfl, rfl, rfl, rfl, rfl⟩, ⟨_, rfl, rfl⟩⟩, ⟨⟨_, _, rfl, rfl, rfl, rfl, rfl⟩, rfl⟩, ⟨⟨_, _, rfl, rfl, rfl, rfl, rfl⟩, rfl⟩, ⟨⟨_, _, rfl, rfl, rfl, rfl, rfl⟩, rfl⟩, ⟨⟨_, _, rfl, rfl, rfl, rfl, rfl⟩, rfl⟩, ⟨⟨_, _, rfl, rfl, rfl, rfl, rfl⟩, rfl⟩, ⟨⟨_, _, rfl, rfl, rfl, rfl, rfl⟩, rfl⟩, by simp⟩)

def M_l_szIntS (x0 : List Int) (x1 : Int) : Option Int :=
  (bif (decide ((W (x1 - (x0.length : Int))) < 0)) then
  some (-1)
  else
  some (W (x1 - (x0.length : Int))))

theorem ok_l_szIntS (x0 : List Int) (x1 : Int) (a3 : Option Addr) (c4 : Nat) (l5 : Nat) (hl6 : x0.length = l5) (r : Int) (h : M_l_szIntS x0 x1 = some r) :
  FC Tryz.prog 44 [.slice a3 l5 c4, .int .i64 x1] [⟨(.int .i64), ⟨a3, l5, c4⟩, x0⟩] (fun _ : Unit => True) (fun _ => .int .i64 r) (fun _ => []) :=
 by
  subst hl6
  refine FC.of (T := TTx) Tryz.call44 Tryz.func44 E E fun w0 => ?_
  unfold M_l_szIntS at h
  refine JS.rg0 ttOk 1 [] ⟨V, E⟩ E E (JS.rg ttOk 5 [(W (x1 - (x0.length : Int)))] [] [(1, .v (I (W (x1 - (x0.length : Int)))))] _ ⟨⟨V, E⟩, ⟨E, V⟩, E⟩ E E (JS.seq (JS.rg0 ttOk 2 [(10, .v (.bool (decide ((W (x1 - (x0.length : Int))) < 0))))] ⟨⟨E, V⟩, E⟩ E E ?_)))
  refine JS.cond E (fun ht8 => ?_) (fun ht8 => ?_)
  ·
   have h := condT h ht8
   refine JS.rg0 ttOk 1 [(4, .v (I (-1)))] ⟨⟨E, V⟩, E⟩ E E ?_
   cases h
   exact JS.ret ttOk () V E E [] E
  have h := condF h ht8
  refine JS.skip (JS.rg0 ttOk 2 [(4, .v (I (W (x1 - (x0.length : Int)))))] ⟨⟨E, V⟩, E⟩ E E ?_)
  cases h
  exact JS.ret ttOk () V E E [] E

def M_l_szLine (x0 : List Int × Int) (x1 : Int) : Option Int :=
  (bindO (M_l_szIntS x0.1 x1) fun (y7 : Int) =>
  (bif (decide (y7 < 0)) then
  some (-1)
  else
  some y7))

theorem ok_l_szLine (x0 : List Int × Int) (x1 : Int) (a3 : Option Addr) (c4 : Nat) (l5 : Nat) (hl6 : x0.1.length = l5) (r : Int) (h : M_l_szLine x0 x1 = some r) :
  FC Tryz.prog 41 [.agg #[.slice a3 l5 c4, .int .i64 x0.2], .int .i64 x1] [⟨(.int .i64), ⟨a3, l5, c4⟩, x0.1⟩] (fun _ : Unit => True) (fun _ => .int .i64 r) (fun _ => []) :=
 by
  subst hl6
  refine FC.of (T := TTx) Tryz.call41 Tryz.func41 E E fun w0 => ?_
  unfold M_l_szLine at h
  refine JS.rgB ttOk 2 [] [2] [(2, .bp 2 0)] (.new 2 24 [.slice a3 x0.1.length c4, .int .i64 x0.2] .nil) ⟨⟨E, V⟩, (Bs E E)⟩ E E (JS.seq (JS.region (JO.reg ttOk 3 [] [] [(6, .v (.slice a3 x0.1.length c4)), (7, .v (I x1))] _ E ⟨(Es E), E⟩ ?_)))
  obtain ⟨y7, hy8, h⟩ := bindO_some h
  refine JO.call E E E E (ok_l_szIntS x0.1 x1 a3 c4 x0.1.length E _ hy8) E [0] E E fun _ _ => JO.reg ttOk 1 [] [] [(1, .v (I y7))] _ E ⟨⟨E, V⟩, E⟩ (JO.done E (JS.seq (JS.rg0 ttOk 2 [(10, .v (.bool (decide (y7 < 0))))] ⟨⟨E, V⟩, E⟩ E E ?_)))
  refine JS.cond E (fun ht10 => ?_) (fun ht10 => ?_)
  ·
   have h := condT h ht10
   refine JS.rg0 ttOk 1 [(4, .v (I (-1)))] ⟨⟨E, V⟩, E⟩ E E ?_
   cases h
   exact JS.ret ttOk () V E E [] E
  have h := condF h ht10
  refine JS.skip (JS.rg0 ttOk 2 [(4, .v (I y7))] ⟨⟨E, V⟩, E⟩ E E ?_)
  cases h
  exact JS.ret ttOk () V E E [] E

def M_l_szPiece (x0 : List Int) (x1 : Int) : Option Int :=
  (bindO (M_l_szIntS x0 x1) fun (y7 : Int) =>
  (bif (decide (y7 < 0)) then
  some (-1)
  else
  some y7))

theorem ok_l_szPiece (x0 : List Int) (x1 : Int) (a3 : Option Addr) (c4 : Nat) (l5 : Nat) (hl6 : x0.length = l5) (r : Int) (h : M_l_szPiece x0 x1 = some r) :
  FC Tryz.prog 226 [.agg #[.slice a3 l5 c4], .int .i64 x1] [⟨(.int .i64), ⟨a3, l5, c4⟩, x0⟩] (fun _ : Unit => True) (fun _ => .int .i64 r) (fun _ => []) :=
 by
  subst hl6
  refine FC.of (T := TTx) Tryz.call226 Tryz.func226 E E fun w0 => ?_
  unfold M_l_szPiece at h
  refine JS.rgB ttOk 2 [] [2] [(2, .bp 2 0)] (.new 2 193 [.slice a3 x0.length c4] .nil) ⟨⟨E, V⟩, (Bs E E)⟩ E E (JS.seq (JS.region (JO.reg ttOk 3 [] [] [(6, .v (.slice a3 x0.length c4)), (7, .v (I x1))] _ E ⟨(Es E), E⟩ ?_)))
  obtain ⟨y7, hy8, h⟩ := bindO_some h
  refine JO.call E E E E (ok_l_szIntS x0 x1 a3 c4 x0.length E _ hy8) E [0] E E fun _ _ => JO.reg ttOk 1 [] [] [(1, .v (I y7))] _ E ⟨⟨E, V⟩, E⟩ (JO.done E (JS.seq (JS.rg0 ttOk 2 [(10, .v (.bool (decide (y7 < 0))))] ⟨⟨E, V⟩, E⟩ E E ?_)))
  refine JS.cond E (fun ht10 => ?_) (fun ht10 => ?_)
  ·
   have h := condT h ht10
   refine JS.rg0 ttOk 1 [(4, .v (I (-1)))] ⟨⟨E, V⟩, E⟩ E E ?_
   cases h
   exact JS.ret ttOk () V E E [] E
  have h := condF h ht10
  refine JS.skip (JS.rg0 ttOk 2 [(4, .v (I y7))] ⟨⟨E, V⟩, E⟩ E E ?_)
  cases h
  exact JS.ret ttOk () V E E [] E

def M_l_szPieceS_L1 (x0 : List (List Int)) (j26 : Int → Option Int) (k20 : (Int × Int) → Option Int) : (Int × Int) → Option Int := fun (x7, x8) =>
  (bif (decide (x8 < (x0.length : Int))) then
  (guardO (0 ≤ x8 ∧ x8 < (x0.length : Int)) <|
  (bindO (M_l_szPiece (at' x0 x8) x7) fun (y16 : Int) =>
  (bif (decide (y16 < 0)) then
  some (-1)
  else
  k20 (y16, (W (x8 + 1))))))
  else
  j26 x7)

def M_l_szPieceS (x0 : List (List Int)) (x1 : Int) : Option Int :=
  (bif (decide ((W (x1 - (x0.length : Int))) < 0)) then
  some (-1)
  else
  (joinO (fun (x25 : Int) =>
  some x25) fun j26 =>
  (fixF (M_l_szPieceS_L1 x0 j26) FUEL ((W (x1 - (x0.length : Int))), 0))))

theorem ok_l_szPieceS (x0 : List (List Int)) (x1 : Int) (a3 : Option Addr) (c4 : Nat) (l5 : Nat) (hl6 : x0.length = l5) (r : Int) (h : M_l_szPieceS x0 x1 = some r) :
  FC Tryz.prog 126 [.slice a3 l5 c4, .int .i64 x1] [⟨(.sl (.int .i64)), ⟨a3, l5, c4⟩, x0⟩] (fun _ : Unit => True) (fun _ => .int .i64 r) (fun _ => []) :=
 by
  subst hl6
  refine FC.of (T := TTx) Tryz.call126 Tryz.func126 E E fun w0 => ?_
  unfold M_l_szPieceS at h
  refine JS.rg0 ttOk 1 [] ⟨V, E⟩ E E (JS.rg ttOk 5 [(W (x1 - (x0.length : Int)))] [] [(1, .v (I (W (x1 - (x0.length : Int)))))] _ ⟨⟨V, E⟩, ⟨E, V⟩, E⟩ E E (JS.seq (JS.rg0 ttOk 2 [(11, .v (.bool (decide ((W (x1 - (x0.length : Int))) < 0))))] ⟨⟨E, V⟩, E⟩ E E ?_)))
  refine JS.cond E (fun ht36 => ?_) (fun ht36 => ?_)
  ·
   have h := condT h ht36
   refine JS.rg0 ttOk 1 [(4, .v (I (-1)))] ⟨⟨E, V⟩, E⟩ E E ?_
   cases h
   exact JS.ret ttOk () V E E [] E
  have h := condF h ht36
  refine JS.skip (JS.seq (JS.rg0 ttOk 1 [(5, .v (I 0))] ⟨⟨E, V⟩, E⟩ E E ?_))
  obtain ⟨j26, hj35, h⟩ := joinO_some h
  refine JS.blockJ (ι := Int) ⟨fun z => j26 z = some r, fun z => [(1, .v (I z))], fun z => .nil, fun z => [], fun z => [], fun z => 0⟩ ?_ ?_
  ·
   refine JS.loop (ι := Nat × Int × Int) ⟨fun z => fixF (M_l_szPieceS_L1 x0 j26) z.1 (z.2.1, z.2.2) = some r, fun z => [(0, .v (.slice a3 x0.length c4)), (1, .v (I z.2.1)), (5, .v (I z.2.2))], fun z => .nil, fun z => [⟨(.sl (.int .i64)), ⟨a3, x0.length, c4⟩, x0⟩], fun z => [], fun z => z.1⟩ (FUEL, (W (x1 - (x0.length : Int))), 0) h (Es E) V [0] E [] E ?_
   rintro ⟨n21, x7, x8⟩ h
   obtain ⟨n21, rfl, h⟩ := fixF_some h
   rw [M_l_szPieceS_L1] at h
   refine JS.seq (JS.rg0 ttOk 4 [(15, .v (.bool (decide (x8 < (x0.length : Int)))))] ⟨⟨E, V⟩, E⟩ E E ?_)
   refine JS.cond E (fun ht34 => ?_) (fun ht34 => ?_)
   ·
    have h := condT h ht34
    refine JS.skip (JS.seq (JS.block (JS.seq (JS.region (JO.know 0 E fun hs32 => ?_)))))
    obtain ⟨g10, h⟩ := guardO_some h
    refine JO.reg ttOk 3 [] [] [(20, .ep ⟨a3, x0.length, c4⟩ (Int.toNat x8 * 1))] _ E ⟨hs32.ix g10, ⟨E, V⟩, E⟩ (JO.openR 0 E (Int.toNat x8) (at' x0 x8) E fun a11 c12 ys13 hl14 hy15 => JO.loadV ttOk E E E E E E 0 E E (Int.toNat x8) 0 (Sl.v ⟨a11, (at' x0 x8).length, c12⟩) ⟨hy15 (ltNat g10), E⟩ E E E (JO.reg ttOk 1 [] [] [(22, .v (I x7))] _ E ⟨⟨E, V⟩, E⟩ ?_))
    obtain ⟨y16, hy17, h⟩ := bindO_some h
    refine JO.call E E E E (ok_l_szPiece (at' x0 x8) x7 a11 c12 ((at' x0 x8).length) E _ hy17) E [1] E E fun _ _ => JO.reg ttOk 1 [] [] [(1, .v (I y16))] _ E ⟨⟨E, V⟩, E⟩ (JO.done E (JS.rg0 ttOk 2 [(25, .v (.bool (decide (y16 < 0))))] ⟨⟨E, V⟩, E⟩ E E ?_))
    refine JS.cond E (fun ht33 => ?_) (fun ht33 => ?_)
    ·
     have h := condT h ht33
     refine JS.rg0 ttOk 1 [(4, .v (I (-1)))] ⟨⟨E, V⟩, E⟩ E E ?_
     cases h
     exact JS.ret ttOk () V E E [] E
    have h := condF h ht33
    refine JS.skip (JS.endB (JS.re ttOk 3 [(W (x8 + 1))] [] [(5, .v (I (W (x8 + 1))))] _ ⟨⟨V, E⟩, ⟨E, V⟩, E⟩ E E (JS.endL (n21, y16, (W (x8 + 1))) h (Nat.lt_succ_self _) (Es E) V [2] E [] E)))
   have h := condF h ht34
   refine JS.exit E (JS.endJ x7 h ⟨E, V⟩ V [] E [] E)
  rintro x25 h
  subst hj35
  refine JS.rg0 ttOk 2 [(4, .v (I x25))] ⟨⟨E, V⟩, E⟩ E E ?_
  cases h
  exact JS.ret ttOk () V E E [] E

def M_l_szRing (x0 : List (List Int)) (x1 : Int) : Option Int :=
  (bindO (M_l_szPieceS x0 x1) fun (y7 : Int) =>
  (bif (decide (y7 < 0)) then
  some (-1)
  else
  some y7))

theorem ok_l_szRing (x0 : List (List Int)) (x1 : Int) (a3 : Option Addr) (c4 : Nat) (l5 : Nat) (hl6 : x0.length = l5) (r : Int) (h : M_l_szRing x0 x1 = some r) :
  FC Tryz.prog 42 [.agg #[.slice a3 l5 c4], .int .i64 x1] [⟨(.sl (.int .i64)), ⟨a3, l5, c4⟩, x0⟩] (fun _ : Unit => True) (fun _ => .int .i64 r) (fun _ => []) :=
 by
  subst hl6
  refine FC.of (T := TTx) Tryz.call42 Tryz.func42 E E fun w0 => ?_
  unfold M_l_szRing at h
  refine JS.rgB ttOk 2 [] [2] [(2, .bp 2 0)] (.new 2 27 [.slice a3 x0.length c4] .nil) ⟨⟨E, V⟩, (Bs E E)⟩ E E (JS.seq (JS.region (JO.reg ttOk 3 [] [] [(6, .v (.slice a3 x0.length c4)), (7, .v (I x1))] _ E ⟨(Es E), E⟩ ?_)))
  obtain ⟨y7, hy8, h⟩ := bindO_some h
  refine JO.call E E E E (ok_l_szPieceS x0 x1 a3 c4 x0.length E _ hy8) E [0] E E fun _ _ => JO.reg ttOk 1 [] [] [(1, .v (I y7))] _ E ⟨⟨E, V⟩, E⟩ (JO.done E (JS.seq (JS.rg0 ttOk 2 [(10, .v (.bool (decide (y7 < 0))))] ⟨⟨E, V⟩, E⟩ E E ?_)))
  refine JS.cond E (fun ht10 => ?_) (fun ht10 => ?_)
  ·
   have h := condT h ht10
   refine JS.rg0 ttOk 1 [(4, .v (I (-1)))] ⟨⟨E, V⟩, E⟩ E E ?_
   cases h
   exact JS.ret ttOk () V E E [] E
  have h := condF h ht10
  refine JS.skip (JS.rg0 ttOk 2 [(4, .v (I y7))] ⟨⟨E, V⟩, E⟩ E E ?_)
  cases h
  exact JS.ret ttOk () V E E [] E

def M_l_szLineS_L1 (x0 : List (List Int × Int)) (j26 : Int → Option Int) (k20 : (Int × Int) → Option Int) : (Int × Int) → Option Int := fun (x7, x8) =>
  (bif (decide (x8 < (x0.length : Int))) then
  (guardO (0 ≤ x8 ∧ x8 < (x0.length : Int)) <|
  (bindO (M_l_szLine ((at' x0 x8).1, (at' x0 x8).2) x7) fun (y16 : Int) =>
  (bif (decide (y16 < 0)) then
  some (-1)
  else
  k20 (y16, (W (x8 + 1))))))
  else
  j26 x7)

def M_l_szLineS (x0 : List (List Int × Int)) (x1 : Int) : Option Int :=
  (bif (decide ((W (x1 - (x0.length : Int))) < 0)) then
  some (-1)
  else
  (joinO (fun (x25 : Int) =>
  some x25) fun j26 =>
  (fixF (M_l_szLineS_L1 x0 j26) FUEL ((W (x1 - (x0.length : Int))), 0))))

theorem ok_l_szLineS (x0 : List (List Int × Int)) (x1 : Int) (a3 : Option Addr) (c4 : Nat) (l5 : Nat) (hl6 : x0.length = l5) (r : Int) (h : M_l_szLineS x0 x1 = some r) :
  FC Tryz.prog 127 [.slice a3 l5 c4, .int .i64 x1] [⟨(.pair (.sl (.int .i64)) (.int .i64)), ⟨a3, l5, c4⟩, x0⟩] (fun _ : Unit => True) (fun _ => .int .i64 r) (fun _ => []) :=
 by
  subst hl6
  refine FC.of (T := TTx) Tryz.call127 Tryz.func127 E E fun w0 => ?_
  unfold M_l_szLineS at h
  refine JS.rg0 ttOk 1 [] ⟨V, E⟩ E E (JS.rg ttOk 5 [(W (x1 - (x0.length : Int)))] [] [(1, .v (I (W (x1 - (x0.length : Int)))))] _ ⟨⟨V, E⟩, ⟨E, V⟩, E⟩ E E (JS.seq (JS.rg0 ttOk 2 [(11, .v (.bool (decide ((W (x1 - (x0.length : Int))) < 0))))] ⟨⟨E, V⟩, E⟩ E E ?_)))
  refine JS.cond E (fun ht36 => ?_) (fun ht36 => ?_)
  ·
   have h := condT h ht36
   refine JS.rg0 ttOk 1 [(4, .v (I (-1)))] ⟨⟨E, V⟩, E⟩ E E ?_
   cases h
   exact JS.ret ttOk () V E E [] E
  have h := condF h ht36
  refine JS.skip (JS.seq (JS.rg0 ttOk 1 [(5, .v (I 0))] ⟨⟨E, V⟩, E⟩ E E ?_))
  obtain ⟨j26, hj35, h⟩ := joinO_some h
  refine JS.blockJ (ι := Int) ⟨fun z => j26 z = some r, fun z => [(1, .v (I z))], fun z => .nil, fun z => [], fun z => [], fun z => 0⟩ ?_ ?_
  ·
   refine JS.loop (ι := Nat × Int × Int) ⟨fun z => fixF (M_l_szLineS_L1 x0 j26) z.1 (z.2.1, z.2.2) = some r, fun z => [(0, .v (.slice a3 x0.length c4)), (1, .v (I z.2.1)), (5, .v (I z.2.2))], fun z => .nil, fun z => [⟨(.pair (.sl (.int .i64)) (.int .i64)), ⟨a3, x0.length, c4⟩, x0⟩], fun z => [], fun z => z.1⟩ (FUEL, (W (x1 - (x0.length : Int))), 0) h (Es E) V [0] E [] E ?_
   rintro ⟨n21, x7, x8⟩ h
   obtain ⟨n21, rfl, h⟩ := fixF_some h
   rw [M_l_szLineS_L1] at h
   refine JS.seq (JS.rg0 ttOk 4 [(15, .v (.bool (decide (x8 < (x0.length : Int)))))] ⟨⟨E, V⟩, E⟩ E E ?_)
   refine JS.cond E (fun ht34 => ?_) (fun ht34 => ?_)
   ·
    have h := condT h ht34
    refine JS.skip (JS.seq (JS.block (JS.seq (JS.region (JO.know 0 E fun hs32 => ?_)))))
    obtain ⟨g10, h⟩ := guardO_some h
    refine JO.reg ttOk 3 [] [] [(20, .ep ⟨a3, x0.length, c4⟩ (Int.toNat x8 * 2))] _ E ⟨hs32.ix g10, ⟨E, V⟩, E⟩ (JO.openR 0 E (Int.toNat x8) (at' x0 x8) E fun a11 c12 ys13 hl14 hy15 => JO.loadV ttOk E E E E E E 0 E E (Int.toNat x8) 0 ((Sl.v ⟨a11, ((at' x0 x8).1).length, c12⟩), (at' x0 x8).2) ⟨hy15 (ltNat g10), E⟩ E E E (JO.reg ttOk 1 [] [] [(22, .v (I x7))] _ E ⟨⟨E, V⟩, E⟩ ?_))
    obtain ⟨y16, hy17, h⟩ := bindO_some h
    refine JO.call E E E E (ok_l_szLine ((at' x0 x8).1, (at' x0 x8).2) x7 a11 c12 (((at' x0 x8).1).length) E _ hy17) E [1] E E fun _ _ => JO.reg ttOk 1 [] [] [(1, .v (I y16))] _ E ⟨⟨E, V⟩, E⟩ (JO.done E (JS.rg0 ttOk 2 [(25, .v (.bool (decide (y16 < 0))))] ⟨⟨E, V⟩, E⟩ E E ?_))
    refine JS.cond E (fun ht33 => ?_) (fun ht33 => ?_)
    ·
     have h := condT h ht33
     refine JS.rg0 ttOk 1 [(4, .v (I (-1)))] ⟨⟨E, V⟩, E⟩ E E ?_
     cases h
     exact JS.ret ttOk () V E E [] E
    have h := condF h ht33
    refine JS.skip (JS.endB (JS.re ttOk 3 [(W (x8 + 1))] [] [(5, .v (I (W (x8 + 1))))] _ ⟨⟨V, E⟩, ⟨E, V⟩, E⟩ E E (JS.endL (n21, y16, (W (x8 + 1))) h (Nat.lt_succ_self _) (Es E) V [2] E [] E)))
   have h := condF h ht34
   refine JS.exit E (JS.endJ x7 h ⟨E, V⟩ V [] E [] E)
  rintro x25 h
  subst hj35
  refine JS.rg0 ttOk 2 [(4, .v (I x25))] ⟨⟨E, V⟩, E⟩ E E ?_
  cases h
  exact JS.ret ttOk () V E E [] E

def M_l_szUndo (x0 : List (List Int × Int)) (x1 : Int) : Option Int :=
  (bindO (M_l_szLineS x0 x1) fun (y7 : Int) =>
  (bif (decide (y7 < 0)) then
  some (-1)
  else
  some y7))

theorem ok_l_szUndo (x0 : List (List Int × Int)) (x1 : Int) (a3 : Option Addr) (c4 : Nat) (l5 : Nat) (hl6 : x0.length = l5) (r : Int) (h : M_l_szUndo x0 x1 = some r) :
  FC Tryz.prog 43 [.agg #[.slice a3 l5 c4], .int .i64 x1] [⟨(.pair (.sl (.int .i64)) (.int .i64)), ⟨a3, l5, c4⟩, x0⟩] (fun _ : Unit => True) (fun _ => .int .i64 r) (fun _ => []) :=
 by
  subst hl6
  refine FC.of (T := TTx) Tryz.call43 Tryz.func43 E E fun w0 => ?_
  unfold M_l_szUndo at h
  refine JS.rgB ttOk 2 [] [2] [(2, .bp 2 0)] (.new 2 30 [.slice a3 x0.length c4] .nil) ⟨⟨E, V⟩, (Bs E E)⟩ E E (JS.seq (JS.region (JO.reg ttOk 3 [] [] [(6, .v (.slice a3 x0.length c4)), (7, .v (I x1))] _ E ⟨(Es E), E⟩ ?_)))
  obtain ⟨y7, hy8, h⟩ := bindO_some h
  refine JO.call E E E E (ok_l_szLineS x0 x1 a3 c4 x0.length E _ hy8) E [0] E E fun _ _ => JO.reg ttOk 1 [] [] [(1, .v (I y7))] _ E ⟨⟨E, V⟩, E⟩ (JO.done E (JS.seq (JS.rg0 ttOk 2 [(10, .v (.bool (decide (y7 < 0))))] ⟨⟨E, V⟩, E⟩ E E ?_)))
  refine JS.cond E (fun ht10 => ?_) (fun ht10 => ?_)
  ·
   have h := condT h ht10
   refine JS.rg0 ttOk 1 [(4, .v (I (-1)))] ⟨⟨E, V⟩, E⟩ E E ?_
   cases h
   exact JS.ret ttOk () V E E [] E
  have h := condF h ht10
  refine JS.skip (JS.rg0 ttOk 2 [(4, .v (I y7))] ⟨⟨E, V⟩, E⟩ E E ?_)
  cases h
  exact JS.ret ttOk () V E E [] E

def M_l_szEd (x0 : EdQ) (x1 : Int) : Option Int :=
  (bindO (M_l_szLine x0.2.2.1 x1) fun (y27 : Int) =>
  (bif (decide (y27 < 0)) then
  some (-1)
  else
  (bindO (M_l_szRing x0.2.2.2.2.2.2.2.2.2.2.1 y27) fun (y29 : Int) =>
  (bif (decide (y29 < 0)) then
  some (-1)
  else
  (bindO (M_l_szUndo x0.2.2.2.2.2.2.2.2.2.2.2.1 y29) fun (y31 : Int) =>
  (bif (decide (y31 < 0)) then
  some (-1)
  else
  (bindO (M_l_szLine x0.2.2.2.2.2.2.2.2.2.2.2.2.2.1 y31) fun (y33 : Int) =>
  (bif (decide (y33 < 0)) then
  some (-1)
  else
  (bindO (M_l_szIntS x0.2.2.2.2.2.2.2.2.2.2.2.2.2.2.1 y33) fun (y35 : Int) =>
  (bif (decide (y35 < 0)) then
  some (-1)
  else
  (bindO (M_l_szLine x0.2.2.2.2.2.2.2.2.2.2.2.2.2.2.2.2 y35) fun (y37 : Int) =>
  (bif (decide (y37 < 0)) then
  some (-1)
  else
  some y37))))))))))))

theorem ok_l_szEd (x0 : EdQ) (x1 : Int) (a3 : Option Addr) (c4 : Nat) (l5 : Nat) (hl6 : x0.2.2.1.1.length = l5) (a7 : Option Addr) (c8 : Nat) (l9 : Nat) (hl10 : (Q8 x0).2.2.1.length = l9) (a11 : Option Addr) (c12 : Nat) (l13 : Nat) (hl14 : (Q8 x0).2.2.2.1.length = l13) (a15 : Option Addr) (c16 : Nat) (l17 : Nat) (hl18 : (Q12 x0).2.1.1.length = l17) (a19 : Option Addr) (c20 : Nat) (l21 : Nat) (hl22 : (Q12 x0).2.2.1.length = l21) (a23 : Option Addr) (c24 : Nat) (l25 : Nat) (hl26 : (Q16 x0).1.length = l25) (r : Int) (h : M_l_szEd x0 x1 = some r) :
  FC Tryz.prog 10 [.agg #[.bool x0.1, .int .i64 x0.2.1, .slice a3 l5 c4, .int .i64 x0.2.2.1.2, .int .i64 x0.2.2.2.1, .int .i64 (Q4 x0).1, .int .i64 (Q4 x0).2.1, .int .i64 (Q4 x0).2.2.1, .int .i64 (Q4 x0).2.2.2.1, .int .i64 (Q8 x0).1, .int .i64 (Q8 x0).2.1, .slice a7 l9 c8, .slice a11 l13 c12, .int .i64 (Q12 x0).1, .slice a15 l17 c16, .int .i64 (Q12 x0).2.1.2, .slice a19 l21 c20, .int .i64 (Q12 x0).2.2.2.1, .slice a23 l25 c24, .int .i64 (Q16 x0).2], .int .i64 x1] [⟨(.int .i64), ⟨a3, l5, c4⟩, x0.2.2.1.1⟩, ⟨(.sl (.int .i64)), ⟨a7, l9, c8⟩, (Q8 x0).2.2.1⟩, ⟨(.pair (.sl (.int .i64)) (.int .i64)), ⟨a11, l13, c12⟩, (Q8 x0).2.2.2.1⟩, ⟨(.int .i64), ⟨a15, l17, c16⟩, (Q12 x0).2.1.1⟩, ⟨(.int .i64), ⟨a19, l21, c20⟩, (Q12 x0).2.2.1⟩, ⟨(.int .i64), ⟨a23, l25, c24⟩, (Q16 x0).1⟩] (fun _ : Unit => True) (fun _ => .int .i64 r) (fun _ => []) :=
 by
  subst hl6
  subst hl10
  subst hl14
  subst hl18
  subst hl22
  subst hl26
  refine FC.of (T := TTx) Tryz.call10 Tryz.func10 E E fun w0 => ?_
  unfold M_l_szEd at h
  refine JS.rgB ttOk 2 [] [7] [(2, .bp 7 0)] (.new 7 32 (cl32 x0 a3 c4 a7 c8 a11 c12 a15 c16 a19 c20 a23 c24) .nil) ⟨⟨E, V⟩, (Bs E E)⟩ E E (JS.seq (JS.region (JO.reg ttOk 3 [] [] [(6, .v (.agg #[.slice a3 x0.2.2.1.1.length c4, .int .i64 x0.2.2.1.2])), (7, .v (I x1))] _ E ⟨(Es E), E⟩ ?_)))
  obtain ⟨y27, hy28, h⟩ := bindO_some h
  refine JO.call E E E E (ok_l_szLine x0.2.2.1 x1 a3 c4 x0.2.2.1.1.length E _ hy28) E [0] E E fun _ _ => JO.reg ttOk 1 [] [] [(1, .v (I y27))] _ E ⟨⟨E, V⟩, E⟩ (JO.done E (JS.seq (JS.rg0 ttOk 2 [(10, .v (.bool (decide (y27 < 0))))] ⟨⟨E, V⟩, E⟩ E E ?_)))
  refine JS.cond E (fun ht50 => ?_) (fun ht50 => ?_)
  ·
   have h := condT h ht50
   refine JS.rg0 ttOk 1 [(4, .v (I (-1)))] ⟨⟨E, V⟩, E⟩ E E ?_
   cases h
   exact JS.ret ttOk () V E E [] E
  have h := condF h ht50
  refine JS.skip (JS.seq (JS.region (JO.reg ttOk 3 [] [] [(12, .v (.agg #[.slice a7 (Q8 x0).2.2.1.length c8])), (13, .v (I y27))] _ E ⟨(Es E), E⟩ ?_)))
  obtain ⟨y29, hy30, h⟩ := bindO_some h
  refine JO.call E E E E (ok_l_szRing (Q8 x0).2.2.1 y27 a7 c8 (Q8 x0).2.2.1.length E _ hy30) E [1] E E fun _ _ => JO.reg ttOk 1 [] [] [(1, .v (I y29))] _ E ⟨⟨E, V⟩, E⟩ (JO.done E (JS.seq (JS.rg0 ttOk 2 [(16, .v (.bool (decide (y29 < 0))))] ⟨⟨E, V⟩, E⟩ E E ?_)))
  refine JS.cond E (fun ht49 => ?_) (fun ht49 => ?_)
  ·
   have h := condT h ht49
   refine JS.rg0 ttOk 1 [(4, .v (I (-1)))] ⟨⟨E, V⟩, E⟩ E E ?_
   cases h
   exact JS.ret ttOk () V E E [] E
  have h := condF h ht49
  refine JS.skip (JS.seq (JS.region (JO.reg ttOk 3 [] [] [(18, .v (.agg #[.slice a11 (Q8 x0).2.2.2.1.length c12])), (19, .v (I y29))] _ E ⟨(Es E), E⟩ ?_)))
  obtain ⟨y31, hy32, h⟩ := bindO_some h
  refine JO.call E E E E (ok_l_szUndo (Q8 x0).2.2.2.1 y29 a11 c12 (Q8 x0).2.2.2.1.length E _ hy32) E [2] E E fun _ _ => JO.reg ttOk 1 [] [] [(1, .v (I y31))] _ E ⟨⟨E, V⟩, E⟩ (JO.done E (JS.seq (JS.rg0 ttOk 2 [(22, .v (.bool (decide (y31 < 0))))] ⟨⟨E, V⟩, E⟩ E E ?_)))
  refine JS.cond E (fun ht48 => ?_) (fun ht48 => ?_)
  ·
   have h := condT h ht48
   refine JS.rg0 ttOk 1 [(4, .v (I (-1)))] ⟨⟨E, V⟩, E⟩ E E ?_
   cases h
   exact JS.ret ttOk () V E E [] E
  have h := condF h ht48
  refine JS.skip (JS.seq (JS.region (JO.reg ttOk 3 [] [] [(24, .v (.agg #[.slice a15 (Q12 x0).2.1.1.length c16, .int .i64 (Q12 x0).2.1.2])), (25, .v (I y31))] _ E ⟨(Es E), E⟩ ?_)))
  obtain ⟨y33, hy34, h⟩ := bindO_some h
  refine JO.call E E E E (ok_l_szLine (Q12 x0).2.1 y31 a15 c16 (Q12 x0).2.1.1.length E _ hy34) E [3] E E fun _ _ => JO.reg ttOk 1 [] [] [(1, .v (I y33))] _ E ⟨⟨E, V⟩, E⟩ (JO.done E (JS.seq (JS.rg0 ttOk 2 [(28, .v (.bool (decide (y33 < 0))))] ⟨⟨E, V⟩, E⟩ E E ?_)))
  refine JS.cond E (fun ht47 => ?_) (fun ht47 => ?_)
  ·
   have h := condT h ht47
   refine JS.rg0 ttOk 1 [(4, .v (I (-1)))] ⟨⟨E, V⟩, E⟩ E E ?_
   cases h
   exact JS.ret ttOk () V E E [] E
  have h := condF h ht47
  refine JS.skip (JS.seq (JS.region (JO.reg ttOk 3 [] [] [(30, .v (.slice a19 (Q12 x0).2.2.1.length c20)), (31, .v (I y33))] _ E ⟨(Es E), E⟩ ?_)))
  obtain ⟨y35, hy36, h⟩ := bindO_some h
  refine JO.call E E E E (ok_l_szIntS (Q12 x0).2.2.1 y33 a19 c20 (Q12 x0).2.2.1.length E _ hy36) E [4] E E fun _ _ => JO.reg ttOk 1 [] [] [(1, .v (I y35))] _ E ⟨⟨E, V⟩, E⟩ (JO.done E (JS.seq (JS.rg0 ttOk 2 [(34, .v (.bool (decide (y35 < 0))))] ⟨⟨E, V⟩, E⟩ E E ?_)))
  refine JS.cond E (fun ht46 => ?_) (fun ht46 => ?_)
  ·
   have h := condT h ht46
   refine JS.rg0 ttOk 1 [(4, .v (I (-1)))] ⟨⟨E, V⟩, E⟩ E E ?_
   cases h
   exact JS.ret ttOk () V E E [] E
  have h := condF h ht46
  refine JS.skip (JS.seq (JS.region (JO.reg ttOk 3 [] [] [(36, .v (.agg #[.slice a23 (Q16 x0).1.length c24, .int .i64 (Q16 x0).2])), (37, .v (I y35))] _ E ⟨(Es E), E⟩ ?_)))
  obtain ⟨y37, hy38, h⟩ := bindO_some h
  refine JO.call E E E E (ok_l_szLine (Q16 x0) y35 a23 c24 (Q16 x0).1.length E _ hy38) E [5] E E fun _ _ => JO.reg ttOk 1 [] [] [(1, .v (I y37))] _ E ⟨⟨E, V⟩, E⟩ (JO.done E (JS.seq (JS.rg0 ttOk 2 [(40, .v (.bool (decide (y37 < 0))))] ⟨⟨E, V⟩, E⟩ E E ?_)))
  refine JS.cond E (fun ht45 => ?_) (fun ht45 => ?_)
  ·
   have h := condT h ht45
   refine JS.rg0 ttOk 1 [(4, .v (I (-1)))] ⟨⟨E, V⟩, E⟩ E E ?_
   cases h
   exact JS.ret ttOk () V E E [] E
  have h := condF h ht45
  refine JS.skip (JS.rg0 ttOk 2 [(4, .v (I y37))] ⟨⟨E, V⟩, E⟩ E E ?_)
  cases h
  exact JS.ret ttOk () V E E [] E

def M_l_szStringS_L1 (x0 : List (List UInt8)) (j19 : Int → Option Int) (k13 : (Int × Int) → Option Int) : (Int × Int) → Option Int := fun (x7, x8) =>
  (bif (decide (x8 < (x0.length : Int))) then
  (guardO (0 ≤ x8 ∧ x8 < (x0.length : Int)) <|
  (bif (decide ((W (x7 - ((at' x0 x8).length : Int))) < 0)) then
  some (-1)
  else
  k13 ((W (x7 - ((at' x0 x8).length : Int))), (W (x8 + 1)))))
  else
  j19 x7)

def M_l_szStringS (x0 : List (List UInt8)) (x1 : Int) : Option Int :=
  (bif (decide ((W (x1 - (x0.length : Int))) < 0)) then
  some (-1)
  else
  (joinO (fun (x18 : Int) =>
  some x18) fun j19 =>
  (fixF (M_l_szStringS_L1 x0 j19) FUEL ((W (x1 - (x0.length : Int))), 0))))

theorem ok_l_szStringS (x0 : List (List UInt8)) (x1 : Int) (a3 : Option Addr) (c4 : Nat) (l5 : Nat) (hl6 : x0.length = l5) (r : Int) (h : M_l_szStringS x0 x1 = some r) :
  FC Tryz.prog 45 [.slice a3 l5 c4, .int .i64 x1] [⟨.str, ⟨a3, l5, c4⟩, x0⟩] (fun _ : Unit => True) (fun _ => .int .i64 r) (fun _ => []) :=
 by
  subst hl6
  refine FC.of (T := TTx) Tryz.call45 Tryz.func45 E E fun w0 => ?_
  unfold M_l_szStringS at h
  refine JS.rg0 ttOk 1 [] ⟨V, E⟩ E E (JS.rg ttOk 5 [(W (x1 - (x0.length : Int)))] [] [(1, .v (I (W (x1 - (x0.length : Int)))))] _ ⟨⟨V, E⟩, ⟨E, V⟩, E⟩ E E (JS.seq (JS.rg0 ttOk 2 [(11, .v (.bool (decide ((W (x1 - (x0.length : Int))) < 0))))] ⟨⟨E, V⟩, E⟩ E E ?_)))
  refine JS.cond E (fun ht29 => ?_) (fun ht29 => ?_)
  ·
   have h := condT h ht29
   refine JS.rg0 ttOk 1 [(4, .v (I (-1)))] ⟨⟨E, V⟩, E⟩ E E ?_
   cases h
   exact JS.ret ttOk () V E E [] E
  have h := condF h ht29
  refine JS.skip (JS.seq (JS.rg0 ttOk 1 [(5, .v (I 0))] ⟨⟨E, V⟩, E⟩ E E ?_))
  obtain ⟨j19, hj28, h⟩ := joinO_some h
  refine JS.blockJ (ι := Int) ⟨fun z => j19 z = some r, fun z => [(1, .v (I z))], fun z => .nil, fun z => [], fun z => [], fun z => 0⟩ ?_ ?_
  ·
   refine JS.loop (ι := Nat × Int × Int) ⟨fun z => fixF (M_l_szStringS_L1 x0 j19) z.1 (z.2.1, z.2.2) = some r, fun z => [(0, .v (.slice a3 x0.length c4)), (1, .v (I z.2.1)), (5, .v (I z.2.2))], fun z => .nil, fun z => [⟨.str, ⟨a3, x0.length, c4⟩, x0⟩], fun z => [], fun z => z.1⟩ (FUEL, (W (x1 - (x0.length : Int))), 0) h (Es E) V [0] E [] E ?_
   rintro ⟨n14, x7, x8⟩ h
   obtain ⟨n14, rfl, h⟩ := fixF_some h
   rw [M_l_szStringS_L1] at h
   refine JS.seq (JS.rg0 ttOk 4 [(15, .v (.bool (decide (x8 < (x0.length : Int)))))] ⟨⟨E, V⟩, E⟩ E E ?_)
   refine JS.cond E (fun ht27 => ?_) (fun ht27 => ?_)
   ·
    have h := condT h ht27
    refine JS.skip (JS.seq (JS.block (JS.seq (JS.region (JO.know 0 E fun hs25 => ?_)))))
    obtain ⟨g10, h⟩ := guardO_some h
    refine JO.reg ttOk 4 [] [] [(18, .v (I x7)), (21, .ep ⟨a3, x0.length, c4⟩ (Int.toNat x8 * 1))] _ E ⟨hs25.ix g10, (Es E), E⟩ (JO.load ttOk E E E E E E E 0 E E (Int.toNat x8) 0 (at' x0 x8) ⟨at_some g10, E⟩ E E (JO.reg ttOk 3 [(W (x7 - ((at' x0 x8).length : Int)))] [] [(1, .v (I (W (x7 - ((at' x0 x8).length : Int)))))] _ E ⟨⟨V, E⟩, ⟨E, V⟩, E⟩ (JO.done E (JS.rg0 ttOk 2 [(26, .v (.bool (decide ((W (x7 - ((at' x0 x8).length : Int))) < 0))))] ⟨⟨E, V⟩, E⟩ E E ?_))))
    refine JS.cond E (fun ht26 => ?_) (fun ht26 => ?_)
    ·
     have h := condT h ht26
     refine JS.rg0 ttOk 1 [(4, .v (I (-1)))] ⟨⟨E, V⟩, E⟩ E E ?_
     cases h
     exact JS.ret ttOk () V E E [] E
    have h := condF h ht26
    refine JS.skip (JS.endB (JS.re ttOk 3 [(W (x8 + 1))] [] [(5, .v (I (W (x8 + 1))))] _ ⟨⟨V, E⟩, ⟨E, V⟩, E⟩ E E (JS.endL (n14, (W (x7 - ((at' x0 x8).length : Int))), (W (x8 + 1))) h (Nat.lt_succ_self _) (Es E) V [0] E [] E)))
   have h := condF h ht27
   refine JS.exit E (JS.endJ x7 h ⟨E, V⟩ V [] E [] E)
  rintro x18 h
  subst hj28
  refine JS.rg0 ttOk 2 [(4, .v (I x18))] ⟨⟨E, V⟩, E⟩ E E ?_
  cases h
  exact JS.ret ttOk () V E E [] E

def M_l_szHist (x0 : Int × List (List UInt8)) (x1 : Int) : Option Int :=
  (bindO (M_l_szStringS x0.2 x1) fun (y7 : Int) =>
  (bif (decide (y7 < 0)) then
  some (-1)
  else
  some y7))

theorem ok_l_szHist (x0 : Int × List (List UInt8)) (x1 : Int) (a3 : Option Addr) (c4 : Nat) (l5 : Nat) (hl6 : x0.2.length = l5) (r : Int) (h : M_l_szHist x0 x1 = some r) :
  FC Tryz.prog 11 [.agg #[.int .i64 x0.1, .slice a3 l5 c4], .int .i64 x1] [⟨.str, ⟨a3, l5, c4⟩, x0.2⟩] (fun _ : Unit => True) (fun _ => .int .i64 r) (fun _ => []) :=
 by
  subst hl6
  refine FC.of (T := TTx) Tryz.call11 Tryz.func11 E E fun w0 => ?_
  unfold M_l_szHist at h
  refine JS.rgB ttOk 2 [] [2] [(2, .bp 2 0)] (.new 2 35 [.int .i64 x0.1, .slice a3 x0.2.length c4] .nil) ⟨⟨E, V⟩, (Bs E E)⟩ E E (JS.seq (JS.region (JO.reg ttOk 3 [] [] [(6, .v (.slice a3 x0.2.length c4)), (7, .v (I x1))] _ E ⟨(Es E), E⟩ ?_)))
  obtain ⟨y7, hy8, h⟩ := bindO_some h
  refine JO.call E E E E (ok_l_szStringS x0.2 x1 a3 c4 x0.2.length E _ hy8) E [0] E E fun _ _ => JO.reg ttOk 1 [] [] [(1, .v (I y7))] _ E ⟨⟨E, V⟩, E⟩ (JO.done E (JS.seq (JS.rg0 ttOk 2 [(10, .v (.bool (decide (y7 < 0))))] ⟨⟨E, V⟩, E⟩ E E ?_)))
  refine JS.cond E (fun ht10 => ?_) (fun ht10 => ?_)
  ·
   have h := condT h ht10
   refine JS.rg0 ttOk 1 [(4, .v (I (-1)))] ⟨⟨E, V⟩, E⟩ E E ?_
   cases h
   exact JS.ret ttOk () V E E [] E
  have h := condF h ht10
  refine JS.skip (JS.rg0 ttOk 2 [(4, .v (I y7))] ⟨⟨E, V⟩, E⟩ E E ?_)
  cases h
  exact JS.ret ttOk () V E E [] E

def M_l_toIntS_L1 (x0 : List Int) (j25 : (List Int) → Option (List Int)) (k17 : (List Int × Int) → Option (List Int)) : (List Int × Int) → Option (List Int) := fun (x8, x11) =>
  (bif (decide (x11 < (x0.length : Int))) then
  (guardO (0 ≤ x11 ∧ x11 < (x0.length : Int)) <|
  (guardO (0 ≤ x11 ∧ x11 < (x8.length : Int)) <|
  k17 ((List.set x8 (Int.toNat x11) (at' x0 x11)), (W (x11 + 1)))))
  else
  j25 x8)

def M_l_toIntS (x0 : List Int) : Option (List Int) :=
  (guardO (x0.length ≤ 536870912) <|
  (joinO (fun (x22 : List Int) =>
  some x22) fun j25 =>
  (fixF (M_l_toIntS_L1 x0 j25) FUEL ((List.replicate x0.length (0 : Int)), 0))))

theorem ok_l_toIntS (x0 : List Int) (a2 : Option Addr) (c3 : Nat) (l4 : Nat) (hl5 : x0.length = l4) (r : List Int) (h : M_l_toIntS x0 = some r) :
  FC Tryz.prog 15 [.slice a2 l4 c3] [⟨(.int .i64), ⟨a2, l4, c3⟩, x0⟩] (fun _ : Option Addr × Nat => True) (fun q => .slice q.1 r.length q.2) (fun q => [⟨(.int .i64), ⟨q.1, r.length, q.2⟩, r⟩]) :=
 by
  subst hl5
  refine FC.of (T := TTx) Tryz.call15 Tryz.func15 E E fun w0 => ?_
  unfold M_l_toIntS at h
  refine JS.rg0 ttOk 1 [] ⟨V, E⟩ E E (JS.seq (JS.region (JO.reg ttOk 2 [] [] [(6, .v (I (x0.length : Int)))] _ E ⟨⟨E, V⟩, E⟩ ?_)))
  obtain ⟨g6, h⟩ := guardO_some h
  refine JO.makeSlice ttOk E E E E E E E E x0.length E g6 (.int .i64) E E E E E fun a7 => JO.reg ttOk 1 [] [] [(3, .v (.slice a7 x0.length x0.length))] _ E ⟨⟨E, V⟩, E⟩ (JO.done E (JS.seq (JS.rg0 ttOk 1 [(4, .v (I 0))] ⟨⟨E, V⟩, E⟩ E E ?_)))
  obtain ⟨j25, hj33, h⟩ := joinO_some h
  refine JS.blockJ (ι := List Int × Option Addr × Nat) ⟨fun z => j25 z.1 = some r, fun z => [(3, .v (.slice z.2.1 z.1.length z.2.2))], fun z => .nil, fun z => [], fun z => [⟨(.int .i64), ⟨z.2.1, z.1.length, z.2.2⟩, z.1⟩], fun z => 0⟩ ?_ ?_
  ·
   refine JS.loop (ι := Nat × List Int × Int × Option Addr × Nat) ⟨fun z => fixF (M_l_toIntS_L1 x0 j25) z.1 (z.2.1, z.2.2.1) = some r, fun z => [(0, .v (.slice a2 x0.length c3)), (3, .v (.slice z.2.2.2.1 z.2.1.length (Q4 z))), (4, .v (I z.2.2.1))], fun z => .nil, fun z => [⟨(.int .i64), ⟨a2, x0.length, c3⟩, x0⟩], fun z => [⟨(.int .i64), ⟨z.2.2.2.1, z.2.1.length, (Q4 z)⟩, z.2.1⟩], fun z => z.1⟩ (FUEL, (List.replicate x0.length (0 : Int)), 0, a7, x0.length) h ⟨E, (by simp only [List.length_set, List.length_replicate, pickO, getF, cl32, cl46]; rfl), E, V⟩ V [0] E [0] (by simp only [List.length_set, List.length_replicate, pickO, getF, cl32, cl46]; rfl) ?_
   rintro ⟨n18, x8, x11, a9, c10⟩ h
   obtain ⟨n18, rfl, h⟩ := fixF_some h
   rw [M_l_toIntS_L1] at h
   refine JS.seq (JS.rg0 ttOk 4 [(11, .v (.bool (decide (x11 < (x0.length : Int)))))] ⟨⟨E, V⟩, E⟩ E E ?_)
   refine JS.cond E (fun ht32 => ?_) (fun ht32 => ?_)
   ·
    have h := condT h ht32
    refine JS.skip (JS.seq (JS.block (JS.region (JO.know 0 E fun hs30 => ?_))))
    obtain ⟨g13, h⟩ := guardO_some h
    refine JO.reg ttOk 5 [] [] [(14, .v (.slice a9 x8.length c10)), (15, .v (I x11)), (18, .ep ⟨a2, x0.length, c3⟩ (Int.toNat x11 * 1))] _ E ⟨hs30.ix g13, (Es E), E⟩ (JO.load ttOk E E E E E E E 0 E E (Int.toNat x11) 0 (at' x0 x11) ⟨at_some g13, E⟩ E E (JO.know 1 E fun hs31 => ?_))
    obtain ⟨g15, h⟩ := guardO_some h
    refine JO.reg ttOk 1 [] [] [(20, .ep ⟨a9, x8.length, c10⟩ (Int.toNat x11 * 1))] _ E ⟨hs31.ix g15, ⟨E, V⟩, E⟩ (JO.storeE ttOk E E E E E E E E E [0] (fs := []) E (Int.toNat x11) 0 (at' x8 x11) (at' x0 x11) ⟨at_some g15, E⟩ ⟨E, E, E⟩ (JO.done E (JS.endB (JS.re ttOk 3 [(W (x11 + 1))] [] [(4, .v (I (W (x11 + 1))))] _ ⟨⟨V, E⟩, ⟨E, V⟩, E⟩ E E (JS.endL (n18, (List.set x8 (Int.toNat x11) (at' x0 x11)), (W (x11 + 1)), a9, c10) h (Nat.lt_succ_self _) ⟨E, (by simp only [List.length_set, List.length_replicate, pickO, getF, cl32, cl46]; rfl), E, V⟩ V [0] E [0] (by simp only [List.length_set, List.length_replicate, pickO, getF, cl32, cl46]; rfl))))))
   have h := condF h ht32
   refine JS.exit E (JS.endJ (x8, a9, c10) h ⟨E, V⟩ V [] E [0] E)
  rintro ⟨x22, a23, c24⟩ h
  subst hj33
  refine JS.rg0 ttOk 2 [(2, .v (.slice a23 x22.length c24))] ⟨⟨E, V⟩, E⟩ E E ?_
  cases h
  exact JS.ret ttOk (a23, c24) V E E [0] E

def M_l_toLine (x0 : List Int × Int) : Option (List Int × Int) :=
  (bindO (M_l_toIntS x0.1) fun (y6 : List Int) =>
  some (y6, x0.2))

theorem ok_l_toLine (x0 : List Int × Int) (a2 : Option Addr) (c3 : Nat) (l4 : Nat) (hl5 : x0.1.length = l4) (r : List Int × Int) (h : M_l_toLine x0 = some r) :
  FC Tryz.prog 53 [.agg #[.slice a2 l4 c3, .int .i64 x0.2]] [⟨(.int .i64), ⟨a2, l4, c3⟩, x0.1⟩] (fun _ : Option Addr × Nat => True) (fun q => .agg #[.slice q.1 r.1.length q.2, .int .i64 r.2]) (fun q => [⟨(.int .i64), ⟨q.1, r.1.length, q.2⟩, r.1⟩]) :=
 by
  subst hl5
  refine FC.of (T := TTx) Tryz.call53 Tryz.func53 E E fun w0 => ?_
  unfold M_l_toLine at h
  refine JS.rgB ttOk 2 [] [2, 3] [(1, .bp 2 0), (2, .bp 3 0)] (.new 2 24 [.slice a2 x0.1.length c3, .int .i64 x0.2] (.new 3 38 [.slice none 0 0, .int .i64 0] .nil)) ⟨(Es E), (Bs E E)⟩ E E (JS.rgB ttOk 1 [] [4] [(3, .bp 4 0)] (.new 2 24 [.slice a2 x0.1.length c3, .int .i64 x0.2] (.new 3 38 [.slice none 0 0, .int .i64 0] (.new 4 38 [.slice none 0 0, .int .i64 0] .nil))) ⟨⟨E, V⟩, (Bs E E)⟩ E E (JS.seq (JS.region (JO.reg ttOk 2 [] [] [(5, .v (.slice a2 x0.1.length c3))] _ E ⟨⟨E, V⟩, E⟩ ?_))))
  obtain ⟨y6, hy7, h⟩ := bindO_some h
  refine JO.call E E E E (ok_l_toIntS x0.1 a2 c3 x0.1.length E _ hy7) E [0] E E ?_
  rintro ⟨a8, c9⟩ -
  refine JO.regB ttOk 2 [] [] [] (.new 2 24 [.slice a2 x0.1.length c3, .int .i64 x0.2] (.new 3 38 [.slice none 0 0, .int .i64 0] (.new 4 38 [.slice a8 y6.length c9, .int .i64 0] .nil))) E ⟨V, (Bs E E)⟩ (JO.done E (JS.rgB ttOk 4 [] [] [] (.new 3 38 [.slice none 0 0, .int .i64 0] (.new 4 38 [.slice a8 y6.length c9, .int .i64 x0.2] .nil)) ⟨V, (Bs E E)⟩ E E (JS.rgB ttOk 2 [] [] [] (.new 3 38 [.slice a8 y6.length c9, .int .i64 x0.2] .nil) ⟨V, (Bs E E)⟩ E E ?_)))
  cases h
  exact JS.ret ttOk (a8, c9) V E E [0] E

def M_l_toPiece (x0 : List Int) : Option (List Int) :=
  (bindO (M_l_toIntS x0) fun (y6 : List Int) =>
  some y6)

theorem ok_l_toPiece (x0 : List Int) (a2 : Option Addr) (c3 : Nat) (l4 : Nat) (hl5 : x0.length = l4) (r : List Int) (h : M_l_toPiece x0 = some r) :
  FC Tryz.prog 232 [.agg #[.slice a2 l4 c3]] [⟨(.int .i64), ⟨a2, l4, c3⟩, x0⟩] (fun _ : Option Addr × Nat => True) (fun q => .agg #[.slice q.1 r.length q.2]) (fun q => [⟨(.int .i64), ⟨q.1, r.length, q.2⟩, r⟩]) :=
 by
  subst hl5
  refine FC.of (T := TTx) Tryz.call232 Tryz.func232 E E fun w0 => ?_
  unfold M_l_toPiece at h
  refine JS.rgB ttOk 2 [] [2, 3] [(1, .bp 2 0), (2, .bp 3 0)] (.new 2 193 [.slice a2 x0.length c3] (.new 3 174 [.slice none 0 0] .nil)) ⟨(Es E), (Bs E E)⟩ E E (JS.rgB ttOk 1 [] [4] [(3, .bp 4 0)] (.new 2 193 [.slice a2 x0.length c3] (.new 3 174 [.slice none 0 0] (.new 4 174 [.slice none 0 0] .nil))) ⟨⟨E, V⟩, (Bs E E)⟩ E E (JS.seq (JS.region (JO.reg ttOk 2 [] [] [(5, .v (.slice a2 x0.length c3))] _ E ⟨⟨E, V⟩, E⟩ ?_))))
  obtain ⟨y6, hy7, h⟩ := bindO_some h
  refine JO.call E E E E (ok_l_toIntS x0 a2 c3 x0.length E _ hy7) E [0] E E ?_
  rintro ⟨a8, c9⟩ -
  refine JO.regB ttOk 2 [] [] [] (.new 3 174 [.slice none 0 0] (.new 4 174 [.slice a8 y6.length c9] .nil)) E ⟨V, (Bs E E)⟩ (JO.done E (JS.rgB ttOk 2 [] [] [] (.new 3 174 [.slice a8 y6.length c9] .nil) ⟨V, (Bs E E)⟩ E E ?_))
  cases h
  exact JS.ret ttOk (a8, c9) V E E [0] E

def M_l_toPieceS_L1 (x0 : List (List Int)) (j34 : (List (List Int)) → Option (List (List Int))) (k26 : (List (List Int) × Int) → Option (List (List Int))) : (List (List Int) × Int) → Option (List (List Int)) := fun (x8, x11) =>
  (bif (decide (x11 < (x0.length : Int))) then
  (guardO (0 ≤ x11 ∧ x11 < (x0.length : Int)) <|
  (bindO (M_l_toPiece (at' x0 x11)) fun (y19 : List Int) =>
  (guardO (0 ≤ x11 ∧ x11 < (x8.length : Int)) <|
  k26 ((List.set x8 (Int.toNat x11) y19), (W (x11 + 1))))))
  else
  j34 x8)

def M_l_toPieceS (x0 : List (List Int)) : Option (List (List Int)) :=
  (guardO (x0.length ≤ 536870912) <|
  (joinO (fun (x31 : List (List Int)) =>
  some x31) fun j34 =>
  (fixF (M_l_toPieceS_L1 x0 j34) FUEL ((List.replicate x0.length []), 0))))

theorem ok_l_toPieceS (x0 : List (List Int)) (a2 : Option Addr) (c3 : Nat) (l4 : Nat) (hl5 : x0.length = l4) (r : List (List Int)) (h : M_l_toPieceS x0 = some r) :
  FC Tryz.prog 139 [.slice a2 l4 c3] [⟨(.sl (.int .i64)), ⟨a2, l4, c3⟩, x0⟩] (fun _ : Option Addr × Nat => True) (fun q => .slice q.1 r.length q.2) (fun q => [⟨(.sl (.int .i64)), ⟨q.1, r.length, q.2⟩, r⟩]) :=
 by
  subst hl5
  refine FC.of (T := TTx) Tryz.call139 Tryz.func139 E E fun w0 => ?_
  unfold M_l_toPieceS at h
  refine JS.rg0 ttOk 1 [] ⟨V, E⟩ E E (JS.seq (JS.region (JO.reg ttOk 2 [] [] [(6, .v (I (x0.length : Int)))] _ E ⟨⟨E, V⟩, E⟩ ?_)))
  obtain ⟨g6, h⟩ := guardO_some h
  refine JO.makeSlice ttOk E E E E E E E E x0.length E g6 (.sl (.int .i64)) E E E E E fun a7 => JO.reg ttOk 1 [] [] [(3, .v (.slice a7 x0.length x0.length))] _ E ⟨⟨E, V⟩, E⟩ (JO.done E (JS.seq (JS.rg0 ttOk 1 [(4, .v (I 0))] ⟨⟨E, V⟩, E⟩ E E ?_)))
  obtain ⟨j34, hj42, h⟩ := joinO_some h
  refine JS.blockJ (ι := List (List Int) × Option Addr × Nat) ⟨fun z => j34 z.1 = some r, fun z => [(3, .v (.slice z.2.1 z.1.length z.2.2))], fun z => .nil, fun z => [], fun z => [⟨(.sl (.int .i64)), ⟨z.2.1, z.1.length, z.2.2⟩, z.1⟩], fun z => 0⟩ ?_ ?_
  ·
   refine JS.loop (ι := Nat × List (List Int) × Int × Option Addr × Nat) ⟨fun z => fixF (M_l_toPieceS_L1 x0 j34) z.1 (z.2.1, z.2.2.1) = some r, fun z => [(0, .v (.slice a2 x0.length c3)), (3, .v (.slice z.2.2.2.1 z.2.1.length (Q4 z))), (4, .v (I z.2.2.1))], fun z => .nil, fun z => [⟨(.sl (.int .i64)), ⟨a2, x0.length, c3⟩, x0⟩], fun z => [⟨(.sl (.int .i64)), ⟨z.2.2.2.1, z.2.1.length, (Q4 z)⟩, z.2.1⟩], fun z => z.1⟩ (FUEL, (List.replicate x0.length []), 0, a7, x0.length) h ⟨E, (by simp only [List.length_set, List.length_replicate, pickO, getF, cl32, cl46]; rfl), E, V⟩ V [0] E [0] (by simp only [List.length_set, List.length_replicate, pickO, getF, cl32, cl46]; rfl) ?_
   rintro ⟨n27, x8, x11, a9, c10⟩ h
   obtain ⟨n27, rfl, h⟩ := fixF_some h
   rw [M_l_toPieceS_L1] at h
   refine JS.seq (JS.rg0 ttOk 4 [(11, .v (.bool (decide (x11 < (x0.length : Int)))))] ⟨⟨E, V⟩, E⟩ E E ?_)
   refine JS.cond E (fun ht41 => ?_) (fun ht41 => ?_)
   ·
    have h := condT h ht41
    refine JS.skip (JS.seq (JS.block (JS.region (JO.know 0 E fun hs39 => ?_))))
    obtain ⟨g13, h⟩ := guardO_some h
    refine JO.reg ttOk 5 [] [] [(14, .v (.slice a9 x8.length c10)), (15, .v (I x11)), (18, .ep ⟨a2, x0.length, c3⟩ (Int.toNat x11 * 1))] _ E ⟨hs39.ix g13, (Es E), E⟩ (JO.openR 0 E (Int.toNat x11) (at' x0 x11) E fun a14 c15 ys16 hl17 hy18 => JO.loadV ttOk E E E E E E 0 E E (Int.toNat x11) 0 (Sl.v ⟨a14, (at' x0 x11).length, c15⟩) ⟨hy18 (ltNat g13), E⟩ E E E ?_)
    obtain ⟨y19, hy20, h⟩ := bindO_some h
    refine JO.call E E E E (ok_l_toPiece (at' x0 x11) a14 c15 ((at' x0 x11).length) E _ hy20) E [1] E E ?_
    rintro ⟨a21, c22⟩ -
    refine JO.know 4 E fun hs40 => ?_
    obtain ⟨g24, h⟩ := guardO_some h
    refine JO.reg ttOk 1 [] [] [(21, .ep ⟨a9, x8.length, c10⟩ (Int.toNat x11 * 1))] _ E ⟨hs40.ix g24, ⟨E, V⟩, E⟩ (JO.storeE ttOk E E E E E E E E E [1, 0] (fs := [⟨(.int .i64), ⟨a21, y19.length, c22⟩, y19⟩]) E (Int.toNat x11) 0 (at' x8 x11) y19 ⟨at_some g24, E⟩ ⟨E, E, E, E⟩ (JO.done E (JS.endB (JS.re ttOk 3 [(W (x11 + 1))] [] [(4, .v (I (W (x11 + 1))))] _ ⟨⟨V, E⟩, ⟨E, V⟩, E⟩ E E (JS.endL (n27, (List.set x8 (Int.toNat x11) y19), (W (x11 + 1)), a9, c10) h (Nat.lt_succ_self _) ⟨E, (by simp only [List.length_set, List.length_replicate, pickO, getF, cl32, cl46]; rfl), E, V⟩ V [2] E [0] (by simp only [List.length_set, List.length_replicate, pickO, getF, cl32, cl46]; rfl))))))
   have h := condF h ht41
   refine JS.exit E (JS.endJ (x8, a9, c10) h ⟨E, V⟩ V [] E [0] E)
  rintro ⟨x31, a32, c33⟩ h
  subst hj42
  refine JS.rg0 ttOk 2 [(2, .v (.slice a32 x31.length c33))] ⟨⟨E, V⟩, E⟩ E E ?_
  cases h
  exact JS.ret ttOk (a32, c33) V E E [0] E

def M_l_toRing (x0 : List (List Int)) : Option (List (List Int)) :=
  (bindO (M_l_toPieceS x0) fun (y6 : List (List Int)) =>
  some y6)

theorem ok_l_toRing (x0 : List (List Int)) (a2 : Option Addr) (c3 : Nat) (l4 : Nat) (hl5 : x0.length = l4) (r : List (List Int)) (h : M_l_toRing x0 = some r) :
  FC Tryz.prog 54 [.agg #[.slice a2 l4 c3]] [⟨(.sl (.int .i64)), ⟨a2, l4, c3⟩, x0⟩] (fun _ : Option Addr × Nat => True) (fun q => .agg #[.slice q.1 r.length q.2]) (fun q => [⟨(.sl (.int .i64)), ⟨q.1, r.length, q.2⟩, r⟩]) :=
 by
  subst hl5
  refine FC.of (T := TTx) Tryz.call54 Tryz.func54 E E fun w0 => ?_
  unfold M_l_toRing at h
  refine JS.rgB ttOk 2 [] [2, 3] [(1, .bp 2 0), (2, .bp 3 0)] (.new 2 27 [.slice a2 x0.length c3] (.new 3 41 [.slice none 0 0] .nil)) ⟨(Es E), (Bs E E)⟩ E E (JS.rgB ttOk 1 [] [4] [(3, .bp 4 0)] (.new 2 27 [.slice a2 x0.length c3] (.new 3 41 [.slice none 0 0] (.new 4 41 [.slice none 0 0] .nil))) ⟨⟨E, V⟩, (Bs E E)⟩ E E (JS.seq (JS.region (JO.reg ttOk 2 [] [] [(5, .v (.slice a2 x0.length c3))] _ E ⟨⟨E, V⟩, E⟩ ?_))))
  obtain ⟨y6, hy7, h⟩ := bindO_some h
  refine JO.call E E E E (ok_l_toPieceS x0 a2 c3 x0.length E _ hy7) E [0] E E ?_
  rintro ⟨a8, c9⟩ -
  refine JO.regB ttOk 2 [] [] [] (.new 3 41 [.slice none 0 0] (.new 4 41 [.slice a8 y6.length c9] .nil)) E ⟨V, (Bs E E)⟩ (JO.done E (JS.rgB ttOk 2 [] [] [] (.new 3 41 [.slice a8 y6.length c9] .nil) ⟨V, (Bs E E)⟩ E E ?_))
  cases h
  exact JS.ret ttOk (a8, c9) V E E [0] E

def M_l_toLineS_L1 (x0 : List (List Int × Int)) (j34 : (List (List Int × Int)) → Option (List (List Int × Int))) (k26 : ((List (List Int × Int)) × Int) → Option (List (List Int × Int))) : ((List (List Int × Int)) × Int) → Option (List (List Int × Int)) := fun (x8, x11) =>
  (bif (decide (x11 < (x0.length : Int))) then
  (guardO (0 ≤ x11 ∧ x11 < (x0.length : Int)) <|
  (bindO (M_l_toLine ((at' x0 x11).1, (at' x0 x11).2)) fun (y19 : List Int × Int) =>
  (guardO (0 ≤ x11 ∧ x11 < (x8.length : Int)) <|
  k26 ((List.set x8 (Int.toNat x11) y19), (W (x11 + 1))))))
  else
  j34 x8)

def M_l_toLineS (x0 : List (List Int × Int)) : Option (List (List Int × Int)) :=
  (guardO (x0.length ≤ 536870912) <|
  (joinO (fun (x31 : List (List Int × Int)) =>
  some x31) fun j34 =>
  (fixF (M_l_toLineS_L1 x0 j34) FUEL ((List.replicate x0.length ([], (0 : Int))), 0))))

theorem ok_l_toLineS (x0 : List (List Int × Int)) (a2 : Option Addr) (c3 : Nat) (l4 : Nat) (hl5 : x0.length = l4) (r : List (List Int × Int)) (h : M_l_toLineS x0 = some r) :
  FC Tryz.prog 140 [.slice a2 l4 c3] [⟨(.pair (.sl (.int .i64)) (.int .i64)), ⟨a2, l4, c3⟩, x0⟩] (fun _ : Option Addr × Nat => True) (fun q => .slice q.1 r.length q.2) (fun q => [⟨(.pair (.sl (.int .i64)) (.int .i64)), ⟨q.1, r.length, q.2⟩, r⟩]) :=
 by
  subst hl5
  refine FC.of (T := TTx) Tryz.call140 Tryz.func140 E E fun w0 => ?_
  unfold M_l_toLineS at h
  refine JS.rg0 ttOk 1 [] ⟨V, E⟩ E E (JS.seq (JS.region (JO.reg ttOk 2 [] [] [(6, .v (I (x0.length : Int)))] _ E ⟨⟨E, V⟩, E⟩ ?_)))
  obtain ⟨g6, h⟩ := guardO_some h
  refine JO.makeSlice ttOk E E E E E E E E x0.length E g6 (.pair (.sl (.int .i64)) (.int .i64)) E E E E E fun a7 => JO.reg ttOk 1 [] [] [(3, .v (.slice a7 x0.length x0.length))] _ E ⟨⟨E, V⟩, E⟩ (JO.done E (JS.seq (JS.rg0 ttOk 1 [(4, .v (I 0))] ⟨⟨E, V⟩, E⟩ E E ?_)))
  obtain ⟨j34, hj42, h⟩ := joinO_some h
  refine JS.blockJ (ι := (List (List Int × Int)) × Option Addr × Nat) ⟨fun z => j34 z.1 = some r, fun z => [(3, .v (.slice z.2.1 z.1.length z.2.2))], fun z => .nil, fun z => [], fun z => [⟨(.pair (.sl (.int .i64)) (.int .i64)), ⟨z.2.1, z.1.length, z.2.2⟩, z.1⟩], fun z => 0⟩ ?_ ?_
  ·
   refine JS.loop (ι := Nat × (List (List Int × Int)) × Int × Option Addr × Nat) ⟨fun z => fixF (M_l_toLineS_L1 x0 j34) z.1 (z.2.1, z.2.2.1) = some r, fun z => [(0, .v (.slice a2 x0.length c3)), (3, .v (.slice z.2.2.2.1 z.2.1.length (Q4 z))), (4, .v (I z.2.2.1))], fun z => .nil, fun z => [⟨(.pair (.sl (.int .i64)) (.int .i64)), ⟨a2, x0.length, c3⟩, x0⟩], fun z => [⟨(.pair (.sl (.int .i64)) (.int .i64)), ⟨z.2.2.2.1, z.2.1.length, (Q4 z)⟩, z.2.1⟩], fun z => z.1⟩ (FUEL, (List.replicate x0.length ([], (0 : Int))), 0, a7, x0.length) h ⟨E, (by simp only [List.length_set, List.length_replicate, pickO, getF, cl32, cl46]; rfl), E, V⟩ V [0] E [0] (by simp only [List.length_set, List.length_replicate, pickO, getF, cl32, cl46]; rfl) ?_
   rintro ⟨n27, x8, x11, a9, c10⟩ h
   obtain ⟨n27, rfl, h⟩ := fixF_some h
   rw [M_l_toLineS_L1] at h
   refine JS.seq (JS.rg0 ttOk 4 [(11, .v (.bool (decide (x11 < (x0.length : Int)))))] ⟨⟨E, V⟩, E⟩ E E ?_)
   refine JS.cond E (fun ht41 => ?_) (fun ht41 => ?_)
   ·
    have h := condT h ht41
    refine JS.skip (JS.seq (JS.block (JS.region (JO.know 0 E fun hs39 => ?_))))
    obtain ⟨g13, h⟩ := guardO_some h
    refine JO.reg ttOk 5 [] [] [(14, .v (.slice a9 x8.length c10)), (15, .v (I x11)), (18, .ep ⟨a2, x0.length, c3⟩ (Int.toNat x11 * 2))] _ E ⟨hs39.ix g13, (Es E), E⟩ (JO.openR 0 E (Int.toNat x11) (at' x0 x11) E fun a14 c15 ys16 hl17 hy18 => JO.loadV ttOk E E E E E E 0 E E (Int.toNat x11) 0 ((Sl.v ⟨a14, ((at' x0 x11).1).length, c15⟩), (at' x0 x11).2) ⟨hy18 (ltNat g13), E⟩ E E E ?_)
    obtain ⟨y19, hy20, h⟩ := bindO_some h
    refine JO.call E E E E (ok_l_toLine ((at' x0 x11).1, (at' x0 x11).2) a14 c15 (((at' x0 x11).1).length) E _ hy20) E [1] E E ?_
    rintro ⟨a21, c22⟩ -
    refine JO.know 4 E fun hs40 => ?_
    obtain ⟨g24, h⟩ := guardO_some h
    refine JO.reg ttOk 1 [] [] [(21, .ep ⟨a9, x8.length, c10⟩ (Int.toNat x11 * 2))] _ E ⟨hs40.ix g24, ⟨E, V⟩, E⟩ (JO.storeE ttOk E E E E E E E E E [1, 0] (fs := [⟨(.int .i64), ⟨a21, y19.1.length, c22⟩, y19.1⟩]) E (Int.toNat x11) 0 (at' x8 x11) y19 ⟨at_some g24, E⟩ ⟨E, E, E, E⟩ (JO.done E (JS.endB (JS.re ttOk 3 [(W (x11 + 1))] [] [(4, .v (I (W (x11 + 1))))] _ ⟨⟨V, E⟩, ⟨E, V⟩, E⟩ E E (JS.endL (n27, (List.set x8 (Int.toNat x11) y19), (W (x11 + 1)), a9, c10) h (Nat.lt_succ_self _) ⟨E, (by simp only [List.length_set, List.length_replicate, pickO, getF, cl32, cl46]; rfl), E, V⟩ V [2] E [0] (by simp only [List.length_set, List.length_replicate, pickO, getF, cl32, cl46]; rfl))))))
   have h := condF h ht41
   refine JS.exit E (JS.endJ (x8, a9, c10) h ⟨E, V⟩ V [] E [0] E)
  rintro ⟨x31, a32, c33⟩ h
  subst hj42
  refine JS.rg0 ttOk 2 [(2, .v (.slice a32 x31.length c33))] ⟨⟨E, V⟩, E⟩ E E ?_
  cases h
  exact JS.ret ttOk (a32, c33) V E E [0] E

def M_l_toUndo (x0 : List (List Int × Int)) : Option (List (List Int × Int)) :=
  (bindO (M_l_toLineS x0) fun (y6 : List (List Int × Int)) =>
  some y6)

theorem ok_l_toUndo (x0 : List (List Int × Int)) (a2 : Option Addr) (c3 : Nat) (l4 : Nat) (hl5 : x0.length = l4) (r : List (List Int × Int)) (h : M_l_toUndo x0 = some r) :
  FC Tryz.prog 55 [.agg #[.slice a2 l4 c3]] [⟨(.pair (.sl (.int .i64)) (.int .i64)), ⟨a2, l4, c3⟩, x0⟩] (fun _ : Option Addr × Nat => True) (fun q => .agg #[.slice q.1 r.length q.2]) (fun q => [⟨(.pair (.sl (.int .i64)) (.int .i64)), ⟨q.1, r.length, q.2⟩, r⟩]) :=
 by
  subst hl5
  refine FC.of (T := TTx) Tryz.call55 Tryz.func55 E E fun w0 => ?_
  unfold M_l_toUndo at h
  refine JS.rgB ttOk 2 [] [2, 3] [(1, .bp 2 0), (2, .bp 3 0)] (.new 2 30 [.slice a2 x0.length c3] (.new 3 44 [.slice none 0 0] .nil)) ⟨(Es E), (Bs E E)⟩ E E (JS.rgB ttOk 1 [] [4] [(3, .bp 4 0)] (.new 2 30 [.slice a2 x0.length c3] (.new 3 44 [.slice none 0 0] (.new 4 44 [.slice none 0 0] .nil))) ⟨⟨E, V⟩, (Bs E E)⟩ E E (JS.seq (JS.region (JO.reg ttOk 2 [] [] [(5, .v (.slice a2 x0.length c3))] _ E ⟨⟨E, V⟩, E⟩ ?_))))
  obtain ⟨y6, hy7, h⟩ := bindO_some h
  refine JO.call E E E E (ok_l_toLineS x0 a2 c3 x0.length E _ hy7) E [0] E E ?_
  rintro ⟨a8, c9⟩ -
  refine JO.regB ttOk 2 [] [] [] (.new 3 44 [.slice none 0 0] (.new 4 44 [.slice a8 y6.length c9] .nil)) E ⟨V, (Bs E E)⟩ (JO.done E (JS.rgB ttOk 2 [] [] [] (.new 3 44 [.slice a8 y6.length c9] .nil) ⟨V, (Bs E E)⟩ E E ?_))
  cases h
  exact JS.ret ttOk (a8, c9) V E E [0] E

def M_l_toEd (x0 : EdQ) : Option EdQ :=
  (bindO (M_l_toLine x0.2.2.1) fun (y26 : List Int × Int) =>
  (bindO (M_l_toRing x0.2.2.2.2.2.2.2.2.2.2.1) fun (y30 : List (List Int)) =>
  (bindO (M_l_toUndo x0.2.2.2.2.2.2.2.2.2.2.2.1) fun (y34 : List (List Int × Int)) =>
  (bindO (M_l_toLine x0.2.2.2.2.2.2.2.2.2.2.2.2.2.1) fun (y38 : List Int × Int) =>
  (bindO (M_l_toIntS x0.2.2.2.2.2.2.2.2.2.2.2.2.2.2.1) fun (y42 : List Int) =>
  (bindO (M_l_toLine x0.2.2.2.2.2.2.2.2.2.2.2.2.2.2.2.2) fun (y46 : List Int × Int) =>
  some (x0.1, x0.2.1, y26, x0.2.2.2.1, x0.2.2.2.2.1, x0.2.2.2.2.2.1, x0.2.2.2.2.2.2.1, x0.2.2.2.2.2.2.2.1, x0.2.2.2.2.2.2.2.2.1, x0.2.2.2.2.2.2.2.2.2.1, y30, y34, x0.2.2.2.2.2.2.2.2.2.2.2.2.1, y38, y42, x0.2.2.2.2.2.2.2.2.2.2.2.2.2.2.2.1, y46)))))))

theorem ok_l_toEd (x0 : EdQ) (a2 : Option Addr) (c3 : Nat) (l4 : Nat) (hl5 : x0.2.2.1.1.length = l4) (a6 : Option Addr) (c7 : Nat) (l8 : Nat) (hl9 : (Q8 x0).2.2.1.length = l8) (a10 : Option Addr) (c11 : Nat) (l12 : Nat) (hl13 : (Q8 x0).2.2.2.1.length = l12) (a14 : Option Addr) (c15 : Nat) (l16 : Nat) (hl17 : (Q12 x0).2.1.1.length = l16) (a18 : Option Addr) (c19 : Nat) (l20 : Nat) (hl21 : (Q12 x0).2.2.1.length = l20) (a22 : Option Addr) (c23 : Nat) (l24 : Nat) (hl25 : (Q16 x0).1.length = l24) (r : EdQ) (h : M_l_toEd x0 = some r) :
  FC Tryz.prog 13 [.agg #[.bool x0.1, .int .i64 x0.2.1, .slice a2 l4 c3, .int .i64 x0.2.2.1.2, .int .i64 x0.2.2.2.1, .int .i64 (Q4 x0).1, .int .i64 (Q4 x0).2.1, .int .i64 (Q4 x0).2.2.1, .int .i64 (Q4 x0).2.2.2.1, .int .i64 (Q8 x0).1, .int .i64 (Q8 x0).2.1, .slice a6 l8 c7, .slice a10 l12 c11, .int .i64 (Q12 x0).1, .slice a14 l16 c15, .int .i64 (Q12 x0).2.1.2, .slice a18 l20 c19, .int .i64 (Q12 x0).2.2.2.1, .slice a22 l24 c23, .int .i64 (Q16 x0).2]] [⟨(.int .i64), ⟨a2, l4, c3⟩, x0.2.2.1.1⟩, ⟨(.sl (.int .i64)), ⟨a6, l8, c7⟩, (Q8 x0).2.2.1⟩, ⟨(.pair (.sl (.int .i64)) (.int .i64)), ⟨a10, l12, c11⟩, (Q8 x0).2.2.2.1⟩, ⟨(.int .i64), ⟨a14, l16, c15⟩, (Q12 x0).2.1.1⟩, ⟨(.int .i64), ⟨a18, l20, c19⟩, (Q12 x0).2.2.1⟩, ⟨(.int .i64), ⟨a22, l24, c23⟩, (Q16 x0).1⟩] (fun _ : Option Addr × Nat × Option Addr × Nat × Option Addr × Nat × Option Addr × Nat × Option Addr × Nat × Option Addr × Nat => True) (fun q => .agg (cl46 r q.1 q.2.1 q.2.2.1 q.2.2.2.1 (Q4 q).1 (Q4 q).2.1 (Q4 q).2.2.1 (Q4 q).2.2.2.1 (Q8 q).1 (Q8 q).2.1 (Q8 q).2.2.1 (Q8 q).2.2.2).toArray) (fun q => (fl32 r q.1 q.2.1 q.2.2.1 q.2.2.2.1 (Q4 q).1 (Q4 q).2.1 (Q4 q).2.2.1 (Q4 q).2.2.2.1 (Q8 q).1 (Q8 q).2.1 (Q8 q).2.2.1 (Q8 q).2.2.2 [])) :=
 by
  subst hl5
  subst hl9
  subst hl13
  subst hl17
  subst hl21
  subst hl25
  refine FC.of (T := TTx) Tryz.call13 Tryz.func13 E E fun w0 => ?_
  unfold M_l_toEd at h
  refine JS.rgB ttOk 2 [] [7, 8] [(1, .bp 7 0), (2, .bp 8 0)] (.new 7 32 (cl32 x0 a2 c3 a6 c7 a10 c11 a14 c15 a18 c19 a22 c23) (.new 8 46 cz46 .nil)) ⟨(Es E), (Bs E E)⟩ E E (JS.rgB ttOk 1 [] [9] [(3, .bp 9 0)] (.new 7 32 (cl32 x0 a2 c3 a6 c7 a10 c11 a14 c15 a18 c19 a22 c23) (.new 8 46 cz46 (.new 9 46 cz46 .nil))) ⟨⟨E, V⟩, (Bs E E)⟩ E E (JS.rgB ttOk 4 [] [] [] (.new 7 32 (cl32 x0 a2 c3 a6 c7 a10 c11 a14 c15 a18 c19 a22 c23) (.new 8 46 cz46 (.new 9 46 (cl46 (x0.1, 0, ([], 0), 0, 0, 0, 0, 0, 0, 0, [], [], 0, ([], 0), [], 0, ([], 0)) none 0 none 0 none 0 none 0 none 0 none 0) .nil))) ⟨V, (Bs E E)⟩ E E (JS.rgB ttOk 4 [] [] [] (.new 7 32 (cl32 x0 a2 c3 a6 c7 a10 c11 a14 c15 a18 c19 a22 c23) (.new 8 46 cz46 (.new 9 46 (cl46 (x0.1, x0.2.1, ([], 0), 0, 0, 0, 0, 0, 0, 0, [], [], 0, ([], 0), [], 0, ([], 0)) none 0 none 0 none 0 none 0 none 0 none 0) .nil))) ⟨V, (Bs E E)⟩ E E (JS.seq (JS.region (JO.reg ttOk 2 [] [] [(11, .v (.agg #[.slice a2 x0.2.2.1.1.length c3, .int .i64 x0.2.2.1.2]))] _ E ⟨⟨E, V⟩, E⟩ ?_))))))
  obtain ⟨y26, hy27, h⟩ := bindO_some h
  refine JO.call E E E E (ok_l_toLine x0.2.2.1 a2 c3 x0.2.2.1.1.length E _ hy27) E [0] E E ?_
  rintro ⟨a28, c29⟩ -
  refine JO.regB ttOk 2 [] [] [] (.new 7 32 (cl32 x0 a2 c3 a6 c7 a10 c11 a14 c15 a18 c19 a22 c23) (.new 8 46 cz46 (.new 9 46 (cl46 (x0.1, x0.2.1, y26, 0, 0, 0, 0, 0, 0, 0, [], [], 0, ([], 0), [], 0, ([], 0)) a28 c29 none 0 none 0 none 0 none 0 none 0) .nil))) E ⟨V, (Bs E E)⟩ (JO.done E (JS.rgB ttOk 4 [] [] [] (.new 7 32 (cl32 x0 a2 c3 a6 c7 a10 c11 a14 c15 a18 c19 a22 c23) (.new 8 46 cz46 (.new 9 46 (cl46 (x0.1, x0.2.1, y26, x0.2.2.2.1, 0, 0, 0, 0, 0, 0, [], [], 0, ([], 0), [], 0, ([], 0)) a28 c29 none 0 none 0 none 0 none 0 none 0) .nil))) ⟨V, (Bs E E)⟩ E E (JS.rgB ttOk 4 [] [] [] (.new 7 32 (cl32 x0 a2 c3 a6 c7 a10 c11 a14 c15 a18 c19 a22 c23) (.new 8 46 cz46 (.new 9 46 (cl46 (x0.1, x0.2.1, y26, x0.2.2.2.1, (Q4 x0).1, 0, 0, 0, 0, 0, [], [], 0, ([], 0), [], 0, ([], 0)) a28 c29 none 0 none 0 none 0 none 0 none 0) .nil))) ⟨V, (Bs E E)⟩ E E (JS.rgB ttOk 4 [] [] [] (.new 7 32 (cl32 x0 a2 c3 a6 c7 a10 c11 a14 c15 a18 c19 a22 c23) (.new 8 46 cz46 (.new 9 46 (cl46 (x0.1, x0.2.1, y26, x0.2.2.2.1, (Q4 x0).1, (Q4 x0).2.1, 0, 0, 0, 0, [], [], 0, ([], 0), [], 0, ([], 0)) a28 c29 none 0 none 0 none 0 none 0 none 0) .nil))) ⟨V, (Bs E E)⟩ E E (JS.rgB ttOk 4 [] [] [] (.new 7 32 (cl32 x0 a2 c3 a6 c7 a10 c11 a14 c15 a18 c19 a22 c23) (.new 8 46 cz46 (.new 9 46 (cl46 (x0.1, x0.2.1, y26, x0.2.2.2.1, (Q4 x0).1, (Q4 x0).2.1, (Q4 x0).2.2.1, 0, 0, 0, [], [], 0, ([], 0), [], 0, ([], 0)) a28 c29 none 0 none 0 none 0 none 0 none 0) .nil))) ⟨V, (Bs E E)⟩ E E (JS.rgB ttOk 4 [] [] [] (.new 7 32 (cl32 x0 a2 c3 a6 c7 a10 c11 a14 c15 a18 c19 a22 c23) (.new 8 46 cz46 (.new 9 46 (cl46 (x0.1, x0.2.1, y26, x0.2.2.2.1, (Q4 x0).1, (Q4 x0).2.1, (Q4 x0).2.2.1, (Q4 x0).2.2.2.1, 0, 0, [], [], 0, ([], 0), [], 0, ([], 0)) a28 c29 none 0 none 0 none 0 none 0 none 0) .nil))) ⟨V, (Bs E E)⟩ E E (JS.rgB ttOk 4 [] [] [] (.new 7 32 (cl32 x0 a2 c3 a6 c7 a10 c11 a14 c15 a18 c19 a22 c23) (.new 8 46 cz46 (.new 9 46 (cl46 (x0.1, x0.2.1, y26, x0.2.2.2.1, (Q4 x0).1, (Q4 x0).2.1, (Q4 x0).2.2.1, (Q4 x0).2.2.2.1, (Q8 x0).1, 0, [], [], 0, ([], 0), [], 0, ([], 0)) a28 c29 none 0 none 0 none 0 none 0 none 0) .nil))) ⟨V, (Bs E E)⟩ E E (JS.rgB ttOk 4 [] [] [] (.new 7 32 (cl32 x0 a2 c3 a6 c7 a10 c11 a14 c15 a18 c19 a22 c23) (.new 8 46 cz46 (.new 9 46 (cl46 (x0.1, x0.2.1, y26, x0.2.2.2.1, (Q4 x0).1, (Q4 x0).2.1, (Q4 x0).2.2.1, (Q4 x0).2.2.2.1, (Q8 x0).1, (Q8 x0).2.1, [], [], 0, ([], 0), [], 0, ([], 0)) a28 c29 none 0 none 0 none 0 none 0 none 0) .nil))) ⟨V, (Bs E E)⟩ E E (JS.seq (JS.region (JO.reg ttOk 2 [] [] [(36, .v (.agg #[.slice a6 (Q8 x0).2.2.1.length c7]))] _ E ⟨⟨E, V⟩, E⟩ ?_)))))))))))
  obtain ⟨y30, hy31, h⟩ := bindO_some h
  refine JO.call E E E E (ok_l_toRing (Q8 x0).2.2.1 a6 c7 (Q8 x0).2.2.1.length E _ hy31) E [1] E E ?_
  rintro ⟨a32, c33⟩ -
  refine JO.regB ttOk 2 [] [] [] (.new 7 32 (cl32 x0 a2 c3 a6 c7 a10 c11 a14 c15 a18 c19 a22 c23) (.new 8 46 cz46 (.new 9 46 (cl46 (x0.1, x0.2.1, y26, x0.2.2.2.1, (Q4 x0).1, (Q4 x0).2.1, (Q4 x0).2.2.1, (Q4 x0).2.2.2.1, (Q8 x0).1, (Q8 x0).2.1, y30, [], 0, ([], 0), [], 0, ([], 0)) a28 c29 a32 c33 none 0 none 0 none 0 none 0) .nil))) E ⟨V, (Bs E E)⟩ (JO.done E (JS.seq (JS.region (JO.reg ttOk 2 [] [] [(40, .v (.agg #[.slice a10 (Q8 x0).2.2.2.1.length c11]))] _ E ⟨⟨E, V⟩, E⟩ ?_))))
  obtain ⟨y34, hy35, h⟩ := bindO_some h
  refine JO.call E E E E (ok_l_toUndo (Q8 x0).2.2.2.1 a10 c11 (Q8 x0).2.2.2.1.length E _ hy35) E [2] E E ?_
  rintro ⟨a36, c37⟩ -
  refine JO.regB ttOk 2 [] [] [] (.new 7 32 (cl32 x0 a2 c3 a6 c7 a10 c11 a14 c15 a18 c19 a22 c23) (.new 8 46 cz46 (.new 9 46 (cl46 (x0.1, x0.2.1, y26, x0.2.2.2.1, (Q4 x0).1, (Q4 x0).2.1, (Q4 x0).2.2.1, (Q4 x0).2.2.2.1, (Q8 x0).1, (Q8 x0).2.1, y30, y34, 0, ([], 0), [], 0, ([], 0)) a28 c29 a32 c33 a36 c37 none 0 none 0 none 0) .nil))) E ⟨V, (Bs E E)⟩ (JO.done E (JS.rgB ttOk 4 [] [] [] (.new 7 32 (cl32 x0 a2 c3 a6 c7 a10 c11 a14 c15 a18 c19 a22 c23) (.new 8 46 cz46 (.new 9 46 (cl46 (x0.1, x0.2.1, y26, x0.2.2.2.1, (Q4 x0).1, (Q4 x0).2.1, (Q4 x0).2.2.1, (Q4 x0).2.2.2.1, (Q8 x0).1, (Q8 x0).2.1, y30, y34, (Q12 x0).1, ([], 0), [], 0, ([], 0)) a28 c29 a32 c33 a36 c37 none 0 none 0 none 0) .nil))) ⟨V, (Bs E E)⟩ E E (JS.seq (JS.region (JO.reg ttOk 2 [] [] [(47, .v (.agg #[.slice a14 (Q12 x0).2.1.1.length c15, .int .i64 (Q12 x0).2.1.2]))] _ E ⟨⟨E, V⟩, E⟩ ?_)))))
  obtain ⟨y38, hy39, h⟩ := bindO_some h
  refine JO.call E E E E (ok_l_toLine (Q12 x0).2.1 a14 c15 (Q12 x0).2.1.1.length E _ hy39) E [3] E E ?_
  rintro ⟨a40, c41⟩ -
  refine JO.regB ttOk 2 [] [] [] (.new 7 32 (cl32 x0 a2 c3 a6 c7 a10 c11 a14 c15 a18 c19 a22 c23) (.new 8 46 cz46 (.new 9 46 (cl46 (x0.1, x0.2.1, y26, x0.2.2.2.1, (Q4 x0).1, (Q4 x0).2.1, (Q4 x0).2.2.1, (Q4 x0).2.2.2.1, (Q8 x0).1, (Q8 x0).2.1, y30, y34, (Q12 x0).1, y38, [], 0, ([], 0)) a28 c29 a32 c33 a36 c37 a40 c41 none 0 none 0) .nil))) E ⟨V, (Bs E E)⟩ (JO.done E (JS.seq (JS.region (JO.reg ttOk 2 [] [] [(51, .v (.slice a18 (Q12 x0).2.2.1.length c19))] _ E ⟨⟨E, V⟩, E⟩ ?_))))
  obtain ⟨y42, hy43, h⟩ := bindO_some h
  refine JO.call E E E E (ok_l_toIntS (Q12 x0).2.2.1 a18 c19 (Q12 x0).2.2.1.length E _ hy43) E [4] E E ?_
  rintro ⟨a44, c45⟩ -
  refine JO.regB ttOk 2 [] [] [] (.new 7 32 (cl32 x0 a2 c3 a6 c7 a10 c11 a14 c15 a18 c19 a22 c23) (.new 8 46 cz46 (.new 9 46 (cl46 (x0.1, x0.2.1, y26, x0.2.2.2.1, (Q4 x0).1, (Q4 x0).2.1, (Q4 x0).2.2.1, (Q4 x0).2.2.2.1, (Q8 x0).1, (Q8 x0).2.1, y30, y34, (Q12 x0).1, y38, y42, 0, ([], 0)) a28 c29 a32 c33 a36 c37 a40 c41 a44 c45 none 0) .nil))) E ⟨V, (Bs E E)⟩ (JO.done E (JS.rgB ttOk 4 [] [] [] (.new 7 32 (cl32 x0 a2 c3 a6 c7 a10 c11 a14 c15 a18 c19 a22 c23) (.new 8 46 cz46 (.new 9 46 (cl46 (x0.1, x0.2.1, y26, x0.2.2.2.1, (Q4 x0).1, (Q4 x0).2.1, (Q4 x0).2.2.1, (Q4 x0).2.2.2.1, (Q8 x0).1, (Q8 x0).2.1, y30, y34, (Q12 x0).1, y38, y42, (Q12 x0).2.2.2.1, ([], 0)) a28 c29 a32 c33 a36 c37 a40 c41 a44 c45 none 0) .nil))) ⟨V, (Bs E E)⟩ E E (JS.seq (JS.region (JO.reg ttOk 2 [] [] [(58, .v (.agg #[.slice a22 (Q16 x0).1.length c23, .int .i64 (Q16 x0).2]))] _ E ⟨⟨E, V⟩, E⟩ ?_)))))
  obtain ⟨y46, hy47, h⟩ := bindO_some h
  refine JO.call E E E E (ok_l_toLine (Q16 x0) a22 c23 (Q16 x0).1.length E _ hy47) E [5] E E ?_
  rintro ⟨a48, c49⟩ -
  refine JO.regB ttOk 2 [] [] [] (.new 8 46 cz46 (.new 9 46 (cl46 (x0.1, x0.2.1, y26, x0.2.2.2.1, (Q4 x0).1, (Q4 x0).2.1, (Q4 x0).2.2.1, (Q4 x0).2.2.2.1, (Q8 x0).1, (Q8 x0).2.1, y30, y34, (Q12 x0).1, y38, y42, (Q12 x0).2.2.2.1, y46) a28 c29 a32 c33 a36 c37 a40 c41 a44 c45 a48 c49) .nil)) E ⟨V, (Bs E E)⟩ (JO.done E (JS.rgB ttOk 2 [] [] [] (.new 8 46 (cl46 (x0.1, x0.2.1, y26, x0.2.2.2.1, (Q4 x0).1, (Q4 x0).2.1, (Q4 x0).2.2.1, (Q4 x0).2.2.2.1, (Q8 x0).1, (Q8 x0).2.1, y30, y34, (Q12 x0).1, y38, y42, (Q12 x0).2.2.2.1, y46) a28 c29 a32 c33 a36 c37 a40 c41 a44 c45 a48 c49) .nil) ⟨V, (Bs E E)⟩ E E ?_))
  cases h
  exact JS.ret ttOk (a28, c29, a32, c33, a36, c37, a40, c41, a44, c45, a48, c49) V E E [5, 4, 3, 2, 1, 0] E

def M_l_toStringS_L1 (x0 : List (List UInt8)) (j25 : (List (List UInt8)) → Option (List (List UInt8))) (k17 : (List (List UInt8) × Int) → Option (List (List UInt8))) : (List (List UInt8) × Int) → Option (List (List UInt8)) := fun (x8, x11) =>
  (bif (decide (x11 < (x0.length : Int))) then
  (guardO (0 ≤ x11 ∧ x11 < (x0.length : Int)) <|
  (guardO (0 ≤ x11 ∧ x11 < (x8.length : Int)) <|
  k17 ((List.set x8 (Int.toNat x11) (at' x0 x11)), (W (x11 + 1)))))
  else
  j25 x8)

def M_l_toStringS (x0 : List (List UInt8)) : Option (List (List UInt8)) :=
  (guardO (x0.length ≤ 536870912) <|
  (joinO (fun (x22 : List (List UInt8)) =>
  some x22) fun j25 =>
  (fixF (M_l_toStringS_L1 x0 j25) FUEL ((List.replicate x0.length []), 0))))

theorem ok_l_toStringS (x0 : List (List UInt8)) (a2 : Option Addr) (c3 : Nat) (l4 : Nat) (hl5 : x0.length = l4) (r : List (List UInt8)) (h : M_l_toStringS x0 = some r) :
  FC Tryz.prog 56 [.slice a2 l4 c3] [⟨.str, ⟨a2, l4, c3⟩, x0⟩] (fun _ : Option Addr × Nat => True) (fun q => .slice q.1 r.length q.2) (fun q => [⟨.str, ⟨q.1, r.length, q.2⟩, r⟩]) :=
 by
  subst hl5
  refine FC.of (T := TTx) Tryz.call56 Tryz.func56 E E fun w0 => ?_
  unfold M_l_toStringS at h
  refine JS.rg0 ttOk 1 [] ⟨V, E⟩ E E (JS.seq (JS.region (JO.reg ttOk 2 [] [] [(6, .v (I (x0.length : Int)))] _ E ⟨⟨E, V⟩, E⟩ ?_)))
  obtain ⟨g6, h⟩ := guardO_some h
  refine JO.makeSlice ttOk E E E E E E E E x0.length E g6 .str E E E E E fun a7 => JO.reg ttOk 1 [] [] [(3, .v (.slice a7 x0.length x0.length))] _ E ⟨⟨E, V⟩, E⟩ (JO.done E (JS.seq (JS.rg0 ttOk 1 [(4, .v (I 0))] ⟨⟨E, V⟩, E⟩ E E ?_)))
  obtain ⟨j25, hj33, h⟩ := joinO_some h
  refine JS.blockJ (ι := List (List UInt8) × Option Addr × Nat) ⟨fun z => j25 z.1 = some r, fun z => [(3, .v (.slice z.2.1 z.1.length z.2.2))], fun z => .nil, fun z => [], fun z => [⟨.str, ⟨z.2.1, z.1.length, z.2.2⟩, z.1⟩], fun z => 0⟩ ?_ ?_
  ·
   refine JS.loop (ι := Nat × List (List UInt8) × Int × Option Addr × Nat) ⟨fun z => fixF (M_l_toStringS_L1 x0 j25) z.1 (z.2.1, z.2.2.1) = some r, fun z => [(0, .v (.slice a2 x0.length c3)), (3, .v (.slice z.2.2.2.1 z.2.1.length (Q4 z))), (4, .v (I z.2.2.1))], fun z => .nil, fun z => [⟨.str, ⟨a2, x0.length, c3⟩, x0⟩], fun z => [⟨.str, ⟨z.2.2.2.1, z.2.1.length, (Q4 z)⟩, z.2.1⟩], fun z => z.1⟩ (FUEL, (List.replicate x0.length []), 0, a7, x0.length) h ⟨E, (by simp only [List.length_set, List.length_replicate, pickO, getF, cl32, cl46]; rfl), E, V⟩ V [0] E [0] (by simp only [List.length_set, List.length_replicate, pickO, getF, cl32, cl46]; rfl) ?_
   rintro ⟨n18, x8, x11, a9, c10⟩ h
   obtain ⟨n18, rfl, h⟩ := fixF_some h
   rw [M_l_toStringS_L1] at h
   refine JS.seq (JS.rg0 ttOk 4 [(11, .v (.bool (decide (x11 < (x0.length : Int)))))] ⟨⟨E, V⟩, E⟩ E E ?_)
   refine JS.cond E (fun ht32 => ?_) (fun ht32 => ?_)
   ·
    have h := condT h ht32
    refine JS.skip (JS.seq (JS.block (JS.region (JO.know 0 E fun hs30 => ?_))))
    obtain ⟨g13, h⟩ := guardO_some h
    refine JO.reg ttOk 5 [] [] [(14, .v (.slice a9 x8.length c10)), (15, .v (I x11)), (18, .ep ⟨a2, x0.length, c3⟩ (Int.toNat x11 * 1))] _ E ⟨hs30.ix g13, (Es E), E⟩ (JO.load ttOk E E E E E E E 0 E E (Int.toNat x11) 0 (at' x0 x11) ⟨at_some g13, E⟩ E E (JO.know 1 E fun hs31 => ?_))
    obtain ⟨g15, h⟩ := guardO_some h
    refine JO.reg ttOk 1 [] [] [(20, .ep ⟨a9, x8.length, c10⟩ (Int.toNat x11 * 1))] _ E ⟨hs31.ix g15, ⟨E, V⟩, E⟩ (JO.storeE ttOk E E E E E E E E E [0] (fs := []) E (Int.toNat x11) 0 (at' x8 x11) (at' x0 x11) ⟨at_some g15, E⟩ ⟨E, E, E⟩ (JO.done E (JS.endB (JS.re ttOk 3 [(W (x11 + 1))] [] [(4, .v (I (W (x11 + 1))))] _ ⟨⟨V, E⟩, ⟨E, V⟩, E⟩ E E (JS.endL (n18, (List.set x8 (Int.toNat x11) (at' x0 x11)), (W (x11 + 1)), a9, c10) h (Nat.lt_succ_self _) ⟨E, (by simp only [List.length_set, List.length_replicate, pickO, getF, cl32, cl46]; rfl), E, V⟩ V [0] E [0] (by simp only [List.length_set, List.length_replicate, pickO, getF, cl32, cl46]; rfl))))))
   have h := condF h ht32
   refine JS.exit E (JS.endJ (x8, a9, c10) h ⟨E, V⟩ V [] E [0] E)
  rintro ⟨x22, a23, c24⟩ h
  subst hj33
  refine JS.rg0 ttOk 2 [(2, .v (.slice a23 x22.length c24))] ⟨⟨E, V⟩, E⟩ E E ?_
  cases h
  exact JS.ret ttOk (a23, c24) V E E [0] E

def M_l_toHist (x0 : Int × List (List UInt8)) : Option (Int × List (List UInt8)) :=
  (bindO (M_l_toStringS x0.2) fun (y6 : List (List UInt8)) =>
  some (x0.1, y6))

theorem ok_l_toHist (x0 : Int × List (List UInt8)) (a2 : Option Addr) (c3 : Nat) (l4 : Nat) (hl5 : x0.2.length = l4) (r : Int × List (List UInt8)) (h : M_l_toHist x0 = some r) :
  FC Tryz.prog 14 [.agg #[.int .i64 x0.1, .slice a2 l4 c3]] [⟨.str, ⟨a2, l4, c3⟩, x0.2⟩] (fun _ : Option Addr × Nat => True) (fun q => .agg #[.int .i64 r.1, .slice q.1 r.2.length q.2]) (fun q => [⟨.str, ⟨q.1, r.2.length, q.2⟩, r.2⟩]) :=
 by
  subst hl5
  refine FC.of (T := TTx) Tryz.call14 Tryz.func14 E E fun w0 => ?_
  unfold M_l_toHist at h
  refine JS.rgB ttOk 2 [] [2, 3] [(1, .bp 2 0), (2, .bp 3 0)] (.new 2 35 [.int .i64 x0.1, .slice a2 x0.2.length c3] (.new 3 50 [.int .i64 0, .slice none 0 0] .nil)) ⟨(Es E), (Bs E E)⟩ E E (JS.rgB ttOk 1 [] [4] [(3, .bp 4 0)] (.new 2 35 [.int .i64 x0.1, .slice a2 x0.2.length c3] (.new 3 50 [.int .i64 0, .slice none 0 0] (.new 4 50 [.int .i64 0, .slice none 0 0] .nil))) ⟨⟨E, V⟩, (Bs E E)⟩ E E (JS.rgB ttOk 4 [] [] [] (.new 2 35 [.int .i64 x0.1, .slice a2 x0.2.length c3] (.new 3 50 [.int .i64 0, .slice none 0 0] (.new 4 50 [.int .i64 x0.1, .slice none 0 0] .nil))) ⟨V, (Bs E E)⟩ E E (JS.seq (JS.region (JO.reg ttOk 2 [] [] [(8, .v (.slice a2 x0.2.length c3))] _ E ⟨⟨E, V⟩, E⟩ ?_)))))
  obtain ⟨y6, hy7, h⟩ := bindO_some h
  refine JO.call E E E E (ok_l_toStringS x0.2 a2 c3 x0.2.length E _ hy7) E [0] E E ?_
  rintro ⟨a8, c9⟩ -
  refine JO.regB ttOk 2 [] [] [] (.new 3 50 [.int .i64 0, .slice none 0 0] (.new 4 50 [.int .i64 x0.1, .slice a8 y6.length c9] .nil)) E ⟨V, (Bs E E)⟩ (JO.done E (JS.rgB ttOk 2 [] [] [] (.new 3 50 [.int .i64 x0.1, .slice a8 y6.length c9] .nil) ⟨V, (Bs E E)⟩ E E ?_))
  cases h
  exact JS.ret ttOk (a8, c9) V E E [0] E

def M_l_toKey (x0 : Int × Int) : Option (Int × Int) :=
  some x0

theorem ok_l_toKey (x0 : Int × Int) (r : Int × Int) (h : M_l_toKey x0 = some r) :
  FC Tryz.prog 25 [.agg #[.int .i64 x0.1, .int .i64 x0.2]] [] (fun _ : Unit => True) (fun _ => .agg #[.int .i64 r.1, .int .i64 r.2]) (fun _ => []) :=
 by
  refine FC.of (T := TTx) Tryz.call25 Tryz.func25 E E fun w0 => ?_
  unfold M_l_toKey at h
  refine JS.rgB ttOk 2 [] [1, 2] [(1, .bp 1 0), (2, .bp 2 0)] (.new 1 61 [.int .i64 x0.1, .int .i64 x0.2] (.new 2 64 [.int .i64 0, .int .i64 0] .nil)) ⟨(Es E), (Bs E E)⟩ E E (JS.rgB ttOk 1 [] [3] [(3, .bp 3 0)] (.new 1 61 [.int .i64 x0.1, .int .i64 x0.2] (.new 2 64 [.int .i64 0, .int .i64 0] (.new 3 64 [.int .i64 0, .int .i64 0] .nil))) ⟨⟨E, V⟩, (Bs E E)⟩ E E (JS.rgB ttOk 4 [] [] [] (.new 1 61 [.int .i64 x0.1, .int .i64 x0.2] (.new 2 64 [.int .i64 0, .int .i64 0] (.new 3 64 [.int .i64 x0.1, .int .i64 0] .nil))) ⟨V, (Bs E E)⟩ E E (JS.rgB ttOk 4 [] [] [] (.new 2 64 [.int .i64 0, .int .i64 0] (.new 3 64 [.int .i64 x0.1, .int .i64 x0.2] .nil)) ⟨V, (Bs E E)⟩ E E (JS.rgB ttOk 2 [] [] [] (.new 2 64 [.int .i64 x0.1, .int .i64 x0.2] .nil) ⟨V, (Bs E E)⟩ E E ?_))))
  cases h
  exact JS.ret ttOk () V E E [] E

def M_s_RuneOk (x0 : Int) : Option Bool :=
  some (bif (bif (decide (0 ≤ x0)) then (decide (x0 ≤ 1114111)) else false) then (bif (decide (x0 < 55296)) then true else (decide (57343 < x0))) else false)

theorem ok_s_RuneOk (x0 : Int) (r : Bool) (h : M_s_RuneOk x0 = some r) :
  FC Tryz.prog 230 [.int .i64 x0] [] (fun _ : Unit => True) (fun _ => .bool r) (fun _ => []) :=
 by
  refine FC.of (T := TTx) Tryz.call230 Tryz.func230 E E fun w0 => ?_
  unfold M_s_RuneOk at h
  refine JS.rg0 ttOk 1 [] ⟨V, E⟩ E E (JS.rg0 ttOk 15 [(2, .v (.bool (bif (bif (decide (0 ≤ x0)) then (decide (x0 ≤ 1114111)) else false) then (bif (decide (x0 < 55296)) then true else (decide (57343 < x0))) else false)))] ⟨⟨E, V⟩, E⟩ E E ?_)
  cases h
  exact JS.ret ttOk () V E E [] E

def M_s_Printable (x0 : Int) : Option Bool :=
  (bindO (M_s_RuneOk x0) fun (y2 : Bool) =>
  some (bif (bif y2 then (decide (32 ≤ x0)) else false) then (bif (decide (x0 < 127)) then true else (decide (159 < x0))) else false))

theorem ok_s_Printable (x0 : Int) (r : Bool) (h : M_s_Printable x0 = some r) :
  FC Tryz.prog 132 [.int .i64 x0] [] (fun _ : Unit => True) (fun _ => .bool r) (fun _ => []) :=
 by
  refine FC.of (T := TTx) Tryz.call132 Tryz.func132 E E fun w0 => ?_
  unfold M_s_Printable at h
  refine JS.rg0 ttOk 1 [] ⟨V, E⟩ E E (JS.seq (JS.region (JO.reg ttOk 1 [] [] [(3, .v (I x0))] _ E ⟨⟨E, V⟩, E⟩ ?_)))
  obtain ⟨y2, hy3, h⟩ := bindO_some h
  refine JO.call E E E E (ok_s_RuneOk x0 _ hy3) E [] E E fun _ _ => JO.reg ttOk 13 [] [] [(2, .v (.bool (bif (bif y2 then (decide (32 ≤ x0)) else false) then (bif (decide (x0 < 127)) then true else (decide (159 < x0))) else false)))] _ E ⟨⟨E, V⟩, E⟩ (JO.done E ?_)
  cases h
  exact JS.ret ttOk () V E E [] E

def M_s_l13Typed (x0 : Int) : Option Bool :=
  (bindO (M_s_Printable x0) fun (y2 : Bool) =>
  some (bif (bif y2 then true else (decide (x0 = 9))) then true else (decide (x0 = 10))))

theorem ok_s_l13Typed (x0 : Int) (r : Bool) (h : M_s_l13Typed x0 = some r) :
  FC Tryz.prog 283 [.int .i64 x0] [] (fun _ : Unit => True) (fun _ => .bool r) (fun _ => []) :=
 by
  refine FC.of (T := TTx) Tryz.call283 Tryz.func283 E E fun w0 => ?_
  unfold M_s_l13Typed at h
  refine JS.rg0 ttOk 1 [] ⟨V, E⟩ E E (JS.seq (JS.region (JO.reg ttOk 1 [] [] [(3, .v (I x0))] _ E ⟨⟨E, V⟩, E⟩ ?_)))
  obtain ⟨y2, hy3, h⟩ := bindO_some h
  refine JO.call E E E E (ok_s_Printable x0 _ hy3) E [] E E fun _ _ => JO.reg ttOk 9 [] [] [(2, .v (.bool (bif (bif y2 then true else (decide (x0 = 9))) then true else (decide (x0 = 10)))))] _ E ⟨⟨E, V⟩, E⟩ (JO.done E ?_)
  cases h
  exact JS.ret ttOk () V E E [] E

def M_s_l13AllTyped_L1 (x0 : List Int) (j18 : Unit → Option Bool) (k13 : Int → Option Bool) : Int → Option Bool := fun x6 =>
  (bif (decide (x6 < (x0.length : Int))) then
  (guardO (0 ≤ x6 ∧ x6 < (x0.length : Int)) <|
  (bindO (M_s_l13Typed (at' x0 x6)) fun (y9 : Bool) =>
  (bif (!y9) then
  some false
  else
  k13 (W (x6 + 1)))))
  else
  j18 ())

def M_s_l13AllTyped (x0 : List Int) : Option Bool :=
  (joinO (fun (_ : Unit) =>
  some true) fun j18 =>
  (fixF (M_s_l13AllTyped_L1 x0 j18) FUEL 0))

theorem ok_s_l13AllTyped (x0 : List Int) (a2 : Option Addr) (c3 : Nat) (l4 : Nat) (hl5 : x0.length = l4) (r : Bool) (h : M_s_l13AllTyped x0 = some r) :
  FC Tryz.prog 227 [.slice a2 l4 c3] [⟨(.int .i64), ⟨a2, l4, c3⟩, x0⟩] (fun _ : Unit => True) (fun _ => .bool r) (fun _ => []) :=
 by
  subst hl5
  refine FC.of (T := TTx) Tryz.call227 Tryz.func227 E E fun w0 => ?_
  unfold M_s_l13AllTyped at h
  refine JS.rg0 ttOk 1 [] ⟨V, E⟩ E E (JS.seq (JS.rg0 ttOk 3 [(5, .v (.slice a2 x0.length c3)), (6, .v (I (x0.length : Int))), (7, .v (I 0))] ⟨(Es E), E⟩ E E ?_))
  obtain ⟨j18, hj26, h⟩ := joinO_some h
  refine JS.blockJ (ι := Unit) ⟨fun _ => j18 () = some r, fun _ => [], fun _ => .nil, fun _ => [], fun _ => [], fun _ => 0⟩ ?_ ?_
  ·
   refine JS.loop (ι := Nat × Int) ⟨fun z => fixF (M_s_l13AllTyped_L1 x0 j18) z.1 z.2 = some r, fun z => [(5, .v (.slice a2 x0.length c3)), (6, .v (I (x0.length : Int))), (7, .v (I z.2))], fun z => .nil, fun z => [⟨(.int .i64), ⟨a2, x0.length, c3⟩, x0⟩], fun z => [], fun z => z.1⟩ (FUEL, 0) h (Es E) V [0] E [] E ?_
   rintro ⟨n14, x6⟩ h
   obtain ⟨n14, rfl, h⟩ := fixF_some h
   rw [M_s_l13AllTyped_L1] at h
   refine JS.rg0 ttOk 1 [(8, .v (.bool (decide (x6 < (x0.length : Int)))))] ⟨⟨E, V⟩, E⟩ E E (JS.seq ?_)
   refine JS.cond E (fun ht25 => ?_) (fun ht25 => ?_)
   ·
    have h := condT h ht25
    refine JS.skip (JS.seq (JS.block (JS.seq (JS.region (JO.know 0 E fun hs23 => ?_)))))
    obtain ⟨g8, h⟩ := guardO_some h
    refine JO.reg ttOk 1 [] [] [(9, .ep ⟨a2, x0.length, c3⟩ (Int.toNat x6 * 1))] _ E ⟨hs23.ix g8, ⟨E, V⟩, E⟩ (JO.load ttOk E E E E E E E 0 E E (Int.toNat x6) 0 (at' x0 x6) ⟨at_some g8, E⟩ E E (JO.reg ttOk 1 [] [] [(4, .v (I (at' x0 x6)))] _ E ⟨⟨E, V⟩, E⟩ (JO.done E (JS.seq (JS.region (JO.reg ttOk 1 [] [] [(11, .v (I (at' x0 x6)))] _ E ⟨⟨E, V⟩, E⟩ ?_))))))
    obtain ⟨y9, hy10, h⟩ := bindO_some h
    refine JO.call E E E E (ok_s_l13Typed (at' x0 x6) _ hy10) E [] E E fun _ _ => JO.reg ttOk 1 [] [] [(13, .v (.bool (!y9)))] _ E ⟨⟨E, V⟩, E⟩ (JO.done E ?_)
    refine JS.cond E (fun ht24 => ?_) (fun ht24 => ?_)
    ·
     have h := condT h ht24
     refine JS.rg0 ttOk 1 [(2, .v (.bool false))] ⟨⟨E, V⟩, E⟩ E E ?_
     cases h
     exact JS.ret ttOk () V E E [] E
    have h := condF h ht24
    refine JS.skip (JS.endB (JS.re ttOk 2 [(W (x6 + 1))] [] [(7, .v (I (W (x6 + 1))))] _ ⟨⟨V, E⟩, ⟨E, V⟩, E⟩ E E (JS.endL (n14, (W (x6 + 1))) h (Nat.lt_succ_self _) (Es E) V [0] E [] E)))
   have h := condF h ht25
   refine JS.exit E (JS.endJ () h V V [] E [] E)
  rintro _ h
  subst hj26
  refine JS.rg0 ttOk 1 [(2, .v (.bool true))] ⟨⟨E, V⟩, E⟩ E E ?_
  cases h
  exact JS.ret ttOk () V E E [] E

def M_s_LineOk (x0 : List Int × Int) : Option Bool :=
  (callO ((decide ((x0.1.length : Int) ≤ 400)) = true) (M_s_l13AllTyped x0.1) false fun (y6 : Bool) =>
  some (bif (bif (bif (decide ((x0.1.length : Int) ≤ 400)) then y6 else false) then (decide (0 ≤ x0.2)) else false) then (decide (x0.2 ≤ (x0.1.length : Int))) else false))

theorem ok_s_LineOk (x0 : List Int × Int) (a2 : Option Addr) (c3 : Nat) (l4 : Nat) (hl5 : x0.1.length = l4) (r : Bool) (h : M_s_LineOk x0 = some r) :
  FC Tryz.prog 128 [.agg #[.slice a2 l4 c3, .int .i64 x0.2]] [⟨(.int .i64), ⟨a2, l4, c3⟩, x0.1⟩] (fun _ : Unit => True) (fun _ => .bool r) (fun _ => []) :=
 by
  subst hl5
  refine FC.of (T := TTx) Tryz.call128 Tryz.func128 E E fun w0 => ?_
  unfold M_s_LineOk at h
  refine JS.rgB ttOk 2 [] [2] [(1, .bp 2 0)] (.new 2 38 [.slice a2 x0.1.length c3, .int .i64 x0.2] .nil) ⟨⟨E, V⟩, (Bs E E)⟩ E E (JS.seq (JS.region (JO.reg ttOk 7 [] [] [(7, .v (.bool (decide ((x0.1.length : Int) ≤ 400)))), (9, .cd [(7, true)] (.v (.slice a2 x0.1.length c3)))] _ E ⟨(Es E), E⟩ ?_)))
  obtain ⟨y6, hy7, -, h⟩ := callO_some h
  refine JO.callg E E E E (fun q9 => ok_s_l13AllTyped x0.1 a2 c3 x0.1.length E _ (hy7 q9)) E [0] E E (JO.reg ttOk 15 [] [] [(2, .v (.bool (bif (bif (bif (decide ((x0.1.length : Int) ≤ 400)) then y6 else false) then (decide (0 ≤ x0.2)) else false) then (decide (x0.2 ≤ (x0.1.length : Int))) else false)))] _ E ⟨⟨E, V⟩, E⟩ (JO.done E ?_))
  cases h
  exact JS.ret ttOk () V E E [] E

def M_s_l21Empty (x0 : List Int × Int) : Option Bool :=
  some (bif (decide ((x0.1.length : Int) = 0)) then (decide (x0.2 = 0)) else false)

theorem ok_s_l21Empty (x0 : List Int × Int) (a2 : Option Addr) (c3 : Nat) (l4 : Nat) (hl5 : x0.1.length = l4) (r : Bool) (h : M_s_l21Empty x0 = some r) :
  FC Tryz.prog 133 [.agg #[.slice a2 l4 c3, .int .i64 x0.2]] [⟨(.int .i64), ⟨a2, l4, c3⟩, x0.1⟩] (fun _ : Unit => True) (fun _ => .bool r) (fun _ => []) :=
 by
  subst hl5
  refine FC.of (T := TTx) Tryz.call133 Tryz.func133 E E fun w0 => ?_
  unfold M_s_l21Empty at h
  refine JS.rgB ttOk 2 [] [2] [(1, .bp 2 0)] (.new 2 38 [.slice a2 x0.1.length c3, .int .i64 x0.2] .nil) ⟨⟨E, V⟩, (Bs E E)⟩ E E (JS.rg0 ttOk 10 [(2, .v (.bool (bif (decide ((x0.1.length : Int) = 0)) then (decide (x0.2 = 0)) else false)))] ⟨⟨E, V⟩, E⟩ E E ?_)
  cases h
  exact JS.ret ttOk () V E E [] E

def M_s_l03HasInt_L1 (x0 : List Int) (x1 : Int) (j17 : Unit → Option Bool) (k12 : Int → Option Bool) : Int → Option Bool := fun x7 =>
  (bif (decide (x7 < (x0.length : Int))) then
  (guardO (0 ≤ x7 ∧ x7 < (x0.length : Int)) <|
  (bif (decide ((at' x0 x7) = x1)) then
  some true
  else
  k12 (W (x7 + 1))))
  else
  j17 ())

def M_s_l03HasInt (x0 : List Int) (x1 : Int) : Option Bool :=
  (joinO (fun (_ : Unit) =>
  some false) fun j17 =>
  (fixF (M_s_l03HasInt_L1 x0 x1 j17) FUEL 0))

theorem ok_s_l03HasInt (x0 : List Int) (x1 : Int) (a3 : Option Addr) (c4 : Nat) (l5 : Nat) (hl6 : x0.length = l5) (r : Bool) (h : M_s_l03HasInt x0 x1 = some r) :
  FC Tryz.prog 284 [.slice a3 l5 c4, .int .i64 x1] [⟨(.int .i64), ⟨a3, l5, c4⟩, x0⟩] (fun _ : Unit => True) (fun _ => .bool r) (fun _ => []) :=
 by
  subst hl6
  refine FC.of (T := TTx) Tryz.call284 Tryz.func284 E E fun w0 => ?_
  unfold M_s_l03HasInt at h
  refine JS.rg0 ttOk 1 [] ⟨V, E⟩ E E (JS.seq (JS.rg0 ttOk 3 [(7, .v (.slice a3 x0.length c4)), (8, .v (I (x0.length : Int))), (9, .v (I 0))] ⟨(Es E), E⟩ E E ?_))
  obtain ⟨j17, hj25, h⟩ := joinO_some h
  refine JS.blockJ (ι := Unit) ⟨fun _ => j17 () = some r, fun _ => [], fun _ => .nil, fun _ => [], fun _ => [], fun _ => 0⟩ ?_ ?_
  ·
   refine JS.loop (ι := Nat × Int) ⟨fun z => fixF (M_s_l03HasInt_L1 x0 x1 j17) z.1 z.2 = some r, fun z => [(1, .v (I x1)), (7, .v (.slice a3 x0.length c4)), (8, .v (I (x0.length : Int))), (9, .v (I z.2))], fun z => .nil, fun z => [⟨(.int .i64), ⟨a3, x0.length, c4⟩, x0⟩], fun z => [], fun z => z.1⟩ (FUEL, 0) h (Es E) V [0] E [] E ?_
   rintro ⟨n13, x7⟩ h
   obtain ⟨n13, rfl, h⟩ := fixF_some h
   rw [M_s_l03HasInt_L1] at h
   refine JS.rg0 ttOk 1 [(10, .v (.bool (decide (x7 < (x0.length : Int)))))] ⟨⟨E, V⟩, E⟩ E E (JS.seq ?_)
   refine JS.cond E (fun ht24 => ?_) (fun ht24 => ?_)
   ·
    have h := condT h ht24
    refine JS.skip (JS.seq (JS.block (JS.seq (JS.region (JO.know 0 E fun hs22 => ?_)))))
    obtain ⟨g9, h⟩ := guardO_some h
    refine JO.reg ttOk 1 [] [] [(11, .ep ⟨a3, x0.length, c4⟩ (Int.toNat x7 * 1))] _ E ⟨hs22.ix g9, ⟨E, V⟩, E⟩ (JO.load ttOk E E E E E E E 0 E E (Int.toNat x7) 0 (at' x0 x7) ⟨at_some g9, E⟩ E E (JO.reg ttOk 1 [] [] [(6, .v (I (at' x0 x7)))] _ E ⟨⟨E, V⟩, E⟩ (JO.done E (JS.rg0 ttOk 3 [(15, .v (.bool (decide ((at' x0 x7) = x1))))] ⟨⟨E, V⟩, E⟩ E E ?_))))
    refine JS.cond E (fun ht23 => ?_) (fun ht23 => ?_)
    ·
     have h := condT h ht23
     refine JS.rg0 ttOk 1 [(4, .v (.bool true))] ⟨⟨E, V⟩, E⟩ E E ?_
     cases h
     exact JS.ret ttOk () V E E [] E
    have h := condF h ht23
    refine JS.skip (JS.endB (JS.re ttOk 2 [(W (x7 + 1))] [] [(9, .v (I (W (x7 + 1))))] _ ⟨⟨V, E⟩, ⟨E, V⟩, E⟩ E E (JS.endL (n13, (W (x7 + 1))) h (Nat.lt_succ_self _) (Es E) V [0] E [] E)))
   have h := condF h ht24
   refine JS.exit E (JS.endJ () h V V [] E [] E)
  rintro _ h
  subst hj25
  refine JS.rg0 ttOk 1 [(4, .v (.bool false))] ⟨⟨E, V⟩, E⟩ E E ?_
  cases h
  exact JS.ret ttOk () V E E [] E

def M_s_l21Among (x0 : Int) (x1 : List Int) : Option Bool :=
  (bindO (M_s_l03HasInt x1 x0) fun (y7 : Bool) =>
  some y7)

theorem ok_s_l21Among (x0 : Int) (x1 : List Int) (a3 : Option Addr) (c4 : Nat) (l5 : Nat) (hl6 : x1.length = l5) (r : Bool) (h : M_s_l21Among x0 x1 = some r) :
  FC Tryz.prog 228 [.int .i64 x0, .slice a3 l5 c4] [⟨(.int .i64), ⟨a3, l5, c4⟩, x1⟩] (fun _ : Unit => True) (fun _ => .bool r) (fun _ => []) :=
 by
  subst hl6
  refine FC.of (T := TTx) Tryz.call228 Tryz.func228 E E fun w0 => ?_
  unfold M_s_l21Among at h
  refine JS.rg0 ttOk 1 [] ⟨V, E⟩ E E (JS.seq (JS.region (JO.reg ttOk 2 [] [] [(5, .v (.slice a3 x1.length c4)), (6, .v (I x0))] _ E ⟨(Es E), E⟩ ?_)))
  obtain ⟨y7, hy8, h⟩ := bindO_some h
  refine JO.call E E E E (ok_s_l03HasInt x1 x0 a3 c4 x1.length E _ hy8) E [0] E E fun _ _ => JO.reg ttOk 1 [] [] [(4, .v (.bool y7))] _ E ⟨⟨E, V⟩, E⟩ (JO.done E ?_)
  cases h
  exact JS.ret ttOk () V E E [] E

def M_s_l21Mode (x0 : EdQ) : Option Bool :=
  (bif (bif (bif (bif (bif (decide (x0.2.1 = 0)) then x0.1 else false) then true else (bif (bif (decide (x0.2.1 = 1)) then true else (decide (x0.2.1 = 2))) then (!x0.1) else false)) then true else (decide (x0.2.1 < 0))) then true else (decide (3 < x0.2.1))) then
  some false
  else
  (bif (bif (bif (decide (x0.2.1 = 2)) then (decide (0 < (x0.2.2.1.1.length : Int))) else false) then (decide (x0.2.2.1.2 = (x0.2.2.1.1.length : Int))) else false) then
  some false
  else
  (bif (bif (!(decide (x0.2.1 = 2))) then (bif (bif (!(decide (x0.2.2.2.2.1 = 0))) then true else (!(decide (x0.2.2.2.2.2.1 = 0)))) then true else (!(decide (x0.2.2.2.2.2.2.1 = 0)))) else false) then
  some false
  else
  (callO ((bif (decide (0 < (x0.2.2.2.2.2.2.2.2.2.2.2.2.2.2.1.length : Int))) then true else (!(decide (x0.2.2.2.2.2.2.2.2.2.2.2.2.2.2.2.1 = 0)))) = false ∧ (!(decide (x0.2.1 = 3))) = true) (M_s_l21Empty x0.2.2.2.2.2.2.2.2.2.2.2.2.2.2.2.2) false fun (y26 : Bool) =>
  (bif (bif (!(decide (x0.2.1 = 3))) then (bif (bif (decide (0 < (x0.2.2.2.2.2.2.2.2.2.2.2.2.2.2.1.length : Int))) then true else (!(decide (x0.2.2.2.2.2.2.2.2.2.2.2.2.2.2.2.1 = 0)))) then true else (!y26)) else false) then
  some false
  else
  (bindO (M_s_l21Among x0.2.2.2.2.1 ([0, 100, 99, 121] : List Int)) fun (y31 : Bool) =>
  (callO (y31 = true) (M_s_l21Among x0.2.2.2.2.2.2.1 (gl y31 ([0, 102, 70, 116, 84, 114] : List Int))) false fun (y34 : Bool) =>
  some (bif (bif y31 then y34 else false) then (bif (!(decide (x0.2.2.2.2.1 = 0))) then true else (decide (x0.2.2.2.2.2.1 = 0))) else false))))))))

theorem ok_s_l21Mode (x0 : EdQ) (a2 : Option Addr) (c3 : Nat) (l4 : Nat) (hl5 : x0.2.2.1.1.length = l4) (a6 : Option Addr) (c7 : Nat) (l8 : Nat) (hl9 : (Q8 x0).2.2.1.length = l8) (a10 : Option Addr) (c11 : Nat) (l12 : Nat) (hl13 : (Q8 x0).2.2.2.1.length = l12) (a14 : Option Addr) (c15 : Nat) (l16 : Nat) (hl17 : (Q12 x0).2.1.1.length = l16) (a18 : Option Addr) (c19 : Nat) (l20 : Nat) (hl21 : (Q12 x0).2.2.1.length = l20) (a22 : Option Addr) (c23 : Nat) (l24 : Nat) (hl25 : (Q16 x0).1.length = l24) (r : Bool) (h : M_s_l21Mode x0 = some r) :
  FC Tryz.prog 129 [.agg #[.bool x0.1, .int .i64 x0.2.1, .slice a2 l4 c3, .int .i64 x0.2.2.1.2, .int .i64 x0.2.2.2.1, .int .i64 (Q4 x0).1, .int .i64 (Q4 x0).2.1, .int .i64 (Q4 x0).2.2.1, .int .i64 (Q4 x0).2.2.2.1, .int .i64 (Q8 x0).1, .int .i64 (Q8 x0).2.1, .slice a6 l8 c7, .slice a10 l12 c11, .int .i64 (Q12 x0).1, .slice a14 l16 c15, .int .i64 (Q12 x0).2.1.2, .slice a18 l20 c19, .int .i64 (Q12 x0).2.2.2.1, .slice a22 l24 c23, .int .i64 (Q16 x0).2]] [⟨(.int .i64), ⟨a2, l4, c3⟩, x0.2.2.1.1⟩, ⟨(.sl (.int .i64)), ⟨a6, l8, c7⟩, (Q8 x0).2.2.1⟩, ⟨(.pair (.sl (.int .i64)) (.int .i64)), ⟨a10, l12, c11⟩, (Q8 x0).2.2.2.1⟩, ⟨(.int .i64), ⟨a14, l16, c15⟩, (Q12 x0).2.1.1⟩, ⟨(.int .i64), ⟨a18, l20, c19⟩, (Q12 x0).2.2.1⟩, ⟨(.int .i64), ⟨a22, l24, c23⟩, (Q16 x0).1⟩] (fun _ : Unit => True) (fun _ => .bool r) (fun _ => []) :=
 by
  subst hl5
  subst hl9
  subst hl13
  subst hl17
  subst hl21
  subst hl25
  refine FC.of (T := TTx) Tryz.call129 Tryz.func129 E E fun w0 => ?_
  unfold M_s_l21Mode at h
  refine JS.rgB ttOk 2 [] [7] [(1, .bp 7 0)] (.new 7 46 (cl46 x0 a2 c3 a6 c7 a10 c11 a14 c15 a18 c19 a22 c23) .nil) ⟨⟨E, V⟩, (Bs E E)⟩ E E (JS.seq (JS.rg0 ttOk 32 [(34, .v (.bool (bif (bif (bif (bif (decide (x0.2.1 = 0)) then x0.1 else false) then true else (bif (bif (decide (x0.2.1 = 1)) then true else (decide (x0.2.1 = 2))) then (!x0.1) else false)) then true else (decide (x0.2.1 < 0))) then true else (decide (3 < x0.2.1)))))] ⟨⟨E, V⟩, E⟩ E E ?_))
  refine JS.cond E (fun ht47 => ?_) (fun ht47 => ?_)
  ·
   have h := condT h ht47
   refine JS.rg0 ttOk 1 [(2, .v (.bool false))] ⟨⟨E, V⟩, E⟩ E E ?_
   cases h
   exact JS.ret ttOk () V E E [] E
  have h := condF h ht47
  refine JS.skip (JS.seq (JS.rg0 ttOk 20 [(54, .v (.bool (bif (bif (decide (x0.2.1 = 2)) then (decide (0 < (x0.2.2.1.1.length : Int))) else false) then (decide (x0.2.2.1.2 = (x0.2.2.1.1.length : Int))) else false)))] ⟨⟨E, V⟩, E⟩ E E ?_))
  refine JS.cond E (fun ht46 => ?_) (fun ht46 => ?_)
  ·
   have h := condT h ht46
   refine JS.rg0 ttOk 1 [(2, .v (.bool false))] ⟨⟨E, V⟩, E⟩ E E ?_
   cases h
   exact JS.ret ttOk () V E E [] E
  have h := condF h ht46
  refine JS.skip (JS.seq (JS.rg0 ttOk 18 [(72, .v (.bool (bif (!(decide (x0.2.1 = 2))) then (bif (bif (!(decide ((Q4 x0).1 = 0))) then true else (!(decide ((Q4 x0).2.1 = 0)))) then true else (!(decide ((Q4 x0).2.2.1 = 0)))) else false)))] ⟨⟨E, V⟩, E⟩ E E ?_))
  refine JS.cond E (fun ht45 => ?_) (fun ht45 => ?_)
  ·
   have h := condT h ht45
   refine JS.rg0 ttOk 1 [(2, .v (.bool false))] ⟨⟨E, V⟩, E⟩ E E ?_
   cases h
   exact JS.ret ttOk () V E E [] E
  have h := condF h ht45
  refine JS.skip (JS.seq (JS.seq (JS.region (JO.reg ttOk 16 [] [] [(76, .v (.bool (!(decide (x0.2.1 = 3))))), (86, .cd [(76, true)] (.v (.bool (bif (decide (0 < ((Q12 x0).2.2.1.length : Int))) then true else (!(decide ((Q12 x0).2.2.2.1 = 0))))))), (88, .cd [(86, false), (76, true)] (.v (.agg #[.slice a22 (Q16 x0).1.length c23, .int .i64 (Q16 x0).2])))] _ E ⟨(Es E), E⟩ ?_))))
  obtain ⟨y26, hy27, -, h⟩ := callO_some h
  refine JO.callg E E E E (fun q41 q42 => ok_s_l21Empty (Q16 x0) a22 c23 (Q16 x0).1.length E _ (hy27 ⟨q41, q42⟩)) E [5] E E (JO.reg ttOk 3 [] [] [(92, .v (.bool (bif (!(decide (x0.2.1 = 3))) then (bif (bif (decide (0 < ((Q12 x0).2.2.1.length : Int))) then true else (!(decide ((Q12 x0).2.2.2.1 = 0)))) then true else (!y26)) else false)))] _ E ⟨⟨E, V⟩, E⟩ (JO.done E ?_))
  refine JS.cond E (fun ht44 => ?_) (fun ht44 => ?_)
  ·
   have h := condT h ht44
   refine JS.rg0 ttOk 1 [(2, .v (.bool false))] ⟨⟨E, V⟩, E⟩ E E ?_
   cases h
   exact JS.ret ttOk () V E E [] E
  have h := condF h ht44
  refine JS.skip (JS.seq (JS.region (JO.reg ttOk 2 [] [] [(94, .v (I (Q4 x0).1))] _ E ⟨⟨E, V⟩, E⟩ ?_)))
  refine JO.ofK E (JK.buildSlice ttOk E E E E E E E E E E E [] E (.int .i64) [0, 100, 99, 121] ⟨E, E⟩ E E fun a30 => JO.toK ?_)
  obtain ⟨y31, hy32, h⟩ := bindO_some h
  refine JO.call E E E E (ok_s_l21Among (Q4 x0).1 ([0, 100, 99, 121] : List Int) a30 (([0, 100, 99, 121] : List Int).length) (([0, 100, 99, 121] : List Int).length) E _ hy32) E [6] E E fun _ _ => JO.reg ttOk 3 [] [] [(97, .v (.bool y31)), (99, .cd [(97, true)] (.v (I (Q4 x0).2.2.1)))] _ E ⟨(Es E), E⟩ (JO.buildSliceG ttOk E E E E E E E E E E E E (.int .i64) [0, 102, 70, 116, 84, 114] ⟨E, E⟩ E y31 gwant_t E fun a33 => ?_)
  obtain ⟨y34, hy35, -, h⟩ := callO_some h
  refine JO.callg E E E E (fun q43 => ok_s_l21Among (Q4 x0).2.2.1 (gl y31 ([0, 102, 70, 116, 84, 114] : List Int)) a33 ((gl y31 ([0, 102, 70, 116, 84, 114] : List Int)).length) ((gl y31 ([0, 102, 70, 116, 84, 114] : List Int)).length) E _ (hy35 q43)) E [6] E E (JO.reg ttOk 12 [] [] [(2, .v (.bool (bif (bif y31 then y34 else false) then (bif (!(decide ((Q4 x0).1 = 0))) then true else (decide ((Q4 x0).2.1 = 0))) else false)))] _ E ⟨⟨E, V⟩, E⟩ (JO.done E ?_))
  cases h
  exact JS.ret ttOk () V E E [] E

def M_s_l15Piece (x0 : List Int) : Option Bool :=
  (callO ((decide ((x0.length : Int) ≤ 400)) = true) (M_s_l13AllTyped x0) false fun (y6 : Bool) =>
  some (bif (decide ((x0.length : Int) ≤ 400)) then y6 else false))

theorem ok_s_l15Piece (x0 : List Int) (a2 : Option Addr) (c3 : Nat) (l4 : Nat) (hl5 : x0.length = l4) (r : Bool) (h : M_s_l15Piece x0 = some r) :
  FC Tryz.prog 229 [.slice a2 l4 c3] [⟨(.int .i64), ⟨a2, l4, c3⟩, x0⟩] (fun _ : Unit => True) (fun _ => .bool r) (fun _ => []) :=
 by
  subst hl5
  refine FC.of (T := TTx) Tryz.call229 Tryz.func229 E E fun w0 => ?_
  unfold M_s_l15Piece at h
  refine JS.rg0 ttOk 1 [] ⟨V, E⟩ E E (JS.seq (JS.region (JO.reg ttOk 5 [] [] [(6, .v (.bool (decide ((x0.length : Int) ≤ 400)))), (7, .cd [(6, true)] (.v (.slice a2 x0.length c3)))] _ E ⟨(Es E), E⟩ ?_)))
  obtain ⟨y6, hy7, -, h⟩ := callO_some h
  refine JO.callg E E E E (fun q9 => ok_s_l13AllTyped x0 a2 c3 x0.length E _ (hy7 q9)) E [0] E E (JO.reg ttOk 2 [] [] [(2, .v (.bool (bif (decide ((x0.length : Int) ≤ 400)) then y6 else false)))] _ E ⟨⟨E, V⟩, E⟩ (JO.done E ?_))
  cases h
  exact JS.ret ttOk () V E E [] E

def M_s_RingOk_L1 (x0 : List (List Int)) (j32 : Unit → Option Bool) (k26 : Int → Option Bool) : Int → Option Bool := fun x6 =>
  (bif (decide (x6 < (x0.length : Int))) then
  (guardO (0 ≤ x6 ∧ x6 < (x0.length : Int)) <|
  (callO ((decide (((at' x0 x6).length : Int) = 0)) = false) (M_s_l15Piece (at' x0 x6)) false fun (y17 : Bool) =>
  (bif (bif (decide (((at' x0 x6).length : Int) = 0)) then true else (!y17)) then
  some false
  else
  k26 (W (x6 + 1)))))
  else
  j32 ())

def M_s_RingOk (x0 : List (List Int)) : Option Bool :=
  (joinO (fun (_ : Unit) =>
  some (decide ((x0.length : Int) ≤ 6))) fun j32 =>
  (fixF (M_s_RingOk_L1 x0 j32) FUEL 0))

theorem ok_s_RingOk (x0 : List (List Int)) (a2 : Option Addr) (c3 : Nat) (l4 : Nat) (hl5 : x0.length = l4) (r : Bool) (h : M_s_RingOk x0 = some r) :
  FC Tryz.prog 130 [.agg #[.slice a2 l4 c3]] [⟨(.sl (.int .i64)), ⟨a2, l4, c3⟩, x0⟩] (fun _ : Unit => True) (fun _ => .bool r) (fun _ => []) :=
 by
  subst hl5
  refine FC.of (T := TTx) Tryz.call130 Tryz.func130 E E fun w0 => ?_
  unfold M_s_RingOk at h
  refine JS.rgB ttOk 2 [] [2] [(1, .bp 2 0)] (.new 2 41 [.slice a2 x0.length c3] .nil) ⟨⟨E, V⟩, (Bs E E)⟩ E E (JS.seq (JS.rg0 ttOk 4 [(6, .v (.slice a2 x0.length c3)), (7, .v (I (x0.length : Int))), (8, .v (I 0))] ⟨(Es E), E⟩ E E ?_))
  obtain ⟨j32, hj42, h⟩ := joinO_some h
  refine JS.blockJ (ι := Unit) ⟨fun _ => j32 () = some r, fun _ => [(1, .bp 2 0)], fun _ => (.new 2 41 [.slice a2 x0.length c3] .nil), fun _ => [⟨(.sl (.int .i64)), ⟨a2, x0.length, c3⟩, x0⟩], fun _ => [], fun _ => 0⟩ ?_ ?_
  ·
   refine JS.loop (ι := Nat × Int) ⟨fun z => fixF (M_s_RingOk_L1 x0 j32) z.1 z.2 = some r, fun z => [(1, .bp 2 0), (6, .v (.slice a2 x0.length c3)), (7, .v (I (x0.length : Int))), (8, .v (I z.2))], fun z => (.new 2 41 [.slice a2 x0.length c3] .nil), fun z => [⟨(.sl (.int .i64)), ⟨a2, x0.length, c3⟩, x0⟩], fun z => [], fun z => z.1⟩ (FUEL, 0) h (Es E) (Bs E E) [0] E [] E ?_
   rintro ⟨n27, x6⟩ h
   obtain ⟨n27, rfl, h⟩ := fixF_some h
   rw [M_s_RingOk_L1] at h
   refine JS.rg0 ttOk 1 [(9, .v (.bool (decide (x6 < (x0.length : Int)))))] ⟨⟨E, V⟩, E⟩ E E (JS.seq ?_)
   refine JS.cond E (fun ht41 => ?_) (fun ht41 => ?_)
   ·
    have h := condT h ht41
    refine JS.skip (JS.seq (JS.block (JS.seq (JS.region (JO.know 0 E fun hs38 => ?_)))))
    obtain ⟨g11, h⟩ := guardO_some h
    refine JO.reg ttOk 1 [] [] [(10, .ep ⟨a2, x0.length, c3⟩ (Int.toNat x6 * 1))] _ E ⟨hs38.ix g11, ⟨E, V⟩, E⟩ (JO.openR 0 E (Int.toNat x6) (at' x0 x6) E fun a12 c13 ys14 hl15 hy16 => JO.loadV ttOk E E E E E E 0 E E (Int.toNat x6) 0 (Sl.v ⟨a12, (at' x0 x6).length, c13⟩) ⟨hy16 (ltNat g11), E⟩ E E E (JO.regB ttOk 2 [] [16] [(4, .bp 16 0)] (.new 2 41 [.slice a2 x0.length c3] (.new 16 174 [.slice a12 (at' x0 x6).length c13] .nil)) E ⟨⟨E, V⟩, (Bs E E)⟩ (JO.done E (JS.seq (JS.region (JO.reg ttOk 7 [] [] [(16, .v (.bool (decide (((at' x0 x6).length : Int) = 0)))), (18, .cd [(16, false)] (.v (.slice a12 (at' x0 x6).length c13)))] _ E ⟨(Es E), E⟩ ?_))))))
    obtain ⟨y17, hy18, -, h⟩ := callO_some h
    refine JO.callg E E E E (fun q39 => ok_s_l15Piece (at' x0 x6) a12 c13 ((at' x0 x6).length) E _ (hy18 q39)) E [1] E E (JO.reg ttOk 2 [] [] [(21, .v (.bool (bif (decide (((at' x0 x6).length : Int) = 0)) then true else (!y17))))] _ E ⟨⟨E, V⟩, E⟩ (JO.done E ?_))
    refine JS.cond E (fun ht40 => ?_) (fun ht40 => ?_)
    ·
     have h := condT h ht40
     refine JS.rg0 ttOk 1 [(2, .v (.bool false))] ⟨⟨E, V⟩, E⟩ E E ?_
     cases h
     exact JS.ret ttOk () V E E [] E
    have h := condF h ht40
    refine JS.skip (JS.endB (JS.re ttOk 2 [(W (x6 + 1))] [] [(8, .v (I (W (x6 + 1))))] _ ⟨⟨V, E⟩, ⟨E, V⟩, E⟩ E E (JS.endL (n27, (W (x6 + 1))) h (Nat.lt_succ_self _) (Es E) (Bs E E) [2] E [] E)))
   have h := condF h ht41
   refine JS.exit E (JS.endJ () h ⟨E, V⟩ (Bs E E) [0] E [] E)
  rintro _ h
  subst hj42
  refine JS.rg0 ttOk 5 [(2, .v (.bool (decide ((x0.length : Int) ≤ 6))))] ⟨⟨E, V⟩, E⟩ E E ?_
  cases h
  exact JS.ret ttOk () V E E [] E

def M_s_UndoOk_L1 (x0 : List (List Int × Int)) (j29 : Unit → Option Bool) (k24 : Int → Option Bool) : Int → Option Bool := fun x6 =>
  (bif (decide (x6 < (x0.length : Int))) then
  (guardO (0 ≤ x6 ∧ x6 < (x0.length : Int)) <|
  (bindO (M_s_LineOk ((at' x0 x6).1, (at' x0 x6).2)) fun (y17 : Bool) =>
  (bif (!y17) then
  some false
  else
  k24 (W (x6 + 1)))))
  else
  j29 ())

def M_s_UndoOk (x0 : List (List Int × Int)) : Option Bool :=
  (joinO (fun (_ : Unit) =>
  some (decide ((x0.length : Int) ≤ 20))) fun j29 =>
  (fixF (M_s_UndoOk_L1 x0 j29) FUEL 0))

theorem ok_s_UndoOk (x0 : List (List Int × Int)) (a2 : Option Addr) (c3 : Nat) (l4 : Nat) (hl5 : x0.length = l4) (r : Bool) (h : M_s_UndoOk x0 = some r) :
  FC Tryz.prog 131 [.agg #[.slice a2 l4 c3]] [⟨(.pair (.sl (.int .i64)) (.int .i64)), ⟨a2, l4, c3⟩, x0⟩] (fun _ : Unit => True) (fun _ => .bool r) (fun _ => []) :=
 by
  subst hl5
  refine FC.of (T := TTx) Tryz.call131 Tryz.func131 E E fun w0 => ?_
  unfold M_s_UndoOk at h
  refine JS.rgB ttOk 2 [] [2] [(1, .bp 2 0)] (.new 2 44 [.slice a2 x0.length c3] .nil) ⟨⟨E, V⟩, (Bs E E)⟩ E E (JS.seq (JS.rg0 ttOk 4 [(6, .v (.slice a2 x0.length c3)), (7, .v (I (x0.length : Int))), (8, .v (I 0))] ⟨(Es E), E⟩ E E ?_))
  obtain ⟨j29, hj37, h⟩ := joinO_some h
  refine JS.blockJ (ι := Unit) ⟨fun _ => j29 () = some r, fun _ => [(1, .bp 2 0)], fun _ => (.new 2 44 [.slice a2 x0.length c3] .nil), fun _ => [⟨(.pair (.sl (.int .i64)) (.int .i64)), ⟨a2, x0.length, c3⟩, x0⟩], fun _ => [], fun _ => 0⟩ ?_ ?_
  ·
   refine JS.loop (ι := Nat × Int) ⟨fun z => fixF (M_s_UndoOk_L1 x0 j29) z.1 z.2 = some r, fun z => [(1, .bp 2 0), (6, .v (.slice a2 x0.length c3)), (7, .v (I (x0.length : Int))), (8, .v (I z.2))], fun z => (.new 2 44 [.slice a2 x0.length c3] .nil), fun z => [⟨(.pair (.sl (.int .i64)) (.int .i64)), ⟨a2, x0.length, c3⟩, x0⟩], fun z => [], fun z => z.1⟩ (FUEL, 0) h (Es E) (Bs E E) [0] E [] E ?_
   rintro ⟨n25, x6⟩ h
   obtain ⟨n25, rfl, h⟩ := fixF_some h
   rw [M_s_UndoOk_L1] at h
   refine JS.rg0 ttOk 1 [(9, .v (.bool (decide (x6 < (x0.length : Int)))))] ⟨⟨E, V⟩, E⟩ E E (JS.seq ?_)
   refine JS.cond E (fun ht36 => ?_) (fun ht36 => ?_)
   ·
    have h := condT h ht36
    refine JS.skip (JS.seq (JS.block (JS.seq (JS.region (JO.know 0 E fun hs34 => ?_)))))
    obtain ⟨g11, h⟩ := guardO_some h
    refine JO.reg ttOk 1 [] [] [(10, .ep ⟨a2, x0.length, c3⟩ (Int.toNat x6 * 2))] _ E ⟨hs34.ix g11, ⟨E, V⟩, E⟩ (JO.openR 0 E (Int.toNat x6) (at' x0 x6) E fun a12 c13 ys14 hl15 hy16 => JO.loadV ttOk E E E E E E 0 E E (Int.toNat x6) 0 ((Sl.v ⟨a12, ((at' x0 x6).1).length, c13⟩), (at' x0 x6).2) ⟨hy16 (ltNat g11), E⟩ E E E (JO.regB ttOk 2 [] [16] [(4, .bp 16 0)] (.new 2 44 [.slice a2 x0.length c3] (.new 16 38 [.slice a12 ((at' x0 x6).1).length c13, .int .i64 (at' x0 x6).2] .nil)) E ⟨⟨E, V⟩, (Bs E E)⟩ (JO.done E (JS.seq (JS.region (JO.reg ttOk 1 [] [] [(12, .v (.agg #[.slice a12 ((at' x0 x6).1).length c13, .int .i64 (at' x0 x6).2]))] _ E ⟨⟨E, V⟩, E⟩ ?_))))))
    obtain ⟨y17, hy18, h⟩ := bindO_some h
    refine JO.call E E E E (ok_s_LineOk ((at' x0 x6).1, (at' x0 x6).2) a12 c13 (((at' x0 x6).1).length) E _ hy18) E [1] E E fun _ _ => JO.reg ttOk 1 [] [] [(14, .v (.bool (!y17)))] _ E ⟨⟨E, V⟩, E⟩ (JO.done E ?_)
    refine JS.cond E (fun ht35 => ?_) (fun ht35 => ?_)
    ·
     have h := condT h ht35
     refine JS.rg0 ttOk 1 [(2, .v (.bool false))] ⟨⟨E, V⟩, E⟩ E E ?_
     cases h
     exact JS.ret ttOk () V E E [] E
    have h := condF h ht35
    refine JS.skip (JS.endB (JS.re ttOk 2 [(W (x6 + 1))] [] [(8, .v (I (W (x6 + 1))))] _ ⟨⟨V, E⟩, ⟨E, V⟩, E⟩ E E (JS.endL (n25, (W (x6 + 1))) h (Nat.lt_succ_self _) (Es E) (Bs E E) [2] E [] E)))
   have h := condF h ht36
   refine JS.exit E (JS.endJ () h ⟨E, V⟩ (Bs E E) [0] E [] E)
  rintro _ h
  subst hj37
  refine JS.rg0 ttOk 5 [(2, .v (.bool (decide ((x0.length : Int) ≤ 20))))] ⟨⟨E, V⟩, E⟩ E E ?_
  cases h
  exact JS.ret ttOk () V E E [] E

def M_s_EdOk_L1 (x0 : EdQ) (j63 : Unit → Option Bool) (k58 : Int → Option Bool) : Int → Option Bool := fun x51 =>
  (bif (decide (x51 < (x0.2.2.2.2.2.2.2.2.2.2.2.2.2.2.1.length : Int))) then
  (guardO (0 ≤ x51 ∧ x51 < (x0.2.2.2.2.2.2.2.2.2.2.2.2.2.2.1.length : Int)) <|
  (bindO (M_s_Printable (at' x0.2.2.2.2.2.2.2.2.2.2.2.2.2.2.1 x51)) fun (y54 : Bool) =>
  (bif (!y54) then
  some false
  else
  k58 (W (x51 + 1)))))
  else
  j63 ())

def M_s_EdOk (x0 : EdQ) : Option Bool :=
  (bindO (M_s_LineOk x0.2.2.1) fun (y26 : Bool) =>
  (callO ((!y26) = false) (M_s_LineOk x0.2.2.2.2.2.2.2.2.2.2.2.2.2.1) false fun (y28 : Bool) =>
  (callO ((bif (!y26) then true else (!y28)) = false) (M_s_LineOk x0.2.2.2.2.2.2.2.2.2.2.2.2.2.2.2.2) false fun (y31 : Bool) =>
  (callO ((bif (bif (!y26) then true else (!y28)) then true else (!y31)) = false) (M_s_l21Mode x0) false fun (y34 : Bool) =>
  (callO ((bif (bif (bif (bif (bif (bif (bif (bif (bif (!y26) then true else (!y28)) then true else (!y31)) then true else (!y34)) then true else (decide (x0.2.2.2.1 < 0))) then true else (decide (999 < x0.2.2.2.1))) then true else (decide (x0.2.2.2.2.2.1 < 0))) then true else (decide (999 < x0.2.2.2.2.2.1))) then true else (decide (x0.2.2.2.2.2.2.2.2.2.1 < 0))) then true else (decide (3 < x0.2.2.2.2.2.2.2.2.2.1))) = false) (M_s_RingOk x0.2.2.2.2.2.2.2.2.2.2.1) false fun (y37 : Bool) =>
  (callO ((bif (bif (bif (bif (bif (bif (bif (bif (bif (bif (!y26) then true else (!y28)) then true else (!y31)) then true else (!y34)) then true else (decide (x0.2.2.2.1 < 0))) then true else (decide (999 < x0.2.2.2.1))) then true else (decide (x0.2.2.2.2.2.1 < 0))) then true else (decide (999 < x0.2.2.2.2.2.1))) then true else (decide (x0.2.2.2.2.2.2.2.2.2.1 < 0))) then true else (decide (3 < x0.2.2.2.2.2.2.2.2.2.1))) then true else (!y37)) = false) (M_s_UndoOk x0.2.2.2.2.2.2.2.2.2.2.2.1) false fun (y40 : Bool) =>
  (bif (bif (bif (bif (bif (bif (bif (bif (bif (bif (bif (bif (!y26) then true else (!y28)) then true else (!y31)) then true else (!y34)) then true else (decide (x0.2.2.2.1 < 0))) then true else (decide (999 < x0.2.2.2.1))) then true else (decide (x0.2.2.2.2.2.1 < 0))) then true else (decide (999 < x0.2.2.2.2.2.1))) then true else (decide (x0.2.2.2.2.2.2.2.2.2.1 < 0))) then true else (decide (3 < x0.2.2.2.2.2.2.2.2.2.1))) then true else (!y37)) then true else (!y40)) then
  some false
  else
  (callO ((!(decide (x0.2.2.2.2.2.2.2.1 = 0))) = true ∧ (bif (decide (x0.2.2.2.2.2.2.2.1 = 0)) then (!(decide (x0.2.2.2.2.2.2.2.2.1 = 0))) else false) = false) (M_s_Printable x0.2.2.2.2.2.2.2.1) false fun (y43 : Bool) =>
  (bif (bif (bif (decide (x0.2.2.2.2.2.2.2.1 = 0)) then (!(decide (x0.2.2.2.2.2.2.2.2.1 = 0))) else false) then true else (bif (!(decide (x0.2.2.2.2.2.2.2.1 = 0))) then (bif (bif (!y43) then true else (decide (x0.2.2.2.2.2.2.2.2.1 < 0))) then true else (decide (3 < x0.2.2.2.2.2.2.2.2.1))) else false)) then
  some false
  else
  (callO ((decide (x0.2.2.2.2.2.2.2.2.2.2.2.2.1 = 0)) = true ∧ (bif (bif (bif (decide (x0.2.2.2.2.2.2.2.2.2.2.2.2.1 < 0)) then true else (decide (1000000060 < x0.2.2.2.2.2.2.2.2.2.2.2.2.1))) then true else (decide (x0.2.2.2.2.2.2.2.2.2.2.2.2.2.2.2.1 < 0))) then true else (decide (1000000060 < x0.2.2.2.2.2.2.2.2.2.2.2.2.2.2.2.1))) = false) (M_s_l21Empty x0.2.2.2.2.2.2.2.2.2.2.2.2.2.1) false fun (y47 : Bool) =>
  (bif (bif (bif (bif (bif (bif (decide (x0.2.2.2.2.2.2.2.2.2.2.2.2.1 < 0)) then true else (decide (1000000060 < x0.2.2.2.2.2.2.2.2.2.2.2.2.1))) then true else (decide (x0.2.2.2.2.2.2.2.2.2.2.2.2.2.2.2.1 < 0))) then true else (decide (1000000060 < x0.2.2.2.2.2.2.2.2.2.2.2.2.2.2.2.1))) then true else (bif (decide (x0.2.2.2.2.2.2.2.2.2.2.2.2.1 = 0)) then (!y47) else false)) then true else (decide (40 < (x0.2.2.2.2.2.2.2.2.2.2.2.2.2.2.1.length : Int)))) then
  some false
  else
  (joinO (fun (_ : Unit) =>
  some true) fun j63 =>
  (fixF (M_s_EdOk_L1 x0 j63) FUEL 0)))))))))))))

theorem ok_s_EdOk (x0 : EdQ) (a2 : Option Addr) (c3 : Nat) (l4 : Nat) (hl5 : x0.2.2.1.1.length = l4) (a6 : Option Addr) (c7 : Nat) (l8 : Nat) (hl9 : (Q8 x0).2.2.1.length = l8) (a10 : Option Addr) (c11 : Nat) (l12 : Nat) (hl13 : (Q8 x0).2.2.2.1.length = l12) (a14 : Option Addr) (c15 : Nat) (l16 : Nat) (hl17 : (Q12 x0).2.1.1.length = l16) (a18 : Option Addr) (c19 : Nat) (l20 : Nat) (hl21 : (Q12 x0).2.2.1.length = l20) (a22 : Option Addr) (c23 : Nat) (l24 : Nat) (hl25 : (Q16 x0).1.length = l24) (r : Bool) (h : M_s_EdOk x0 = some r) :
  FC Tryz.prog 46 [.agg #[.bool x0.1, .int .i64 x0.2.1, .slice a2 l4 c3, .int .i64 x0.2.2.1.2, .int .i64 x0.2.2.2.1, .int .i64 (Q4 x0).1, .int .i64 (Q4 x0).2.1, .int .i64 (Q4 x0).2.2.1, .int .i64 (Q4 x0).2.2.2.1, .int .i64 (Q8 x0).1, .int .i64 (Q8 x0).2.1, .slice a6 l8 c7, .slice a10 l12 c11, .int .i64 (Q12 x0).1, .slice a14 l16 c15, .int .i64 (Q12 x0).2.1.2, .slice a18 l20 c19, .int .i64 (Q12 x0).2.2.2.1, .slice a22 l24 c23, .int .i64 (Q16 x0).2]] [⟨(.int .i64), ⟨a2, l4, c3⟩, x0.2.2.1.1⟩, ⟨(.sl (.int .i64)), ⟨a6, l8, c7⟩, (Q8 x0).2.2.1⟩, ⟨(.pair (.sl (.int .i64)) (.int .i64)), ⟨a10, l12, c11⟩, (Q8 x0).2.2.2.1⟩, ⟨(.int .i64), ⟨a14, l16, c15⟩, (Q12 x0).2.1.1⟩, ⟨(.int .i64), ⟨a18, l20, c19⟩, (Q12 x0).2.2.1⟩, ⟨(.int .i64), ⟨a22, l24, c23⟩, (Q16 x0).1⟩] (fun _ : Unit => True) (fun _ => .bool r) (fun _ => []) :=
 by
  subst hl5
  subst hl9
  subst hl13
  subst hl17
  subst hl21
  subst hl25
  refine FC.of (T := TTx) Tryz.call46 Tryz.func46 E E fun w0 => ?_
  unfold M_s_EdOk at h
  refine JS.rgB ttOk 2 [] [7] [(1, .bp 7 0)] (.new 7 46 (cl46 x0 a2 c3 a6 c7 a10 c11 a14 c15 a18 c19 a22 c23) .nil) ⟨⟨E, V⟩, (Bs E E)⟩ E E (JS.seq (JS.seq (JS.region (JO.reg ttOk 2 [] [] [(7, .v (.agg #[.slice a2 x0.2.2.1.1.length c3, .int .i64 x0.2.2.1.2]))] _ E ⟨⟨E, V⟩, E⟩ ?_))))
  obtain ⟨y26, hy27, h⟩ := bindO_some h
  refine JO.call E E E E (ok_s_LineOk x0.2.2.1 a2 c3 x0.2.2.1.1.length E _ hy27) E [0] E E fun _ _ => JO.reg ttOk 4 [] [] [(10, .v (.bool (!y26))), (12, .cd [(10, false)] (.v (.agg #[.slice a14 (Q12 x0).2.1.1.length c15, .int .i64 (Q12 x0).2.1.2])))] _ E ⟨(Es E), E⟩ ?_
  obtain ⟨y28, hy29, -, h⟩ := callO_some h
  refine JO.callg E E E E (fun q71 => ok_s_LineOk (Q12 x0).2.1 a14 c15 (Q12 x0).2.1.1.length E _ (hy29 q71)) E [3] E E (JO.reg ttOk 5 [] [] [(16, .v (.bool (bif (!y26) then true else (!y28)))), (18, .cd [(16, false)] (.v (.agg #[.slice a22 (Q16 x0).1.length c23, .int .i64 (Q16 x0).2])))] _ E ⟨(Es E), E⟩ ?_)
  obtain ⟨y31, hy32, -, h⟩ := callO_some h
  refine JO.callg E E E E (fun q72 => ok_s_LineOk (Q16 x0) a22 c23 (Q16 x0).1.length E _ (hy32 q72)) E [5] E E (JO.reg ttOk 4 [] [] [(22, .v (.bool (bif (bif (!y26) then true else (!y28)) then true else (!y31)))), (23, .cd [(22, false)] (.v (.agg (cl46 x0 a2 c3 a6 c7 a10 c11 a14 c15 a18 c19 a22 c23).toArray)))] _ E ⟨(Es E), E⟩ ?_)
  obtain ⟨y34, hy35, -, h⟩ := callO_some h
  refine JO.callg E E E E (fun q73 => ok_s_l21Mode x0 a2 c3 x0.2.2.1.1.length E a6 c7 (Q8 x0).2.2.1.length E a10 c11 (Q8 x0).2.2.2.1.length E a14 c15 (Q12 x0).2.1.1.length E a18 c19 (Q12 x0).2.2.1.length E a22 c23 (Q16 x0).1.length E _ (hy35 q73)) E [0, 1, 2, 3, 4, 5] E E (JO.reg ttOk 35 [] [] [(57, .v (.bool (bif (bif (bif (bif (bif (bif (bif (bif (bif (!y26) then true else (!y28)) then true else (!y31)) then true else (!y34)) then true else (decide (x0.2.2.2.1 < 0))) then true else (decide (999 < x0.2.2.2.1))) then true else (decide ((Q4 x0).2.1 < 0))) then true else (decide (999 < (Q4 x0).2.1))) then true else (decide ((Q8 x0).2.1 < 0))) then true else (decide (3 < (Q8 x0).2.1))))), (59, .cd [(57, false)] (.v (.agg #[.slice a6 (Q8 x0).2.2.1.length c7])))] _ E ⟨(Es E), E⟩ ?_)
  obtain ⟨y37, hy38, -, h⟩ := callO_some h
  refine JO.callg E E E E (fun q74 => ok_s_RingOk (Q8 x0).2.2.1 a6 c7 (Q8 x0).2.2.1.length E _ (hy38 q74)) E [1] E E (JO.reg ttOk 5 [] [] [(63, .v (.bool (bif (bif (bif (bif (bif (bif (bif (bif (bif (bif (!y26) then true else (!y28)) then true else (!y31)) then true else (!y34)) then true else (decide (x0.2.2.2.1 < 0))) then true else (decide (999 < x0.2.2.2.1))) then true else (decide ((Q4 x0).2.1 < 0))) then true else (decide (999 < (Q4 x0).2.1))) then true else (decide ((Q8 x0).2.1 < 0))) then true else (decide (3 < (Q8 x0).2.1))) then true else (!y37)))), (65, .cd [(63, false)] (.v (.agg #[.slice a10 (Q8 x0).2.2.2.1.length c11])))] _ E ⟨(Es E), E⟩ ?_)
  obtain ⟨y40, hy41, -, h⟩ := callO_some h
  refine JO.callg E E E E (fun q75 => ok_s_UndoOk (Q8 x0).2.2.2.1 a10 c11 (Q8 x0).2.2.2.1.length E _ (hy41 q75)) E [2] E E (JO.reg ttOk 2 [] [] [(68, .v (.bool (bif (bif (bif (bif (bif (bif (bif (bif (bif (bif (bif (!y26) then true else (!y28)) then true else (!y31)) then true else (!y34)) then true else (decide (x0.2.2.2.1 < 0))) then true else (decide (999 < x0.2.2.2.1))) then true else (decide ((Q4 x0).2.1 < 0))) then true else (decide (999 < (Q4 x0).2.1))) then true else (decide ((Q8 x0).2.1 < 0))) then true else (decide (3 < (Q8 x0).2.1))) then true else (!y37)) then true else (!y40))))] _ E ⟨⟨E, V⟩, E⟩ (JO.done E ?_))
  refine JS.cond E (fun ht86 => ?_) (fun ht86 => ?_)
  ·
   have h := condT h ht86
   refine JS.rg0 ttOk 1 [(2, .v (.bool false))] ⟨⟨E, V⟩, E⟩ E E ?_
   cases h
   exact JS.ret ttOk () V E E [] E
  have h := condF h ht86
  refine JS.skip (JS.seq (JS.seq (JS.region (JO.reg ttOk 15 [] [] [(77, .v (.bool (bif (decide ((Q4 x0).2.2.2.1 = 0)) then (!(decide ((Q8 x0).1 = 0))) else false))), (81, .cd [(77, false)] (.v (.bool (!(decide ((Q4 x0).2.2.2.1 = 0)))))), (83, .cd [(81, true), (77, false)] (.v (I (Q4 x0).2.2.2.1)))] _ E ⟨(Es E), E⟩ ?_))))
  obtain ⟨y43, hy44, -, h⟩ := callO_some h
  refine JO.callg E E E E (fun q76 q77 => ok_s_Printable (Q4 x0).2.2.2.1 _ (hy44 ⟨q76, q77⟩)) E [] E E (JO.reg ttOk 13 [] [] [(97, .v (.bool (bif (bif (decide ((Q4 x0).2.2.2.1 = 0)) then (!(decide ((Q8 x0).1 = 0))) else false) then true else (bif (!(decide ((Q4 x0).2.2.2.1 = 0))) then (bif (bif (!y43) then true else (decide ((Q8 x0).1 < 0))) then true else (decide (3 < (Q8 x0).1))) else false))))] _ E ⟨⟨E, V⟩, E⟩ (JO.done E ?_))
  refine JS.cond E (fun ht85 => ?_) (fun ht85 => ?_)
  ·
   have h := condT h ht85
   refine JS.rg0 ttOk 1 [(2, .v (.bool false))] ⟨⟨E, V⟩, E⟩ E E ?_
   cases h
   exact JS.ret ttOk () V E E [] E
  have h := condF h ht85
  refine JS.skip (JS.rg0 ttOk 1 [(3, .v (I 1000000060))] ⟨⟨E, V⟩, E⟩ E E (JS.seq (JS.seq (JS.region (JO.reg ttOk 27 [] [] [(118, .v (.bool (bif (bif (bif (decide ((Q12 x0).1 < 0)) then true else (decide (1000000060 < (Q12 x0).1))) then true else (decide ((Q12 x0).2.2.2.1 < 0))) then true else (decide (1000000060 < (Q12 x0).2.2.2.1))))), (122, .cd [(118, false)] (.v (.bool (decide ((Q12 x0).1 = 0))))), (124, .cd [(122, true), (118, false)] (.v (.agg #[.slice a14 (Q12 x0).2.1.1.length c15, .int .i64 (Q12 x0).2.1.2])))] _ E ⟨(Es E), E⟩ ?_)))))
  obtain ⟨y47, hy48, -, h⟩ := callO_some h
  refine JO.callg E E E E (fun q78 q79 => ok_s_l21Empty (Q12 x0).2.1 a14 c15 (Q12 x0).2.1.1.length E _ (hy48 ⟨q78, q79⟩)) E [3] E E (JO.reg ttOk 9 [] [] [(134, .v (.bool (bif (bif (bif (bif (bif (decide ((Q12 x0).1 < 0)) then true else (decide (1000000060 < (Q12 x0).1))) then true else (decide ((Q12 x0).2.2.2.1 < 0))) then true else (decide (1000000060 < (Q12 x0).2.2.2.1))) then true else (bif (decide ((Q12 x0).1 = 0)) then (!y47) else false)) then true else (decide (40 < ((Q12 x0).2.2.1.length : Int))))))] _ E ⟨⟨E, V⟩, E⟩ (JO.done E ?_))
  refine JS.cond E (fun ht84 => ?_) (fun ht84 => ?_)
  ·
   have h := condT h ht84
   refine JS.rg0 ttOk 1 [(2, .v (.bool false))] ⟨⟨E, V⟩, E⟩ E E ?_
   cases h
   exact JS.ret ttOk () V E E [] E
  have h := condF h ht84
  refine JS.skip (JS.seq (JS.rg0 ttOk 4 [(136, .v (.slice a18 (Q12 x0).2.2.1.length c19)), (137, .v (I ((Q12 x0).2.2.1.length : Int))), (138, .v (I 0))] ⟨(Es E), E⟩ E E ?_))
  obtain ⟨j63, hj83, h⟩ := joinO_some h
  refine JS.blockJ (ι := Unit) ⟨fun _ => j63 () = some r, fun _ => [], fun _ => .nil, fun _ => [], fun _ => [], fun _ => 0⟩ ?_ ?_
  ·
   refine JS.loop (ι := Nat × Int) ⟨fun z => fixF (M_s_EdOk_L1 x0 j63) z.1 z.2 = some r, fun z => [(136, .v (.slice a18 (Q12 x0).2.2.1.length c19)), (137, .v (I ((Q12 x0).2.2.1.length : Int))), (138, .v (I z.2))], fun z => .nil, fun z => [⟨(.int .i64), ⟨a18, (Q12 x0).2.2.1.length, c19⟩, (Q12 x0).2.2.1⟩], fun z => [], fun z => z.1⟩ (FUEL, 0) h (Es E) V [4] E [] E ?_
   rintro ⟨n59, x51⟩ h
   obtain ⟨n59, rfl, h⟩ := fixF_some h
   rw [M_s_EdOk_L1] at h
   refine JS.rg0 ttOk 1 [(139, .v (.bool (decide (x51 < ((Q12 x0).2.2.1.length : Int)))))] ⟨⟨E, V⟩, E⟩ E E (JS.seq ?_)
   refine JS.cond E (fun ht82 => ?_) (fun ht82 => ?_)
   ·
    have h := condT h ht82
    refine JS.skip (JS.seq (JS.block (JS.seq (JS.region (JO.know 0 E fun hs80 => ?_)))))
    obtain ⟨g53, h⟩ := guardO_some h
    refine JO.reg ttOk 1 [] [] [(140, .ep ⟨a18, (Q12 x0).2.2.1.length, c19⟩ (Int.toNat x51 * 1))] _ E ⟨hs80.ix g53, ⟨E, V⟩, E⟩ (JO.load ttOk E E E E E E E 0 E E (Int.toNat x51) 0 (at' (Q12 x0).2.2.1 x51) ⟨at_some g53, E⟩ E E (JO.reg ttOk 1 [] [] [(5, .v (I (at' (Q12 x0).2.2.1 x51)))] _ E ⟨⟨E, V⟩, E⟩ (JO.done E (JS.seq (JS.region (JO.reg ttOk 1 [] [] [(142, .v (I (at' (Q12 x0).2.2.1 x51)))] _ E ⟨⟨E, V⟩, E⟩ ?_))))))
    obtain ⟨y54, hy55, h⟩ := bindO_some h
    refine JO.call E E E E (ok_s_Printable (at' (Q12 x0).2.2.1 x51) _ hy55) E [] E E fun _ _ => JO.reg ttOk 1 [] [] [(144, .v (.bool (!y54)))] _ E ⟨⟨E, V⟩, E⟩ (JO.done E ?_)
    refine JS.cond E (fun ht81 => ?_) (fun ht81 => ?_)
    ·
     have h := condT h ht81
     refine JS.rg0 ttOk 1 [(2, .v (.bool false))] ⟨⟨E, V⟩, E⟩ E E ?_
     cases h
     exact JS.ret ttOk () V E E [] E
    have h := condF h ht81
    refine JS.skip (JS.endB (JS.re ttOk 2 [(W (x51 + 1))] [] [(138, .v (I (W (x51 + 1))))] _ ⟨⟨V, E⟩, ⟨E, V⟩, E⟩ E E (JS.endL (n59, (W (x51 + 1))) h (Nat.lt_succ_self _) (Es E) V [0] E [] E)))
   have h := condF h ht82
   refine JS.exit E (JS.endJ () h V V [] E [] E)
  rintro _ h
  subst hj83
  refine JS.rg0 ttOk 1 [(2, .v (.bool true))] ⟨⟨E, V⟩, E⟩ E E ?_
  cases h
  exact JS.ret ttOk () V E E [] E

def M_s_HistOk_L1 (x0 : Int × List (List UInt8)) (j23 : Unit → Option Bool) (k18 : Int → Option Bool) : Int → Option Bool := fun x6 =>
  (bif (decide (x6 < (x0.2.length : Int))) then
  (guardO (0 ≤ x6 ∧ x6 < (x0.2.length : Int)) <|
  (bif (bif (decide (((at' x0.2 x6).length : Int) < 1)) then true else (decide (1000 < ((at' x0.2 x6).length : Int)))) then
  some false
  else
  k18 (W (x6 + 1))))
  else
  j23 ())

def M_s_HistOk (x0 : Int × List (List UInt8)) : Option Bool :=
  (joinO (fun (_ : Unit) =>
  some (bif (bif (decide (1 ≤ x0.1)) then (decide (x0.1 ≤ 1000000000)) else false) then (decide ((x0.2.length : Int) ≤ 60)) else false)) fun j23 =>
  (fixF (M_s_HistOk_L1 x0 j23) FUEL 0))

theorem ok_s_HistOk (x0 : Int × List (List UInt8)) (a2 : Option Addr) (c3 : Nat) (l4 : Nat) (hl5 : x0.2.length = l4) (r : Bool) (h : M_s_HistOk x0 = some r) :
  FC Tryz.prog 78 [.agg #[.int .i64 x0.1, .slice a2 l4 c3]] [⟨.str, ⟨a2, l4, c3⟩, x0.2⟩] (fun _ : Unit => True) (fun _ => .bool r) (fun _ => []) :=
 by
  subst hl5
  refine FC.of (T := TTx) Tryz.call78 Tryz.func78 E E fun w0 => ?_
  unfold M_s_HistOk at h
  refine JS.rgB ttOk 2 [] [2] [(1, .bp 2 0)] (.new 2 50 [.int .i64 x0.1, .slice a2 x0.2.length c3] .nil) ⟨⟨E, V⟩, (Bs E E)⟩ E E (JS.seq (JS.rg0 ttOk 4 [(6, .v (.slice a2 x0.2.length c3)), (7, .v (I (x0.2.length : Int))), (8, .v (I 0))] ⟨(Es E), E⟩ E E ?_))
  obtain ⟨j23, hj31, h⟩ := joinO_some h
  refine JS.blockJ (ι := Unit) ⟨fun _ => j23 () = some r, fun _ => [(1, .bp 2 0)], fun _ => (.new 2 50 [.int .i64 x0.1, .slice a2 x0.2.length c3] .nil), fun _ => [⟨.str, ⟨a2, x0.2.length, c3⟩, x0.2⟩], fun _ => [], fun _ => 0⟩ ?_ ?_
  ·
   refine JS.loop (ι := Nat × Int) ⟨fun z => fixF (M_s_HistOk_L1 x0 j23) z.1 z.2 = some r, fun z => [(1, .bp 2 0), (6, .v (.slice a2 x0.2.length c3)), (7, .v (I (x0.2.length : Int))), (8, .v (I z.2))], fun z => (.new 2 50 [.int .i64 x0.1, .slice a2 x0.2.length c3] .nil), fun z => [⟨.str, ⟨a2, x0.2.length, c3⟩, x0.2⟩], fun z => [], fun z => z.1⟩ (FUEL, 0) h (Es E) (Bs E E) [0] E [] E ?_
   rintro ⟨n19, x6⟩ h
   obtain ⟨n19, rfl, h⟩ := fixF_some h
   rw [M_s_HistOk_L1] at h
   refine JS.rg0 ttOk 1 [(9, .v (.bool (decide (x6 < (x0.2.length : Int)))))] ⟨⟨E, V⟩, E⟩ E E (JS.seq ?_)
   refine JS.cond E (fun ht30 => ?_) (fun ht30 => ?_)
   ·
    have h := condT h ht30
    refine JS.skip (JS.seq (JS.block (JS.seq (JS.region (JO.know 0 E fun hs28 => ?_)))))
    obtain ⟨g12, h⟩ := guardO_some h
    refine JO.reg ttOk 1 [] [] [(10, .ep ⟨a2, x0.2.length, c3⟩ (Int.toNat x6 * 1))] _ E ⟨hs28.ix g12, ⟨E, V⟩, E⟩ (JO.load ttOk E E E E E E E 0 E E (Int.toNat x6) 0 (at' x0.2 x6) ⟨at_some g12, E⟩ E E (JO.reg ttOk 1 [] [] [(4, .v (.string (bs (at' x0.2 x6))))] _ E ⟨⟨E, V⟩, E⟩ (JO.done E (JS.rg0 ttOk 8 [(19, .v (.bool (bif (decide (((at' x0.2 x6).length : Int) < 1)) then true else (decide (1000 < ((at' x0.2 x6).length : Int))))))] ⟨⟨E, V⟩, E⟩ E E ?_))))
    refine JS.cond E (fun ht29 => ?_) (fun ht29 => ?_)
    ·
     have h := condT h ht29
     refine JS.rg0 ttOk 1 [(2, .v (.bool false))] ⟨⟨E, V⟩, E⟩ E E ?_
     cases h
     exact JS.ret ttOk () V E E [] E
    have h := condF h ht29
    refine JS.skip (JS.endB (JS.re ttOk 2 [(W (x6 + 1))] [] [(8, .v (I (W (x6 + 1))))] _ ⟨⟨V, E⟩, ⟨E, V⟩, E⟩ E E (JS.endL (n19, (W (x6 + 1))) h (Nat.lt_succ_self _) (Es E) (Bs E E) [0] E [] E)))
   have h := condF h ht30
   refine JS.exit E (JS.endJ () h ⟨E, V⟩ (Bs E E) [0] E [] E)
  rintro _ h
  subst hj31
  refine JS.rg0 ttOk 15 [(2, .v (.bool (bif (bif (decide (1 ≤ x0.1)) then (decide (x0.1 ≤ 1000000000)) else false) then (decide ((x0.2.length : Int) ≤ 60)) else false)))] ⟨⟨E, V⟩, E⟩ E E ?_
  cases h
  exact JS.ret ttOk () V E E [] E

def M_s_KeyOk (x0 : Int × Int) : Option Bool :=
  (bif (decide (x0.1 = 1)) then
  (bindO (M_s_Printable x0.2) fun (y2 : Bool) =>
  some y2)
  else
  (bif (decide (x0.1 = 2)) then
  some (bif (decide (x0.2 = 95)) then true else (bif (bif (bif (bif (bif (decide (97 ≤ x0.2)) then (decide (x0.2 ≤ 122)) else false) then (!(decide (x0.2 = 104))) else false) then (!(decide (x0.2 = 105))) else false) then (!(decide (x0.2 = 106))) else false) then (!(decide (x0.2 = 109))) else false))
  else
  (bif (decide (x0.1 = 3)) then
  some (bif (decide (33 ≤ x0.2)) then (decide (x0.2 ≤ 126)) else false)
  else
  some (bif (bif (decide (4 ≤ x0.1)) then (decide (x0.1 ≤ 16)) else false) then (decide (x0.2 = 0)) else false))))

theorem ok_s_KeyOk (x0 : Int × Int) (r : Bool) (h : M_s_KeyOk x0 = some r) :
  FC Tryz.prog 79 [.agg #[.int .i64 x0.1, .int .i64 x0.2]] [] (fun _ : Unit => True) (fun _ => .bool r) (fun _ => []) :=
 by
  refine FC.of (T := TTx) Tryz.call79 Tryz.func79 E E fun w0 => ?_
  unfold M_s_KeyOk at h
  refine JS.rgB ttOk 2 [] [1] [(1, .bp 1 0)] (.new 1 64 [.int .i64 x0.1, .int .i64 x0.2] .nil) ⟨⟨E, V⟩, (Bs E E)⟩ E E (JS.seq (JS.rg0 ttOk 2 [(4, .v (I x0.1))] ⟨⟨E, V⟩, E⟩ E E (JS.block (JS.rg0 ttOk 2 [(5, .v (.bool (decide (x0.1 = 1))))] ⟨⟨E, V⟩, E⟩ E E ?_))))
  refine JS.cond E (fun ht9 => ?_) (fun ht9 => ?_)
  ·
   have h := condT h ht9
   refine JS.seq (JS.region (JO.reg ttOk 2 [] [] [(8, .v (I x0.2))] _ E ⟨⟨E, V⟩, E⟩ ?_))
   obtain ⟨y2, hy3, h⟩ := bindO_some h
   refine JO.call E E E E (ok_s_Printable x0.2 _ hy3) E [] E E fun _ _ => JO.reg ttOk 1 [] [] [(2, .v (.bool y2))] _ E ⟨⟨E, V⟩, E⟩ (JO.done E ?_)
   cases h
   exact JS.ret ttOk () V E E [] E
  have h := condF h ht9
  refine JS.rg0 ttOk 2 [(10, .v (.bool (decide (x0.1 = 2))))] ⟨⟨E, V⟩, E⟩ E E ?_
  refine JS.cond E (fun ht8 => ?_) (fun ht8 => ?_)
  ·
   have h := condT h ht8
   refine JS.rg0 ttOk 34 [(2, .v (.bool (bif (decide (x0.2 = 95)) then true else (bif (bif (bif (bif (bif (decide (97 ≤ x0.2)) then (decide (x0.2 ≤ 122)) else false) then (!(decide (x0.2 = 104))) else false) then (!(decide (x0.2 = 105))) else false) then (!(decide (x0.2 = 106))) else false) then (!(decide (x0.2 = 109))) else false))))] ⟨⟨E, V⟩, E⟩ E E ?_
   cases h
   exact JS.ret ttOk () V E E [] E
  have h := condF h ht8
  refine JS.rg0 ttOk 2 [(45, .v (.bool (decide (x0.1 = 3))))] ⟨⟨E, V⟩, E⟩ E E ?_
  refine JS.cond E (fun ht7 => ?_) (fun ht7 => ?_)
  ·
   have h := condT h ht7
   refine JS.rg0 ttOk 9 [(2, .v (.bool (bif (decide (33 ≤ x0.2)) then (decide (x0.2 ≤ 126)) else false)))] ⟨⟨E, V⟩, E⟩ E E ?_
   cases h
   exact JS.ret ttOk () V E E [] E
  have h := condF h ht7
  refine JS.skip (JS.endB (JS.rg0 ttOk 14 [(2, .v (.bool (bif (bif (decide (4 ≤ x0.1)) then (decide (x0.1 ≤ 16)) else false) then (decide (x0.2 = 0)) else false)))] ⟨⟨E, V⟩, E⟩ E E ?_))
  cases h
  exact JS.ret ttOk () V E E [] E

def M_s_l23N (x0 : EdQ) : Option Int :=
  (bif (decide (x0.2.2.2.1 < 1)) then
  some 1
  else
  some x0.2.2.2.1)

theorem ok_s_l23N (x0 : EdQ) (a2 : Option Addr) (c3 : Nat) (l4 : Nat) (hl5 : x0.2.2.1.1.length = l4) (a6 : Option Addr) (c7 : Nat) (l8 : Nat) (hl9 : (Q8 x0).2.2.1.length = l8) (a10 : Option Addr) (c11 : Nat) (l12 : Nat) (hl13 : (Q8 x0).2.2.2.1.length = l12) (a14 : Option Addr) (c15 : Nat) (l16 : Nat) (hl17 : (Q12 x0).2.1.1.length = l16) (a18 : Option Addr) (c19 : Nat) (l20 : Nat) (hl21 : (Q12 x0).2.2.1.length = l20) (a22 : Option Addr) (c23 : Nat) (l24 : Nat) (hl25 : (Q16 x0).1.length = l24) (r : Int) (h : M_s_l23N x0 = some r) :
  FC Tryz.prog 110 [.agg #[.bool x0.1, .int .i64 x0.2.1, .slice a2 l4 c3, .int .i64 x0.2.2.1.2, .int .i64 x0.2.2.2.1, .int .i64 (Q4 x0).1, .int .i64 (Q4 x0).2.1, .int .i64 (Q4 x0).2.2.1, .int .i64 (Q4 x0).2.2.2.1, .int .i64 (Q8 x0).1, .int .i64 (Q8 x0).2.1, .slice a6 l8 c7, .slice a10 l12 c11, .int .i64 (Q12 x0).1, .slice a14 l16 c15, .int .i64 (Q12 x0).2.1.2, .slice a18 l20 c19, .int .i64 (Q12 x0).2.2.2.1, .slice a22 l24 c23, .int .i64 (Q16 x0).2]] [⟨(.int .i64), ⟨a2, l4, c3⟩, x0.2.2.1.1⟩, ⟨(.sl (.int .i64)), ⟨a6, l8, c7⟩, (Q8 x0).2.2.1⟩, ⟨(.pair (.sl (.int .i64)) (.int .i64)), ⟨a10, l12, c11⟩, (Q8 x0).2.2.2.1⟩, ⟨(.int .i64), ⟨a14, l16, c15⟩, (Q12 x0).2.1.1⟩, ⟨(.int .i64), ⟨a18, l20, c19⟩, (Q12 x0).2.2.1⟩, ⟨(.int .i64), ⟨a22, l24, c23⟩, (Q16 x0).1⟩] (fun _ : Unit => True) (fun _ => .int .i64 r) (fun _ => []) :=
 by
  subst hl5
  subst hl9
  subst hl13
  subst hl17
  subst hl21
  subst hl25
  refine FC.of (T := TTx) Tryz.call110 Tryz.func110 E E fun w0 => ?_
  unfold M_s_l23N at h
  refine JS.rgB ttOk 2 [] [7] [(1, .bp 7 0)] (.new 7 46 (cl46 x0 a2 c3 a6 c7 a10 c11 a14 c15 a18 c19 a22 c23) .nil) ⟨⟨E, V⟩, (Bs E E)⟩ E E (JS.seq (JS.rg0 ttOk 3 [(5, .v (.bool (decide (x0.2.2.2.1 < 1))))] ⟨⟨E, V⟩, E⟩ E E ?_))
  refine JS.cond E (fun ht27 => ?_) (fun ht27 => ?_)
  ·
   have h := condT h ht27
   refine JS.rg0 ttOk 1 [(2, .v (I 1))] ⟨⟨E, V⟩, E⟩ E E ?_
   cases h
   exact JS.ret ttOk () V E E [] E
  have h := condF h ht27
  refine JS.skip (JS.rg0 ttOk 3 [(2, .v (I x0.2.2.2.1))] ⟨⟨E, V⟩, E⟩ E E ?_)
  cases h
  exact JS.ret ttOk () V E E [] E

def M_s_l08Clamp (x0 : Int) (x1 : Int) : Option Int :=
  (bif (decide (x0 < 0)) then
  some 0
  else
  (bif (decide (x1 < x0)) then
  some x1
  else
  some x0))

theorem ok_s_l08Clamp (x0 : Int) (x1 : Int) (r : Int) (h : M_s_l08Clamp x0 x1 = some r) :
  FC Tryz.prog 122 [.int .i64 x0, .int .i64 x1] [] (fun _ : Unit => True) (fun _ => .int .i64 r) (fun _ => []) :=
 by
  refine FC.of (T := TTx) Tryz.call122 Tryz.func122 E E fun w0 => ?_
  unfold M_s_l08Clamp at h
  refine JS.rg0 ttOk 1 [] ⟨V, E⟩ E E (JS.seq (JS.rg0 ttOk 2 [(6, .v (.bool (decide (x0 < 0))))] ⟨⟨E, V⟩, E⟩ E E ?_))
  refine JS.cond E (fun ht6 => ?_) (fun ht6 => ?_)
  ·
   have h := condT h ht6
   refine JS.rg0 ttOk 1 [(4, .v (I 0))] ⟨⟨E, V⟩, E⟩ E E ?_
   cases h
   exact JS.ret ttOk () V E E [] E
  have h := condF h ht6
  refine JS.skip (JS.seq (JS.rg0 ttOk 3 [(9, .v (.bool (decide (x1 < x0))))] ⟨⟨E, V⟩, E⟩ E E ?_))
  refine JS.cond E (fun ht5 => ?_) (fun ht5 => ?_)
  ·
   have h := condT h ht5
   refine JS.rg0 ttOk 2 [(4, .v (I x1))] ⟨⟨E, V⟩, E⟩ E E ?_
   cases h
   exact JS.ret ttOk () V E E [] E
  have h := condF h ht5
  refine JS.skip (JS.rg0 ttOk 2 [(4, .v (I x0))] ⟨⟨E, V⟩, E⟩ E E ?_)
  cases h
  exact JS.ret ttOk () V E E [] E

def M_s_ClassOf (x0 : Int) : Option Int :=
  (bif (bif (bif (decide (x0 = 9)) then true else (decide (x0 = 10))) then true else (decide (x0 = 32))) then
  some 0
  else
  (callO ((decide (159 < x0)) = true ∧ (bif (bif (bif (bif (decide (97 ≤ x0)) then (decide (x0 ≤ 122)) else false) then true else (bif (decide (65 ≤ x0)) then (decide (x0 ≤ 90)) else false)) then true else (bif (decide (48 ≤ x0)) then (decide (x0 ≤ 57)) else false)) then true else (decide (x0 = 95))) = false) (M_s_Printable x0) false fun (y2 : Bool) =>
  (bif (bif (bif (bif (bif (bif (decide (97 ≤ x0)) then (decide (x0 ≤ 122)) else false) then true else (bif (decide (65 ≤ x0)) then (decide (x0 ≤ 90)) else false)) then true else (bif (decide (48 ≤ x0)) then (decide (x0 ≤ 57)) else false)) then true else (decide (x0 = 95))) then true else (bif (decide (159 < x0)) then y2 else false)) then
  some 1
  else
  some 2)))

theorem ok_s_ClassOf (x0 : Int) (r : Int) (h : M_s_ClassOf x0 = some r) :
  FC Tryz.prog 255 [.int .i64 x0] [] (fun _ : Unit => True) (fun _ => .int .i64 r) (fun _ => []) :=
 by
  refine FC.of (T := TTx) Tryz.call255 Tryz.func255 E E fun w0 => ?_
  unfold M_s_ClassOf at h
  refine JS.rg0 ttOk 1 [] ⟨V, E⟩ E E (JS.seq (JS.rg0 ttOk 10 [(12, .v (.bool (bif (bif (decide (x0 = 9)) then true else (decide (x0 = 10))) then true else (decide (x0 = 32)))))] ⟨⟨E, V⟩, E⟩ E E ?_))
  refine JS.cond E (fun ht11 => ?_) (fun ht11 => ?_)
  ·
   have h := condT h ht11
   refine JS.rg0 ttOk 1 [(2, .v (I 0))] ⟨⟨E, V⟩, E⟩ E E ?_
   cases h
   exact JS.ret ttOk () V E E [] E
  have h := condF h ht11
  refine JS.skip (JS.seq (JS.seq (JS.region (JO.reg ttOk 31 [] [] [(39, .v (.bool (bif (bif (bif (bif (decide (97 ≤ x0)) then (decide (x0 ≤ 122)) else false) then true else (bif (decide (65 ≤ x0)) then (decide (x0 ≤ 90)) else false)) then true else (bif (decide (48 ≤ x0)) then (decide (x0 ≤ 57)) else false)) then true else (decide (x0 = 95))))), (42, .cd [(39, false)] (.v (.bool (decide (159 < x0))))), (43, .cd [(42, true), (39, false)] (.v (I x0)))] _ E ⟨(Es E), E⟩ ?_))))
  obtain ⟨y2, hy3, -, h⟩ := callO_some h
  refine JO.callg E E E E (fun q8 q9 => ok_s_Printable x0 _ (hy3 ⟨q8, q9⟩)) E [] E E (JO.reg ttOk 2 [] [] [(46, .v (.bool (bif (bif (bif (bif (bif (decide (97 ≤ x0)) then (decide (x0 ≤ 122)) else false) then true else (bif (decide (65 ≤ x0)) then (decide (x0 ≤ 90)) else false)) then true else (bif (decide (48 ≤ x0)) then (decide (x0 ≤ 57)) else false)) then true else (decide (x0 = 95))) then true else (bif (decide (159 < x0)) then y2 else false))))] _ E ⟨⟨E, V⟩, E⟩ (JO.done E ?_))
  refine JS.cond E (fun ht10 => ?_) (fun ht10 => ?_)
  ·
   have h := condT h ht10
   refine JS.rg0 ttOk 1 [(2, .v (I 1))] ⟨⟨E, V⟩, E⟩ E E ?_
   cases h
   exact JS.ret ttOk () V E E [] E
  have h := condF h ht10
  refine JS.skip (JS.rg0 ttOk 1 [(2, .v (I 2))] ⟨⟨E, V⟩, E⟩ E E ?_)
  cases h
  exact JS.ret ttOk () V E E [] E

def M_s_l14Class (x0 : Int) (x1 : Bool) : Option Int :=
  (bindO (M_s_ClassOf x0) fun (y3 : Int) =>
  (bif (bif x1 then (decide (y3 = 2)) else false) then
  some 1
  else
  some y3))

theorem ok_s_l14Class (x0 : Int) (x1 : Bool) (r : Int) (h : M_s_l14Class x0 x1 = some r) :
  FC Tryz.prog 244 [.int .i64 x0, .bool x1] [] (fun _ : Unit => True) (fun _ => .int .i64 r) (fun _ => []) :=
 by
  refine FC.of (T := TTx) Tryz.call244 Tryz.func244 E E fun w0 => ?_
  unfold M_s_l14Class at h
  refine JS.rg0 ttOk 1 [] ⟨V, E⟩ E E (JS.seq (JS.region (JO.reg ttOk 1 [] [] [(6, .v (I x0))] _ E ⟨⟨E, V⟩, E⟩ ?_)))
  obtain ⟨y3, hy4, h⟩ := bindO_some h
  refine JO.call E E E E (ok_s_ClassOf x0 _ hy4) E [] E E fun _ _ => JO.reg ttOk 1 [] [] [(5, .v (I y3))] _ E ⟨⟨E, V⟩, E⟩ (JO.done E (JS.seq (JS.rg0 ttOk 5 [(12, .v (.bool (bif x1 then (decide (y3 = 2)) else false)))] ⟨⟨E, V⟩, E⟩ E E ?_)))
  refine JS.cond E (fun ht6 => ?_) (fun ht6 => ?_)
  ·
   have h := condT h ht6
   refine JS.rg0 ttOk 1 [(4, .v (I 1))] ⟨⟨E, V⟩, E⟩ E E ?_
   cases h
   exact JS.ret ttOk () V E E [] E
  have h := condF h ht6
  refine JS.skip (JS.rg0 ttOk 2 [(4, .v (I y3))] ⟨⟨E, V⟩, E⟩ E E ?_)
  cases h
  exact JS.ret ttOk () V E E [] E

def M_s_ViWordBack_L1 (x0 : List Int) (x2 : Bool) (j29 : Int → Option Int) (k20 : Int → Option Int) : Int → Option Int := fun x10 =>
  (guardO (((decide (0 < x10)) = true) → 0 ≤ (W (x10 - 1)) ∧ (W (x10 - 1)) < (x0.length : Int)) <|
  (callO ((decide (0 < x10)) = true) (M_s_l14Class (at' x0 (W (x10 - 1))) x2) (0 : Int) fun (y16 : Int) =>
  (bif (bif (decide (0 < x10)) then (decide (y16 = 0)) else false) then
  k20 (W (x10 - 1))
  else
  j29 x10)))

def M_s_ViWordBack_L2 (x0 : List Int) (x2 : Bool) (y38 : Int) (j59 : Int → Option Int) (k50 : Int → Option Int) : Int → Option Int := fun x40 =>
  (guardO (((decide (0 < x40)) = true) → 0 ≤ (W (x40 - 1)) ∧ (W (x40 - 1)) < (x0.length : Int)) <|
  (callO ((decide (0 < x40)) = true) (M_s_l14Class (at' x0 (W (x40 - 1))) x2) (0 : Int) fun (y46 : Int) =>
  (bif (bif (decide (0 < x40)) then (decide (y46 = y38)) else false) then
  k50 (W (x40 - 1))
  else
  j59 x40)))

def M_s_ViWordBack (x0 : List Int) (x1 : Int) (x2 : Bool) : Option Int :=
  (bindO (M_s_l08Clamp x1 (x0.length : Int)) fun (y8 : Int) =>
  (joinO (fun (x28 : Int) =>
  (bif (decide (x28 = 0)) then
  some 0
  else
  (guardO (0 ≤ (W (x28 - 1)) ∧ (W (x28 - 1)) < (x0.length : Int)) <|
  (bindO (M_s_l14Class (at' x0 (W (x28 - 1))) x2) fun (y38 : Int) =>
  (joinO (fun (x58 : Int) =>
  some x58) fun j59 =>
  (fixF (M_s_ViWordBack_L2 x0 x2 y38 j59) FUEL x28)))))) fun j29 =>
  (fixF (M_s_ViWordBack_L1 x0 x2 j29) FUEL y8)))

theorem ok_s_ViWordBack (x0 : List Int) (x1 : Int) (x2 : Bool) (a4 : Option Addr) (c5 : Nat) (l6 : Nat) (hl7 : x0.length = l6) (r : Int) (h : M_s_ViWordBack x0 x1 x2 = some r) :
  FC Tryz.prog 164 [.slice a4 l6 c5, .int .i64 x1, .bool x2] [⟨(.int .i64), ⟨a4, l6, c5⟩, x0⟩] (fun _ : Unit => True) (fun _ => .int .i64 r) (fun _ => []) :=
 by
  subst hl7
  refine FC.of (T := TTx) Tryz.call164 Tryz.func164 E E fun w0 => ?_
  unfold M_s_ViWordBack at h
  refine JS.rg0 ttOk 1 [] ⟨V, E⟩ E E (JS.seq (JS.region (JO.reg ttOk 3 [] [] [(8, .v (I x1)), (10, .v (I (x0.length : Int)))] _ E ⟨(Es E), E⟩ ?_)))
  obtain ⟨y8, hy9, h⟩ := bindO_some h
  refine JO.call E E E E (ok_s_l08Clamp x1 (x0.length : Int) _ hy9) E [] E E fun _ _ => JO.reg ttOk 1 [] [] [(1, .v (I y8))] _ E ⟨⟨E, V⟩, E⟩ (JO.done E (JS.seq ?_))
  obtain ⟨j29, hj84, h⟩ := joinO_some h
  refine JS.blockJ (ι := Int) ⟨fun z => j29 z = some r, fun z => [(0, .v (.slice a4 x0.length c5)), (1, .v (I z)), (2, .v (.bool x2))], fun z => .nil, fun z => [⟨(.int .i64), ⟨a4, x0.length, c5⟩, x0⟩], fun z => [], fun z => 0⟩ ?_ ?_
  ·
   refine JS.loop (ι := Nat × Int) ⟨fun z => fixF (M_s_ViWordBack_L1 x0 x2 j29) z.1 z.2 = some r, fun z => [(0, .v (.slice a4 x0.length c5)), (1, .v (I z.2)), (2, .v (.bool x2))], fun z => .nil, fun z => [⟨(.int .i64), ⟨a4, x0.length, c5⟩, x0⟩], fun z => [], fun z => z.1⟩ (FUEL, y8) h (Es E) V [0] E [] E ?_
   rintro ⟨n21, x10⟩ h
   obtain ⟨n21, rfl, h⟩ := fixF_some h
   rw [M_s_ViWordBack_L1] at h
   refine JS.seq (JS.seq (JS.region (JO.know 0 E fun hs70 => ?_)))
   obtain ⟨g13, h⟩ := guardO_some h
   refine JO.reg ttOk 7 [(W (x10 - 1))] [] [(14, .v (.bool (decide (0 < x10)))), (18, .cd [(14, true)] (.ep ⟨a4, x0.length, c5⟩ (Int.toNat (W (x10 - 1)) * 1)))] _ E ⟨(fun q69 => ⟨V, E⟩), (fun q71 => hs70.ix (g13 q71)), (Es E), E⟩ (JO.load ttOk E E E E E E E 0 E E (Int.toNat (W (x10 - 1))) 0 (at' x0 (W (x10 - 1))) (fun q72 => ⟨at_some (g13 q72), E⟩) E E (JO.reg ttOk 1 [] [] [(20, .cd [(14, true)] (.v (.bool x2)))] _ E ⟨⟨E, V⟩, E⟩ ?_))
   obtain ⟨y16, hy17, -, h⟩ := callO_some h
   refine JO.callg E E E E (fun q73 => ok_s_l14Class (at' x0 (W (x10 - 1))) x2 _ (hy17 q73)) E [] E E (JO.reg ttOk 2 [] [] [(23, .v (.bool (bif (decide (0 < x10)) then (decide (y16 = 0)) else false)))] _ E ⟨⟨E, V⟩, E⟩ (JO.done E ?_))
   refine JS.cond E (fun ht74 => ?_) (fun ht74 => ?_)
   ·
    have h := condT h ht74
    refine JS.skip (JS.block (JS.re ttOk 3 [(W (x10 - 1))] [] [(1, .v (I (W (x10 - 1))))] _ ⟨⟨V, E⟩, ⟨E, V⟩, E⟩ E E (JS.endB (JS.endL (n21, (W (x10 - 1))) h (Nat.lt_succ_self _) (Es E) V [0] E [] E))))
   have h := condF h ht74
   refine JS.exit E (JS.endJ x10 h (Es E) V [0] E [] E)
  rintro x28 h
  subst hj84
  refine JS.seq (JS.rg0 ttOk 2 [(27, .v (.bool (decide (x28 = 0))))] ⟨⟨E, V⟩, E⟩ E E ?_)
  refine JS.cond E (fun ht83 => ?_) (fun ht83 => ?_)
  ·
   have h := condT h ht83
   refine JS.rg0 ttOk 1 [(6, .v (I 0))] ⟨⟨E, V⟩, E⟩ E E ?_
   cases h
   exact JS.ret ttOk () V E E [] E
  have h := condF h ht83
  refine JS.skip (JS.seq (JS.region (JO.know 0 E fun hs75 => ?_)))
  obtain ⟨g37, h⟩ := guardO_some h
  refine JO.reg ttOk 4 [(W (x28 - 1))] [] [(31, .ep ⟨a4, x0.length, c5⟩ (Int.toNat (W (x28 - 1)) * 1))] _ E ⟨⟨V, E⟩, hs75.ix g37, ⟨E, V⟩, E⟩ (JO.load ttOk E E E E E E E 0 E E (Int.toNat (W (x28 - 1))) 0 (at' x0 (W (x28 - 1))) ⟨at_some g37, E⟩ E E (JO.reg ttOk 1 [] [] [(33, .v (.bool x2))] _ E ⟨⟨E, V⟩, E⟩ ?_))
  obtain ⟨y38, hy39, h⟩ := bindO_some h
  refine JO.call E E E E (ok_s_l14Class (at' x0 (W (x28 - 1))) x2 _ hy39) E [] E E fun _ _ => JO.reg ttOk 1 [] [] [(7, .v (I y38))] _ E ⟨⟨E, V⟩, E⟩ (JO.done E (JS.seq ?_))
  obtain ⟨j59, hj82, h⟩ := joinO_some h
  refine JS.blockJ (ι := Int) ⟨fun z => j59 z = some r, fun z => [(1, .v (I z))], fun z => .nil, fun z => [], fun z => [], fun z => 0⟩ ?_ ?_
  ·
   refine JS.loop (ι := Nat × Int) ⟨fun z => fixF (M_s_ViWordBack_L2 x0 x2 y38 j59) z.1 z.2 = some r, fun z => [(0, .v (.slice a4 x0.length c5)), (1, .v (I z.2)), (2, .v (.bool x2)), (7, .v (I y38))], fun z => .nil, fun z => [⟨(.int .i64), ⟨a4, x0.length, c5⟩, x0⟩], fun z => [], fun z => z.1⟩ (FUEL, x28) h (Es E) V [0] E [] E ?_
   rintro ⟨n51, x40⟩ h
   obtain ⟨n51, rfl, h⟩ := fixF_some h
   rw [M_s_ViWordBack_L2] at h
   refine JS.seq (JS.seq (JS.region (JO.know 0 E fun hs77 => ?_)))
   obtain ⟨g43, h⟩ := guardO_some h
   refine JO.reg ttOk 7 [(W (x40 - 1))] [] [(37, .v (.bool (decide (0 < x40)))), (41, .cd [(37, true)] (.ep ⟨a4, x0.length, c5⟩ (Int.toNat (W (x40 - 1)) * 1)))] _ E ⟨(fun q76 => ⟨V, E⟩), (fun q78 => hs77.ix (g43 q78)), (Es E), E⟩ (JO.load ttOk E E E E E E E 0 E E (Int.toNat (W (x40 - 1))) 0 (at' x0 (W (x40 - 1))) (fun q79 => ⟨at_some (g43 q79), E⟩) E E (JO.reg ttOk 1 [] [] [(43, .cd [(37, true)] (.v (.bool x2)))] _ E ⟨⟨E, V⟩, E⟩ ?_))
   obtain ⟨y46, hy47, -, h⟩ := callO_some h
   refine JO.callg E E E E (fun q80 => ok_s_l14Class (at' x0 (W (x40 - 1))) x2 _ (hy47 q80)) E [] E E (JO.reg ttOk 3 [] [] [(47, .v (.bool (bif (decide (0 < x40)) then (decide (y46 = y38)) else false)))] _ E ⟨⟨E, V⟩, E⟩ (JO.done E ?_))
   refine JS.cond E (fun ht81 => ?_) (fun ht81 => ?_)
   ·
    have h := condT h ht81
    refine JS.skip (JS.block (JS.re ttOk 3 [(W (x40 - 1))] [] [(1, .v (I (W (x40 - 1))))] _ ⟨⟨V, E⟩, ⟨E, V⟩, E⟩ E E (JS.endB (JS.endL (n51, (W (x40 - 1))) h (Nat.lt_succ_self _) (Es E) V [0] E [] E))))
   have h := condF h ht81
   refine JS.exit E (JS.endJ x40 h ⟨E, V⟩ V [] E [] E)
  rintro x58 h
  subst hj82
  refine JS.rg0 ttOk 2 [(6, .v (I x58))] ⟨⟨E, V⟩, E⟩ E E ?_
  cases h
  exact JS.ret ttOk () V E E [] E

def M_s_l13Span (x0 : List Int × Int) (x1 : Int) (x2 : Int) : Option Bool :=
  (bindO (M_s_LineOk x0) fun (y8 : Bool) =>
  some (bif (bif (bif y8 then (decide (0 ≤ x1)) else false) then (decide (x1 ≤ x2)) else false) then (decide (x2 ≤ (x0.1.length : Int))) else false))

theorem ok_s_l13Span (x0 : List Int × Int) (x1 : Int) (x2 : Int) (a4 : Option Addr) (c5 : Nat) (l6 : Nat) (hl7 : x0.1.length = l6) (r : Bool) (h : M_s_l13Span x0 x1 x2 = some r) :
  FC Tryz.prog 253 [.agg #[.slice a4 l6 c5, .int .i64 x0.2], .int .i64 x1, .int .i64 x2] [⟨(.int .i64), ⟨a4, l6, c5⟩, x0.1⟩] (fun _ : Unit => True) (fun _ => .bool r) (fun _ => []) :=
 by
  subst hl7
  refine FC.of (T := TTx) Tryz.call253 Tryz.func253 E E fun w0 => ?_
  unfold M_s_l13Span at h
  refine JS.rgB ttOk 2 [] [2] [(3, .bp 2 0)] (.new 2 38 [.slice a4 x0.1.length c5, .int .i64 x0.2] .nil) ⟨⟨E, V⟩, (Bs E E)⟩ E E (JS.seq (JS.region (JO.reg ttOk 1 [] [] [(7, .v (.agg #[.slice a4 x0.1.length c5, .int .i64 x0.2]))] _ E ⟨⟨E, V⟩, E⟩ ?_)))
  obtain ⟨y8, hy9, h⟩ := bindO_some h
  refine JO.call E E E E (ok_s_LineOk x0 a4 c5 x0.1.length E _ hy9) E [0] E E fun _ _ => JO.reg ttOk 17 [] [] [(6, .v (.bool (bif (bif (bif y8 then (decide (0 ≤ x1)) else false) then (decide (x1 ≤ x2)) else false) then (decide (x2 ≤ (x0.1.length : Int))) else false)))] _ E ⟨⟨E, V⟩, E⟩ (JO.done E ?_)
  cases h
  exact JS.ret ttOk () V E E [] E

def M_s_l13Join (x0 : List Int) (x1 : List Int) (x2 : List Int) : Option (List Int) :=
  (guardO (([] : List Int).length + x0.length ≤ 536870912) <|
  (guardO ((([] : List Int) ++ x0).length + x1.length ≤ 536870912) <|
  (guardO (((([] : List Int) ++ x0) ++ x1).length + x2.length ≤ 536870912) <|
  some (((([] : List Int) ++ x0) ++ x1) ++ x2))))

theorem ok_s_l13Join (x0 : List Int) (x1 : List Int) (x2 : List Int) (a4 : Option Addr) (c5 : Nat) (l6 : Nat) (hl7 : x0.length = l6) (a8 : Option Addr) (c9 : Nat) (l10 : Nat) (hl11 : x1.length = l10) (a12 : Option Addr) (c13 : Nat) (l14 : Nat) (hl15 : x2.length = l14) (r : List Int) (h : M_s_l13Join x0 x1 x2 = some r) :
  FC Tryz.prog 82 [.slice a4 l6 c5, .slice a8 l10 c9, .slice a12 l14 c13] [⟨(.int .i64), ⟨a4, l6, c5⟩, x0⟩, ⟨(.int .i64), ⟨a8, l10, c9⟩, x1⟩, ⟨(.int .i64), ⟨a12, l14, c13⟩, x2⟩] (fun _ : Option Addr × Nat => True) (fun q => .slice q.1 r.length q.2) (fun q => [⟨(.int .i64), ⟨q.1, r.length, q.2⟩, r⟩]) :=
 by
  subst hl7
  subst hl11
  subst hl15
  refine FC.of (T := TTx) Tryz.call82 Tryz.func82 E E fun w0 => ?_
  unfold M_s_l13Join at h
  refine JS.rg0 ttOk 1 [] ⟨V, E⟩ E E (JS.seq (JS.region ?_))
  refine JO.ofK E (JK.buildSlice ttOk E E E E E E E E E E E [] E (.int .i64) [] ⟨E, E⟩ E E fun a16 => JO.toK ?_)
  refine JO.reg ttOk 1 [] [] [(8, .v (.slice a4 x0.length c5))] _ E ⟨⟨E, V⟩, E⟩ ?_
  obtain ⟨g17, h⟩ := guardO_some h
  refine JO.appendR' ttOk E E E E ⟨E, E, E, E, V, E, E, E, E⟩ E E E [0] E 0 E g17 E fun a18 c19 => JO.reg ttOk 1 [] [] [(10, .v (.slice a8 x1.length c9))] _ E ⟨⟨E, V⟩, E⟩ ?_
  obtain ⟨g20, h⟩ := guardO_some h
  refine JO.appendR' ttOk E E E E ⟨E, E, E, E, V, E, E, E, E⟩ E E E [0] E 1 E g20 E fun a21 c22 => JO.reg ttOk 1 [] [] [(12, .v (.slice a12 x2.length c13))] _ E ⟨⟨E, V⟩, E⟩ ?_
  obtain ⟨g23, h⟩ := guardO_some h
  refine JO.appendR' ttOk E E E E ⟨E, E, E, E, V, E, E, E, E⟩ E E E [0] E 2 E g23 E fun a24 c25 => JO.reg ttOk 1 [] [] [(6, .v (.slice a24 (((([] : List Int) ++ x0) ++ x1) ++ x2).length c25))] _ E ⟨⟨E, V⟩, E⟩ (JO.done E ?_)
  cases h
  exact JS.ret ttOk (a24, c25) V E E [0] E

def M_s_LineCut (x0 : List Int × Int) (x1 : Int) (x2 : Int) : Option ((List Int × Int) × List Int × Bool) :=
  (bindO (M_s_l13Span x0 x1 x2) fun (y8 : Bool) =>
  (bif (!y8) then
  some (([], 0), [], false)
  else
  (joinO (fun (x12 : Int) =>
  (guardO (0 ≤ (0 : Int) ∧ (0 : Int) ≤ x1 ∧ x1 ≤ (x0.1.length : Int)) <|
  (guardO (0 ≤ x2 ∧ x2 ≤ (x0.1.length : Int) ∧ (x0.1.length : Int) ≤ (x0.1.length : Int)) <|
  (bindO (M_s_l13Join (sub' x0.1 (0 : Int) x1) ([] : List Int) (sub' x0.1 x2 (x0.1.length : Int))) fun (y25 : List Int) =>
  (guardO (0 ≤ x1 ∧ x1 ≤ x2 ∧ x2 ≤ (x0.1.length : Int)) <|
  (bindO (M_s_l13Join ([] : List Int) (sub' x0.1 x1 x2) ([] : List Int)) fun (y33 : List Int) =>
  some ((y25, x12), y33, true))))))) fun j13 =>
  (bif (decide (x2 ≤ x0.2)) then
  j13 (W (x0.2 - (W (x2 - x1))))
  else
  (bif (decide (x1 < x0.2)) then
  j13 x1
  else
  j13 x0.2)))))

theorem ok_s_LineCut (x0 : List Int × Int) (x1 : Int) (x2 : Int) (a4 : Option Addr) (c5 : Nat) (l6 : Nat) (hl7 : x0.1.length = l6) (r : (List Int × Int) × List Int × Bool) (h : M_s_LineCut x0 x1 x2 = some r) :
  FC Tryz.prog 186 [.agg #[.slice a4 l6 c5, .int .i64 x0.2], .int .i64 x1, .int .i64 x2] [⟨(.int .i64), ⟨a4, l6, c5⟩, x0.1⟩] (fun _ : Option Addr × Nat × Option Addr × Nat => True) (fun q => .tuple #[.agg #[.slice q.1 r.1.1.length q.2.1, .int .i64 r.1.2], .slice q.2.2.1 r.2.1.length q.2.2.2, .bool r.2.2]) (fun q => [⟨(.int .i64), ⟨q.1, r.1.1.length, q.2.1⟩, r.1.1⟩, ⟨(.int .i64), ⟨q.2.2.1, r.2.1.length, q.2.2.2⟩, r.2.1⟩]) :=
 by
  subst hl7
  refine FC.of (T := TTx) Tryz.call186 Tryz.func186 E E fun w0 => ?_
  unfold M_s_LineCut at h
  refine JS.rgB ttOk 4 [] [2, 3] [(3, .bp 2 0), (6, .bp 3 0)] (.new 2 38 [.slice a4 x0.1.length c5, .int .i64 x0.2] (.new 3 38 [.slice none 0 0, .int .i64 0] .nil)) ⟨(Es E), (Bs E E)⟩ E E (JS.seq (JS.seq (JS.region (JO.reg ttOk 3 [] [] [(10, .v (.agg #[.slice a4 x0.1.length c5, .int .i64 x0.2])), (11, .v (I x1)), (12, .v (I x2))] _ E ⟨(Es E), E⟩ ?_))))
  obtain ⟨y8, hy9, h⟩ := bindO_some h
  refine JO.call E E E E (ok_s_l13Span x0 x1 x2 a4 c5 x0.1.length E _ hy9) E [0] E E fun _ _ => JO.reg ttOk 1 [] [] [(14, .v (.bool (!y8)))] _ E ⟨⟨E, V⟩, E⟩ (JO.done E ?_)
  refine JS.cond E (fun ht48 => ?_) (fun ht48 => ?_)
  ·
   have h := condT h ht48
   refine JS.rgB ttOk 4 [] [] [(7, .v (.slice none 0 0)), (8, .v (.bool false))] (.new 3 38 [.slice none 0 0, .int .i64 0] .nil) ⟨(Es E), (Bs E E)⟩ E E ?_
   cases h
   refine JS.nilO (.int .i64) Sl.nil E E (JS.nilO (.int .i64) Sl.nil E E (JS.ret ttOk (none, 0, none, 0) V E E [1, 0] E))
  have h := condF h ht48
  refine JS.skip (JS.rg0 ttOk 3 [(9, .v (I x0.2))] ⟨⟨E, V⟩, E⟩ E E ?_)
  obtain ⟨j13, hj47, h⟩ := joinO_some h
  refine JS.seqJ (ι := Int) ⟨fun z => j13 z = some r, fun z => [(1, .v (I x1)), (2, .v (I x2)), (3, .bp 2 0), (6, .bp 3 0), (9, .v (I z))], fun z => (.new 2 38 [.slice a4 x0.1.length c5, .int .i64 x0.2] (.new 3 38 [.slice none 0 0, .int .i64 0] .nil)), fun z => [⟨(.int .i64), ⟨a4, x0.1.length, c5⟩, x0.1⟩], fun z => [], fun z => 0⟩ ?_ ?_
  ·
   refine JS.rg0 ttOk 3 [(20, .v (.bool (decide (x2 ≤ x0.2))))] ⟨⟨E, V⟩, E⟩ E E ?_
   refine JS.cond E (fun ht43 => ?_) (fun ht43 => ?_)
   ·
    have h := condT h ht43
    refine JS.re ttOk 6 [(W (x2 - x1)), (W (x0.2 - (W (x2 - x1))))] [] [(9, .v (I (W (x0.2 - (W (x2 - x1))))))] _ ⟨⟨V, E⟩, ⟨V, E⟩, ⟨E, V⟩, E⟩ E E (JS.endJ (W (x0.2 - (W (x2 - x1)))) h (Es E) (Bs E E) [0] E [] E)
   have h := condF h ht43
   refine JS.rg0 ttOk 3 [(28, .v (.bool (decide (x1 < x0.2))))] ⟨⟨E, V⟩, E⟩ E E ?_
   refine JS.cond E (fun ht42 => ?_) (fun ht42 => ?_)
   ·
    have h := condT h ht42
    refine JS.re0 ttOk 2 [(9, .v (I x1))] ⟨⟨E, V⟩, E⟩ E E (JS.endJ x1 h (Es E) (Bs E E) [0] E [] E)
   have h := condF h ht42
   refine JS.skip (JS.endJ x0.2 h (Es E) (Bs E E) [0] E [] E)
  rintro x12 h
  subst hj47
  refine JS.seq ?_
  obtain ⟨g16, h⟩ := guardO_some h
  obtain ⟨g21, h⟩ := guardO_some h
  obtain ⟨y25, hy26, h⟩ := bindO_some h
  obtain ⟨g29, h⟩ := guardO_some h
  obtain ⟨y33, hy34, h⟩ := bindO_some h
  refine JS.subR 0 E (0 : Int) x1 fun a17 c18 hu19 => JS.subR 1 E x2 (x0.1.length : Int) fun a22 c23 hu24 => JS.subR 2 E x1 x2 fun a30 c31 hu32 => JS.know 3 E fun hs46 => ?_
  refine JS.regionA E (.new 2 38 [.slice a4 x0.1.length c5, .int .i64 x0.2] .nil) [] [16, 17, 18, 19] ⟨E, E, E, E, V⟩ E (fun be39 => ?_)
  refine JA.reg ttOk panic_cx true 10 [0, 1, 2, 4, 5, 6, 11, 12, 13, 14] E (by kernel_rfl) [] [(31, .v (.slice a4 x0.1.length c5)), (32, .v (I x1)), (35, .v (.slice a4 x0.1.length c5)), (36, .v (I x2)), (42, .v (.slice a4 x0.1.length c5)), (43, .v (I x1)), (44, .v (I x2))] ⟨E, E, E, E, V⟩ [] E E (Es E) (JA.regL ttOk panic_cx 9 [9] E (by kernel_rfl) [] [(39, .v (I x12))] E ⟨E, V⟩ (JA.sliceP ttOk panic_cx 3 E (by kernel_rfl) E E E E E E (0 : Int) x1 E E ⟨g16.1, g16.2.1, g16.2.2, hs46.cap, hu19 g16⟩ E (JA.sliceP ttOk panic_cx 7 E (by kernel_rfl) E E E E E E x2 (x0.1.length : Int) E E ⟨g21.1, g21.2.1, g21.2.2, hs46.cap, hu24 g21⟩ E (JA.sliceP ttOk panic_cx 15 E (by kernel_rfl) E E E E E E x1 x2 E E ⟨g29.1, g29.2.1, g29.2.2, hs46.cap, hu32 g29⟩ E (JA.one 8 (by kernel_rfl) (JK.nilR (.int .i64) Sl.nil E E (JK.call E E E E (ok_s_l13Join (sub' x0.1 (0 : Int) x1) ([] : List Int) (sub' x0.1 x2 (x0.1.length : Int)) a17 c18 ((sub' x0.1 (0 : Int) x1).length) E none 0 (([] : List Int).length) E a22 c23 ((sub' x0.1 x2 (x0.1.length : Int)).length) E _ hy26) E [3, 0, 2] E E ?_)))))))
  rintro ⟨a27, c28⟩ -
  refine JA.next ⟨E, E, E, E, V⟩ [] E (JA.regL ttOk panic_cx 4 [10] E (by kernel_rfl) [] [(40, .v (.agg #[.slice a27 y25.length c28, .int .i64 x12]))] E ⟨E, V⟩ (JA.one 16 (by kernel_rfl) (JK.nilR (.int .i64) Sl.nil E E (JK.nilR (.int .i64) Sl.nil E E (JK.call E E E E (ok_s_l13Join ([] : List Int) (sub' x0.1 x1 x2) ([] : List Int) none 0 (([] : List Int).length) E a30 c31 ((sub' x0.1 x1 x2).length) E none 0 (([] : List Int).length) E _ hy34) E [1, 3, 0] E E ?_)))))
  rintro ⟨a35, c36⟩ -
  refine JA.nextL E (JA.one 17 (by kernel_rfl) (JK.stBox ttOk E E E E E E E E (JA.nextL E (JA.regL ttOk panic_cx 0 [18, 19] E (by kernel_rfl) [] [(7, .v (.slice a35 y33.length c36)), (8, .v (.bool true))] E (Es E) (JA.done (by kernel_rfl) (JS.boxes (B' := (.new 3 38 [.slice a27 y25.length c28, .int .i64 x12] .nil)) (Bs E E) ?_))))))
  cases h
  exact JS.ret ttOk (a27, c28, a35, c36) V E E [1, 0] E

def M_s_l15Line (x0 : List Int × Int) : Option (List Int × Int) :=
  (guardO (([] : List Int).length + x0.1.length ≤ 536870912) <|
  some ((([] : List Int) ++ x0.1), x0.2))

theorem ok_s_l15Line (x0 : List Int × Int) (a2 : Option Addr) (c3 : Nat) (l4 : Nat) (hl5 : x0.1.length = l4) (r : List Int × Int) (h : M_s_l15Line x0 = some r) :
  FC Tryz.prog 52 [.agg #[.slice a2 l4 c3, .int .i64 x0.2]] [⟨(.int .i64), ⟨a2, l4, c3⟩, x0.1⟩] (fun _ : Option Addr × Nat => True) (fun q => .agg #[.slice q.1 r.1.length q.2, .int .i64 r.2]) (fun q => [⟨(.int .i64), ⟨q.1, r.1.length, q.2⟩, r.1⟩]) :=
 by
  subst hl5
  refine FC.of (T := TTx) Tryz.call52 Tryz.func52 E E fun w0 => ?_
  unfold M_s_l15Line at h
  refine JS.rgB ttOk 2 [] [2, 3] [(1, .bp 2 0), (2, .bp 3 0)] (.new 2 38 [.slice a2 x0.1.length c3, .int .i64 x0.2] (.new 3 38 [.slice none 0 0, .int .i64 0] .nil)) ⟨(Es E), (Bs E E)⟩ E E (JS.seq ?_)
  obtain ⟨g7, h⟩ := guardO_some h
  refine JS.regionA E (.new 2 38 [.slice a2 x0.1.length c3, .int .i64 x0.2] .nil) [] [6, 7] ⟨E, E, E, E, V⟩ E (fun be10 => ?_)
  refine JA.reg ttOk panic_cx true 4 [1, 2, 4, 5] E (by kernel_rfl) [] [(5, .v (.slice a2 x0.1.length c3)), (8, .v (I x0.2))] ⟨E, E, E, E, V⟩ [] E E (Es E) (JA.one 0 (by kernel_rfl) (JK.buildSlice ttOk E E E E E E E E E E E [] E (.int .i64) [] ⟨E, E⟩ E E fun a6 => JA.next ⟨E, E, E, E, V⟩ [] E (JA.one 3 (by kernel_rfl) (JK.appendR' ttOk E E E E ⟨E, E, E, E, V, E, E, E, E⟩ E E E [0] E 0 E g7 E fun a8 c9 => JA.next ⟨E, E, E, E, V⟩ [] E (JA.regL ttOk panic_cx 1 [6] E (by kernel_rfl) [] [(9, .v (.agg #[.slice a8 (([] : List Int) ++ x0.1).length c9, .int .i64 x0.2]))] E ⟨E, V⟩ (JA.one 7 (by kernel_rfl) (JK.stBox ttOk E E E E E E E E (JA.nextL E (JA.done (by kernel_rfl) (JS.boxes (B' := (.new 3 38 [.slice a8 (([] : List Int) ++ x0.1).length c9, .int .i64 x0.2] .nil)) (Bs E E) ?_))))))))))
  cases h
  exact JS.ret ttOk (a8, c9) V E E [0] E

def M_s_l15Copy_L1 (x0 : List (List Int)) (j39 : (List (List Int)) → Option (List (List Int))) (k32 : (Int × List (List Int)) → Option (List (List Int))) : (Int × List (List Int)) → Option (List (List Int)) := fun (x6, x10) =>
  (bif (decide (x6 < (x0.length : Int))) then
  (guardO (0 ≤ x6 ∧ x6 < (x0.length : Int)) <|
  (guardO (([] : List Int).length + (at' x0 x6).length ≤ 536870912) <|
  (guardO (x10.length + ([(([] : List Int) ++ (at' x0 x6))] : List (List Int)).length ≤ 536870912) <|
  k32 ((W (x6 + 1)), (x10 ++ ([(([] : List Int) ++ (at' x0 x6))] : List (List Int)))))))
  else
  j39 x10)

def M_s_l15Copy (x0 : List (List Int)) : Option (List (List Int)) :=
  (joinO (fun (x36 : List (List Int)) =>
  some x36) fun j39 =>
  (fixF (M_s_l15Copy_L1 x0 j39) FUEL (0, ([] : List (List Int)))))

theorem ok_s_l15Copy (x0 : List (List Int)) (a2 : Option Addr) (c3 : Nat) (l4 : Nat) (hl5 : x0.length = l4) (r : List (List Int)) (h : M_s_l15Copy x0 = some r) :
  FC Tryz.prog 137 [.agg #[.slice a2 l4 c3]] [⟨(.sl (.int .i64)), ⟨a2, l4, c3⟩, x0⟩] (fun _ : Option Addr × Nat => True) (fun q => .agg #[.slice q.1 r.length q.2]) (fun q => [⟨(.sl (.int .i64)), ⟨q.1, r.length, q.2⟩, r⟩]) :=
 by
  subst hl5
  refine FC.of (T := TTx) Tryz.call137 Tryz.func137 E E fun w0 => ?_
  unfold M_s_l15Copy at h
  refine JS.rgB ttOk 2 [] [2, 3] [(1, .bp 2 0), (2, .bp 3 0)] (.new 2 41 [.slice a2 x0.length c3] (.new 3 41 [.slice none 0 0] .nil)) ⟨(Es E), (Bs E E)⟩ E E (JS.rgB ttOk 3 [] [4] [(3, .bp 4 0)] (.new 2 41 [.slice a2 x0.length c3] (.new 3 41 [.slice none 0 0] (.new 4 41 [.slice none 0 0] .nil))) ⟨⟨E, V⟩, (Bs E E)⟩ E E (JS.seq (JS.rg0 ttOk 4 [(8, .v (.slice a2 x0.length c3)), (9, .v (I (x0.length : Int))), (10, .v (I 0))] ⟨(Es E), E⟩ E E ?_)))
  obtain ⟨j39, hj45, h⟩ := joinO_some h
  refine JS.blockJ (ι := List (List Int) × Option Addr × Nat) ⟨fun z => j39 z.1 = some r, fun z => [(2, .bp 3 0), (3, .bp 4 0)], fun z => (.new 3 41 [.slice none 0 0] (.new 4 41 [.slice z.2.1 z.1.length z.2.2] .nil)), fun z => [], fun z => [⟨(.sl (.int .i64)), ⟨z.2.1, z.1.length, z.2.2⟩, z.1⟩], fun z => 0⟩ ?_ ?_
  ·
   refine JS.nilO (.sl (.int .i64)) Sl.nil E E (JS.loop (ι := Nat × Int × List (List Int) × Option Addr × Nat) ⟨fun z => fixF (M_s_l15Copy_L1 x0 j39) z.1 (z.2.1, z.2.2.1) = some r, fun z => [(2, .bp 3 0), (3, .bp 4 0), (8, .v (.slice a2 x0.length c3)), (9, .v (I (x0.length : Int))), (10, .v (I z.2.1))], fun z => (.new 3 41 [.slice none 0 0] (.new 4 41 [.slice z.2.2.2.1 z.2.2.1.length (Q4 z)] .nil)), fun z => [⟨(.sl (.int .i64)), ⟨a2, x0.length, c3⟩, x0⟩], fun z => [⟨(.sl (.int .i64)), ⟨z.2.2.2.1, z.2.2.1.length, (Q4 z)⟩, z.2.2.1⟩], fun z => z.1⟩ (FUEL, 0, ([] : List (List Int)), none, 0) h (Es E) (Bs E E) [0] E [0] E ?_)
   rintro ⟨n33, x6, x10, a11, c12⟩ h
   obtain ⟨n33, rfl, h⟩ := fixF_some h
   rw [M_s_l15Copy_L1] at h
   refine JS.rg0 ttOk 1 [(11, .v (.bool (decide (x6 < (x0.length : Int)))))] ⟨⟨E, V⟩, E⟩ E E (JS.seq ?_)
   refine JS.cond E (fun ht44 => ?_) (fun ht44 => ?_)
   ·
    have h := condT h ht44
    refine JS.skip (JS.seq (JS.block (JS.seq (JS.region (JO.know 0 E fun hs43 => ?_)))))
    obtain ⟨g14, h⟩ := guardO_some h
    refine JO.reg ttOk 1 [] [] [(12, .ep ⟨a2, x0.length, c3⟩ (Int.toNat x6 * 1))] _ E ⟨hs43.ix g14, ⟨E, V⟩, E⟩ (JO.openR 0 E (Int.toNat x6) (at' x0 x6) E fun a15 c16 ys17 hl18 hy19 => JO.loadV ttOk E E E E E E 0 E E (Int.toNat x6) 0 (Sl.v ⟨a15, (at' x0 x6).length, c16⟩) ⟨hy19 (ltNat g14), E⟩ E E E (JO.regB ttOk 2 [] [22] [(5, .bp 22 0)] (.new 3 41 [.slice none 0 0] (.new 4 41 [.slice a11 x10.length c12] (.new 22 174 [.slice a15 (at' x0 x6).length c16] .nil))) E ⟨⟨E, V⟩, (Bs E E)⟩ (JO.done E ?_)))
    obtain ⟨g21, h⟩ := guardO_some h
    obtain ⟨g25, h⟩ := guardO_some h
    refine JS.regionA E (.new 4 41 [.slice a11 x10.length c12] (.new 22 174 [.slice a15 (at' x0 x6).length c16] .nil)) [] [8, 9, 10] ⟨E, E, E, E, E, E, E, E, V⟩ E (fun be28 => ?_)
    refine JA.reg ttOk panic_cx true 7 [0, 1, 3, 4] E (by kernel_rfl) [] [(15, .v (.slice a11 x10.length c12)), (18, .v (.slice a15 (at' x0 x6).length c16))] ⟨E, E, E, E, E, E, E, E, V⟩ [] E E (Es E) (JA.one 2 (by kernel_rfl) (JK.buildSlice ttOk E E E E E E E E E E E [] E (.int .i64) [] ⟨E, E⟩ E E fun a20 => JA.next ⟨E, E, E, E, E, E, E, E, V⟩ [] E (JA.one 5 (by kernel_rfl) (JK.appendR' ttOk E E E E ⟨E, E, E, E, V, E, E, E, E⟩ E E E [0] E 1 E g21 E fun a22 c23 => JA.next ⟨E, E, E, E, E, E, E, E, V⟩ [] E (JA.reg ttOk panic_cx true 4 [6] E (by kernel_rfl) [] [(20, .v (.agg #[.slice a22 (([] : List Int) ++ (at' x0 x6)).length c23]))] ⟨E, E, E, E, E, E, E, E, V⟩ [] E E ⟨E, V⟩ (JA.one 7 (by kernel_rfl) (JK.buildSlice ttOk E E E E E E E E E E E [0] E (.sl (.int .i64)) [(([] : List Int) ++ (at' x0 x6))] ⟨E, E, E⟩ E E fun a24 => JA.next ⟨E, E, E, E, E, E, E, E, V⟩ [] E (JA.one 8 (by kernel_rfl) (JK.appendO' ttOk E E E E ⟨E, E, E, E, V, E, E, E, E⟩ E E [1, 0] E g25 E fun a26 c27 => JA.nextL E (JA.regL ttOk panic_cx 1 [9] E (by kernel_rfl) [] [(23, .bp 4 0)] E ⟨E, V⟩ (JA.one 10 (by kernel_rfl) (JK.stBox ttOk E E E E E E E E (JA.nextL E (JA.done (by kernel_rfl) (JS.boxes (B' := (.new 3 41 [.slice none 0 0] (.new 4 41 [.slice a26 (x10 ++ ([(([] : List Int) ++ (at' x0 x6))] : List (List Int))).length c27] .nil))) (Bs E E) ?_)))))))))))))))
    refine JS.endB (JS.re ttOk 2 [(W (x6 + 1))] [] [(10, .v (I (W (x6 + 1))))] _ ⟨⟨V, E⟩, ⟨E, V⟩, E⟩ E E (JS.endL (n33, (W (x6 + 1)), (x10 ++ ([(([] : List Int) ++ (at' x0 x6))] : List (List Int))), a26, c27) h (Nat.lt_succ_self _) (Es E) (Bs E E) [2] E [0] E))
   have h := condF h ht44
   refine JS.exit E (JS.endJ (x10, a11, c12) h (Es E) (Bs E E) [] E [0] E)
  rintro ⟨x36, a37, c38⟩ h
  subst hj45
  refine JS.rgB ttOk 2 [] [] [] (.new 3 41 [.slice a37 x36.length c38] .nil) ⟨V, (Bs E E)⟩ E E ?_
  cases h
  exact JS.ret ttOk (a37, c38) V E E [0] E

def M_s_l15Lines_L1 (x0 : List (List Int × Int)) (j39 : (List (List Int × Int)) → Option (List (List Int × Int))) (k32 : (Int × (List (List Int × Int))) → Option (List (List Int × Int))) : (Int × (List (List Int × Int))) → Option (List (List Int × Int)) := fun (x6, x10) =>
  (bif (decide (x6 < (x0.length : Int))) then
  (guardO (0 ≤ x6 ∧ x6 < (x0.length : Int)) <|
  (bindO (M_s_l15Line ((at' x0 x6).1, (at' x0 x6).2)) fun (y20 : List Int × Int) =>
  (guardO (x10.length + ([y20] : List (List Int × Int)).length ≤ 536870912) <|
  k32 ((W (x6 + 1)), (x10 ++ ([y20] : List (List Int × Int)))))))
  else
  j39 x10)

def M_s_l15Lines (x0 : List (List Int × Int)) : Option (List (List Int × Int)) :=
  (joinO (fun (x36 : List (List Int × Int)) =>
  some x36) fun j39 =>
  (fixF (M_s_l15Lines_L1 x0 j39) FUEL (0, ([] : List (List Int × Int)))))

theorem ok_s_l15Lines (x0 : List (List Int × Int)) (a2 : Option Addr) (c3 : Nat) (l4 : Nat) (hl5 : x0.length = l4) (r : List (List Int × Int)) (h : M_s_l15Lines x0 = some r) :
  FC Tryz.prog 138 [.agg #[.slice a2 l4 c3]] [⟨(.pair (.sl (.int .i64)) (.int .i64)), ⟨a2, l4, c3⟩, x0⟩] (fun _ : Option Addr × Nat => True) (fun q => .agg #[.slice q.1 r.length q.2]) (fun q => [⟨(.pair (.sl (.int .i64)) (.int .i64)), ⟨q.1, r.length, q.2⟩, r⟩]) :=
 by
  subst hl5
  refine FC.of (T := TTx) Tryz.call138 Tryz.func138 E E fun w0 => ?_
  unfold M_s_l15Lines at h
  refine JS.rgB ttOk 2 [] [2, 3] [(1, .bp 2 0), (2, .bp 3 0)] (.new 2 44 [.slice a2 x0.length c3] (.new 3 44 [.slice none 0 0] .nil)) ⟨(Es E), (Bs E E)⟩ E E (JS.rgB ttOk 3 [] [4] [(3, .bp 4 0)] (.new 2 44 [.slice a2 x0.length c3] (.new 3 44 [.slice none 0 0] (.new 4 44 [.slice none 0 0] .nil))) ⟨⟨E, V⟩, (Bs E E)⟩ E E (JS.seq (JS.rg0 ttOk 4 [(8, .v (.slice a2 x0.length c3)), (9, .v (I (x0.length : Int))), (10, .v (I 0))] ⟨(Es E), E⟩ E E ?_)))
  obtain ⟨j39, hj45, h⟩ := joinO_some h
  refine JS.blockJ (ι := (List (List Int × Int)) × Option Addr × Nat) ⟨fun z => j39 z.1 = some r, fun z => [(2, .bp 3 0), (3, .bp 4 0)], fun z => (.new 3 44 [.slice none 0 0] (.new 4 44 [.slice z.2.1 z.1.length z.2.2] .nil)), fun z => [], fun z => [⟨(.pair (.sl (.int .i64)) (.int .i64)), ⟨z.2.1, z.1.length, z.2.2⟩, z.1⟩], fun z => 0⟩ ?_ ?_
  ·
   refine JS.nilO (.pair (.sl (.int .i64)) (.int .i64)) Sl.nil E E (JS.loop (ι := Nat × Int × (List (List Int × Int)) × Option Addr × Nat) ⟨fun z => fixF (M_s_l15Lines_L1 x0 j39) z.1 (z.2.1, z.2.2.1) = some r, fun z => [(2, .bp 3 0), (3, .bp 4 0), (8, .v (.slice a2 x0.length c3)), (9, .v (I (x0.length : Int))), (10, .v (I z.2.1))], fun z => (.new 3 44 [.slice none 0 0] (.new 4 44 [.slice z.2.2.2.1 z.2.2.1.length (Q4 z)] .nil)), fun z => [⟨(.pair (.sl (.int .i64)) (.int .i64)), ⟨a2, x0.length, c3⟩, x0⟩], fun z => [⟨(.pair (.sl (.int .i64)) (.int .i64)), ⟨z.2.2.2.1, z.2.2.1.length, (Q4 z)⟩, z.2.2.1⟩], fun z => z.1⟩ (FUEL, 0, ([] : List (List Int × Int)), none, 0) h (Es E) (Bs E E) [0] E [0] E ?_)
   rintro ⟨n33, x6, x10, a11, c12⟩ h
   obtain ⟨n33, rfl, h⟩ := fixF_some h
   rw [M_s_l15Lines_L1] at h
   refine JS.rg0 ttOk 1 [(11, .v (.bool (decide (x6 < (x0.length : Int)))))] ⟨⟨E, V⟩, E⟩ E E (JS.seq ?_)
   refine JS.cond E (fun ht44 => ?_) (fun ht44 => ?_)
   ·
    have h := condT h ht44
    refine JS.skip (JS.seq (JS.block (JS.seq (JS.region (JO.know 0 E fun hs43 => ?_)))))
    obtain ⟨g14, h⟩ := guardO_some h
    refine JO.reg ttOk 1 [] [] [(12, .ep ⟨a2, x0.length, c3⟩ (Int.toNat x6 * 2))] _ E ⟨hs43.ix g14, ⟨E, V⟩, E⟩ (JO.openR 0 E (Int.toNat x6) (at' x0 x6) E fun a15 c16 ys17 hl18 hy19 => JO.loadV ttOk E E E E E E 0 E E (Int.toNat x6) 0 ((Sl.v ⟨a15, ((at' x0 x6).1).length, c16⟩), (at' x0 x6).2) ⟨hy19 (ltNat g14), E⟩ E E E (JO.regB ttOk 2 [] [22] [(5, .bp 22 0)] (.new 3 44 [.slice none 0 0] (.new 4 44 [.slice a11 x10.length c12] (.new 22 38 [.slice a15 ((at' x0 x6).1).length c16, .int .i64 (at' x0 x6).2] .nil))) E ⟨⟨E, V⟩, (Bs E E)⟩ (JO.done E ?_)))
    obtain ⟨y20, hy21, h⟩ := bindO_some h
    obtain ⟨g25, h⟩ := guardO_some h
    refine JS.regionA E (.new 4 44 [.slice a11 x10.length c12] (.new 22 38 [.slice a15 ((at' x0 x6).1).length c16, .int .i64 (at' x0 x6).2] .nil)) [] [5, 6, 7] ⟨E, E, E, E, E, E, E, E, V⟩ E (fun be28 => ?_)
    refine JA.reg ttOk panic_cx true 5 [0, 1, 2] E (by kernel_rfl) [] [(15, .v (.slice a11 x10.length c12)), (16, .v (.agg #[.slice a15 ((at' x0 x6).1).length c16, .int .i64 (at' x0 x6).2]))] ⟨E, E, E, E, E, E, E, E, V⟩ [] E E (Es E) (JA.one 3 (by kernel_rfl) (JK.call E E E E (ok_s_l15Line ((at' x0 x6).1, (at' x0 x6).2) a15 c16 (((at' x0 x6).1).length) E _ hy21) E [1] E E ?_))
    rintro ⟨a22, c23⟩ -
    refine JA.next ⟨E, E, E, E, E, E, E, E, V⟩ [] E (JA.one 4 (by kernel_rfl) (JK.buildSlice ttOk E E E E E E E E E E E [0] E (.pair (.sl (.int .i64)) (.int .i64)) [y20] ⟨E, E, E⟩ E E fun a24 => JA.next ⟨E, E, E, E, E, E, E, E, V⟩ [] E (JA.one 5 (by kernel_rfl) (JK.appendO' ttOk E E E E ⟨E, E, E, E, V, E, E, E, E⟩ E E [1, 0] E g25 E fun a26 c27 => JA.nextL E (JA.regL ttOk panic_cx 1 [6] E (by kernel_rfl) [] [(20, .bp 4 0)] E ⟨E, V⟩ (JA.one 7 (by kernel_rfl) (JK.stBox ttOk E E E E E E E E (JA.nextL E (JA.done (by kernel_rfl) (JS.boxes (B' := (.new 3 44 [.slice none 0 0] (.new 4 44 [.slice a26 (x10 ++ ([y20] : List (List Int × Int))).length c27] .nil))) (Bs E E) (JS.endB (JS.re ttOk 2 [(W (x6 + 1))] [] [(10, .v (I (W (x6 + 1))))] _ ⟨⟨V, E⟩, ⟨E, V⟩, E⟩ E E (JS.endL (n33, (W (x6 + 1)), (x10 ++ ([y20] : List (List Int × Int))), a26, c27) h (Nat.lt_succ_self _) (Es E) (Bs E E) [2] E [0] E)))))))))))))
   have h := condF h ht44
   refine JS.exit E (JS.endJ (x10, a11, c12) h (Es E) (Bs E E) [] E [0] E)
  rintro ⟨x36, a37, c38⟩ h
  subst hj45
  refine JS.rgB ttOk 2 [] [] [] (.new 3 44 [.slice a37 x36.length c38] .nil) ⟨V, (Bs E E)⟩ E E ?_
  cases h
  exact JS.ret ttOk (a37, c38) V E E [0] E

def M_s_l21Copy (x0 : EdQ) : Option EdQ :=
  (bindO (M_s_l15Line x0.2.2.1) fun (y26 : List Int × Int) =>
  (bindO (M_s_l15Line x0.2.2.2.2.2.2.2.2.2.2.2.2.2.1) fun (y30 : List Int × Int) =>
  (bindO (M_s_l15Line x0.2.2.2.2.2.2.2.2.2.2.2.2.2.2.2.2) fun (y34 : List Int × Int) =>
  (bindO (M_s_l15Copy x0.2.2.2.2.2.2.2.2.2.2.1) fun (y38 : List (List Int)) =>
  (bindO (M_s_l15Lines x0.2.2.2.2.2.2.2.2.2.2.2.1) fun (y42 : List (List Int × Int)) =>
  (guardO (([] : List Int).length + x0.2.2.2.2.2.2.2.2.2.2.2.2.2.2.1.length ≤ 536870912) <|
  some (x0.1, x0.2.1, y26, x0.2.2.2.1, x0.2.2.2.2.1, x0.2.2.2.2.2.1, x0.2.2.2.2.2.2.1, x0.2.2.2.2.2.2.2.1, x0.2.2.2.2.2.2.2.2.1, x0.2.2.2.2.2.2.2.2.2.1, y38, y42, x0.2.2.2.2.2.2.2.2.2.2.2.2.1, y30, (([] : List Int) ++ x0.2.2.2.2.2.2.2.2.2.2.2.2.2.2.1), x0.2.2.2.2.2.2.2.2.2.2.2.2.2.2.2.1, y34)))))))

theorem ok_s_l21Copy (x0 : EdQ) (a2 : Option Addr) (c3 : Nat) (l4 : Nat) (hl5 : x0.2.2.1.1.length = l4) (a6 : Option Addr) (c7 : Nat) (l8 : Nat) (hl9 : (Q8 x0).2.2.1.length = l8) (a10 : Option Addr) (c11 : Nat) (l12 : Nat) (hl13 : (Q8 x0).2.2.2.1.length = l12) (a14 : Option Addr) (c15 : Nat) (l16 : Nat) (hl17 : (Q12 x0).2.1.1.length = l16) (a18 : Option Addr) (c19 : Nat) (l20 : Nat) (hl21 : (Q12 x0).2.2.1.length = l20) (a22 : Option Addr) (c23 : Nat) (l24 : Nat) (hl25 : (Q16 x0).1.length = l24) (r : EdQ) (h : M_s_l21Copy x0 = some r) :
  FC Tryz.prog 51 [.agg #[.bool x0.1, .int .i64 x0.2.1, .slice a2 l4 c3, .int .i64 x0.2.2.1.2, .int .i64 x0.2.2.2.1, .int .i64 (Q4 x0).1, .int .i64 (Q4 x0).2.1, .int .i64 (Q4 x0).2.2.1, .int .i64 (Q4 x0).2.2.2.1, .int .i64 (Q8 x0).1, .int .i64 (Q8 x0).2.1, .slice a6 l8 c7, .slice a10 l12 c11, .int .i64 (Q12 x0).1, .slice a14 l16 c15, .int .i64 (Q12 x0).2.1.2, .slice a18 l20 c19, .int .i64 (Q12 x0).2.2.2.1, .slice a22 l24 c23, .int .i64 (Q16 x0).2]] [⟨(.int .i64), ⟨a2, l4, c3⟩, x0.2.2.1.1⟩, ⟨(.sl (.int .i64)), ⟨a6, l8, c7⟩, (Q8 x0).2.2.1⟩, ⟨(.pair (.sl (.int .i64)) (.int .i64)), ⟨a10, l12, c11⟩, (Q8 x0).2.2.2.1⟩, ⟨(.int .i64), ⟨a14, l16, c15⟩, (Q12 x0).2.1.1⟩, ⟨(.int .i64), ⟨a18, l20, c19⟩, (Q12 x0).2.2.1⟩, ⟨(.int .i64), ⟨a22, l24, c23⟩, (Q16 x0).1⟩] (fun _ : Option Addr × Nat × Option Addr × Nat × Option Addr × Nat × Option Addr × Nat × Option Addr × Nat × Option Addr × Nat => True) (fun q => .agg (cl46 r q.1 q.2.1 q.2.2.1 q.2.2.2.1 (Q4 q).1 (Q4 q).2.1 (Q4 q).2.2.1 (Q4 q).2.2.2.1 (Q8 q).1 (Q8 q).2.1 (Q8 q).2.2.1 (Q8 q).2.2.2).toArray) (fun q => (fl32 r q.1 q.2.1 q.2.2.1 q.2.2.2.1 (Q4 q).1 (Q4 q).2.1 (Q4 q).2.2.1 (Q4 q).2.2.2.1 (Q8 q).1 (Q8 q).2.1 (Q8 q).2.2.1 (Q8 q).2.2.2 [])) :=
 by
  subst hl5
  subst hl9
  subst hl13
  subst hl17
  subst hl21
  subst hl25
  refine FC.of (T := TTx) Tryz.call51 Tryz.func51 E E fun w0 => ?_
  unfold M_s_l21Copy at h
  refine JS.rgB ttOk 2 [] [7, 8] [(1, .bp 7 0), (2, .bp 8 0)] (.new 7 46 (cl46 x0 a2 c3 a6 c7 a10 c11 a14 c15 a18 c19 a22 c23) (.new 8 46 cz46 .nil)) ⟨(Es E), (Bs E E)⟩ E E (JS.seq (JS.region (JO.reg ttOk 2 [] [] [(4, .v (.agg #[.slice a2 x0.2.2.1.1.length c3, .int .i64 x0.2.2.1.2]))] _ E ⟨⟨E, V⟩, E⟩ ?_)))
  obtain ⟨y26, hy27, h⟩ := bindO_some h
  refine JO.call E E E E (ok_s_l15Line x0.2.2.1 a2 c3 x0.2.2.1.1.length E _ hy27) E [0] E E ?_
  rintro ⟨a28, c29⟩ -
  refine JO.regB ttOk 2 [] [] [] (.new 7 46 (cl46 (x0.1, x0.2.1, y26, x0.2.2.2.1, (Q4 x0).1, (Q4 x0).2.1, (Q4 x0).2.2.1, (Q4 x0).2.2.2.1, (Q8 x0).1, (Q8 x0).2.1, (Q8 x0).2.2.1, (Q8 x0).2.2.2.1, (Q12 x0).1, (Q12 x0).2.1, (Q12 x0).2.2.1, (Q12 x0).2.2.2.1, (Q16 x0)) a28 c29 a6 c7 a10 c11 a14 c15 a18 c19 a22 c23) (.new 8 46 cz46 .nil)) E ⟨V, (Bs E E)⟩ (JO.done E (JS.seq (JS.region (JO.reg ttOk 2 [] [] [(8, .v (.agg #[.slice a14 (Q12 x0).2.1.1.length c15, .int .i64 (Q12 x0).2.1.2]))] _ E ⟨⟨E, V⟩, E⟩ ?_))))
  obtain ⟨y30, hy31, h⟩ := bindO_some h
  refine JO.call E E E E (ok_s_l15Line (Q12 x0).2.1 a14 c15 (Q12 x0).2.1.1.length E _ hy31) E [3] E E ?_
  rintro ⟨a32, c33⟩ -
  refine JO.regB ttOk 2 [] [] [] (.new 7 46 (cl46 (x0.1, x0.2.1, y26, x0.2.2.2.1, (Q4 x0).1, (Q4 x0).2.1, (Q4 x0).2.2.1, (Q4 x0).2.2.2.1, (Q8 x0).1, (Q8 x0).2.1, (Q8 x0).2.2.1, (Q8 x0).2.2.2.1, (Q12 x0).1, y30, (Q12 x0).2.2.1, (Q12 x0).2.2.2.1, (Q16 x0)) a28 c29 a6 c7 a10 c11 a32 c33 a18 c19 a22 c23) (.new 8 46 cz46 .nil)) E ⟨V, (Bs E E)⟩ (JO.done E (JS.seq (JS.region (JO.reg ttOk 2 [] [] [(12, .v (.agg #[.slice a22 (Q16 x0).1.length c23, .int .i64 (Q16 x0).2]))] _ E ⟨⟨E, V⟩, E⟩ ?_))))
  obtain ⟨y34, hy35, h⟩ := bindO_some h
  refine JO.call E E E E (ok_s_l15Line (Q16 x0) a22 c23 (Q16 x0).1.length E _ hy35) E [5] E E ?_
  rintro ⟨a36, c37⟩ -
  refine JO.regB ttOk 2 [] [] [] (.new 7 46 (cl46 (x0.1, x0.2.1, y26, x0.2.2.2.1, (Q4 x0).1, (Q4 x0).2.1, (Q4 x0).2.2.1, (Q4 x0).2.2.2.1, (Q8 x0).1, (Q8 x0).2.1, (Q8 x0).2.2.1, (Q8 x0).2.2.2.1, (Q12 x0).1, y30, (Q12 x0).2.2.1, (Q12 x0).2.2.2.1, y34) a28 c29 a6 c7 a10 c11 a32 c33 a18 c19 a36 c37) (.new 8 46 cz46 .nil)) E ⟨V, (Bs E E)⟩ (JO.done E (JS.seq (JS.region (JO.reg ttOk 2 [] [] [(16, .v (.agg #[.slice a6 (Q8 x0).2.2.1.length c7]))] _ E ⟨⟨E, V⟩, E⟩ ?_))))
  obtain ⟨y38, hy39, h⟩ := bindO_some h
  refine JO.call E E E E (ok_s_l15Copy (Q8 x0).2.2.1 a6 c7 (Q8 x0).2.2.1.length E _ hy39) E [1] E E ?_
  rintro ⟨a40, c41⟩ -
  refine JO.regB ttOk 2 [] [] [] (.new 7 46 (cl46 (x0.1, x0.2.1, y26, x0.2.2.2.1, (Q4 x0).1, (Q4 x0).2.1, (Q4 x0).2.2.1, (Q4 x0).2.2.2.1, (Q8 x0).1, (Q8 x0).2.1, y38, (Q8 x0).2.2.2.1, (Q12 x0).1, y30, (Q12 x0).2.2.1, (Q12 x0).2.2.2.1, y34) a28 c29 a40 c41 a10 c11 a32 c33 a18 c19 a36 c37) (.new 8 46 cz46 .nil)) E ⟨V, (Bs E E)⟩ (JO.done E (JS.seq (JS.region (JO.reg ttOk 2 [] [] [(20, .v (.agg #[.slice a10 (Q8 x0).2.2.2.1.length c11]))] _ E ⟨⟨E, V⟩, E⟩ ?_))))
  obtain ⟨y42, hy43, h⟩ := bindO_some h
  refine JO.call E E E E (ok_s_l15Lines (Q8 x0).2.2.2.1 a10 c11 (Q8 x0).2.2.2.1.length E _ hy43) E [2] E E ?_
  rintro ⟨a44, c45⟩ -
  refine JO.regB ttOk 2 [] [] [] (.new 7 46 (cl46 (x0.1, x0.2.1, y26, x0.2.2.2.1, (Q4 x0).1, (Q4 x0).2.1, (Q4 x0).2.2.1, (Q4 x0).2.2.2.1, (Q8 x0).1, (Q8 x0).2.1, y38, y42, (Q12 x0).1, y30, (Q12 x0).2.2.1, (Q12 x0).2.2.2.1, y34) a28 c29 a40 c41 a44 c45 a32 c33 a18 c19 a36 c37) (.new 8 46 cz46 .nil)) E ⟨V, (Bs E E)⟩ (JO.done E (JS.seq (JS.region ?_)))
  refine JO.ofK E (JK.buildSlice ttOk E E E E E E E E E E E [] E (.int .i64) [] ⟨E, E⟩ E E fun a46 => JO.toK ?_)
  refine JO.reg ttOk 2 [] [] [(25, .v (.slice a18 (Q12 x0).2.2.1.length c19))] _ E ⟨⟨E, V⟩, E⟩ ?_
  obtain ⟨g47, h⟩ := guardO_some h
  refine JO.appendR' ttOk E E E E ⟨E, E, E, E, V, E, E, E, E⟩ E E E [0] E 4 E g47 E fun a48 c49 => JO.regB ttOk 2 [] [] [] (.new 7 46 (cl46 (x0.1, x0.2.1, y26, x0.2.2.2.1, (Q4 x0).1, (Q4 x0).2.1, (Q4 x0).2.2.1, (Q4 x0).2.2.2.1, (Q8 x0).1, (Q8 x0).2.1, y38, y42, (Q12 x0).1, y30, (([] : List Int) ++ (Q12 x0).2.2.1), (Q12 x0).2.2.2.1, y34) a28 c29 a40 c41 a44 c45 a32 c33 a48 c49 a36 c37) (.new 8 46 cz46 .nil)) E ⟨V, (Bs E E)⟩ (JO.done E (JS.rgB ttOk 2 [] [] [] (.new 8 46 (cl46 (x0.1, x0.2.1, y26, x0.2.2.2.1, (Q4 x0).1, (Q4 x0).2.1, (Q4 x0).2.2.1, (Q4 x0).2.2.2.1, (Q8 x0).1, (Q8 x0).2.1, y38, y42, (Q12 x0).1, y30, (([] : List Int) ++ (Q12 x0).2.2.1), (Q12 x0).2.2.2.1, y34) a28 c29 a40 c41 a44 c45 a32 c33 a48 c49 a36 c37) .nil) ⟨V, (Bs E E)⟩ E E ?_))
  cases h
  exact JS.ret ttOk (a28, c29, a40, c41, a44, c45, a32, c33, a48, c49, a36, c37) V E E [5, 2, 1, 2, 0, 0] E

def M_s_l21Idle (x0 : EdQ) : Option EdQ :=
  some (x0.1, x0.2.1, x0.2.2.1, 0, 0, 0, 0, x0.2.2.2.2.2.2.2.1, x0.2.2.2.2.2.2.2.2.1, x0.2.2.2.2.2.2.2.2.2.1, x0.2.2.2.2.2.2.2.2.2.2.1, x0.2.2.2.2.2.2.2.2.2.2.2.1, x0.2.2.2.2.2.2.2.2.2.2.2.2.1, x0.2.2.2.2.2.2.2.2.2.2.2.2.2.1, x0.2.2.2.2.2.2.2.2.2.2.2.2.2.2.1, x0.2.2.2.2.2.2.2.2.2.2.2.2.2.2.2.1, x0.2.2.2.2.2.2.2.2.2.2.2.2.2.2.2.2)

theorem ok_s_l21Idle (x0 : EdQ) (a2 : Option Addr) (c3 : Nat) (l4 : Nat) (hl5 : x0.2.2.1.1.length = l4) (a6 : Option Addr) (c7 : Nat) (l8 : Nat) (hl9 : (Q8 x0).2.2.1.length = l8) (a10 : Option Addr) (c11 : Nat) (l12 : Nat) (hl13 : (Q8 x0).2.2.2.1.length = l12) (a14 : Option Addr) (c15 : Nat) (l16 : Nat) (hl17 : (Q12 x0).2.1.1.length = l16) (a18 : Option Addr) (c19 : Nat) (l20 : Nat) (hl21 : (Q12 x0).2.2.1.length = l20) (a22 : Option Addr) (c23 : Nat) (l24 : Nat) (hl25 : (Q16 x0).1.length = l24) (r : EdQ) (h : M_s_l21Idle x0 = some r) :
  FC Tryz.prog 121 [.agg #[.bool x0.1, .int .i64 x0.2.1, .slice a2 l4 c3, .int .i64 x0.2.2.1.2, .int .i64 x0.2.2.2.1, .int .i64 (Q4 x0).1, .int .i64 (Q4 x0).2.1, .int .i64 (Q4 x0).2.2.1, .int .i64 (Q4 x0).2.2.2.1, .int .i64 (Q8 x0).1, .int .i64 (Q8 x0).2.1, .slice a6 l8 c7, .slice a10 l12 c11, .int .i64 (Q12 x0).1, .slice a14 l16 c15, .int .i64 (Q12 x0).2.1.2, .slice a18 l20 c19, .int .i64 (Q12 x0).2.2.2.1, .slice a22 l24 c23, .int .i64 (Q16 x0).2]] [⟨(.int .i64), ⟨a2, l4, c3⟩, x0.2.2.1.1⟩, ⟨(.sl (.int .i64)), ⟨a6, l8, c7⟩, (Q8 x0).2.2.1⟩, ⟨(.pair (.sl (.int .i64)) (.int .i64)), ⟨a10, l12, c11⟩, (Q8 x0).2.2.2.1⟩, ⟨(.int .i64), ⟨a14, l16, c15⟩, (Q12 x0).2.1.1⟩, ⟨(.int .i64), ⟨a18, l20, c19⟩, (Q12 x0).2.2.1⟩, ⟨(.int .i64), ⟨a22, l24, c23⟩, (Q16 x0).1⟩] (fun _ : Unit => True) (fun _ => .agg #[.bool r.1, .int .i64 r.2.1, .slice a2 l4 c3, .int .i64 r.2.2.1.2, .int .i64 r.2.2.2.1, .int .i64 (Q4 r).1, .int .i64 (Q4 r).2.1, .int .i64 (Q4 r).2.2.1, .int .i64 (Q4 r).2.2.2.1, .int .i64 (Q8 r).1, .int .i64 (Q8 r).2.1, .slice a6 l8 c7, .slice a10 l12 c11, .int .i64 (Q12 r).1, .slice a14 l16 c15, .int .i64 (Q12 r).2.1.2, .slice a18 l20 c19, .int .i64 (Q12 r).2.2.2.1, .slice a22 l24 c23, .int .i64 (Q16 r).2]) (fun _ => []) :=
 by
  subst hl5
  subst hl9
  subst hl13
  subst hl17
  subst hl21
  subst hl25
  refine FC.of (T := TTx) Tryz.call121 Tryz.func121 E E fun w0 => ?_
  unfold M_s_l21Idle at h
  refine JS.rgB ttOk 2 [] [7, 8] [(1, .bp 7 0), (2, .bp 8 0)] (.new 7 46 (cl46 x0 a2 c3 a6 c7 a10 c11 a14 c15 a18 c19 a22 c23) (.new 8 46 cz46 .nil)) ⟨(Es E), (Bs E E)⟩ E E (JS.rgB ttOk 2 [] [] [] (.new 7 46 (cl46 (x0.1, x0.2.1, x0.2.2.1, 0, (Q4 x0).1, (Q4 x0).2.1, (Q4 x0).2.2.1, (Q4 x0).2.2.2.1, (Q8 x0).1, (Q8 x0).2.1, (Q8 x0).2.2.1, (Q8 x0).2.2.2.1, (Q12 x0).1, (Q12 x0).2.1, (Q12 x0).2.2.1, (Q12 x0).2.2.2.1, (Q16 x0)) a2 c3 a6 c7 a10 c11 a14 c15 a18 c19 a22 c23) (.new 8 46 cz46 .nil)) ⟨V, (Bs E E)⟩ E E (JS.rgB ttOk 2 [] [] [] (.new 7 46 (cl46 (x0.1, x0.2.1, x0.2.2.1, 0, 0, (Q4 x0).2.1, (Q4 x0).2.2.1, (Q4 x0).2.2.2.1, (Q8 x0).1, (Q8 x0).2.1, (Q8 x0).2.2.1, (Q8 x0).2.2.2.1, (Q12 x0).1, (Q12 x0).2.1, (Q12 x0).2.2.1, (Q12 x0).2.2.2.1, (Q16 x0)) a2 c3 a6 c7 a10 c11 a14 c15 a18 c19 a22 c23) (.new 8 46 cz46 .nil)) ⟨V, (Bs E E)⟩ E E (JS.rgB ttOk 2 [] [] [] (.new 7 46 (cl46 (x0.1, x0.2.1, x0.2.2.1, 0, 0, 0, (Q4 x0).2.2.1, (Q4 x0).2.2.2.1, (Q8 x0).1, (Q8 x0).2.1, (Q8 x0).2.2.1, (Q8 x0).2.2.2.1, (Q12 x0).1, (Q12 x0).2.1, (Q12 x0).2.2.1, (Q12 x0).2.2.2.1, (Q16 x0)) a2 c3 a6 c7 a10 c11 a14 c15 a18 c19 a22 c23) (.new 8 46 cz46 .nil)) ⟨V, (Bs E E)⟩ E E (JS.rgB ttOk 2 [] [] [] (.new 7 46 (cl46 (x0.1, x0.2.1, x0.2.2.1, 0, 0, 0, 0, (Q4 x0).2.2.2.1, (Q8 x0).1, (Q8 x0).2.1, (Q8 x0).2.2.1, (Q8 x0).2.2.2.1, (Q12 x0).1, (Q12 x0).2.1, (Q12 x0).2.2.1, (Q12 x0).2.2.2.1, (Q16 x0)) a2 c3 a6 c7 a10 c11 a14 c15 a18 c19 a22 c23) (.new 8 46 cz46 .nil)) ⟨V, (Bs E E)⟩ E E (JS.rgB ttOk 2 [] [] [] (.new 8 46 (cl46 (x0.1, x0.2.1, x0.2.2.1, 0, 0, 0, 0, (Q4 x0).2.2.2.1, (Q8 x0).1, (Q8 x0).2.1, (Q8 x0).2.2.1, (Q8 x0).2.2.2.1, (Q12 x0).1, (Q12 x0).2.1, (Q12 x0).2.2.1, (Q12 x0).2.2.2.1, (Q16 x0)) a2 c3 a6 c7 a10 c11 a14 c15 a18 c19 a22 c23) .nil) ⟨V, (Bs E E)⟩ E E ?_)))))
  cases h
  exact JS.ret ttOk () V E E [] E

def M_s_l15Same_L1 (x0 : List Int) (x1 : List Int) (j28 : Unit → Option Bool) (k20 : Int → Option Bool) : Int → Option Bool := fun x11 =>
  (bif (decide (x11 < (x0.length : Int))) then
  (guardO (0 ≤ x11 ∧ x11 < (x0.length : Int)) <|
  (guardO (0 ≤ x11 ∧ x11 < (x1.length : Int)) <|
  (bif (!(decide ((at' x0 x11) = (at' x1 x11)))) then
  some false
  else
  k20 (W (x11 + 1)))))
  else
  j28 ())

def M_s_l15Same (x0 : List Int) (x1 : List Int) : Option Bool :=
  (bif (!(decide ((x0.length : Int) = (x1.length : Int)))) then
  some false
  else
  (joinO (fun (_ : Unit) =>
  some true) fun j28 =>
  (fixF (M_s_l15Same_L1 x0 x1 j28) FUEL 0)))

theorem ok_s_l15Same (x0 : List Int) (x1 : List Int) (a3 : Option Addr) (c4 : Nat) (l5 : Nat) (hl6 : x0.length = l5) (a7 : Option Addr) (c8 : Nat) (l9 : Nat) (hl10 : x1.length = l9) (r : Bool) (h : M_s_l15Same x0 x1 = some r) :
  FC Tryz.prog 249 [.slice a3 l5 c4, .slice a7 l9 c8] [⟨(.int .i64), ⟨a3, l5, c4⟩, x0⟩, ⟨(.int .i64), ⟨a7, l9, c8⟩, x1⟩] (fun _ : Unit => True) (fun _ => .bool r) (fun _ => []) :=
 by
  subst hl6
  subst hl10
  refine FC.of (T := TTx) Tryz.call249 Tryz.func249 E E fun w0 => ?_
  unfold M_s_l15Same at h
  refine JS.rg0 ttOk 1 [] ⟨V, E⟩ E E (JS.seq (JS.rg0 ttOk 5 [(10, .v (.bool (!(decide ((x0.length : Int) = (x1.length : Int))))))] ⟨⟨E, V⟩, E⟩ E E ?_))
  refine JS.cond E (fun ht44 => ?_) (fun ht44 => ?_)
  ·
   have h := condT h ht44
   refine JS.rg0 ttOk 1 [(4, .v (.bool false))] ⟨⟨E, V⟩, E⟩ E E ?_
   cases h
   exact JS.ret ttOk () V E E [] E
  have h := condF h ht44
  refine JS.skip (JS.seq (JS.rg0 ttOk 3 [(12, .v (I (x0.length : Int))), (13, .v (I 0))] ⟨(Es E), E⟩ E E ?_))
  obtain ⟨j28, hj43, h⟩ := joinO_some h
  refine JS.blockJ (ι := Unit) ⟨fun _ => j28 () = some r, fun _ => [], fun _ => .nil, fun _ => [], fun _ => [], fun _ => 0⟩ ?_ ?_
  ·
   refine JS.loop (ι := Nat × Int) ⟨fun z => fixF (M_s_l15Same_L1 x0 x1 j28) z.1 z.2 = some r, fun z => [(0, .v (.slice a3 x0.length c4)), (1, .v (.slice a7 x1.length c8)), (12, .v (I (x0.length : Int))), (13, .v (I z.2))], fun z => .nil, fun z => [⟨(.int .i64), ⟨a3, x0.length, c4⟩, x0⟩, ⟨(.int .i64), ⟨a7, x1.length, c8⟩, x1⟩], fun z => [], fun z => z.1⟩ (FUEL, 0) h (Es E) V [0, 1] E [] E ?_
   rintro ⟨n21, x11⟩ h
   obtain ⟨n21, rfl, h⟩ := fixF_some h
   rw [M_s_l15Same_L1] at h
   refine JS.rg0 ttOk 1 [(14, .v (.bool (decide (x11 < (x0.length : Int)))))] ⟨⟨E, V⟩, E⟩ E E (JS.seq ?_)
   refine JS.cond E (fun ht42 => ?_) (fun ht42 => ?_)
   ·
    have h := condT h ht42
    refine JS.skip (JS.seq (JS.block (JS.rg0 ttOk 2 [(5, .v (I x11))] ⟨⟨E, V⟩, E⟩ E E (JS.seq ?_))))
    obtain ⟨g13, h⟩ := guardO_some h
    obtain ⟨g15, h⟩ := guardO_some h
    refine JS.know 0 E fun hs39 => JS.know 1 E fun hs40 => JS.regionQ E (by kernel_rfl) (JQ.reg ttOk 3 [] [(18, .ep ⟨a3, x0.length, c4⟩ (Int.toNat x11 * 1))] E ⟨hs39.ix g13, ⟨E, V⟩⟩ (JQ.load ttOk E E E E E E E 0 E E (Int.toNat x11) 0 (at' x0 x11) ⟨at_some g13, E⟩ E E (JQ.reg ttOk 3 [] [(22, .ep ⟨a7, x1.length, c8⟩ (Int.toNat x11 * 1))] E ⟨hs40.ix g15, ⟨E, V⟩⟩ (JQ.load ttOk E E E E E E E 1 E E (Int.toNat x11) 0 (at' x1 x11) ⟨at_some g15, E⟩ E E (JQ.reg ttOk 1 [] [(24, .v (.bool (!(decide ((at' x0 x11) = (at' x1 x11))))))] E ⟨E, V⟩ (JQ.done E ?_))))))
    refine JS.cond E (fun ht41 => ?_) (fun ht41 => ?_)
    ·
     have h := condT h ht41
     refine JS.rg0 ttOk 1 [(4, .v (.bool false))] ⟨⟨E, V⟩, E⟩ E E ?_
     cases h
     exact JS.ret ttOk () V E E [] E
    have h := condF h ht41
    refine JS.skip (JS.endB (JS.re ttOk 2 [(W (x11 + 1))] [] [(13, .v (I (W (x11 + 1))))] _ ⟨⟨V, E⟩, ⟨E, V⟩, E⟩ E E (JS.endL (n21, (W (x11 + 1))) h (Nat.lt_succ_self _) (Es E) V [0, 1] E [] E)))
   have h := condF h ht42
   refine JS.exit E (JS.endJ () h V V [] E [] E)
  rintro _ h
  subst hj43
  refine JS.rg0 ttOk 1 [(4, .v (.bool true))] ⟨⟨E, V⟩, E⟩ E E ?_
  cases h
  exact JS.ret ttOk () V E E [] E

def M_s_UndoPut (x0 : List (List Int × Int)) (x1 : List Int × Int) : Option ((List (List Int × Int)) × Bool) :=
  (bindO (M_s_UndoOk x0) fun (y11 : Bool) =>
  (callO ((!y11) = false) (M_s_LineOk x1) false fun (y13 : Bool) =>
  (bif (bif (!y11) then true else (!y13)) then
  some ([], false)
  else
  (bindO (M_s_l15Lines x0) fun (y16 : List (List Int × Int)) =>
  (guardO (((decide (0 < (y16.length : Int))) = true) → 0 ≤ (W ((y16.length : Int) - 1)) ∧ (W ((y16.length : Int) - 1)) < (y16.length : Int)) <|
  (callO ((decide (0 < (y16.length : Int))) = true) (M_s_l15Same ((at' y16 (W ((y16.length : Int) - 1))).1) x1.1) false fun (y30 : Bool) =>
  (bif (bif (decide (0 < (y16.length : Int))) then y30 else false) then
  some (y16, true)
  else
  (bindO (M_s_l15Line x1) fun (y45 : List Int × Int) =>
  (guardO (y16.length + ([y45] : List (List Int × Int)).length ≤ 536870912) <|
  (joinO (fun (x58 : List (List Int × Int)) =>
  some (x58, true)) fun j61 =>
  (bif (decide ((y16.length : Int) = 20)) then
  (guardO (0 ≤ (1 : Int) ∧ (1 : Int) ≤ ((y16 ++ ([y45] : List (List Int × Int))).length : Int) ∧ ((y16 ++ ([y45] : List (List Int × Int))).length : Int) ≤ ((y16 ++ ([y45] : List (List Int × Int))).length : Int)) <|
  j61 (sub' (y16 ++ ([y45] : List (List Int × Int))) 1 ((y16 ++ ([y45] : List (List Int × Int))).length : Int)))
  else
  j61 (y16 ++ ([y45] : List (List Int × Int))))))))))))))

theorem ok_s_UndoPut (x0 : List (List Int × Int)) (x1 : List Int × Int) (a3 : Option Addr) (c4 : Nat) (l5 : Nat) (hl6 : x0.length = l5) (a7 : Option Addr) (c8 : Nat) (l9 : Nat) (hl10 : x1.1.length = l9) (r : (List (List Int × Int)) × Bool) (h : M_s_UndoPut x0 x1 = some r) :
  FC Tryz.prog 182 [.agg #[.slice a3 l5 c4], .agg #[.slice a7 l9 c8, .int .i64 x1.2]] [⟨(.pair (.sl (.int .i64)) (.int .i64)), ⟨a3, l5, c4⟩, x0⟩, ⟨(.int .i64), ⟨a7, l9, c8⟩, x1.1⟩] (fun _ : Option Addr × Nat => True) (fun q => .tuple #[.agg #[.slice q.1 r.1.length q.2], .bool r.2]) (fun q => [⟨(.pair (.sl (.int .i64)) (.int .i64)), ⟨q.1, r.1.length, q.2⟩, r.1⟩]) :=
 by
  subst hl6
  subst hl10
  refine FC.of (T := TTx) Tryz.call182 Tryz.func182 E E fun w0 => ?_
  unfold M_s_UndoPut at h
  refine JS.rgB ttOk 4 [] [3, 4, 5] [(2, .bp 3 0), (3, .bp 4 0), (4, .bp 5 0)] (.new 3 44 [.slice a3 x0.length c4] (.new 4 38 [.slice a7 x1.1.length c8, .int .i64 x1.2] (.new 5 44 [.slice none 0 0] .nil))) ⟨(Es E), (Bs E E)⟩ E E (JS.seq (JS.seq (JS.region (JO.reg ttOk 1 [] [] [(8, .v (.agg #[.slice a3 x0.length c4]))] _ E ⟨⟨E, V⟩, E⟩ ?_))))
  obtain ⟨y11, hy12, h⟩ := bindO_some h
  refine JO.call E E E E (ok_s_UndoOk x0 a3 c4 x0.length E _ hy12) E [0] E E fun _ _ => JO.reg ttOk 3 [] [] [(11, .v (.bool (!y11))), (12, .cd [(11, false)] (.v (.agg #[.slice a7 x1.1.length c8, .int .i64 x1.2])))] _ E ⟨(Es E), E⟩ ?_
  obtain ⟨y13, hy14, -, h⟩ := callO_some h
  refine JO.callg E E E E (fun q66 => ok_s_LineOk x1 a7 c8 x1.1.length E _ (hy14 q66)) E [1] E E (JO.reg ttOk 2 [] [] [(15, .v (.bool (bif (!y11) then true else (!y13))))] _ E ⟨⟨E, V⟩, E⟩ (JO.done E ?_))
  refine JS.cond E (fun ht88 => ?_) (fun ht88 => ?_)
  ·
   have h := condT h ht88
   refine JS.rgB ttOk 3 [] [] [(5, .v (.bool false))] (.new 5 44 [.slice none 0 0] .nil) ⟨⟨E, V⟩, (Bs E E)⟩ E E ?_
   cases h
   refine JS.nilO (.pair (.sl (.int .i64)) (.int .i64)) Sl.nil E E (JS.ret ttOk (none, 0) V E E [0] E)
  have h := condF h ht88
  refine JS.skip (JS.seq (JS.region (JO.reg ttOk 1 [] [] [(17, .v (.agg #[.slice a3 x0.length c4]))] _ E ⟨⟨E, V⟩, E⟩ ?_)))
  obtain ⟨y16, hy17, h⟩ := bindO_some h
  refine JO.call E E E E (ok_s_l15Lines x0 a3 c4 x0.length E _ hy17) E [0] E E ?_
  rintro ⟨a18, c19⟩ -
  refine JO.regB ttOk 2 [] [15] [(6, .bp 15 0)] (.new 4 38 [.slice a7 x1.1.length c8, .int .i64 x1.2] (.new 5 44 [.slice none 0 0] (.new 15 44 [.slice a18 y16.length c19] .nil))) E ⟨⟨E, V⟩, (Bs E E)⟩ (JO.done E (JS.rg0 ttOk 4 [(7, .v (I (y16.length : Int)))] ⟨⟨E, V⟩, E⟩ E E (JS.seq (JS.seq ?_))))
  obtain ⟨g22, h⟩ := guardO_some h
  obtain ⟨y30, hy31, -, h⟩ := callO_some h
  refine JS.ofO (id := 0) (JO.lend [0] E (Int.toNat (W ((y16.length : Int) - 1))) (at' y16 (W ((y16.length : Int) - 1))) E ?_)
  intro a25 c26 l27 hl28
  obtain rfl : ([.slice a25 ((at' y16 (W ((y16.length : Int) - 1))).1).length c26, .int .i64 (at' y16 (W ((y16.length : Int) - 1))).2] : List Value) = l27 := Option.some.inj hl28
  refine JO.ofS (JS.know 2 E fun hs80 => JS.regionQ E (by kernel_rfl) (JQ.reg ttOk 9 [(W ((y16.length : Int) - 1))] [(24, .v (.bool (decide (0 < (y16.length : Int))))), (30, .cd [(24, true)] (.ep ⟨a18, y16.length, c19⟩ (Int.toNat (W ((y16.length : Int) - 1)) * 2)))] E ⟨(fun q79 => ⟨V, E⟩), (fun q81 => (hs80.cast (lentL_len _ _ _)).ix (g22 q81)), (fun q82 => (hs80.cast (lentL_len _ _ _)).fa (g22 q82)), (Es E)⟩ (JQ.loadV ttOk E E E E E E 2 E E (Int.toNat (W ((y16.length : Int) - 1))) 0 (Sum.inr [.slice a25 ((at' y16 (W ((y16.length : Int) - 1))).1).length c26, .int .i64 (at' y16 (W ((y16.length : Int) - 1))).2]) (fun q83 => ⟨lentL_at (at_some (g22 q83)), E⟩) E E E (JQ.reg ttOk 2 [] [(33, .cd [(24, true)] (.v (.slice a7 x1.1.length c8)))] E ⟨E, V⟩ (JQ.call E E E E (fun q84 => ok_s_l15Same ((at' y16 (W ((y16.length : Int) - 1))).1) x1.1 a25 c26 (((at' y16 (W ((y16.length : Int) - 1))).1).length) E a7 c8 x1.1.length E _ (hy31 q84)) E [3, 1] E E (JQ.reg ttOk 1 [] [(35, .v (.bool (bif (decide (0 < (y16.length : Int))) then y30 else false)))] E ⟨E, V⟩ (JQ.done E ?_)))))))
  refine JS.ofO (id := 0) (JO.unlend0 [0, 0] E (at' y16 (W ((y16.length : Int) - 1))) E ⟨E, E, E⟩ (JO.ofS ?_))
  refine JS.cond E (fun ht87 => ?_) (fun ht87 => ?_)
  ·
   have h := condT h ht87
   refine JS.rgB ttOk 3 [] [] [(5, .v (.bool true))] (.new 5 44 [.slice a18 y16.length c19] .nil) ⟨⟨E, V⟩, (Bs E E)⟩ E E ?_
   cases h
   exact JS.ret ttOk (a18, c19) V E E [0] E
  have h := condF h ht87
  refine JS.skip (JS.seq ?_)
  obtain ⟨y45, hy46, h⟩ := bindO_some h
  obtain ⟨g50, h⟩ := guardO_some h
  refine JS.regionA E (.new 4 38 [.slice a7 x1.1.length c8, .int .i64 x1.2] (.new 15 44 [.slice a18 y16.length c19] .nil)) [] [5, 6, 7] ⟨E, E, E, E, E, E, E, E, V⟩ E (fun be53 => ?_)
  refine JA.reg ttOk panic_cx true 5 [0, 1, 2] E (by kernel_rfl) [] [(38, .v (.slice a18 y16.length c19)), (39, .v (.agg #[.slice a7 x1.1.length c8, .int .i64 x1.2]))] ⟨E, E, E, E, E, E, E, E, V⟩ [] E E (Es E) (JA.one 3 (by kernel_rfl) (JK.call E E E E (ok_s_l15Line x1 a7 c8 x1.1.length E _ hy46) E [1] E E ?_))
  rintro ⟨a47, c48⟩ -
  refine JA.next ⟨E, E, E, E, E, E, E, E, V⟩ [] E (JA.one 4 (by kernel_rfl) (JK.buildSlice ttOk E E E E E E E E E E E [0] E (.pair (.sl (.int .i64)) (.int .i64)) [y45] ⟨E, E, E⟩ E E fun a49 => JA.next ⟨E, E, E, E, E, E, E, E, V⟩ [] E (JA.one 5 (by kernel_rfl) (JK.appendO' ttOk E E E E ⟨E, E, E, E, V, E, E, E, E⟩ E E [1, 0] E g50 E fun a51 c52 => JA.nextL E (JA.regL ttOk panic_cx 1 [6] E (by kernel_rfl) [] [(43, .bp 15 0)] E ⟨E, V⟩ (JA.one 7 (by kernel_rfl) (JK.stBox ttOk E E E E E E E E (JA.nextL E (JA.done (by kernel_rfl) (JS.boxes (B' := (.new 5 44 [.slice none 0 0] (.new 15 44 [.slice a51 (y16 ++ ([y45] : List (List Int × Int))).length c52] .nil))) (Bs E E) ?_))))))))))
  obtain ⟨j61, hj86, h⟩ := joinO_some h
  refine JS.seqJ (ι := (List (List Int × Int)) × Option Addr × Nat) ⟨fun z => j61 z.1 = some r, fun z => [(4, .bp 5 0), (6, .bp 15 0)], fun z => (.new 5 44 [.slice none 0 0] (.new 15 44 [.slice z.2.1 z.1.length z.2.2] .nil)), fun z => [], fun z => [⟨(.pair (.sl (.int .i64)) (.int .i64)), ⟨z.2.1, z.1.length, z.2.2⟩, z.1⟩], fun z => 0⟩ ?_ ?_
  ·
   refine JS.rg0 ttOk 2 [(45, .v (.bool (decide ((y16.length : Int) = 20))))] ⟨⟨E, V⟩, E⟩ E E ?_
   refine JS.cond E (fun ht85 => ?_) (fun ht85 => ?_)
   ·
    have h := condT h ht85
    refine JS.region (JO.reg ttOk 2 [] [] [(47, .v (.slice a51 (y16 ++ ([y45] : List (List Int × Int))).length c52))] _ E ⟨⟨E, V⟩, E⟩ ?_)
    obtain ⟨g54, h⟩ := guardO_some h
    refine JO.sliceO' ttOk E E E E E E E E [0] E (1 : Int) ((y16 ++ ([y45] : List (List Int × Int))).length : Int) E E g54 E fun a55 c56 => JO.regB ttOk 2 [] [] [] (.new 5 44 [.slice none 0 0] (.new 15 44 [.slice a55 (sub' (y16 ++ ([y45] : List (List Int × Int))) 1 ((y16 ++ ([y45] : List (List Int × Int))).length : Int)).length c56] .nil)) E ⟨V, (Bs E E)⟩ (JO.done E (JS.endJ ((sub' (y16 ++ ([y45] : List (List Int × Int))) 1 ((y16 ++ ([y45] : List (List Int × Int))).length : Int)), a55, c56) h (Es E) (Bs E E) [] E [0] E))
   have h := condF h ht85
   refine JS.skip (JS.endJ ((y16 ++ ([y45] : List (List Int × Int))), a51, c52) h (Es E) (Bs E E) [] E [0] E)
  rintro ⟨x58, a59, c60⟩ h
  subst hj86
  refine JS.rgB ttOk 3 [] [] [(5, .v (.bool true))] (.new 5 44 [.slice a59 x58.length c60] .nil) ⟨⟨E, V⟩, (Bs E E)⟩ E E ?_
  cases h
  exact JS.ret ttOk (a59, c60) V E E [0] E

def M_s_l21Clip (x0 : EdQ) : Option EdQ :=
  (joinO (fun (x27 : Int) =>
  some (x0.1, x0.2.1, (x0.2.2.1.1, x27), x0.2.2.2.1, x0.2.2.2.2.1, x0.2.2.2.2.2.1, x0.2.2.2.2.2.2.1, x0.2.2.2.2.2.2.2.1, x0.2.2.2.2.2.2.2.2.1, x0.2.2.2.2.2.2.2.2.2.1, x0.2.2.2.2.2.2.2.2.2.2.1, x0.2.2.2.2.2.2.2.2.2.2.2.1, x0.2.2.2.2.2.2.2.2.2.2.2.2.1, x0.2.2.2.2.2.2.2.2.2.2.2.2.2.1, x0.2.2.2.2.2.2.2.2.2.2.2.2.2.2.1, x0.2.2.2.2.2.2.2.2.2.2.2.2.2.2.2.1, x0.2.2.2.2.2.2.2.2.2.2.2.2.2.2.2.2)) fun j28 =>
  (bif (bif (bif (decide (x0.2.1 = 2)) then (decide (x0.2.2.1.2 = (x0.2.2.1.1.length : Int))) else false) then (decide (0 < x0.2.2.1.2)) else false) then
  j28 (W (x0.2.2.1.2 - 1))
  else
  j28 x0.2.2.1.2))

theorem ok_s_l21Clip (x0 : EdQ) (a2 : Option Addr) (c3 : Nat) (l4 : Nat) (hl5 : x0.2.2.1.1.length = l4) (a6 : Option Addr) (c7 : Nat) (l8 : Nat) (hl9 : (Q8 x0).2.2.1.length = l8) (a10 : Option Addr) (c11 : Nat) (l12 : Nat) (hl13 : (Q8 x0).2.2.2.1.length = l12) (a14 : Option Addr) (c15 : Nat) (l16 : Nat) (hl17 : (Q12 x0).2.1.1.length = l16) (a18 : Option Addr) (c19 : Nat) (l20 : Nat) (hl21 : (Q12 x0).2.2.1.length = l20) (a22 : Option Addr) (c23 : Nat) (l24 : Nat) (hl25 : (Q16 x0).1.length = l24) (r : EdQ) (h : M_s_l21Clip x0 = some r) :
  FC Tryz.prog 155 [.agg #[.bool x0.1, .int .i64 x0.2.1, .slice a2 l4 c3, .int .i64 x0.2.2.1.2, .int .i64 x0.2.2.2.1, .int .i64 (Q4 x0).1, .int .i64 (Q4 x0).2.1, .int .i64 (Q4 x0).2.2.1, .int .i64 (Q4 x0).2.2.2.1, .int .i64 (Q8 x0).1, .int .i64 (Q8 x0).2.1, .slice a6 l8 c7, .slice a10 l12 c11, .int .i64 (Q12 x0).1, .slice a14 l16 c15, .int .i64 (Q12 x0).2.1.2, .slice a18 l20 c19, .int .i64 (Q12 x0).2.2.2.1, .slice a22 l24 c23, .int .i64 (Q16 x0).2]] [⟨(.int .i64), ⟨a2, l4, c3⟩, x0.2.2.1.1⟩, ⟨(.sl (.int .i64)), ⟨a6, l8, c7⟩, (Q8 x0).2.2.1⟩, ⟨(.pair (.sl (.int .i64)) (.int .i64)), ⟨a10, l12, c11⟩, (Q8 x0).2.2.2.1⟩, ⟨(.int .i64), ⟨a14, l16, c15⟩, (Q12 x0).2.1.1⟩, ⟨(.int .i64), ⟨a18, l20, c19⟩, (Q12 x0).2.2.1⟩, ⟨(.int .i64), ⟨a22, l24, c23⟩, (Q16 x0).1⟩] (fun _ : Unit => True) (fun _ => .agg #[.bool r.1, .int .i64 r.2.1, .slice a2 l4 c3, .int .i64 r.2.2.1.2, .int .i64 r.2.2.2.1, .int .i64 (Q4 r).1, .int .i64 (Q4 r).2.1, .int .i64 (Q4 r).2.2.1, .int .i64 (Q4 r).2.2.2.1, .int .i64 (Q8 r).1, .int .i64 (Q8 r).2.1, .slice a6 l8 c7, .slice a10 l12 c11, .int .i64 (Q12 r).1, .slice a14 l16 c15, .int .i64 (Q12 r).2.1.2, .slice a18 l20 c19, .int .i64 (Q12 r).2.2.2.1, .slice a22 l24 c23, .int .i64 (Q16 r).2]) (fun _ => []) :=
 by
  subst hl5
  subst hl9
  subst hl13
  subst hl17
  subst hl21
  subst hl25
  refine FC.of (T := TTx) Tryz.call155 Tryz.func155 E E fun w0 => ?_
  unfold M_s_l21Clip at h
  refine JS.rgB ttOk 2 [] [7, 8] [(1, .bp 7 0), (2, .bp 8 0)] (.new 7 46 (cl46 x0 a2 c3 a6 c7 a10 c11 a14 c15 a18 c19 a22 c23) (.new 8 46 cz46 .nil)) ⟨(Es E), (Bs E E)⟩ E E ?_
  obtain ⟨j28, hj32, h⟩ := joinO_some h
  refine JS.seqJ (ι := Int) ⟨fun z => j28 z = some r, fun z => [(1, .bp 7 0), (2, .bp 8 0)], fun z => (.new 7 46 (cl46 (x0.1, x0.2.1, (x0.2.2.1.1, z), x0.2.2.2.1, (Q4 x0).1, (Q4 x0).2.1, (Q4 x0).2.2.1, (Q4 x0).2.2.2.1, (Q8 x0).1, (Q8 x0).2.1, (Q8 x0).2.2.1, (Q8 x0).2.2.2.1, (Q12 x0).1, (Q12 x0).2.1, (Q12 x0).2.2.1, (Q12 x0).2.2.2.1, (Q16 x0)) a2 c3 a6 c7 a10 c11 a14 c15 a18 c19 a22 c23) (.new 8 46 cz46 .nil)), fun z => (fl32 x0 a2 c3 a6 c7 a10 c11 a14 c15 a18 c19 a22 c23 []), fun z => [], fun z => 0⟩ ?_ ?_
  ·
   refine JS.rg0 ttOk 19 [(21, .v (.bool (bif (bif (decide (x0.2.1 = 2)) then (decide (x0.2.2.1.2 = (x0.2.2.1.1.length : Int))) else false) then (decide (0 < x0.2.2.1.2)) else false)))] ⟨⟨E, V⟩, E⟩ E E ?_
   refine JS.cond E (fun ht31 => ?_) (fun ht31 => ?_)
   ·
    have h := condT h ht31
    refine JS.reB ttOk 7 [(W (x0.2.2.1.2 - 1))] [] [] (.new 7 46 (cl46 (x0.1, x0.2.1, (x0.2.2.1.1, (W (x0.2.2.1.2 - 1))), x0.2.2.2.1, (Q4 x0).1, (Q4 x0).2.1, (Q4 x0).2.2.1, (Q4 x0).2.2.2.1, (Q8 x0).1, (Q8 x0).2.1, (Q8 x0).2.2.1, (Q8 x0).2.2.2.1, (Q12 x0).1, (Q12 x0).2.1, (Q12 x0).2.2.1, (Q12 x0).2.2.2.1, (Q16 x0)) a2 c3 a6 c7 a10 c11 a14 c15 a18 c19 a22 c23) (.new 8 46 cz46 .nil)) ⟨⟨V, E⟩, V, (Bs E E)⟩ E E (JS.endJ (W (x0.2.2.1.2 - 1)) h (Es E) (Bs E E) [0, 1, 2, 3, 4, 5] E [] E)
   have h := condF h ht31
   refine JS.skip (JS.endJ x0.2.2.1.2 h (Es E) (Bs E E) [0, 1, 2, 3, 4, 5] E [] E)
  rintro x27 h
  subst hj32
  refine JS.rgB ttOk 2 [] [] [] (.new 8 46 (cl46 (x0.1, x0.2.1, (x0.2.2.1.1, x27), x0.2.2.2.1, (Q4 x0).1, (Q4 x0).2.1, (Q4 x0).2.2.1, (Q4 x0).2.2.2.1, (Q8 x0).1, (Q8 x0).2.1, (Q8 x0).2.2.1, (Q8 x0).2.2.2.1, (Q12 x0).1, (Q12 x0).2.1, (Q12 x0).2.2.1, (Q12 x0).2.2.2.1, (Q16 x0)) a2 c3 a6 c7 a10 c11 a14 c15 a18 c19 a22 c23) .nil) ⟨V, (Bs E E)⟩ E E ?_
  cases h
  exact JS.ret ttOk () V E E [] E

def M_s_EdSet (x0 : EdQ) (x1 : List Int × Int) (x2 : Int) : Option (EdQ × Bool) :=
  (bindO (M_s_EdOk x0) fun (y32 : Bool) =>
  (callO ((!y32) = false) (M_s_LineOk x1) false fun (y34 : Bool) =>
  (bif (bif (bif (bif (!y32) then true else (!y34)) then true else (decide (x2 < 0))) then true else (decide (3 < x2))) then
  some ((false, 0, ([], 0), 0, 0, 0, 0, 0, 0, 0, [], [], 0, ([], 0), [], 0, ([], 0)), false)
  else
  (bindO (M_s_l21Copy x0) fun (y37 : EdQ) =>
  (bindO (M_s_l21Idle y37) fun (y51 : EdQ) =>
  (joinO (fun (x61 : List (List Int × Int)) =>
  (bindO (M_s_l15Line x1) fun (y66 : List Int × Int) =>
  (bindO (M_s_l21Clip (y51.1, y51.2.1, y66, y51.2.2.2.1, y51.2.2.2.2.1, y51.2.2.2.2.2.1, y51.2.2.2.2.2.2.1, y51.2.2.2.2.2.2.2.1, y51.2.2.2.2.2.2.2.2.1, x2, y37.2.2.2.2.2.2.2.2.2.2.1, x61, y51.2.2.2.2.2.2.2.2.2.2.2.2.1, (y37.2.2.2.2.2.2.2.2.2.2.2.2.2.1.1, y51.2.2.2.2.2.2.2.2.2.2.2.2.2.1.2), y37.2.2.2.2.2.2.2.2.2.2.2.2.2.2.1, y51.2.2.2.2.2.2.2.2.2.2.2.2.2.2.2.1, (y37.2.2.2.2.2.2.2.2.2.2.2.2.2.2.2.2.1, y51.2.2.2.2.2.2.2.2.2.2.2.2.2.2.2.2.2))) fun (y70 : EdQ) =>
  some ((y70.1, y70.2.1, (y66.1, y70.2.2.1.2), y70.2.2.2.1, y70.2.2.2.2.1, y70.2.2.2.2.2.1, y70.2.2.2.2.2.2.1, y70.2.2.2.2.2.2.2.1, y70.2.2.2.2.2.2.2.2.1, y70.2.2.2.2.2.2.2.2.2.1, y37.2.2.2.2.2.2.2.2.2.2.1, x61, y70.2.2.2.2.2.2.2.2.2.2.2.2.1, (y37.2.2.2.2.2.2.2.2.2.2.2.2.2.1.1, y70.2.2.2.2.2.2.2.2.2.2.2.2.2.1.2), y37.2.2.2.2.2.2.2.2.2.2.2.2.2.2.1, y70.2.2.2.2.2.2.2.2.2.2.2.2.2.2.2.1, (y37.2.2.2.2.2.2.2.2.2.2.2.2.2.2.2.2.1, y70.2.2.2.2.2.2.2.2.2.2.2.2.2.2.2.2.2)), true)))) fun j64 =>
  (bindO (M_s_l15Same x0.2.2.1.1 x1.1) fun (y53 : Bool) =>
  (bif (bif (!y53) then (!(bif (decide (x2 = 1)) then (decide (x0.2.2.2.2.2.2.2.2.2.1 = 1)) else false)) else false) then
  (bindO (M_s_UndoPut y37.2.2.2.2.2.2.2.2.2.2.2.1 x0.2.2.1) fun (y55, y56) =>
  j64 y55)
  else
  j64 y37.2.2.2.2.2.2.2.2.2.2.2.1))))))))

theorem ok_s_EdSet (x0 : EdQ) (x1 : List Int × Int) (x2 : Int) (a4 : Option Addr) (c5 : Nat) (l6 : Nat) (hl7 : x0.2.2.1.1.length = l6) (a8 : Option Addr) (c9 : Nat) (l10 : Nat) (hl11 : (Q8 x0).2.2.1.length = l10) (a12 : Option Addr) (c13 : Nat) (l14 : Nat) (hl15 : (Q8 x0).2.2.2.1.length = l14) (a16 : Option Addr) (c17 : Nat) (l18 : Nat) (hl19 : (Q12 x0).2.1.1.length = l18) (a20 : Option Addr) (c21 : Nat) (l22 : Nat) (hl23 : (Q12 x0).2.2.1.length = l22) (a24 : Option Addr) (c25 : Nat) (l26 : Nat) (hl27 : (Q16 x0).1.length = l26) (a28 : Option Addr) (c29 : Nat) (l30 : Nat) (hl31 : x1.1.length = l30) (r : EdQ × Bool) (h : M_s_EdSet x0 x1 x2 = some r) :
  FC Tryz.prog 254 [.agg #[.bool x0.1, .int .i64 x0.2.1, .slice a4 l6 c5, .int .i64 x0.2.2.1.2, .int .i64 x0.2.2.2.1, .int .i64 (Q4 x0).1, .int .i64 (Q4 x0).2.1, .int .i64 (Q4 x0).2.2.1, .int .i64 (Q4 x0).2.2.2.1, .int .i64 (Q8 x0).1, .int .i64 (Q8 x0).2.1, .slice a8 l10 c9, .slice a12 l14 c13, .int .i64 (Q12 x0).1, .slice a16 l18 c17, .int .i64 (Q12 x0).2.1.2, .slice a20 l22 c21, .int .i64 (Q12 x0).2.2.2.1, .slice a24 l26 c25, .int .i64 (Q16 x0).2], .agg #[.slice a28 l30 c29, .int .i64 x1.2], .int .i64 x2] [⟨(.int .i64), ⟨a4, l6, c5⟩, x0.2.2.1.1⟩, ⟨(.sl (.int .i64)), ⟨a8, l10, c9⟩, (Q8 x0).2.2.1⟩, ⟨(.pair (.sl (.int .i64)) (.int .i64)), ⟨a12, l14, c13⟩, (Q8 x0).2.2.2.1⟩, ⟨(.int .i64), ⟨a16, l18, c17⟩, (Q12 x0).2.1.1⟩, ⟨(.int .i64), ⟨a20, l22, c21⟩, (Q12 x0).2.2.1⟩, ⟨(.int .i64), ⟨a24, l26, c25⟩, (Q16 x0).1⟩, ⟨(.int .i64), ⟨a28, l30, c29⟩, x1.1⟩] (fun _ : Option Addr × Nat × Option Addr × Nat × Option Addr × Nat × Option Addr × Nat × Option Addr × Nat × Option Addr × Nat => True) (fun q => .tuple #[.agg (cl46 r.1 q.1 q.2.1 q.2.2.1 q.2.2.2.1 (Q4 q).1 (Q4 q).2.1 (Q4 q).2.2.1 (Q4 q).2.2.2.1 (Q8 q).1 (Q8 q).2.1 (Q8 q).2.2.1 (Q8 q).2.2.2).toArray, .bool r.2]) (fun q => (fl32 r.1 q.1 q.2.1 q.2.2.1 q.2.2.2.1 (Q4 q).1 (Q4 q).2.1 (Q4 q).2.2.1 (Q4 q).2.2.2.1 (Q8 q).1 (Q8 q).2.1 (Q8 q).2.2.1 (Q8 q).2.2.2 [])) :=
 by
  subst hl7
  subst hl11
  subst hl15
  subst hl19
  subst hl23
  subst hl27
  subst hl31
  refine FC.of (T := TTx) Tryz.call254 Tryz.func254 E E fun w0 => ?_
  unfold M_s_EdSet at h
  refine JS.rgB ttOk 4 [] [8, 9, 10] [(3, .bp 8 0), (4, .bp 9 0), (6, .bp 10 0)] (.new 8 46 (cl46 x0 a4 c5 a8 c9 a12 c13 a16 c17 a20 c21 a24 c25) (.new 9 38 [.slice a28 x1.1.length c29, .int .i64 x1.2] (.new 10 46 cz46 .nil))) ⟨(Es E), (Bs E E)⟩ E E (JS.seq (JS.seq (JS.region (JO.reg ttOk 1 [] [] [(9, .v (.agg (cl46 x0 a4 c5 a8 c9 a12 c13 a16 c17 a20 c21 a24 c25).toArray))] _ E ⟨⟨E, V⟩, E⟩ ?_))))
  obtain ⟨y32, hy33, h⟩ := bindO_some h
  refine JO.call E E E E (ok_s_EdOk x0 a4 c5 x0.2.2.1.1.length E a8 c9 (Q8 x0).2.2.1.length E a12 c13 (Q8 x0).2.2.2.1.length E a16 c17 (Q12 x0).2.1.1.length E a20 c21 (Q12 x0).2.2.1.length E a24 c25 (Q16 x0).1.length E _ hy33) E [0, 1, 2, 3, 4, 5] E E fun _ _ => JO.reg ttOk 3 [] [] [(12, .v (.bool (!y32))), (13, .cd [(12, false)] (.v (.agg #[.slice a28 x1.1.length c29, .int .i64 x1.2])))] _ E ⟨(Es E), E⟩ ?_
  obtain ⟨y34, hy35, -, h⟩ := callO_some h
  refine JO.callg E E E E (fun q74 => ok_s_LineOk x1 a28 c29 x1.1.length E _ (hy35 q74)) E [6] E E (JO.reg ttOk 10 [] [] [(24, .v (.bool (bif (bif (bif (!y32) then true else (!y34)) then true else (decide (x2 < 0))) then true else (decide (3 < x2)))))] _ E ⟨⟨E, V⟩, E⟩ (JO.done E ?_))
  refine JS.cond E (fun ht77 => ?_) (fun ht77 => ?_)
  ·
   have h := condT h ht77
   refine JS.rgB ttOk 3 [] [] [(7, .v (.bool false))] (.new 10 46 cz46 .nil) ⟨⟨E, V⟩, (Bs E E)⟩ E E ?_
   cases h
   refine JS.nilO (.int .i64) Sl.nil E E (JS.nilO (.sl (.int .i64)) Sl.nil E E (JS.nilO (.pair (.sl (.int .i64)) (.int .i64)) Sl.nil E E (JS.nilO (.int .i64) Sl.nil E E (JS.nilO (.int .i64) Sl.nil E E (JS.nilO (.int .i64) Sl.nil E E (JS.ret ttOk (none, 0, none, 0, none, 0, none, 0, none, 0, none, 0) V E E [5, 4, 3, 2, 1, 0] E))))))
  have h := condF h ht77
  refine JS.skip (JS.seq (JS.region (JO.reg ttOk 1 [] [] [(26, .v (.agg (cl46 x0 a4 c5 a8 c9 a12 c13 a16 c17 a20 c21 a24 c25).toArray))] _ E ⟨⟨E, V⟩, E⟩ ?_)))
  obtain ⟨y37, hy38, h⟩ := bindO_some h
  refine JO.call E E E E (ok_s_l21Copy x0 a4 c5 x0.2.2.1.1.length E a8 c9 (Q8 x0).2.2.1.length E a12 c13 (Q8 x0).2.2.2.1.length E a16 c17 (Q12 x0).2.1.1.length E a20 c21 (Q12 x0).2.2.1.length E a24 c25 (Q16 x0).1.length E _ hy38) E [0, 1, 2, 3, 4, 5] E E ?_
  rintro ⟨a39, c40, a41, c42, a43, c44, a45, c46, a47, c48, a49, c50⟩ -
  obtain ⟨y51, hy52, h⟩ := bindO_some h
  refine JO.call E E E E (ok_s_l21Idle y37 a39 c40 y37.2.2.1.1.length E a41 c42 (Q8 y37).2.2.1.length E a43 c44 (Q8 y37).2.2.2.1.length E a45 c46 (Q12 y37).2.1.1.length E a47 c48 (Q12 y37).2.2.1.length E a49 c50 (Q16 y37).1.length E _ hy52) E [7, 8, 9, 10, 11, 12] E E fun _ _ => JO.regB ttOk 2 [] [37] [(8, .bp 37 0)] (.new 8 46 (cl46 x0 a4 c5 a8 c9 a12 c13 a16 c17 a20 c21 a24 c25) (.new 9 38 [.slice a28 x1.1.length c29, .int .i64 x1.2] (.new 10 46 cz46 (.new 37 46 (cl46 (y51.1, y51.2.1, (y37.2.2.1.1, y51.2.2.1.2), y51.2.2.2.1, (Q4 y51).1, (Q4 y51).2.1, (Q4 y51).2.2.1, (Q4 y51).2.2.2.1, (Q8 y51).1, (Q8 y51).2.1, (Q8 y37).2.2.1, (Q8 y37).2.2.2.1, (Q12 y51).1, ((Q12 y37).2.1.1, (Q12 y51).2.1.2), (Q12 y37).2.2.1, (Q12 y51).2.2.2.1, ((Q16 y37).1, (Q16 y51).2)) a39 c40 a41 c42 a43 c44 a45 c46 a47 c48 a49 c50) .nil)))) E ⟨⟨E, V⟩, (Bs E E)⟩ (JO.done E ?_)
  obtain ⟨j64, hj76, h⟩ := joinO_some h
  refine JS.seqJ (ι := (List (List Int × Int)) × Option Addr × Nat) ⟨fun z => j64 z.1 = some r, fun z => [(2, .v (I x2)), (4, .bp 9 0), (6, .bp 10 0), (8, .bp 37 0)], fun z => (.new 9 38 [.slice a28 x1.1.length c29, .int .i64 x1.2] (.new 10 46 cz46 (.new 37 46 (cl46 (y51.1, y51.2.1, (y37.2.2.1.1, y51.2.2.1.2), y51.2.2.2.1, (Q4 y51).1, (Q4 y51).2.1, (Q4 y51).2.2.1, (Q4 y51).2.2.2.1, (Q8 y51).1, (Q8 y51).2.1, (Q8 y37).2.2.1, z.1, (Q12 y51).1, ((Q12 y37).2.1.1, (Q12 y51).2.1.2), (Q12 y37).2.2.1, (Q12 y51).2.2.2.1, ((Q16 y37).1, (Q16 y51).2)) a39 c40 a41 c42 z.2.1 z.2.2 a45 c46 a47 c48 a49 c50) .nil))), fun z => [⟨(.int .i64), ⟨a28, x1.1.length, c29⟩, x1.1⟩], fun z => [⟨(.pair (.sl (.int .i64)) (.int .i64)), ⟨z.2.1, z.1.length, z.2.2⟩, z.1⟩, ⟨(.int .i64), ⟨a39, y37.2.2.1.1.length, c40⟩, y37.2.2.1.1⟩, ⟨(.sl (.int .i64)), ⟨a41, (Q8 y37).2.2.1.length, c42⟩, (Q8 y37).2.2.1⟩, ⟨(.int .i64), ⟨a45, (Q12 y37).2.1.1.length, c46⟩, (Q12 y37).2.1.1⟩, ⟨(.int .i64), ⟨a47, (Q12 y37).2.2.1.length, c48⟩, (Q12 y37).2.2.1⟩, ⟨(.int .i64), ⟨a49, (Q16 y37).1.length, c50⟩, (Q16 y37).1⟩], fun z => 0⟩ ?_ ?_
  ·
   refine JS.seq (JS.region (JO.reg ttOk 5 [] [] [(31, .v (.slice a4 x0.2.2.1.1.length c5)), (33, .v (.slice a28 x1.1.length c29))] _ E ⟨(Es E), E⟩ ?_))
   obtain ⟨y53, hy54, h⟩ := bindO_some h
   refine JO.call E E E E (ok_s_l15Same x0.2.2.1.1 x1.1 a4 c5 x0.2.2.1.1.length E a28 c29 x1.1.length E _ hy54) E [0, 6] E E fun _ _ => JO.reg ttOk 11 [] [] [(45, .v (.bool (bif (!y53) then (!(bif (decide (x2 = 1)) then (decide ((Q8 x0).2.1 = 1)) else false)) else false)))] _ E ⟨⟨E, V⟩, E⟩ (JO.done E ?_)
   refine JS.cond E (fun ht75 => ?_) (fun ht75 => ?_)
   ·
    have h := condT h ht75
    refine JS.region (JO.reg ttOk 4 [] [] [(48, .v (.agg #[.slice a43 (Q8 y37).2.2.2.1.length c44])), (50, .v (.agg #[.slice a4 x0.2.2.1.1.length c5, .int .i64 x0.2.2.1.2]))] _ E ⟨(Es E), E⟩ ?_)
    obtain ⟨⟨y55, y56⟩, hy57, h⟩ := bindO_some h
    refine JO.call E E E E (ok_s_UndoPut (Q8 y37).2.2.2.1 x0.2.2.1 a43 c44 (Q8 y37).2.2.2.1.length E a4 c5 x0.2.2.1.1.length E _ hy57) E [9, 0] E E ?_
    rintro ⟨a58, c59⟩ -
    refine JO.regB ttOk 5 [] [] [] (.new 9 38 [.slice a28 x1.1.length c29, .int .i64 x1.2] (.new 10 46 cz46 (.new 37 46 (cl46 (y51.1, y51.2.1, (y37.2.2.1.1, y51.2.2.1.2), y51.2.2.2.1, (Q4 y51).1, (Q4 y51).2.1, (Q4 y51).2.2.1, (Q4 y51).2.2.2.1, (Q8 y51).1, (Q8 y51).2.1, (Q8 y37).2.2.1, y55, (Q12 y51).1, ((Q12 y37).2.1.1, (Q12 y51).2.1.2), (Q12 y37).2.2.1, (Q12 y51).2.2.2.1, ((Q16 y37).1, (Q16 y51).2)) a39 c40 a41 c42 a58 c59 a45 c46 a47 c48 a49 c50) .nil))) E ⟨V, (Bs E E)⟩ (JO.done E (JS.endJA (y55, a58, c59) h (Es E) (Bs E E) [6] E [0, 1, 2, 4, 5, 6] E E))
   have h := condF h ht75
   refine JS.skip (JS.endJA ((Q8 y37).2.2.2.1, a43, c44) h (Es E) (Bs E E) [6] E [2, 0, 1, 3, 4, 5] E E)
  rintro ⟨x61, a62, c63⟩ h
  subst hj76
  refine JS.seq (JS.region (JO.reg ttOk 1 [] [] [(55, .v (.agg #[.slice a28 x1.1.length c29, .int .i64 x1.2]))] _ E ⟨⟨E, V⟩, E⟩ ?_))
  obtain ⟨y66, hy67, h⟩ := bindO_some h
  refine JO.call E E E E (ok_s_l15Line x1 a28 c29 x1.1.length E _ hy67) E [0] E E ?_
  rintro ⟨a68, c69⟩ -
  refine JO.regB ttOk 2 [] [] [] (.new 10 46 cz46 (.new 37 46 (cl46 (y51.1, y51.2.1, y66, y51.2.2.2.1, (Q4 y51).1, (Q4 y51).2.1, (Q4 y51).2.2.1, (Q4 y51).2.2.2.1, (Q8 y51).1, (Q8 y51).2.1, (Q8 y37).2.2.1, x61, (Q12 y51).1, ((Q12 y37).2.1.1, (Q12 y51).2.1.2), (Q12 y37).2.2.1, (Q12 y51).2.2.2.1, ((Q16 y37).1, (Q16 y51).2)) a68 c69 a41 c42 a62 c63 a45 c46 a47 c48 a49 c50) .nil)) E ⟨V, (Bs E E)⟩ (JO.done E (JS.rgB ttOk 3 [] [] [] (.new 10 46 cz46 (.new 37 46 (cl46 (y51.1, y51.2.1, y66, y51.2.2.2.1, (Q4 y51).1, (Q4 y51).2.1, (Q4 y51).2.2.1, (Q4 y51).2.2.2.1, (Q8 y51).1, x2, (Q8 y37).2.2.1, x61, (Q12 y51).1, ((Q12 y37).2.1.1, (Q12 y51).2.1.2), (Q12 y37).2.2.1, (Q12 y51).2.2.2.1, ((Q16 y37).1, (Q16 y51).2)) a68 c69 a41 c42 a62 c63 a45 c46 a47 c48 a49 c50) .nil)) ⟨V, (Bs E E)⟩ E E (JS.seq (JS.region (JO.reg ttOk 1 [] [] [(60, .v (.agg (cl46 (y51.1, y51.2.1, y66, y51.2.2.2.1, (Q4 y51).1, (Q4 y51).2.1, (Q4 y51).2.2.1, (Q4 y51).2.2.2.1, (Q8 y51).1, x2, (Q8 y37).2.2.1, x61, (Q12 y51).1, ((Q12 y37).2.1.1, (Q12 y51).2.1.2), (Q12 y37).2.2.1, (Q12 y51).2.2.2.1, ((Q16 y37).1, (Q16 y51).2)) a68 c69 a41 c42 a62 c63 a45 c46 a47 c48 a49 c50).toArray))] _ E ⟨⟨E, V⟩, E⟩ ?_)))))
  obtain ⟨y70, hy71, h⟩ := bindO_some h
  refine JO.call E E E E (ok_s_l21Clip (y51.1, y51.2.1, y66, y51.2.2.2.1, (Q4 y51).1, (Q4 y51).2.1, (Q4 y51).2.2.1, (Q4 y51).2.2.2.1, (Q8 y51).1, x2, (Q8 y37).2.2.1, x61, (Q12 y51).1, ((Q12 y37).2.1.1, (Q12 y51).2.1.2), (Q12 y37).2.2.1, (Q12 y51).2.2.2.1, ((Q16 y37).1, (Q16 y51).2)) a68 c69 y66.1.length E a41 c42 (Q8 y37).2.2.1.length E a62 c63 x61.length E a45 c46 (Q12 y37).2.1.1.length E a47 c48 (Q12 y37).2.2.1.length E a49 c50 (Q16 y37).1.length E _ hy71) E [1, 4, 2, 5, 6, 7] E E fun _ _ => JO.regB ttOk 2 [] [] [(7, .v (.bool true))] (.new 10 46 (cl46 (y70.1, y70.2.1, (y66.1, y70.2.2.1.2), y70.2.2.2.1, (Q4 y70).1, (Q4 y70).2.1, (Q4 y70).2.2.1, (Q4 y70).2.2.2.1, (Q8 y70).1, (Q8 y70).2.1, (Q8 y37).2.2.1, x61, (Q12 y70).1, ((Q12 y37).2.1.1, (Q12 y70).2.1.2), (Q12 y37).2.2.1, (Q12 y70).2.2.2.1, ((Q16 y37).1, (Q16 y70).2)) a68 c69 a41 c42 a62 c63 a45 c46 a47 c48 a49 c50) .nil) E ⟨⟨E, V⟩, (Bs E E)⟩ (JO.done E ?_)
  cases h
  exact JS.ret ttOk (a68, c69, a41, c42, a62, c63, a45, c46, a47, c48, a49, c50) V E E [0, 2, 0, 1, 1, 1] E

def M_s_l23Bell (x0 : EdQ) : Option (EdQ × Int) :=
  (bindO (M_s_l21Copy x0) fun (y26 : EdQ) =>
  (bindO (M_s_l21Idle y26) fun (y40 : EdQ) =>
  some ((y40.1, y40.2.1, (y26.2.2.1.1, y40.2.2.1.2), y40.2.2.2.1, y40.2.2.2.2.1, y40.2.2.2.2.2.1, y40.2.2.2.2.2.2.1, y40.2.2.2.2.2.2.2.1, y40.2.2.2.2.2.2.2.2.1, 0, y26.2.2.2.2.2.2.2.2.2.2.1, y26.2.2.2.2.2.2.2.2.2.2.2.1, y40.2.2.2.2.2.2.2.2.2.2.2.2.1, (y26.2.2.2.2.2.2.2.2.2.2.2.2.2.1.1, y40.2.2.2.2.2.2.2.2.2.2.2.2.2.1.2), y26.2.2.2.2.2.2.2.2.2.2.2.2.2.2.1, y40.2.2.2.2.2.2.2.2.2.2.2.2.2.2.2.1, (y26.2.2.2.2.2.2.2.2.2.2.2.2.2.2.2.2.1, y40.2.2.2.2.2.2.2.2.2.2.2.2.2.2.2.2.2)), 1)))

theorem ok_s_l23Bell (x0 : EdQ) (a2 : Option Addr) (c3 : Nat) (l4 : Nat) (hl5 : x0.2.2.1.1.length = l4) (a6 : Option Addr) (c7 : Nat) (l8 : Nat) (hl9 : (Q8 x0).2.2.1.length = l8) (a10 : Option Addr) (c11 : Nat) (l12 : Nat) (hl13 : (Q8 x0).2.2.2.1.length = l12) (a14 : Option Addr) (c15 : Nat) (l16 : Nat) (hl17 : (Q12 x0).2.1.1.length = l16) (a18 : Option Addr) (c19 : Nat) (l20 : Nat) (hl21 : (Q12 x0).2.2.1.length = l20) (a22 : Option Addr) (c23 : Nat) (l24 : Nat) (hl25 : (Q16 x0).1.length = l24) (r : EdQ × Int) (h : M_s_l23Bell x0 = some r) :
  FC Tryz.prog 112 [.agg #[.bool x0.1, .int .i64 x0.2.1, .slice a2 l4 c3, .int .i64 x0.2.2.1.2, .int .i64 x0.2.2.2.1, .int .i64 (Q4 x0).1, .int .i64 (Q4 x0).2.1, .int .i64 (Q4 x0).2.2.1, .int .i64 (Q4 x0).2.2.2.1, .int .i64 (Q8 x0).1, .int .i64 (Q8 x0).2.1, .slice a6 l8 c7, .slice a10 l12 c11, .int .i64 (Q12 x0).1, .slice a14 l16 c15, .int .i64 (Q12 x0).2.1.2, .slice a18 l20 c19, .int .i64 (Q12 x0).2.2.2.1, .slice a22 l24 c23, .int .i64 (Q16 x0).2]] [⟨(.int .i64), ⟨a2, l4, c3⟩, x0.2.2.1.1⟩, ⟨(.sl (.int .i64)), ⟨a6, l8, c7⟩, (Q8 x0).2.2.1⟩, ⟨(.pair (.sl (.int .i64)) (.int .i64)), ⟨a10, l12, c11⟩, (Q8 x0).2.2.2.1⟩, ⟨(.int .i64), ⟨a14, l16, c15⟩, (Q12 x0).2.1.1⟩, ⟨(.int .i64), ⟨a18, l20, c19⟩, (Q12 x0).2.2.1⟩, ⟨(.int .i64), ⟨a22, l24, c23⟩, (Q16 x0).1⟩] (fun _ : Option Addr × Nat × Option Addr × Nat × Option Addr × Nat × Option Addr × Nat × Option Addr × Nat × Option Addr × Nat => True) (fun q => .tuple #[.agg (cl46 r.1 q.1 q.2.1 q.2.2.1 q.2.2.2.1 (Q4 q).1 (Q4 q).2.1 (Q4 q).2.2.1 (Q4 q).2.2.2.1 (Q8 q).1 (Q8 q).2.1 (Q8 q).2.2.1 (Q8 q).2.2.2).toArray, .int .i64 r.2]) (fun q => (fl32 r.1 q.1 q.2.1 q.2.2.1 q.2.2.2.1 (Q4 q).1 (Q4 q).2.1 (Q4 q).2.2.1 (Q4 q).2.2.2.1 (Q8 q).1 (Q8 q).2.1 (Q8 q).2.2.1 (Q8 q).2.2.2 [])) :=
 by
  subst hl5
  subst hl9
  subst hl13
  subst hl17
  subst hl21
  subst hl25
  refine FC.of (T := TTx) Tryz.call112 Tryz.func112 E E fun w0 => ?_
  unfold M_s_l23Bell at h
  refine JS.rgB ttOk 3 [] [7, 8] [(1, .bp 7 0), (2, .bp 8 0)] (.new 7 46 (cl46 x0 a2 c3 a6 c7 a10 c11 a14 c15 a18 c19 a22 c23) (.new 8 46 cz46 .nil)) ⟨(Es E), (Bs E E)⟩ E E (JS.seq (JS.region (JO.reg ttOk 1 [] [] [(5, .v (.agg (cl46 x0 a2 c3 a6 c7 a10 c11 a14 c15 a18 c19 a22 c23).toArray))] _ E ⟨⟨E, V⟩, E⟩ ?_)))
  obtain ⟨y26, hy27, h⟩ := bindO_some h
  refine JO.call E E E E (ok_s_l21Copy x0 a2 c3 x0.2.2.1.1.length E a6 c7 (Q8 x0).2.2.1.length E a10 c11 (Q8 x0).2.2.2.1.length E a14 c15 (Q12 x0).2.1.1.length E a18 c19 (Q12 x0).2.2.1.length E a22 c23 (Q16 x0).1.length E _ hy27) E [0, 1, 2, 3, 4, 5] E E ?_
  rintro ⟨a28, c29, a30, c31, a32, c33, a34, c35, a36, c37, a38, c39⟩ -
  obtain ⟨y40, hy41, h⟩ := bindO_some h
  refine JO.call E E E E (ok_s_l21Idle y26 a28 c29 y26.2.2.1.1.length E a30 c31 (Q8 y26).2.2.1.length E a32 c33 (Q8 y26).2.2.2.1.length E a34 c35 (Q12 y26).2.1.1.length E a36 c37 (Q12 y26).2.2.1.length E a38 c39 (Q16 y26).1.length E _ hy41) E [6, 7, 8, 9, 10, 11] E E fun _ _ => JO.regB ttOk 2 [] [31] [(4, .bp 31 0)] (.new 8 46 cz46 (.new 31 46 (cl46 (y40.1, y40.2.1, (y26.2.2.1.1, y40.2.2.1.2), y40.2.2.2.1, (Q4 y40).1, (Q4 y40).2.1, (Q4 y40).2.2.1, (Q4 y40).2.2.2.1, (Q8 y40).1, (Q8 y40).2.1, (Q8 y26).2.2.1, (Q8 y26).2.2.2.1, (Q12 y40).1, ((Q12 y26).2.1.1, (Q12 y40).2.1.2), (Q12 y26).2.2.1, (Q12 y40).2.2.2.1, ((Q16 y26).1, (Q16 y40).2)) a28 c29 a30 c31 a32 c33 a34 c35 a36 c37 a38 c39) .nil)) E ⟨⟨E, V⟩, (Bs E E)⟩ (JO.done E (JS.rgB ttOk 2 [] [] [] (.new 8 46 cz46 (.new 31 46 (cl46 (y40.1, y40.2.1, (y26.2.2.1.1, y40.2.2.1.2), y40.2.2.2.1, (Q4 y40).1, (Q4 y40).2.1, (Q4 y40).2.2.1, (Q4 y40).2.2.2.1, (Q8 y40).1, 0, (Q8 y26).2.2.1, (Q8 y26).2.2.2.1, (Q12 y40).1, ((Q12 y26).2.1.1, (Q12 y40).2.1.2), (Q12 y26).2.2.1, (Q12 y40).2.2.2.1, ((Q16 y26).1, (Q16 y40).2)) a28 c29 a30 c31 a32 c33 a34 c35 a36 c37 a38 c39) .nil)) ⟨V, (Bs E E)⟩ E E (JS.rgB ttOk 3 [] [] [(3, .v (I 1))] (.new 8 46 (cl46 (y40.1, y40.2.1, (y26.2.2.1.1, y40.2.2.1.2), y40.2.2.2.1, (Q4 y40).1, (Q4 y40).2.1, (Q4 y40).2.2.1, (Q4 y40).2.2.2.1, (Q8 y40).1, 0, (Q8 y26).2.2.1, (Q8 y26).2.2.2.1, (Q12 y40).1, ((Q12 y26).2.1.1, (Q12 y40).2.1.2), (Q12 y26).2.2.1, (Q12 y40).2.2.2.1, ((Q16 y26).1, (Q16 y40).2)) a28 c29 a30 c31 a32 c33 a34 c35 a36 c37 a38 c39) .nil) ⟨⟨E, V⟩, (Bs E E)⟩ E E ?_)))
  cases h
  exact JS.ret ttOk (a28, c29, a30, c31, a32, c33, a34, c35, a36, c37, a38, c39) V E E [0, 0, 0, 0, 0, 0] E

def M_s_l23Set (x0 : EdQ) (x1 : List Int × Int) (x2 : Bool) (x3 : Int) : Option (EdQ × Int) :=
  (bindO (M_s_EdSet x0 x1 x3) fun (y33, y34) =>
  (bif (bif (!x2) then true else (!y34)) then
  (bindO (M_s_l23Bell x0) fun (y48, y49) =>
  some (y48, y49))
  else
  some (y33, 0)))

theorem ok_s_l23Set (x0 : EdQ) (x1 : List Int × Int) (x2 : Bool) (x3 : Int) (a5 : Option Addr) (c6 : Nat) (l7 : Nat) (hl8 : x0.2.2.1.1.length = l7) (a9 : Option Addr) (c10 : Nat) (l11 : Nat) (hl12 : (Q8 x0).2.2.1.length = l11) (a13 : Option Addr) (c14 : Nat) (l15 : Nat) (hl16 : (Q8 x0).2.2.2.1.length = l15) (a17 : Option Addr) (c18 : Nat) (l19 : Nat) (hl20 : (Q12 x0).2.1.1.length = l19) (a21 : Option Addr) (c22 : Nat) (l23 : Nat) (hl24 : (Q12 x0).2.2.1.length = l23) (a25 : Option Addr) (c26 : Nat) (l27 : Nat) (hl28 : (Q16 x0).1.length = l27) (a29 : Option Addr) (c30 : Nat) (l31 : Nat) (hl32 : x1.1.length = l31) (r : EdQ × Int) (h : M_s_l23Set x0 x1 x2 x3 = some r) :
  FC Tryz.prog 187 [.agg #[.bool x0.1, .int .i64 x0.2.1, .slice a5 l7 c6, .int .i64 x0.2.2.1.2, .int .i64 x0.2.2.2.1, .int .i64 (Q4 x0).1, .int .i64 (Q4 x0).2.1, .int .i64 (Q4 x0).2.2.1, .int .i64 (Q4 x0).2.2.2.1, .int .i64 (Q8 x0).1, .int .i64 (Q8 x0).2.1, .slice a9 l11 c10, .slice a13 l15 c14, .int .i64 (Q12 x0).1, .slice a17 l19 c18, .int .i64 (Q12 x0).2.1.2, .slice a21 l23 c22, .int .i64 (Q12 x0).2.2.2.1, .slice a25 l27 c26, .int .i64 (Q16 x0).2], .agg #[.slice a29 l31 c30, .int .i64 x1.2], .bool x2, .int .i64 x3] [⟨(.int .i64), ⟨a5, l7, c6⟩, x0.2.2.1.1⟩, ⟨(.sl (.int .i64)), ⟨a9, l11, c10⟩, (Q8 x0).2.2.1⟩, ⟨(.pair (.sl (.int .i64)) (.int .i64)), ⟨a13, l15, c14⟩, (Q8 x0).2.2.2.1⟩, ⟨(.int .i64), ⟨a17, l19, c18⟩, (Q12 x0).2.1.1⟩, ⟨(.int .i64), ⟨a21, l23, c22⟩, (Q12 x0).2.2.1⟩, ⟨(.int .i64), ⟨a25, l27, c26⟩, (Q16 x0).1⟩, ⟨(.int .i64), ⟨a29, l31, c30⟩, x1.1⟩] (fun _ : Option Addr × Nat × Option Addr × Nat × Option Addr × Nat × Option Addr × Nat × Option Addr × Nat × Option Addr × Nat => True) (fun q => .tuple #[.agg (cl46 r.1 q.1 q.2.1 q.2.2.1 q.2.2.2.1 (Q4 q).1 (Q4 q).2.1 (Q4 q).2.2.1 (Q4 q).2.2.2.1 (Q8 q).1 (Q8 q).2.1 (Q8 q).2.2.1 (Q8 q).2.2.2).toArray, .int .i64 r.2]) (fun q => (fl32 r.1 q.1 q.2.1 q.2.2.1 q.2.2.2.1 (Q4 q).1 (Q4 q).2.1 (Q4 q).2.2.1 (Q4 q).2.2.2.1 (Q8 q).1 (Q8 q).2.1 (Q8 q).2.2.1 (Q8 q).2.2.2 [])) :=
 by
  subst hl8
  subst hl12
  subst hl16
  subst hl20
  subst hl24
  subst hl28
  subst hl32
  refine FC.of (T := TTx) Tryz.call187 Tryz.func187 E E fun w0 => ?_
  unfold M_s_l23Set at h
  refine JS.rgB ttOk 4 [] [8, 9, 10] [(4, .bp 8 0), (5, .bp 9 0), (8, .bp 10 0)] (.new 8 46 (cl46 x0 a5 c6 a9 c10 a13 c14 a17 c18 a21 c22 a25 c26) (.new 9 38 [.slice a29 x1.1.length c30, .int .i64 x1.2] (.new 10 46 cz46 .nil))) ⟨(Es E), (Bs E E)⟩ E E (JS.seq (JS.region (JO.reg ttOk 3 [] [] [(13, .v (.agg (cl46 x0 a5 c6 a9 c10 a13 c14 a17 c18 a21 c22 a25 c26).toArray)), (14, .v (.agg #[.slice a29 x1.1.length c30, .int .i64 x1.2])), (15, .v (I x3))] _ E ⟨(Es E), E⟩ ?_)))
  obtain ⟨⟨y33, y34⟩, hy35, h⟩ := bindO_some h
  refine JO.call E E E E (ok_s_EdSet x0 x1 x3 a5 c6 x0.2.2.1.1.length E a9 c10 (Q8 x0).2.2.1.length E a13 c14 (Q8 x0).2.2.2.1.length E a17 c18 (Q12 x0).2.1.1.length E a21 c22 (Q12 x0).2.2.1.length E a25 c26 (Q16 x0).1.length E a29 c30 x1.1.length E _ hy35) E [0, 1, 2, 3, 4, 5, 6] E E ?_
  rintro ⟨a36, c37, a38, c39, a40, c41, a42, c43, a44, c45, a46, c47⟩ -
  refine JO.regB ttOk 6 [] [32] [(10, .bp 32 0), (11, .v (.bool y34))] (.new 8 46 (cl46 x0 a5 c6 a9 c10 a13 c14 a17 c18 a21 c22 a25 c26) (.new 10 46 cz46 (.new 32 46 (cl46 y33 a36 c37 a38 c39 a40 c41 a42 c43 a44 c45 a46 c47) .nil))) E ⟨(Es E), (Bs E E)⟩ (JO.done E (JS.seq (JS.rg0 ttOk 6 [(24, .v (.bool (bif (!x2) then true else (!y34))))] ⟨⟨E, V⟩, E⟩ E E ?_)))
  refine JS.cond E (fun ht64 => ?_) (fun ht64 => ?_)
  ·
   have h := condT h ht64
   refine JS.seq (JS.region (JO.reg ttOk 1 [] [] [(25, .v (.agg (cl46 x0 a5 c6 a9 c10 a13 c14 a17 c18 a21 c22 a25 c26).toArray))] _ E ⟨⟨E, V⟩, E⟩ ?_))
   obtain ⟨⟨y48, y49⟩, hy50, h⟩ := bindO_some h
   refine JO.call E E E E (ok_s_l23Bell x0 a5 c6 x0.2.2.1.1.length E a9 c10 (Q8 x0).2.2.1.length E a13 c14 (Q8 x0).2.2.2.1.length E a17 c18 (Q12 x0).2.1.1.length E a21 c22 (Q12 x0).2.2.1.length E a25 c26 (Q16 x0).1.length E _ hy50) E [0, 1, 2, 3, 4, 5] E E ?_
   rintro ⟨a51, c52, a53, c54, a55, c56, a57, c58, a59, c60, a61, c62⟩ -
   refine JO.regB ttOk 4 [] [] [(9, .v (I y49))] (.new 10 46 (cl46 y48 a51 c52 a53 c54 a55 c56 a57 c58 a59 c60 a61 c62) .nil) E ⟨⟨E, V⟩, (Bs E E)⟩ (JO.done E ?_)
   cases h
   exact JS.ret ttOk (a51, c52, a53, c54, a55, c56, a57, c58, a59, c60, a61, c62) V E E [0, 0, 0, 0, 0, 0] E
  have h := condF h ht64
  refine JS.skip (JS.rgB ttOk 3 [] [] [(9, .v (I 0))] (.new 10 46 (cl46 y33 a36 c37 a38 c39 a40 c41 a42 c43 a44 c45 a46 c47) .nil) ⟨⟨E, V⟩, (Bs E E)⟩ E E ?_)
  cases h
  exact JS.ret ttOk (a36, c37, a38, c39, a40, c41, a42, c43, a44, c45, a46, c47) V E E [0, 0, 0, 0, 0, 0] E

def M_s_RingPut (x0 : List (List Int)) (x1 : List Int) (x2 : Int) : Option (List (List Int) × Bool) :=
  (bindO (M_s_RingOk x0) fun (y12 : Bool) =>
  (callO ((bif (bif (!y12) then true else (decide (x2 < 0))) then true else (decide (2 < x2))) = false) (M_s_l15Piece x1) false fun (y14 : Bool) =>
  (bif (bif (bif (bif (!y12) then true else (decide (x2 < 0))) then true else (decide (2 < x2))) then true else (!y14)) then
  some ([], false)
  else
  (bindO (M_s_l15Copy x0) fun (y17 : List (List Int)) =>
  (bif (decide ((x1.length : Int) = 0)) then
  some (y17, true)
  else
  (guardO (((bif (!(decide (x2 = 0))) then (decide (0 < (x0.length : Int))) else false) = true) → 0 ≤ (0 : Int) ∧ 0 < (x0.length : Int)) <|
  (bif (bif (bif (!(decide (x2 = 0))) then (decide (0 < (x0.length : Int))) else false) then (decide ((W (((at' x0 0).length : Int) + (x1.length : Int))) ≤ 400)) else false) then
  (guardO (0 ≤ (0 : Int) ∧ 0 < (x0.length : Int)) <|
  (bindO (M_s_l13Join (at' x0 0) x1 ([] : List Int)) fun (y33 : List Int) =>
  (joinO (fun (x43 : List Int) =>
  (guardO (0 ≤ (0 : Int) ∧ 0 < (y17.length : Int)) <|
  some ((List.set y17 (Int.toNat 0) x43), true))) fun j46 =>
  (bif (decide (x2 = 2)) then
  (guardO (0 ≤ (0 : Int) ∧ 0 < (x0.length : Int)) <|
  (bindO (M_s_l13Join x1 (at' x0 0) ([] : List Int)) fun (y38 : List Int) =>
  j46 y38))
  else
  j46 y33))))
  else
  (guardO (([] : List Int).length + x1.length ≤ 536870912) <|
  (guardO (([(([] : List Int) ++ x1)] : List (List Int)).length + y17.length ≤ 536870912) <|
  (joinO (fun (x64 : List (List Int)) =>
  some (x64, true)) fun j67 =>
  (bif (decide (6 < ((([(([] : List Int) ++ x1)] : List (List Int)) ++ y17).length : Int))) then
  (guardO (0 ≤ (0 : Int) ∧ (0 : Int) ≤ (6 : Int) ∧ (6 : Int) ≤ ((([(([] : List Int) ++ x1)] : List (List Int)) ++ y17).length : Int)) <|
  j67 (sub' (([(([] : List Int) ++ x1)] : List (List Int)) ++ y17) 0 (6 : Int)))
  else
  j67 (([(([] : List Int) ++ x1)] : List (List Int)) ++ y17))))))))))))

theorem ok_s_RingPut (x0 : List (List Int)) (x1 : List Int) (x2 : Int) (a4 : Option Addr) (c5 : Nat) (l6 : Nat) (hl7 : x0.length = l6) (a8 : Option Addr) (c9 : Nat) (l10 : Nat) (hl11 : x1.length = l10) (r : List (List Int) × Bool) (h : M_s_RingPut x0 x1 x2 = some r) :
  FC Tryz.prog 174 [.agg #[.slice a4 l6 c5], .slice a8 l10 c9, .int .i64 x2] [⟨(.sl (.int .i64)), ⟨a4, l6, c5⟩, x0⟩, ⟨(.int .i64), ⟨a8, l10, c9⟩, x1⟩] (fun _ : Option Addr × Nat => True) (fun q => .tuple #[.agg #[.slice q.1 r.1.length q.2], .bool r.2]) (fun q => [⟨(.sl (.int .i64)), ⟨q.1, r.1.length, q.2⟩, r.1⟩]) :=
 by
  subst hl7
  subst hl11
  refine FC.of (T := TTx) Tryz.call174 Tryz.func174 E E fun w0 => ?_
  unfold M_s_RingPut at h
  refine JS.rgB ttOk 3 [] [3, 4] [(3, .bp 3 0), (6, .bp 4 0)] (.new 3 41 [.slice a4 x0.length c5] (.new 4 41 [.slice none 0 0] .nil)) ⟨(Es E), (Bs E E)⟩ E E (JS.seq (JS.seq (JS.region (JO.reg ttOk 1 [] [] [(11, .v (.agg #[.slice a4 x0.length c5]))] _ E ⟨⟨E, V⟩, E⟩ ?_))))
  obtain ⟨y12, hy13, h⟩ := bindO_some h
  refine JO.call E E E E (ok_s_RingOk x0 a4 c5 x0.length E _ hy13) E [0] E E fun _ _ => JO.reg ttOk 11 [] [] [(22, .v (.bool (bif (bif (!y12) then true else (decide (x2 < 0))) then true else (decide (2 < x2))))), (23, .cd [(22, false)] (.v (.slice a8 x1.length c9)))] _ E ⟨(Es E), E⟩ ?_
  obtain ⟨y14, hy15, -, h⟩ := callO_some h
  refine JO.callg E E E E (fun q73 => ok_s_l15Piece x1 a8 c9 x1.length E _ (hy15 q73)) E [1] E E (JO.reg ttOk 2 [] [] [(26, .v (.bool (bif (bif (bif (!y12) then true else (decide (x2 < 0))) then true else (decide (2 < x2))) then true else (!y14))))] _ E ⟨⟨E, V⟩, E⟩ (JO.done E ?_))
  refine JS.cond E (fun ht86 => ?_) (fun ht86 => ?_)
  ·
   have h := condT h ht86
   refine JS.rgB ttOk 3 [] [] [(7, .v (.bool false))] (.new 4 41 [.slice none 0 0] .nil) ⟨⟨E, V⟩, (Bs E E)⟩ E E ?_
   cases h
   refine JS.nilO (.sl (.int .i64)) Sl.nil E E (JS.ret ttOk (none, 0) V E E [0] E)
  have h := condF h ht86
  refine JS.skip (JS.seq (JS.region (JO.reg ttOk 1 [] [] [(28, .v (.agg #[.slice a4 x0.length c5]))] _ E ⟨⟨E, V⟩, E⟩ ?_)))
  obtain ⟨y17, hy18, h⟩ := bindO_some h
  refine JO.call E E E E (ok_s_l15Copy x0 a4 c5 x0.length E _ hy18) E [0] E E ?_
  rintro ⟨a19, c20⟩ -
  refine JO.regB ttOk 2 [] [14] [(8, .bp 14 0)] (.new 3 41 [.slice a4 x0.length c5] (.new 4 41 [.slice none 0 0] (.new 14 41 [.slice a19 y17.length c20] .nil))) E ⟨⟨E, V⟩, (Bs E E)⟩ (JO.done E (JS.seq (JS.rg0 ttOk 3 [(32, .v (.bool (decide ((x1.length : Int) = 0))))] ⟨⟨E, V⟩, E⟩ E E ?_)))
  refine JS.cond E (fun ht85 => ?_) (fun ht85 => ?_)
  ·
   have h := condT h ht85
   refine JS.rgB ttOk 3 [] [] [(7, .v (.bool true))] (.new 4 41 [.slice a19 y17.length c20] .nil) ⟨⟨E, V⟩, (Bs E E)⟩ E E ?_
   cases h
   exact JS.ret ttOk (a19, c20) V E E [0] E
  have h := condF h ht85
  refine JS.skip (JS.seq (JS.seq (JS.region (JO.know 0 E fun hs74 => ?_))))
  obtain ⟨g22, h⟩ := guardO_some h
  refine JO.reg ttOk 13 [] [] [(42, .v (.bool (bif (!(decide (x2 = 0))) then (decide (0 < (x0.length : Int))) else false))), (46, .cd [(42, true)] (.ep ⟨a4, x0.length, c5⟩ (Int.toNat 0 * 1)))] _ E ⟨(fun q75 => hs74.ix (g22 q75)), (fun q76 => hs74.fa (g22 q76)), (Es E), E⟩ (JO.openR 0 E (Int.toNat 0) (at' x0 0) E fun a25 c26 ys27 hl28 hy29 => JO.loadV ttOk E E E E E E 0 E E (Int.toNat 0) 0 (Sl.v ⟨a25, (at' x0 0).length, c26⟩) (fun q77 => ⟨hy29 (ltNat (g22 q77)), E⟩) E E E (JO.reg ttOk 6 [(W (((at' x0 0).length : Int) + (x1.length : Int)))] [] [(53, .v (.bool (bif (bif (!(decide (x2 = 0))) then (decide (0 < (x0.length : Int))) else false) then (decide ((W (((at' x0 0).length : Int) + (x1.length : Int))) ≤ 400)) else false)))] _ E ⟨(fun q78 => ⟨V, E⟩), ⟨E, V⟩, E⟩ (JO.done E ?_)))
  refine JS.cond E (fun ht84 => ?_) (fun ht84 => ?_)
  ·
   have h := condT h ht84
   refine JS.seq (JS.region ?_)
   obtain ⟨g32, h⟩ := guardO_some h
   refine JO.reg ttOk 4 [] [] [(57, .ep ⟨a4, x0.length, c5⟩ (Int.toNat 0 * 1))] _ E ⟨hs74.ix g32, hs74.fa g32, ⟨E, V⟩, E⟩ (JO.loadV ttOk E E E E E E 0 E E (Int.toNat 0) 0 (Sl.v ⟨a25, (at' x0 0).length, c26⟩) ⟨hy29 (ltNat g32), E⟩ E E E (JO.reg ttOk 1 [] [] [(59, .v (.slice a8 x1.length c9))] _ E ⟨⟨E, V⟩, E⟩ ?_))
   obtain ⟨y33, hy34, h⟩ := bindO_some h
   refine JO.nilR (.int .i64) Sl.nil E E (JO.call E E E E (ok_s_l13Join (at' x0 0) x1 ([] : List Int) a25 c26 ((at' x0 0).length) E a8 c9 x1.length E none 0 (([] : List Int).length) E _ hy34) E [2, 4, 0] E E ?_)
   rintro ⟨a35, c36⟩ -
   refine JO.reg ttOk 1 [] [] [(9, .v (.slice a35 y33.length c36))] _ E ⟨⟨E, V⟩, E⟩ (JO.done E ?_)
   obtain ⟨j46, hj81, h⟩ := joinO_some h
   refine JS.seqJ (ι := List Int × Option Addr × Nat) ⟨fun z => j46 z.1 = some r, fun z => [(6, .bp 4 0), (8, .bp 14 0), (9, .v (.slice z.2.1 z.1.length z.2.2))], fun z => (.new 4 41 [.slice none 0 0] (.new 14 41 [.slice a19 y17.length c20] .nil)), fun z => [], fun z => [⟨(.int .i64), ⟨z.2.1, z.1.length, z.2.2⟩, z.1⟩, ⟨(.sl (.int .i64)), ⟨a19, y17.length, c20⟩, y17⟩], fun z => 0⟩ ?_ ?_
   ·
    refine JS.rg0 ttOk 2 [(62, .v (.bool (decide (x2 = 2))))] ⟨⟨E, V⟩, E⟩ E E ?_
    refine JS.cond E (fun ht79 => ?_) (fun ht79 => ?_)
    ·
     have h := condT h ht79
     refine JS.region ?_
     obtain ⟨g37, h⟩ := guardO_some h
     refine JO.reg ttOk 5 [] [] [(63, .v (.slice a8 x1.length c9)), (67, .ep ⟨a4, x0.length, c5⟩ (Int.toNat 0 * 1))] _ E ⟨hs74.ix g37, hs74.fa g37, (Es E), E⟩ (JO.loadV ttOk E E E E E E 1 E E (Int.toNat 0) 0 (Sl.v ⟨a25, (at' x0 0).length, c26⟩) ⟨hy29 (ltNat g37), E⟩ E E E ?_)
     obtain ⟨y38, hy39, h⟩ := bindO_some h
     refine JO.nilR (.int .i64) Sl.nil E E (JO.call E E E E (ok_s_l13Join x1 (at' x0 0) ([] : List Int) a8 c9 x1.length E a25 c26 ((at' x0 0).length) E none 0 (([] : List Int).length) E _ hy39) E [5, 3, 0] E E ?_)
     rintro ⟨a40, c41⟩ -
     refine JO.reg ttOk 1 [] [] [(9, .v (.slice a40 y38.length c41))] _ E ⟨⟨E, V⟩, E⟩ (JO.done E (JS.endJ (y38, a40, c41) h (Es E) (Bs E E) [] E [0, 1] E))
    have h := condF h ht79
    refine JS.skip (JS.endJ (y33, a35, c36) h (Es E) (Bs E E) [] E [0, 0] E)
   rintro ⟨x43, a44, c45⟩ h
   subst hj81
   refine JS.seq (JS.region (JO.know 1 E fun hs80 => ?_))
   obtain ⟨g49, h⟩ := guardO_some h
   refine JO.reg ttOk 5 [] [] [(73, .v (.agg #[.slice a44 x43.length c45])), (74, .ep ⟨a19, y17.length, c20⟩ (Int.toNat 0 * 1))] _ E ⟨hs80.ix g49, (Es E), E⟩ (JO.storeE ttOk E E E E E E E E E [1, 0] (fs := [⟨(.int .i64), ⟨a44, x43.length, c45⟩, x43⟩]) E (Int.toNat 0) 0 (at' y17 0) x43 ⟨at_some g49, E⟩ ⟨E, E, E, E⟩ (JO.done E (JS.rgB ttOk 3 [] [] [(7, .v (.bool true))] (.new 4 41 [.slice a19 y17.length c20] .nil) ⟨⟨E, V⟩, (Bs E E)⟩ E E ?_)))
   cases h
   exact JS.ret ttOk (a19, c20) V E (by simp only [List.length_set, List.length_replicate, pickO, getF, cl32, cl46]; rfl) [0] (by simp only [List.length_set, List.length_replicate, pickO, getF, cl32, cl46]; rfl)
  have h := condF h ht84
  refine JS.skip (JS.seq ?_)
  obtain ⟨g52, h⟩ := guardO_some h
  obtain ⟨g56, h⟩ := guardO_some h
  refine JS.regionA E (.new 14 41 [.slice a19 y17.length c20] .nil) [] [7, 8] ⟨E, E, E, E, V⟩ E (fun be59 => ?_)
  refine JA.reg ttOk panic_cx true 6 [1, 5, 6] E (by kernel_rfl) [] [(77, .v (.slice a8 x1.length c9)), (82, .v (.slice a19 y17.length c20))] ⟨E, E, E, E, V⟩ [] E E (Es E) (JA.one 0 (by kernel_rfl) (JK.buildSlice ttOk E E E E E E E E E E E [] E (.int .i64) [] ⟨E, E⟩ E E fun a51 => JA.next ⟨E, E, E, E, V⟩ [] E (JA.one 2 (by kernel_rfl) (JK.appendR' ttOk E E E E ⟨E, E, E, E, V, E, E, E, E⟩ E E E [0] E 3 E g52 E fun a53 c54 => JA.next ⟨E, E, E, E, V⟩ [] E (JA.reg ttOk panic_cx true 3 [3] E (by kernel_rfl) [] [(79, .v (.agg #[.slice a53 (([] : List Int) ++ x1).length c54]))] ⟨E, E, E, E, V⟩ [] E E ⟨E, V⟩ (JA.one 4 (by kernel_rfl) (JK.buildSlice ttOk E E E E E E E E E E E [0] E (.sl (.int .i64)) [(([] : List Int) ++ x1)] ⟨E, E, E⟩ E E fun a55 => JA.next ⟨E, E, E, E, V⟩ [] E (JA.one 7 (by kernel_rfl) (JK.appendO' ttOk E E E E ⟨E, E, E, E, V, E, E, E, E⟩ E E [0, 0] E g56 E fun a57 c58 => JA.nextL E (JA.regL ttOk panic_cx 0 [8] E (by kernel_rfl) [] [(10, .v (.slice a57 (([(([] : List Int) ++ x1)] : List (List Int)) ++ y17).length c58))] E ⟨E, V⟩ (JA.done (by kernel_rfl) (JS.boxes (B' := (.new 4 41 [.slice none 0 0] .nil)) (Bs E E) ?_))))))))))))
  obtain ⟨j67, hj83, h⟩ := joinO_some h
  refine JS.seqJ (ι := List (List Int) × Option Addr × Nat) ⟨fun z => j67 z.1 = some r, fun z => [(6, .bp 4 0), (10, .v (.slice z.2.1 z.1.length z.2.2))], fun z => (.new 4 41 [.slice none 0 0] .nil), fun z => [], fun z => [⟨(.sl (.int .i64)), ⟨z.2.1, z.1.length, z.2.2⟩, z.1⟩], fun z => 0⟩ ?_ ?_
  ·
   refine JS.rg0 ttOk 3 [(86, .v (.bool (decide (6 < ((([(([] : List Int) ++ x1)] : List (List Int)) ++ y17).length : Int)))))] ⟨⟨E, V⟩, E⟩ E E ?_
   refine JS.cond E (fun ht82 => ?_) (fun ht82 => ?_)
   ·
    have h := condT h ht82
    refine JS.region (JO.reg ttOk 1 [] [] [(87, .v (.slice a57 (([(([] : List Int) ++ x1)] : List (List Int)) ++ y17).length c58))] _ E ⟨⟨E, V⟩, E⟩ ?_)
    obtain ⟨g60, h⟩ := guardO_some h
    refine JO.sliceO' ttOk E E E E E E E E [0] E (0 : Int) (6 : Int) E E g60 E fun a61 c62 => JO.reg ttOk 1 [] [] [(10, .v (.slice a61 (sub' (([(([] : List Int) ++ x1)] : List (List Int)) ++ y17) 0 (6 : Int)).length c62))] _ E ⟨⟨E, V⟩, E⟩ (JO.done E (JS.endJ ((sub' (([(([] : List Int) ++ x1)] : List (List Int)) ++ y17) 0 (6 : Int)), a61, c62) h (Es E) (Bs E E) [] E [0] E))
   have h := condF h ht82
   refine JS.skip (JS.endJ ((([(([] : List Int) ++ x1)] : List (List Int)) ++ y17), a57, c58) h (Es E) (Bs E E) [] E [0] E)
  rintro ⟨x64, a65, c66⟩ h
  subst hj83
  refine JS.rgB ttOk 4 [] [] [(7, .v (.bool true))] (.new 4 41 [.slice a65 x64.length c66] .nil) ⟨⟨E, V⟩, (Bs E E)⟩ E E ?_
  cases h
  exact JS.ret ttOk (a65, c66) V E E [0] E

def M_s_l23Kill (x0 : EdQ) (x1 : Int) (x2 : Int) (x3 : Int) : Option (EdQ × Int) :=
  (joinO (fun ((x42, x45, x46, x49) : List Int × Bool × List Int × Int) =>
  (joinO (fun (x52 : Int) =>
  (bindO (M_s_l23Set x0 (x46, x49) (bif x45 then (decide ((x46.length : Int) < (x0.2.2.1.1.length : Int))) else false) 2) fun (y55, y56) =>
  (joinO (fun (x76 : List (List Int)) =>
  some ((y55.1, y55.2.1, y55.2.2.1, y55.2.2.2.1, y55.2.2.2.2.1, y55.2.2.2.2.2.1, y55.2.2.2.2.2.2.1, y55.2.2.2.2.2.2.2.1, y55.2.2.2.2.2.2.2.2.1, y55.2.2.2.2.2.2.2.2.2.1, x76, y55.2.2.2.2.2.2.2.2.2.2.2.1, y55.2.2.2.2.2.2.2.2.2.2.2.2.1, y55.2.2.2.2.2.2.2.2.2.2.2.2.2.1, y55.2.2.2.2.2.2.2.2.2.2.2.2.2.2.1, y55.2.2.2.2.2.2.2.2.2.2.2.2.2.2.2.1, y55.2.2.2.2.2.2.2.2.2.2.2.2.2.2.2.2), y56)) fun j79 =>
  (bif (decide (y56 = 0)) then
  (bindO (M_s_RingPut x0.2.2.2.2.2.2.2.2.2.2.1 x42 x52) fun (y70, y71) =>
  j79 y70)
  else
  j79 y55.2.2.2.2.2.2.2.2.2.2.1)))) fun j53 =>
  (bif (!(decide (x0.2.2.2.2.2.2.2.2.2.1 = 2))) then
  j53 0
  else
  j53 x3))) fun j50 =>
  (bindO (M_s_l08Clamp x1 (x0.2.2.1.1.length : Int)) fun (y29 : Int) =>
  (bindO (M_s_l08Clamp x2 (x0.2.2.1.1.length : Int)) fun (y31 : Int) =>
  (bindO (M_s_LineCut x0.2.2.1 y29 y31) fun (y33, y34, y35) =>
  j50 (y34, y35, y33.1, y33.2)))))

theorem ok_s_l23Kill (x0 : EdQ) (x1 : Int) (x2 : Int) (x3 : Int) (a5 : Option Addr) (c6 : Nat) (l7 : Nat) (hl8 : x0.2.2.1.1.length = l7) (a9 : Option Addr) (c10 : Nat) (l11 : Nat) (hl12 : (Q8 x0).2.2.1.length = l11) (a13 : Option Addr) (c14 : Nat) (l15 : Nat) (hl16 : (Q8 x0).2.2.2.1.length = l15) (a17 : Option Addr) (c18 : Nat) (l19 : Nat) (hl20 : (Q12 x0).2.1.1.length = l19) (a21 : Option Addr) (c22 : Nat) (l23 : Nat) (hl24 : (Q12 x0).2.2.1.length = l23) (a25 : Option Addr) (c26 : Nat) (l27 : Nat) (hl28 : (Q16 x0).1.length = l27) (r : EdQ × Int) (h : M_s_l23Kill x0 x1 x2 x3 = some r) :
  FC Tryz.prog 108 [.agg #[.bool x0.1, .int .i64 x0.2.1, .slice a5 l7 c6, .int .i64 x0.2.2.1.2, .int .i64 x0.2.2.2.1, .int .i64 (Q4 x0).1, .int .i64 (Q4 x0).2.1, .int .i64 (Q4 x0).2.2.1, .int .i64 (Q4 x0).2.2.2.1, .int .i64 (Q8 x0).1, .int .i64 (Q8 x0).2.1, .slice a9 l11 c10, .slice a13 l15 c14, .int .i64 (Q12 x0).1, .slice a17 l19 c18, .int .i64 (Q12 x0).2.1.2, .slice a21 l23 c22, .int .i64 (Q12 x0).2.2.2.1, .slice a25 l27 c26, .int .i64 (Q16 x0).2], .int .i64 x1, .int .i64 x2, .int .i64 x3] [⟨(.int .i64), ⟨a5, l7, c6⟩, x0.2.2.1.1⟩, ⟨(.sl (.int .i64)), ⟨a9, l11, c10⟩, (Q8 x0).2.2.1⟩, ⟨(.pair (.sl (.int .i64)) (.int .i64)), ⟨a13, l15, c14⟩, (Q8 x0).2.2.2.1⟩, ⟨(.int .i64), ⟨a17, l19, c18⟩, (Q12 x0).2.1.1⟩, ⟨(.int .i64), ⟨a21, l23, c22⟩, (Q12 x0).2.2.1⟩, ⟨(.int .i64), ⟨a25, l27, c26⟩, (Q16 x0).1⟩] (fun _ : Option Addr × Nat × Option Addr × Nat × Option Addr × Nat × Option Addr × Nat × Option Addr × Nat × Option Addr × Nat => True) (fun q => .tuple #[.agg (cl46 r.1 q.1 q.2.1 q.2.2.1 q.2.2.2.1 (Q4 q).1 (Q4 q).2.1 (Q4 q).2.2.1 (Q4 q).2.2.2.1 (Q8 q).1 (Q8 q).2.1 (Q8 q).2.2.1 (Q8 q).2.2.2).toArray, .int .i64 r.2]) (fun q => (fl32 r.1 q.1 q.2.1 q.2.2.1 q.2.2.2.1 (Q4 q).1 (Q4 q).2.1 (Q4 q).2.2.1 (Q4 q).2.2.2.1 (Q8 q).1 (Q8 q).2.1 (Q8 q).2.2.1 (Q8 q).2.2.2 [])) :=
 by
  subst hl8
  subst hl12
  subst hl16
  subst hl20
  subst hl24
  subst hl28
  refine FC.of (T := TTx) Tryz.call108 Tryz.func108 E E fun w0 => ?_
  unfold M_s_l23Kill at h
  refine JS.rgB ttOk 3 [] [7, 8] [(4, .bp 7 0), (8, .bp 8 0)] (.new 7 46 (cl46 x0 a5 c6 a9 c10 a13 c14 a17 c18 a21 c22 a25 c26) (.new 8 46 cz46 .nil)) ⟨(Es E), (Bs E E)⟩ E E (JS.rg0 ttOk 5 [(10, .v (I (x0.2.2.1.1.length : Int)))] ⟨⟨E, V⟩, E⟩ E E (JS.seq ?_))
  obtain ⟨j50, hj88, h⟩ := joinO_some h
  refine JS.cutJ (ι := List Int × Bool × List Int × Int × Option Addr × Nat × Option Addr × Nat) ⟨fun z => j50 (z.1, z.2.1, z.2.2.1, z.2.2.2.1) = some r, fun z => [(3, .v (I x3)), (4, .bp 7 0), (8, .bp 8 0), (10, .v (I (x0.2.2.1.1.length : Int))), (11, .bp 23 0), (12, .v (.slice (Q4 z).1 z.1.length (Q4 z).2.1)), (13, .v (.bool z.2.1))], fun z => (.new 7 46 (cl46 x0 a5 c6 a9 c10 a13 c14 a17 c18 a21 c22 a25 c26) (.new 8 46 cz46 (.new 23 38 [.slice (Q4 z).2.2.1 z.2.2.1.length (Q4 z).2.2.2, .int .i64 z.2.2.2.1] .nil))), fun z => (fl32 x0 a5 c6 a9 c10 a13 c14 a17 c18 a21 c22 a25 c26 []), fun z => [⟨(.int .i64), ⟨(Q4 z).1, z.1.length, (Q4 z).2.1⟩, z.1⟩, ⟨(.int .i64), ⟨(Q4 z).2.2.1, z.2.2.1.length, (Q4 z).2.2.2⟩, z.2.2.1⟩], fun z => 0⟩ ?_ ?_
  ·
   obtain ⟨y29, hy30, h⟩ := bindO_some h
   obtain ⟨y31, hy32, h⟩ := bindO_some h
   obtain ⟨⟨y33, y34, y35⟩, hy36, h⟩ := bindO_some h
   refine JS.regionA E (.new 7 46 (cl46 x0 a5 c6 a9 c10 a13 c14 a17 c18 a21 c22 a25 c26) .nil) [] [8, 9, 10, 11, 12, 14, 15, 16] ⟨E, E, E, E, V⟩ E (fun be41 => ?_)
   refine JA.reg ttOk panic_cx true 11 [0, 1, 2, 3, 5, 6] E (by kernel_rfl) [] [(22, .v (.agg #[.slice a5 x0.2.2.1.1.length c6, .int .i64 x0.2.2.1.2])), (23, .v (I x1)), (24, .v (I (x0.2.2.1.1.length : Int))), (26, .v (I x2)), (27, .v (I (x0.2.2.1.1.length : Int)))] ⟨E, E, E, E, V⟩ [] E E (Es E) ?_
   refine JA.all (rs := [4, 13]) (by kernel_rfl) E (List.forall_mem_cons.2 ⟨?_, List.forall_mem_cons.2 ⟨?_, (fun _ hx => absurd hx List.not_mem_nil)⟩⟩)
   ·
    refine JK.call E E E E (ok_s_l08Clamp x1 (x0.2.2.1.1.length : Int) _ hy30) E [] E E fun _ _ => JA.next ⟨E, E, E, E, V⟩ [] E ?_
    refine JA.all (rs := [7, 13]) (by kernel_rfl) E (List.forall_mem_cons.2 ⟨?_, List.forall_mem_cons.2 ⟨?_, (fun _ hx => absurd hx List.not_mem_nil)⟩⟩)
    ·
     refine JK.call E E E E (ok_s_l08Clamp x2 (x0.2.2.1.1.length : Int) _ hy32) E [] E E fun _ _ => JA.next ⟨E, E, E, E, V⟩ [] E ?_
     refine JA.all (rs := [8, 13]) (by kernel_rfl) E (List.forall_mem_cons.2 ⟨?_, List.forall_mem_cons.2 ⟨?_, (fun _ hx => absurd hx List.not_mem_nil)⟩⟩)
     ·
      refine JK.call E E E E (ok_s_LineCut x0.2.2.1 y29 y31 a5 c6 x0.2.2.1.1.length E _ hy36) E [0] E E ?_
      rintro ⟨a37, c38, a39, c40⟩ -
      refine JA.nextL E (JA.regL ttOk panic_cx 4 [9, 10, 11, 12] E (by kernel_rfl) [] [(30, .v (.agg #[.slice a37 y33.1.length c38, .int .i64 y33.2])), (31, .v (.slice a39 y34.length c40)), (32, .v (.bool y35))] E (Es E) (JA.one 13 (by kernel_rfl) (JK.alloc ttOk E E E E E 23 E (sd_upd _ E) (JA.next ⟨E, E, E, E, V⟩ [] E (JA.one 14 (by kernel_rfl) (JK.stBox ttOk E E E E E E E E (JA.nextL E (JA.regL ttOk panic_cx 0 [15, 16] E (by kernel_rfl) [] [(12, .v (.slice a39 y34.length c40)), (13, .v (.bool y35))] E (Es E) (JA.done (by kernel_rfl) (JS.boxes (B' := (.new 7 46 (cl46 x0 a5 c6 a9 c10 a13 c14 a17 c18 a21 c22 a25 c26) (.new 8 46 cz46 (.new 23 38 [.slice a37 y33.1.length c38, .int .i64 y33.2] .nil)))) (Bs E E) (JS.endJ (y34, y35, y33.1, y33.2, a39, c40, a37, c38) h (Es E) (Bs E E) [0, 1, 2, 3, 4, 5] E [1, 0] E)))))))))))
     refine JK.alloc ttOk E E E E E 23 E (sd_upd _ E) (JA.next ⟨E, E, E, E, V⟩ [] E (JA.one 8 (by kernel_rfl) (JK.call E E E E (ok_s_LineCut x0.2.2.1 y29 y31 a5 c6 x0.2.2.1.1.length E _ hy36) E [0] E E ?_)))
     rintro ⟨a37, c38, a39, c40⟩ -
     refine JA.nextL E (JA.regL ttOk panic_cx 3 [9, 10, 11, 12] E (by kernel_rfl) [] [(30, .v (.agg #[.slice a37 y33.1.length c38, .int .i64 y33.2])), (31, .v (.slice a39 y34.length c40)), (32, .v (.bool y35))] E (Es E) (JA.one 14 (by kernel_rfl) (JK.stBox ttOk E E E E E E E E (JA.nextL E (JA.regL ttOk panic_cx 0 [15, 16] E (by kernel_rfl) [] [(12, .v (.slice a39 y34.length c40)), (13, .v (.bool y35))] E (Es E) (JA.done (by kernel_rfl) (JS.boxes (B' := (.new 7 46 (cl46 x0 a5 c6 a9 c10 a13 c14 a17 c18 a21 c22 a25 c26) (.new 8 46 cz46 (.new 23 38 [.slice a37 y33.1.length c38, .int .i64 y33.2] .nil)))) (Bs E E) (JS.endJ (y34, y35, y33.1, y33.2, a39, c40, a37, c38) h (Es E) (Bs E E) [0, 1, 2, 3, 4, 5] E [1, 0] E))))))))
    refine JK.alloc ttOk E E E E E 23 E (sd_upd _ E) (JA.next ⟨E, E, E, E, V⟩ [] E (JA.one 7 (by kernel_rfl) (JK.call E E E E (ok_s_l08Clamp x2 (x0.2.2.1.1.length : Int) _ hy32) E [] E E fun _ _ => JA.next ⟨E, E, E, E, V⟩ [] E (JA.one 8 (by kernel_rfl) (JK.call E E E E (ok_s_LineCut x0.2.2.1 y29 y31 a5 c6 x0.2.2.1.1.length E _ hy36) E [0] E E ?_)))))
    rintro ⟨a37, c38, a39, c40⟩ -
    refine JA.nextL E (JA.regL ttOk panic_cx 3 [9, 10, 11, 12] E (by kernel_rfl) [] [(30, .v (.agg #[.slice a37 y33.1.length c38, .int .i64 y33.2])), (31, .v (.slice a39 y34.length c40)), (32, .v (.bool y35))] E (Es E) (JA.one 14 (by kernel_rfl) (JK.stBox ttOk E E E E E E E E (JA.nextL E (JA.regL ttOk panic_cx 0 [15, 16] E (by kernel_rfl) [] [(12, .v (.slice a39 y34.length c40)), (13, .v (.bool y35))] E (Es E) (JA.done (by kernel_rfl) (JS.boxes (B' := (.new 7 46 (cl46 x0 a5 c6 a9 c10 a13 c14 a17 c18 a21 c22 a25 c26) (.new 8 46 cz46 (.new 23 38 [.slice a37 y33.1.length c38, .int .i64 y33.2] .nil)))) (Bs E E) (JS.endJ (y34, y35, y33.1, y33.2, a39, c40, a37, c38) h (Es E) (Bs E E) [0, 1, 2, 3, 4, 5] E [1, 0] E))))))))
   refine JK.alloc ttOk E E E E E 23 E (sd_upd _ E) (JA.next ⟨E, E, E, E, V⟩ [] E (JA.one 4 (by kernel_rfl) (JK.call E E E E (ok_s_l08Clamp x1 (x0.2.2.1.1.length : Int) _ hy30) E [] E E fun _ _ => JA.next ⟨E, E, E, E, V⟩ [] E (JA.one 7 (by kernel_rfl) (JK.call E E E E (ok_s_l08Clamp x2 (x0.2.2.1.1.length : Int) _ hy32) E [] E E fun _ _ => JA.next ⟨E, E, E, E, V⟩ [] E (JA.one 8 (by kernel_rfl) (JK.call E E E E (ok_s_LineCut x0.2.2.1 y29 y31 a5 c6 x0.2.2.1.1.length E _ hy36) E [0] E E ?_)))))))
   rintro ⟨a37, c38, a39, c40⟩ -
   refine JA.nextL E (JA.regL ttOk panic_cx 3 [9, 10, 11, 12] E (by kernel_rfl) [] [(30, .v (.agg #[.slice a37 y33.1.length c38, .int .i64 y33.2])), (31, .v (.slice a39 y34.length c40)), (32, .v (.bool y35))] E (Es E) (JA.one 14 (by kernel_rfl) (JK.stBox ttOk E E E E E E E E (JA.nextL E (JA.regL ttOk panic_cx 0 [15, 16] E (by kernel_rfl) [] [(12, .v (.slice a39 y34.length c40)), (13, .v (.bool y35))] E (Es E) (JA.done (by kernel_rfl) (JS.boxes (B' := (.new 7 46 (cl46 x0 a5 c6 a9 c10 a13 c14 a17 c18 a21 c22 a25 c26) (.new 8 46 cz46 (.new 23 38 [.slice a37 y33.1.length c38, .int .i64 y33.2] .nil)))) (Bs E E) (JS.endJ (y34, y35, y33.1, y33.2, a39, c40, a37, c38) h (Es E) (Bs E E) [0, 1, 2, 3, 4, 5] E [1, 0] E))))))))
  rintro ⟨x42, x45, x46, x49, a43, c44, a47, c48⟩ h
  subst hj88
  obtain ⟨j53, hj87, h⟩ := joinO_some h
  refine JS.seqJ (ι := Int) ⟨fun z => j53 z = some r, fun z => [(3, .v (I z)), (4, .bp 7 0), (8, .bp 8 0), (10, .v (I (x0.2.2.1.1.length : Int))), (11, .bp 23 0), (12, .v (.slice a43 x42.length c44)), (13, .v (.bool x45))], fun z => (.new 7 46 (cl46 x0 a5 c6 a9 c10 a13 c14 a17 c18 a21 c22 a25 c26) (.new 8 46 cz46 (.new 23 38 [.slice a47 x46.length c48, .int .i64 x49] .nil))), fun z => (fl32 x0 a5 c6 a9 c10 a13 c14 a17 c18 a21 c22 a25 c26 []), fun z => [⟨(.int .i64), ⟨a43, x42.length, c44⟩, x42⟩, ⟨(.int .i64), ⟨a47, x46.length, c48⟩, x46⟩], fun z => 0⟩ ?_ ?_
  ·
   refine JS.rg0 ttOk 3 [(35, .v (.bool (!(decide ((Q8 x0).2.1 = 2)))))] ⟨⟨E, V⟩, E⟩ E E ?_
   refine JS.cond E (fun ht84 => ?_) (fun ht84 => ?_)
   ·
    have h := condT h ht84
    refine JS.re0 ttOk 1 [(3, .v (I 0))] ⟨⟨E, V⟩, E⟩ E E (JS.endJ 0 h (Es E) (Bs E E) [0, 1, 2, 3, 4, 5] E [0, 0] E)
   have h := condF h ht84
   refine JS.skip (JS.endJ x3 h (Es E) (Bs E E) [0, 1, 2, 3, 4, 5] E [0, 0] E)
  rintro x52 h
  subst hj87
  refine JS.seq (JS.region (JO.reg ttOk 10 [] [] [(37, .v (.agg (cl46 x0 a5 c6 a9 c10 a13 c14 a17 c18 a21 c22 a25 c26).toArray)), (38, .v (.agg #[.slice a47 x46.length c48, .int .i64 x49])), (46, .v (.bool (bif x45 then (decide ((x46.length : Int) < (x0.2.2.1.1.length : Int))) else false)))] _ E ⟨(Es E), E⟩ ?_))
  obtain ⟨⟨y55, y56⟩, hy57, h⟩ := bindO_some h
  refine JO.call E E E E (ok_s_l23Set x0 (x46, x49) (bif x45 then (decide ((x46.length : Int) < (x0.2.2.1.1.length : Int))) else false) 2 a5 c6 x0.2.2.1.1.length E a9 c10 (Q8 x0).2.2.1.length E a13 c14 (Q8 x0).2.2.2.1.length E a17 c18 (Q12 x0).2.1.1.length E a21 c22 (Q12 x0).2.2.1.length E a25 c26 (Q16 x0).1.length E a47 c48 x46.length E _ hy57) E [0, 1, 2, 3, 4, 5, 7] E E ?_
  rintro ⟨a58, c59, a60, c61, a62, c63, a64, c65, a66, c67, a68, c69⟩ -
  refine JO.regB ttOk 6 [] [59] [(14, .bp 59 0), (15, .v (I y56))] (.new 7 46 (cl46 x0 a5 c6 a9 c10 a13 c14 a17 c18 a21 c22 a25 c26) (.new 8 46 cz46 (.new 59 46 (cl46 y55 a58 c59 a60 c61 a62 c63 a64 c65 a66 c67 a68 c69) .nil))) E ⟨(Es E), (Bs E E)⟩ (JO.done E ?_)
  obtain ⟨j79, hj86, h⟩ := joinO_some h
  refine JS.seqJ (ι := List (List Int) × Option Addr × Nat) ⟨fun z => j79 z.1 = some r, fun z => [(8, .bp 8 0), (14, .bp 59 0), (15, .v (I y56))], fun z => (.new 8 46 cz46 (.new 59 46 (cl46 (y55.1, y55.2.1, y55.2.2.1, y55.2.2.2.1, (Q4 y55).1, (Q4 y55).2.1, (Q4 y55).2.2.1, (Q4 y55).2.2.2.1, (Q8 y55).1, (Q8 y55).2.1, z.1, (Q8 y55).2.2.2.1, (Q12 y55).1, (Q12 y55).2.1, (Q12 y55).2.2.1, (Q12 y55).2.2.2.1, (Q16 y55)) a58 c59 z.2.1 z.2.2 a62 c63 a64 c65 a66 c67 a68 c69) .nil)), fun z => [], fun z => [⟨(.sl (.int .i64)), ⟨z.2.1, z.1.length, z.2.2⟩, z.1⟩, ⟨(.int .i64), ⟨a58, y55.2.2.1.1.length, c59⟩, y55.2.2.1.1⟩, ⟨(.pair (.sl (.int .i64)) (.int .i64)), ⟨a62, (Q8 y55).2.2.2.1.length, c63⟩, (Q8 y55).2.2.2.1⟩, ⟨(.int .i64), ⟨a64, (Q12 y55).2.1.1.length, c65⟩, (Q12 y55).2.1.1⟩, ⟨(.int .i64), ⟨a66, (Q12 y55).2.2.1.length, c67⟩, (Q12 y55).2.2.1⟩, ⟨(.int .i64), ⟨a68, (Q16 y55).1.length, c69⟩, (Q16 y55).1⟩], fun z => 0⟩ ?_ ?_
  ·
   refine JS.rg0 ttOk 2 [(51, .v (.bool (decide (y56 = 0))))] ⟨⟨E, V⟩, E⟩ E E ?_
   refine JS.cond E (fun ht85 => ?_) (fun ht85 => ?_)
   ·
    have h := condT h ht85
    refine JS.region (JO.reg ttOk 4 [] [] [(54, .v (.agg #[.slice a9 (Q8 x0).2.2.1.length c10])), (55, .v (.slice a43 x42.length c44)), (56, .v (I x52))] _ E ⟨(Es E), E⟩ ?_)
    obtain ⟨⟨y70, y71⟩, hy72, h⟩ := bindO_some h
    refine JO.call E E E E (ok_s_RingPut (Q8 x0).2.2.1 x42 x52 a9 c10 (Q8 x0).2.2.1.length E a43 c44 x42.length E _ hy72) E [1, 12] E E ?_
    rintro ⟨a73, c74⟩ -
    refine JO.regB ttOk 5 [] [] [] (.new 8 46 cz46 (.new 59 46 (cl46 (y55.1, y55.2.1, y55.2.2.1, y55.2.2.2.1, (Q4 y55).1, (Q4 y55).2.1, (Q4 y55).2.2.1, (Q4 y55).2.2.2.1, (Q8 y55).1, (Q8 y55).2.1, y70, (Q8 y55).2.2.2.1, (Q12 y55).1, (Q12 y55).2.1, (Q12 y55).2.2.1, (Q12 y55).2.2.2.1, (Q16 y55)) a58 c59 a73 c74 a62 c63 a64 c65 a66 c67 a68 c69) .nil)) E ⟨V, (Bs E E)⟩ (JO.done E (JS.endJA (y70, a73, c74) h (Es E) (Bs E E) [] E [0, 1, 3, 4, 5, 6] E E))
   have h := condF h ht85
   refine JS.skip (JS.endJA ((Q8 y55).2.2.1, a60, c61) h (Es E) (Bs E E) [] E [1, 0, 2, 3, 4, 5] E E)
  rintro ⟨x76, a77, c78⟩ h
  subst hj86
  refine JS.rgB ttOk 4 [] [] [(9, .v (I y56))] (.new 8 46 (cl46 (y55.1, y55.2.1, y55.2.2.1, y55.2.2.2.1, (Q4 y55).1, (Q4 y55).2.1, (Q4 y55).2.2.1, (Q4 y55).2.2.2.1, (Q8 y55).1, (Q8 y55).2.1, x76, (Q8 y55).2.2.2.1, (Q12 y55).1, (Q12 y55).2.1, (Q12 y55).2.2.1, (Q12 y55).2.2.2.1, (Q16 y55)) a58 c59 a77 c78 a62 c63 a64 c65 a66 c67 a68 c69) .nil) ⟨⟨E, V⟩, (Bs E E)⟩ E E ?_
  cases h
  exact JS.ret ttOk (a58, c59, a77, c78, a62, c63, a64, c65, a66, c67, a68, c69) V E E [1, 0, 0, 0, 0, 0] E

def M_s_l23Cut (x0 : EdQ) (x1 : Int) (x2 : Int) : Option (EdQ × Int) :=
  (joinO (fun ((x41, x42, x45) : Bool × List Int × Int) =>
  (bindO (M_s_l23Set x0 (x42, x45) (bif x41 then (decide ((x42.length : Int) < (x0.2.2.1.1.length : Int))) else false) 0) fun (y47, y48) =>
  some (y47, y48))) fun j46 =>
  (bindO (M_s_l08Clamp x1 (x0.2.2.1.1.length : Int)) fun (y28 : Int) =>
  (bindO (M_s_l08Clamp x2 (x0.2.2.1.1.length : Int)) fun (y30 : Int) =>
  (bindO (M_s_LineCut x0.2.2.1 y28 y30) fun (y32, y33, y34) =>
  j46 (y34, y32.1, y32.2)))))

theorem ok_s_l23Cut (x0 : EdQ) (x1 : Int) (x2 : Int) (a4 : Option Addr) (c5 : Nat) (l6 : Nat) (hl7 : x0.2.2.1.1.length = l6) (a8 : Option Addr) (c9 : Nat) (l10 : Nat) (hl11 : (Q8 x0).2.2.1.length = l10) (a12 : Option Addr) (c13 : Nat) (l14 : Nat) (hl15 : (Q8 x0).2.2.2.1.length = l14) (a16 : Option Addr) (c17 : Nat) (l18 : Nat) (hl19 : (Q12 x0).2.1.1.length = l18) (a20 : Option Addr) (c21 : Nat) (l22 : Nat) (hl23 : (Q12 x0).2.2.1.length = l22) (a24 : Option Addr) (c25 : Nat) (l26 : Nat) (hl27 : (Q16 x0).1.length = l26) (r : EdQ × Int) (h : M_s_l23Cut x0 x1 x2 = some r) :
  FC Tryz.prog 161 [.agg #[.bool x0.1, .int .i64 x0.2.1, .slice a4 l6 c5, .int .i64 x0.2.2.1.2, .int .i64 x0.2.2.2.1, .int .i64 (Q4 x0).1, .int .i64 (Q4 x0).2.1, .int .i64 (Q4 x0).2.2.1, .int .i64 (Q4 x0).2.2.2.1, .int .i64 (Q8 x0).1, .int .i64 (Q8 x0).2.1, .slice a8 l10 c9, .slice a12 l14 c13, .int .i64 (Q12 x0).1, .slice a16 l18 c17, .int .i64 (Q12 x0).2.1.2, .slice a20 l22 c21, .int .i64 (Q12 x0).2.2.2.1, .slice a24 l26 c25, .int .i64 (Q16 x0).2], .int .i64 x1, .int .i64 x2] [⟨(.int .i64), ⟨a4, l6, c5⟩, x0.2.2.1.1⟩, ⟨(.sl (.int .i64)), ⟨a8, l10, c9⟩, (Q8 x0).2.2.1⟩, ⟨(.pair (.sl (.int .i64)) (.int .i64)), ⟨a12, l14, c13⟩, (Q8 x0).2.2.2.1⟩, ⟨(.int .i64), ⟨a16, l18, c17⟩, (Q12 x0).2.1.1⟩, ⟨(.int .i64), ⟨a20, l22, c21⟩, (Q12 x0).2.2.1⟩, ⟨(.int .i64), ⟨a24, l26, c25⟩, (Q16 x0).1⟩] (fun _ : Option Addr × Nat × Option Addr × Nat × Option Addr × Nat × Option Addr × Nat × Option Addr × Nat × Option Addr × Nat => True) (fun q => .tuple #[.agg (cl46 r.1 q.1 q.2.1 q.2.2.1 q.2.2.2.1 (Q4 q).1 (Q4 q).2.1 (Q4 q).2.2.1 (Q4 q).2.2.2.1 (Q8 q).1 (Q8 q).2.1 (Q8 q).2.2.1 (Q8 q).2.2.2).toArray, .int .i64 r.2]) (fun q => (fl32 r.1 q.1 q.2.1 q.2.2.1 q.2.2.2.1 (Q4 q).1 (Q4 q).2.1 (Q4 q).2.2.1 (Q4 q).2.2.2.1 (Q8 q).1 (Q8 q).2.1 (Q8 q).2.2.1 (Q8 q).2.2.2 [])) :=
 by
  subst hl7
  subst hl11
  subst hl15
  subst hl19
  subst hl23
  subst hl27
  refine FC.of (T := TTx) Tryz.call161 Tryz.func161 E E fun w0 => ?_
  unfold M_s_l23Cut at h
  refine JS.rgB ttOk 3 [] [7, 8] [(3, .bp 7 0), (6, .bp 8 0)] (.new 7 46 (cl46 x0 a4 c5 a8 c9 a12 c13 a16 c17 a20 c21 a24 c25) (.new 8 46 cz46 .nil)) ⟨(Es E), (Bs E E)⟩ E E (JS.rg0 ttOk 5 [(8, .v (I (x0.2.2.1.1.length : Int)))] ⟨⟨E, V⟩, E⟩ E E (JS.seq ?_))
  obtain ⟨j46, hj63, h⟩ := joinO_some h
  refine JS.cutJ (ι := Bool × List Int × Int × Option Addr × Nat) ⟨fun z => j46 (z.1, z.2.1, z.2.2.1) = some r, fun z => [(3, .bp 7 0), (6, .bp 8 0), (8, .v (I (x0.2.2.1.1.length : Int))), (9, .bp 23 0), (11, .v (.bool z.1))], fun z => (.new 7 46 (cl46 x0 a4 c5 a8 c9 a12 c13 a16 c17 a20 c21 a24 c25) (.new 8 46 cz46 (.new 23 38 [.slice z.2.2.2.1 z.2.1.length (Q4 z), .int .i64 z.2.2.1] .nil))), fun z => (fl32 x0 a4 c5 a8 c9 a12 c13 a16 c17 a20 c21 a24 c25 []), fun z => [⟨(.int .i64), ⟨z.2.2.2.1, z.2.1.length, (Q4 z)⟩, z.2.1⟩], fun z => 0⟩ ?_ ?_
  ·
   obtain ⟨y28, hy29, h⟩ := bindO_some h
   obtain ⟨y30, hy31, h⟩ := bindO_some h
   obtain ⟨⟨y32, y33, y34⟩, hy35, h⟩ := bindO_some h
   refine JS.regionA E (.new 7 46 (cl46 x0 a4 c5 a8 c9 a12 c13 a16 c17 a20 c21 a24 c25) .nil) [] [8, 9, 10, 11, 12, 14, 15, 16] ⟨E, E, E, E, V⟩ E (fun be40 => ?_)
   refine JA.reg ttOk panic_cx true 11 [0, 1, 2, 3, 5, 6] E (by kernel_rfl) [] [(18, .v (.agg #[.slice a4 x0.2.2.1.1.length c5, .int .i64 x0.2.2.1.2])), (19, .v (I x1)), (20, .v (I (x0.2.2.1.1.length : Int))), (22, .v (I x2)), (23, .v (I (x0.2.2.1.1.length : Int)))] ⟨E, E, E, E, V⟩ [] E E (Es E) ?_
   refine JA.all (rs := [4, 13]) (by kernel_rfl) E (List.forall_mem_cons.2 ⟨?_, List.forall_mem_cons.2 ⟨?_, (fun _ hx => absurd hx List.not_mem_nil)⟩⟩)
   ·
    refine JK.call E E E E (ok_s_l08Clamp x1 (x0.2.2.1.1.length : Int) _ hy29) E [] E E fun _ _ => JA.next ⟨E, E, E, E, V⟩ [] E ?_
    refine JA.all (rs := [7, 13]) (by kernel_rfl) E (List.forall_mem_cons.2 ⟨?_, List.forall_mem_cons.2 ⟨?_, (fun _ hx => absurd hx List.not_mem_nil)⟩⟩)
    ·
     refine JK.call E E E E (ok_s_l08Clamp x2 (x0.2.2.1.1.length : Int) _ hy31) E [] E E fun _ _ => JA.next ⟨E, E, E, E, V⟩ [] E ?_
     refine JA.all (rs := [8, 13]) (by kernel_rfl) E (List.forall_mem_cons.2 ⟨?_, List.forall_mem_cons.2 ⟨?_, (fun _ hx => absurd hx List.not_mem_nil)⟩⟩)
     ·
      refine JK.call E E E E (ok_s_LineCut x0.2.2.1 y28 y30 a4 c5 x0.2.2.1.1.length E _ hy35) E [0] E E ?_
      rintro ⟨a36, c37, a38, c39⟩ -
      refine JA.nextL E (JA.regL ttOk panic_cx 4 [9, 10, 11, 12] E (by kernel_rfl) [] [(26, .v (.agg #[.slice a36 y32.1.length c37, .int .i64 y32.2])), (27, .v (.slice a38 y33.length c39)), (28, .v (.bool y34))] E (Es E) (JA.one 13 (by kernel_rfl) (JK.alloc ttOk E E E E E 23 E (sd_upd _ E) (JA.next ⟨E, E, E, E, V⟩ [] E (JA.one 14 (by kernel_rfl) (JK.stBox ttOk E E E E E E E E (JA.nextL E (JA.regL ttOk panic_cx 0 [15, 16] E (by kernel_rfl) [] [(11, .v (.bool y34))] E ⟨E, V⟩ (JA.done (by kernel_rfl) (JS.boxes (B' := (.new 7 46 (cl46 x0 a4 c5 a8 c9 a12 c13 a16 c17 a20 c21 a24 c25) (.new 8 46 cz46 (.new 23 38 [.slice a36 y32.1.length c37, .int .i64 y32.2] .nil)))) (Bs E E) (JS.endJ (y34, y32.1, y32.2, a36, c37) h (Es E) (Bs E E) [0, 1, 2, 3, 4, 5] E [0] E)))))))))))
     refine JK.alloc ttOk E E E E E 23 E (sd_upd _ E) (JA.next ⟨E, E, E, E, V⟩ [] E (JA.one 8 (by kernel_rfl) (JK.call E E E E (ok_s_LineCut x0.2.2.1 y28 y30 a4 c5 x0.2.2.1.1.length E _ hy35) E [0] E E ?_)))
     rintro ⟨a36, c37, a38, c39⟩ -
     refine JA.nextL E (JA.regL ttOk panic_cx 3 [9, 10, 11, 12] E (by kernel_rfl) [] [(26, .v (.agg #[.slice a36 y32.1.length c37, .int .i64 y32.2])), (27, .v (.slice a38 y33.length c39)), (28, .v (.bool y34))] E (Es E) (JA.one 14 (by kernel_rfl) (JK.stBox ttOk E E E E E E E E (JA.nextL E (JA.regL ttOk panic_cx 0 [15, 16] E (by kernel_rfl) [] [(11, .v (.bool y34))] E ⟨E, V⟩ (JA.done (by kernel_rfl) (JS.boxes (B' := (.new 7 46 (cl46 x0 a4 c5 a8 c9 a12 c13 a16 c17 a20 c21 a24 c25) (.new 8 46 cz46 (.new 23 38 [.slice a36 y32.1.length c37, .int .i64 y32.2] .nil)))) (Bs E E) (JS.endJ (y34, y32.1, y32.2, a36, c37) h (Es E) (Bs E E) [0, 1, 2, 3, 4, 5] E [0] E))))))))
    refine JK.alloc ttOk E E E E E 23 E (sd_upd _ E) (JA.next ⟨E, E, E, E, V⟩ [] E (JA.one 7 (by kernel_rfl) (JK.call E E E E (ok_s_l08Clamp x2 (x0.2.2.1.1.length : Int) _ hy31) E [] E E fun _ _ => JA.next ⟨E, E, E, E, V⟩ [] E (JA.one 8 (by kernel_rfl) (JK.call E E E E (ok_s_LineCut x0.2.2.1 y28 y30 a4 c5 x0.2.2.1.1.length E _ hy35) E [0] E E ?_)))))
    rintro ⟨a36, c37, a38, c39⟩ -
    refine JA.nextL E (JA.regL ttOk panic_cx 3 [9, 10, 11, 12] E (by kernel_rfl) [] [(26, .v (.agg #[.slice a36 y32.1.length c37, .int .i64 y32.2])), (27, .v (.slice a38 y33.length c39)), (28, .v (.bool y34))] E (Es E) (JA.one 14 (by kernel_rfl) (JK.stBox ttOk E E E E E E E E (JA.nextL E (JA.regL ttOk panic_cx 0 [15, 16] E (by kernel_rfl) [] [(11, .v (.bool y34))] E ⟨E, V⟩ (JA.done (by kernel_rfl) (JS.boxes (B' := (.new 7 46 (cl46 x0 a4 c5 a8 c9 a12 c13 a16 c17 a20 c21 a24 c25) (.new 8 46 cz46 (.new 23 38 [.slice a36 y32.1.length c37, .int .i64 y32.2] .nil)))) (Bs E E) (JS.endJ (y34, y32.1, y32.2, a36, c37) h (Es E) (Bs E E) [0, 1, 2, 3, 4, 5] E [0] E))))))))
   refine JK.alloc ttOk E E E E E 23 E (sd_upd _ E) (JA.next ⟨E, E, E, E, V⟩ [] E (JA.one 4 (by kernel_rfl) (JK.call E E E E (ok_s_l08Clamp x1 (x0.2.2.1.1.length : Int) _ hy29) E [] E E fun _ _ => JA.next ⟨E, E, E, E, V⟩ [] E (JA.one 7 (by kernel_rfl) (JK.call E E E E (ok_s_l08Clamp x2 (x0.2.2.1.1.length : Int) _ hy31) E [] E E fun _ _ => JA.next ⟨E, E, E, E, V⟩ [] E (JA.one 8 (by kernel_rfl) (JK.call E E E E (ok_s_LineCut x0.2.2.1 y28 y30 a4 c5 x0.2.2.1.1.length E _ hy35) E [0] E E ?_)))))))
   rintro ⟨a36, c37, a38, c39⟩ -
   refine JA.nextL E (JA.regL ttOk panic_cx 3 [9, 10, 11, 12] E (by kernel_rfl) [] [(26, .v (.agg #[.slice a36 y32.1.length c37, .int .i64 y32.2])), (27, .v (.slice a38 y33.length c39)), (28, .v (.bool y34))] E (Es E) (JA.one 14 (by kernel_rfl) (JK.stBox ttOk E E E E E E E E (JA.nextL E (JA.regL ttOk panic_cx 0 [15, 16] E (by kernel_rfl) [] [(11, .v (.bool y34))] E ⟨E, V⟩ (JA.done (by kernel_rfl) (JS.boxes (B' := (.new 7 46 (cl46 x0 a4 c5 a8 c9 a12 c13 a16 c17 a20 c21 a24 c25) (.new 8 46 cz46 (.new 23 38 [.slice a36 y32.1.length c37, .int .i64 y32.2] .nil)))) (Bs E E) (JS.endJ (y34, y32.1, y32.2, a36, c37) h (Es E) (Bs E E) [0, 1, 2, 3, 4, 5] E [0] E))))))))
  rintro ⟨x41, x42, x45, a43, c44⟩ h
  subst hj63
  refine JS.seq (JS.region (JO.reg ttOk 10 [] [] [(29, .v (.agg (cl46 x0 a4 c5 a8 c9 a12 c13 a16 c17 a20 c21 a24 c25).toArray)), (30, .v (.agg #[.slice a43 x42.length c44, .int .i64 x45])), (38, .v (.bool (bif x41 then (decide ((x42.length : Int) < (x0.2.2.1.1.length : Int))) else false)))] _ E ⟨(Es E), E⟩ ?_))
  obtain ⟨⟨y47, y48⟩, hy49, h⟩ := bindO_some h
  refine JO.call E E E E (ok_s_l23Set x0 (x42, x45) (bif x41 then (decide ((x42.length : Int) < (x0.2.2.1.1.length : Int))) else false) 0 a4 c5 x0.2.2.1.1.length E a8 c9 (Q8 x0).2.2.1.length E a12 c13 (Q8 x0).2.2.2.1.length E a16 c17 (Q12 x0).2.1.1.length E a20 c21 (Q12 x0).2.2.1.length E a24 c25 (Q16 x0).1.length E a43 c44 x42.length E _ hy49) E [0, 1, 2, 3, 4, 5, 6] E E ?_
  rintro ⟨a50, c51, a52, c53, a54, c55, a56, c57, a58, c59, a60, c61⟩ -
  refine JO.regB ttOk 4 [] [] [(7, .v (I y48))] (.new 8 46 (cl46 y47 a50 c51 a52 c53 a54 c55 a56 c57 a58 c59 a60 c61) .nil) E ⟨⟨E, V⟩, (Bs E E)⟩ (JO.done E ?_)
  cases h
  exact JS.ret ttOk (a50, c51, a52, c53, a54, c55, a56, c57, a58, c59, a60, c61) V E E [0, 0, 0, 0, 0, 0] E

def M_s_HistLast (x0 : Int × List (List UInt8)) : Option Int :=
  (bindO (M_s_HistOk x0) fun (y6 : Bool) =>
  (bif (bif (!y6) then true else (decide ((x0.2.length : Int) = 0))) then
  some 0
  else
  some (W ((W (x0.1 + (x0.2.length : Int))) - 1))))

theorem ok_s_HistLast (x0 : Int × List (List UInt8)) (a2 : Option Addr) (c3 : Nat) (l4 : Nat) (hl5 : x0.2.length = l4) (r : Int) (h : M_s_HistLast x0 = some r) :
  FC Tryz.prog 80 [.agg #[.int .i64 x0.1, .slice a2 l4 c3]] [⟨.str, ⟨a2, l4, c3⟩, x0.2⟩] (fun _ : Unit => True) (fun _ => .int .i64 r) (fun _ => []) :=
 by
  subst hl5
  refine FC.of (T := TTx) Tryz.call80 Tryz.func80 E E fun w0 => ?_
  unfold M_s_HistLast at h
  refine JS.rgB ttOk 2 [] [2] [(1, .bp 2 0)] (.new 2 50 [.int .i64 x0.1, .slice a2 x0.2.length c3] .nil) ⟨⟨E, V⟩, (Bs E E)⟩ E E (JS.seq (JS.seq (JS.region (JO.reg ttOk 1 [] [] [(3, .v (.agg #[.int .i64 x0.1, .slice a2 x0.2.length c3]))] _ E ⟨⟨E, V⟩, E⟩ ?_))))
  obtain ⟨y6, hy7, h⟩ := bindO_some h
  refine JO.call E E E E (ok_s_HistOk x0 a2 c3 x0.2.length E _ hy7) E [0] E E fun _ _ => JO.reg ttOk 7 [] [] [(11, .v (.bool (bif (!y6) then true else (decide ((x0.2.length : Int) = 0)))))] _ E ⟨⟨E, V⟩, E⟩ (JO.done E ?_)
  refine JS.cond E (fun ht9 => ?_) (fun ht9 => ?_)
  ·
   have h := condT h ht9
   refine JS.rg0 ttOk 1 [(2, .v (I 0))] ⟨⟨E, V⟩, E⟩ E E ?_
   cases h
   exact JS.ret ttOk () V E E [] E
  have h := condF h ht9
  refine JS.skip (JS.rg ttOk 8 [(W (x0.1 + (x0.2.length : Int))), (W ((W (x0.1 + (x0.2.length : Int))) - 1))] [] [(2, .v (I (W ((W (x0.1 + (x0.2.length : Int))) - 1))))] _ ⟨⟨V, E⟩, ⟨V, E⟩, ⟨E, V⟩, E⟩ E E ?_)
  cases h
  exact JS.ret ttOk () V E E [] E

def M_s_HistGet (x0 : Int × List (List UInt8)) (x1 : Int) : Option (List UInt8 × Bool) :=
  (bindO (M_s_HistOk x0) fun (y7 : Bool) =>
  (bif (bif (bif (!y7) then true else (decide (x1 < x0.1))) then true else (decide ((x0.2.length : Int) ≤ (W (x1 - x0.1))))) then
  some ([], false)
  else
  (guardO (0 ≤ (W (x1 - x0.1)) ∧ (W (x1 - x0.1)) < (x0.2.length : Int)) <|
  some ((at' x0.2 (W (x1 - x0.1))), true))))

theorem ok_s_HistGet (x0 : Int × List (List UInt8)) (x1 : Int) (a3 : Option Addr) (c4 : Nat) (l5 : Nat) (hl6 : x0.2.length = l5) (r : List UInt8 × Bool) (h : M_s_HistGet x0 x1 = some r) :
  FC Tryz.prog 47 [.agg #[.int .i64 x0.1, .slice a3 l5 c4], .int .i64 x1] [⟨.str, ⟨a3, l5, c4⟩, x0.2⟩] (fun _ : Unit => True) (fun _ => .tuple #[.string (bs r.1), .bool r.2]) (fun _ => []) :=
 by
  subst hl6
  refine FC.of (T := TTx) Tryz.call47 Tryz.func47 E E fun w0 => ?_
  unfold M_s_HistGet at h
  refine JS.rgB ttOk 3 [] [2] [(2, .bp 2 0)] (.new 2 50 [.int .i64 x0.1, .slice a3 x0.2.length c4] .nil) ⟨⟨E, V⟩, (Bs E E)⟩ E E (JS.seq (JS.seq (JS.region (JO.reg ttOk 1 [] [] [(6, .v (.agg #[.int .i64 x0.1, .slice a3 x0.2.length c4]))] _ E ⟨⟨E, V⟩, E⟩ ?_))))
  obtain ⟨y7, hy8, h⟩ := bindO_some h
  refine JO.call E E E E (ok_s_HistOk x0 a3 c4 x0.2.length E _ hy8) E [0] E E fun _ _ => JO.reg ttOk 17 [(W (x1 - x0.1))] [] [(24, .v (.bool (bif (bif (!y7) then true else (decide (x1 < x0.1))) then true else (decide ((x0.2.length : Int) ≤ (W (x1 - x0.1)))))))] _ E ⟨(fun q13 => ⟨V, E⟩), ⟨E, V⟩, E⟩ (JO.done E ?_)
  refine JS.cond E (fun ht15 => ?_) (fun ht15 => ?_)
  ·
   have h := condT h ht15
   refine JS.rg0 ttOk 2 [(4, .v (.string (bs []))), (5, .v (.bool false))] ⟨(Es E), E⟩ E E ?_
   cases h
   exact JS.ret ttOk () V E E [] E
  have h := condF h ht15
  refine JS.skip (JS.seq (JS.region (JO.know 0 E fun hs14 => ?_)))
  obtain ⟨g11, h⟩ := guardO_some h
  refine JO.reg ttOk 7 [(W (x1 - x0.1))] [] [(31, .ep ⟨a3, x0.2.length, c4⟩ (Int.toNat (W (x1 - x0.1)) * 1))] _ E ⟨⟨V, E⟩, hs14.ix g11, ⟨E, V⟩, E⟩ (JO.load ttOk E E E E E E E 0 E E (Int.toNat (W (x1 - x0.1))) 0 (at' x0.2 (W (x1 - x0.1))) ⟨at_some g11, E⟩ E E (JO.reg ttOk 2 [] [] [(4, .v (.string (bs (at' x0.2 (W (x1 - x0.1)))))), (5, .v (.bool true))] _ E ⟨(Es E), E⟩ (JO.done E ?_)))
  cases h
  exact JS.ret ttOk () V E E [] E

end
end Go.Eng
