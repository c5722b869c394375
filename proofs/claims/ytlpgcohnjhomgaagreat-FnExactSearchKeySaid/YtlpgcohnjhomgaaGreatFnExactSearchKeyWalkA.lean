/- The walks of the functions that FnExactSearchKey reaches: what each computes, as a plain function (M_..), and that the model computes it (ok_..). Condition of each: that the plain function answers. -/
import Derived.Test.YtlpgcohnjhomgaaGreatEngB
import Derived.Test.YtlpgcohnjhomgaaGreatChecked
import Derived.Lib.Strings
import Derived.Lib.Slices
import Derived.Lib.Walk
import Derived.Lib.Bytealg
set_option linter.unusedVariables false
set_option linter.unusedSimpArgs false
namespace Go.Proofs

set_option maxHeartbeats 1000000 in
/-- strings.HasPrefix: "HasPrefix reports whether the string s begins with prefix.": IT RETURNS 'Lib.hasPrefix s prefix'; the world is as it was. -/
theorem Tryz.strings_HasPrefix (s p : ByteArray) (w : World) :
    Calls Tryz.prog 239 #[.string s, .string p] w fun e w' => e = .returned (.bool (Lib.hasPrefix s.data.toList p.data.toList)) ∧ w' = w := by
  rw [← Lib.hasPrefix_of_take, ← Lib.size_eq, ← Lib.size_eq]
  go_enter Tryz.func239, Tryz.ntmps239
  go_wp2
  · rename_i h
    go_ret
    refine ⟨?_, rfl⟩
    show Ending.returned (Value.bool ((s.extract 0 p.size).toList == p.toList)) = _
    rw [Lib.extract_toList, Lib.toList_data]
    simp [h]
  · rename_i h
    go_ret
    refine ⟨?_, rfl⟩
    show Ending.returned (Value.bool false) = _
    simp [h]

end Go.Proofs

namespace Go.Eng
open Go Go.Proofs
noncomputable section

@[reducible] def cl32 (x : Bool × Int × (List Int × Int) × Int × Int × Int × Int × Int × Int × Int × List (List Int) × (List (List Int × Int)) × Int × (List Int × Int) × List Int × Int × List Int × Int) (a1 : Option Addr) (c1 : Nat) (a2 : Option Addr) (c2 : Nat) (a3 : Option Addr) (c3 : Nat) (a4 : Option Addr) (c4 : Nat) (a5 : Option Addr) (c5 : Nat) (a6 : Option Addr) (c6 : Nat) : List Value := [.bool x.1, .int .i64 x.2.1, .slice a1 x.2.2.1.1.length c1, .int .i64 x.2.2.1.2, .int .i64 x.2.2.2.1, .int .i64 x.2.2.2.2.1, .int .i64 x.2.2.2.2.2.1, .int .i64 x.2.2.2.2.2.2.1, .int .i64 x.2.2.2.2.2.2.2.1, .int .i64 x.2.2.2.2.2.2.2.2.1, .int .i64 x.2.2.2.2.2.2.2.2.2.1, .slice a2 x.2.2.2.2.2.2.2.2.2.2.1.length c2, .slice a3 x.2.2.2.2.2.2.2.2.2.2.2.1.length c3, .int .i64 x.2.2.2.2.2.2.2.2.2.2.2.2.1, .slice a4 x.2.2.2.2.2.2.2.2.2.2.2.2.2.1.1.length c4, .int .i64 x.2.2.2.2.2.2.2.2.2.2.2.2.2.1.2, .slice a5 x.2.2.2.2.2.2.2.2.2.2.2.2.2.2.1.length c5, .int .i64 x.2.2.2.2.2.2.2.2.2.2.2.2.2.2.2.1, .slice a6 x.2.2.2.2.2.2.2.2.2.2.2.2.2.2.2.2.1.length c6, .int .i64 x.2.2.2.2.2.2.2.2.2.2.2.2.2.2.2.2.2]
@[reducible] def cl46 (x : Bool × Int × (List Int × Int) × Int × Int × Int × Int × Int × Int × Int × List (List Int) × (List (List Int × Int)) × Int × (List Int × Int) × List Int × Int × List Int × Int) (a1 : Option Addr) (c1 : Nat) (a2 : Option Addr) (c2 : Nat) (a3 : Option Addr) (c3 : Nat) (a4 : Option Addr) (c4 : Nat) (a5 : Option Addr) (c5 : Nat) (a6 : Option Addr) (c6 : Nat) : List Value := [.bool x.1, .int .i64 x.2.1, .slice a1 x.2.2.1.1.length c1, .int .i64 x.2.2.1.2, .int .i64 x.2.2.2.1, .int .i64 x.2.2.2.2.1, .int .i64 x.2.2.2.2.2.1, .int .i64 x.2.2.2.2.2.2.1, .int .i64 x.2.2.2.2.2.2.2.1, .int .i64 x.2.2.2.2.2.2.2.2.1, .int .i64 x.2.2.2.2.2.2.2.2.2.1, .slice a2 x.2.2.2.2.2.2.2.2.2.2.1.length c2, .slice a3 x.2.2.2.2.2.2.2.2.2.2.2.1.length c3, .int .i64 x.2.2.2.2.2.2.2.2.2.2.2.2.1, .slice a4 x.2.2.2.2.2.2.2.2.2.2.2.2.2.1.1.length c4, .int .i64 x.2.2.2.2.2.2.2.2.2.2.2.2.2.1.2, .slice a5 x.2.2.2.2.2.2.2.2.2.2.2.2.2.2.1.length c5, .int .i64 x.2.2.2.2.2.2.2.2.2.2.2.2.2.2.2.1, .slice a6 x.2.2.2.2.2.2.2.2.2.2.2.2.2.2.2.2.1.length c6, .int .i64 x.2.2.2.2.2.2.2.2.2.2.2.2.2.2.2.2.2]
def TTx : TT := [
  (2, ⟨.int .i64, 1, 8, [.int .i64 0]⟩),
  (3, ⟨.int .i64, 1, 8, [.int .i64 0]⟩),
  (4, ⟨.bool, 1, 1, [.bool false]⟩),
  (5, ⟨.int .u8, 1, 1, [.int .u8 0]⟩),
  (6, ⟨.int .u8, 1, 1, [.int .u8 0]⟩),
  (7, ⟨.struct [(0, 2), (1, 3), (2, 4), (3, 6)], 4, 24, [.int .i64 0, .int .i64 0, .bool false, .int .u8 0]⟩),
  (8, ⟨.struct [(0, 2), (1, 3), (2, 4), (3, 6)], 4, 24, [.int .i64 0, .int .i64 0, .bool false, .int .u8 0]⟩),
  (9, ⟨.str, 1, 16, [.string ByteArray.empty]⟩),
  (10, ⟨.str, 1, 16, [.string ByteArray.empty]⟩),
  (11, ⟨.str, 1, 16, [.string ByteArray.empty]⟩),
  (12, ⟨.int .u64, 1, 8, [.int .u64 0]⟩),
  (13, ⟨.struct [(0, 9), (1, 12)], 2, 24, [.string ByteArray.empty, .int .u64 0]⟩),
  (14, ⟨.struct [(0, 9), (1, 12)], 2, 24, [.string ByteArray.empty, .int .u64 0]⟩),
  (21, ⟨.int .i32, 1, 4, [.int .i32 0]⟩),
  (22, ⟨.slice 3, 1, 24, [.slice none 0 0]⟩),
  (23, ⟨.struct [(0, 22), (1, 3)], 2, 32, [.slice none 0 0, .int .i64 0]⟩),
  (24, ⟨.struct [(0, 22), (1, 3)], 2, 32, [.slice none 0 0, .int .i64 0]⟩),
  (25, ⟨.slice 193, 1, 24, [.slice none 0 0]⟩),
  (26, ⟨.struct [(0, 25)], 1, 24, [.slice none 0 0]⟩),
  (27, ⟨.struct [(0, 25)], 1, 24, [.slice none 0 0]⟩),
  (28, ⟨.slice 24, 1, 24, [.slice none 0 0]⟩),
  (29, ⟨.struct [(0, 28)], 1, 24, [.slice none 0 0]⟩),
  (30, ⟨.struct [(0, 28)], 1, 24, [.slice none 0 0]⟩),
  (31, ⟨.struct [(0, 4), (1, 3), (2, 24), (4, 3), (5, 3), (6, 3), (7, 3), (8, 3), (9, 3), (10, 3), (11, 27), (12, 30), (13, 3), (14, 24), (16, 22), (17, 3), (18, 24)], 20, 256, [.bool false, .int .i64 0, .slice none 0 0, .int .i64 0, .int .i64 0, .int .i64 0, .int .i64 0, .int .i64 0, .int .i64 0, .int .i64 0, .int .i64 0, .slice none 0 0, .slice none 0 0, .int .i64 0, .slice none 0 0, .int .i64 0, .slice none 0 0, .int .i64 0, .slice none 0 0, .int .i64 0]⟩),
  (32, ⟨.struct [(0, 4), (1, 3), (2, 24), (4, 3), (5, 3), (6, 3), (7, 3), (8, 3), (9, 3), (10, 3), (11, 27), (12, 30), (13, 3), (14, 24), (16, 22), (17, 3), (18, 24)], 20, 256, [.bool false, .int .i64 0, .slice none 0 0, .int .i64 0, .int .i64 0, .int .i64 0, .int .i64 0, .int .i64 0, .int .i64 0, .int .i64 0, .int .i64 0, .slice none 0 0, .slice none 0 0, .int .i64 0, .slice none 0 0, .int .i64 0, .slice none 0 0, .int .i64 0, .slice none 0 0, .int .i64 0]⟩),
  (33, ⟨.slice 9, 1, 24, [.slice none 0 0]⟩),
  (34, ⟨.struct [(0, 3), (1, 33)], 2, 32, [.int .i64 0, .slice none 0 0]⟩),
  (35, ⟨.struct [(0, 3), (1, 33)], 2, 32, [.int .i64 0, .slice none 0 0]⟩),
  (38, ⟨.struct [(0, 22), (1, 3)], 2, 32, [.slice none 0 0, .int .i64 0]⟩),
  (39, ⟨.slice 174, 1, 24, [.slice none 0 0]⟩),
  (40, ⟨.struct [(0, 39)], 1, 24, [.slice none 0 0]⟩),
  (41, ⟨.struct [(0, 39)], 1, 24, [.slice none 0 0]⟩),
  (42, ⟨.slice 38, 1, 24, [.slice none 0 0]⟩),
  (43, ⟨.struct [(0, 42)], 1, 24, [.slice none 0 0]⟩),
  (44, ⟨.struct [(0, 42)], 1, 24, [.slice none 0 0]⟩),
  (45, ⟨.struct [(0, 4), (1, 3), (2, 38), (4, 3), (5, 3), (6, 3), (7, 3), (8, 3), (9, 3), (10, 3), (11, 41), (12, 44), (13, 3), (14, 38), (16, 22), (17, 3), (18, 38)], 20, 256, [.bool false, .int .i64 0, .slice none 0 0, .int .i64 0, .int .i64 0, .int .i64 0, .int .i64 0, .int .i64 0, .int .i64 0, .int .i64 0, .int .i64 0, .slice none 0 0, .slice none 0 0, .int .i64 0, .slice none 0 0, .int .i64 0, .slice none 0 0, .int .i64 0, .slice none 0 0, .int .i64 0]⟩),
  (46, ⟨.struct [(0, 4), (1, 3), (2, 38), (4, 3), (5, 3), (6, 3), (7, 3), (8, 3), (9, 3), (10, 3), (11, 41), (12, 44), (13, 3), (14, 38), (16, 22), (17, 3), (18, 38)], 20, 256, [.bool false, .int .i64 0, .slice none 0 0, .int .i64 0, .int .i64 0, .int .i64 0, .int .i64 0, .int .i64 0, .int .i64 0, .int .i64 0, .int .i64 0, .slice none 0 0, .slice none 0 0, .int .i64 0, .slice none 0 0, .int .i64 0, .slice none 0 0, .int .i64 0, .slice none 0 0, .int .i64 0]⟩),
  (50, ⟨.struct [(0, 3), (1, 33)], 2, 32, [.int .i64 0, .slice none 0 0]⟩),
  (60, ⟨.struct [(0, 3), (1, 3)], 2, 16, [.int .i64 0, .int .i64 0]⟩),
  (61, ⟨.struct [(0, 3), (1, 3)], 2, 16, [.int .i64 0, .int .i64 0]⟩),
  (64, ⟨.struct [(0, 3), (1, 3)], 2, 16, [.int .i64 0, .int .i64 0]⟩),
  (69, ⟨.slice 5, 1, 24, [.slice none 0 0]⟩),
  (73, ⟨.slice 64, 1, 24, [.slice none 0 0]⟩),
  (74, ⟨.slice 4, 1, 24, [.slice none 0 0]⟩),
  (163, ⟨.struct [(0, 69), (1, 3), (2, 3)], 3, 40, [.slice none 0 0, .int .i64 0, .int .i64 0]⟩),
  (164, ⟨.struct [(0, 69), (1, 3), (2, 3)], 3, 40, [.slice none 0 0, .int .i64 0, .int .i64 0]⟩),
  (173, ⟨.struct [(0, 22)], 1, 24, [.slice none 0 0]⟩),
  (174, ⟨.struct [(0, 22)], 1, 24, [.slice none 0 0]⟩),
  (193, ⟨.struct [(0, 22)], 1, 24, [.slice none 0 0]⟩),
  (197, ⟨.int .u64, 1, 8, [.int .u64 0]⟩),
  (214, ⟨.int .u32, 1, 4, [.int .u32 0]⟩),
  (225, ⟨.int .u8, 1, 1, [.int .u8 0]⟩),
  (226, ⟨.int .u8, 1, 1, [.int .u8 0]⟩),
  (229, ⟨.int .i32, 1, 4, [.int .i32 0]⟩),
  (230, ⟨.int .i32, 1, 4, [.int .i32 0]⟩)]

set_option maxRecDepth 100000 in
theorem ttOk : TTok Tryz.prog TTx := TTok.of (by
  simp only [TTx, List.forall_mem_cons]
  exact ⟨⟨⟨_, _, rfl, rfl, rfl, rfl, rfl⟩, rfl⟩, ⟨⟨_, _, rfl, rfl, rfl, rfl, rfl⟩, rfl⟩, ⟨⟨_, _, rfl, rfl, rfl, rfl, rfl⟩, rfl⟩, ⟨⟨_, _, rfl, rfl, rfl, rfl, rfl⟩, rfl⟩, ⟨⟨_, _, rfl, rfl, rfl, rfl, rfl⟩, rfl⟩, ⟨⟨_, _, rfl, rfl, rfl, rfl, rfl⟩, ⟨_, rfl, rfl⟩⟩, ⟨⟨_, _, rfl, rfl, rfl, rfl, rfl⟩, ⟨_, rfl, rfl⟩⟩, ⟨⟨_, _, rfl, rfl, rfl, rfl, rfl⟩, rfl⟩, ⟨⟨_, _, rfl, rfl, rfl, rfl, rfl⟩, rfl⟩, ⟨⟨_, _, rfl, rfl, rfl, rfl, rfl⟩, rfl⟩, ⟨⟨_, _, rfl, rfl, rfl, rfl, rfl⟩, rfl⟩, ⟨⟨_, _, rfl, rfl, rfl, rfl, rfl⟩, ⟨_, rfl, rfl⟩⟩, ⟨⟨_, _, rfl, rfl, rfl, rfl, rfl⟩, ⟨_, rfl, rfl⟩⟩, ⟨⟨_, _, rfl, rfl, rfl, rfl, rfl⟩, rfl⟩, ⟨⟨_, _, rfl, rfl, rfl, rfl, rfl⟩, rfl⟩, ⟨⟨_, _, rfl, rfl, rfl, rfl, rfl⟩, ⟨_, rfl, rfl⟩⟩, ⟨⟨_, _, rfl, rfl, rfl, rfl, rfl⟩, ⟨_, rfl, rfl⟩⟩, ⟨⟨_, _, rfl, rfl, rfl, rfl, rfl⟩, rfl⟩, ⟨⟨_, _, rfl, rfl, rfl, rfl, rfl⟩, ⟨_, rfl, rfl⟩⟩, ⟨⟨_, _, rfl, rfl, rfl, rfl, rfl⟩, ⟨_, rfl, rfl⟩⟩, ⟨⟨_, _, rfl, rfl, rfl, rfl, rfl⟩, rfl⟩, ⟨⟨_, _, rfl, rfl, rfl, rfl, rfl⟩, ⟨_, rfl, rfl⟩⟩, ⟨⟨_, _, rfl, rfl, rfl, rfl, rfl⟩, ⟨_, rfl, rfl⟩⟩, ⟨⟨_, _, rfl, rfl, rfl, rfl, rfl⟩, ⟨_, rfl, rfl⟩⟩, ⟨⟨_, _, rfl, rfl, rfl, rfl, rfl⟩, ⟨_, rfl, rfl⟩⟩, ⟨⟨_, _, rfl, rfl, rfl, rfl, rfl⟩, rfl⟩, ⟨⟨_, _, rfl, rfl, rfl, rfl, rfl⟩, ⟨_, rfl, rfl⟩⟩, ⟨⟨_, _, rfl, rfl, rfl, rfl, rfl⟩, ⟨_, rfl, rfl⟩⟩, ⟨⟨_, _, rfl, rfl, rfl, rfl, rfl⟩, ⟨_, rfl, rfl⟩⟩, ⟨⟨_, _, rfl, rfl, rfl, rfl, rfl⟩, rfl⟩, ⟨⟨_, _, rfl, rfl, rfl, rfl, rfl⟩, ⟨_, rfl, rfl⟩⟩, ⟨⟨_, _, rfl, rfl, rfl, rfl, rfl⟩, ⟨_, rfl, rfl⟩⟩, ⟨⟨_, _, rfl, rfl, rfl, rfl, rfl⟩, rfl⟩, ⟨⟨_, _, rfl, rfl, rfl, rfl, rfl⟩, ⟨_, rfl, rfl⟩⟩, ⟨⟨_, _, rfl, rfl, rfl, rfl, rfl⟩, ⟨_, rfl, rfl⟩⟩, ⟨⟨_, _, rfl, rfl, rfl, rfl, rfl⟩, ⟨_, rfl, rfl⟩⟩, ⟨⟨_, _, rfl, rfl, rfl, rfl, rfl⟩, ⟨_, rfl, rfl⟩⟩, ⟨⟨_, _, rfl, rfl, rfl, rfl, rfl⟩, ⟨_, rfl, rfl⟩⟩, ⟨⟨_, _, rfl, rfl, rfl, rfl, rfl⟩, ⟨_, rfl, rfl⟩⟩, ⟨⟨_, _, rfl, rfl, rfl, rfl, rfl⟩, ⟨_, rfl, rfl⟩⟩, ⟨⟨_, _, rfl, rfl, rfl, rfl, rfl⟩, ⟨_, rfl, rfl⟩⟩, ⟨⟨_, _, rfl, rfl, rfl, rfl, rfl⟩, rfl⟩, ⟨⟨_, _, rfl, rfl, rfl, rfl, rfl⟩, rfl⟩, ⟨⟨_, _, rfl, rfl, rfl, rfl, rfl⟩, rfl⟩, ⟨⟨_, _, rfl, rfl, rfl, rfl, rfl⟩, ⟨_, rfl, rfl⟩⟩, ⟨⟨_, _, rfl, rfl, rfl, rfl, rfl⟩, ⟨_, rfl, rfl⟩⟩, ⟨⟨_, _, rfl, rfl, rfl, rfl, rfl⟩, ⟨_, rfl, rfl⟩⟩, ⟨⟨_, _, rfl, rfl, rfl, rfl, rfl⟩, ⟨_, rfl, rfl⟩⟩, ⟨⟨_, _, rfl, rfl, rfl, rfl, rfl⟩, ⟨_, rfl, rfl⟩⟩, ⟨⟨_, _, rfl, rfl, rfl, rfl, rfl⟩, rfl⟩, ⟨⟨_, _, rfl, rfl, rfl, rfl, rfl⟩, rfl⟩, ⟨⟨_, _, rfl, rfl, rfl, rfl, rfl⟩, rfl⟩, ⟨⟨_, _, rfl, rfl, rfl, rfl, rfl⟩, rfl⟩, ⟨⟨_, _, rfl, rfl, rfl, rfl, rfl⟩, rfl⟩, ⟨⟨_, _, rfl, rfl, rfl, rfl, rfl⟩, rfl⟩, by simp⟩)

def M_l_szIntS (x0 : List Int) (x1 : Int) : Option Int :=
  (bif (decide ((W (x1 - (x0.length : Int))) < 0)) then
  some (-1)
  else
  some (W (x1 - (x0.length : Int))))

theorem ok_l_szIntS (x0 : List Int) (x1 : Int) (a3 : Option Addr) (c4 : Nat) (l5 : Nat) (hl6 : x0.length = l5) (r : Int) (h : M_l_szIntS x0 x1 = some r) :
    FC Tryz.prog 44 [.slice a3 l5 c4, .int .i64 x1] [⟨(.int .i64), ⟨a3, l5, c4⟩, x0⟩] (fun _ : Unit => True) (fun _ => .int .i64 r) (fun _ => []) :=
  by
    subst hl6
    refine FC.of (T := TTx) Tryz.call44 Tryz.func44 rfl rfl fun w0 => ?_
    unfold M_l_szIntS at h
    refine JS.rg0 ttOk 1 [] ⟨trivial, rfl⟩ rfl rfl (JS.rg ttOk 5 [(W (x1 - (x0.length : Int)))] [] [(1, .v (.int .i64 (W (x1 - (x0.length : Int)))))] _ ⟨⟨trivial, rfl⟩, ⟨rfl, trivial⟩, rfl⟩ rfl rfl (JS.seq (JS.rg0 ttOk 2 [(10, .v (.bool (decide ((W (x1 - (x0.length : Int))) < 0))))] ⟨⟨rfl, trivial⟩, rfl⟩ rfl rfl ?_)))
    refine JS.cond rfl (fun ht8 => ?_) (fun ht8 => ?_)
    · have h := condT h ht8
      refine JS.rg0 ttOk 1 [(4, .v (.int .i64 (-1)))] ⟨⟨rfl, trivial⟩, rfl⟩ rfl rfl ?_
      cases h
      exact JS.ret ttOk () trivial rfl rfl [] rfl
    have h := condF h ht8
    refine JS.skip (JS.rg0 ttOk 2 [(4, .v (.int .i64 (W (x1 - (x0.length : Int)))))] ⟨⟨rfl, trivial⟩, rfl⟩ rfl rfl ?_)
    cases h
    exact JS.ret ttOk () trivial rfl rfl [] rfl

def M_l_szLine (x0 : List Int × Int) (x1 : Int) : Option Int :=
  (bindO (M_l_szIntS x0.1 x1) fun (y7 : Int) =>
  (bif (decide (y7 < 0)) then
  some (-1)
  else
  some y7))

theorem ok_l_szLine (x0 : List Int × Int) (x1 : Int) (a3 : Option Addr) (c4 : Nat) (l5 : Nat) (hl6 : x0.1.length = l5) (r : Int) (h : M_l_szLine x0 x1 = some r) :
    FC Tryz.prog 41 [.agg #[.slice a3 l5 c4, .int .i64 x0.2], .int .i64 x1] [⟨(.int .i64), ⟨a3, l5, c4⟩, x0.1⟩] (fun _ : Unit => True) (fun _ => .int .i64 r) (fun _ => []) :=
  by
    subst hl6
    refine FC.of (T := TTx) Tryz.call41 Tryz.func41 rfl rfl fun w0 => ?_
    unfold M_l_szLine at h
    refine JS.rgB ttOk 2 [] [2] [(2, .bp 2 0)] (.new 2 24 [.slice a3 x0.1.length c4, .int .i64 x0.2] .nil) ⟨⟨rfl, trivial⟩, (Bs rfl rfl)⟩ rfl rfl (JS.seq (JS.region (JO.reg ttOk 3 [] [] [(6, .v (.slice a3 x0.1.length c4)), (7, .v (.int .i64 x1))] _ rfl ⟨(Es rfl), rfl⟩ ?_)))
    obtain ⟨y7, hy8, h⟩ := bindO_some h
    refine JO.call rfl rfl rfl rfl (ok_l_szIntS x0.1 x1 a3 c4 x0.1.length rfl _ hy8) rfl [0] rfl rfl fun _ _ => JO.reg ttOk 1 [] [] [(1, .v (.int .i64 y7))] _ rfl ⟨⟨rfl, trivial⟩, rfl⟩ (JO.done rfl (JS.seq (JS.rg0 ttOk 2 [(10, .v (.bool (decide (y7 < 0))))] ⟨⟨rfl, trivial⟩, rfl⟩ rfl rfl ?_)))
    refine JS.cond rfl (fun ht10 => ?_) (fun ht10 => ?_)
    · have h := condT h ht10
      refine JS.rg0 ttOk 1 [(4, .v (.int .i64 (-1)))] ⟨⟨rfl, trivial⟩, rfl⟩ rfl rfl ?_
      cases h
      exact JS.ret ttOk () trivial rfl rfl [] rfl
    have h := condF h ht10
    refine JS.skip (JS.rg0 ttOk 2 [(4, .v (.int .i64 y7))] ⟨⟨rfl, trivial⟩, rfl⟩ rfl rfl ?_)
    cases h
    exact JS.ret ttOk () trivial rfl rfl [] rfl

def M_l_szPiece (x0 : List Int) (x1 : Int) : Option Int :=
  (bindO (M_l_szIntS x0 x1) fun (y7 : Int) =>
  (bif (decide (y7 < 0)) then
  some (-1)
  else
  some y7))

theorem ok_l_szPiece (x0 : List Int) (x1 : Int) (a3 : Option Addr) (c4 : Nat) (l5 : Nat) (hl6 : x0.length = l5) (r : Int) (h : M_l_szPiece x0 x1 = some r) :
    FC Tryz.prog 226 [.agg #[.slice a3 l5 c4], .int .i64 x1] [⟨(.int .i64), ⟨a3, l5, c4⟩, x0⟩] (fun _ : Unit => True) (fun _ => .int .i64 r) (fun _ => []) :=
  by
    subst hl6
    refine FC.of (T := TTx) Tryz.call226 Tryz.func226 rfl rfl fun w0 => ?_
    unfold M_l_szPiece at h
    refine JS.rgB ttOk 2 [] [2] [(2, .bp 2 0)] (.new 2 193 [.slice a3 x0.length c4] .nil) ⟨⟨rfl, trivial⟩, (Bs rfl rfl)⟩ rfl rfl (JS.seq (JS.region (JO.reg ttOk 3 [] [] [(6, .v (.slice a3 x0.length c4)), (7, .v (.int .i64 x1))] _ rfl ⟨(Es rfl), rfl⟩ ?_)))
    obtain ⟨y7, hy8, h⟩ := bindO_some h
    refine JO.call rfl rfl rfl rfl (ok_l_szIntS x0 x1 a3 c4 x0.length rfl _ hy8) rfl [0] rfl rfl fun _ _ => JO.reg ttOk 1 [] [] [(1, .v (.int .i64 y7))] _ rfl ⟨⟨rfl, trivial⟩, rfl⟩ (JO.done rfl (JS.seq (JS.rg0 ttOk 2 [(10, .v (.bool (decide (y7 < 0))))] ⟨⟨rfl, trivial⟩, rfl⟩ rfl rfl ?_)))
    refine JS.cond rfl (fun ht10 => ?_) (fun ht10 => ?_)
    · have h := condT h ht10
      refine JS.rg0 ttOk 1 [(4, .v (.int .i64 (-1)))] ⟨⟨rfl, trivial⟩, rfl⟩ rfl rfl ?_
      cases h
      exact JS.ret ttOk () trivial rfl rfl [] rfl
    have h := condF h ht10
    refine JS.skip (JS.rg0 ttOk 2 [(4, .v (.int .i64 y7))] ⟨⟨rfl, trivial⟩, rfl⟩ rfl rfl ?_)
    cases h
    exact JS.ret ttOk () trivial rfl rfl [] rfl

def M_l_szPieceS_L1 (x0 : List (List Int)) (j26 : Int → Option Int) (k20 : (Int × Int) → Option Int) : (Int × Int) → Option Int := fun (x7, x8) =>
  (bif (decide (x8 < (x0.length : Int))) then
  (guardO (0 ≤ x8 ∧ x8 < (x0.length : Int)) <|
  (bindO (M_l_szPiece (at' x0 x8) x7) fun (y16 : Int) =>
  (bif (decide (y16 < 0)) then
  some (-1)
  else
  k20 (y16, (W (x8 + 1))))))
  else
  j26 x7)

def M_l_szPieceS (x0 : List (List Int)) (x1 : Int) : Option Int :=
  (bif (decide ((W (x1 - (x0.length : Int))) < 0)) then
  some (-1)
  else
  (joinO (fun (x25 : Int) =>
  some x25) fun j26 =>
  (fixF (M_l_szPieceS_L1 x0 j26) FUEL ((W (x1 - (x0.length : Int))), 0))))

theorem ok_l_szPieceS (x0 : List (List Int)) (x1 : Int) (a3 : Option Addr) (c4 : Nat) (l5 : Nat) (hl6 : x0.length = l5) (r : Int) (h : M_l_szPieceS x0 x1 = some r) :
    FC Tryz.prog 126 [.slice a3 l5 c4, .int .i64 x1] [⟨(.sl (.int .i64)), ⟨a3, l5, c4⟩, x0⟩] (fun _ : Unit => True) (fun _ => .int .i64 r) (fun _ => []) :=
  by
    subst hl6
    refine FC.of (T := TTx) Tryz.call126 Tryz.func126 rfl rfl fun w0 => ?_
    unfold M_l_szPieceS at h
    refine JS.rg0 ttOk 1 [] ⟨trivial, rfl⟩ rfl rfl (JS.rg ttOk 5 [(W (x1 - (x0.length : Int)))] [] [(1, .v (.int .i64 (W (x1 - (x0.length : Int)))))] _ ⟨⟨trivial, rfl⟩, ⟨rfl, trivial⟩, rfl⟩ rfl rfl (JS.seq (JS.rg0 ttOk 2 [(11, .v (.bool (decide ((W (x1 - (x0.length : Int))) < 0))))] ⟨⟨rfl, trivial⟩, rfl⟩ rfl rfl ?_)))
    refine JS.cond rfl (fun ht36 => ?_) (fun ht36 => ?_)
    · have h := condT h ht36
      refine JS.rg0 ttOk 1 [(4, .v (.int .i64 (-1)))] ⟨⟨rfl, trivial⟩, rfl⟩ rfl rfl ?_
      cases h
      exact JS.ret ttOk () trivial rfl rfl [] rfl
    have h := condF h ht36
    refine JS.skip (JS.seq (JS.rg0 ttOk 1 [(5, .v (.int .i64 0))] ⟨⟨rfl, trivial⟩, rfl⟩ rfl rfl ?_))
    obtain ⟨j26, hj35, h⟩ := joinO_some h
    refine JS.blockJ (ι := Int) ⟨fun z => j26 z = some r, fun z => [(1, .v (.int .i64 z))], fun z => .nil, fun z => [], fun z => [], fun z => 0⟩ ?_ ?_
    · refine JS.loop (ι := Nat × Int × Int) ⟨fun z => fixF (M_l_szPieceS_L1 x0 j26) z.1 (z.2.1, z.2.2) = some r, fun z => [(0, .v (.slice a3 x0.length c4)), (1, .v (.int .i64 z.2.1)), (5, .v (.int .i64 z.2.2))], fun z => .nil, fun z => [⟨(.sl (.int .i64)), ⟨a3, x0.length, c4⟩, x0⟩], fun z => [], fun z => z.1⟩ (FUEL, (W (x1 - (x0.length : Int))), 0) h (Es rfl) trivial [0] rfl [] rfl ?_
      rintro ⟨n21, x7, x8⟩ h
      obtain ⟨n21, rfl, h⟩ := fixF_some h
      rw [M_l_szPieceS_L1] at h
      refine JS.seq (JS.rg0 ttOk 4 [(15, .v (.bool (decide (x8 < (x0.length : Int)))))] ⟨⟨rfl, trivial⟩, rfl⟩ rfl rfl ?_)
      refine JS.cond rfl (fun ht34 => ?_) (fun ht34 => ?_)
      · have h := condT h ht34
        refine JS.skip (JS.seq (JS.block (JS.seq (JS.region (JO.know 0 rfl fun hs32 => ?_)))))
        obtain ⟨g10, h⟩ := guardO_some h
        refine JO.reg ttOk 3 [] [] [(20, .ep ⟨a3, x0.length, c4⟩ (Int.toNat x8 * 1))] _ rfl ⟨hs32.ix g10, ⟨rfl, trivial⟩, rfl⟩ (JO.openR 0 rfl (Int.toNat x8) (at' x0 x8) rfl fun a11 c12 ys13 hl14 hy15 => JO.loadV ttOk rfl rfl rfl rfl rfl rfl 0 rfl rfl (Int.toNat x8) 0 (Sl.v ⟨a11, (at' x0 x8).length, c12⟩) ⟨hy15 (ltNat g10), rfl⟩ rfl rfl rfl (JO.reg ttOk 1 [] [] [(22, .v (.int .i64 x7))] _ rfl ⟨⟨rfl, trivial⟩, rfl⟩ ?_))
        obtain ⟨y16, hy17, h⟩ := bindO_some h
        refine JO.call rfl rfl rfl rfl (ok_l_szPiece (at' x0 x8) x7 a11 c12 ((at' x0 x8).length) rfl _ hy17) rfl [1] rfl rfl fun _ _ => JO.reg ttOk 1 [] [] [(1, .v (.int .i64 y16))] _ rfl ⟨⟨rfl, trivial⟩, rfl⟩ (JO.done rfl (JS.rg0 ttOk 2 [(25, .v (.bool (decide (y16 < 0))))] ⟨⟨rfl, trivial⟩, rfl⟩ rfl rfl ?_))
        refine JS.cond rfl (fun ht33 => ?_) (fun ht33 => ?_)
        · have h := condT h ht33
          refine JS.rg0 ttOk 1 [(4, .v (.int .i64 (-1)))] ⟨⟨rfl, trivial⟩, rfl⟩ rfl rfl ?_
          cases h
          exact JS.ret ttOk () trivial rfl rfl [] rfl
        have h := condF h ht33
        refine JS.skip (JS.endB (JS.re ttOk 3 [(W (x8 + 1))] [] [(5, .v (.int .i64 (W (x8 + 1))))] _ ⟨⟨trivial, rfl⟩, ⟨rfl, trivial⟩, rfl⟩ rfl rfl (JS.endL (n21, y16, (W (x8 + 1))) h (Nat.lt_succ_self _) (Es rfl) trivial [2] rfl [] rfl)))
      have h := condF h ht34
      refine JS.exit rfl (JS.endJ x7 h ⟨rfl, trivial⟩ trivial [] rfl [] rfl)
    rintro x25 h
    subst hj35
    refine JS.rg0 ttOk 2 [(4, .v (.int .i64 x25))] ⟨⟨rfl, trivial⟩, rfl⟩ rfl rfl ?_
    cases h
    exact JS.ret ttOk () trivial rfl rfl [] rfl

def M_l_szRing (x0 : List (List Int)) (x1 : Int) : Option Int :=
  (bindO (M_l_szPieceS x0 x1) fun (y7 : Int) =>
  (bif (decide (y7 < 0)) then
  some (-1)
  else
  some y7))

theorem ok_l_szRing (x0 : List (List Int)) (x1 : Int) (a3 : Option Addr) (c4 : Nat) (l5 : Nat) (hl6 : x0.length = l5) (r : Int) (h : M_l_szRing x0 x1 = some r) :
    FC Tryz.prog 42 [.agg #[.slice a3 l5 c4], .int .i64 x1] [⟨(.sl (.int .i64)), ⟨a3, l5, c4⟩, x0⟩] (fun _ : Unit => True) (fun _ => .int .i64 r) (fun _ => []) :=
  by
    subst hl6
    refine FC.of (T := TTx) Tryz.call42 Tryz.func42 rfl rfl fun w0 => ?_
    unfold M_l_szRing at h
    refine JS.rgB ttOk 2 [] [2] [(2, .bp 2 0)] (.new 2 27 [.slice a3 x0.length c4] .nil) ⟨⟨rfl, trivial⟩, (Bs rfl rfl)⟩ rfl rfl (JS.seq (JS.region (JO.reg ttOk 3 [] [] [(6, .v (.slice a3 x0.length c4)), (7, .v (.int .i64 x1))] _ rfl ⟨(Es rfl), rfl⟩ ?_)))
    obtain ⟨y7, hy8, h⟩ := bindO_some h
    refine JO.call rfl rfl rfl rfl (ok_l_szPieceS x0 x1 a3 c4 x0.length rfl _ hy8) rfl [0] rfl rfl fun _ _ => JO.reg ttOk 1 [] [] [(1, .v (.int .i64 y7))] _ rfl ⟨⟨rfl, trivial⟩, rfl⟩ (JO.done rfl (JS.seq (JS.rg0 ttOk 2 [(10, .v (.bool (decide (y7 < 0))))] ⟨⟨rfl, trivial⟩, rfl⟩ rfl rfl ?_)))
    refine JS.cond rfl (fun ht10 => ?_) (fun ht10 => ?_)
    · have h := condT h ht10
      refine JS.rg0 ttOk 1 [(4, .v (.int .i64 (-1)))] ⟨⟨rfl, trivial⟩, rfl⟩ rfl rfl ?_
      cases h
      exact JS.ret ttOk () trivial rfl rfl [] rfl
    have h := condF h ht10
    refine JS.skip (JS.rg0 ttOk 2 [(4, .v (.int .i64 y7))] ⟨⟨rfl, trivial⟩, rfl⟩ rfl rfl ?_)
    cases h
    exact JS.ret ttOk () trivial rfl rfl [] rfl

def M_l_szLineS_L1 (x0 : List (List Int × Int)) (j26 : Int → Option Int) (k20 : (Int × Int) → Option Int) : (Int × Int) → Option Int := fun (x7, x8) =>
  (bif (decide (x8 < (x0.length : Int))) then
  (guardO (0 ≤ x8 ∧ x8 < (x0.length : Int)) <|
  (bindO (M_l_szLine ((at' x0 x8).1, (at' x0 x8).2) x7) fun (y16 : Int) =>
  (bif (decide (y16 < 0)) then
  some (-1)
  else
  k20 (y16, (W (x8 + 1))))))
  else
  j26 x7)

def M_l_szLineS (x0 : List (List Int × Int)) (x1 : Int) : Option Int :=
  (bif (decide ((W (x1 - (x0.length : Int))) < 0)) then
  some (-1)
  else
  (joinO (fun (x25 : Int) =>
  some x25) fun j26 =>
  (fixF (M_l_szLineS_L1 x0 j26) FUEL ((W (x1 - (x0.length : Int))), 0))))

theorem ok_l_szLineS (x0 : List (List Int × Int)) (x1 : Int) (a3 : Option Addr) (c4 : Nat) (l5 : Nat) (hl6 : x0.length = l5) (r : Int) (h : M_l_szLineS x0 x1 = some r) :
    FC Tryz.prog 127 [.slice a3 l5 c4, .int .i64 x1] [⟨(.pair (.sl (.int .i64)) (.int .i64)), ⟨a3, l5, c4⟩, x0⟩] (fun _ : Unit => True) (fun _ => .int .i64 r) (fun _ => []) :=
  by
    subst hl6
    refine FC.of (T := TTx) Tryz.call127 Tryz.func127 rfl rfl fun w0 => ?_
    unfold M_l_szLineS at h
    refine JS.rg0 ttOk 1 [] ⟨trivial, rfl⟩ rfl rfl (JS.rg ttOk 5 [(W (x1 - (x0.length : Int)))] [] [(1, .v (.int .i64 (W (x1 - (x0.length : Int)))))] _ ⟨⟨trivial, rfl⟩, ⟨rfl, trivial⟩, rfl⟩ rfl rfl (JS.seq (JS.rg0 ttOk 2 [(11, .v (.bool (decide ((W (x1 - (x0.length : Int))) < 0))))] ⟨⟨rfl, trivial⟩, rfl⟩ rfl rfl ?_)))
    refine JS.cond rfl (fun ht36 => ?_) (fun ht36 => ?_)
    · have h := condT h ht36
      refine JS.rg0 ttOk 1 [(4, .v (.int .i64 (-1)))] ⟨⟨rfl, trivial⟩, rfl⟩ rfl rfl ?_
      cases h
      exact JS.ret ttOk () trivial rfl rfl [] rfl
    have h := condF h ht36
    refine JS.skip (JS.seq (JS.rg0 ttOk 1 [(5, .v (.int .i64 0))] ⟨⟨rfl, trivial⟩, rfl⟩ rfl rfl ?_))
    obtain ⟨j26, hj35, h⟩ := joinO_some h
    refine JS.blockJ (ι := Int) ⟨fun z => j26 z = some r, fun z => [(1, .v (.int .i64 z))], fun z => .nil, fun z => [], fun z => [], fun z => 0⟩ ?_ ?_
    · refine JS.loop (ι := Nat × Int × Int) ⟨fun z => fixF (M_l_szLineS_L1 x0 j26) z.1 (z.2.1, z.2.2) = some r, fun z => [(0, .v (.slice a3 x0.length c4)), (1, .v (.int .i64 z.2.1)), (5, .v (.int .i64 z.2.2))], fun z => .nil, fun z => [⟨(.pair (.sl (.int .i64)) (.int .i64)), ⟨a3, x0.length, c4⟩, x0⟩], fun z => [], fun z => z.1⟩ (FUEL, (W (x1 - (x0.length : Int))), 0) h (Es rfl) trivial [0] rfl [] rfl ?_
      rintro ⟨n21, x7, x8⟩ h
      obtain ⟨n21, rfl, h⟩ := fixF_some h
      rw [M_l_szLineS_L1] at h
      refine JS.seq (JS.rg0 ttOk 4 [(15, .v (.bool (decide (x8 < (x0.length : Int)))))] ⟨⟨rfl, trivial⟩, rfl⟩ rfl rfl ?_)
      refine JS.cond rfl (fun ht34 => ?_) (fun ht34 => ?_)
      · have h := condT h ht34
        refine JS.skip (JS.seq (JS.block (JS.seq (JS.region (JO.know 0 rfl fun hs32 => ?_)))))
        obtain ⟨g10, h⟩ := guardO_some h
        refine JO.reg ttOk 3 [] [] [(20, .ep ⟨a3, x0.length, c4⟩ (Int.toNat x8 * 2))] _ rfl ⟨hs32.ix g10, ⟨rfl, trivial⟩, rfl⟩ (JO.openR 0 rfl (Int.toNat x8) (at' x0 x8) rfl fun a11 c12 ys13 hl14 hy15 => JO.loadV ttOk rfl rfl rfl rfl rfl rfl 0 rfl rfl (Int.toNat x8) 0 ((Sl.v ⟨a11, ((at' x0 x8).1).length, c12⟩), (at' x0 x8).2) ⟨hy15 (ltNat g10), rfl⟩ rfl rfl rfl (JO.reg ttOk 1 [] [] [(22, .v (.int .i64 x7))] _ rfl ⟨⟨rfl, trivial⟩, rfl⟩ ?_))
        obtain ⟨y16, hy17, h⟩ := bindO_some h
        refine JO.call rfl rfl rfl rfl (ok_l_szLine ((at' x0 x8).1, (at' x0 x8).2) x7 a11 c12 (((at' x0 x8).1).length) rfl _ hy17) rfl [1] rfl rfl fun _ _ => JO.reg ttOk 1 [] [] [(1, .v (.int .i64 y16))] _ rfl ⟨⟨rfl, trivial⟩, rfl⟩ (JO.done rfl (JS.rg0 ttOk 2 [(25, .v (.bool (decide (y16 < 0))))] ⟨⟨rfl, trivial⟩, rfl⟩ rfl rfl ?_))
        refine JS.cond rfl (fun ht33 => ?_) (fun ht33 => ?_)
        · have h := condT h ht33
          refine JS.rg0 ttOk 1 [(4, .v (.int .i64 (-1)))] ⟨⟨rfl, trivial⟩, rfl⟩ rfl rfl ?_
          cases h
          exact JS.ret ttOk () trivial rfl rfl [] rfl
        have h := condF h ht33
        refine JS.skip (JS.endB (JS.re ttOk 3 [(W (x8 + 1))] [] [(5, .v (.int .i64 (W (x8 + 1))))] _ ⟨⟨trivial, rfl⟩, ⟨rfl, trivial⟩, rfl⟩ rfl rfl (JS.endL (n21, y16, (W (x8 + 1))) h (Nat.lt_succ_self _) (Es rfl) trivial [2] rfl [] rfl)))
      have h := condF h ht34
      refine JS.exit rfl (JS.endJ x7 h ⟨rfl, trivial⟩ trivial [] rfl [] rfl)
    rintro x25 h
    subst hj35
    refine JS.rg0 ttOk 2 [(4, .v (.int .i64 x25))] ⟨⟨rfl, trivial⟩, rfl⟩ rfl rfl ?_
    cases h
    exact JS.ret ttOk () trivial rfl rfl [] rfl

def M_l_szUndo (x0 : List (List Int × Int)) (x1 : Int) : Option Int :=
  (bindO (M_l_szLineS x0 x1) fun (y7 : Int) =>
  (bif (decide (y7 < 0)) then
  some (-1)
  else
  some y7))

theorem ok_l_szUndo (x0 : List (List Int × Int)) (x1 : Int) (a3 : Option Addr) (c4 : Nat) (l5 : Nat) (hl6 : x0.length = l5) (r : Int) (h : M_l_szUndo x0 x1 = some r) :
    FC Tryz.prog 43 [.agg #[.slice a3 l5 c4], .int .i64 x1] [⟨(.pair (.sl (.int .i64)) (.int .i64)), ⟨a3, l5, c4⟩, x0⟩] (fun _ : Unit => True) (fun _ => .int .i64 r) (fun _ => []) :=
  by
    subst hl6
    refine FC.of (T := TTx) Tryz.call43 Tryz.func43 rfl rfl fun w0 => ?_
    unfold M_l_szUndo at h
    refine JS.rgB ttOk 2 [] [2] [(2, .bp 2 0)] (.new 2 30 [.slice a3 x0.length c4] .nil) ⟨⟨rfl, trivial⟩, (Bs rfl rfl)⟩ rfl rfl (JS.seq (JS.region (JO.reg ttOk 3 [] [] [(6, .v (.slice a3 x0.length c4)), (7, .v (.int .i64 x1))] _ rfl ⟨(Es rfl), rfl⟩ ?_)))
    obtain ⟨y7, hy8, h⟩ := bindO_some h
    refine JO.call rfl rfl rfl rfl (ok_l_szLineS x0 x1 a3 c4 x0.length rfl _ hy8) rfl [0] rfl rfl fun _ _ => JO.reg ttOk 1 [] [] [(1, .v (.int .i64 y7))] _ rfl ⟨⟨rfl, trivial⟩, rfl⟩ (JO.done rfl (JS.seq (JS.rg0 ttOk 2 [(10, .v (.bool (decide (y7 < 0))))] ⟨⟨rfl, trivial⟩, rfl⟩ rfl rfl ?_)))
    refine JS.cond rfl (fun ht10 => ?_) (fun ht10 => ?_)
    · have h := condT h ht10
      refine JS.rg0 ttOk 1 [(4, .v (.int .i64 (-1)))] ⟨⟨rfl, trivial⟩, rfl⟩ rfl rfl ?_
      cases h
      exact JS.ret ttOk () trivial rfl rfl [] rfl
    have h := condF h ht10
    refine JS.skip (JS.rg0 ttOk 2 [(4, .v (.int .i64 y7))] ⟨⟨rfl, trivial⟩, rfl⟩ rfl rfl ?_)
    cases h
    exact JS.ret ttOk () trivial rfl rfl [] rfl

def M_l_szEd (x0 : Bool × Int × (List Int × Int) × Int × Int × Int × Int × Int × Int × Int × List (List Int) × (List (List Int × Int)) × Int × (List Int × Int) × List Int × Int × List Int × Int) (x1 : Int) : Option Int :=
  (bindO (M_l_szLine x0.2.2.1 x1) fun (y27 : Int) =>
  (bif (decide (y27 < 0)) then
  some (-1)
  else
  (bindO (M_l_szRing x0.2.2.2.2.2.2.2.2.2.2.1 y27) fun (y29 : Int) =>
  (bif (decide (y29 < 0)) then
  some (-1)
  else
  (bindO (M_l_szUndo x0.2.2.2.2.2.2.2.2.2.2.2.1 y29) fun (y31 : Int) =>
  (bif (decide (y31 < 0)) then
  some (-1)
  else
  (bindO (M_l_szLine x0.2.2.2.2.2.2.2.2.2.2.2.2.2.1 y31) fun (y33 : Int) =>
  (bif (decide (y33 < 0)) then
  some (-1)
  else
  (bindO (M_l_szIntS x0.2.2.2.2.2.2.2.2.2.2.2.2.2.2.1 y33) fun (y35 : Int) =>
  (bif (decide (y35 < 0)) then
  some (-1)
  else
  (bindO (M_l_szLine x0.2.2.2.2.2.2.2.2.2.2.2.2.2.2.2.2 y35) fun (y37 : Int) =>
  (bif (decide (y37 < 0)) then
  some (-1)
  else
  some y37))))))))))))

theorem ok_l_szEd (x0 : Bool × Int × (List Int × Int) × Int × Int × Int × Int × Int × Int × Int × List (List Int) × (List (List Int × Int)) × Int × (List Int × Int) × List Int × Int × List Int × Int) (x1 : Int) (a3 : Option Addr) (c4 : Nat) (l5 : Nat) (hl6 : x0.2.2.1.1.length = l5) (a7 : Option Addr) (c8 : Nat) (l9 : Nat) (hl10 : x0.2.2.2.2.2.2.2.2.2.2.1.length = l9) (a11 : Option Addr) (c12 : Nat) (l13 : Nat) (hl14 : x0.2.2.2.2.2.2.2.2.2.2.2.1.length = l13) (a15 : Option Addr) (c16 : Nat) (l17 : Nat) (hl18 : x0.2.2.2.2.2.2.2.2.2.2.2.2.2.1.1.length = l17) (a19 : Option Addr) (c20 : Nat) (l21 : Nat) (hl22 : x0.2.2.2.2.2.2.2.2.2.2.2.2.2.2.1.length = l21) (a23 : Option Addr) (c24 : Nat) (l25 : Nat) (hl26 : x0.2.2.2.2.2.2.2.2.2.2.2.2.2.2.2.2.1.length = l25) (r : Int) (h : M_l_szEd x0 x1 = some r) :
    FC Tryz.prog 10 [.agg #[.bool x0.1, .int .i64 x0.2.1, .slice a3 l5 c4, .int .i64 x0.2.2.1.2, .int .i64 x0.2.2.2.1, .int .i64 x0.2.2.2.2.1, .int .i64 x0.2.2.2.2.2.1, .int .i64 x0.2.2.2.2.2.2.1, .int .i64 x0.2.2.2.2.2.2.2.1, .int .i64 x0.2.2.2.2.2.2.2.2.1, .int .i64 x0.2.2.2.2.2.2.2.2.2.1, .slice a7 l9 c8, .slice a11 l13 c12, .int .i64 x0.2.2.2.2.2.2.2.2.2.2.2.2.1, .slice a15 l17 c16, .int .i64 x0.2.2.2.2.2.2.2.2.2.2.2.2.2.1.2, .slice a19 l21 c20, .int .i64 x0.2.2.2.2.2.2.2.2.2.2.2.2.2.2.2.1, .slice a23 l25 c24, .int .i64 x0.2.2.2.2.2.2.2.2.2.2.2.2.2.2.2.2.2], .int .i64 x1] [⟨(.int .i64), ⟨a3, l5, c4⟩, x0.2.2.1.1⟩, ⟨(.sl (.int .i64)), ⟨a7, l9, c8⟩, x0.2.2.2.2.2.2.2.2.2.2.1⟩, ⟨(.pair (.sl (.int .i64)) (.int .i64)), ⟨a11, l13, c12⟩, x0.2.2.2.2.2.2.2.2.2.2.2.1⟩, ⟨(.int .i64), ⟨a15, l17, c16⟩, x0.2.2.2.2.2.2.2.2.2.2.2.2.2.1.1⟩, ⟨(.int .i64), ⟨a19, l21, c20⟩, x0.2.2.2.2.2.2.2.2.2.2.2.2.2.2.1⟩, ⟨(.int .i64), ⟨a23, l25, c24⟩, x0.2.2.2.2.2.2.2.2.2.2.2.2.2.2.2.2.1⟩] (fun _ : Unit => True) (fun _ => .int .i64 r) (fun _ => []) :=
  by
    subst hl6
    subst hl10
    subst hl14
    subst hl18
    subst hl22
    subst hl26
    refine FC.of (T := TTx) Tryz.call10 Tryz.func10 rfl rfl fun w0 => ?_
    unfold M_l_szEd at h
    refine JS.rgB ttOk 2 [] [7] [(2, .bp 7 0)] (.new 7 32 (cl32 x0 a3 c4 a7 c8 a11 c12 a15 c16 a19 c20 a23 c24) .nil) ⟨⟨rfl, trivial⟩, (Bs rfl rfl)⟩ rfl rfl (JS.seq (JS.region (JO.reg ttOk 3 [] [] [(6, .v (.agg #[.slice a3 x0.2.2.1.1.length c4, .int .i64 x0.2.2.1.2])), (7, .v (.int .i64 x1))] _ rfl ⟨(Es rfl), rfl⟩ ?_)))
    obtain ⟨y27, hy28, h⟩ := bindO_some h
    refine JO.call rfl rfl rfl rfl (ok_l_szLine x0.2.2.1 x1 a3 c4 x0.2.2.1.1.length rfl _ hy28) rfl [0] rfl rfl fun _ _ => JO.reg ttOk 1 [] [] [(1, .v (.int .i64 y27))] _ rfl ⟨⟨rfl, trivial⟩, rfl⟩ (JO.done rfl (JS.seq (JS.rg0 ttOk 2 [(10, .v (.bool (decide (y27 < 0))))] ⟨⟨rfl, trivial⟩, rfl⟩ rfl rfl ?_)))
    refine JS.cond rfl (fun ht50 => ?_) (fun ht50 => ?_)
    · have h := condT h ht50
      refine JS.rg0 ttOk 1 [(4, .v (.int .i64 (-1)))] ⟨⟨rfl, trivial⟩, rfl⟩ rfl rfl ?_
      cases h
      exact JS.ret ttOk () trivial rfl rfl [] rfl
    have h := condF h ht50
    refine JS.skip (JS.seq (JS.region (JO.reg ttOk 3 [] [] [(12, .v (.agg #[.slice a7 x0.2.2.2.2.2.2.2.2.2.2.1.length c8])), (13, .v (.int .i64 y27))] _ rfl ⟨(Es rfl), rfl⟩ ?_)))
    obtain ⟨y29, hy30, h⟩ := bindO_some h
    refine JO.call rfl rfl rfl rfl (ok_l_szRing x0.2.2.2.2.2.2.2.2.2.2.1 y27 a7 c8 x0.2.2.2.2.2.2.2.2.2.2.1.length rfl _ hy30) rfl [1] rfl rfl fun _ _ => JO.reg ttOk 1 [] [] [(1, .v (.int .i64 y29))] _ rfl ⟨⟨rfl, trivial⟩, rfl⟩ (JO.done rfl (JS.seq (JS.rg0 ttOk 2 [(16, .v (.bool (decide (y29 < 0))))] ⟨⟨rfl, trivial⟩, rfl⟩ rfl rfl ?_)))
    refine JS.cond rfl (fun ht49 => ?_) (fun ht49 => ?_)
    · have h := condT h ht49
      refine JS.rg0 ttOk 1 [(4, .v (.int .i64 (-1)))] ⟨⟨rfl, trivial⟩, rfl⟩ rfl rfl ?_
      cases h
      exact JS.ret ttOk () trivial rfl rfl [] rfl
    have h := condF h ht49
    refine JS.skip (JS.seq (JS.region (JO.reg ttOk 3 [] [] [(18, .v (.agg #[.slice a11 x0.2.2.2.2.2.2.2.2.2.2.2.1.length c12])), (19, .v (.int .i64 y29))] _ rfl ⟨(Es rfl), rfl⟩ ?_)))
    obtain ⟨y31, hy32, h⟩ := bindO_some h
    refine JO.call rfl rfl rfl rfl (ok_l_szUndo x0.2.2.2.2.2.2.2.2.2.2.2.1 y29 a11 c12 x0.2.2.2.2.2.2.2.2.2.2.2.1.length rfl _ hy32) rfl [2] rfl rfl fun _ _ => JO.reg ttOk 1 [] [] [(1, .v (.int .i64 y31))] _ rfl ⟨⟨rfl, trivial⟩, rfl⟩ (JO.done rfl (JS.seq (JS.rg0 ttOk 2 [(22, .v (.bool (decide (y31 < 0))))] ⟨⟨rfl, trivial⟩, rfl⟩ rfl rfl ?_)))
    refine JS.cond rfl (fun ht48 => ?_) (fun ht48 => ?_)
    · have h := condT h ht48
      refine JS.rg0 ttOk 1 [(4, .v (.int .i64 (-1)))] ⟨⟨rfl, trivial⟩, rfl⟩ rfl rfl ?_
      cases h
      exact JS.ret ttOk () trivial rfl rfl [] rfl
    have h := condF h ht48
    refine JS.skip (JS.seq (JS.region (JO.reg ttOk 3 [] [] [(24, .v (.agg #[.slice a15 x0.2.2.2.2.2.2.2.2.2.2.2.2.2.1.1.length c16, .int .i64 x0.2.2.2.2.2.2.2.2.2.2.2.2.2.1.2])), (25, .v (.int .i64 y31))] _ rfl ⟨(Es rfl), rfl⟩ ?_)))
    obtain ⟨y33, hy34, h⟩ := bindO_some h
    refine JO.call rfl rfl rfl rfl (ok_l_szLine x0.2.2.2.2.2.2.2.2.2.2.2.2.2.1 y31 a15 c16 x0.2.2.2.2.2.2.2.2.2.2.2.2.2.1.1.length rfl _ hy34) rfl [3] rfl rfl fun _ _ => JO.reg ttOk 1 [] [] [(1, .v (.int .i64 y33))] _ rfl ⟨⟨rfl, trivial⟩, rfl⟩ (JO.done rfl (JS.seq (JS.rg0 ttOk 2 [(28, .v (.bool (decide (y33 < 0))))] ⟨⟨rfl, trivial⟩, rfl⟩ rfl rfl ?_)))
    refine JS.cond rfl (fun ht47 => ?_) (fun ht47 => ?_)
    · have h := condT h ht47
      refine JS.rg0 ttOk 1 [(4, .v (.int .i64 (-1)))] ⟨⟨rfl, trivial⟩, rfl⟩ rfl rfl ?_
      cases h
      exact JS.ret ttOk () trivial rfl rfl [] rfl
    have h := condF h ht47
    refine JS.skip (JS.seq (JS.region (JO.reg ttOk 3 [] [] [(30, .v (.slice a19 x0.2.2.2.2.2.2.2.2.2.2.2.2.2.2.1.length c20)), (31, .v (.int .i64 y33))] _ rfl ⟨(Es rfl), rfl⟩ ?_)))
    obtain ⟨y35, hy36, h⟩ := bindO_some h
    refine JO.call rfl rfl rfl rfl (ok_l_szIntS x0.2.2.2.2.2.2.2.2.2.2.2.2.2.2.1 y33 a19 c20 x0.2.2.2.2.2.2.2.2.2.2.2.2.2.2.1.length rfl _ hy36) rfl [4] rfl rfl fun _ _ => JO.reg ttOk 1 [] [] [(1, .v (.int .i64 y35))] _ rfl ⟨⟨rfl, trivial⟩, rfl⟩ (JO.done rfl (JS.seq (JS.rg0 ttOk 2 [(34, .v (.bool (decide (y35 < 0))))] ⟨⟨rfl, trivial⟩, rfl⟩ rfl rfl ?_)))
    refine JS.cond rfl (fun ht46 => ?_) (fun ht46 => ?_)
    · have h := condT h ht46
      refine JS.rg0 ttOk 1 [(4, .v (.int .i64 (-1)))] ⟨⟨rfl, trivial⟩, rfl⟩ rfl rfl ?_
      cases h
      exact JS.ret ttOk () trivial rfl rfl [] rfl
    have h := condF h ht46
    refine JS.skip (JS.seq (JS.region (JO.reg ttOk 3 [] [] [(36, .v (.agg #[.slice a23 x0.2.2.2.2.2.2.2.2.2.2.2.2.2.2.2.2.1.length c24, .int .i64 x0.2.2.2.2.2.2.2.2.2.2.2.2.2.2.2.2.2])), (37, .v (.int .i64 y35))] _ rfl ⟨(Es rfl), rfl⟩ ?_)))
    obtain ⟨y37, hy38, h⟩ := bindO_some h
    refine JO.call rfl rfl rfl rfl (ok_l_szLine x0.2.2.2.2.2.2.2.2.2.2.2.2.2.2.2.2 y35 a23 c24 x0.2.2.2.2.2.2.2.2.2.2.2.2.2.2.2.2.1.length rfl _ hy38) rfl [5] rfl rfl fun _ _ => JO.reg ttOk 1 [] [] [(1, .v (.int .i64 y37))] _ rfl ⟨⟨rfl, trivial⟩, rfl⟩ (JO.done rfl (JS.seq (JS.rg0 ttOk 2 [(40, .v (.bool (decide (y37 < 0))))] ⟨⟨rfl, trivial⟩, rfl⟩ rfl rfl ?_)))
    refine JS.cond rfl (fun ht45 => ?_) (fun ht45 => ?_)
    · have h := condT h ht45
      refine JS.rg0 ttOk 1 [(4, .v (.int .i64 (-1)))] ⟨⟨rfl, trivial⟩, rfl⟩ rfl rfl ?_
      cases h
      exact JS.ret ttOk () trivial rfl rfl [] rfl
    have h := condF h ht45
    refine JS.skip (JS.rg0 ttOk 2 [(4, .v (.int .i64 y37))] ⟨⟨rfl, trivial⟩, rfl⟩ rfl rfl ?_)
    cases h
    exact JS.ret ttOk () trivial rfl rfl [] rfl

def M_l_szStringS_L1 (x0 : List (List UInt8)) (j19 : Int → Option Int) (k13 : (Int × Int) → Option Int) : (Int × Int) → Option Int := fun (x7, x8) =>
  (bif (decide (x8 < (x0.length : Int))) then
  (guardO (0 ≤ x8 ∧ x8 < (x0.length : Int)) <|
  (bif (decide ((W (x7 - ((at' x0 x8).length : Int))) < 0)) then
  some (-1)
  else
  k13 ((W (x7 - ((at' x0 x8).length : Int))), (W (x8 + 1)))))
  else
  j19 x7)

def M_l_szStringS (x0 : List (List UInt8)) (x1 : Int) : Option Int :=
  (bif (decide ((W (x1 - (x0.length : Int))) < 0)) then
  some (-1)
  else
  (joinO (fun (x18 : Int) =>
  some x18) fun j19 =>
  (fixF (M_l_szStringS_L1 x0 j19) FUEL ((W (x1 - (x0.length : Int))), 0))))

theorem ok_l_szStringS (x0 : List (List UInt8)) (x1 : Int) (a3 : Option Addr) (c4 : Nat) (l5 : Nat) (hl6 : x0.length = l5) (r : Int) (h : M_l_szStringS x0 x1 = some r) :
    FC Tryz.prog 45 [.slice a3 l5 c4, .int .i64 x1] [⟨.str, ⟨a3, l5, c4⟩, x0⟩] (fun _ : Unit => True) (fun _ => .int .i64 r) (fun _ => []) :=
  by
    subst hl6
    refine FC.of (T := TTx) Tryz.call45 Tryz.func45 rfl rfl fun w0 => ?_
    unfold M_l_szStringS at h
    refine JS.rg0 ttOk 1 [] ⟨trivial, rfl⟩ rfl rfl (JS.rg ttOk 5 [(W (x1 - (x0.length : Int)))] [] [(1, .v (.int .i64 (W (x1 - (x0.length : Int)))))] _ ⟨⟨trivial, rfl⟩, ⟨rfl, trivial⟩, rfl⟩ rfl rfl (JS.seq (JS.rg0 ttOk 2 [(11, .v (.bool (decide ((W (x1 - (x0.length : Int))) < 0))))] ⟨⟨rfl, trivial⟩, rfl⟩ rfl rfl ?_)))
    refine JS.cond rfl (fun ht29 => ?_) (fun ht29 => ?_)
    · have h := condT h ht29
      refine JS.rg0 ttOk 1 [(4, .v (.int .i64 (-1)))] ⟨⟨rfl, trivial⟩, rfl⟩ rfl rfl ?_
      cases h
      exact JS.ret ttOk () trivial rfl rfl [] rfl
    have h := condF h ht29
    refine JS.skip (JS.seq (JS.rg0 ttOk 1 [(5, .v (.int .i64 0))] ⟨⟨rfl, trivial⟩, rfl⟩ rfl rfl ?_))
    obtain ⟨j19, hj28, h⟩ := joinO_some h
    refine JS.blockJ (ι := Int) ⟨fun z => j19 z = some r, fun z => [(1, .v (.int .i64 z))], fun z => .nil, fun z => [], fun z => [], fun z => 0⟩ ?_ ?_
    · refine JS.loop (ι := Nat × Int × Int) ⟨fun z => fixF (M_l_szStringS_L1 x0 j19) z.1 (z.2.1, z.2.2) = some r, fun z => [(0, .v (.slice a3 x0.length c4)), (1, .v (.int .i64 z.2.1)), (5, .v (.int .i64 z.2.2))], fun z => .nil, fun z => [⟨.str, ⟨a3, x0.length, c4⟩, x0⟩], fun z => [], fun z => z.1⟩ (FUEL, (W (x1 - (x0.length : Int))), 0) h (Es rfl) trivial [0] rfl [] rfl ?_
      rintro ⟨n14, x7, x8⟩ h
      obtain ⟨n14, rfl, h⟩ := fixF_some h
      rw [M_l_szStringS_L1] at h
      refine JS.seq (JS.rg0 ttOk 4 [(15, .v (.bool (decide (x8 < (x0.length : Int)))))] ⟨⟨rfl, trivial⟩, rfl⟩ rfl rfl ?_)
      refine JS.cond rfl (fun ht27 => ?_) (fun ht27 => ?_)
      · have h := condT h ht27
        refine JS.skip (JS.seq (JS.block (JS.seq (JS.region (JO.know 0 rfl fun hs25 => ?_)))))
        obtain ⟨g10, h⟩ := guardO_some h
        refine JO.reg ttOk 4 [] [] [(18, .v (.int .i64 x7)), (21, .ep ⟨a3, x0.length, c4⟩ (Int.toNat x8 * 1))] _ rfl ⟨hs25.ix g10, (Es rfl), rfl⟩ (JO.load ttOk rfl rfl rfl rfl rfl rfl rfl 0 rfl rfl (Int.toNat x8) 0 (at' x0 x8) ⟨at_some g10, rfl⟩ rfl rfl (JO.reg ttOk 3 [(W (x7 - ((at' x0 x8).length : Int)))] [] [(1, .v (.int .i64 (W (x7 - ((at' x0 x8).length : Int)))))] _ rfl ⟨⟨trivial, rfl⟩, ⟨rfl, trivial⟩, rfl⟩ (JO.done rfl (JS.rg0 ttOk 2 [(26, .v (.bool (decide ((W (x7 - ((at' x0 x8).length : Int))) < 0))))] ⟨⟨rfl, trivial⟩, rfl⟩ rfl rfl ?_))))
        refine JS.cond rfl (fun ht26 => ?_) (fun ht26 => ?_)
        · have h := condT h ht26
          refine JS.rg0 ttOk 1 [(4, .v (.int .i64 (-1)))] ⟨⟨rfl, trivial⟩, rfl⟩ rfl rfl ?_
          cases h
          exact JS.ret ttOk () trivial rfl rfl [] rfl
        have h := condF h ht26
        refine JS.skip (JS.endB (JS.re ttOk 3 [(W (x8 + 1))] [] [(5, .v (.int .i64 (W (x8 + 1))))] _ ⟨⟨trivial, rfl⟩, ⟨rfl, trivial⟩, rfl⟩ rfl rfl (JS.endL (n14, (W (x7 - ((at' x0 x8).length : Int))), (W (x8 + 1))) h (Nat.lt_succ_self _) (Es rfl) trivial [0] rfl [] rfl)))
      have h := condF h ht27
      refine JS.exit rfl (JS.endJ x7 h ⟨rfl, trivial⟩ trivial [] rfl [] rfl)
    rintro x18 h
    subst hj28
    refine JS.rg0 ttOk 2 [(4, .v (.int .i64 x18))] ⟨⟨rfl, trivial⟩, rfl⟩ rfl rfl ?_
    cases h
    exact JS.ret ttOk () trivial rfl rfl [] rfl

def M_l_szHist (x0 : Int × List (List UInt8)) (x1 : Int) : Option Int :=
  (bindO (M_l_szStringS x0.2 x1) fun (y7 : Int) =>
  (bif (decide (y7 < 0)) then
  some (-1)
  else
  some y7))

theorem ok_l_szHist (x0 : Int × List (List UInt8)) (x1 : Int) (a3 : Option Addr) (c4 : Nat) (l5 : Nat) (hl6 : x0.2.length = l5) (r : Int) (h : M_l_szHist x0 x1 = some r) :
    FC Tryz.prog 11 [.agg #[.int .i64 x0.1, .slice a3 l5 c4], .int .i64 x1] [⟨.str, ⟨a3, l5, c4⟩, x0.2⟩] (fun _ : Unit => True) (fun _ => .int .i64 r) (fun _ => []) :=
  by
    subst hl6
    refine FC.of (T := TTx) Tryz.call11 Tryz.func11 rfl rfl fun w0 => ?_
    unfold M_l_szHist at h
    refine JS.rgB ttOk 2 [] [2] [(2, .bp 2 0)] (.new 2 35 [.int .i64 x0.1, .slice a3 x0.2.length c4] .nil) ⟨⟨rfl, trivial⟩, (Bs rfl rfl)⟩ rfl rfl (JS.seq (JS.region (JO.reg ttOk 3 [] [] [(6, .v (.slice a3 x0.2.length c4)), (7, .v (.int .i64 x1))] _ rfl ⟨(Es rfl), rfl⟩ ?_)))
    obtain ⟨y7, hy8, h⟩ := bindO_some h
    refine JO.call rfl rfl rfl rfl (ok_l_szStringS x0.2 x1 a3 c4 x0.2.length rfl _ hy8) rfl [0] rfl rfl fun _ _ => JO.reg ttOk 1 [] [] [(1, .v (.int .i64 y7))] _ rfl ⟨⟨rfl, trivial⟩, rfl⟩ (JO.done rfl (JS.seq (JS.rg0 ttOk 2 [(10, .v (.bool (decide (y7 < 0))))] ⟨⟨rfl, trivial⟩, rfl⟩ rfl rfl ?_)))
    refine JS.cond rfl (fun ht10 => ?_) (fun ht10 => ?_)
    · have h := condT h ht10
      refine JS.rg0 ttOk 1 [(4, .v (.int .i64 (-1)))] ⟨⟨rfl, trivial⟩, rfl⟩ rfl rfl ?_
      cases h
      exact JS.ret ttOk () trivial rfl rfl [] rfl
    have h := condF h ht10
    refine JS.skip (JS.rg0 ttOk 2 [(4, .v (.int .i64 y7))] ⟨⟨rfl, trivial⟩, rfl⟩ rfl rfl ?_)
    cases h
    exact JS.ret ttOk () trivial rfl rfl [] rfl

def M_l_toIntS_L1 (x0 : List Int) (j25 : (List Int) → Option (List Int)) (k17 : (List Int × Int) → Option (List Int)) : (List Int × Int) → Option (List Int) := fun (x8, x11) =>
  (bif (decide (x11 < (x0.length : Int))) then
  (guardO (0 ≤ x11 ∧ x11 < (x0.length : Int)) <|
  (guardO (0 ≤ x11 ∧ x11 < (x8.length : Int)) <|
  k17 ((List.set x8 (Int.toNat x11) (at' x0 x11)), (W (x11 + 1)))))
  else
  j25 x8)

def M_l_toIntS (x0 : List Int) : Option (List Int) :=
  (guardO (x0.length ≤ 536870912) <|
  (joinO (fun (x22 : List Int) =>
  some x22) fun j25 =>
  (fixF (M_l_toIntS_L1 x0 j25) FUEL ((List.replicate x0.length (0 : Int)), 0))))

theorem ok_l_toIntS (x0 : List Int) (a2 : Option Addr) (c3 : Nat) (l4 : Nat) (hl5 : x0.length = l4) (r : List Int) (h : M_l_toIntS x0 = some r) :
    FC Tryz.prog 15 [.slice a2 l4 c3] [⟨(.int .i64), ⟨a2, l4, c3⟩, x0⟩] (fun _ : Option Addr × Nat => True) (fun q => .slice q.1 r.length q.2) (fun q => [⟨(.int .i64), ⟨q.1, r.length, q.2⟩, r⟩]) :=
  by
    subst hl5
    refine FC.of (T := TTx) Tryz.call15 Tryz.func15 rfl rfl fun w0 => ?_
    unfold M_l_toIntS at h
    refine JS.rg0 ttOk 1 [] ⟨trivial, rfl⟩ rfl rfl (JS.seq (JS.region (JO.reg ttOk 2 [] [] [(6, .v (.int .i64 (x0.length : Int)))] _ rfl ⟨⟨rfl, trivial⟩, rfl⟩ ?_)))
    obtain ⟨g6, h⟩ := guardO_some h
    refine JO.makeSlice ttOk rfl rfl rfl rfl rfl rfl rfl rfl x0.length rfl g6 (.int .i64) rfl rfl rfl rfl rfl fun a7 => JO.reg ttOk 1 [] [] [(3, .v (.slice a7 x0.length x0.length))] _ rfl ⟨⟨rfl, trivial⟩, rfl⟩ (JO.done rfl (JS.seq (JS.rg0 ttOk 1 [(4, .v (.int .i64 0))] ⟨⟨rfl, trivial⟩, rfl⟩ rfl rfl ?_)))
    obtain ⟨j25, hj33, h⟩ := joinO_some h
    refine JS.blockJ (ι := List Int × Option Addr × Nat) ⟨fun z => j25 z.1 = some r, fun z => [(3, .v (.slice z.2.1 z.1.length z.2.2))], fun z => .nil, fun z => [], fun z => [⟨(.int .i64), ⟨z.2.1, z.1.length, z.2.2⟩, z.1⟩], fun z => 0⟩ ?_ ?_
    · refine JS.loop (ι := Nat × List Int × Int × Option Addr × Nat) ⟨fun z => fixF (M_l_toIntS_L1 x0 j25) z.1 (z.2.1, z.2.2.1) = some r, fun z => [(0, .v (.slice a2 x0.length c3)), (3, .v (.slice z.2.2.2.1 z.2.1.length z.2.2.2.2)), (4, .v (.int .i64 z.2.2.1))], fun z => .nil, fun z => [⟨(.int .i64), ⟨a2, x0.length, c3⟩, x0⟩], fun z => [⟨(.int .i64), ⟨z.2.2.2.1, z.2.1.length, z.2.2.2.2⟩, z.2.1⟩], fun z => z.1⟩ (FUEL, (List.replicate x0.length (0 : Int)), 0, a7, x0.length) h ⟨rfl, (by simp only [List.length_set, List.length_replicate, pickO, getF, cl32, cl46]; rfl), rfl, trivial⟩ trivial [0] rfl [0] (by simp only [List.length_set, List.length_replicate, pickO, getF, cl32, cl46]; rfl) ?_
      rintro ⟨n18, x8, x11, a9, c10⟩ h
      obtain ⟨n18, rfl, h⟩ := fixF_some h
      rw [M_l_toIntS_L1] at h
      refine JS.seq (JS.rg0 ttOk 4 [(11, .v (.bool (decide (x11 < (x0.length : Int)))))] ⟨⟨rfl, trivial⟩, rfl⟩ rfl rfl ?_)
      refine JS.cond rfl (fun ht32 => ?_) (fun ht32 => ?_)
      · have h := condT h ht32
        refine JS.skip (JS.seq (JS.block (JS.region (JO.know 0 rfl fun hs30 => ?_))))
        obtain ⟨g13, h⟩ := guardO_some h
        refine JO.reg ttOk 5 [] [] [(14, .v (.slice a9 x8.length c10)), (15, .v (.int .i64 x11)), (18, .ep ⟨a2, x0.length, c3⟩ (Int.toNat x11 * 1))] _ rfl ⟨hs30.ix g13, (Es rfl), rfl⟩ (JO.load ttOk rfl rfl rfl rfl rfl rfl rfl 0 rfl rfl (Int.toNat x11) 0 (at' x0 x11) ⟨at_some g13, rfl⟩ rfl rfl (JO.know 1 rfl fun hs31 => ?_))
        obtain ⟨g15, h⟩ := guardO_some h
        refine JO.reg ttOk 1 [] [] [(20, .ep ⟨a9, x8.length, c10⟩ (Int.toNat x11 * 1))] _ rfl ⟨hs31.ix g15, ⟨rfl, trivial⟩, rfl⟩ (JO.storeE ttOk rfl rfl rfl rfl rfl rfl rfl rfl rfl [0] (fs := []) rfl (Int.toNat x11) 0 (at' x8 x11) (at' x0 x11) ⟨at_some g15, rfl⟩ ⟨rfl, rfl, rfl⟩ (JO.done rfl (JS.endB (JS.re ttOk 3 [(W (x11 + 1))] [] [(4, .v (.int .i64 (W (x11 + 1))))] _ ⟨⟨trivial, rfl⟩, ⟨rfl, trivial⟩, rfl⟩ rfl rfl (JS.endL (n18, (List.set x8 (Int.toNat x11) (at' x0 x11)), (W (x11 + 1)), a9, c10) h (Nat.lt_succ_self _) ⟨rfl, (by simp only [List.length_set, List.length_replicate, pickO, getF, cl32, cl46]; rfl), rfl, trivial⟩ trivial [0] rfl [0] (by simp only [List.length_set, List.length_replicate, pickO, getF, cl32, cl46]; rfl))))))
      have h := condF h ht32
      refine JS.exit rfl (JS.endJ (x8, a9, c10) h ⟨rfl, trivial⟩ trivial [] rfl [0] rfl)
    rintro ⟨x22, a23, c24⟩ h
    subst hj33
    refine JS.rg0 ttOk 2 [(2, .v (.slice a23 x22.length c24))] ⟨⟨rfl, trivial⟩, rfl⟩ rfl rfl ?_
    cases h
    exact JS.ret ttOk (a23, c24) trivial rfl rfl [0] rfl

def M_l_toLine (x0 : List Int × Int) : Option (List Int × Int) :=
  (bindO (M_l_toIntS x0.1) fun (y6 : List Int) =>
  some (y6, x0.2))

theorem ok_l_toLine (x0 : List Int × Int) (a2 : Option Addr) (c3 : Nat) (l4 : Nat) (hl5 : x0.1.length = l4) (r : List Int × Int) (h : M_l_toLine x0 = some r) :
    FC Tryz.prog 53 [.agg #[.slice a2 l4 c3, .int .i64 x0.2]] [⟨(.int .i64), ⟨a2, l4, c3⟩, x0.1⟩] (fun _ : Option Addr × Nat => True) (fun q => .agg #[.slice q.1 r.1.length q.2, .int .i64 r.2]) (fun q => [⟨(.int .i64), ⟨q.1, r.1.length, q.2⟩, r.1⟩]) :=
  by
    subst hl5
    refine FC.of (T := TTx) Tryz.call53 Tryz.func53 rfl rfl fun w0 => ?_
    unfold M_l_toLine at h
    refine JS.rgB ttOk 2 [] [2, 3] [(1, .bp 2 0), (2, .bp 3 0)] (.new 2 24 [.slice a2 x0.1.length c3, .int .i64 x0.2] (.new 3 38 [.slice none 0 0, .int .i64 0] .nil)) ⟨(Es rfl), (Bs rfl rfl)⟩ rfl rfl (JS.rgB ttOk 1 [] [4] [(3, .bp 4 0)] (.new 2 24 [.slice a2 x0.1.length c3, .int .i64 x0.2] (.new 3 38 [.slice none 0 0, .int .i64 0] (.new 4 38 [.slice none 0 0, .int .i64 0] .nil))) ⟨⟨rfl, trivial⟩, (Bs rfl rfl)⟩ rfl rfl (JS.seq (JS.region (JO.reg ttOk 2 [] [] [(5, .v (.slice a2 x0.1.length c3))] _ rfl ⟨⟨rfl, trivial⟩, rfl⟩ ?_))))
    obtain ⟨y6, hy7, h⟩ := bindO_some h
    refine JO.call rfl rfl rfl rfl (ok_l_toIntS x0.1 a2 c3 x0.1.length rfl _ hy7) rfl [0] rfl rfl ?_
    rintro ⟨a8, c9⟩ -
    refine JO.regB ttOk 2 [] [] [] (.new 2 24 [.slice a2 x0.1.length c3, .int .i64 x0.2] (.new 3 38 [.slice none 0 0, .int .i64 0] (.new 4 38 [.slice a8 y6.length c9, .int .i64 0] .nil))) rfl ⟨trivial, (Bs rfl rfl)⟩ (JO.done rfl (JS.rgB ttOk 4 [] [] [] (.new 3 38 [.slice none 0 0, .int .i64 0] (.new 4 38 [.slice a8 y6.length c9, .int .i64 x0.2] .nil)) ⟨trivial, (Bs rfl rfl)⟩ rfl rfl (JS.rgB ttOk 2 [] [] [] (.new 3 38 [.slice a8 y6.length c9, .int .i64 x0.2] .nil) ⟨trivial, (Bs rfl rfl)⟩ rfl rfl ?_)))
    cases h
    exact JS.ret ttOk (a8, c9) trivial rfl rfl [0] rfl

def M_l_toPiece (x0 : List Int) : Option (List Int) :=
  (bindO (M_l_toIntS x0) fun (y6 : List Int) =>
  some y6)

theorem ok_l_toPiece (x0 : List Int) (a2 : Option Addr) (c3 : Nat) (l4 : Nat) (hl5 : x0.length = l4) (r : List Int) (h : M_l_toPiece x0 = some r) :
    FC Tryz.prog 232 [.agg #[.slice a2 l4 c3]] [⟨(.int .i64), ⟨a2, l4, c3⟩, x0⟩] (fun _ : Option Addr × Nat => True) (fun q => .agg #[.slice q.1 r.length q.2]) (fun q => [⟨(.int .i64), ⟨q.1, r.length, q.2⟩, r⟩]) :=
  by
    subst hl5
    refine FC.of (T := TTx) Tryz.call232 Tryz.func232 rfl rfl fun w0 => ?_
    unfold M_l_toPiece at h
    refine JS.rgB ttOk 2 [] [2, 3] [(1, .bp 2 0), (2, .bp 3 0)] (.new 2 193 [.slice a2 x0.length c3] (.new 3 174 [.slice none 0 0] .nil)) ⟨(Es rfl), (Bs rfl rfl)⟩ rfl rfl (JS.rgB ttOk 1 [] [4] [(3, .bp 4 0)] (.new 2 193 [.slice a2 x0.length c3] (.new 3 174 [.slice none 0 0] (.new 4 174 [.slice none 0 0] .nil))) ⟨⟨rfl, trivial⟩, (Bs rfl rfl)⟩ rfl rfl (JS.seq (JS.region (JO.reg ttOk 2 [] [] [(5, .v (.slice a2 x0.length c3))] _ rfl ⟨⟨rfl, trivial⟩, rfl⟩ ?_))))
    obtain ⟨y6, hy7, h⟩ := bindO_some h
    refine JO.call rfl rfl rfl rfl (ok_l_toIntS x0 a2 c3 x0.length rfl _ hy7) rfl [0] rfl rfl ?_
    rintro ⟨a8, c9⟩ -
    refine JO.regB ttOk 2 [] [] [] (.new 3 174 [.slice none 0 0] (.new 4 174 [.slice a8 y6.length c9] .nil)) rfl ⟨trivial, (Bs rfl rfl)⟩ (JO.done rfl (JS.rgB ttOk 2 [] [] [] (.new 3 174 [.slice a8 y6.length c9] .nil) ⟨trivial, (Bs rfl rfl)⟩ rfl rfl ?_))
    cases h
    exact JS.ret ttOk (a8, c9) trivial rfl rfl [0] rfl

def M_l_toPieceS_L1 (x0 : List (List Int)) (j34 : (List (List Int)) → Option (List (List Int))) (k26 : (List (List Int) × Int) → Option (List (List Int))) : (List (List Int) × Int) → Option (List (List Int)) := fun (x8, x11) =>
  (bif (decide (x11 < (x0.length : Int))) then
  (guardO (0 ≤ x11 ∧ x11 < (x0.length : Int)) <|
  (bindO (M_l_toPiece (at' x0 x11)) fun (y19 : List Int) =>
  (guardO (0 ≤ x11 ∧ x11 < (x8.length : Int)) <|
  k26 ((List.set x8 (Int.toNat x11) y19), (W (x11 + 1))))))
  else
  j34 x8)

def M_l_toPieceS (x0 : List (List Int)) : Option (List (List Int)) :=
  (guardO (x0.length ≤ 536870912) <|
  (joinO (fun (x31 : List (List Int)) =>
  some x31) fun j34 =>
  (fixF (M_l_toPieceS_L1 x0 j34) FUEL ((List.replicate x0.length []), 0))))

theorem ok_l_toPieceS (x0 : List (List Int)) (a2 : Option Addr) (c3 : Nat) (l4 : Nat) (hl5 : x0.length = l4) (r : List (List Int)) (h : M_l_toPieceS x0 = some r) :
    FC Tryz.prog 139 [.slice a2 l4 c3] [⟨(.sl (.int .i64)), ⟨a2, l4, c3⟩, x0⟩] (fun _ : Option Addr × Nat => True) (fun q => .slice q.1 r.length q.2) (fun q => [⟨(.sl (.int .i64)), ⟨q.1, r.length, q.2⟩, r⟩]) :=
  by
    subst hl5
    refine FC.of (T := TTx) Tryz.call139 Tryz.func139 rfl rfl fun w0 => ?_
    unfold M_l_toPieceS at h
    refine JS.rg0 ttOk 1 [] ⟨trivial, rfl⟩ rfl rfl (JS.seq (JS.region (JO.reg ttOk 2 [] [] [(6, .v (.int .i64 (x0.length : Int)))] _ rfl ⟨⟨rfl, trivial⟩, rfl⟩ ?_)))
    obtain ⟨g6, h⟩ := guardO_some h
    refine JO.makeSlice ttOk rfl rfl rfl rfl rfl rfl rfl rfl x0.length rfl g6 (.sl (.int .i64)) rfl rfl rfl rfl rfl fun a7 => JO.reg ttOk 1 [] [] [(3, .v (.slice a7 x0.length x0.length))] _ rfl ⟨⟨rfl, trivial⟩, rfl⟩ (JO.done rfl (JS.seq (JS.rg0 ttOk 1 [(4, .v (.int .i64 0))] ⟨⟨rfl, trivial⟩, rfl⟩ rfl rfl ?_)))
    obtain ⟨j34, hj42, h⟩ := joinO_some h
    refine JS.blockJ (ι := List (List Int) × Option Addr × Nat) ⟨fun z => j34 z.1 = some r, fun z => [(3, .v (.slice z.2.1 z.1.length z.2.2))], fun z => .nil, fun z => [], fun z => [⟨(.sl (.int .i64)), ⟨z.2.1, z.1.length, z.2.2⟩, z.1⟩], fun z => 0⟩ ?_ ?_
    · refine JS.loop (ι := Nat × List (List Int) × Int × Option Addr × Nat) ⟨fun z => fixF (M_l_toPieceS_L1 x0 j34) z.1 (z.2.1, z.2.2.1) = some r, fun z => [(0, .v (.slice a2 x0.length c3)), (3, .v (.slice z.2.2.2.1 z.2.1.length z.2.2.2.2)), (4, .v (.int .i64 z.2.2.1))], fun z => .nil, fun z => [⟨(.sl (.int .i64)), ⟨a2, x0.length, c3⟩, x0⟩], fun z => [⟨(.sl (.int .i64)), ⟨z.2.2.2.1, z.2.1.length, z.2.2.2.2⟩, z.2.1⟩], fun z => z.1⟩ (FUEL, (List.replicate x0.length []), 0, a7, x0.length) h ⟨rfl, (by simp only [List.length_set, List.length_replicate, pickO, getF, cl32, cl46]; rfl), rfl, trivial⟩ trivial [0] rfl [0] (by simp only [List.length_set, List.length_replicate, pickO, getF, cl32, cl46]; rfl) ?_
      rintro ⟨n27, x8, x11, a9, c10⟩ h
      obtain ⟨n27, rfl, h⟩ := fixF_some h
      rw [M_l_toPieceS_L1] at h
      refine JS.seq (JS.rg0 ttOk 4 [(11, .v (.bool (decide (x11 < (x0.length : Int)))))] ⟨⟨rfl, trivial⟩, rfl⟩ rfl rfl ?_)
      refine JS.cond rfl (fun ht41 => ?_) (fun ht41 => ?_)
      · have h := condT h ht41
        refine JS.skip (JS.seq (JS.block (JS.region (JO.know 0 rfl fun hs39 => ?_))))
        obtain ⟨g13, h⟩ := guardO_some h
        refine JO.reg ttOk 5 [] [] [(14, .v (.slice a9 x8.length c10)), (15, .v (.int .i64 x11)), (18, .ep ⟨a2, x0.length, c3⟩ (Int.toNat x11 * 1))] _ rfl ⟨hs39.ix g13, (Es rfl), rfl⟩ (JO.openR 0 rfl (Int.toNat x11) (at' x0 x11) rfl fun a14 c15 ys16 hl17 hy18 => JO.loadV ttOk rfl rfl rfl rfl rfl rfl 0 rfl rfl (Int.toNat x11) 0 (Sl.v ⟨a14, (at' x0 x11).length, c15⟩) ⟨hy18 (ltNat g13), rfl⟩ rfl rfl rfl ?_)
        obtain ⟨y19, hy20, h⟩ := bindO_some h
        refine JO.call rfl rfl rfl rfl (ok_l_toPiece (at' x0 x11) a14 c15 ((at' x0 x11).length) rfl _ hy20) rfl [1] rfl rfl ?_
        rintro ⟨a21, c22⟩ -
        refine JO.know 4 rfl fun hs40 => ?_
        obtain ⟨g24, h⟩ := guardO_some h
        refine JO.reg ttOk 1 [] [] [(21, .ep ⟨a9, x8.length, c10⟩ (Int.toNat x11 * 1))] _ rfl ⟨hs40.ix g24, ⟨rfl, trivial⟩, rfl⟩ (JO.storeE ttOk rfl rfl rfl rfl rfl rfl rfl rfl rfl [1, 0] (fs := [⟨(.int .i64), ⟨a21, y19.length, c22⟩, y19⟩]) rfl (Int.toNat x11) 0 (at' x8 x11) y19 ⟨at_some g24, rfl⟩ ⟨rfl, rfl, rfl, rfl⟩ (JO.done rfl (JS.endB (JS.re ttOk 3 [(W (x11 + 1))] [] [(4, .v (.int .i64 (W (x11 + 1))))] _ ⟨⟨trivial, rfl⟩, ⟨rfl, trivial⟩, rfl⟩ rfl rfl (JS.endL (n27, (List.set x8 (Int.toNat x11) y19), (W (x11 + 1)), a9, c10) h (Nat.lt_succ_self _) ⟨rfl, (by simp only [List.length_set, List.length_replicate, pickO, getF, cl32, cl46]; rfl), rfl, trivial⟩ trivial [2] rfl [0] (by simp only [List.length_set, List.length_replicate, pickO, getF, cl32, cl46]; rfl))))))
      have h := condF h ht41
      refine JS.exit rfl (JS.endJ (x8, a9, c10) h ⟨rfl, trivial⟩ trivial [] rfl [0] rfl)
    rintro ⟨x31, a32, c33⟩ h
    subst hj42
    refine JS.rg0 ttOk 2 [(2, .v (.slice a32 x31.length c33))] ⟨⟨rfl, trivial⟩, rfl⟩ rfl rfl ?_
    cases h
    exact JS.ret ttOk (a32, c33) trivial rfl rfl [0] rfl

def M_l_toRing (x0 : List (List Int)) : Option (List (List Int)) :=
  (bindO (M_l_toPieceS x0) fun (y6 : List (List Int)) =>
  some y6)

theorem ok_l_toRing (x0 : List (List Int)) (a2 : Option Addr) (c3 : Nat) (l4 : Nat) (hl5 : x0.length = l4) (r : List (List Int)) (h : M_l_toRing x0 = some r) :
    FC Tryz.prog 54 [.agg #[.slice a2 l4 c3]] [⟨(.sl (.int .i64)), ⟨a2, l4, c3⟩, x0⟩] (fun _ : Option Addr × Nat => True) (fun q => .agg #[.slice q.1 r.length q.2]) (fun q => [⟨(.sl (.int .i64)), ⟨q.1, r.length, q.2⟩, r⟩]) :=
  by
    subst hl5
    refine FC.of (T := TTx) Tryz.call54 Tryz.func54 rfl rfl fun w0 => ?_
    unfold M_l_toRing at h
    refine JS.rgB ttOk 2 [] [2, 3] [(1, .bp 2 0), (2, .bp 3 0)] (.new 2 27 [.slice a2 x0.length c3] (.new 3 41 [.slice none 0 0] .nil)) ⟨(Es rfl), (Bs rfl rfl)⟩ rfl rfl (JS.rgB ttOk 1 [] [4] [(3, .bp 4 0)] (.new 2 27 [.slice a2 x0.length c3] (.new 3 41 [.slice none 0 0] (.new 4 41 [.slice none 0 0] .nil))) ⟨⟨rfl, trivial⟩, (Bs rfl rfl)⟩ rfl rfl (JS.seq (JS.region (JO.reg ttOk 2 [] [] [(5, .v (.slice a2 x0.length c3))] _ rfl ⟨⟨rfl, trivial⟩, rfl⟩ ?_))))
    obtain ⟨y6, hy7, h⟩ := bindO_some h
    refine JO.call rfl rfl rfl rfl (ok_l_toPieceS x0 a2 c3 x0.length rfl _ hy7) rfl [0] rfl rfl ?_
    rintro ⟨a8, c9⟩ -
    refine JO.regB ttOk 2 [] [] [] (.new 3 41 [.slice none 0 0] (.new 4 41 [.slice a8 y6.length c9] .nil)) rfl ⟨trivial, (Bs rfl rfl)⟩ (JO.done rfl (JS.rgB ttOk 2 [] [] [] (.new 3 41 [.slice a8 y6.length c9] .nil) ⟨trivial, (Bs rfl rfl)⟩ rfl rfl ?_))
    cases h
    exact JS.ret ttOk (a8, c9) trivial rfl rfl [0] rfl

def M_l_toLineS_L1 (x0 : List (List Int × Int)) (j34 : (List (List Int × Int)) → Option (List (List Int × Int))) (k26 : ((List (List Int × Int)) × Int) → Option (List (List Int × Int))) : ((List (List Int × Int)) × Int) → Option (List (List Int × Int)) := fun (x8, x11) =>
  (bif (decide (x11 < (x0.length : Int))) then
  (guardO (0 ≤ x11 ∧ x11 < (x0.length : Int)) <|
  (bindO (M_l_toLine ((at' x0 x11).1, (at' x0 x11).2)) fun (y19 : List Int × Int) =>
  (guardO (0 ≤ x11 ∧ x11 < (x8.length : Int)) <|
  k26 ((List.set x8 (Int.toNat x11) y19), (W (x11 + 1))))))
  else
  j34 x8)

def M_l_toLineS (x0 : List (List Int × Int)) : Option (List (List Int × Int)) :=
  (guardO (x0.length ≤ 536870912) <|
  (joinO (fun (x31 : List (List Int × Int)) =>
  some x31) fun j34 =>
  (fixF (M_l_toLineS_L1 x0 j34) FUEL ((List.replicate x0.length ([], (0 : Int))), 0))))

theorem ok_l_toLineS (x0 : List (List Int × Int)) (a2 : Option Addr) (c3 : Nat) (l4 : Nat) (hl5 : x0.length = l4) (r : List (List Int × Int)) (h : M_l_toLineS x0 = some r) :
    FC Tryz.prog 140 [.slice a2 l4 c3] [⟨(.pair (.sl (.int .i64)) (.int .i64)), ⟨a2, l4, c3⟩, x0⟩] (fun _ : Option Addr × Nat => True) (fun q => .slice q.1 r.length q.2) (fun q => [⟨(.pair (.sl (.int .i64)) (.int .i64)), ⟨q.1, r.length, q.2⟩, r⟩]) :=
  by
    subst hl5
    refine FC.of (T := TTx) Tryz.call140 Tryz.func140 rfl rfl fun w0 => ?_
    unfold M_l_toLineS at h
    refine JS.rg0 ttOk 1 [] ⟨trivial, rfl⟩ rfl rfl (JS.seq (JS.region (JO.reg ttOk 2 [] [] [(6, .v (.int .i64 (x0.length : Int)))] _ rfl ⟨⟨rfl, trivial⟩, rfl⟩ ?_)))
    obtain ⟨g6, h⟩ := guardO_some h
    refine JO.makeSlice ttOk rfl rfl rfl rfl rfl rfl rfl rfl x0.length rfl g6 (.pair (.sl (.int .i64)) (.int .i64)) rfl rfl rfl rfl rfl fun a7 => JO.reg ttOk 1 [] [] [(3, .v (.slice a7 x0.length x0.length))] _ rfl ⟨⟨rfl, trivial⟩, rfl⟩ (JO.done rfl (JS.seq (JS.rg0 ttOk 1 [(4, .v (.int .i64 0))] ⟨⟨rfl, trivial⟩, rfl⟩ rfl rfl ?_)))
    obtain ⟨j34, hj42, h⟩ := joinO_some h
    refine JS.blockJ (ι := (List (List Int × Int)) × Option Addr × Nat) ⟨fun z => j34 z.1 = some r, fun z => [(3, .v (.slice z.2.1 z.1.length z.2.2))], fun z => .nil, fun z => [], fun z => [⟨(.pair (.sl (.int .i64)) (.int .i64)), ⟨z.2.1, z.1.length, z.2.2⟩, z.1⟩], fun z => 0⟩ ?_ ?_
    · refine JS.loop (ι := Nat × (List (List Int × Int)) × Int × Option Addr × Nat) ⟨fun z => fixF (M_l_toLineS_L1 x0 j34) z.1 (z.2.1, z.2.2.1) = some r, fun z => [(0, .v (.slice a2 x0.length c3)), (3, .v (.slice z.2.2.2.1 z.2.1.length z.2.2.2.2)), (4, .v (.int .i64 z.2.2.1))], fun z => .nil, fun z => [⟨(.pair (.sl (.int .i64)) (.int .i64)), ⟨a2, x0.length, c3⟩, x0⟩], fun z => [⟨(.pair (.sl (.int .i64)) (.int .i64)), ⟨z.2.2.2.1, z.2.1.length, z.2.2.2.2⟩, z.2.1⟩], fun z => z.1⟩ (FUEL, (List.replicate x0.length ([], (0 : Int))), 0, a7, x0.length) h ⟨rfl, (by simp only [List.length_set, List.length_replicate, pickO, getF, cl32, cl46]; rfl), rfl, trivial⟩ trivial [0] rfl [0] (by simp only [List.length_set, List.length_replicate, pickO, getF, cl32, cl46]; rfl) ?_
      rintro ⟨n27, x8, x11, a9, c10⟩ h
      obtain ⟨n27, rfl, h⟩ := fixF_some h
      rw [M_l_toLineS_L1] at h
      refine JS.seq (JS.rg0 ttOk 4 [(11, .v (.bool (decide (x11 < (x0.length : Int)))))] ⟨⟨rfl, trivial⟩, rfl⟩ rfl rfl ?_)
      refine JS.cond rfl (fun ht41 => ?_) (fun ht41 => ?_)
      · have h := condT h ht41
        refine JS.skip (JS.seq (JS.block (JS.region (JO.know 0 rfl fun hs39 => ?_))))
        obtain ⟨g13, h⟩ := guardO_some h
        refine JO.reg ttOk 5 [] [] [(14, .v (.slice a9 x8.length c10)), (15, .v (.int .i64 x11)), (18, .ep ⟨a2, x0.length, c3⟩ (Int.toNat x11 * 2))] _ rfl ⟨hs39.ix g13, (Es rfl), rfl⟩ (JO.openR 0 rfl (Int.toNat x11) (at' x0 x11) rfl fun a14 c15 ys16 hl17 hy18 => JO.loadV ttOk rfl rfl rfl rfl rfl rfl 0 rfl rfl (Int.toNat x11) 0 ((Sl.v ⟨a14, ((at' x0 x11).1).length, c15⟩), (at' x0 x11).2) ⟨hy18 (ltNat g13), rfl⟩ rfl rfl rfl ?_)
        obtain ⟨y19, hy20, h⟩ := bindO_some h
        refine JO.call rfl rfl rfl rfl (ok_l_toLine ((at' x0 x11).1, (at' x0 x11).2) a14 c15 (((at' x0 x11).1).length) rfl _ hy20) rfl [1] rfl rfl ?_
        rintro ⟨a21, c22⟩ -
        refine JO.know 4 rfl fun hs40 => ?_
        obtain ⟨g24, h⟩ := guardO_some h
        refine JO.reg ttOk 1 [] [] [(21, .ep ⟨a9, x8.length, c10⟩ (Int.toNat x11 * 2))] _ rfl ⟨hs40.ix g24, ⟨rfl, trivial⟩, rfl⟩ (JO.storeE ttOk rfl rfl rfl rfl rfl rfl rfl rfl rfl [1, 0] (fs := [⟨(.int .i64), ⟨a21, y19.1.length, c22⟩, y19.1⟩]) rfl (Int.toNat x11) 0 (at' x8 x11) y19 ⟨at_some g24, rfl⟩ ⟨rfl, rfl, rfl, rfl⟩ (JO.done rfl (JS.endB (JS.re ttOk 3 [(W (x11 + 1))] [] [(4, .v (.int .i64 (W (x11 + 1))))] _ ⟨⟨trivial, rfl⟩, ⟨rfl, trivial⟩, rfl⟩ rfl rfl (JS.endL (n27, (List.set x8 (Int.toNat x11) y19), (W (x11 + 1)), a9, c10) h (Nat.lt_succ_self _) ⟨rfl, (by simp only [List.length_set, List.length_replicate, pickO, getF, cl32, cl46]; rfl), rfl, trivial⟩ trivial [2] rfl [0] (by simp only [List.length_set, List.length_replicate, pickO, getF, cl32, cl46]; rfl))))))
      have h := condF h ht41
      refine JS.exit rfl (JS.endJ (x8, a9, c10) h ⟨rfl, trivial⟩ trivial [] rfl [0] rfl)
    rintro ⟨x31, a32, c33⟩ h
    subst hj42
    refine JS.rg0 ttOk 2 [(2, .v (.slice a32 x31.length c33))] ⟨⟨rfl, trivial⟩, rfl⟩ rfl rfl ?_
    cases h
    exact JS.ret ttOk (a32, c33) trivial rfl rfl [0] rfl

def M_l_toUndo (x0 : List (List Int × Int)) : Option (List (List Int × Int)) :=
  (bindO (M_l_toLineS x0) fun (y6 : List (List Int × Int)) =>
  some y6)

theorem ok_l_toUndo (x0 : List (List Int × Int)) (a2 : Option Addr) (c3 : Nat) (l4 : Nat) (hl5 : x0.length = l4) (r : List (List Int × Int)) (h : M_l_toUndo x0 = some r) :
    FC Tryz.prog 55 [.agg #[.slice a2 l4 c3]] [⟨(.pair (.sl (.int .i64)) (.int .i64)), ⟨a2, l4, c3⟩, x0⟩] (fun _ : Option Addr × Nat => True) (fun q => .agg #[.slice q.1 r.length q.2]) (fun q => [⟨(.pair (.sl (.int .i64)) (.int .i64)), ⟨q.1, r.length, q.2⟩, r⟩]) :=
  by
    subst hl5
    refine FC.of (T := TTx) Tryz.call55 Tryz.func55 rfl rfl fun w0 => ?_
    unfold M_l_toUndo at h
    refine JS.rgB ttOk 2 [] [2, 3] [(1, .bp 2 0), (2, .bp 3 0)] (.new 2 30 [.slice a2 x0.length c3] (.new 3 44 [.slice none 0 0] .nil)) ⟨(Es rfl), (Bs rfl rfl)⟩ rfl rfl (JS.rgB ttOk 1 [] [4] [(3, .bp 4 0)] (.new 2 30 [.slice a2 x0.length c3] (.new 3 44 [.slice none 0 0] (.new 4 44 [.slice none 0 0] .nil))) ⟨⟨rfl, trivial⟩, (Bs rfl rfl)⟩ rfl rfl (JS.seq (JS.region (JO.reg ttOk 2 [] [] [(5, .v (.slice a2 x0.length c3))] _ rfl ⟨⟨rfl, trivial⟩, rfl⟩ ?_))))
    obtain ⟨y6, hy7, h⟩ := bindO_some h
    refine JO.call rfl rfl rfl rfl (ok_l_toLineS x0 a2 c3 x0.length rfl _ hy7) rfl [0] rfl rfl ?_
    rintro ⟨a8, c9⟩ -
    refine JO.regB ttOk 2 [] [] [] (.new 3 44 [.slice none 0 0] (.new 4 44 [.slice a8 y6.length c9] .nil)) rfl ⟨trivial, (Bs rfl rfl)⟩ (JO.done rfl (JS.rgB ttOk 2 [] [] [] (.new 3 44 [.slice a8 y6.length c9] .nil) ⟨trivial, (Bs rfl rfl)⟩ rfl rfl ?_))
    cases h
    exact JS.ret ttOk (a8, c9) trivial rfl rfl [0] rfl

def M_l_toEd (x0 : Bool × Int × (List Int × Int) × Int × Int × Int × Int × Int × Int × Int × List (List Int) × (List (List Int × Int)) × Int × (List Int × Int) × List Int × Int × List Int × Int) : Option (Bool × Int × (List Int × Int) × Int × Int × Int × Int × Int × Int × Int × List (List Int) × (List (List Int × Int)) × Int × (List Int × Int) × List Int × Int × List Int × Int) :=
  (bindO (M_l_toLine x0.2.2.1) fun (y26 : List Int × Int) =>
  (bindO (M_l_toRing x0.2.2.2.2.2.2.2.2.2.2.1) fun (y30 : List (List Int)) =>
  (bindO (M_l_toUndo x0.2.2.2.2.2.2.2.2.2.2.2.1) fun (y34 : List (List Int × Int)) =>
  (bindO (M_l_toLine x0.2.2.2.2.2.2.2.2.2.2.2.2.2.1) fun (y38 : List Int × Int) =>
  (bindO (M_l_toIntS x0.2.2.2.2.2.2.2.2.2.2.2.2.2.2.1) fun (y42 : List Int) =>
  (bindO (M_l_toLine x0.2.2.2.2.2.2.2.2.2.2.2.2.2.2.2.2) fun (y46 : List Int × Int) =>
  some (x0.1, x0.2.1, y26, x0.2.2.2.1, x0.2.2.2.2.1, x0.2.2.2.2.2.1, x0.2.2.2.2.2.2.1, x0.2.2.2.2.2.2.2.1, x0.2.2.2.2.2.2.2.2.1, x0.2.2.2.2.2.2.2.2.2.1, y30, y34, x0.2.2.2.2.2.2.2.2.2.2.2.2.1, y38, y42, x0.2.2.2.2.2.2.2.2.2.2.2.2.2.2.2.1, y46)))))))

theorem ok_l_toEd (x0 : Bool × Int × (List Int × Int) × Int × Int × Int × Int × Int × Int × Int × List (List Int) × (List (List Int × Int)) × Int × (List Int × Int) × List Int × Int × List Int × Int) (a2 : Option Addr) (c3 : Nat) (l4 : Nat) (hl5 : x0.2.2.1.1.length = l4) (a6 : Option Addr) (c7 : Nat) (l8 : Nat) (hl9 : x0.2.2.2.2.2.2.2.2.2.2.1.length = l8) (a10 : Option Addr) (c11 : Nat) (l12 : Nat) (hl13 : x0.2.2.2.2.2.2.2.2.2.2.2.1.length = l12) (a14 : Option Addr) (c15 : Nat) (l16 : Nat) (hl17 : x0.2.2.2.2.2.2.2.2.2.2.2.2.2.1.1.length = l16) (a18 : Option Addr) (c19 : Nat) (l20 : Nat) (hl21 : x0.2.2.2.2.2.2.2.2.2.2.2.2.2.2.1.length = l20) (a22 : Option Addr) (c23 : Nat) (l24 : Nat) (hl25 : x0.2.2.2.2.2.2.2.2.2.2.2.2.2.2.2.2.1.length = l24) (r : Bool × Int × (List Int × Int) × Int × Int × Int × Int × Int × Int × Int × List (List Int) × (List (List Int × Int)) × Int × (List Int × Int) × List Int × Int × List Int × Int) (h : M_l_toEd x0 = some r) :
    FC Tryz.prog 13 [.agg #[.bool x0.1, .int .i64 x0.2.1, .slice a2 l4 c3, .int .i64 x0.2.2.1.2, .int .i64 x0.2.2.2.1, .int .i64 x0.2.2.2.2.1, .int .i64 x0.2.2.2.2.2.1, .int .i64 x0.2.2.2.2.2.2.1, .int .i64 x0.2.2.2.2.2.2.2.1, .int .i64 x0.2.2.2.2.2.2.2.2.1, .int .i64 x0.2.2.2.2.2.2.2.2.2.1, .slice a6 l8 c7, .slice a10 l12 c11, .int .i64 x0.2.2.2.2.2.2.2.2.2.2.2.2.1, .slice a14 l16 c15, .int .i64 x0.2.2.2.2.2.2.2.2.2.2.2.2.2.1.2, .slice a18 l20 c19, .int .i64 x0.2.2.2.2.2.2.2.2.2.2.2.2.2.2.2.1, .slice a22 l24 c23, .int .i64 x0.2.2.2.2.2.2.2.2.2.2.2.2.2.2.2.2.2]] [⟨(.int .i64), ⟨a2, l4, c3⟩, x0.2.2.1.1⟩, ⟨(.sl (.int .i64)), ⟨a6, l8, c7⟩, x0.2.2.2.2.2.2.2.2.2.2.1⟩, ⟨(.pair (.sl (.int .i64)) (.int .i64)), ⟨a10, l12, c11⟩, x0.2.2.2.2.2.2.2.2.2.2.2.1⟩, ⟨(.int .i64), ⟨a14, l16, c15⟩, x0.2.2.2.2.2.2.2.2.2.2.2.2.2.1.1⟩, ⟨(.int .i64), ⟨a18, l20, c19⟩, x0.2.2.2.2.2.2.2.2.2.2.2.2.2.2.1⟩, ⟨(.int .i64), ⟨a22, l24, c23⟩, x0.2.2.2.2.2.2.2.2.2.2.2.2.2.2.2.2.1⟩] (fun _ : Option Addr × Nat × Option Addr × Nat × Option Addr × Nat × Option Addr × Nat × Option Addr × Nat × Option Addr × Nat => True) (fun q => .agg (cl46 r q.1 q.2.1 q.2.2.1 q.2.2.2.1 q.2.2.2.2.1 q.2.2.2.2.2.1 q.2.2.2.2.2.2.1 q.2.2.2.2.2.2.2.1 q.2.2.2.2.2.2.2.2.1 q.2.2.2.2.2.2.2.2.2.1 q.2.2.2.2.2.2.2.2.2.2.1 q.2.2.2.2.2.2.2.2.2.2.2).toArray) (fun q => [⟨(.int .i64), ⟨q.1, r.2.2.1.1.length, q.2.1⟩, r.2.2.1.1⟩, ⟨(.sl (.int .i64)), ⟨q.2.2.1, r.2.2.2.2.2.2.2.2.2.2.1.length, q.2.2.2.1⟩, r.2.2.2.2.2.2.2.2.2.2.1⟩, ⟨(.pair (.sl (.int .i64)) (.int .i64)), ⟨q.2.2.2.2.1, r.2.2.2.2.2.2.2.2.2.2.2.1.length, q.2.2.2.2.2.1⟩, r.2.2.2.2.2.2.2.2.2.2.2.1⟩, ⟨(.int .i64), ⟨q.2.2.2.2.2.2.1, r.2.2.2.2.2.2.2.2.2.2.2.2.2.1.1.length, q.2.2.2.2.2.2.2.1⟩, r.2.2.2.2.2.2.2.2.2.2.2.2.2.1.1⟩, ⟨(.int .i64), ⟨q.2.2.2.2.2.2.2.2.1, r.2.2.2.2.2.2.2.2.2.2.2.2.2.2.1.length, q.2.2.2.2.2.2.2.2.2.1⟩, r.2.2.2.2.2.2.2.2.2.2.2.2.2.2.1⟩, ⟨(.int .i64), ⟨q.2.2.2.2.2.2.2.2.2.2.1, r.2.2.2.2.2.2.2.2.2.2.2.2.2.2.2.2.1.length, q.2.2.2.2.2.2.2.2.2.2.2⟩, r.2.2.2.2.2.2.2.2.2.2.2.2.2.2.2.2.1⟩]) :=
  by
    subst hl5
    subst hl9
    subst hl13
    subst hl17
    subst hl21
    subst hl25
    refine FC.of (T := TTx) Tryz.call13 Tryz.func13 rfl rfl fun w0 => ?_
    unfold M_l_toEd at h
    refine JS.rgB ttOk 2 [] [7, 8] [(1, .bp 7 0), (2, .bp 8 0)] (.new 7 32 (cl32 x0 a2 c3 a6 c7 a10 c11 a14 c15 a18 c19 a22 c23) (.new 8 46 (cl46 (false, 0, ([], 0), 0, 0, 0, 0, 0, 0, 0, [], [], 0, ([], 0), [], 0, ([], 0)) none 0 none 0 none 0 none 0 none 0 none 0) .nil)) ⟨(Es rfl), (Bs rfl rfl)⟩ rfl rfl (JS.rgB ttOk 1 [] [9] [(3, .bp 9 0)] (.new 7 32 (cl32 x0 a2 c3 a6 c7 a10 c11 a14 c15 a18 c19 a22 c23) (.new 8 46 (cl46 (false, 0, ([], 0), 0, 0, 0, 0, 0, 0, 0, [], [], 0, ([], 0), [], 0, ([], 0)) none 0 none 0 none 0 none 0 none 0 none 0) (.new 9 46 (cl46 (false, 0, ([], 0), 0, 0, 0, 0, 0, 0, 0, [], [], 0, ([], 0), [], 0, ([], 0)) none 0 none 0 none 0 none 0 none 0 none 0) .nil))) ⟨⟨rfl, trivial⟩, (Bs rfl rfl)⟩ rfl rfl (JS.rgB ttOk 4 [] [] [] (.new 7 32 (cl32 x0 a2 c3 a6 c7 a10 c11 a14 c15 a18 c19 a22 c23) (.new 8 46 (cl46 (false, 0, ([], 0), 0, 0, 0, 0, 0, 0, 0, [], [], 0, ([], 0), [], 0, ([], 0)) none 0 none 0 none 0 none 0 none 0 none 0) (.new 9 46 (cl46 (x0.1, 0, ([], 0), 0, 0, 0, 0, 0, 0, 0, [], [], 0, ([], 0), [], 0, ([], 0)) none 0 none 0 none 0 none 0 none 0 none 0) .nil))) ⟨trivial, (Bs rfl rfl)⟩ rfl rfl (JS.rgB ttOk 4 [] [] [] (.new 7 32 (cl32 x0 a2 c3 a6 c7 a10 c11 a14 c15 a18 c19 a22 c23) (.new 8 46 (cl46 (false, 0, ([], 0), 0, 0, 0, 0, 0, 0, 0, [], [], 0, ([], 0), [], 0, ([], 0)) none 0 none 0 none 0 none 0 none 0 none 0) (.new 9 46 (cl46 (x0.1, x0.2.1, ([], 0), 0, 0, 0, 0, 0, 0, 0, [], [], 0, ([], 0), [], 0, ([], 0)) none 0 none 0 none 0 none 0 none 0 none 0) .nil))) ⟨trivial, (Bs rfl rfl)⟩ rfl rfl (JS.seq (JS.region (JO.reg ttOk 2 [] [] [(11, .v (.agg #[.slice a2 x0.2.2.1.1.length c3, .int .i64 x0.2.2.1.2]))] _ rfl ⟨⟨rfl, trivial⟩, rfl⟩ ?_))))))
    obtain ⟨y26, hy27, h⟩ := bindO_some h
    refine JO.call rfl rfl rfl rfl (ok_l_toLine x0.2.2.1 a2 c3 x0.2.2.1.1.length rfl _ hy27) rfl [0] rfl rfl ?_
    rintro ⟨a28, c29⟩ -
    refine JO.regB ttOk 2 [] [] [] (.new 7 32 (cl32 x0 a2 c3 a6 c7 a10 c11 a14 c15 a18 c19 a22 c23) (.new 8 46 (cl46 (false, 0, ([], 0), 0, 0, 0, 0, 0, 0, 0, [], [], 0, ([], 0), [], 0, ([], 0)) none 0 none 0 none 0 none 0 none 0 none 0) (.new 9 46 (cl46 (x0.1, x0.2.1, y26, 0, 0, 0, 0, 0, 0, 0, [], [], 0, ([], 0), [], 0, ([], 0)) a28 c29 none 0 none 0 none 0 none 0 none 0) .nil))) rfl ⟨trivial, (Bs rfl rfl)⟩ (JO.done rfl (JS.rgB ttOk 4 [] [] [] (.new 7 32 (cl32 x0 a2 c3 a6 c7 a10 c11 a14 c15 a18 c19 a22 c23) (.new 8 46 (cl46 (false, 0, ([], 0), 0, 0, 0, 0, 0, 0, 0, [], [], 0, ([], 0), [], 0, ([], 0)) none 0 none 0 none 0 none 0 none 0 none 0) (.new 9 46 (cl46 (x0.1, x0.2.1, y26, x0.2.2.2.1, 0, 0, 0, 0, 0, 0, [], [], 0, ([], 0), [], 0, ([], 0)) a28 c29 none 0 none 0 none 0 none 0 none 0) .nil))) ⟨trivial, (Bs rfl rfl)⟩ rfl rfl (JS.rgB ttOk 4 [] [] [] (.new 7 32 (cl32 x0 a2 c3 a6 c7 a10 c11 a14 c15 a18 c19 a22 c23) (.new 8 46 (cl46 (false, 0, ([], 0), 0, 0, 0, 0, 0, 0, 0, [], [], 0, ([], 0), [], 0, ([], 0)) none 0 none 0 none 0 none 0 none 0 none 0) (.new 9 46 (cl46 (x0.1, x0.2.1, y26, x0.2.2.2.1, x0.2.2.2.2.1, 0, 0, 0, 0, 0, [], [], 0, ([], 0), [], 0, ([], 0)) a28 c29 none 0 none 0 none 0 none 0 none 0) .nil))) ⟨trivial, (Bs rfl rfl)⟩ rfl rfl (JS.rgB ttOk 4 [] [] [] (.new 7 32 (cl32 x0 a2 c3 a6 c7 a10 c11 a14 c15 a18 c19 a22 c23) (.new 8 46 (cl46 (false, 0, ([], 0), 0, 0, 0, 0, 0, 0, 0, [], [], 0, ([], 0), [], 0, ([], 0)) none 0 none 0 none 0 none 0 none 0 none 0) (.new 9 46 (cl46 (x0.1, x0.2.1, y26, x0.2.2.2.1, x0.2.2.2.2.1, x0.2.2.2.2.2.1, 0, 0, 0, 0, [], [], 0, ([], 0), [], 0, ([], 0)) a28 c29 none 0 none 0 none 0 none 0 none 0) .nil))) ⟨trivial, (Bs rfl rfl)⟩ rfl rfl (JS.rgB ttOk 4 [] [] [] (.new 7 32 (cl32 x0 a2 c3 a6 c7 a10 c11 a14 c15 a18 c19 a22 c23) (.new 8 46 (cl46 (false, 0, ([], 0), 0, 0, 0, 0, 0, 0, 0, [], [], 0, ([], 0), [], 0, ([], 0)) none 0 none 0 none 0 none 0 none 0 none 0) (.new 9 46 (cl46 (x0.1, x0.2.1, y26, x0.2.2.2.1, x0.2.2.2.2.1, x0.2.2.2.2.2.1, x0.2.2.2.2.2.2.1, 0, 0, 0, [], [], 0, ([], 0), [], 0, ([], 0)) a28 c29 none 0 none 0 none 0 none 0 none 0) .nil))) ⟨trivial, (Bs rfl rfl)⟩ rfl rfl (JS.rgB ttOk 4 [] [] [] (.new 7 32 (cl32 x0 a2 c3 a6 c7 a10 c11 a14 c15 a18 c19 a22 c23) (.new 8 46 (cl46 (false, 0, ([], 0), 0, 0, 0, 0, 0, 0, 0, [], [], 0, ([], 0), [], 0, ([], 0)) none 0 none 0 none 0 none 0 none 0 none 0) (.new 9 46 (cl46 (x0.1, x0.2.1, y26, x0.2.2.2.1, x0.2.2.2.2.1, x0.2.2.2.2.2.1, x0.2.2.2.2.2.2.1, x0.2.2.2.2.2.2.2.1, 0, 0, [], [], 0, ([], 0), [], 0, ([], 0)) a28 c29 none 0 none 0 none 0 none 0 none 0) .nil))) ⟨trivial, (Bs rfl rfl)⟩ rfl rfl (JS.rgB ttOk 4 [] [] [] (.new 7 32 (cl32 x0 a2 c3 a6 c7 a10 c11 a14 c15 a18 c19 a22 c23) (.new 8 46 (cl46 (false, 0, ([], 0), 0, 0, 0, 0, 0, 0, 0, [], [], 0, ([], 0), [], 0, ([], 0)) none 0 none 0 none 0 none 0 none 0 none 0) (.new 9 46 (cl46 (x0.1, x0.2.1, y26, x0.2.2.2.1, x0.2.2.2.2.1, x0.2.2.2.2.2.1, x0.2.2.2.2.2.2.1, x0.2.2.2.2.2.2.2.1, x0.2.2.2.2.2.2.2.2.1, 0, [], [], 0, ([], 0), [], 0, ([], 0)) a28 c29 none 0 none 0 none 0 none 0 none 0) .nil))) ⟨trivial, (Bs rfl rfl)⟩ rfl rfl (JS.rgB ttOk 4 [] [] [] (.new 7 32 (cl32 x0 a2 c3 a6 c7 a10 c11 a14 c15 a18 c19 a22 c23) (.new 8 46 (cl46 (false, 0, ([], 0), 0, 0, 0, 0, 0, 0, 0, [], [], 0, ([], 0), [], 0, ([], 0)) none 0 none 0 none 0 none 0 none 0 none 0) (.new 9 46 (cl46 (x0.1, x0.2.1, y26, x0.2.2.2.1, x0.2.2.2.2.1, x0.2.2.2.2.2.1, x0.2.2.2.2.2.2.1, x0.2.2.2.2.2.2.2.1, x0.2.2.2.2.2.2.2.2.1, x0.2.2.2.2.2.2.2.2.2.1, [], [], 0, ([], 0), [], 0, ([], 0)) a28 c29 none 0 none 0 none 0 none 0 none 0) .nil))) ⟨trivial, (Bs rfl rfl)⟩ rfl rfl (JS.seq (JS.region (JO.reg ttOk 2 [] [] [(36, .v (.agg #[.slice a6 x0.2.2.2.2.2.2.2.2.2.2.1.length c7]))] _ rfl ⟨⟨rfl, trivial⟩, rfl⟩ ?_)))))))))))
    obtain ⟨y30, hy31, h⟩ := bindO_some h
    refine JO.call rfl rfl rfl rfl (ok_l_toRing x0.2.2.2.2.2.2.2.2.2.2.1 a6 c7 x0.2.2.2.2.2.2.2.2.2.2.1.length rfl _ hy31) rfl [1] rfl rfl ?_
    rintro ⟨a32, c33⟩ -
    refine JO.regB ttOk 2 [] [] [] (.new 7 32 (cl32 x0 a2 c3 a6 c7 a10 c11 a14 c15 a18 c19 a22 c23) (.new 8 46 (cl46 (false, 0, ([], 0), 0, 0, 0, 0, 0, 0, 0, [], [], 0, ([], 0), [], 0, ([], 0)) none 0 none 0 none 0 none 0 none 0 none 0) (.new 9 46 (cl46 (x0.1, x0.2.1, y26, x0.2.2.2.1, x0.2.2.2.2.1, x0.2.2.2.2.2.1, x0.2.2.2.2.2.2.1, x0.2.2.2.2.2.2.2.1, x0.2.2.2.2.2.2.2.2.1, x0.2.2.2.2.2.2.2.2.2.1, y30, [], 0, ([], 0), [], 0, ([], 0)) a28 c29 a32 c33 none 0 none 0 none 0 none 0) .nil))) rfl ⟨trivial, (Bs rfl rfl)⟩ (JO.done rfl (JS.seq (JS.region (JO.reg ttOk 2 [] [] [(40, .v (.agg #[.slice a10 x0.2.2.2.2.2.2.2.2.2.2.2.1.length c11]))] _ rfl ⟨⟨rfl, trivial⟩, rfl⟩ ?_))))
    obtain ⟨y34, hy35, h⟩ := bindO_some h
    refine JO.call rfl rfl rfl rfl (ok_l_toUndo x0.2.2.2.2.2.2.2.2.2.2.2.1 a10 c11 x0.2.2.2.2.2.2.2.2.2.2.2.1.length rfl _ hy35) rfl [2] rfl rfl ?_
    rintro ⟨a36, c37⟩ -
    refine JO.regB ttOk 2 [] [] [] (.new 7 32 (cl32 x0 a2 c3 a6 c7 a10 c11 a14 c15 a18 c19 a22 c23) (.new 8 46 (cl46 (false, 0, ([], 0), 0, 0, 0, 0, 0, 0, 0, [], [], 0, ([], 0), [], 0, ([], 0)) none 0 none 0 none 0 none 0 none 0 none 0) (.new 9 46 (cl46 (x0.1, x0.2.1, y26, x0.2.2.2.1, x0.2.2.2.2.1, x0.2.2.2.2.2.1, x0.2.2.2.2.2.2.1, x0.2.2.2.2.2.2.2.1, x0.2.2.2.2.2.2.2.2.1, x0.2.2.2.2.2.2.2.2.2.1, y30, y34, 0, ([], 0), [], 0, ([], 0)) a28 c29 a32 c33 a36 c37 none 0 none 0 none 0) .nil))) rfl ⟨trivial, (Bs rfl rfl)⟩ (JO.done rfl (JS.rgB ttOk 4 [] [] [] (.new 7 32 (cl32 x0 a2 c3 a6 c7 a10 c11 a14 c15 a18 c19 a22 c23) (.new 8 46 (cl46 (false, 0, ([], 0), 0, 0, 0, 0, 0, 0, 0, [], [], 0, ([], 0), [], 0, ([], 0)) none 0 none 0 none 0 none 0 none 0 none 0) (.new 9 46 (cl46 (x0.1, x0.2.1, y26, x0.2.2.2.1, x0.2.2.2.2.1, x0.2.2.2.2.2.1, x0.2.2.2.2.2.2.1, x0.2.2.2.2.2.2.2.1, x0.2.2.2.2.2.2.2.2.1, x0.2.2.2.2.2.2.2.2.2.1, y30, y34, x0.2.2.2.2.2.2.2.2.2.2.2.2.1, ([], 0), [], 0, ([], 0)) a28 c29 a32 c33 a36 c37 none 0 none 0 none 0) .nil))) ⟨trivial, (Bs rfl rfl)⟩ rfl rfl (JS.seq (JS.region (JO.reg ttOk 2 [] [] [(47, .v (.agg #[.slice a14 x0.2.2.2.2.2.2.2.2.2.2.2.2.2.1.1.length c15, .int .i64 x0.2.2.2.2.2.2.2.2.2.2.2.2.2.1.2]))] _ rfl ⟨⟨rfl, trivial⟩, rfl⟩ ?_)))))
    obtain ⟨y38, hy39, h⟩ := bindO_some h
    refine JO.call rfl rfl rfl rfl (ok_l_toLine x0.2.2.2.2.2.2.2.2.2.2.2.2.2.1 a14 c15 x0.2.2.2.2.2.2.2.2.2.2.2.2.2.1.1.length rfl _ hy39) rfl [3] rfl rfl ?_
    rintro ⟨a40, c41⟩ -
    refine JO.regB ttOk 2 [] [] [] (.new 7 32 (cl32 x0 a2 c3 a6 c7 a10 c11 a14 c15 a18 c19 a22 c23) (.new 8 46 (cl46 (false, 0, ([], 0), 0, 0, 0, 0, 0, 0, 0, [], [], 0, ([], 0), [], 0, ([], 0)) none 0 none 0 none 0 none 0 none 0 none 0) (.new 9 46 (cl46 (x0.1, x0.2.1, y26, x0.2.2.2.1, x0.2.2.2.2.1, x0.2.2.2.2.2.1, x0.2.2.2.2.2.2.1, x0.2.2.2.2.2.2.2.1, x0.2.2.2.2.2.2.2.2.1, x0.2.2.2.2.2.2.2.2.2.1, y30, y34, x0.2.2.2.2.2.2.2.2.2.2.2.2.1, y38, [], 0, ([], 0)) a28 c29 a32 c33 a36 c37 a40 c41 none 0 none 0) .nil))) rfl ⟨trivial, (Bs rfl rfl)⟩ (JO.done rfl (JS.seq (JS.region (JO.reg ttOk 2 [] [] [(51, .v (.slice a18 x0.2.2.2.2.2.2.2.2.2.2.2.2.2.2.1.length c19))] _ rfl ⟨⟨rfl, trivial⟩, rfl⟩ ?_))))
    obtain ⟨y42, hy43, h⟩ := bindO_some h
    refine JO.call rfl rfl rfl rfl (ok_l_toIntS x0.2.2.2.2.2.2.2.2.2.2.2.2.2.2.1 a18 c19 x0.2.2.2.2.2.2.2.2.2.2.2.2.2.2.1.length rfl _ hy43) rfl [4] rfl rfl ?_
    rintro ⟨a44, c45⟩ -
    refine JO.regB ttOk 2 [] [] [] (.new 7 32 (cl32 x0 a2 c3 a6 c7 a10 c11 a14 c15 a18 c19 a22 c23) (.new 8 46 (cl46 (false, 0, ([], 0), 0, 0, 0, 0, 0, 0, 0, [], [], 0, ([], 0), [], 0, ([], 0)) none 0 none 0 none 0 none 0 none 0 none 0) (.new 9 46 (cl46 (x0.1, x0.2.1, y26, x0.2.2.2.1, x0.2.2.2.2.1, x0.2.2.2.2.2.1, x0.2.2.2.2.2.2.1, x0.2.2.2.2.2.2.2.1, x0.2.2.2.2.2.2.2.2.1, x0.2.2.2.2.2.2.2.2.2.1, y30, y34, x0.2.2.2.2.2.2.2.2.2.2.2.2.1, y38, y42, 0, ([], 0)) a28 c29 a32 c33 a36 c37 a40 c41 a44 c45 none 0) .nil))) rfl ⟨trivial, (Bs rfl rfl)⟩ (JO.done rfl (JS.rgB ttOk 4 [] [] [] (.new 7 32 (cl32 x0 a2 c3 a6 c7 a10 c11 a14 c15 a18 c19 a22 c23) (.new 8 46 (cl46 (false, 0, ([], 0), 0, 0, 0, 0, 0, 0, 0, [], [], 0, ([], 0), [], 0, ([], 0)) none 0 none 0 none 0 none 0 none 0 none 0) (.new 9 46 (cl46 (x0.1, x0.2.1, y26, x0.2.2.2.1, x0.2.2.2.2.1, x0.2.2.2.2.2.1, x0.2.2.2.2.2.2.1, x0.2.2.2.2.2.2.2.1, x0.2.2.2.2.2.2.2.2.1, x0.2.2.2.2.2.2.2.2.2.1, y30, y34, x0.2.2.2.2.2.2.2.2.2.2.2.2.1, y38, y42, x0.2.2.2.2.2.2.2.2.2.2.2.2.2.2.2.1, ([], 0)) a28 c29 a32 c33 a36 c37 a40 c41 a44 c45 none 0) .nil))) ⟨trivial, (Bs rfl rfl)⟩ rfl rfl (JS.seq (JS.region (JO.reg ttOk 2 [] [] [(58, .v (.agg #[.slice a22 x0.2.2.2.2.2.2.2.2.2.2.2.2.2.2.2.2.1.length c23, .int .i64 x0.2.2.2.2.2.2.2.2.2.2.2.2.2.2.2.2.2]))] _ rfl ⟨⟨rfl, trivial⟩, rfl⟩ ?_)))))
    obtain ⟨y46, hy47, h⟩ := bindO_some h
    refine JO.call rfl rfl rfl rfl (ok_l_toLine x0.2.2.2.2.2.2.2.2.2.2.2.2.2.2.2.2 a22 c23 x0.2.2.2.2.2.2.2.2.2.2.2.2.2.2.2.2.1.length rfl _ hy47) rfl [5] rfl rfl ?_
    rintro ⟨a48, c49⟩ -
    refine JO.regB ttOk 2 [] [] [] (.new 8 46 (cl46 (false, 0, ([], 0), 0, 0, 0, 0, 0, 0, 0, [], [], 0, ([], 0), [], 0, ([], 0)) none 0 none 0 none 0 none 0 none 0 none 0) (.new 9 46 (cl46 (x0.1, x0.2.1, y26, x0.2.2.2.1, x0.2.2.2.2.1, x0.2.2.2.2.2.1, x0.2.2.2.2.2.2.1, x0.2.2.2.2.2.2.2.1, x0.2.2.2.2.2.2.2.2.1, x0.2.2.2.2.2.2.2.2.2.1, y30, y34, x0.2.2.2.2.2.2.2.2.2.2.2.2.1, y38, y42, x0.2.2.2.2.2.2.2.2.2.2.2.2.2.2.2.1, y46) a28 c29 a32 c33 a36 c37 a40 c41 a44 c45 a48 c49) .nil)) rfl ⟨trivial, (Bs rfl rfl)⟩ (JO.done rfl (JS.rgB ttOk 2 [] [] [] (.new 8 46 (cl46 (x0.1, x0.2.1, y26, x0.2.2.2.1, x0.2.2.2.2.1, x0.2.2.2.2.2.1, x0.2.2.2.2.2.2.1, x0.2.2.2.2.2.2.2.1, x0.2.2.2.2.2.2.2.2.1, x0.2.2.2.2.2.2.2.2.2.1, y30, y34, x0.2.2.2.2.2.2.2.2.2.2.2.2.1, y38, y42, x0.2.2.2.2.2.2.2.2.2.2.2.2.2.2.2.1, y46) a28 c29 a32 c33 a36 c37 a40 c41 a44 c45 a48 c49) .nil) ⟨trivial, (Bs rfl rfl)⟩ rfl rfl ?_))
    cases h
    exact JS.ret ttOk (a28, c29, a32, c33, a36, c37, a40, c41, a44, c45, a48, c49) trivial rfl rfl [5, 4, 3, 2, 1, 0] rfl

def M_l_toStringS_L1 (x0 : List (List UInt8)) (j25 : (List (List UInt8)) → Option (List (List UInt8))) (k17 : (List (List UInt8) × Int) → Option (List (List UInt8))) : (List (List UInt8) × Int) → Option (List (List UInt8)) := fun (x8, x11) =>
  (bif (decide (x11 < (x0.length : Int))) then
  (guardO (0 ≤ x11 ∧ x11 < (x0.length : Int)) <|
  (guardO (0 ≤ x11 ∧ x11 < (x8.length : Int)) <|
  k17 ((List.set x8 (Int.toNat x11) (at' x0 x11)), (W (x11 + 1)))))
  else
  j25 x8)

def M_l_toStringS (x0 : List (List UInt8)) : Option (List (List UInt8)) :=
  (guardO (x0.length ≤ 536870912) <|
  (joinO (fun (x22 : List (List UInt8)) =>
  some x22) fun j25 =>
  (fixF (M_l_toStringS_L1 x0 j25) FUEL ((List.replicate x0.length []), 0))))

theorem ok_l_toStringS (x0 : List (List UInt8)) (a2 : Option Addr) (c3 : Nat) (l4 : Nat) (hl5 : x0.length = l4) (r : List (List UInt8)) (h : M_l_toStringS x0 = some r) :
    FC Tryz.prog 56 [.slice a2 l4 c3] [⟨.str, ⟨a2, l4, c3⟩, x0⟩] (fun _ : Option Addr × Nat => True) (fun q => .slice q.1 r.length q.2) (fun q => [⟨.str, ⟨q.1, r.length, q.2⟩, r⟩]) :=
  by
    subst hl5
    refine FC.of (T := TTx) Tryz.call56 Tryz.func56 rfl rfl fun w0 => ?_
    unfold M_l_toStringS at h
    refine JS.rg0 ttOk 1 [] ⟨trivial, rfl⟩ rfl rfl (JS.seq (JS.region (JO.reg ttOk 2 [] [] [(6, .v (.int .i64 (x0.length : Int)))] _ rfl ⟨⟨rfl, trivial⟩, rfl⟩ ?_)))
    obtain ⟨g6, h⟩ := guardO_some h
    refine JO.makeSlice ttOk rfl rfl rfl rfl rfl rfl rfl rfl x0.length rfl g6 .str rfl rfl rfl rfl rfl fun a7 => JO.reg ttOk 1 [] [] [(3, .v (.slice a7 x0.length x0.length))] _ rfl ⟨⟨rfl, trivial⟩, rfl⟩ (JO.done rfl (JS.seq (JS.rg0 ttOk 1 [(4, .v (.int .i64 0))] ⟨⟨rfl, trivial⟩, rfl⟩ rfl rfl ?_)))
    obtain ⟨j25, hj33, h⟩ := joinO_some h
    refine JS.blockJ (ι := List (List UInt8) × Option Addr × Nat) ⟨fun z => j25 z.1 = some r, fun z => [(3, .v (.slice z.2.1 z.1.length z.2.2))], fun z => .nil, fun z => [], fun z => [⟨.str, ⟨z.2.1, z.1.length, z.2.2⟩, z.1⟩], fun z => 0⟩ ?_ ?_
    · refine JS.loop (ι := Nat × List (List UInt8) × Int × Option Addr × Nat) ⟨fun z => fixF (M_l_toStringS_L1 x0 j25) z.1 (z.2.1, z.2.2.1) = some r, fun z => [(0, .v (.slice a2 x0.length c3)), (3, .v (.slice z.2.2.2.1 z.2.1.length z.2.2.2.2)), (4, .v (.int .i64 z.2.2.1))], fun z => .nil, fun z => [⟨.str, ⟨a2, x0.length, c3⟩, x0⟩], fun z => [⟨.str, ⟨z.2.2.2.1, z.2.1.length, z.2.2.2.2⟩, z.2.1⟩], fun z => z.1⟩ (FUEL, (List.replicate x0.length []), 0, a7, x0.length) h ⟨rfl, (by simp only [List.length_set, List.length_replicate, pickO, getF, cl32, cl46]; rfl), rfl, trivial⟩ trivial [0] rfl [0] (by simp only [List.length_set, List.length_replicate, pickO, getF, cl32, cl46]; rfl) ?_
      rintro ⟨n18, x8, x11, a9, c10⟩ h
      obtain ⟨n18, rfl, h⟩ := fixF_some h
      rw [M_l_toStringS_L1] at h
      refine JS.seq (JS.rg0 ttOk 4 [(11, .v (.bool (decide (x11 < (x0.length : Int)))))] ⟨⟨rfl, trivial⟩, rfl⟩ rfl rfl ?_)
      refine JS.cond rfl (fun ht32 => ?_) (fun ht32 => ?_)
      · have h := condT h ht32
        refine JS.skip (JS.seq (JS.block (JS.region (JO.know 0 rfl fun hs30 => ?_))))
        obtain ⟨g13, h⟩ := guardO_some h
        refine JO.reg ttOk 5 [] [] [(14, .v (.slice a9 x8.length c10)), (15, .v (.int .i64 x11)), (18, .ep ⟨a2, x0.length, c3⟩ (Int.toNat x11 * 1))] _ rfl ⟨hs30.ix g13, (Es rfl), rfl⟩ (JO.load ttOk rfl rfl rfl rfl rfl rfl rfl 0 rfl rfl (Int.toNat x11) 0 (at' x0 x11) ⟨at_some g13, rfl⟩ rfl rfl (JO.know 1 rfl fun hs31 => ?_))
        obtain ⟨g15, h⟩ := guardO_some h
        refine JO.reg ttOk 1 [] [] [(20, .ep ⟨a9, x8.length, c10⟩ (Int.toNat x11 * 1))] _ rfl ⟨hs31.ix g15, ⟨rfl, trivial⟩, rfl⟩ (JO.storeE ttOk rfl rfl rfl rfl rfl rfl rfl rfl rfl [0] (fs := []) rfl (Int.toNat x11) 0 (at' x8 x11) (at' x0 x11) ⟨at_some g15, rfl⟩ ⟨rfl, rfl, rfl⟩ (JO.done rfl (JS.endB (JS.re ttOk 3 [(W (x11 + 1))] [] [(4, .v (.int .i64 (W (x11 + 1))))] _ ⟨⟨trivial, rfl⟩, ⟨rfl, trivial⟩, rfl⟩ rfl rfl (JS.endL (n18, (List.set x8 (Int.toNat x11) (at' x0 x11)), (W (x11 + 1)), a9, c10) h (Nat.lt_succ_self _) ⟨rfl, (by simp only [List.length_set, List.length_replicate, pickO, getF, cl32, cl46]; rfl), rfl, trivial⟩ trivial [0] rfl [0] (by simp only [List.length_set, List.length_replicate, pickO, getF, cl32, cl46]; rfl))))))
      have h := condF h ht32
      refine JS.exit rfl (JS.endJ (x8, a9, c10) h ⟨rfl, trivial⟩ trivial [] rfl [0] rfl)
    rintro ⟨x22, a23, c24⟩ h
    subst hj33
    refine JS.rg0 ttOk 2 [(2, .v (.slice a23 x22.length c24))] ⟨⟨rfl, trivial⟩, rfl⟩ rfl rfl ?_
    cases h
    exact JS.ret ttOk (a23, c24) trivial rfl rfl [0] rfl

def M_l_toHist (x0 : Int × List (List UInt8)) : Option (Int × List (List UInt8)) :=
  (bindO (M_l_toStringS x0.2) fun (y6 : List (List UInt8)) =>
  some (x0.1, y6))

theorem ok_l_toHist (x0 : Int × List (List UInt8)) (a2 : Option Addr) (c3 : Nat) (l4 : Nat) (hl5 : x0.2.length = l4) (r : Int × List (List UInt8)) (h : M_l_toHist x0 = some r) :
    FC Tryz.prog 14 [.agg #[.int .i64 x0.1, .slice a2 l4 c3]] [⟨.str, ⟨a2, l4, c3⟩, x0.2⟩] (fun _ : Option Addr × Nat => True) (fun q => .agg #[.int .i64 r.1, .slice q.1 r.2.length q.2]) (fun q => [⟨.str, ⟨q.1, r.2.length, q.2⟩, r.2⟩]) :=
  by
    subst hl5
    refine FC.of (T := TTx) Tryz.call14 Tryz.func14 rfl rfl fun w0 => ?_
    unfold M_l_toHist at h
    refine JS.rgB ttOk 2 [] [2, 3] [(1, .bp 2 0), (2, .bp 3 0)] (.new 2 35 [.int .i64 x0.1, .slice a2 x0.2.length c3] (.new 3 50 [.int .i64 0, .slice none 0 0] .nil)) ⟨(Es rfl), (Bs rfl rfl)⟩ rfl rfl (JS.rgB ttOk 1 [] [4] [(3, .bp 4 0)] (.new 2 35 [.int .i64 x0.1, .slice a2 x0.2.length c3] (.new 3 50 [.int .i64 0, .slice none 0 0] (.new 4 50 [.int .i64 0, .slice none 0 0] .nil))) ⟨⟨rfl, trivial⟩, (Bs rfl rfl)⟩ rfl rfl (JS.rgB ttOk 4 [] [] [] (.new 2 35 [.int .i64 x0.1, .slice a2 x0.2.length c3] (.new 3 50 [.int .i64 0, .slice none 0 0] (.new 4 50 [.int .i64 x0.1, .slice none 0 0] .nil))) ⟨trivial, (Bs rfl rfl)⟩ rfl rfl (JS.seq (JS.region (JO.reg ttOk 2 [] [] [(8, .v (.slice a2 x0.2.length c3))] _ rfl ⟨⟨rfl, trivial⟩, rfl⟩ ?_)))))
    obtain ⟨y6, hy7, h⟩ := bindO_some h
    refine JO.call rfl rfl rfl rfl (ok_l_toStringS x0.2 a2 c3 x0.2.length rfl _ hy7) rfl [0] rfl rfl ?_
    rintro ⟨a8, c9⟩ -
    refine JO.regB ttOk 2 [] [] [] (.new 3 50 [.int .i64 0, .slice none 0 0] (.new 4 50 [.int .i64 x0.1, .slice a8 y6.length c9] .nil)) rfl ⟨trivial, (Bs rfl rfl)⟩ (JO.done rfl (JS.rgB ttOk 2 [] [] [] (.new 3 50 [.int .i64 x0.1, .slice a8 y6.length c9] .nil) ⟨trivial, (Bs rfl rfl)⟩ rfl rfl ?_))
    cases h
    exact JS.ret ttOk (a8, c9) trivial rfl rfl [0] rfl

def M_l_toKey (x0 : Int × Int) : Option (Int × Int) :=
  some x0

theorem ok_l_toKey (x0 : Int × Int) (r : Int × Int) (h : M_l_toKey x0 = some r) :
    FC Tryz.prog 25 [.agg #[.int .i64 x0.1, .int .i64 x0.2]] [] (fun _ : Unit => True) (fun _ => .agg #[.int .i64 r.1, .int .i64 r.2]) (fun _ => []) :=
  by
    refine FC.of (T := TTx) Tryz.call25 Tryz.func25 rfl rfl fun w0 => ?_
    unfold M_l_toKey at h
    refine JS.rgB ttOk 2 [] [1, 2] [(1, .bp 1 0), (2, .bp 2 0)] (.new 1 61 [.int .i64 x0.1, .int .i64 x0.2] (.new 2 64 [.int .i64 0, .int .i64 0] .nil)) ⟨(Es rfl), (Bs rfl rfl)⟩ rfl rfl (JS.rgB ttOk 1 [] [3] [(3, .bp 3 0)] (.new 1 61 [.int .i64 x0.1, .int .i64 x0.2] (.new 2 64 [.int .i64 0, .int .i64 0] (.new 3 64 [.int .i64 0, .int .i64 0] .nil))) ⟨⟨rfl, trivial⟩, (Bs rfl rfl)⟩ rfl rfl (JS.rgB ttOk 4 [] [] [] (.new 1 61 [.int .i64 x0.1, .int .i64 x0.2] (.new 2 64 [.int .i64 0, .int .i64 0] (.new 3 64 [.int .i64 x0.1, .int .i64 0] .nil))) ⟨trivial, (Bs rfl rfl)⟩ rfl rfl (JS.rgB ttOk 4 [] [] [] (.new 2 64 [.int .i64 0, .int .i64 0] (.new 3 64 [.int .i64 x0.1, .int .i64 x0.2] .nil)) ⟨trivial, (Bs rfl rfl)⟩ rfl rfl (JS.rgB ttOk 2 [] [] [] (.new 2 64 [.int .i64 x0.1, .int .i64 x0.2] .nil) ⟨trivial, (Bs rfl rfl)⟩ rfl rfl ?_))))
    cases h
    exact JS.ret ttOk () trivial rfl rfl [] rfl

def M_s_RuneOk (x0 : Int) : Option Bool :=
  some (bif (bif (decide (0 ≤ x0)) then (decide (x0 ≤ 1114111)) else false) then (bif (decide (x0 < 55296)) then true else (decide (57343 < x0))) else false)

theorem ok_s_RuneOk (x0 : Int) (r : Bool) (h : M_s_RuneOk x0 = some r) :
    FC Tryz.prog 230 [.int .i64 x0] [] (fun _ : Unit => True) (fun _ => .bool r) (fun _ => []) :=
  by
    refine FC.of (T := TTx) Tryz.call230 Tryz.func230 rfl rfl fun w0 => ?_
    unfold M_s_RuneOk at h
    refine JS.rg0 ttOk 1 [] ⟨trivial, rfl⟩ rfl rfl (JS.rg0 ttOk 15 [(2, .v (.bool (bif (bif (decide (0 ≤ x0)) then (decide (x0 ≤ 1114111)) else false) then (bif (decide (x0 < 55296)) then true else (decide (57343 < x0))) else false)))] ⟨⟨rfl, trivial⟩, rfl⟩ rfl rfl ?_)
    cases h
    exact JS.ret ttOk () trivial rfl rfl [] rfl

def M_s_Printable (x0 : Int) : Option Bool :=
  (bindO (M_s_RuneOk x0) fun (y2 : Bool) =>
  some (bif (bif y2 then (decide (32 ≤ x0)) else false) then (bif (decide (x0 < 127)) then true else (decide (159 < x0))) else false))

theorem ok_s_Printable (x0 : Int) (r : Bool) (h : M_s_Printable x0 = some r) :
    FC Tryz.prog 132 [.int .i64 x0] [] (fun _ : Unit => True) (fun _ => .bool r) (fun _ => []) :=
  by
    refine FC.of (T := TTx) Tryz.call132 Tryz.func132 rfl rfl fun w0 => ?_
    unfold M_s_Printable at h
    refine JS.rg0 ttOk 1 [] ⟨trivial, rfl⟩ rfl rfl (JS.seq (JS.region (JO.reg ttOk 1 [] [] [(3, .v (.int .i64 x0))] _ rfl ⟨⟨rfl, trivial⟩, rfl⟩ ?_)))
    obtain ⟨y2, hy3, h⟩ := bindO_some h
    refine JO.call rfl rfl rfl rfl (ok_s_RuneOk x0 _ hy3) rfl [] rfl rfl fun _ _ => JO.reg ttOk 13 [] [] [(2, .v (.bool (bif (bif y2 then (decide (32 ≤ x0)) else false) then (bif (decide (x0 < 127)) then true else (decide (159 < x0))) else false)))] _ rfl ⟨⟨rfl, trivial⟩, rfl⟩ (JO.done rfl ?_)
    cases h
    exact JS.ret ttOk () trivial rfl rfl [] rfl

def M_s_l13Typed (x0 : Int) : Option Bool :=
  (bindO (M_s_Printable x0) fun (y2 : Bool) =>
  some (bif (bif y2 then true else (decide (x0 = 9))) then true else (decide (x0 = 10))))

theorem ok_s_l13Typed (x0 : Int) (r : Bool) (h : M_s_l13Typed x0 = some r) :
    FC Tryz.prog 283 [.int .i64 x0] [] (fun _ : Unit => True) (fun _ => .bool r) (fun _ => []) :=
  by
    refine FC.of (T := TTx) Tryz.call283 Tryz.func283 rfl rfl fun w0 => ?_
    unfold M_s_l13Typed at h
    refine JS.rg0 ttOk 1 [] ⟨trivial, rfl⟩ rfl rfl (JS.seq (JS.region (JO.reg ttOk 1 [] [] [(3, .v (.int .i64 x0))] _ rfl ⟨⟨rfl, trivial⟩, rfl⟩ ?_)))
    obtain ⟨y2, hy3, h⟩ := bindO_some h
    refine JO.call rfl rfl rfl rfl (ok_s_Printable x0 _ hy3) rfl [] rfl rfl fun _ _ => JO.reg ttOk 9 [] [] [(2, .v (.bool (bif (bif y2 then true else (decide (x0 = 9))) then true else (decide (x0 = 10)))))] _ rfl ⟨⟨rfl, trivial⟩, rfl⟩ (JO.done rfl ?_)
    cases h
    exact JS.ret ttOk () trivial rfl rfl [] rfl

def M_s_l13AllTyped_L1 (x0 : List Int) (j18 : Unit → Option Bool) (k13 : Int → Option Bool) : Int → Option Bool := fun x6 =>
  (bif (decide (x6 < (x0.length : Int))) then
  (guardO (0 ≤ x6 ∧ x6 < (x0.length : Int)) <|
  (bindO (M_s_l13Typed (at' x0 x6)) fun (y9 : Bool) =>
  (bif (!y9) then
  some false
  else
  k13 (W (x6 + 1)))))
  else
  j18 ())

def M_s_l13AllTyped (x0 : List Int) : Option Bool :=
  (joinO (fun (_ : Unit) =>
  some true) fun j18 =>
  (fixF (M_s_l13AllTyped_L1 x0 j18) FUEL 0))

theorem ok_s_l13AllTyped (x0 : List Int) (a2 : Option Addr) (c3 : Nat) (l4 : Nat) (hl5 : x0.length = l4) (r : Bool) (h : M_s_l13AllTyped x0 = some r) :
    FC Tryz.prog 227 [.slice a2 l4 c3] [⟨(.int .i64), ⟨a2, l4, c3⟩, x0⟩] (fun _ : Unit => True) (fun _ => .bool r) (fun _ => []) :=
  by
    subst hl5
    refine FC.of (T := TTx) Tryz.call227 Tryz.func227 rfl rfl fun w0 => ?_
    unfold M_s_l13AllTyped at h
    refine JS.rg0 ttOk 1 [] ⟨trivial, rfl⟩ rfl rfl (JS.seq (JS.rg0 ttOk 3 [(5, .v (.slice a2 x0.length c3)), (6, .v (.int .i64 (x0.length : Int))), (7, .v (.int .i64 0))] ⟨(Es rfl), rfl⟩ rfl rfl ?_))
    obtain ⟨j18, hj26, h⟩ := joinO_some h
    refine JS.blockJ (ι := Unit) ⟨fun _ => j18 () = some r, fun _ => [], fun _ => .nil, fun _ => [], fun _ => [], fun _ => 0⟩ ?_ ?_
    · refine JS.loop (ι := Nat × Int) ⟨fun z => fixF (M_s_l13AllTyped_L1 x0 j18) z.1 z.2 = some r, fun z => [(5, .v (.slice a2 x0.length c3)), (6, .v (.int .i64 (x0.length : Int))), (7, .v (.int .i64 z.2))], fun z => .nil, fun z => [⟨(.int .i64), ⟨a2, x0.length, c3⟩, x0⟩], fun z => [], fun z => z.1⟩ (FUEL, 0) h (Es rfl) trivial [0] rfl [] rfl ?_
      rintro ⟨n14, x6⟩ h
      obtain ⟨n14, rfl, h⟩ := fixF_some h
      rw [M_s_l13AllTyped_L1] at h
      refine JS.rg0 ttOk 1 [(8, .v (.bool (decide (x6 < (x0.length : Int)))))] ⟨⟨rfl, trivial⟩, rfl⟩ rfl rfl (JS.seq ?_)
      refine JS.cond rfl (fun ht25 => ?_) (fun ht25 => ?_)
      · have h := condT h ht25
        refine JS.skip (JS.seq (JS.block (JS.seq (JS.region (JO.know 0 rfl fun hs23 => ?_)))))
        obtain ⟨g8, h⟩ := guardO_some h
        refine JO.reg ttOk 1 [] [] [(9, .ep ⟨a2, x0.length, c3⟩ (Int.toNat x6 * 1))] _ rfl ⟨hs23.ix g8, ⟨rfl, trivial⟩, rfl⟩ (JO.load ttOk rfl rfl rfl rfl rfl rfl rfl 0 rfl rfl (Int.toNat x6) 0 (at' x0 x6) ⟨at_some g8, rfl⟩ rfl rfl (JO.reg ttOk 1 [] [] [(4, .v (.int .i64 (at' x0 x6)))] _ rfl ⟨⟨rfl, trivial⟩, rfl⟩ (JO.done rfl (JS.seq (JS.region (JO.reg ttOk 1 [] [] [(11, .v (.int .i64 (at' x0 x6)))] _ rfl ⟨⟨rfl, trivial⟩, rfl⟩ ?_))))))
        obtain ⟨y9, hy10, h⟩ := bindO_some h
        refine JO.call rfl rfl rfl rfl (ok_s_l13Typed (at' x0 x6) _ hy10) rfl [] rfl rfl fun _ _ => JO.reg ttOk 1 [] [] [(13, .v (.bool (!y9)))] _ rfl ⟨⟨rfl, trivial⟩, rfl⟩ (JO.done rfl ?_)
        refine JS.cond rfl (fun ht24 => ?_) (fun ht24 => ?_)
        · have h := condT h ht24
          refine JS.rg0 ttOk 1 [(2, .v (.bool false))] ⟨⟨rfl, trivial⟩, rfl⟩ rfl rfl ?_
          cases h
          exact JS.ret ttOk () trivial rfl rfl [] rfl
        have h := condF h ht24
        refine JS.skip (JS.endB (JS.re ttOk 2 [(W (x6 + 1))] [] [(7, .v (.int .i64 (W (x6 + 1))))] _ ⟨⟨trivial, rfl⟩, ⟨rfl, trivial⟩, rfl⟩ rfl rfl (JS.endL (n14, (W (x6 + 1))) h (Nat.lt_succ_self _) (Es rfl) trivial [0] rfl [] rfl)))
      have h := condF h ht25
      refine JS.exit rfl (JS.endJ () h trivial trivial [] rfl [] rfl)
    rintro _ h
    subst hj26
    refine JS.rg0 ttOk 1 [(2, .v (.bool true))] ⟨⟨rfl, trivial⟩, rfl⟩ rfl rfl ?_
    cases h
    exact JS.ret ttOk () trivial rfl rfl [] rfl

def M_s_LineOk (x0 : List Int × Int) : Option Bool :=
  (callO ((decide ((x0.1.length : Int) ≤ 400)) = true) (M_s_l13AllTyped x0.1) false fun (y6 : Bool) =>
  some (bif (bif (bif (decide ((x0.1.length : Int) ≤ 400)) then y6 else false) then (decide (0 ≤ x0.2)) else false) then (decide (x0.2 ≤ (x0.1.length : Int))) else false))

theorem ok_s_LineOk (x0 : List Int × Int) (a2 : Option Addr) (c3 : Nat) (l4 : Nat) (hl5 : x0.1.length = l4) (r : Bool) (h : M_s_LineOk x0 = some r) :
    FC Tryz.prog 128 [.agg #[.slice a2 l4 c3, .int .i64 x0.2]] [⟨(.int .i64), ⟨a2, l4, c3⟩, x0.1⟩] (fun _ : Unit => True) (fun _ => .bool r) (fun _ => []) :=
  by
    subst hl5
    refine FC.of (T := TTx) Tryz.call128 Tryz.func128 rfl rfl fun w0 => ?_
    unfold M_s_LineOk at h
    refine JS.rgB ttOk 2 [] [2] [(1, .bp 2 0)] (.new 2 38 [.slice a2 x0.1.length c3, .int .i64 x0.2] .nil) ⟨⟨rfl, trivial⟩, (Bs rfl rfl)⟩ rfl rfl (JS.seq (JS.region (JO.reg ttOk 7 [] [] [(7, .v (.bool (decide ((x0.1.length : Int) ≤ 400)))), (9, .cd [(7, true)] (.v (.slice a2 x0.1.length c3)))] _ rfl ⟨(Es rfl), rfl⟩ ?_)))
    obtain ⟨y6, hy7, -, h⟩ := callO_some h
    refine JO.callg rfl rfl rfl rfl (fun q9 => ok_s_l13AllTyped x0.1 a2 c3 x0.1.length rfl _ (hy7 q9)) rfl [0] rfl rfl (JO.reg ttOk 15 [] [] [(2, .v (.bool (bif (bif (bif (decide ((x0.1.length : Int) ≤ 400)) then y6 else false) then (decide (0 ≤ x0.2)) else false) then (decide (x0.2 ≤ (x0.1.length : Int))) else false)))] _ rfl ⟨⟨rfl, trivial⟩, rfl⟩ (JO.done rfl ?_))
    cases h
    exact JS.ret ttOk () trivial rfl rfl [] rfl

def M_s_l21Empty (x0 : List Int × Int) : Option Bool :=
  some (bif (decide ((x0.1.length : Int) = 0)) then (decide (x0.2 = 0)) else false)

theorem ok_s_l21Empty (x0 : List Int × Int) (a2 : Option Addr) (c3 : Nat) (l4 : Nat) (hl5 : x0.1.length = l4) (r : Bool) (h : M_s_l21Empty x0 = some r) :
    FC Tryz.prog 133 [.agg #[.slice a2 l4 c3, .int .i64 x0.2]] [⟨(.int .i64), ⟨a2, l4, c3⟩, x0.1⟩] (fun _ : Unit => True) (fun _ => .bool r) (fun _ => []) :=
  by
    subst hl5
    refine FC.of (T := TTx) Tryz.call133 Tryz.func133 rfl rfl fun w0 => ?_
    unfold M_s_l21Empty at h
    refine JS.rgB ttOk 2 [] [2] [(1, .bp 2 0)] (.new 2 38 [.slice a2 x0.1.length c3, .int .i64 x0.2] .nil) ⟨⟨rfl, trivial⟩, (Bs rfl rfl)⟩ rfl rfl (JS.rg0 ttOk 10 [(2, .v (.bool (bif (decide ((x0.1.length : Int) = 0)) then (decide (x0.2 = 0)) else false)))] ⟨⟨rfl, trivial⟩, rfl⟩ rfl rfl ?_)
    cases h
    exact JS.ret ttOk () trivial rfl rfl [] rfl

def M_s_l03HasInt_L1 (x0 : List Int) (x1 : Int) (j17 : Unit → Option Bool) (k12 : Int → Option Bool) : Int → Option Bool := fun x7 =>
  (bif (decide (x7 < (x0.length : Int))) then
  (guardO (0 ≤ x7 ∧ x7 < (x0.length : Int)) <|
  (bif (decide ((at' x0 x7) = x1)) then
  some true
  else
  k12 (W (x7 + 1))))
  else
  j17 ())

def M_s_l03HasInt (x0 : List Int) (x1 : Int) : Option Bool :=
  (joinO (fun (_ : Unit) =>
  some false) fun j17 =>
  (fixF (M_s_l03HasInt_L1 x0 x1 j17) FUEL 0))

theorem ok_s_l03HasInt (x0 : List Int) (x1 : Int) (a3 : Option Addr) (c4 : Nat) (l5 : Nat) (hl6 : x0.length = l5) (r : Bool) (h : M_s_l03HasInt x0 x1 = some r) :
    FC Tryz.prog 284 [.slice a3 l5 c4, .int .i64 x1] [⟨(.int .i64), ⟨a3, l5, c4⟩, x0⟩] (fun _ : Unit => True) (fun _ => .bool r) (fun _ => []) :=
  by
    subst hl6
    refine FC.of (T := TTx) Tryz.call284 Tryz.func284 rfl rfl fun w0 => ?_
    unfold M_s_l03HasInt at h
    refine JS.rg0 ttOk 1 [] ⟨trivial, rfl⟩ rfl rfl (JS.seq (JS.rg0 ttOk 3 [(7, .v (.slice a3 x0.length c4)), (8, .v (.int .i64 (x0.length : Int))), (9, .v (.int .i64 0))] ⟨(Es rfl), rfl⟩ rfl rfl ?_))
    obtain ⟨j17, hj25, h⟩ := joinO_some h
    refine JS.blockJ (ι := Unit) ⟨fun _ => j17 () = some r, fun _ => [], fun _ => .nil, fun _ => [], fun _ => [], fun _ => 0⟩ ?_ ?_
    · refine JS.loop (ι := Nat × Int) ⟨fun z => fixF (M_s_l03HasInt_L1 x0 x1 j17) z.1 z.2 = some r, fun z => [(1, .v (.int .i64 x1)), (7, .v (.slice a3 x0.length c4)), (8, .v (.int .i64 (x0.length : Int))), (9, .v (.int .i64 z.2))], fun z => .nil, fun z => [⟨(.int .i64), ⟨a3, x0.length, c4⟩, x0⟩], fun z => [], fun z => z.1⟩ (FUEL, 0) h (Es rfl) trivial [0] rfl [] rfl ?_
      rintro ⟨n13, x7⟩ h
      obtain ⟨n13, rfl, h⟩ := fixF_some h
      rw [M_s_l03HasInt_L1] at h
      refine JS.rg0 ttOk 1 [(10, .v (.bool (decide (x7 < (x0.length : Int)))))] ⟨⟨rfl, trivial⟩, rfl⟩ rfl rfl (JS.seq ?_)
      refine JS.cond rfl (fun ht24 => ?_) (fun ht24 => ?_)
      · have h := condT h ht24
        refine JS.skip (JS.seq (JS.block (JS.seq (JS.region (JO.know 0 rfl fun hs22 => ?_)))))
        obtain ⟨g9, h⟩ := guardO_some h
        refine JO.reg ttOk 1 [] [] [(11, .ep ⟨a3, x0.length, c4⟩ (Int.toNat x7 * 1))] _ rfl ⟨hs22.ix g9, ⟨rfl, trivial⟩, rfl⟩ (JO.load ttOk rfl rfl rfl rfl rfl rfl rfl 0 rfl rfl (Int.toNat x7) 0 (at' x0 x7) ⟨at_some g9, rfl⟩ rfl rfl (JO.reg ttOk 1 [] [] [(6, .v (.int .i64 (at' x0 x7)))] _ rfl ⟨⟨rfl, trivial⟩, rfl⟩ (JO.done rfl (JS.rg0 ttOk 3 [(15, .v (.bool (decide ((at' x0 x7) = x1))))] ⟨⟨rfl, trivial⟩, rfl⟩ rfl rfl ?_))))
        refine JS.cond rfl (fun ht23 => ?_) (fun ht23 => ?_)
        · have h := condT h ht23
          refine JS.rg0 ttOk 1 [(4, .v (.bool true))] ⟨⟨rfl, trivial⟩, rfl⟩ rfl rfl ?_
          cases h
          exact JS.ret ttOk () trivial rfl rfl [] rfl
        have h := condF h ht23
        refine JS.skip (JS.endB (JS.re ttOk 2 [(W (x7 + 1))] [] [(9, .v (.int .i64 (W (x7 + 1))))] _ ⟨⟨trivial, rfl⟩, ⟨rfl, trivial⟩, rfl⟩ rfl rfl (JS.endL (n13, (W (x7 + 1))) h (Nat.lt_succ_self _) (Es rfl) trivial [0] rfl [] rfl)))
      have h := condF h ht24
      refine JS.exit rfl (JS.endJ () h trivial trivial [] rfl [] rfl)
    rintro _ h
    subst hj25
    refine JS.rg0 ttOk 1 [(4, .v (.bool false))] ⟨⟨rfl, trivial⟩, rfl⟩ rfl rfl ?_
    cases h
    exact JS.ret ttOk () trivial rfl rfl [] rfl

def M_s_l21Among (x0 : Int) (x1 : List Int) : Option Bool :=
  (bindO (M_s_l03HasInt x1 x0) fun (y7 : Bool) =>
  some y7)

theorem ok_s_l21Among (x0 : Int) (x1 : List Int) (a3 : Option Addr) (c4 : Nat) (l5 : Nat) (hl6 : x1.length = l5) (r : Bool) (h : M_s_l21Among x0 x1 = some r) :
    FC Tryz.prog 228 [.int .i64 x0, .slice a3 l5 c4] [⟨(.int .i64), ⟨a3, l5, c4⟩, x1⟩] (fun _ : Unit => True) (fun _ => .bool r) (fun _ => []) :=
  by
    subst hl6
    refine FC.of (T := TTx) Tryz.call228 Tryz.func228 rfl rfl fun w0 => ?_
    unfold M_s_l21Among at h
    refine JS.rg0 ttOk 1 [] ⟨trivial, rfl⟩ rfl rfl (JS.seq (JS.region (JO.reg ttOk 2 [] [] [(5, .v (.slice a3 x1.length c4)), (6, .v (.int .i64 x0))] _ rfl ⟨(Es rfl), rfl⟩ ?_)))
    obtain ⟨y7, hy8, h⟩ := bindO_some h
    refine JO.call rfl rfl rfl rfl (ok_s_l03HasInt x1 x0 a3 c4 x1.length rfl _ hy8) rfl [0] rfl rfl fun _ _ => JO.reg ttOk 1 [] [] [(4, .v (.bool y7))] _ rfl ⟨⟨rfl, trivial⟩, rfl⟩ (JO.done rfl ?_)
    cases h
    exact JS.ret ttOk () trivial rfl rfl [] rfl

def M_s_l21Mode (x0 : Bool × Int × (List Int × Int) × Int × Int × Int × Int × Int × Int × Int × List (List Int) × (List (List Int × Int)) × Int × (List Int × Int) × List Int × Int × List Int × Int) : Option Bool :=
  (bif (bif (bif (bif (bif (decide (x0.2.1 = 0)) then x0.1 else false) then true else (bif (bif (decide (x0.2.1 = 1)) then true else (decide (x0.2.1 = 2))) then (!x0.1) else false)) then true else (decide (x0.2.1 < 0))) then true else (decide (3 < x0.2.1))) then
  some false
  else
  (bif (bif (bif (decide (x0.2.1 = 2)) then (decide (0 < (x0.2.2.1.1.length : Int))) else false) then (decide (x0.2.2.1.2 = (x0.2.2.1.1.length : Int))) else false) then
  some false
  else
  (bif (bif (!(decide (x0.2.1 = 2))) then (bif (bif (!(decide (x0.2.2.2.2.1 = 0))) then true else (!(decide (x0.2.2.2.2.2.1 = 0)))) then true else (!(decide (x0.2.2.2.2.2.2.1 = 0)))) else false) then
  some false
  else
  (callO ((bif (decide (0 < (x0.2.2.2.2.2.2.2.2.2.2.2.2.2.2.1.length : Int))) then true else (!(decide (x0.2.2.2.2.2.2.2.2.2.2.2.2.2.2.2.1 = 0)))) = false ∧ (!(decide (x0.2.1 = 3))) = true) (M_s_l21Empty x0.2.2.2.2.2.2.2.2.2.2.2.2.2.2.2.2) false fun (y26 : Bool) =>
  (bif (bif (!(decide (x0.2.1 = 3))) then (bif (bif (decide (0 < (x0.2.2.2.2.2.2.2.2.2.2.2.2.2.2.1.length : Int))) then true else (!(decide (x0.2.2.2.2.2.2.2.2.2.2.2.2.2.2.2.1 = 0)))) then true else (!y26)) else false) then
  some false
  else
  (bindO (M_s_l21Among x0.2.2.2.2.1 ([0, 100, 99, 121] : List Int)) fun (y31 : Bool) =>
  (callO (y31 = true) (M_s_l21Among x0.2.2.2.2.2.2.1 (gl y31 ([0, 102, 70, 116, 84, 114] : List Int))) false fun (y34 : Bool) =>
  some (bif (bif y31 then y34 else false) then (bif (!(decide (x0.2.2.2.2.1 = 0))) then true else (decide (x0.2.2.2.2.2.1 = 0))) else false))))))))

theorem ok_s_l21Mode (x0 : Bool × Int × (List Int × Int) × Int × Int × Int × Int × Int × Int × Int × List (List Int) × (List (List Int × Int)) × Int × (List Int × Int) × List Int × Int × List Int × Int) (a2 : Option Addr) (c3 : Nat) (l4 : Nat) (hl5 : x0.2.2.1.1.length = l4) (a6 : Option Addr) (c7 : Nat) (l8 : Nat) (hl9 : x0.2.2.2.2.2.2.2.2.2.2.1.length = l8) (a10 : Option Addr) (c11 : Nat) (l12 : Nat) (hl13 : x0.2.2.2.2.2.2.2.2.2.2.2.1.length = l12) (a14 : Option Addr) (c15 : Nat) (l16 : Nat) (hl17 : x0.2.2.2.2.2.2.2.2.2.2.2.2.2.1.1.length = l16) (a18 : Option Addr) (c19 : Nat) (l20 : Nat) (hl21 : x0.2.2.2.2.2.2.2.2.2.2.2.2.2.2.1.length = l20) (a22 : Option Addr) (c23 : Nat) (l24 : Nat) (hl25 : x0.2.2.2.2.2.2.2.2.2.2.2.2.2.2.2.2.1.length = l24) (r : Bool) (h : M_s_l21Mode x0 = some r) :
    FC Tryz.prog 129 [.agg #[.bool x0.1, .int .i64 x0.2.1, .slice a2 l4 c3, .int .i64 x0.2.2.1.2, .int .i64 x0.2.2.2.1, .int .i64 x0.2.2.2.2.1, .int .i64 x0.2.2.2.2.2.1, .int .i64 x0.2.2.2.2.2.2.1, .int .i64 x0.2.2.2.2.2.2.2.1, .int .i64 x0.2.2.2.2.2.2.2.2.1, .int .i64 x0.2.2.2.2.2.2.2.2.2.1, .slice a6 l8 c7, .slice a10 l12 c11, .int .i64 x0.2.2.2.2.2.2.2.2.2.2.2.2.1, .slice a14 l16 c15, .int .i64 x0.2.2.2.2.2.2.2.2.2.2.2.2.2.1.2, .slice a18 l20 c19, .int .i64 x0.2.2.2.2.2.2.2.2.2.2.2.2.2.2.2.1, .slice a22 l24 c23, .int .i64 x0.2.2.2.2.2.2.2.2.2.2.2.2.2.2.2.2.2]] [⟨(.int .i64), ⟨a2, l4, c3⟩, x0.2.2.1.1⟩, ⟨(.sl (.int .i64)), ⟨a6, l8, c7⟩, x0.2.2.2.2.2.2.2.2.2.2.1⟩, ⟨(.pair (.sl (.int .i64)) (.int .i64)), ⟨a10, l12, c11⟩, x0.2.2.2.2.2.2.2.2.2.2.2.1⟩, ⟨(.int .i64), ⟨a14, l16, c15⟩, x0.2.2.2.2.2.2.2.2.2.2.2.2.2.1.1⟩, ⟨(.int .i64), ⟨a18, l20, c19⟩, x0.2.2.2.2.2.2.2.2.2.2.2.2.2.2.1⟩, ⟨(.int .i64), ⟨a22, l24, c23⟩, x0.2.2.2.2.2.2.2.2.2.2.2.2.2.2.2.2.1⟩] (fun _ : Unit => True) (fun _ => .bool r) (fun _ => []) :=
  by
    subst hl5
    subst hl9
    subst hl13
    subst hl17
    subst hl21
    subst hl25
    refine FC.of (T := TTx) Tryz.call129 Tryz.func129 rfl rfl fun w0 => ?_
    unfold M_s_l21Mode at h
    refine JS.rgB ttOk 2 [] [7] [(1, .bp 7 0)] (.new 7 46 (cl46 x0 a2 c3 a6 c7 a10 c11 a14 c15 a18 c19 a22 c23) .nil) ⟨⟨rfl, trivial⟩, (Bs rfl rfl)⟩ rfl rfl (JS.seq (JS.rg0 ttOk 32 [(34, .v (.bool (bif (bif (bif (bif (decide (x0.2.1 = 0)) then x0.1 else false) then true else (bif (bif (decide (x0.2.1 = 1)) then true else (decide (x0.2.1 = 2))) then (!x0.1) else false)) then true else (decide (x0.2.1 < 0))) then true else (decide (3 < x0.2.1)))))] ⟨⟨rfl, trivial⟩, rfl⟩ rfl rfl ?_))
    refine JS.cond rfl (fun ht47 => ?_) (fun ht47 => ?_)
    · have h := condT h ht47
      refine JS.rg0 ttOk 1 [(2, .v (.bool false))] ⟨⟨rfl, trivial⟩, rfl⟩ rfl rfl ?_
      cases h
      exact JS.ret ttOk () trivial rfl rfl [] rfl
    have h := condF h ht47
    refine JS.skip (JS.seq (JS.rg0 ttOk 20 [(54, .v (.bool (bif (bif (decide (x0.2.1 = 2)) then (decide (0 < (x0.2.2.1.1.length : Int))) else false) then (decide (x0.2.2.1.2 = (x0.2.2.1.1.length : Int))) else false)))] ⟨⟨rfl, trivial⟩, rfl⟩ rfl rfl ?_))
    refine JS.cond rfl (fun ht46 => ?_) (fun ht46 => ?_)
    · have h := condT h ht46
      refine JS.rg0 ttOk 1 [(2, .v (.bool false))] ⟨⟨rfl, trivial⟩, rfl⟩ rfl rfl ?_
      cases h
      exact JS.ret ttOk () trivial rfl rfl [] rfl
    have h := condF h ht46
    refine JS.skip (JS.seq (JS.rg0 ttOk 18 [(72, .v (.bool (bif (!(decide (x0.2.1 = 2))) then (bif (bif (!(decide (x0.2.2.2.2.1 = 0))) then true else (!(decide (x0.2.2.2.2.2.1 = 0)))) then true else (!(decide (x0.2.2.2.2.2.2.1 = 0)))) else false)))] ⟨⟨rfl, trivial⟩, rfl⟩ rfl rfl ?_))
    refine JS.cond rfl (fun ht45 => ?_) (fun ht45 => ?_)
    · have h := condT h ht45
      refine JS.rg0 ttOk 1 [(2, .v (.bool false))] ⟨⟨rfl, trivial⟩, rfl⟩ rfl rfl ?_
      cases h
      exact JS.ret ttOk () trivial rfl rfl [] rfl
    have h := condF h ht45
    refine JS.skip (JS.seq (JS.seq (JS.region (JO.reg ttOk 16 [] [] [(76, .v (.bool (!(decide (x0.2.1 = 3))))), (86, .cd [(76, true)] (.v (.bool (bif (decide (0 < (x0.2.2.2.2.2.2.2.2.2.2.2.2.2.2.1.length : Int))) then true else (!(decide (x0.2.2.2.2.2.2.2.2.2.2.2.2.2.2.2.1 = 0))))))), (88, .cd [(86, false), (76, true)] (.v (.agg #[.slice a22 x0.2.2.2.2.2.2.2.2.2.2.2.2.2.2.2.2.1.length c23, .int .i64 x0.2.2.2.2.2.2.2.2.2.2.2.2.2.2.2.2.2])))] _ rfl ⟨(Es rfl), rfl⟩ ?_))))
    obtain ⟨y26, hy27, -, h⟩ := callO_some h
    refine JO.callg rfl rfl rfl rfl (fun q41 q42 => ok_s_l21Empty x0.2.2.2.2.2.2.2.2.2.2.2.2.2.2.2.2 a22 c23 x0.2.2.2.2.2.2.2.2.2.2.2.2.2.2.2.2.1.length rfl _ (hy27 ⟨q41, q42⟩)) rfl [5] rfl rfl (JO.reg ttOk 3 [] [] [(92, .v (.bool (bif (!(decide (x0.2.1 = 3))) then (bif (bif (decide (0 < (x0.2.2.2.2.2.2.2.2.2.2.2.2.2.2.1.length : Int))) then true else (!(decide (x0.2.2.2.2.2.2.2.2.2.2.2.2.2.2.2.1 = 0)))) then true else (!y26)) else false)))] _ rfl ⟨⟨rfl, trivial⟩, rfl⟩ (JO.done rfl ?_))
    refine JS.cond rfl (fun ht44 => ?_) (fun ht44 => ?_)
    · have h := condT h ht44
      refine JS.rg0 ttOk 1 [(2, .v (.bool false))] ⟨⟨rfl, trivial⟩, rfl⟩ rfl rfl ?_
      cases h
      exact JS.ret ttOk () trivial rfl rfl [] rfl
    have h := condF h ht44
    refine JS.skip (JS.seq (JS.region (JO.reg ttOk 2 [] [] [(94, .v (.int .i64 x0.2.2.2.2.1))] _ rfl ⟨⟨rfl, trivial⟩, rfl⟩ ?_)))
    refine JO.ofK rfl (JK.buildSlice ttOk rfl rfl rfl rfl rfl rfl rfl rfl rfl rfl rfl [] rfl (.int .i64) [0, 100, 99, 121] ⟨rfl, rfl⟩ rfl rfl fun a30 => JO.toK ?_)
    obtain ⟨y31, hy32, h⟩ := bindO_some h
    refine JO.call rfl rfl rfl rfl (ok_s_l21Among x0.2.2.2.2.1 ([0, 100, 99, 121] : List Int) a30 (([0, 100, 99, 121] : List Int).length) (([0, 100, 99, 121] : List Int).length) rfl _ hy32) rfl [6] rfl rfl fun _ _ => JO.reg ttOk 3 [] [] [(97, .v (.bool y31)), (99, .cd [(97, true)] (.v (.int .i64 x0.2.2.2.2.2.2.1)))] _ rfl ⟨(Es rfl), rfl⟩ (JO.buildSliceG ttOk rfl rfl rfl rfl rfl rfl rfl rfl rfl rfl rfl rfl (.int .i64) [0, 102, 70, 116, 84, 114] ⟨rfl, rfl⟩ rfl y31 gwant_t rfl fun a33 => ?_)
    obtain ⟨y34, hy35, -, h⟩ := callO_some h
    refine JO.callg rfl rfl rfl rfl (fun q43 => ok_s_l21Among x0.2.2.2.2.2.2.1 (gl y31 ([0, 102, 70, 116, 84, 114] : List Int)) a33 ((gl y31 ([0, 102, 70, 116, 84, 114] : List Int)).length) ((gl y31 ([0, 102, 70, 116, 84, 114] : List Int)).length) rfl _ (hy35 q43)) rfl [6] rfl rfl (JO.reg ttOk 12 [] [] [(2, .v (.bool (bif (bif y31 then y34 else false) then (bif (!(decide (x0.2.2.2.2.1 = 0))) then true else (decide (x0.2.2.2.2.2.1 = 0))) else false)))] _ rfl ⟨⟨rfl, trivial⟩, rfl⟩ (JO.done rfl ?_))
    cases h
    exact JS.ret ttOk () trivial rfl rfl [] rfl

def M_s_l15Piece (x0 : List Int) : Option Bool :=
  (callO ((decide ((x0.length : Int) ≤ 400)) = true) (M_s_l13AllTyped x0) false fun (y6 : Bool) =>
  some (bif (decide ((x0.length : Int) ≤ 400)) then y6 else false))

theorem ok_s_l15Piece (x0 : List Int) (a2 : Option Addr) (c3 : Nat) (l4 : Nat) (hl5 : x0.length = l4) (r : Bool) (h : M_s_l15Piece x0 = some r) :
    FC Tryz.prog 229 [.slice a2 l4 c3] [⟨(.int .i64), ⟨a2, l4, c3⟩, x0⟩] (fun _ : Unit => True) (fun _ => .bool r) (fun _ => []) :=
  by
    subst hl5
    refine FC.of (T := TTx) Tryz.call229 Tryz.func229 rfl rfl fun w0 => ?_
    unfold M_s_l15Piece at h
    refine JS.rg0 ttOk 1 [] ⟨trivial, rfl⟩ rfl rfl (JS.seq (JS.region (JO.reg ttOk 5 [] [] [(6, .v (.bool (decide ((x0.length : Int) ≤ 400)))), (7, .cd [(6, true)] (.v (.slice a2 x0.length c3)))] _ rfl ⟨(Es rfl), rfl⟩ ?_)))
    obtain ⟨y6, hy7, -, h⟩ := callO_some h
    refine JO.callg rfl rfl rfl rfl (fun q9 => ok_s_l13AllTyped x0 a2 c3 x0.length rfl _ (hy7 q9)) rfl [0] rfl rfl (JO.reg ttOk 2 [] [] [(2, .v (.bool (bif (decide ((x0.length : Int) ≤ 400)) then y6 else false)))] _ rfl ⟨⟨rfl, trivial⟩, rfl⟩ (JO.done rfl ?_))
    cases h
    exact JS.ret ttOk () trivial rfl rfl [] rfl

def M_s_RingOk_L1 (x0 : List (List Int)) (j32 : Unit → Option Bool) (k26 : Int → Option Bool) : Int → Option Bool := fun x6 =>
  (bif (decide (x6 < (x0.length : Int))) then
  (guardO (0 ≤ x6 ∧ x6 < (x0.length : Int)) <|
  (callO ((decide (((at' x0 x6).length : Int) = 0)) = false) (M_s_l15Piece (at' x0 x6)) false fun (y17 : Bool) =>
  (bif (bif (decide (((at' x0 x6).length : Int) = 0)) then true else (!y17)) then
  some false
  else
  k26 (W (x6 + 1)))))
  else
  j32 ())

def M_s_RingOk (x0 : List (List Int)) : Option Bool :=
  (joinO (fun (_ : Unit) =>
  some (decide ((x0.length : Int) ≤ 6))) fun j32 =>
  (fixF (M_s_RingOk_L1 x0 j32) FUEL 0))

theorem ok_s_RingOk (x0 : List (List Int)) (a2 : Option Addr) (c3 : Nat) (l4 : Nat) (hl5 : x0.length = l4) (r : Bool) (h : M_s_RingOk x0 = some r) :
    FC Tryz.prog 130 [.agg #[.slice a2 l4 c3]] [⟨(.sl (.int .i64)), ⟨a2, l4, c3⟩, x0⟩] (fun _ : Unit => True) (fun _ => .bool r) (fun _ => []) :=
  by
    subst hl5
    refine FC.of (T := TTx) Tryz.call130 Tryz.func130 rfl rfl fun w0 => ?_
    unfold M_s_RingOk at h
    refine JS.rgB ttOk 2 [] [2] [(1, .bp 2 0)] (.new 2 41 [.slice a2 x0.length c3] .nil) ⟨⟨rfl, trivial⟩, (Bs rfl rfl)⟩ rfl rfl (JS.seq (JS.rg0 ttOk 4 [(6, .v (.slice a2 x0.length c3)), (7, .v (.int .i64 (x0.length : Int))), (8, .v (.int .i64 0))] ⟨(Es rfl), rfl⟩ rfl rfl ?_))
    obtain ⟨j32, hj42, h⟩ := joinO_some h
    refine JS.blockJ (ι := Unit) ⟨fun _ => j32 () = some r, fun _ => [(1, .bp 2 0)], fun _ => (.new 2 41 [.slice a2 x0.length c3] .nil), fun _ => [⟨(.sl (.int .i64)), ⟨a2, x0.length, c3⟩, x0⟩], fun _ => [], fun _ => 0⟩ ?_ ?_
    · refine JS.loop (ι := Nat × Int) ⟨fun z => fixF (M_s_RingOk_L1 x0 j32) z.1 z.2 = some r, fun z => [(1, .bp 2 0), (6, .v (.slice a2 x0.length c3)), (7, .v (.int .i64 (x0.length : Int))), (8, .v (.int .i64 z.2))], fun z => (.new 2 41 [.slice a2 x0.length c3] .nil), fun z => [⟨(.sl (.int .i64)), ⟨a2, x0.length, c3⟩, x0⟩], fun z => [], fun z => z.1⟩ (FUEL, 0) h (Es rfl) (Bs rfl rfl) [0] rfl [] rfl ?_
      rintro ⟨n27, x6⟩ h
      obtain ⟨n27, rfl, h⟩ := fixF_some h
      rw [M_s_RingOk_L1] at h
      refine JS.rg0 ttOk 1 [(9, .v (.bool (decide (x6 < (x0.length : Int)))))] ⟨⟨rfl, trivial⟩, rfl⟩ rfl rfl (JS.seq ?_)
      refine JS.cond rfl (fun ht41 => ?_) (fun ht41 => ?_)
      · have h := condT h ht41
        refine JS.skip (JS.seq (JS.block (JS.seq (JS.region (JO.know 0 rfl fun hs38 => ?_)))))
        obtain ⟨g11, h⟩ := guardO_some h
        refine JO.reg ttOk 1 [] [] [(10, .ep ⟨a2, x0.length, c3⟩ (Int.toNat x6 * 1))] _ rfl ⟨hs38.ix g11, ⟨rfl, trivial⟩, rfl⟩ (JO.openR 0 rfl (Int.toNat x6) (at' x0 x6) rfl fun a12 c13 ys14 hl15 hy16 => JO.loadV ttOk rfl rfl rfl rfl rfl rfl 0 rfl rfl (Int.toNat x6) 0 (Sl.v ⟨a12, (at' x0 x6).length, c13⟩) ⟨hy16 (ltNat g11), rfl⟩ rfl rfl rfl (JO.regB ttOk 2 [] [16] [(4, .bp 16 0)] (.new 2 41 [.slice a2 x0.length c3] (.new 16 174 [.slice a12 (at' x0 x6).length c13] .nil)) rfl ⟨⟨rfl, trivial⟩, (Bs rfl rfl)⟩ (JO.done rfl (JS.seq (JS.region (JO.reg ttOk 7 [] [] [(16, .v (.bool (decide (((at' x0 x6).length : Int) = 0)))), (18, .cd [(16, false)] (.v (.slice a12 (at' x0 x6).length c13)))] _ rfl ⟨(Es rfl), rfl⟩ ?_))))))
        obtain ⟨y17, hy18, -, h⟩ := callO_some h
        refine JO.callg rfl rfl rfl rfl (fun q39 => ok_s_l15Piece (at' x0 x6) a12 c13 ((at' x0 x6).length) rfl _ (hy18 q39)) rfl [1] rfl rfl (JO.reg ttOk 2 [] [] [(21, .v (.bool (bif (decide (((at' x0 x6).length : Int) = 0)) then true else (!y17))))] _ rfl ⟨⟨rfl, trivial⟩, rfl⟩ (JO.done rfl ?_))
        refine JS.cond rfl (fun ht40 => ?_) (fun ht40 => ?_)
        · have h := condT h ht40
          refine JS.rg0 ttOk 1 [(2, .v (.bool false))] ⟨⟨rfl, trivial⟩, rfl⟩ rfl rfl ?_
          cases h
          exact JS.ret ttOk () trivial rfl rfl [] rfl
        have h := condF h ht40
        refine JS.skip (JS.endB (JS.re ttOk 2 [(W (x6 + 1))] [] [(8, .v (.int .i64 (W (x6 + 1))))] _ ⟨⟨trivial, rfl⟩, ⟨rfl, trivial⟩, rfl⟩ rfl rfl (JS.endL (n27, (W (x6 + 1))) h (Nat.lt_succ_self _) (Es rfl) (Bs rfl rfl) [2] rfl [] rfl)))
      have h := condF h ht41
      refine JS.exit rfl (JS.endJ () h ⟨rfl, trivial⟩ (Bs rfl rfl) [0] rfl [] rfl)
    rintro _ h
    subst hj42
    refine JS.rg0 ttOk 5 [(2, .v (.bool (decide ((x0.length : Int) ≤ 6))))] ⟨⟨rfl, trivial⟩, rfl⟩ rfl rfl ?_
    cases h
    exact JS.ret ttOk () trivial rfl rfl [] rfl

def M_s_UndoOk_L1 (x0 : List (List Int × Int)) (j29 : Unit → Option Bool) (k24 : Int → Option Bool) : Int → Option Bool := fun x6 =>
  (bif (decide (x6 < (x0.length : Int))) then
  (guardO (0 ≤ x6 ∧ x6 < (x0.length : Int)) <|
  (bindO (M_s_LineOk ((at' x0 x6).1, (at' x0 x6).2)) fun (y17 : Bool) =>
  (bif (!y17) then
  some false
  else
  k24 (W (x6 + 1)))))
  else
  j29 ())

def M_s_UndoOk (x0 : List (List Int × Int)) : Option Bool :=
  (joinO (fun (_ : Unit) =>
  some (decide ((x0.length : Int) ≤ 20))) fun j29 =>
  (fixF (M_s_UndoOk_L1 x0 j29) FUEL 0))

theorem ok_s_UndoOk (x0 : List (List Int × Int)) (a2 : Option Addr) (c3 : Nat) (l4 : Nat) (hl5 : x0.length = l4) (r : Bool) (h : M_s_UndoOk x0 = some r) :
    FC Tryz.prog 131 [.agg #[.slice a2 l4 c3]] [⟨(.pair (.sl (.int .i64)) (.int .i64)), ⟨a2, l4, c3⟩, x0⟩] (fun _ : Unit => True) (fun _ => .bool r) (fun _ => []) :=
  by
    subst hl5
    refine FC.of (T := TTx) Tryz.call131 Tryz.func131 rfl rfl fun w0 => ?_
    unfold M_s_UndoOk at h
    refine JS.rgB ttOk 2 [] [2] [(1, .bp 2 0)] (.new 2 44 [.slice a2 x0.length c3] .nil) ⟨⟨rfl, trivial⟩, (Bs rfl rfl)⟩ rfl rfl (JS.seq (JS.rg0 ttOk 4 [(6, .v (.slice a2 x0.length c3)), (7, .v (.int .i64 (x0.length : Int))), (8, .v (.int .i64 0))] ⟨(Es rfl), rfl⟩ rfl rfl ?_))
    obtain ⟨j29, hj37, h⟩ := joinO_some h
    refine JS.blockJ (ι := Unit) ⟨fun _ => j29 () = some r, fun _ => [(1, .bp 2 0)], fun _ => (.new 2 44 [.slice a2 x0.length c3] .nil), fun _ => [⟨(.pair (.sl (.int .i64)) (.int .i64)), ⟨a2, x0.length, c3⟩, x0⟩], fun _ => [], fun _ => 0⟩ ?_ ?_
    · refine JS.loop (ι := Nat × Int) ⟨fun z => fixF (M_s_UndoOk_L1 x0 j29) z.1 z.2 = some r, fun z => [(1, .bp 2 0), (6, .v (.slice a2 x0.length c3)), (7, .v (.int .i64 (x0.length : Int))), (8, .v (.int .i64 z.2))], fun z => (.new 2 44 [.slice a2 x0.length c3] .nil), fun z => [⟨(.pair (.sl (.int .i64)) (.int .i64)), ⟨a2, x0.length, c3⟩, x0⟩], fun z => [], fun z => z.1⟩ (FUEL, 0) h (Es rfl) (Bs rfl rfl) [0] rfl [] rfl ?_
      rintro ⟨n25, x6⟩ h
      obtain ⟨n25, rfl, h⟩ := fixF_some h
      rw [M_s_UndoOk_L1] at h
      refine JS.rg0 ttOk 1 [(9, .v (.bool (decide (x6 < (x0.length : Int)))))] ⟨⟨rfl, trivial⟩, rfl⟩ rfl rfl (JS.seq ?_)
      refine JS.cond rfl (fun ht36 => ?_) (fun ht36 => ?_)
      · have h := condT h ht36
        refine JS.skip (JS.seq (JS.block (JS.seq (JS.region (JO.know 0 rfl fun hs34 => ?_)))))
        obtain ⟨g11, h⟩ := guardO_some h
        refine JO.reg ttOk 1 [] [] [(10, .ep ⟨a2, x0.length, c3⟩ (Int.toNat x6 * 2))] _ rfl ⟨hs34.ix g11, ⟨rfl, trivial⟩, rfl⟩ (JO.openR 0 rfl (Int.toNat x6) (at' x0 x6) rfl fun a12 c13 ys14 hl15 hy16 => JO.loadV ttOk rfl rfl rfl rfl rfl rfl 0 rfl rfl (Int.toNat x6) 0 ((Sl.v ⟨a12, ((at' x0 x6).1).length, c13⟩), (at' x0 x6).2) ⟨hy16 (ltNat g11), rfl⟩ rfl rfl rfl (JO.regB ttOk 2 [] [16] [(4, .bp 16 0)] (.new 2 44 [.slice a2 x0.length c3] (.new 16 38 [.slice a12 ((at' x0 x6).1).length c13, .int .i64 (at' x0 x6).2] .nil)) rfl ⟨⟨rfl, trivial⟩, (Bs rfl rfl)⟩ (JO.done rfl (JS.seq (JS.region (JO.reg ttOk 1 [] [] [(12, .v (.agg #[.slice a12 ((at' x0 x6).1).length c13, .int .i64 (at' x0 x6).2]))] _ rfl ⟨⟨rfl, trivial⟩, rfl⟩ ?_))))))
        obtain ⟨y17, hy18, h⟩ := bindO_some h
        refine JO.call rfl rfl rfl rfl (ok_s_LineOk ((at' x0 x6).1, (at' x0 x6).2) a12 c13 (((at' x0 x6).1).length) rfl _ hy18) rfl [1] rfl rfl fun _ _ => JO.reg ttOk 1 [] [] [(14, .v (.bool (!y17)))] _ rfl ⟨⟨rfl, trivial⟩, rfl⟩ (JO.done rfl ?_)
        refine JS.cond rfl (fun ht35 => ?_) (fun ht35 => ?_)
        · have h := condT h ht35
          refine JS.rg0 ttOk 1 [(2, .v (.bool false))] ⟨⟨rfl, trivial⟩, rfl⟩ rfl rfl ?_
          cases h
          exact JS.ret ttOk () trivial rfl rfl [] rfl
        have h := condF h ht35
        refine JS.skip (JS.endB (JS.re ttOk 2 [(W (x6 + 1))] [] [(8, .v (.int .i64 (W (x6 + 1))))] _ ⟨⟨trivial, rfl⟩, ⟨rfl, trivial⟩, rfl⟩ rfl rfl (JS.endL (n25, (W (x6 + 1))) h (Nat.lt_succ_self _) (Es rfl) (Bs rfl rfl) [2] rfl [] rfl)))
      have h := condF h ht36
      refine JS.exit rfl (JS.endJ () h ⟨rfl, trivial⟩ (Bs rfl rfl) [0] rfl [] rfl)
    rintro _ h
    subst hj37
    refine JS.rg0 ttOk 5 [(2, .v (.bool (decide ((x0.length : Int) ≤ 20))))] ⟨⟨rfl, trivial⟩, rfl⟩ rfl rfl ?_
    cases h
    exact JS.ret ttOk () trivial rfl rfl [] rfl

def M_s_EdOk_L1 (x0 : Bool × Int × (List Int × Int) × Int × Int × Int × Int × Int × Int × Int × List (List Int) × (List (List Int × Int)) × Int × (List Int × Int) × List Int × Int × List Int × Int) (j63 : Unit → Option Bool) (k58 : Int → Option Bool) : Int → Option Bool := fun x51 =>
  (bif (decide (x51 < (x0.2.2.2.2.2.2.2.2.2.2.2.2.2.2.1.length : Int))) then
  (guardO (0 ≤ x51 ∧ x51 < (x0.2.2.2.2.2.2.2.2.2.2.2.2.2.2.1.length : Int)) <|
  (bindO (M_s_Printable (at' x0.2.2.2.2.2.2.2.2.2.2.2.2.2.2.1 x51)) fun (y54 : Bool) =>
  (bif (!y54) then
  some false
  else
  k58 (W (x51 + 1)))))
  else
  j63 ())

def M_s_EdOk (x0 : Bool × Int × (List Int × Int) × Int × Int × Int × Int × Int × Int × Int × List (List Int) × (List (List Int × Int)) × Int × (List Int × Int) × List Int × Int × List Int × Int) : Option Bool :=
  (bindO (M_s_LineOk x0.2.2.1) fun (y26 : Bool) =>
  (callO ((!y26) = false) (M_s_LineOk x0.2.2.2.2.2.2.2.2.2.2.2.2.2.1) false fun (y28 : Bool) =>
  (callO ((bif (!y26) then true else (!y28)) = false) (M_s_LineOk x0.2.2.2.2.2.2.2.2.2.2.2.2.2.2.2.2) false fun (y31 : Bool) =>
  (callO ((bif (bif (!y26) then true else (!y28)) then true else (!y31)) = false) (M_s_l21Mode x0) false fun (y34 : Bool) =>
  (callO ((bif (bif (bif (bif (bif (bif (bif (bif (bif (!y26) then true else (!y28)) then true else (!y31)) then true else (!y34)) then true else (decide (x0.2.2.2.1 < 0))) then true else (decide (999 < x0.2.2.2.1))) then true else (decide (x0.2.2.2.2.2.1 < 0))) then true else (decide (999 < x0.2.2.2.2.2.1))) then true else (decide (x0.2.2.2.2.2.2.2.2.2.1 < 0))) then true else (decide (3 < x0.2.2.2.2.2.2.2.2.2.1))) = false) (M_s_RingOk x0.2.2.2.2.2.2.2.2.2.2.1) false fun (y37 : Bool) =>
  (callO ((bif (bif (bif (bif (bif (bif (bif (bif (bif (bif (!y26) then true else (!y28)) then true else (!y31)) then true else (!y34)) then true else (decide (x0.2.2.2.1 < 0))) then true else (decide (999 < x0.2.2.2.1))) then true else (decide (x0.2.2.2.2.2.1 < 0))) then true else (decide (999 < x0.2.2.2.2.2.1))) then true else (decide (x0.2.2.2.2.2.2.2.2.2.1 < 0))) then true else (decide (3 < x0.2.2.2.2.2.2.2.2.2.1))) then true else (!y37)) = false) (M_s_UndoOk x0.2.2.2.2.2.2.2.2.2.2.2.1) false fun (y40 : Bool) =>
  (bif (bif (bif (bif (bif (bif (bif (bif (bif (bif (bif (bif (!y26) then true else (!y28)) then true else (!y31)) then true else (!y34)) then true else (decide (x0.2.2.2.1 < 0))) then true else (decide (999 < x0.2.2.2.1))) then true else (decide (x0.2.2.2.2.2.1 < 0))) then true else (decide (999 < x0.2.2.2.2.2.1))) then true else (decide (x0.2.2.2.2.2.2.2.2.2.1 < 0))) then true else (decide (3 < x0.2.2.2.2.2.2.2.2.2.1))) then true else (!y37)) then true else (!y40)) then
  some false
  else
  (callO ((!(decide (x0.2.2.2.2.2.2.2.1 = 0))) = true ∧ (bif (decide (x0.2.2.2.2.2.2.2.1 = 0)) then (!(decide (x0.2.2.2.2.2.2.2.2.1 = 0))) else false) = false) (M_s_Printable x0.2.2.2.2.2.2.2.1) false fun (y43 : Bool) =>
  (bif (bif (bif (decide (x0.2.2.2.2.2.2.2.1 = 0)) then (!(decide (x0.2.2.2.2.2.2.2.2.1 = 0))) else false) then true else (bif (!(decide (x0.2.2.2.2.2.2.2.1 = 0))) then (bif (bif (!y43) then true else (decide (x0.2.2.2.2.2.2.2.2.1 < 0))) then true else (decide (3 < x0.2.2.2.2.2.2.2.2.1))) else false)) then
  some false
  else
  (callO ((decide (x0.2.2.2.2.2.2.2.2.2.2.2.2.1 = 0)) = true ∧ (bif (bif (bif (decide (x0.2.2.2.2.2.2.2.2.2.2.2.2.1 < 0)) then true else (decide (1000000060 < x0.2.2.2.2.2.2.2.2.2.2.2.2.1))) then true else (decide (x0.2.2.2.2.2.2.2.2.2.2.2.2.2.2.2.1 < 0))) then true else (decide (1000000060 < x0.2.2.2.2.2.2.2.2.2.2.2.2.2.2.2.1))) = false) (M_s_l21Empty x0.2.2.2.2.2.2.2.2.2.2.2.2.2.1) false fun (y47 : Bool) =>
  (bif (bif (bif (bif (bif (bif (decide (x0.2.2.2.2.2.2.2.2.2.2.2.2.1 < 0)) then true else (decide (1000000060 < x0.2.2.2.2.2.2.2.2.2.2.2.2.1))) then true else (decide (x0.2.2.2.2.2.2.2.2.2.2.2.2.2.2.2.1 < 0))) then true else (decide (1000000060 < x0.2.2.2.2.2.2.2.2.2.2.2.2.2.2.2.1))) then true else (bif (decide (x0.2.2.2.2.2.2.2.2.2.2.2.2.1 = 0)) then (!y47) else false)) then true else (decide (40 < (x0.2.2.2.2.2.2.2.2.2.2.2.2.2.2.1.length : Int)))) then
  some false
  else
  (joinO (fun (_ : Unit) =>
  some true) fun j63 =>
  (fixF (M_s_EdOk_L1 x0 j63) FUEL 0)))))))))))))

theorem ok_s_EdOk (x0 : Bool × Int × (List Int × Int) × Int × Int × Int × Int × Int × Int × Int × List (List Int) × (List (List Int × Int)) × Int × (List Int × Int) × List Int × Int × List Int × Int) (a2 : Option Addr) (c3 : Nat) (l4 : Nat) (hl5 : x0.2.2.1.1.length = l4) (a6 : Option Addr) (c7 : Nat) (l8 : Nat) (hl9 : x0.2.2.2.2.2.2.2.2.2.2.1.length = l8) (a10 : Option Addr) (c11 : Nat) (l12 : Nat) (hl13 : x0.2.2.2.2.2.2.2.2.2.2.2.1.length = l12) (a14 : Option Addr) (c15 : Nat) (l16 : Nat) (hl17 : x0.2.2.2.2.2.2.2.2.2.2.2.2.2.1.1.length = l16) (a18 : Option Addr) (c19 : Nat) (l20 : Nat) (hl21 : x0.2.2.2.2.2.2.2.2.2.2.2.2.2.2.1.length = l20) (a22 : Option Addr) (c23 : Nat) (l24 : Nat) (hl25 : x0.2.2.2.2.2.2.2.2.2.2.2.2.2.2.2.2.1.length = l24) (r : Bool) (h : M_s_EdOk x0 = some r) :
    FC Tryz.prog 46 [.agg #[.bool x0.1, .int .i64 x0.2.1, .slice a2 l4 c3, .int .i64 x0.2.2.1.2, .int .i64 x0.2.2.2.1, .int .i64 x0.2.2.2.2.1, .int .i64 x0.2.2.2.2.2.1, .int .i64 x0.2.2.2.2.2.2.1, .int .i64 x0.2.2.2.2.2.2.2.1, .int .i64 x0.2.2.2.2.2.2.2.2.1, .int .i64 x0.2.2.2.2.2.2.2.2.2.1, .slice a6 l8 c7, .slice a10 l12 c11, .int .i64 x0.2.2.2.2.2.2.2.2.2.2.2.2.1, .slice a14 l16 c15, .int .i64 x0.2.2.2.2.2.2.2.2.2.2.2.2.2.1.2, .slice a18 l20 c19, .int .i64 x0.2.2.2.2.2.2.2.2.2.2.2.2.2.2.2.1, .slice a22 l24 c23, .int .i64 x0.2.2.2.2.2.2.2.2.2.2.2.2.2.2.2.2.2]] [⟨(.int .i64), ⟨a2, l4, c3⟩, x0.2.2.1.1⟩, ⟨(.sl (.int .i64)), ⟨a6, l8, c7⟩, x0.2.2.2.2.2.2.2.2.2.2.1⟩, ⟨(.pair (.sl (.int .i64)) (.int .i64)), ⟨a10, l12, c11⟩, x0.2.2.2.2.2.2.2.2.2.2.2.1⟩, ⟨(.int .i64), ⟨a14, l16, c15⟩, x0.2.2.2.2.2.2.2.2.2.2.2.2.2.1.1⟩, ⟨(.int .i64), ⟨a18, l20, c19⟩, x0.2.2.2.2.2.2.2.2.2.2.2.2.2.2.1⟩, ⟨(.int .i64), ⟨a22, l24, c23⟩, x0.2.2.2.2.2.2.2.2.2.2.2.2.2.2.2.2.1⟩] (fun _ : Unit => True) (fun _ => .bool r) (fun _ => []) :=
  by
    subst hl5
    subst hl9
    subst hl13
    subst hl17
    subst hl21
    subst hl25
    refine FC.of (T := TTx) Tryz.call46 Tryz.func46 rfl rfl fun w0 => ?_
    unfold M_s_EdOk at h
    refine JS.rgB ttOk 2 [] [7] [(1, .bp 7 0)] (.new 7 46 (cl46 x0 a2 c3 a6 c7 a10 c11 a14 c15 a18 c19 a22 c23) .nil) ⟨⟨rfl, trivial⟩, (Bs rfl rfl)⟩ rfl rfl (JS.seq (JS.seq (JS.region (JO.reg ttOk 2 [] [] [(7, .v (.agg #[.slice a2 x0.2.2.1.1.length c3, .int .i64 x0.2.2.1.2]))] _ rfl ⟨⟨rfl, trivial⟩, rfl⟩ ?_))))
    obtain ⟨y26, hy27, h⟩ := bindO_some h
    refine JO.call rfl rfl rfl rfl (ok_s_LineOk x0.2.2.1 a2 c3 x0.2.2.1.1.length rfl _ hy27) rfl [0] rfl rfl fun _ _ => JO.reg ttOk 4 [] [] [(10, .v (.bool (!y26))), (12, .cd [(10, false)] (.v (.agg #[.slice a14 x0.2.2.2.2.2.2.2.2.2.2.2.2.2.1.1.length c15, .int .i64 x0.2.2.2.2.2.2.2.2.2.2.2.2.2.1.2])))] _ rfl ⟨(Es rfl), rfl⟩ ?_
    obtain ⟨y28, hy29, -, h⟩ := callO_some h
    refine JO.callg rfl rfl rfl rfl (fun q71 => ok_s_LineOk x0.2.2.2.2.2.2.2.2.2.2.2.2.2.1 a14 c15 x0.2.2.2.2.2.2.2.2.2.2.2.2.2.1.1.length rfl _ (hy29 q71)) rfl [3] rfl rfl (JO.reg ttOk 5 [] [] [(16, .v (.bool (bif (!y26) then true else (!y28)))), (18, .cd [(16, false)] (.v (.agg #[.slice a22 x0.2.2.2.2.2.2.2.2.2.2.2.2.2.2.2.2.1.length c23, .int .i64 x0.2.2.2.2.2.2.2.2.2.2.2.2.2.2.2.2.2])))] _ rfl ⟨(Es rfl), rfl⟩ ?_)
    obtain ⟨y31, hy32, -, h⟩ := callO_some h
    refine JO.callg rfl rfl rfl rfl (fun q72 => ok_s_LineOk x0.2.2.2.2.2.2.2.2.2.2.2.2.2.2.2.2 a22 c23 x0.2.2.2.2.2.2.2.2.2.2.2.2.2.2.2.2.1.length rfl _ (hy32 q72)) rfl [5] rfl rfl (JO.reg ttOk 4 [] [] [(22, .v (.bool (bif (bif (!y26) then true else (!y28)) then true else (!y31)))), (23, .cd [(22, false)] (.v (.agg (cl46 x0 a2 c3 a6 c7 a10 c11 a14 c15 a18 c19 a22 c23).toArray)))] _ rfl ⟨(Es rfl), rfl⟩ ?_)
    obtain ⟨y34, hy35, -, h⟩ := callO_some h
    refine JO.callg rfl rfl rfl rfl (fun q73 => ok_s_l21Mode x0 a2 c3 x0.2.2.1.1.length rfl a6 c7 x0.2.2.2.2.2.2.2.2.2.2.1.length rfl a10 c11 x0.2.2.2.2.2.2.2.2.2.2.2.1.length rfl a14 c15 x0.2.2.2.2.2.2.2.2.2.2.2.2.2.1.1.length rfl a18 c19 x0.2.2.2.2.2.2.2.2.2.2.2.2.2.2.1.length rfl a22 c23 x0.2.2.2.2.2.2.2.2.2.2.2.2.2.2.2.2.1.length rfl _ (hy35 q73)) rfl [0, 1, 2, 3, 4, 5] rfl rfl (JO.reg ttOk 35 [] [] [(57, .v (.bool (bif (bif (bif (bif (bif (bif (bif (bif (bif (!y26) then true else (!y28)) then true else (!y31)) then true else (!y34)) then true else (decide (x0.2.2.2.1 < 0))) then true else (decide (999 < x0.2.2.2.1))) then true else (decide (x0.2.2.2.2.2.1 < 0))) then true else (decide (999 < x0.2.2.2.2.2.1))) then true else (decide (x0.2.2.2.2.2.2.2.2.2.1 < 0))) then true else (decide (3 < x0.2.2.2.2.2.2.2.2.2.1))))), (59, .cd [(57, false)] (.v (.agg #[.slice a6 x0.2.2.2.2.2.2.2.2.2.2.1.length c7])))] _ rfl ⟨(Es rfl), rfl⟩ ?_)
    obtain ⟨y37, hy38, -, h⟩ := callO_some h
    refine JO.callg rfl rfl rfl rfl (fun q74 => ok_s_RingOk x0.2.2.2.2.2.2.2.2.2.2.1 a6 c7 x0.2.2.2.2.2.2.2.2.2.2.1.length rfl _ (hy38 q74)) rfl [1] rfl rfl (JO.reg ttOk 5 [] [] [(63, .v (.bool (bif (bif (bif (bif (bif (bif (bif (bif (bif (bif (!y26) then true else (!y28)) then true else (!y31)) then true else (!y34)) then true else (decide (x0.2.2.2.1 < 0))) then true else (decide (999 < x0.2.2.2.1))) then true else (decide (x0.2.2.2.2.2.1 < 0))) then true else (decide (999 < x0.2.2.2.2.2.1))) then true else (decide (x0.2.2.2.2.2.2.2.2.2.1 < 0))) then true else (decide (3 < x0.2.2.2.2.2.2.2.2.2.1))) then true else (!y37)))), (65, .cd [(63, false)] (.v (.agg #[.slice a10 x0.2.2.2.2.2.2.2.2.2.2.2.1.length c11])))] _ rfl ⟨(Es rfl), rfl⟩ ?_)
    obtain ⟨y40, hy41, -, h⟩ := callO_some h
    refine JO.callg rfl rfl rfl rfl (fun q75 => ok_s_UndoOk x0.2.2.2.2.2.2.2.2.2.2.2.1 a10 c11 x0.2.2.2.2.2.2.2.2.2.2.2.1.length rfl _ (hy41 q75)) rfl [2] rfl rfl (JO.reg ttOk 2 [] [] [(68, .v (.bool (bif (bif (bif (bif (bif (bif (bif (bif (bif (bif (bif (!y26) then true else (!y28)) then true else (!y31)) then true else (!y34)) then true else (decide (x0.2.2.2.1 < 0))) then true else (decide (999 < x0.2.2.2.1))) then true else (decide (x0.2.2.2.2.2.1 < 0))) then true else (decide (999 < x0.2.2.2.2.2.1))) then true else (decide (x0.2.2.2.2.2.2.2.2.2.1 < 0))) then true else (decide (3 < x0.2.2.2.2.2.2.2.2.2.1))) then true else (!y37)) then true else (!y40))))] _ rfl ⟨⟨rfl, trivial⟩, rfl⟩ (JO.done rfl ?_))
    refine JS.cond rfl (fun ht86 => ?_) (fun ht86 => ?_)
    · have h := condT h ht86
      refine JS.rg0 ttOk 1 [(2, .v (.bool false))] ⟨⟨rfl, trivial⟩, rfl⟩ rfl rfl ?_
      cases h
      exact JS.ret ttOk () trivial rfl rfl [] rfl
    have h := condF h ht86
    refine JS.skip (JS.seq (JS.seq (JS.region (JO.reg ttOk 15 [] [] [(77, .v (.bool (bif (decide (x0.2.2.2.2.2.2.2.1 = 0)) then (!(decide (x0.2.2.2.2.2.2.2.2.1 = 0))) else false))), (81, .cd [(77, false)] (.v (.bool (!(decide (x0.2.2.2.2.2.2.2.1 = 0)))))), (83, .cd [(81, true), (77, false)] (.v (.int .i64 x0.2.2.2.2.2.2.2.1)))] _ rfl ⟨(Es rfl), rfl⟩ ?_))))
    obtain ⟨y43, hy44, -, h⟩ := callO_some h
    refine JO.callg rfl rfl rfl rfl (fun q76 q77 => ok_s_Printable x0.2.2.2.2.2.2.2.1 _ (hy44 ⟨q76, q77⟩)) rfl [] rfl rfl (JO.reg ttOk 13 [] [] [(97, .v (.bool (bif (bif (decide (x0.2.2.2.2.2.2.2.1 = 0)) then (!(decide (x0.2.2.2.2.2.2.2.2.1 = 0))) else false) then true else (bif (!(decide (x0.2.2.2.2.2.2.2.1 = 0))) then (bif (bif (!y43) then true else (decide (x0.2.2.2.2.2.2.2.2.1 < 0))) then true else (decide (3 < x0.2.2.2.2.2.2.2.2.1))) else false))))] _ rfl ⟨⟨rfl, trivial⟩, rfl⟩ (JO.done rfl ?_))
    refine JS.cond rfl (fun ht85 => ?_) (fun ht85 => ?_)
    · have h := condT h ht85
      refine JS.rg0 ttOk 1 [(2, .v (.bool false))] ⟨⟨rfl, trivial⟩, rfl⟩ rfl rfl ?_
      cases h
      exact JS.ret ttOk () trivial rfl rfl [] rfl
    have h := condF h ht85
    refine JS.skip (JS.rg0 ttOk 1 [(3, .v (.int .i64 1000000060))] ⟨⟨rfl, trivial⟩, rfl⟩ rfl rfl (JS.seq (JS.seq (JS.region (JO.reg ttOk 27 [] [] [(118, .v (.bool (bif (bif (bif (decide (x0.2.2.2.2.2.2.2.2.2.2.2.2.1 < 0)) then true else (decide (1000000060 < x0.2.2.2.2.2.2.2.2.2.2.2.2.1))) then true else (decide (x0.2.2.2.2.2.2.2.2.2.2.2.2.2.2.2.1 < 0))) then true else (decide (1000000060 < x0.2.2.2.2.2.2.2.2.2.2.2.2.2.2.2.1))))), (122, .cd [(118, false)] (.v (.bool (decide (x0.2.2.2.2.2.2.2.2.2.2.2.2.1 = 0))))), (124, .cd [(122, true), (118, false)] (.v (.agg #[.slice a14 x0.2.2.2.2.2.2.2.2.2.2.2.2.2.1.1.length c15, .int .i64 x0.2.2.2.2.2.2.2.2.2.2.2.2.2.1.2])))] _ rfl ⟨(Es rfl), rfl⟩ ?_)))))
    obtain ⟨y47, hy48, -, h⟩ := callO_some h
    refine JO.callg rfl rfl rfl rfl (fun q78 q79 => ok_s_l21Empty x0.2.2.2.2.2.2.2.2.2.2.2.2.2.1 a14 c15 x0.2.2.2.2.2.2.2.2.2.2.2.2.2.1.1.length rfl _ (hy48 ⟨q78, q79⟩)) rfl [3] rfl rfl (JO.reg ttOk 9 [] [] [(134, .v (.bool (bif (bif (bif (bif (bif (decide (x0.2.2.2.2.2.2.2.2.2.2.2.2.1 < 0)) then true else (decide (1000000060 < x0.2.2.2.2.2.2.2.2.2.2.2.2.1))) then true else (decide (x0.2.2.2.2.2.2.2.2.2.2.2.2.2.2.2.1 < 0))) then true else (decide (1000000060 < x0.2.2.2.2.2.2.2.2.2.2.2.2.2.2.2.1))) then true else (bif (decide (x0.2.2.2.2.2.2.2.2.2.2.2.2.1 = 0)) then (!y47) else false)) then true else (decide (40 < (x0.2.2.2.2.2.2.2.2.2.2.2.2.2.2.1.length : Int))))))] _ rfl ⟨⟨rfl, trivial⟩, rfl⟩ (JO.done rfl ?_))
    refine JS.cond rfl (fun ht84 => ?_) (fun ht84 => ?_)
    · have h := condT h ht84
      refine JS.rg0 ttOk 1 [(2, .v (.bool false))] ⟨⟨rfl, trivial⟩, rfl⟩ rfl rfl ?_
      cases h
      exact JS.ret ttOk () trivial rfl rfl [] rfl
    have h := condF h ht84
    refine JS.skip (JS.seq (JS.rg0 ttOk 4 [(136, .v (.slice a18 x0.2.2.2.2.2.2.2.2.2.2.2.2.2.2.1.length c19)), (137, .v (.int .i64 (x0.2.2.2.2.2.2.2.2.2.2.2.2.2.2.1.length : Int))), (138, .v (.int .i64 0))] ⟨(Es rfl), rfl⟩ rfl rfl ?_))
    obtain ⟨j63, hj83, h⟩ := joinO_some h
    refine JS.blockJ (ι := Unit) ⟨fun _ => j63 () = some r, fun _ => [], fun _ => .nil, fun _ => [], fun _ => [], fun _ => 0⟩ ?_ ?_
    · refine JS.loop (ι := Nat × Int) ⟨fun z => fixF (M_s_EdOk_L1 x0 j63) z.1 z.2 = some r, fun z => [(136, .v (.slice a18 x0.2.2.2.2.2.2.2.2.2.2.2.2.2.2.1.length c19)), (137, .v (.int .i64 (x0.2.2.2.2.2.2.2.2.2.2.2.2.2.2.1.length : Int))), (138, .v (.int .i64 z.2))], fun z => .nil, fun z => [⟨(.int .i64), ⟨a18, x0.2.2.2.2.2.2.2.2.2.2.2.2.2.2.1.length, c19⟩, x0.2.2.2.2.2.2.2.2.2.2.2.2.2.2.1⟩], fun z => [], fun z => z.1⟩ (FUEL, 0) h (Es rfl) trivial [4] rfl [] rfl ?_
      rintro ⟨n59, x51⟩ h
      obtain ⟨n59, rfl, h⟩ := fixF_some h
      rw [M_s_EdOk_L1] at h
      refine JS.rg0 ttOk 1 [(139, .v (.bool (decide (x51 < (x0.2.2.2.2.2.2.2.2.2.2.2.2.2.2.1.length : Int)))))] ⟨⟨rfl, trivial⟩, rfl⟩ rfl rfl (JS.seq ?_)
      refine JS.cond rfl (fun ht82 => ?_) (fun ht82 => ?_)
      · have h := condT h ht82
        refine JS.skip (JS.seq (JS.block (JS.seq (JS.region (JO.know 0 rfl fun hs80 => ?_)))))
        obtain ⟨g53, h⟩ := guardO_some h
        refine JO.reg ttOk 1 [] [] [(140, .ep ⟨a18, x0.2.2.2.2.2.2.2.2.2.2.2.2.2.2.1.length, c19⟩ (Int.toNat x51 * 1))] _ rfl ⟨hs80.ix g53, ⟨rfl, trivial⟩, rfl⟩ (JO.load ttOk rfl rfl rfl rfl rfl rfl rfl 0 rfl rfl (Int.toNat x51) 0 (at' x0.2.2.2.2.2.2.2.2.2.2.2.2.2.2.1 x51) ⟨at_some g53, rfl⟩ rfl rfl (JO.reg ttOk 1 [] [] [(5, .v (.int .i64 (at' x0.2.2.2.2.2.2.2.2.2.2.2.2.2.2.1 x51)))] _ rfl ⟨⟨rfl, trivial⟩, rfl⟩ (JO.done rfl (JS.seq (JS.region (JO.reg ttOk 1 [] [] [(142, .v (.int .i64 (at' x0.2.2.2.2.2.2.2.2.2.2.2.2.2.2.1 x51)))] _ rfl ⟨⟨rfl, trivial⟩, rfl⟩ ?_))))))
        obtain ⟨y54, hy55, h⟩ := bindO_some h
        refine JO.call rfl rfl rfl rfl (ok_s_Printable (at' x0.2.2.2.2.2.2.2.2.2.2.2.2.2.2.1 x51) _ hy55) rfl [] rfl rfl fun _ _ => JO.reg ttOk 1 [] [] [(144, .v (.bool (!y54)))] _ rfl ⟨⟨rfl, trivial⟩, rfl⟩ (JO.done rfl ?_)
        refine JS.cond rfl (fun ht81 => ?_) (fun ht81 => ?_)
        · have h := condT h ht81
          refine JS.rg0 ttOk 1 [(2, .v (.bool false))] ⟨⟨rfl, trivial⟩, rfl⟩ rfl rfl ?_
          cases h
          exact JS.ret ttOk () trivial rfl rfl [] rfl
        have h := condF h ht81
        refine JS.skip (JS.endB (JS.re ttOk 2 [(W (x51 + 1))] [] [(138, .v (.int .i64 (W (x51 + 1))))] _ ⟨⟨trivial, rfl⟩, ⟨rfl, trivial⟩, rfl⟩ rfl rfl (JS.endL (n59, (W (x51 + 1))) h (Nat.lt_succ_self _) (Es rfl) trivial [0] rfl [] rfl)))
      have h := condF h ht82
      refine JS.exit rfl (JS.endJ () h trivial trivial [] rfl [] rfl)
    rintro _ h
    subst hj83
    refine JS.rg0 ttOk 1 [(2, .v (.bool true))] ⟨⟨rfl, trivial⟩, rfl⟩ rfl rfl ?_
    cases h
    exact JS.ret ttOk () trivial rfl rfl [] rfl

def M_s_HistOk_L1 (x0 : Int × List (List UInt8)) (j23 : Unit → Option Bool) (k18 : Int → Option Bool) : Int → Option Bool := fun x6 =>
  (bif (decide (x6 < (x0.2.length : Int))) then
  (guardO (0 ≤ x6 ∧ x6 < (x0.2.length : Int)) <|
  (bif (bif (decide (((at' x0.2 x6).length : Int) < 1)) then true else (decide (1000 < ((at' x0.2 x6).length : Int)))) then
  some false
  else
  k18 (W (x6 + 1))))
  else
  j23 ())

def M_s_HistOk (x0 : Int × List (List UInt8)) : Option Bool :=
  (joinO (fun (_ : Unit) =>
  some (bif (bif (decide (1 ≤ x0.1)) then (decide (x0.1 ≤ 1000000000)) else false) then (decide ((x0.2.length : Int) ≤ 60)) else false)) fun j23 =>
  (fixF (M_s_HistOk_L1 x0 j23) FUEL 0))

theorem ok_s_HistOk (x0 : Int × List (List UInt8)) (a2 : Option Addr) (c3 : Nat) (l4 : Nat) (hl5 : x0.2.length = l4) (r : Bool) (h : M_s_HistOk x0 = some r) :
    FC Tryz.prog 78 [.agg #[.int .i64 x0.1, .slice a2 l4 c3]] [⟨.str, ⟨a2, l4, c3⟩, x0.2⟩] (fun _ : Unit => True) (fun _ => .bool r) (fun _ => []) :=
  by
    subst hl5
    refine FC.of (T := TTx) Tryz.call78 Tryz.func78 rfl rfl fun w0 => ?_
    unfold M_s_HistOk at h
    refine JS.rgB ttOk 2 [] [2] [(1, .bp 2 0)] (.new 2 50 [.int .i64 x0.1, .slice a2 x0.2.length c3] .nil) ⟨⟨rfl, trivial⟩, (Bs rfl rfl)⟩ rfl rfl (JS.seq (JS.rg0 ttOk 4 [(6, .v (.slice a2 x0.2.length c3)), (7, .v (.int .i64 (x0.2.length : Int))), (8, .v (.int .i64 0))] ⟨(Es rfl), rfl⟩ rfl rfl ?_))
    obtain ⟨j23, hj31, h⟩ := joinO_some h
    refine JS.blockJ (ι := Unit) ⟨fun _ => j23 () = some r, fun _ => [(1, .bp 2 0)], fun _ => (.new 2 50 [.int .i64 x0.1, .slice a2 x0.2.length c3] .nil), fun _ => [⟨.str, ⟨a2, x0.2.length, c3⟩, x0.2⟩], fun _ => [], fun _ => 0⟩ ?_ ?_
    · refine JS.loop (ι := Nat × Int) ⟨fun z => fixF (M_s_HistOk_L1 x0 j23) z.1 z.2 = some r, fun z => [(1, .bp 2 0), (6, .v (.slice a2 x0.2.length c3)), (7, .v (.int .i64 (x0.2.length : Int))), (8, .v (.int .i64 z.2))], fun z => (.new 2 50 [.int .i64 x0.1, .slice a2 x0.2.length c3] .nil), fun z => [⟨.str, ⟨a2, x0.2.length, c3⟩, x0.2⟩], fun z => [], fun z => z.1⟩ (FUEL, 0) h (Es rfl) (Bs rfl rfl) [0] rfl [] rfl ?_
      rintro ⟨n19, x6⟩ h
      obtain ⟨n19, rfl, h⟩ := fixF_some h
      rw [M_s_HistOk_L1] at h
      refine JS.rg0 ttOk 1 [(9, .v (.bool (decide (x6 < (x0.2.length : Int)))))] ⟨⟨rfl, trivial⟩, rfl⟩ rfl rfl (JS.seq ?_)
      refine JS.cond rfl (fun ht30 => ?_) (fun ht30 => ?_)
      · have h := condT h ht30
        refine JS.skip (JS.seq (JS.block (JS.seq (JS.region (JO.know 0 rfl fun hs28 => ?_)))))
        obtain ⟨g12, h⟩ := guardO_some h
        refine JO.reg ttOk 1 [] [] [(10, .ep ⟨a2, x0.2.length, c3⟩ (Int.toNat x6 * 1))] _ rfl ⟨hs28.ix g12, ⟨rfl, trivial⟩, rfl⟩ (JO.load ttOk rfl rfl rfl rfl rfl rfl rfl 0 rfl rfl (Int.toNat x6) 0 (at' x0.2 x6) ⟨at_some g12, rfl⟩ rfl rfl (JO.reg ttOk 1 [] [] [(4, .v (.string (bs (at' x0.2 x6))))] _ rfl ⟨⟨rfl, trivial⟩, rfl⟩ (JO.done rfl (JS.rg0 ttOk 8 [(19, .v (.bool (bif (decide (((at' x0.2 x6).length : Int) < 1)) then true else (decide (1000 < ((at' x0.2 x6).length : Int))))))] ⟨⟨rfl, trivial⟩, rfl⟩ rfl rfl ?_))))
        refine JS.cond rfl (fun ht29 => ?_) (fun ht29 => ?_)
        · have h := condT h ht29
          refine JS.rg0 ttOk 1 [(2, .v (.bool false))] ⟨⟨rfl, trivial⟩, rfl⟩ rfl rfl ?_
          cases h
          exact JS.ret ttOk () trivial rfl rfl [] rfl
        have h := condF h ht29
        refine JS.skip (JS.endB (JS.re ttOk 2 [(W (x6 + 1))] [] [(8, .v (.int .i64 (W (x6 + 1))))] _ ⟨⟨trivial, rfl⟩, ⟨rfl, trivial⟩, rfl⟩ rfl rfl (JS.endL (n19, (W (x6 + 1))) h (Nat.lt_succ_self _) (Es rfl) (Bs rfl rfl) [0] rfl [] rfl)))
      have h := condF h ht30
      refine JS.exit rfl (JS.endJ () h ⟨rfl, trivial⟩ (Bs rfl rfl) [0] rfl [] rfl)
    rintro _ h
    subst hj31
    refine JS.rg0 ttOk 15 [(2, .v (.bool (bif (bif (decide (1 ≤ x0.1)) then (decide (x0.1 ≤ 1000000000)) else false) then (decide ((x0.2.length : Int) ≤ 60)) else false)))] ⟨⟨rfl, trivial⟩, rfl⟩ rfl rfl ?_
    cases h
    exact JS.ret ttOk () trivial rfl rfl [] rfl

def M_s_KeyOk (x0 : Int × Int) : Option Bool :=
  (bif (decide (x0.1 = 1)) then
  (bindO (M_s_Printable x0.2) fun (y2 : Bool) =>
  some y2)
  else
  (bif (decide (x0.1 = 2)) then
  some (bif (decide (x0.2 = 95)) then true else (bif (bif (bif (bif (bif (decide (97 ≤ x0.2)) then (decide (x0.2 ≤ 122)) else false) then (!(decide (x0.2 = 104))) else false) then (!(decide (x0.2 = 105))) else false) then (!(decide (x0.2 = 106))) else false) then (!(decide (x0.2 = 109))) else false))
  else
  (bif (decide (x0.1 = 3)) then
  some (bif (decide (33 ≤ x0.2)) then (decide (x0.2 ≤ 126)) else false)
  else
  some (bif (bif (decide (4 ≤ x0.1)) then (decide (x0.1 ≤ 16)) else false) then (decide (x0.2 = 0)) else false))))

theorem ok_s_KeyOk (x0 : Int × Int) (r : Bool) (h : M_s_KeyOk x0 = some r) :
    FC Tryz.prog 79 [.agg #[.int .i64 x0.1, .int .i64 x0.2]] [] (fun _ : Unit => True) (fun _ => .bool r) (fun _ => []) :=
  by
    refine FC.of (T := TTx) Tryz.call79 Tryz.func79 rfl rfl fun w0 => ?_
    unfold M_s_KeyOk at h
    refine JS.rgB ttOk 2 [] [1] [(1, .bp 1 0)] (.new 1 64 [.int .i64 x0.1, .int .i64 x0.2] .nil) ⟨⟨rfl, trivial⟩, (Bs rfl rfl)⟩ rfl rfl (JS.seq (JS.rg0 ttOk 2 [(4, .v (.int .i64 x0.1))] ⟨⟨rfl, trivial⟩, rfl⟩ rfl rfl (JS.block (JS.rg0 ttOk 2 [(5, .v (.bool (decide (x0.1 = 1))))] ⟨⟨rfl, trivial⟩, rfl⟩ rfl rfl ?_))))
    refine JS.cond rfl (fun ht9 => ?_) (fun ht9 => ?_)
    · have h := condT h ht9
      refine JS.seq (JS.region (JO.reg ttOk 2 [] [] [(8, .v (.int .i64 x0.2))] _ rfl ⟨⟨rfl, trivial⟩, rfl⟩ ?_))
      obtain ⟨y2, hy3, h⟩ := bindO_some h
      refine JO.call rfl rfl rfl rfl (ok_s_Printable x0.2 _ hy3) rfl [] rfl rfl fun _ _ => JO.reg ttOk 1 [] [] [(2, .v (.bool y2))] _ rfl ⟨⟨rfl, trivial⟩, rfl⟩ (JO.done rfl ?_)
      cases h
      exact JS.ret ttOk () trivial rfl rfl [] rfl
    have h := condF h ht9
    refine JS.rg0 ttOk 2 [(10, .v (.bool (decide (x0.1 = 2))))] ⟨⟨rfl, trivial⟩, rfl⟩ rfl rfl ?_
    refine JS.cond rfl (fun ht8 => ?_) (fun ht8 => ?_)
    · have h := condT h ht8
      refine JS.rg0 ttOk 34 [(2, .v (.bool (bif (decide (x0.2 = 95)) then true else (bif (bif (bif (bif (bif (decide (97 ≤ x0.2)) then (decide (x0.2 ≤ 122)) else false) then (!(decide (x0.2 = 104))) else false) then (!(decide (x0.2 = 105))) else false) then (!(decide (x0.2 = 106))) else false) then (!(decide (x0.2 = 109))) else false))))] ⟨⟨rfl, trivial⟩, rfl⟩ rfl rfl ?_
      cases h
      exact JS.ret ttOk () trivial rfl rfl [] rfl
    have h := condF h ht8
    refine JS.rg0 ttOk 2 [(45, .v (.bool (decide (x0.1 = 3))))] ⟨⟨rfl, trivial⟩, rfl⟩ rfl rfl ?_
    refine JS.cond rfl (fun ht7 => ?_) (fun ht7 => ?_)
    · have h := condT h ht7
      refine JS.rg0 ttOk 9 [(2, .v (.bool (bif (decide (33 ≤ x0.2)) then (decide (x0.2 ≤ 126)) else false)))] ⟨⟨rfl, trivial⟩, rfl⟩ rfl rfl ?_
      cases h
      exact JS.ret ttOk () trivial rfl rfl [] rfl
    have h := condF h ht7
    refine JS.skip (JS.endB (JS.rg0 ttOk 14 [(2, .v (.bool (bif (bif (decide (4 ≤ x0.1)) then (decide (x0.1 ≤ 16)) else false) then (decide (x0.2 = 0)) else false)))] ⟨⟨rfl, trivial⟩, rfl⟩ rfl rfl ?_))
    cases h
    exact JS.ret ttOk () trivial rfl rfl [] rfl

def M_s_HistLast (x0 : Int × List (List UInt8)) : Option Int :=
  (bindO (M_s_HistOk x0) fun (y6 : Bool) =>
  (bif (bif (!y6) then true else (decide ((x0.2.length : Int) = 0))) then
  some 0
  else
  some (W ((W (x0.1 + (x0.2.length : Int))) - 1))))

theorem ok_s_HistLast (x0 : Int × List (List UInt8)) (a2 : Option Addr) (c3 : Nat) (l4 : Nat) (hl5 : x0.2.length = l4) (r : Int) (h : M_s_HistLast x0 = some r) :
    FC Tryz.prog 80 [.agg #[.int .i64 x0.1, .slice a2 l4 c3]] [⟨.str, ⟨a2, l4, c3⟩, x0.2⟩] (fun _ : Unit => True) (fun _ => .int .i64 r) (fun _ => []) :=
  by
    subst hl5
    refine FC.of (T := TTx) Tryz.call80 Tryz.func80 rfl rfl fun w0 => ?_
    unfold M_s_HistLast at h
    refine JS.rgB ttOk 2 [] [2] [(1, .bp 2 0)] (.new 2 50 [.int .i64 x0.1, .slice a2 x0.2.length c3] .nil) ⟨⟨rfl, trivial⟩, (Bs rfl rfl)⟩ rfl rfl (JS.seq (JS.seq (JS.region (JO.reg ttOk 1 [] [] [(3, .v (.agg #[.int .i64 x0.1, .slice a2 x0.2.length c3]))] _ rfl ⟨⟨rfl, trivial⟩, rfl⟩ ?_))))
    obtain ⟨y6, hy7, h⟩ := bindO_some h
    refine JO.call rfl rfl rfl rfl (ok_s_HistOk x0 a2 c3 x0.2.length rfl _ hy7) rfl [0] rfl rfl fun _ _ => JO.reg ttOk 7 [] [] [(11, .v (.bool (bif (!y6) then true else (decide ((x0.2.length : Int) = 0)))))] _ rfl ⟨⟨rfl, trivial⟩, rfl⟩ (JO.done rfl ?_)
    refine JS.cond rfl (fun ht9 => ?_) (fun ht9 => ?_)
    · have h := condT h ht9
      refine JS.rg0 ttOk 1 [(2, .v (.int .i64 0))] ⟨⟨rfl, trivial⟩, rfl⟩ rfl rfl ?_
      cases h
      exact JS.ret ttOk () trivial rfl rfl [] rfl
    have h := condF h ht9
    refine JS.skip (JS.rg ttOk 8 [(W (x0.1 + (x0.2.length : Int))), (W ((W (x0.1 + (x0.2.length : Int))) - 1))] [] [(2, .v (.int .i64 (W ((W (x0.1 + (x0.2.length : Int))) - 1))))] _ ⟨⟨trivial, rfl⟩, ⟨trivial, rfl⟩, ⟨rfl, trivial⟩, rfl⟩ rfl rfl ?_)
    cases h
    exact JS.ret ttOk () trivial rfl rfl [] rfl

def M_s_l15Line (x0 : List Int × Int) : Option (List Int × Int) :=
  (guardO (([] : List Int).length + x0.1.length ≤ 536870912) <|
  some ((([] : List Int) ++ x0.1), x0.2))

theorem ok_s_l15Line (x0 : List Int × Int) (a2 : Option Addr) (c3 : Nat) (l4 : Nat) (hl5 : x0.1.length = l4) (r : List Int × Int) (h : M_s_l15Line x0 = some r) :
    FC Tryz.prog 52 [.agg #[.slice a2 l4 c3, .int .i64 x0.2]] [⟨(.int .i64), ⟨a2, l4, c3⟩, x0.1⟩] (fun _ : Option Addr × Nat => True) (fun q => .agg #[.slice q.1 r.1.length q.2, .int .i64 r.2]) (fun q => [⟨(.int .i64), ⟨q.1, r.1.length, q.2⟩, r.1⟩]) :=
  by
    subst hl5
    refine FC.of (T := TTx) Tryz.call52 Tryz.func52 rfl rfl fun w0 => ?_
    unfold M_s_l15Line at h
    refine JS.rgB ttOk 2 [] [2, 3] [(1, .bp 2 0), (2, .bp 3 0)] (.new 2 38 [.slice a2 x0.1.length c3, .int .i64 x0.2] (.new 3 38 [.slice none 0 0, .int .i64 0] .nil)) ⟨(Es rfl), (Bs rfl rfl)⟩ rfl rfl (JS.seq ?_)
    obtain ⟨g7, h⟩ := guardO_some h
    refine JS.regionA rfl (.new 2 38 [.slice a2 x0.1.length c3, .int .i64 x0.2] .nil) [] [6, 7] ⟨rfl, rfl, rfl, rfl, trivial⟩ rfl (fun be10 => ?_)
    refine JA.reg ttOk panic_cx true 4 [1, 2, 4, 5] rfl (by kernel_rfl) [] [(5, .v (.slice a2 x0.1.length c3)), (8, .v (.int .i64 x0.2))] ⟨rfl, rfl, rfl, rfl, trivial⟩ [] rfl rfl (Es rfl) (JA.one 0 (by kernel_rfl) (JK.buildSlice ttOk rfl rfl rfl rfl rfl rfl rfl rfl rfl rfl rfl [] rfl (.int .i64) [] ⟨rfl, rfl⟩ rfl rfl fun a6 => JA.next ⟨rfl, rfl, rfl, rfl, trivial⟩ [] rfl (JA.one 3 (by kernel_rfl) (JK.appendR' ttOk rfl rfl rfl rfl ⟨rfl, rfl, rfl, rfl, trivial, rfl, rfl, rfl, rfl⟩ rfl rfl rfl [0] rfl 0 rfl g7 rfl fun a8 c9 => JA.next ⟨rfl, rfl, rfl, rfl, trivial⟩ [] rfl (JA.regL ttOk panic_cx 1 [6] rfl (by kernel_rfl) [] [(9, .v (.agg #[.slice a8 (([] : List Int) ++ x0.1).length c9, .int .i64 x0.2]))] rfl ⟨rfl, trivial⟩ (JA.one 7 (by kernel_rfl) (JK.stBox ttOk rfl rfl rfl rfl rfl rfl rfl rfl (JA.nextL rfl (JA.done (by kernel_rfl) (JS.boxes (B' := (.new 3 38 [.slice a8 (([] : List Int) ++ x0.1).length c9, .int .i64 x0.2] .nil)) (Bs rfl rfl) ?_))))))))))
    cases h
    exact JS.ret ttOk (a8, c9) trivial rfl rfl [0] rfl

def M_s_l15Copy_L1 (x0 : List (List Int)) (j39 : (List (List Int)) → Option (List (List Int))) (k32 : (Int × List (List Int)) → Option (List (List Int))) : (Int × List (List Int)) → Option (List (List Int)) := fun (x6, x10) =>
  (bif (decide (x6 < (x0.length : Int))) then
  (guardO (0 ≤ x6 ∧ x6 < (x0.length : Int)) <|
  (guardO (([] : List Int).length + (at' x0 x6).length ≤ 536870912) <|
  (guardO (x10.length + ([(([] : List Int) ++ (at' x0 x6))] : List (List Int)).length ≤ 536870912) <|
  k32 ((W (x6 + 1)), (x10 ++ ([(([] : List Int) ++ (at' x0 x6))] : List (List Int)))))))
  else
  j39 x10)

def M_s_l15Copy (x0 : List (List Int)) : Option (List (List Int)) :=
  (joinO (fun (x36 : List (List Int)) =>
  some x36) fun j39 =>
  (fixF (M_s_l15Copy_L1 x0 j39) FUEL (0, ([] : List (List Int)))))

theorem ok_s_l15Copy (x0 : List (List Int)) (a2 : Option Addr) (c3 : Nat) (l4 : Nat) (hl5 : x0.length = l4) (r : List (List Int)) (h : M_s_l15Copy x0 = some r) :
    FC Tryz.prog 137 [.agg #[.slice a2 l4 c3]] [⟨(.sl (.int .i64)), ⟨a2, l4, c3⟩, x0⟩] (fun _ : Option Addr × Nat => True) (fun q => .agg #[.slice q.1 r.length q.2]) (fun q => [⟨(.sl (.int .i64)), ⟨q.1, r.length, q.2⟩, r⟩]) :=
  by
    subst hl5
    refine FC.of (T := TTx) Tryz.call137 Tryz.func137 rfl rfl fun w0 => ?_
    unfold M_s_l15Copy at h
    refine JS.rgB ttOk 2 [] [2, 3] [(1, .bp 2 0), (2, .bp 3 0)] (.new 2 41 [.slice a2 x0.length c3] (.new 3 41 [.slice none 0 0] .nil)) ⟨(Es rfl), (Bs rfl rfl)⟩ rfl rfl (JS.rgB ttOk 3 [] [4] [(3, .bp 4 0)] (.new 2 41 [.slice a2 x0.length c3] (.new 3 41 [.slice none 0 0] (.new 4 41 [.slice none 0 0] .nil))) ⟨⟨rfl, trivial⟩, (Bs rfl rfl)⟩ rfl rfl (JS.seq (JS.rg0 ttOk 4 [(8, .v (.slice a2 x0.length c3)), (9, .v (.int .i64 (x0.length : Int))), (10, .v (.int .i64 0))] ⟨(Es rfl), rfl⟩ rfl rfl ?_)))
    obtain ⟨j39, hj45, h⟩ := joinO_some h
    refine JS.blockJ (ι := List (List Int) × Option Addr × Nat) ⟨fun z => j39 z.1 = some r, fun z => [(2, .bp 3 0), (3, .bp 4 0)], fun z => (.new 3 41 [.slice none 0 0] (.new 4 41 [.slice z.2.1 z.1.length z.2.2] .nil)), fun z => [], fun z => [⟨(.sl (.int .i64)), ⟨z.2.1, z.1.length, z.2.2⟩, z.1⟩], fun z => 0⟩ ?_ ?_
    · refine JS.nilO (.sl (.int .i64)) Sl.nil rfl rfl (JS.loop (ι := Nat × Int × List (List Int) × Option Addr × Nat) ⟨fun z => fixF (M_s_l15Copy_L1 x0 j39) z.1 (z.2.1, z.2.2.1) = some r, fun z => [(2, .bp 3 0), (3, .bp 4 0), (8, .v (.slice a2 x0.length c3)), (9, .v (.int .i64 (x0.length : Int))), (10, .v (.int .i64 z.2.1))], fun z => (.new 3 41 [.slice none 0 0] (.new 4 41 [.slice z.2.2.2.1 z.2.2.1.length z.2.2.2.2] .nil)), fun z => [⟨(.sl (.int .i64)), ⟨a2, x0.length, c3⟩, x0⟩], fun z => [⟨(.sl (.int .i64)), ⟨z.2.2.2.1, z.2.2.1.length, z.2.2.2.2⟩, z.2.2.1⟩], fun z => z.1⟩ (FUEL, 0, ([] : List (List Int)), none, 0) h (Es rfl) (Bs rfl rfl) [0] rfl [0] rfl ?_)
      rintro ⟨n33, x6, x10, a11, c12⟩ h
      obtain ⟨n33, rfl, h⟩ := fixF_some h
      rw [M_s_l15Copy_L1] at h
      refine JS.rg0 ttOk 1 [(11, .v (.bool (decide (x6 < (x0.length : Int)))))] ⟨⟨rfl, trivial⟩, rfl⟩ rfl rfl (JS.seq ?_)
      refine JS.cond rfl (fun ht44 => ?_) (fun ht44 => ?_)
      · have h := condT h ht44
        refine JS.skip (JS.seq (JS.block (JS.seq (JS.region (JO.know 0 rfl fun hs43 => ?_)))))
        obtain ⟨g14, h⟩ := guardO_some h
        refine JO.reg ttOk 1 [] [] [(12, .ep ⟨a2, x0.length, c3⟩ (Int.toNat x6 * 1))] _ rfl ⟨hs43.ix g14, ⟨rfl, trivial⟩, rfl⟩ (JO.openR 0 rfl (Int.toNat x6) (at' x0 x6) rfl fun a15 c16 ys17 hl18 hy19 => JO.loadV ttOk rfl rfl rfl rfl rfl rfl 0 rfl rfl (Int.toNat x6) 0 (Sl.v ⟨a15, (at' x0 x6).length, c16⟩) ⟨hy19 (ltNat g14), rfl⟩ rfl rfl rfl (JO.regB ttOk 2 [] [22] [(5, .bp 22 0)] (.new 3 41 [.slice none 0 0] (.new 4 41 [.slice a11 x10.length c12] (.new 22 174 [.slice a15 (at' x0 x6).length c16] .nil))) rfl ⟨⟨rfl, trivial⟩, (Bs rfl rfl)⟩ (JO.done rfl ?_)))
        obtain ⟨g21, h⟩ := guardO_some h
        obtain ⟨g25, h⟩ := guardO_some h
        refine JS.regionA rfl (.new 4 41 [.slice a11 x10.length c12] (.new 22 174 [.slice a15 (at' x0 x6).length c16] .nil)) [] [8, 9, 10] ⟨rfl, rfl, rfl, rfl, rfl, rfl, rfl, rfl, trivial⟩ rfl (fun be28 => ?_)
        refine JA.reg ttOk panic_cx true 7 [0, 1, 3, 4] rfl (by kernel_rfl) [] [(15, .v (.slice a11 x10.length c12)), (18, .v (.slice a15 (at' x0 x6).length c16))] ⟨rfl, rfl, rfl, rfl, rfl, rfl, rfl, rfl, trivial⟩ [] rfl rfl (Es rfl) (JA.one 2 (by kernel_rfl) (JK.buildSlice ttOk rfl rfl rfl rfl rfl rfl rfl rfl rfl rfl rfl [] rfl (.int .i64) [] ⟨rfl, rfl⟩ rfl rfl fun a20 => JA.next ⟨rfl, rfl, rfl, rfl, rfl, rfl, rfl, rfl, trivial⟩ [] rfl (JA.one 5 (by kernel_rfl) (JK.appendR' ttOk rfl rfl rfl rfl ⟨rfl, rfl, rfl, rfl, trivial, rfl, rfl, rfl, rfl⟩ rfl rfl rfl [0] rfl 1 rfl g21 rfl fun a22 c23 => JA.next ⟨rfl, rfl, rfl, rfl, rfl, rfl, rfl, rfl, trivial⟩ [] rfl (JA.reg ttOk panic_cx true 4 [6] rfl (by kernel_rfl) [] [(20, .v (.agg #[.slice a22 (([] : List Int) ++ (at' x0 x6)).length c23]))] ⟨rfl, rfl, rfl, rfl, rfl, rfl, rfl, rfl, trivial⟩ [] rfl rfl ⟨rfl, trivial⟩ (JA.one 7 (by kernel_rfl) (JK.buildSlice ttOk rfl rfl rfl rfl rfl rfl rfl rfl rfl rfl rfl [0] rfl (.sl (.int .i64)) [(([] : List Int) ++ (at' x0 x6))] ⟨rfl, rfl, rfl⟩ rfl rfl fun a24 => JA.next ⟨rfl, rfl, rfl, rfl, rfl, rfl, rfl, rfl, trivial⟩ [] rfl (JA.one 8 (by kernel_rfl) (JK.appendO' ttOk rfl rfl rfl rfl ⟨rfl, rfl, rfl, rfl, trivial, rfl, rfl, rfl, rfl⟩ rfl rfl [1, 0] rfl g25 rfl fun a26 c27 => JA.nextL rfl (JA.regL ttOk panic_cx 1 [9] rfl (by kernel_rfl) [] [(23, .bp 4 0)] rfl ⟨rfl, trivial⟩ (JA.one 10 (by kernel_rfl) (JK.stBox ttOk rfl rfl rfl rfl rfl rfl rfl rfl (JA.nextL rfl (JA.done (by kernel_rfl) (JS.boxes (B' := (.new 3 41 [.slice none 0 0] (.new 4 41 [.slice a26 (x10 ++ ([(([] : List Int) ++ (at' x0 x6))] : List (List Int))).length c27] .nil))) (Bs rfl rfl) ?_)))))))))))))))
        refine JS.endB (JS.re ttOk 2 [(W (x6 + 1))] [] [(10, .v (.int .i64 (W (x6 + 1))))] _ ⟨⟨trivial, rfl⟩, ⟨rfl, trivial⟩, rfl⟩ rfl rfl (JS.endL (n33, (W (x6 + 1)), (x10 ++ ([(([] : List Int) ++ (at' x0 x6))] : List (List Int))), a26, c27) h (Nat.lt_succ_self _) (Es rfl) (Bs rfl rfl) [2] rfl [0] rfl))
      have h := condF h ht44
      refine JS.exit rfl (JS.endJ (x10, a11, c12) h (Es rfl) (Bs rfl rfl) [] rfl [0] rfl)
    rintro ⟨x36, a37, c38⟩ h
    subst hj45
    refine JS.rgB ttOk 2 [] [] [] (.new 3 41 [.slice a37 x36.length c38] .nil) ⟨trivial, (Bs rfl rfl)⟩ rfl rfl ?_
    cases h
    exact JS.ret ttOk (a37, c38) trivial rfl rfl [0] rfl

def M_s_l15Lines_L1 (x0 : List (List Int × Int)) (j39 : (List (List Int × Int)) → Option (List (List Int × Int))) (k32 : (Int × (List (List Int × Int))) → Option (List (List Int × Int))) : (Int × (List (List Int × Int))) → Option (List (List Int × Int)) := fun (x6, x10) =>
  (bif (decide (x6 < (x0.length : Int))) then
  (guardO (0 ≤ x6 ∧ x6 < (x0.length : Int)) <|
  (bindO (M_s_l15Line ((at' x0 x6).1, (at' x0 x6).2)) fun (y20 : List Int × Int) =>
  (guardO (x10.length + ([y20] : List (List Int × Int)).length ≤ 536870912) <|
  k32 ((W (x6 + 1)), (x10 ++ ([y20] : List (List Int × Int)))))))
  else
  j39 x10)

def M_s_l15Lines (x0 : List (List Int × Int)) : Option (List (List Int × Int)) :=
  (joinO (fun (x36 : List (List Int × Int)) =>
  some x36) fun j39 =>
  (fixF (M_s_l15Lines_L1 x0 j39) FUEL (0, ([] : List (List Int × Int)))))

theorem ok_s_l15Lines (x0 : List (List Int × Int)) (a2 : Option Addr) (c3 : Nat) (l4 : Nat) (hl5 : x0.length = l4) (r : List (List Int × Int)) (h : M_s_l15Lines x0 = some r) :
    FC Tryz.prog 138 [.agg #[.slice a2 l4 c3]] [⟨(.pair (.sl (.int .i64)) (.int .i64)), ⟨a2, l4, c3⟩, x0⟩] (fun _ : Option Addr × Nat => True) (fun q => .agg #[.slice q.1 r.length q.2]) (fun q => [⟨(.pair (.sl (.int .i64)) (.int .i64)), ⟨q.1, r.length, q.2⟩, r⟩]) :=
  by
    subst hl5
    refine FC.of (T := TTx) Tryz.call138 Tryz.func138 rfl rfl fun w0 => ?_
    unfold M_s_l15Lines at h
    refine JS.rgB ttOk 2 [] [2, 3] [(1, .bp 2 0), (2, .bp 3 0)] (.new 2 44 [.slice a2 x0.length c3] (.new 3 44 [.slice none 0 0] .nil)) ⟨(Es rfl), (Bs rfl rfl)⟩ rfl rfl (JS.rgB ttOk 3 [] [4] [(3, .bp 4 0)] (.new 2 44 [.slice a2 x0.length c3] (.new 3 44 [.slice none 0 0] (.new 4 44 [.slice none 0 0] .nil))) ⟨⟨rfl, trivial⟩, (Bs rfl rfl)⟩ rfl rfl (JS.seq (JS.rg0 ttOk 4 [(8, .v (.slice a2 x0.length c3)), (9, .v (.int .i64 (x0.length : Int))), (10, .v (.int .i64 0))] ⟨(Es rfl), rfl⟩ rfl rfl ?_)))
    obtain ⟨j39, hj45, h⟩ := joinO_some h
    refine JS.blockJ (ι := (List (List Int × Int)) × Option Addr × Nat) ⟨fun z => j39 z.1 = some r, fun z => [(2, .bp 3 0), (3, .bp 4 0)], fun z => (.new 3 44 [.slice none 0 0] (.new 4 44 [.slice z.2.1 z.1.length z.2.2] .nil)), fun z => [], fun z => [⟨(.pair (.sl (.int .i64)) (.int .i64)), ⟨z.2.1, z.1.length, z.2.2⟩, z.1⟩], fun z => 0⟩ ?_ ?_
    · refine JS.nilO (.pair (.sl (.int .i64)) (.int .i64)) Sl.nil rfl rfl (JS.loop (ι := Nat × Int × (List (List Int × Int)) × Option Addr × Nat) ⟨fun z => fixF (M_s_l15Lines_L1 x0 j39) z.1 (z.2.1, z.2.2.1) = some r, fun z => [(2, .bp 3 0), (3, .bp 4 0), (8, .v (.slice a2 x0.length c3)), (9, .v (.int .i64 (x0.length : Int))), (10, .v (.int .i64 z.2.1))], fun z => (.new 3 44 [.slice none 0 0] (.new 4 44 [.slice z.2.2.2.1 z.2.2.1.length z.2.2.2.2] .nil)), fun z => [⟨(.pair (.sl (.int .i64)) (.int .i64)), ⟨a2, x0.length, c3⟩, x0⟩], fun z => [⟨(.pair (.sl (.int .i64)) (.int .i64)), ⟨z.2.2.2.1, z.2.2.1.length, z.2.2.2.2⟩, z.2.2.1⟩], fun z => z.1⟩ (FUEL, 0, ([] : List (List Int × Int)), none, 0) h (Es rfl) (Bs rfl rfl) [0] rfl [0] rfl ?_)
      rintro ⟨n33, x6, x10, a11, c12⟩ h
      obtain ⟨n33, rfl, h⟩ := fixF_some h
      rw [M_s_l15Lines_L1] at h
      refine JS.rg0 ttOk 1 [(11, .v (.bool (decide (x6 < (x0.length : Int)))))] ⟨⟨rfl, trivial⟩, rfl⟩ rfl rfl (JS.seq ?_)
      refine JS.cond rfl (fun ht44 => ?_) (fun ht44 => ?_)
      · have h := condT h ht44
        refine JS.skip (JS.seq (JS.block (JS.seq (JS.region (JO.know 0 rfl fun hs43 => ?_)))))
        obtain ⟨g14, h⟩ := guardO_some h
        refine JO.reg ttOk 1 [] [] [(12, .ep ⟨a2, x0.length, c3⟩ (Int.toNat x6 * 2))] _ rfl ⟨hs43.ix g14, ⟨rfl, trivial⟩, rfl⟩ (JO.openR 0 rfl (Int.toNat x6) (at' x0 x6) rfl fun a15 c16 ys17 hl18 hy19 => JO.loadV ttOk rfl rfl rfl rfl rfl rfl 0 rfl rfl (Int.toNat x6) 0 ((Sl.v ⟨a15, ((at' x0 x6).1).length, c16⟩), (at' x0 x6).2) ⟨hy19 (ltNat g14), rfl⟩ rfl rfl rfl (JO.regB ttOk 2 [] [22] [(5, .bp 22 0)] (.new 3 44 [.slice none 0 0] (.new 4 44 [.slice a11 x10.length c12] (.new 22 38 [.slice a15 ((at' x0 x6).1).length c16, .int .i64 (at' x0 x6).2] .nil))) rfl ⟨⟨rfl, trivial⟩, (Bs rfl rfl)⟩ (JO.done rfl ?_)))
        obtain ⟨y20, hy21, h⟩ := bindO_some h
        obtain ⟨g25, h⟩ := guardO_some h
        refine JS.regionA rfl (.new 4 44 [.slice a11 x10.length c12] (.new 22 38 [.slice a15 ((at' x0 x6).1).length c16, .int .i64 (at' x0 x6).2] .nil)) [] [5, 6, 7] ⟨rfl, rfl, rfl, rfl, rfl, rfl, rfl, rfl, trivial⟩ rfl (fun be28 => ?_)
        refine JA.reg ttOk panic_cx true 5 [0, 1, 2] rfl (by kernel_rfl) [] [(15, .v (.slice a11 x10.length c12)), (16, .v (.agg #[.slice a15 ((at' x0 x6).1).length c16, .int .i64 (at' x0 x6).2]))] ⟨rfl, rfl, rfl, rfl, rfl, rfl, rfl, rfl, trivial⟩ [] rfl rfl (Es rfl) (JA.one 3 (by kernel_rfl) (JK.call rfl rfl rfl rfl (ok_s_l15Line ((at' x0 x6).1, (at' x0 x6).2) a15 c16 (((at' x0 x6).1).length) rfl _ hy21) rfl [1] rfl rfl ?_))
        rintro ⟨a22, c23⟩ -
        refine JA.next ⟨rfl, rfl, rfl, rfl, rfl, rfl, rfl, rfl, trivial⟩ [] rfl (JA.one 4 (by kernel_rfl) (JK.buildSlice ttOk rfl rfl rfl rfl rfl rfl rfl rfl rfl rfl rfl [0] rfl (.pair (.sl (.int .i64)) (.int .i64)) [y20] ⟨rfl, rfl, rfl⟩ rfl rfl fun a24 => JA.next ⟨rfl, rfl, rfl, rfl, rfl, rfl, rfl, rfl, trivial⟩ [] rfl (JA.one 5 (by kernel_rfl) (JK.appendO' ttOk rfl rfl rfl rfl ⟨rfl, rfl, rfl, rfl, trivial, rfl, rfl, rfl, rfl⟩ rfl rfl [1, 0] rfl g25 rfl fun a26 c27 => JA.nextL rfl (JA.regL ttOk panic_cx 1 [6] rfl (by kernel_rfl) [] [(20, .bp 4 0)] rfl ⟨rfl, trivial⟩ (JA.one 7 (by kernel_rfl) (JK.stBox ttOk rfl rfl rfl rfl rfl rfl rfl rfl (JA.nextL rfl (JA.done (by kernel_rfl) (JS.boxes (B' := (.new 3 44 [.slice none 0 0] (.new 4 44 [.slice a26 (x10 ++ ([y20] : List (List Int × Int))).length c27] .nil))) (Bs rfl rfl) (JS.endB (JS.re ttOk 2 [(W (x6 + 1))] [] [(10, .v (.int .i64 (W (x6 + 1))))] _ ⟨⟨trivial, rfl⟩, ⟨rfl, trivial⟩, rfl⟩ rfl rfl (JS.endL (n33, (W (x6 + 1)), (x10 ++ ([y20] : List (List Int × Int))), a26, c27) h (Nat.lt_succ_self _) (Es rfl) (Bs rfl rfl) [2] rfl [0] rfl)))))))))))))
      have h := condF h ht44
      refine JS.exit rfl (JS.endJ (x10, a11, c12) h (Es rfl) (Bs rfl rfl) [] rfl [0] rfl)
    rintro ⟨x36, a37, c38⟩ h
    subst hj45
    refine JS.rgB ttOk 2 [] [] [] (.new 3 44 [.slice a37 x36.length c38] .nil) ⟨trivial, (Bs rfl rfl)⟩ rfl rfl ?_
    cases h
    exact JS.ret ttOk (a37, c38) trivial rfl rfl [0] rfl

def M_s_l21Copy (x0 : Bool × Int × (List Int × Int) × Int × Int × Int × Int × Int × Int × Int × List (List Int) × (List (List Int × Int)) × Int × (List Int × Int) × List Int × Int × List Int × Int) : Option (Bool × Int × (List Int × Int) × Int × Int × Int × Int × Int × Int × Int × List (List Int) × (List (List Int × Int)) × Int × (List Int × Int) × List Int × Int × List Int × Int) :=
  (bindO (M_s_l15Line x0.2.2.1) fun (y26 : List Int × Int) =>
  (bindO (M_s_l15Line x0.2.2.2.2.2.2.2.2.2.2.2.2.2.1) fun (y30 : List Int × Int) =>
  (bindO (M_s_l15Line x0.2.2.2.2.2.2.2.2.2.2.2.2.2.2.2.2) fun (y34 : List Int × Int) =>
  (bindO (M_s_l15Copy x0.2.2.2.2.2.2.2.2.2.2.1) fun (y38 : List (List Int)) =>
  (bindO (M_s_l15Lines x0.2.2.2.2.2.2.2.2.2.2.2.1) fun (y42 : List (List Int × Int)) =>
  (guardO (([] : List Int).length + x0.2.2.2.2.2.2.2.2.2.2.2.2.2.2.1.length ≤ 536870912) <|
  some (x0.1, x0.2.1, y26, x0.2.2.2.1, x0.2.2.2.2.1, x0.2.2.2.2.2.1, x0.2.2.2.2.2.2.1, x0.2.2.2.2.2.2.2.1, x0.2.2.2.2.2.2.2.2.1, x0.2.2.2.2.2.2.2.2.2.1, y38, y42, x0.2.2.2.2.2.2.2.2.2.2.2.2.1, y30, (([] : List Int) ++ x0.2.2.2.2.2.2.2.2.2.2.2.2.2.2.1), x0.2.2.2.2.2.2.2.2.2.2.2.2.2.2.2.1, y34)))))))

theorem ok_s_l21Copy (x0 : Bool × Int × (List Int × Int) × Int × Int × Int × Int × Int × Int × Int × List (List Int) × (List (List Int × Int)) × Int × (List Int × Int) × List Int × Int × List Int × Int) (a2 : Option Addr) (c3 : Nat) (l4 : Nat) (hl5 : x0.2.2.1.1.length = l4) (a6 : Option Addr) (c7 : Nat) (l8 : Nat) (hl9 : x0.2.2.2.2.2.2.2.2.2.2.1.length = l8) (a10 : Option Addr) (c11 : Nat) (l12 : Nat) (hl13 : x0.2.2.2.2.2.2.2.2.2.2.2.1.length = l12) (a14 : Option Addr) (c15 : Nat) (l16 : Nat) (hl17 : x0.2.2.2.2.2.2.2.2.2.2.2.2.2.1.1.length = l16) (a18 : Option Addr) (c19 : Nat) (l20 : Nat) (hl21 : x0.2.2.2.2.2.2.2.2.2.2.2.2.2.2.1.length = l20) (a22 : Option Addr) (c23 : Nat) (l24 : Nat) (hl25 : x0.2.2.2.2.2.2.2.2.2.2.2.2.2.2.2.2.1.length = l24) (r : Bool × Int × (List Int × Int) × Int × Int × Int × Int × Int × Int × Int × List (List Int) × (List (List Int × Int)) × Int × (List Int × Int) × List Int × Int × List Int × Int) (h : M_s_l21Copy x0 = some r) :
    FC Tryz.prog 51 [.agg #[.bool x0.1, .int .i64 x0.2.1, .slice a2 l4 c3, .int .i64 x0.2.2.1.2, .int .i64 x0.2.2.2.1, .int .i64 x0.2.2.2.2.1, .int .i64 x0.2.2.2.2.2.1, .int .i64 x0.2.2.2.2.2.2.1, .int .i64 x0.2.2.2.2.2.2.2.1, .int .i64 x0.2.2.2.2.2.2.2.2.1, .int .i64 x0.2.2.2.2.2.2.2.2.2.1, .slice a6 l8 c7, .slice a10 l12 c11, .int .i64 x0.2.2.2.2.2.2.2.2.2.2.2.2.1, .slice a14 l16 c15, .int .i64 x0.2.2.2.2.2.2.2.2.2.2.2.2.2.1.2, .slice a18 l20 c19, .int .i64 x0.2.2.2.2.2.2.2.2.2.2.2.2.2.2.2.1, .slice a22 l24 c23, .int .i64 x0.2.2.2.2.2.2.2.2.2.2.2.2.2.2.2.2.2]] [⟨(.int .i64), ⟨a2, l4, c3⟩, x0.2.2.1.1⟩, ⟨(.sl (.int .i64)), ⟨a6, l8, c7⟩, x0.2.2.2.2.2.2.2.2.2.2.1⟩, ⟨(.pair (.sl (.int .i64)) (.int .i64)), ⟨a10, l12, c11⟩, x0.2.2.2.2.2.2.2.2.2.2.2.1⟩, ⟨(.int .i64), ⟨a14, l16, c15⟩, x0.2.2.2.2.2.2.2.2.2.2.2.2.2.1.1⟩, ⟨(.int .i64), ⟨a18, l20, c19⟩, x0.2.2.2.2.2.2.2.2.2.2.2.2.2.2.1⟩, ⟨(.int .i64), ⟨a22, l24, c23⟩, x0.2.2.2.2.2.2.2.2.2.2.2.2.2.2.2.2.1⟩] (fun _ : Option Addr × Nat × Option Addr × Nat × Option Addr × Nat × Option Addr × Nat × Option Addr × Nat × Option Addr × Nat => True) (fun q => .agg (cl46 r q.1 q.2.1 q.2.2.1 q.2.2.2.1 q.2.2.2.2.1 q.2.2.2.2.2.1 q.2.2.2.2.2.2.1 q.2.2.2.2.2.2.2.1 q.2.2.2.2.2.2.2.2.1 q.2.2.2.2.2.2.2.2.2.1 q.2.2.2.2.2.2.2.2.2.2.1 q.2.2.2.2.2.2.2.2.2.2.2).toArray) (fun q => [⟨(.int .i64), ⟨q.1, r.2.2.1.1.length, q.2.1⟩, r.2.2.1.1⟩, ⟨(.sl (.int .i64)), ⟨q.2.2.1, r.2.2.2.2.2.2.2.2.2.2.1.length, q.2.2.2.1⟩, r.2.2.2.2.2.2.2.2.2.2.1⟩, ⟨(.pair (.sl (.int .i64)) (.int .i64)), ⟨q.2.2.2.2.1, r.2.2.2.2.2.2.2.2.2.2.2.1.length, q.2.2.2.2.2.1⟩, r.2.2.2.2.2.2.2.2.2.2.2.1⟩, ⟨(.int .i64), ⟨q.2.2.2.2.2.2.1, r.2.2.2.2.2.2.2.2.2.2.2.2.2.1.1.length, q.2.2.2.2.2.2.2.1⟩, r.2.2.2.2.2.2.2.2.2.2.2.2.2.1.1⟩, ⟨(.int .i64), ⟨q.2.2.2.2.2.2.2.2.1, r.2.2.2.2.2.2.2.2.2.2.2.2.2.2.1.length, q.2.2.2.2.2.2.2.2.2.1⟩, r.2.2.2.2.2.2.2.2.2.2.2.2.2.2.1⟩, ⟨(.int .i64), ⟨q.2.2.2.2.2.2.2.2.2.2.1, r.2.2.2.2.2.2.2.2.2.2.2.2.2.2.2.2.1.length, q.2.2.2.2.2.2.2.2.2.2.2⟩, r.2.2.2.2.2.2.2.2.2.2.2.2.2.2.2.2.1⟩]) :=
  by
    subst hl5
    subst hl9
    subst hl13
    subst hl17
    subst hl21
    subst hl25
    refine FC.of (T := TTx) Tryz.call51 Tryz.func51 rfl rfl fun w0 => ?_
    unfold M_s_l21Copy at h
    refine JS.rgB ttOk 2 [] [7, 8] [(1, .bp 7 0), (2, .bp 8 0)] (.new 7 46 (cl46 x0 a2 c3 a6 c7 a10 c11 a14 c15 a18 c19 a22 c23) (.new 8 46 (cl46 (false, 0, ([], 0), 0, 0, 0, 0, 0, 0, 0, [], [], 0, ([], 0), [], 0, ([], 0)) none 0 none 0 none 0 none 0 none 0 none 0) .nil)) ⟨(Es rfl), (Bs rfl rfl)⟩ rfl rfl (JS.seq (JS.region (JO.reg ttOk 2 [] [] [(4, .v (.agg #[.slice a2 x0.2.2.1.1.length c3, .int .i64 x0.2.2.1.2]))] _ rfl ⟨⟨rfl, trivial⟩, rfl⟩ ?_)))
    obtain ⟨y26, hy27, h⟩ := bindO_some h
    refine JO.call rfl rfl rfl rfl (ok_s_l15Line x0.2.2.1 a2 c3 x0.2.2.1.1.length rfl _ hy27) rfl [0] rfl rfl ?_
    rintro ⟨a28, c29⟩ -
    refine JO.regB ttOk 2 [] [] [] (.new 7 46 (cl46 (x0.1, x0.2.1, y26, x0.2.2.2.1, x0.2.2.2.2.1, x0.2.2.2.2.2.1, x0.2.2.2.2.2.2.1, x0.2.2.2.2.2.2.2.1, x0.2.2.2.2.2.2.2.2.1, x0.2.2.2.2.2.2.2.2.2.1, x0.2.2.2.2.2.2.2.2.2.2.1, x0.2.2.2.2.2.2.2.2.2.2.2.1, x0.2.2.2.2.2.2.2.2.2.2.2.2.1, x0.2.2.2.2.2.2.2.2.2.2.2.2.2.1, x0.2.2.2.2.2.2.2.2.2.2.2.2.2.2.1, x0.2.2.2.2.2.2.2.2.2.2.2.2.2.2.2.1, x0.2.2.2.2.2.2.2.2.2.2.2.2.2.2.2.2) a28 c29 a6 c7 a10 c11 a14 c15 a18 c19 a22 c23) (.new 8 46 (cl46 (false, 0, ([], 0), 0, 0, 0, 0, 0, 0, 0, [], [], 0, ([], 0), [], 0, ([], 0)) none 0 none 0 none 0 none 0 none 0 none 0) .nil)) rfl ⟨trivial, (Bs rfl rfl)⟩ (JO.done rfl (JS.seq (JS.region (JO.reg ttOk 2 [] [] [(8, .v (.agg #[.slice a14 x0.2.2.2.2.2.2.2.2.2.2.2.2.2.1.1.length c15, .int .i64 x0.2.2.2.2.2.2.2.2.2.2.2.2.2.1.2]))] _ rfl ⟨⟨rfl, trivial⟩, rfl⟩ ?_))))
    obtain ⟨y30, hy31, h⟩ := bindO_some h
    refine JO.call rfl rfl rfl rfl (ok_s_l15Line x0.2.2.2.2.2.2.2.2.2.2.2.2.2.1 a14 c15 x0.2.2.2.2.2.2.2.2.2.2.2.2.2.1.1.length rfl _ hy31) rfl [3] rfl rfl ?_
    rintro ⟨a32, c33⟩ -
    refine JO.regB ttOk 2 [] [] [] (.new 7 46 (cl46 (x0.1, x0.2.1, y26, x0.2.2.2.1, x0.2.2.2.2.1, x0.2.2.2.2.2.1, x0.2.2.2.2.2.2.1, x0.2.2.2.2.2.2.2.1, x0.2.2.2.2.2.2.2.2.1, x0.2.2.2.2.2.2.2.2.2.1, x0.2.2.2.2.2.2.2.2.2.2.1, x0.2.2.2.2.2.2.2.2.2.2.2.1, x0.2.2.2.2.2.2.2.2.2.2.2.2.1, y30, x0.2.2.2.2.2.2.2.2.2.2.2.2.2.2.1, x0.2.2.2.2.2.2.2.2.2.2.2.2.2.2.2.1, x0.2.2.2.2.2.2.2.2.2.2.2.2.2.2.2.2) a28 c29 a6 c7 a10 c11 a32 c33 a18 c19 a22 c23) (.new 8 46 (cl46 (false, 0, ([], 0), 0, 0, 0, 0, 0, 0, 0, [], [], 0, ([], 0), [], 0, ([], 0)) none 0 none 0 none 0 none 0 none 0 none 0) .nil)) rfl ⟨trivial, (Bs rfl rfl)⟩ (JO.done rfl (JS.seq (JS.region (JO.reg ttOk 2 [] [] [(12, .v (.agg #[.slice a22 x0.2.2.2.2.2.2.2.2.2.2.2.2.2.2.2.2.1.length c23, .int .i64 x0.2.2.2.2.2.2.2.2.2.2.2.2.2.2.2.2.2]))] _ rfl ⟨⟨rfl, trivial⟩, rfl⟩ ?_))))
    obtain ⟨y34, hy35, h⟩ := bindO_some h
    refine JO.call rfl rfl rfl rfl (ok_s_l15Line x0.2.2.2.2.2.2.2.2.2.2.2.2.2.2.2.2 a22 c23 x0.2.2.2.2.2.2.2.2.2.2.2.2.2.2.2.2.1.length rfl _ hy35) rfl [5] rfl rfl ?_
    rintro ⟨a36, c37⟩ -
    refine JO.regB ttOk 2 [] [] [] (.new 7 46 (cl46 (x0.1, x0.2.1, y26, x0.2.2.2.1, x0.2.2.2.2.1, x0.2.2.2.2.2.1, x0.2.2.2.2.2.2.1, x0.2.2.2.2.2.2.2.1, x0.2.2.2.2.2.2.2.2.1, x0.2.2.2.2.2.2.2.2.2.1, x0.2.2.2.2.2.2.2.2.2.2.1, x0.2.2.2.2.2.2.2.2.2.2.2.1, x0.2.2.2.2.2.2.2.2.2.2.2.2.1, y30, x0.2.2.2.2.2.2.2.2.2.2.2.2.2.2.1, x0.2.2.2.2.2.2.2.2.2.2.2.2.2.2.2.1, y34) a28 c29 a6 c7 a10 c11 a32 c33 a18 c19 a36 c37) (.new 8 46 (cl46 (false, 0, ([], 0), 0, 0, 0, 0, 0, 0, 0, [], [], 0, ([], 0), [], 0, ([], 0)) none 0 none 0 none 0 none 0 none 0 none 0) .nil)) rfl ⟨trivial, (Bs rfl rfl)⟩ (JO.done rfl (JS.seq (JS.region (JO.reg ttOk 2 [] [] [(16, .v (.agg #[.slice a6 x0.2.2.2.2.2.2.2.2.2.2.1.length c7]))] _ rfl ⟨⟨rfl, trivial⟩, rfl⟩ ?_))))
    obtain ⟨y38, hy39, h⟩ := bindO_some h
    refine JO.call rfl rfl rfl rfl (ok_s_l15Copy x0.2.2.2.2.2.2.2.2.2.2.1 a6 c7 x0.2.2.2.2.2.2.2.2.2.2.1.length rfl _ hy39) rfl [1] rfl rfl ?_
    rintro ⟨a40, c41⟩ -
    refine JO.regB ttOk 2 [] [] [] (.new 7 46 (cl46 (x0.1, x0.2.1, y26, x0.2.2.2.1, x0.2.2.2.2.1, x0.2.2.2.2.2.1, x0.2.2.2.2.2.2.1, x0.2.2.2.2.2.2.2.1, x0.2.2.2.2.2.2.2.2.1, x0.2.2.2.2.2.2.2.2.2.1, y38, x0.2.2.2.2.2.2.2.2.2.2.2.1, x0.2.2.2.2.2.2.2.2.2.2.2.2.1, y30, x0.2.2.2.2.2.2.2.2.2.2.2.2.2.2.1, x0.2.2.2.2.2.2.2.2.2.2.2.2.2.2.2.1, y34) a28 c29 a40 c41 a10 c11 a32 c33 a18 c19 a36 c37) (.new 8 46 (cl46 (false, 0, ([], 0), 0, 0, 0, 0, 0, 0, 0, [], [], 0, ([], 0), [], 0, ([], 0)) none 0 none 0 none 0 none 0 none 0 none 0) .nil)) rfl ⟨trivial, (Bs rfl rfl)⟩ (JO.done rfl (JS.seq (JS.region (JO.reg ttOk 2 [] [] [(20, .v (.agg #[.slice a10 x0.2.2.2.2.2.2.2.2.2.2.2.1.length c11]))] _ rfl ⟨⟨rfl, trivial⟩, rfl⟩ ?_))))
    obtain ⟨y42, hy43, h⟩ := bindO_some h
    refine JO.call rfl rfl rfl rfl (ok_s_l15Lines x0.2.2.2.2.2.2.2.2.2.2.2.1 a10 c11 x0.2.2.2.2.2.2.2.2.2.2.2.1.length rfl _ hy43) rfl [2] rfl rfl ?_
    rintro ⟨a44, c45⟩ -
    refine JO.regB ttOk 2 [] [] [] (.new 7 46 (cl46 (x0.1, x0.2.1, y26, x0.2.2.2.1, x0.2.2.2.2.1, x0.2.2.2.2.2.1, x0.2.2.2.2.2.2.1, x0.2.2.2.2.2.2.2.1, x0.2.2.2.2.2.2.2.2.1, x0.2.2.2.2.2.2.2.2.2.1, y38, y42, x0.2.2.2.2.2.2.2.2.2.2.2.2.1, y30, x0.2.2.2.2.2.2.2.2.2.2.2.2.2.2.1, x0.2.2.2.2.2.2.2.2.2.2.2.2.2.2.2.1, y34) a28 c29 a40 c41 a44 c45 a32 c33 a18 c19 a36 c37) (.new 8 46 (cl46 (false, 0, ([], 0), 0, 0, 0, 0, 0, 0, 0, [], [], 0, ([], 0), [], 0, ([], 0)) none 0 none 0 none 0 none 0 none 0 none 0) .nil)) rfl ⟨trivial, (Bs rfl rfl)⟩ (JO.done rfl (JS.seq (JS.region ?_)))
    refine JO.ofK rfl (JK.buildSlice ttOk rfl rfl rfl rfl rfl rfl rfl rfl rfl rfl rfl [] rfl (.int .i64) [] ⟨rfl, rfl⟩ rfl rfl fun a46 => JO.toK ?_)
    refine JO.reg ttOk 2 [] [] [(25, .v (.slice a18 x0.2.2.2.2.2.2.2.2.2.2.2.2.2.2.1.length c19))] _ rfl ⟨⟨rfl, trivial⟩, rfl⟩ ?_
    obtain ⟨g47, h⟩ := guardO_some h
    refine JO.appendR' ttOk rfl rfl rfl rfl ⟨rfl, rfl, rfl, rfl, trivial, rfl, rfl, rfl, rfl⟩ rfl rfl rfl [0] rfl 4 rfl g47 rfl fun a48 c49 => JO.regB ttOk 2 [] [] [] (.new 7 46 (cl46 (x0.1, x0.2.1, y26, x0.2.2.2.1, x0.2.2.2.2.1, x0.2.2.2.2.2.1, x0.2.2.2.2.2.2.1, x0.2.2.2.2.2.2.2.1, x0.2.2.2.2.2.2.2.2.1, x0.2.2.2.2.2.2.2.2.2.1, y38, y42, x0.2.2.2.2.2.2.2.2.2.2.2.2.1, y30, (([] : List Int) ++ x0.2.2.2.2.2.2.2.2.2.2.2.2.2.2.1), x0.2.2.2.2.2.2.2.2.2.2.2.2.2.2.2.1, y34) a28 c29 a40 c41 a44 c45 a32 c33 a48 c49 a36 c37) (.new 8 46 (cl46 (false, 0, ([], 0), 0, 0, 0, 0, 0, 0, 0, [], [], 0, ([], 0), [], 0, ([], 0)) none 0 none 0 none 0 none 0 none 0 none 0) .nil)) rfl ⟨trivial, (Bs rfl rfl)⟩ (JO.done rfl (JS.rgB ttOk 2 [] [] [] (.new 8 46 (cl46 (x0.1, x0.2.1, y26, x0.2.2.2.1, x0.2.2.2.2.1, x0.2.2.2.2.2.1, x0.2.2.2.2.2.2.1, x0.2.2.2.2.2.2.2.1, x0.2.2.2.2.2.2.2.2.1, x0.2.2.2.2.2.2.2.2.2.1, y38, y42, x0.2.2.2.2.2.2.2.2.2.2.2.2.1, y30, (([] : List Int) ++ x0.2.2.2.2.2.2.2.2.2.2.2.2.2.2.1), x0.2.2.2.2.2.2.2.2.2.2.2.2.2.2.2.1, y34) a28 c29 a40 c41 a44 c45 a32 c33 a48 c49 a36 c37) .nil) ⟨trivial, (Bs rfl rfl)⟩ rfl rfl ?_))
    cases h
    exact JS.ret ttOk (a28, c29, a40, c41, a44, c45, a32, c33, a48, c49, a36, c37) trivial rfl rfl [5, 2, 1, 2, 0, 0] rfl

def M_s_l21Clip (x0 : Bool × Int × (List Int × Int) × Int × Int × Int × Int × Int × Int × Int × List (List Int) × (List (List Int × Int)) × Int × (List Int × Int) × List Int × Int × List Int × Int) : Option (Bool × Int × (List Int × Int) × Int × Int × Int × Int × Int × Int × Int × List (List Int) × (List (List Int × Int)) × Int × (List Int × Int) × List Int × Int × List Int × Int) :=
  (joinO (fun (x27 : Int) =>
  some (x0.1, x0.2.1, (x0.2.2.1.1, x27), x0.2.2.2.1, x0.2.2.2.2.1, x0.2.2.2.2.2.1, x0.2.2.2.2.2.2.1, x0.2.2.2.2.2.2.2.1, x0.2.2.2.2.2.2.2.2.1, x0.2.2.2.2.2.2.2.2.2.1, x0.2.2.2.2.2.2.2.2.2.2.1, x0.2.2.2.2.2.2.2.2.2.2.2.1, x0.2.2.2.2.2.2.2.2.2.2.2.2.1, x0.2.2.2.2.2.2.2.2.2.2.2.2.2.1, x0.2.2.2.2.2.2.2.2.2.2.2.2.2.2.1, x0.2.2.2.2.2.2.2.2.2.2.2.2.2.2.2.1, x0.2.2.2.2.2.2.2.2.2.2.2.2.2.2.2.2)) fun j28 =>
  (bif (bif (bif (decide (x0.2.1 = 2)) then (decide (x0.2.2.1.2 = (x0.2.2.1.1.length : Int))) else false) then (decide (0 < x0.2.2.1.2)) else false) then
  j28 (W (x0.2.2.1.2 - 1))
  else
  j28 x0.2.2.1.2))

theorem ok_s_l21Clip (x0 : Bool × Int × (List Int × Int) × Int × Int × Int × Int × Int × Int × Int × List (List Int) × (List (List Int × Int)) × Int × (List Int × Int) × List Int × Int × List Int × Int) (a2 : Option Addr) (c3 : Nat) (l4 : Nat) (hl5 : x0.2.2.1.1.length = l4) (a6 : Option Addr) (c7 : Nat) (l8 : Nat) (hl9 : x0.2.2.2.2.2.2.2.2.2.2.1.length = l8) (a10 : Option Addr) (c11 : Nat) (l12 : Nat) (hl13 : x0.2.2.2.2.2.2.2.2.2.2.2.1.length = l12) (a14 : Option Addr) (c15 : Nat) (l16 : Nat) (hl17 : x0.2.2.2.2.2.2.2.2.2.2.2.2.2.1.1.length = l16) (a18 : Option Addr) (c19 : Nat) (l20 : Nat) (hl21 : x0.2.2.2.2.2.2.2.2.2.2.2.2.2.2.1.length = l20) (a22 : Option Addr) (c23 : Nat) (l24 : Nat) (hl25 : x0.2.2.2.2.2.2.2.2.2.2.2.2.2.2.2.2.1.length = l24) (r : Bool × Int × (List Int × Int) × Int × Int × Int × Int × Int × Int × Int × List (List Int) × (List (List Int × Int)) × Int × (List Int × Int) × List Int × Int × List Int × Int) (h : M_s_l21Clip x0 = some r) :
    FC Tryz.prog 155 [.agg #[.bool x0.1, .int .i64 x0.2.1, .slice a2 l4 c3, .int .i64 x0.2.2.1.2, .int .i64 x0.2.2.2.1, .int .i64 x0.2.2.2.2.1, .int .i64 x0.2.2.2.2.2.1, .int .i64 x0.2.2.2.2.2.2.1, .int .i64 x0.2.2.2.2.2.2.2.1, .int .i64 x0.2.2.2.2.2.2.2.2.1, .int .i64 x0.2.2.2.2.2.2.2.2.2.1, .slice a6 l8 c7, .slice a10 l12 c11, .int .i64 x0.2.2.2.2.2.2.2.2.2.2.2.2.1, .slice a14 l16 c15, .int .i64 x0.2.2.2.2.2.2.2.2.2.2.2.2.2.1.2, .slice a18 l20 c19, .int .i64 x0.2.2.2.2.2.2.2.2.2.2.2.2.2.2.2.1, .slice a22 l24 c23, .int .i64 x0.2.2.2.2.2.2.2.2.2.2.2.2.2.2.2.2.2]] [⟨(.int .i64), ⟨a2, l4, c3⟩, x0.2.2.1.1⟩, ⟨(.sl (.int .i64)), ⟨a6, l8, c7⟩, x0.2.2.2.2.2.2.2.2.2.2.1⟩, ⟨(.pair (.sl (.int .i64)) (.int .i64)), ⟨a10, l12, c11⟩, x0.2.2.2.2.2.2.2.2.2.2.2.1⟩, ⟨(.int .i64), ⟨a14, l16, c15⟩, x0.2.2.2.2.2.2.2.2.2.2.2.2.2.1.1⟩, ⟨(.int .i64), ⟨a18, l20, c19⟩, x0.2.2.2.2.2.2.2.2.2.2.2.2.2.2.1⟩, ⟨(.int .i64), ⟨a22, l24, c23⟩, x0.2.2.2.2.2.2.2.2.2.2.2.2.2.2.2.2.1⟩] (fun _ : Unit => True) (fun _ => .agg #[.bool r.1, .int .i64 r.2.1, .slice a2 l4 c3, .int .i64 r.2.2.1.2, .int .i64 r.2.2.2.1, .int .i64 r.2.2.2.2.1, .int .i64 r.2.2.2.2.2.1, .int .i64 r.2.2.2.2.2.2.1, .int .i64 r.2.2.2.2.2.2.2.1, .int .i64 r.2.2.2.2.2.2.2.2.1, .int .i64 r.2.2.2.2.2.2.2.2.2.1, .slice a6 l8 c7, .slice a10 l12 c11, .int .i64 r.2.2.2.2.2.2.2.2.2.2.2.2.1, .slice a14 l16 c15, .int .i64 r.2.2.2.2.2.2.2.2.2.2.2.2.2.1.2, .slice a18 l20 c19, .int .i64 r.2.2.2.2.2.2.2.2.2.2.2.2.2.2.2.1, .slice a22 l24 c23, .int .i64 r.2.2.2.2.2.2.2.2.2.2.2.2.2.2.2.2.2]) (fun _ => []) :=
  by
    subst hl5
    subst hl9
    subst hl13
    subst hl17
    subst hl21
    subst hl25
    refine FC.of (T := TTx) Tryz.call155 Tryz.func155 rfl rfl fun w0 => ?_
    unfold M_s_l21Clip at h
    refine JS.rgB ttOk 2 [] [7, 8] [(1, .bp 7 0), (2, .bp 8 0)] (.new 7 46 (cl46 x0 a2 c3 a6 c7 a10 c11 a14 c15 a18 c19 a22 c23) (.new 8 46 (cl46 (false, 0, ([], 0), 0, 0, 0, 0, 0, 0, 0, [], [], 0, ([], 0), [], 0, ([], 0)) none 0 none 0 none 0 none 0 none 0 none 0) .nil)) ⟨(Es rfl), (Bs rfl rfl)⟩ rfl rfl ?_
    obtain ⟨j28, hj32, h⟩ := joinO_some h
    refine JS.seqJ (ι := Int) ⟨fun z => j28 z = some r, fun z => [(1, .bp 7 0), (2, .bp 8 0)], fun z => (.new 7 46 (cl46 (x0.1, x0.2.1, (x0.2.2.1.1, z), x0.2.2.2.1, x0.2.2.2.2.1, x0.2.2.2.2.2.1, x0.2.2.2.2.2.2.1, x0.2.2.2.2.2.2.2.1, x0.2.2.2.2.2.2.2.2.1, x0.2.2.2.2.2.2.2.2.2.1, x0.2.2.2.2.2.2.2.2.2.2.1, x0.2.2.2.2.2.2.2.2.2.2.2.1, x0.2.2.2.2.2.2.2.2.2.2.2.2.1, x0.2.2.2.2.2.2.2.2.2.2.2.2.2.1, x0.2.2.2.2.2.2.2.2.2.2.2.2.2.2.1, x0.2.2.2.2.2.2.2.2.2.2.2.2.2.2.2.1, x0.2.2.2.2.2.2.2.2.2.2.2.2.2.2.2.2) a2 c3 a6 c7 a10 c11 a14 c15 a18 c19 a22 c23) (.new 8 46 (cl46 (false, 0, ([], 0), 0, 0, 0, 0, 0, 0, 0, [], [], 0, ([], 0), [], 0, ([], 0)) none 0 none 0 none 0 none 0 none 0 none 0) .nil)), fun z => [⟨(.int .i64), ⟨a2, x0.2.2.1.1.length, c3⟩, x0.2.2.1.1⟩, ⟨(.sl (.int .i64)), ⟨a6, x0.2.2.2.2.2.2.2.2.2.2.1.length, c7⟩, x0.2.2.2.2.2.2.2.2.2.2.1⟩, ⟨(.pair (.sl (.int .i64)) (.int .i64)), ⟨a10, x0.2.2.2.2.2.2.2.2.2.2.2.1.length, c11⟩, x0.2.2.2.2.2.2.2.2.2.2.2.1⟩, ⟨(.int .i64), ⟨a14, x0.2.2.2.2.2.2.2.2.2.2.2.2.2.1.1.length, c15⟩, x0.2.2.2.2.2.2.2.2.2.2.2.2.2.1.1⟩, ⟨(.int .i64), ⟨a18, x0.2.2.2.2.2.2.2.2.2.2.2.2.2.2.1.length, c19⟩, x0.2.2.2.2.2.2.2.2.2.2.2.2.2.2.1⟩, ⟨(.int .i64), ⟨a22, x0.2.2.2.2.2.2.2.2.2.2.2.2.2.2.2.2.1.length, c23⟩, x0.2.2.2.2.2.2.2.2.2.2.2.2.2.2.2.2.1⟩], fun z => [], fun z => 0⟩ ?_ ?_
    · refine JS.rg0 ttOk 19 [(21, .v (.bool (bif (bif (decide (x0.2.1 = 2)) then (decide (x0.2.2.1.2 = (x0.2.2.1.1.length : Int))) else false) then (decide (0 < x0.2.2.1.2)) else false)))] ⟨⟨rfl, trivial⟩, rfl⟩ rfl rfl ?_
      refine JS.cond rfl (fun ht31 => ?_) (fun ht31 => ?_)
      · have h := condT h ht31
        refine JS.reB ttOk 7 [(W (x0.2.2.1.2 - 1))] [] [] (.new 7 46 (cl46 (x0.1, x0.2.1, (x0.2.2.1.1, (W (x0.2.2.1.2 - 1))), x0.2.2.2.1, x0.2.2.2.2.1, x0.2.2.2.2.2.1, x0.2.2.2.2.2.2.1, x0.2.2.2.2.2.2.2.1, x0.2.2.2.2.2.2.2.2.1, x0.2.2.2.2.2.2.2.2.2.1, x0.2.2.2.2.2.2.2.2.2.2.1, x0.2.2.2.2.2.2.2.2.2.2.2.1, x0.2.2.2.2.2.2.2.2.2.2.2.2.1, x0.2.2.2.2.2.2.2.2.2.2.2.2.2.1, x0.2.2.2.2.2.2.2.2.2.2.2.2.2.2.1, x0.2.2.2.2.2.2.2.2.2.2.2.2.2.2.2.1, x0.2.2.2.2.2.2.2.2.2.2.2.2.2.2.2.2) a2 c3 a6 c7 a10 c11 a14 c15 a18 c19 a22 c23) (.new 8 46 (cl46 (false, 0, ([], 0), 0, 0, 0, 0, 0, 0, 0, [], [], 0, ([], 0), [], 0, ([], 0)) none 0 none 0 none 0 none 0 none 0 none 0) .nil)) ⟨⟨trivial, rfl⟩, trivial, (Bs rfl rfl)⟩ rfl rfl (JS.endJ (W (x0.2.2.1.2 - 1)) h (Es rfl) (Bs rfl rfl) [0, 1, 2, 3, 4, 5] rfl [] rfl)
      have h := condF h ht31
      refine JS.skip (JS.endJ x0.2.2.1.2 h (Es rfl) (Bs rfl rfl) [0, 1, 2, 3, 4, 5] rfl [] rfl)
    rintro x27 h
    subst hj32
    refine JS.rgB ttOk 2 [] [] [] (.new 8 46 (cl46 (x0.1, x0.2.1, (x0.2.2.1.1, x27), x0.2.2.2.1, x0.2.2.2.2.1, x0.2.2.2.2.2.1, x0.2.2.2.2.2.2.1, x0.2.2.2.2.2.2.2.1, x0.2.2.2.2.2.2.2.2.1, x0.2.2.2.2.2.2.2.2.2.1, x0.2.2.2.2.2.2.2.2.2.2.1, x0.2.2.2.2.2.2.2.2.2.2.2.1, x0.2.2.2.2.2.2.2.2.2.2.2.2.1, x0.2.2.2.2.2.2.2.2.2.2.2.2.2.1, x0.2.2.2.2.2.2.2.2.2.2.2.2.2.2.1, x0.2.2.2.2.2.2.2.2.2.2.2.2.2.2.2.1, x0.2.2.2.2.2.2.2.2.2.2.2.2.2.2.2.2) a2 c3 a6 c7 a10 c11 a14 c15 a18 c19 a22 c23) .nil) ⟨trivial, (Bs rfl rfl)⟩ rfl rfl ?_
    cases h
    exact JS.ret ttOk () trivial rfl rfl [] rfl

def M_s_Leave (x0 : Bool × Int × (List Int × Int) × Int × Int × Int × Int × Int × Int × Int × List (List Int) × (List (List Int × Int)) × Int × (List Int × Int) × List Int × Int × List Int × Int) : Option (Bool × Int × (List Int × Int) × Int × Int × Int × Int × Int × Int × Int × List (List Int) × (List (List Int × Int)) × Int × (List Int × Int) × List Int × Int × List Int × Int) :=
  (bindO (M_s_EdOk x0) fun (y26 : Bool) =>
  (bif (bif (!y26) then true else (!(decide (x0.2.1 = 3)))) then
  some (false, 0, ([], 0), 0, 0, 0, 0, 0, 0, 0, [], [], 0, ([], 0), [], 0, ([], 0))
  else
  (bindO (M_s_l21Copy x0) fun (y28 : Bool × Int × (List Int × Int) × Int × Int × Int × Int × Int × Int × Int × List (List Int) × (List (List Int × Int)) × Int × (List Int × Int) × List Int × Int × List Int × Int) =>
  (joinO (fun (x43 : Int) =>
  (bindO (M_s_l21Clip (y28.1, x43, y28.2.2.1, y28.2.2.2.1, y28.2.2.2.2.1, y28.2.2.2.2.2.1, y28.2.2.2.2.2.2.1, y28.2.2.2.2.2.2.2.1, y28.2.2.2.2.2.2.2.2.1, y28.2.2.2.2.2.2.2.2.2.1, y28.2.2.2.2.2.2.2.2.2.2.1, y28.2.2.2.2.2.2.2.2.2.2.2.1, y28.2.2.2.2.2.2.2.2.2.2.2.2.1, y28.2.2.2.2.2.2.2.2.2.2.2.2.2.1, ([] : List Int), 0, (([] : List Int), 0))) fun (y46 : Bool × Int × (List Int × Int) × Int × Int × Int × Int × Int × Int × Int × List (List Int) × (List (List Int × Int)) × Int × (List Int × Int) × List Int × Int × List Int × Int) =>
  some (y46.1, y46.2.1, (y28.2.2.1.1, y46.2.2.1.2), y46.2.2.2.1, y46.2.2.2.2.1, y46.2.2.2.2.2.1, y46.2.2.2.2.2.2.1, y46.2.2.2.2.2.2.2.1, y46.2.2.2.2.2.2.2.2.1, y46.2.2.2.2.2.2.2.2.2.1, y28.2.2.2.2.2.2.2.2.2.2.1, y28.2.2.2.2.2.2.2.2.2.2.2.1, y46.2.2.2.2.2.2.2.2.2.2.2.2.1, (y28.2.2.2.2.2.2.2.2.2.2.2.2.2.1.1, y46.2.2.2.2.2.2.2.2.2.2.2.2.2.1.2), [], y46.2.2.2.2.2.2.2.2.2.2.2.2.2.2.2.1, ([], y46.2.2.2.2.2.2.2.2.2.2.2.2.2.2.2.2.2)))) fun j44 =>
  (bif x0.1 then
  j44 2
  else
  j44 0)))))

theorem ok_s_Leave (x0 : Bool × Int × (List Int × Int) × Int × Int × Int × Int × Int × Int × Int × List (List Int) × (List (List Int × Int)) × Int × (List Int × Int) × List Int × Int × List Int × Int) (a2 : Option Addr) (c3 : Nat) (l4 : Nat) (hl5 : x0.2.2.1.1.length = l4) (a6 : Option Addr) (c7 : Nat) (l8 : Nat) (hl9 : x0.2.2.2.2.2.2.2.2.2.2.1.length = l8) (a10 : Option Addr) (c11 : Nat) (l12 : Nat) (hl13 : x0.2.2.2.2.2.2.2.2.2.2.2.1.length = l12) (a14 : Option Addr) (c15 : Nat) (l16 : Nat) (hl17 : x0.2.2.2.2.2.2.2.2.2.2.2.2.2.1.1.length = l16) (a18 : Option Addr) (c19 : Nat) (l20 : Nat) (hl21 : x0.2.2.2.2.2.2.2.2.2.2.2.2.2.2.1.length = l20) (a22 : Option Addr) (c23 : Nat) (l24 : Nat) (hl25 : x0.2.2.2.2.2.2.2.2.2.2.2.2.2.2.2.2.1.length = l24) (r : Bool × Int × (List Int × Int) × Int × Int × Int × Int × Int × Int × Int × List (List Int) × (List (List Int × Int)) × Int × (List Int × Int) × List Int × Int × List Int × Int) (h : M_s_Leave x0 = some r) :
    FC Tryz.prog 83 [.agg #[.bool x0.1, .int .i64 x0.2.1, .slice a2 l4 c3, .int .i64 x0.2.2.1.2, .int .i64 x0.2.2.2.1, .int .i64 x0.2.2.2.2.1, .int .i64 x0.2.2.2.2.2.1, .int .i64 x0.2.2.2.2.2.2.1, .int .i64 x0.2.2.2.2.2.2.2.1, .int .i64 x0.2.2.2.2.2.2.2.2.1, .int .i64 x0.2.2.2.2.2.2.2.2.2.1, .slice a6 l8 c7, .slice a10 l12 c11, .int .i64 x0.2.2.2.2.2.2.2.2.2.2.2.2.1, .slice a14 l16 c15, .int .i64 x0.2.2.2.2.2.2.2.2.2.2.2.2.2.1.2, .slice a18 l20 c19, .int .i64 x0.2.2.2.2.2.2.2.2.2.2.2.2.2.2.2.1, .slice a22 l24 c23, .int .i64 x0.2.2.2.2.2.2.2.2.2.2.2.2.2.2.2.2.2]] [⟨(.int .i64), ⟨a2, l4, c3⟩, x0.2.2.1.1⟩, ⟨(.sl (.int .i64)), ⟨a6, l8, c7⟩, x0.2.2.2.2.2.2.2.2.2.2.1⟩, ⟨(.pair (.sl (.int .i64)) (.int .i64)), ⟨a10, l12, c11⟩, x0.2.2.2.2.2.2.2.2.2.2.2.1⟩, ⟨(.int .i64), ⟨a14, l16, c15⟩, x0.2.2.2.2.2.2.2.2.2.2.2.2.2.1.1⟩, ⟨(.int .i64), ⟨a18, l20, c19⟩, x0.2.2.2.2.2.2.2.2.2.2.2.2.2.2.1⟩, ⟨(.int .i64), ⟨a22, l24, c23⟩, x0.2.2.2.2.2.2.2.2.2.2.2.2.2.2.2.2.1⟩] (fun _ : Option Addr × Nat × Option Addr × Nat × Option Addr × Nat × Option Addr × Nat => True) (fun q => .agg (cl46 (r.1, r.2.1, r.2.2.1, r.2.2.2.1, r.2.2.2.2.1, r.2.2.2.2.2.1, r.2.2.2.2.2.2.1, r.2.2.2.2.2.2.2.1, r.2.2.2.2.2.2.2.2.1, r.2.2.2.2.2.2.2.2.2.1, r.2.2.2.2.2.2.2.2.2.2.1, r.2.2.2.2.2.2.2.2.2.2.2.1, r.2.2.2.2.2.2.2.2.2.2.2.2.1, r.2.2.2.2.2.2.2.2.2.2.2.2.2.1, [], r.2.2.2.2.2.2.2.2.2.2.2.2.2.2.2.1, ([], r.2.2.2.2.2.2.2.2.2.2.2.2.2.2.2.2.2)) q.1 q.2.1 q.2.2.1 q.2.2.2.1 q.2.2.2.2.1 q.2.2.2.2.2.1 q.2.2.2.2.2.2.1 q.2.2.2.2.2.2.2 none 0 none 0).toArray) (fun q => [⟨(.int .i64), ⟨q.1, r.2.2.1.1.length, q.2.1⟩, r.2.2.1.1⟩, ⟨(.sl (.int .i64)), ⟨q.2.2.1, r.2.2.2.2.2.2.2.2.2.2.1.length, q.2.2.2.1⟩, r.2.2.2.2.2.2.2.2.2.2.1⟩, ⟨(.pair (.sl (.int .i64)) (.int .i64)), ⟨q.2.2.2.2.1, r.2.2.2.2.2.2.2.2.2.2.2.1.length, q.2.2.2.2.2.1⟩, r.2.2.2.2.2.2.2.2.2.2.2.1⟩, ⟨(.int .i64), ⟨q.2.2.2.2.2.2.1, r.2.2.2.2.2.2.2.2.2.2.2.2.2.1.1.length, q.2.2.2.2.2.2.2⟩, r.2.2.2.2.2.2.2.2.2.2.2.2.2.1.1⟩]) :=
  by
    subst hl5
    subst hl9
    subst hl13
    subst hl17
    subst hl21
    subst hl25
    refine FC.of (T := TTx) Tryz.call83 Tryz.func83 rfl rfl fun w0 => ?_
    unfold M_s_Leave at h
    refine JS.rgB ttOk 2 [] [7, 8] [(1, .bp 7 0), (2, .bp 8 0)] (.new 7 46 (cl46 x0 a2 c3 a6 c7 a10 c11 a14 c15 a18 c19 a22 c23) (.new 8 46 (cl46 (false, 0, ([], 0), 0, 0, 0, 0, 0, 0, 0, [], [], 0, ([], 0), [], 0, ([], 0)) none 0 none 0 none 0 none 0 none 0 none 0) .nil)) ⟨(Es rfl), (Bs rfl rfl)⟩ rfl rfl (JS.seq (JS.seq (JS.region (JO.reg ttOk 1 [] [] [(4, .v (.agg (cl46 x0 a2 c3 a6 c7 a10 c11 a14 c15 a18 c19 a22 c23).toArray))] _ rfl ⟨⟨rfl, trivial⟩, rfl⟩ ?_))))
    obtain ⟨y26, hy27, h⟩ := bindO_some h
    refine JO.call rfl rfl rfl rfl (ok_s_EdOk x0 a2 c3 x0.2.2.1.1.length rfl a6 c7 x0.2.2.2.2.2.2.2.2.2.2.1.length rfl a10 c11 x0.2.2.2.2.2.2.2.2.2.2.2.1.length rfl a14 c15 x0.2.2.2.2.2.2.2.2.2.2.2.2.2.1.1.length rfl a18 c19 x0.2.2.2.2.2.2.2.2.2.2.2.2.2.2.1.length rfl a22 c23 x0.2.2.2.2.2.2.2.2.2.2.2.2.2.2.2.2.1.length rfl _ hy27) rfl [0, 1, 2, 3, 4, 5] rfl rfl fun _ _ => JO.reg ttOk 6 [] [] [(11, .v (.bool (bif (!y26) then true else (!(decide (x0.2.1 = 3))))))] _ rfl ⟨⟨rfl, trivial⟩, rfl⟩ (JO.done rfl ?_)
    refine JS.cond rfl (fun ht52 => ?_) (fun ht52 => ?_)
    · have h := condT h ht52
      refine JS.rgB ttOk 2 [] [] [] (.new 8 46 (cl46 (false, 0, ([], 0), 0, 0, 0, 0, 0, 0, 0, [], [], 0, ([], 0), [], 0, ([], 0)) none 0 none 0 none 0 none 0 none 0 none 0) .nil) ⟨trivial, (Bs rfl rfl)⟩ rfl rfl ?_
      cases h
      refine JS.nilO (.int .i64) Sl.nil rfl rfl (JS.nilO (.sl (.int .i64)) Sl.nil rfl rfl (JS.nilO (.pair (.sl (.int .i64)) (.int .i64)) Sl.nil rfl rfl (JS.nilO (.int .i64) Sl.nil rfl rfl (JS.ret ttOk (none, 0, none, 0, none, 0, none, 0) trivial rfl rfl [3, 2, 1, 0] rfl))))
    have h := condF h ht52
    refine JS.skip (JS.seq (JS.region (JO.reg ttOk 1 [] [] [(13, .v (.agg (cl46 x0 a2 c3 a6 c7 a10 c11 a14 c15 a18 c19 a22 c23).toArray))] _ rfl ⟨⟨rfl, trivial⟩, rfl⟩ ?_)))
    obtain ⟨y28, hy29, h⟩ := bindO_some h
    refine JO.call rfl rfl rfl rfl (ok_s_l21Copy x0 a2 c3 x0.2.2.1.1.length rfl a6 c7 x0.2.2.2.2.2.2.2.2.2.2.1.length rfl a10 c11 x0.2.2.2.2.2.2.2.2.2.2.2.1.length rfl a14 c15 x0.2.2.2.2.2.2.2.2.2.2.2.2.2.1.1.length rfl a18 c19 x0.2.2.2.2.2.2.2.2.2.2.2.2.2.2.1.length rfl a22 c23 x0.2.2.2.2.2.2.2.2.2.2.2.2.2.2.2.2.1.length rfl _ hy29) rfl [0, 1, 2, 3, 4, 5] rfl rfl ?_
    rintro ⟨a30, c31, a32, c33, a34, c35, a36, c37, a38, c39, a40, c41⟩ -
    refine JO.regB ttOk 2 [] [31] [(3, .bp 31 0)] (.new 7 46 (cl46 x0 a2 c3 a6 c7 a10 c11 a14 c15 a18 c19 a22 c23) (.new 8 46 (cl46 (false, 0, ([], 0), 0, 0, 0, 0, 0, 0, 0, [], [], 0, ([], 0), [], 0, ([], 0)) none 0 none 0 none 0 none 0 none 0 none 0) (.new 31 46 (cl46 y28 a30 c31 a32 c33 a34 c35 a36 c37 a38 c39 a40 c41) .nil))) rfl ⟨⟨rfl, trivial⟩, (Bs rfl rfl)⟩ (JO.done rfl (JS.rgB ttOk 2 [] [] [] (.new 7 46 (cl46 x0 a2 c3 a6 c7 a10 c11 a14 c15 a18 c19 a22 c23) (.new 8 46 (cl46 (false, 0, ([], 0), 0, 0, 0, 0, 0, 0, 0, [], [], 0, ([], 0), [], 0, ([], 0)) none 0 none 0 none 0 none 0 none 0 none 0) (.new 31 46 (cl46 (y28.1, 0, y28.2.2.1, y28.2.2.2.1, y28.2.2.2.2.1, y28.2.2.2.2.2.1, y28.2.2.2.2.2.2.1, y28.2.2.2.2.2.2.2.1, y28.2.2.2.2.2.2.2.2.1, y28.2.2.2.2.2.2.2.2.2.1, y28.2.2.2.2.2.2.2.2.2.2.1, y28.2.2.2.2.2.2.2.2.2.2.2.1, y28.2.2.2.2.2.2.2.2.2.2.2.2.1, y28.2.2.2.2.2.2.2.2.2.2.2.2.2.1, y28.2.2.2.2.2.2.2.2.2.2.2.2.2.2.1, y28.2.2.2.2.2.2.2.2.2.2.2.2.2.2.2.1, y28.2.2.2.2.2.2.2.2.2.2.2.2.2.2.2.2) a30 c31 a32 c33 a34 c35 a36 c37 a38 c39 a40 c41) .nil))) ⟨trivial, (Bs rfl rfl)⟩ rfl rfl ?_))
    obtain ⟨j44, hj51, h⟩ := joinO_some h
    refine JS.seqJ (ι := Int) ⟨fun z => j44 z = some r, fun z => [(2, .bp 8 0), (3, .bp 31 0)], fun z => (.new 8 46 (cl46 (false, 0, ([], 0), 0, 0, 0, 0, 0, 0, 0, [], [], 0, ([], 0), [], 0, ([], 0)) none 0 none 0 none 0 none 0 none 0 none 0) (.new 31 46 (cl46 (y28.1, z, y28.2.2.1, y28.2.2.2.1, y28.2.2.2.2.1, y28.2.2.2.2.2.1, y28.2.2.2.2.2.2.1, y28.2.2.2.2.2.2.2.1, y28.2.2.2.2.2.2.2.2.1, y28.2.2.2.2.2.2.2.2.2.1, y28.2.2.2.2.2.2.2.2.2.2.1, y28.2.2.2.2.2.2.2.2.2.2.2.1, y28.2.2.2.2.2.2.2.2.2.2.2.2.1, y28.2.2.2.2.2.2.2.2.2.2.2.2.2.1, y28.2.2.2.2.2.2.2.2.2.2.2.2.2.2.1, y28.2.2.2.2.2.2.2.2.2.2.2.2.2.2.2.1, y28.2.2.2.2.2.2.2.2.2.2.2.2.2.2.2.2) a30 c31 a32 c33 a34 c35 a36 c37 a38 c39 a40 c41) .nil)), fun z => [], fun z => [⟨(.int .i64), ⟨a30, y28.2.2.1.1.length, c31⟩, y28.2.2.1.1⟩, ⟨(.sl (.int .i64)), ⟨a32, y28.2.2.2.2.2.2.2.2.2.2.1.length, c33⟩, y28.2.2.2.2.2.2.2.2.2.2.1⟩, ⟨(.pair (.sl (.int .i64)) (.int .i64)), ⟨a34, y28.2.2.2.2.2.2.2.2.2.2.2.1.length, c35⟩, y28.2.2.2.2.2.2.2.2.2.2.2.1⟩, ⟨(.int .i64), ⟨a36, y28.2.2.2.2.2.2.2.2.2.2.2.2.2.1.1.length, c37⟩, y28.2.2.2.2.2.2.2.2.2.2.2.2.2.1.1⟩, ⟨(.int .i64), ⟨a38, y28.2.2.2.2.2.2.2.2.2.2.2.2.2.2.1.length, c39⟩, y28.2.2.2.2.2.2.2.2.2.2.2.2.2.2.1⟩, ⟨(.int .i64), ⟨a40, y28.2.2.2.2.2.2.2.2.2.2.2.2.2.2.2.2.1.length, c41⟩, y28.2.2.2.2.2.2.2.2.2.2.2.2.2.2.2.2.1⟩], fun z => 0⟩ ?_ ?_
    · refine JS.rg0 ttOk 2 [(17, .v (.bool x0.1))] ⟨⟨rfl, trivial⟩, rfl⟩ rfl rfl ?_
      refine JS.cond rfl (fun ht50 => ?_) (fun ht50 => ?_)
      · have h := condT h ht50
        refine JS.reB ttOk 2 [] [] [] (.new 8 46 (cl46 (false, 0, ([], 0), 0, 0, 0, 0, 0, 0, 0, [], [], 0, ([], 0), [], 0, ([], 0)) none 0 none 0 none 0 none 0 none 0 none 0) (.new 31 46 (cl46 (y28.1, 2, y28.2.2.1, y28.2.2.2.1, y28.2.2.2.2.1, y28.2.2.2.2.2.1, y28.2.2.2.2.2.2.1, y28.2.2.2.2.2.2.2.1, y28.2.2.2.2.2.2.2.2.1, y28.2.2.2.2.2.2.2.2.2.1, y28.2.2.2.2.2.2.2.2.2.2.1, y28.2.2.2.2.2.2.2.2.2.2.2.1, y28.2.2.2.2.2.2.2.2.2.2.2.2.1, y28.2.2.2.2.2.2.2.2.2.2.2.2.2.1, y28.2.2.2.2.2.2.2.2.2.2.2.2.2.2.1, y28.2.2.2.2.2.2.2.2.2.2.2.2.2.2.2.1, y28.2.2.2.2.2.2.2.2.2.2.2.2.2.2.2.2) a30 c31 a32 c33 a34 c35 a36 c37 a38 c39 a40 c41) .nil)) ⟨trivial, (Bs rfl rfl)⟩ rfl rfl (JS.endJA 2 h (Es rfl) (Bs rfl rfl) [] rfl [0, 1, 2, 3, 4, 5] rfl rfl)
      have h := condF h ht50
      refine JS.skip (JS.endJA 0 h (Es rfl) (Bs rfl rfl) [] rfl [0, 1, 2, 3, 4, 5] rfl rfl)
    rintro x43 h
    subst hj51
    refine JS.rgB ttOk 2 [] [] [] (.new 8 46 (cl46 (false, 0, ([], 0), 0, 0, 0, 0, 0, 0, 0, [], [], 0, ([], 0), [], 0, ([], 0)) none 0 none 0 none 0 none 0 none 0 none 0) (.new 31 46 (cl46 (y28.1, x43, y28.2.2.1, y28.2.2.2.1, y28.2.2.2.2.1, y28.2.2.2.2.2.1, y28.2.2.2.2.2.2.1, y28.2.2.2.2.2.2.2.1, y28.2.2.2.2.2.2.2.2.1, y28.2.2.2.2.2.2.2.2.2.1, y28.2.2.2.2.2.2.2.2.2.2.1, y28.2.2.2.2.2.2.2.2.2.2.2.1, y28.2.2.2.2.2.2.2.2.2.2.2.2.1, y28.2.2.2.2.2.2.2.2.2.2.2.2.2.1, [], y28.2.2.2.2.2.2.2.2.2.2.2.2.2.2.2.1, y28.2.2.2.2.2.2.2.2.2.2.2.2.2.2.2.2) a30 c31 a32 c33 a34 c35 a36 c37 none 0 a40 c41) .nil)) ⟨trivial, (Bs rfl rfl)⟩ rfl rfl (JS.rgB ttOk 2 [] [] [] (.new 8 46 (cl46 (false, 0, ([], 0), 0, 0, 0, 0, 0, 0, 0, [], [], 0, ([], 0), [], 0, ([], 0)) none 0 none 0 none 0 none 0 none 0 none 0) (.new 31 46 (cl46 (y28.1, x43, y28.2.2.1, y28.2.2.2.1, y28.2.2.2.2.1, y28.2.2.2.2.2.1, y28.2.2.2.2.2.2.1, y28.2.2.2.2.2.2.2.1, y28.2.2.2.2.2.2.2.2.1, y28.2.2.2.2.2.2.2.2.2.1, y28.2.2.2.2.2.2.2.2.2.2.1, y28.2.2.2.2.2.2.2.2.2.2.2.1, y28.2.2.2.2.2.2.2.2.2.2.2.2.1, y28.2.2.2.2.2.2.2.2.2.2.2.2.2.1, [], 0, y28.2.2.2.2.2.2.2.2.2.2.2.2.2.2.2.2) a30 c31 a32 c33 a34 c35 a36 c37 none 0 a40 c41) .nil)) ⟨trivial, (Bs rfl rfl)⟩ rfl rfl (JS.rgB ttOk 3 [] [] [] (.new 8 46 (cl46 (false, 0, ([], 0), 0, 0, 0, 0, 0, 0, 0, [], [], 0, ([], 0), [], 0, ([], 0)) none 0 none 0 none 0 none 0 none 0 none 0) (.new 31 46 (cl46 (y28.1, x43, y28.2.2.1, y28.2.2.2.1, y28.2.2.2.2.1, y28.2.2.2.2.2.1, y28.2.2.2.2.2.2.1, y28.2.2.2.2.2.2.2.1, y28.2.2.2.2.2.2.2.2.1, y28.2.2.2.2.2.2.2.2.2.1, y28.2.2.2.2.2.2.2.2.2.2.1, y28.2.2.2.2.2.2.2.2.2.2.2.1, y28.2.2.2.2.2.2.2.2.2.2.2.2.1, y28.2.2.2.2.2.2.2.2.2.2.2.2.2.1, [], 0, ([], 0)) a30 c31 a32 c33 a34 c35 a36 c37 none 0 none 0) .nil)) ⟨trivial, (Bs rfl rfl)⟩ rfl rfl (JS.seq (JS.region (JO.reg ttOk 1 [] [] [(23, .v (.agg (cl46 (y28.1, x43, y28.2.2.1, y28.2.2.2.1, y28.2.2.2.2.1, y28.2.2.2.2.2.1, y28.2.2.2.2.2.2.1, y28.2.2.2.2.2.2.2.1, y28.2.2.2.2.2.2.2.2.1, y28.2.2.2.2.2.2.2.2.2.1, y28.2.2.2.2.2.2.2.2.2.2.1, y28.2.2.2.2.2.2.2.2.2.2.2.1, y28.2.2.2.2.2.2.2.2.2.2.2.2.1, y28.2.2.2.2.2.2.2.2.2.2.2.2.2.1, [], 0, ([], 0)) a30 c31 a32 c33 a34 c35 a36 c37 none 0 none 0).toArray))] _ rfl ⟨⟨rfl, trivial⟩, rfl⟩ ?_)))))
    obtain ⟨y46, hy47, h⟩ := bindO_some h
    refine JO.nilR (.int .i64) Sl.nil rfl rfl (JO.nilR (.int .i64) Sl.nil rfl rfl (JO.call rfl rfl rfl rfl (ok_s_l21Clip (y28.1, x43, y28.2.2.1, y28.2.2.2.1, y28.2.2.2.2.1, y28.2.2.2.2.2.1, y28.2.2.2.2.2.2.1, y28.2.2.2.2.2.2.2.1, y28.2.2.2.2.2.2.2.2.1, y28.2.2.2.2.2.2.2.2.2.1, y28.2.2.2.2.2.2.2.2.2.2.1, y28.2.2.2.2.2.2.2.2.2.2.2.1, y28.2.2.2.2.2.2.2.2.2.2.2.2.1, y28.2.2.2.2.2.2.2.2.2.2.2.2.2.1, ([] : List Int), 0, (([] : List Int), 0)) a30 c31 y28.2.2.1.1.length rfl a32 c33 y28.2.2.2.2.2.2.2.2.2.2.1.length rfl a34 c35 y28.2.2.2.2.2.2.2.2.2.2.2.1.length rfl a36 c37 y28.2.2.2.2.2.2.2.2.2.2.2.2.2.1.1.length rfl none 0 (([] : List Int).length) rfl none 0 (([] : List Int).length) rfl _ hy47) rfl [2, 3, 4, 5, 1, 0] rfl rfl fun _ _ => JO.regB ttOk 1 [] [] [] (.new 8 46 (cl46 (y46.1, y46.2.1, (y28.2.2.1.1, y46.2.2.1.2), y46.2.2.2.1, y46.2.2.2.2.1, y46.2.2.2.2.2.1, y46.2.2.2.2.2.2.1, y46.2.2.2.2.2.2.2.1, y46.2.2.2.2.2.2.2.2.1, y46.2.2.2.2.2.2.2.2.2.1, y28.2.2.2.2.2.2.2.2.2.2.1, y28.2.2.2.2.2.2.2.2.2.2.2.1, y46.2.2.2.2.2.2.2.2.2.2.2.2.1, (y28.2.2.2.2.2.2.2.2.2.2.2.2.2.1.1, y46.2.2.2.2.2.2.2.2.2.2.2.2.2.1.2), [], y46.2.2.2.2.2.2.2.2.2.2.2.2.2.2.2.1, ([], y46.2.2.2.2.2.2.2.2.2.2.2.2.2.2.2.2.2)) a30 c31 a32 c33 a34 c35 a36 c37 none 0 none 0) .nil) rfl ⟨trivial, (Bs rfl rfl)⟩ (JO.done rfl ?_)))
    cases h
    exact JS.ret ttOk (a30, c31, a32, c33, a34, c35, a36, c37) trivial rfl rfl [0, 0, 0, 0] rfl

def M_s_RuneBytes (x0 : Int) : Option (List UInt8) :=
  (bindO (M_s_RuneOk x0) fun (y2 : Bool) =>
  (bif (!y2) then
  some ([])
  else
  (bif (decide (x0 < 128)) then
  some ([(u8 (x0))] : List UInt8)
  else
  (bif (decide (x0 < 2048)) then
  some ([(u8 ((W (192 + (W (Int.tdiv x0 64)))))), (u8 ((W (128 + (Int.tmod x0 64)))))] : List UInt8)
  else
  (bif (decide (x0 < 65536)) then
  some ([(u8 ((W (224 + (W (Int.tdiv x0 4096)))))), (u8 ((W (128 + (Int.tmod (W (Int.tdiv x0 64)) 64))))), (u8 ((W (128 + (Int.tmod x0 64)))))] : List UInt8)
  else
  some ([(u8 ((W (240 + (W (Int.tdiv x0 262144)))))), (u8 ((W (128 + (Int.tmod (W (Int.tdiv x0 4096)) 64))))), (u8 ((W (128 + (Int.tmod (W (Int.tdiv x0 64)) 64))))), (u8 ((W (128 + (Int.tmod x0 64)))))] : List UInt8))))))

theorem ok_s_RuneBytes (x0 : Int) (r : List UInt8) (h : M_s_RuneBytes x0 = some r) :
    FC Tryz.prog 136 [.int .i64 x0] [] (fun _ : Option Addr × Nat => True) (fun q => .slice q.1 r.length q.2) (fun q => [⟨.byte, ⟨q.1, r.length, q.2⟩, r⟩]) :=
  by
    refine FC.of (T := TTx) Tryz.call136 Tryz.func136 rfl rfl fun w0 => ?_
    unfold M_s_RuneBytes at h
    refine JS.rg0 ttOk 1 [] ⟨trivial, rfl⟩ rfl rfl (JS.seq (JS.seq (JS.region (JO.reg ttOk 1 [] [] [(3, .v (.int .i64 x0))] _ rfl ⟨⟨rfl, trivial⟩, rfl⟩ ?_))))
    obtain ⟨y2, hy3, h⟩ := bindO_some h
    refine JO.call rfl rfl rfl rfl (ok_s_RuneOk x0 _ hy3) rfl [] rfl rfl fun _ _ => JO.reg ttOk 1 [] [] [(5, .v (.bool (!y2)))] _ rfl ⟨⟨rfl, trivial⟩, rfl⟩ (JO.done rfl ?_)
    refine JS.cond rfl (fun ht27 => ?_) (fun ht27 => ?_)
    · have h := condT h ht27
      refine JS.rg0 ttOk 1 [(2, .v (.slice none 0 0))] ⟨⟨rfl, trivial⟩, rfl⟩ rfl rfl ?_
      cases h
      refine JS.nilO .byte Sl.nil rfl rfl (JS.ret ttOk (none, 0) trivial rfl rfl [0] rfl)
    have h := condF h ht27
    refine JS.skip (JS.seq (JS.rg0 ttOk 2 [(7, .v (.bool (decide (x0 < 128))))] ⟨⟨rfl, trivial⟩, rfl⟩ rfl rfl ?_))
    refine JS.cond rfl (fun ht26 => ?_) (fun ht26 => ?_)
    · have h := condT h ht26
      refine JS.seq (JS.region (JO.reg ttOk 2 [((u8 (x0)).toNat : Int)] [] [(9, .v (.int .u8 ((u8 (x0)).toNat : Int)))] _ rfl ⟨⟨trivial, u8_wrap _⟩, ⟨rfl, trivial⟩, rfl⟩ ?_))
      refine JO.ofK rfl (JK.buildSlice ttOk rfl rfl rfl rfl rfl rfl rfl rfl rfl rfl rfl [] rfl .byte [(u8 (x0))] ⟨rfl, rfl⟩ rfl rfl fun a4 => JO.toK ?_)
      refine JO.reg ttOk 1 [] [] [(2, .v (.slice a4 ([(u8 (x0))] : List UInt8).length ([(u8 (x0))] : List UInt8).length))] _ rfl ⟨⟨rfl, trivial⟩, rfl⟩ (JO.done rfl ?_)
      cases h
      exact JS.ret ttOk (a4, ([(u8 (x0))] : List UInt8).length) trivial rfl rfl [0] rfl
    have h := condF h ht26
    refine JS.skip (JS.seq (JS.rg0 ttOk 2 [(12, .v (.bool (decide (x0 < 2048))))] ⟨⟨rfl, trivial⟩, rfl⟩ rfl rfl ?_))
    refine JS.cond rfl (fun ht25 => ?_) (fun ht25 => ?_)
    · have h := condT h ht25
      refine JS.seq (JS.region ?_)
      have g5 : (64 : Int) ≠ 0 := by decide
      have g6 : (64 : Int) ≠ 0 := by decide
      refine JO.reg ttOk 8 [(W (Int.tdiv x0 64)), (W (192 + (W (Int.tdiv x0 64)))), ((u8 ((W (192 + (W (Int.tdiv x0 64)))))).toNat : Int), (W (128 + (Int.tmod x0 64))), ((u8 ((W (128 + (Int.tmod x0 64))))).toNat : Int)] [] [(16, .v (.int .u8 ((u8 ((W (192 + (W (Int.tdiv x0 64)))))).toNat : Int))), (20, .v (.int .u8 ((u8 ((W (128 + (Int.tmod x0 64))))).toNat : Int)))] _ rfl ⟨⟨g5, rfl⟩, ⟨trivial, rfl⟩, ⟨trivial, u8_wrap _⟩, g6, ⟨trivial, rfl⟩, ⟨trivial, u8_wrap _⟩, (Es rfl), rfl⟩ ?_
      refine JO.ofK rfl (JK.buildSlice ttOk rfl rfl rfl rfl rfl rfl rfl rfl rfl rfl rfl [] rfl .byte [(u8 ((W (192 + (W (Int.tdiv x0 64)))))), (u8 ((W (128 + (Int.tmod x0 64)))))] ⟨rfl, rfl⟩ rfl rfl fun a7 => JO.toK ?_)
      refine JO.reg ttOk 1 [] [] [(2, .v (.slice a7 ([(u8 ((W (192 + (W (Int.tdiv x0 64)))))), (u8 ((W (128 + (Int.tmod x0 64)))))] : List UInt8).length ([(u8 ((W (192 + (W (Int.tdiv x0 64)))))), (u8 ((W (128 + (Int.tmod x0 64)))))] : List UInt8).length))] _ rfl ⟨⟨rfl, trivial⟩, rfl⟩ (JO.done rfl ?_)
      cases h
      exact JS.ret ttOk (a7, ([(u8 ((W (192 + (W (Int.tdiv x0 64)))))), (u8 ((W (128 + (Int.tmod x0 64)))))] : List UInt8).length) trivial rfl rfl [0] rfl
    have h := condF h ht25
    refine JS.skip (JS.seq (JS.rg0 ttOk 2 [(23, .v (.bool (decide (x0 < 65536))))] ⟨⟨rfl, trivial⟩, rfl⟩ rfl rfl ?_))
    refine JS.cond rfl (fun ht24 => ?_) (fun ht24 => ?_)
    · have h := condT h ht24
      refine JS.seq (JS.region ?_)
      have g8 : (4096 : Int) ≠ 0 := by decide
      have g9 : (64 : Int) ≠ 0 := by decide
      have g10 : (64 : Int) ≠ 0 := by decide
      have g11 : (64 : Int) ≠ 0 := by decide
      refine JO.reg ttOk 13 [(W (Int.tdiv x0 4096)), (W (224 + (W (Int.tdiv x0 4096)))), ((u8 ((W (224 + (W (Int.tdiv x0 4096)))))).toNat : Int), (W (Int.tdiv x0 64)), (W (128 + (Int.tmod (W (Int.tdiv x0 64)) 64))), ((u8 ((W (128 + (Int.tmod (W (Int.tdiv x0 64)) 64))))).toNat : Int), (W (128 + (Int.tmod x0 64))), ((u8 ((W (128 + (Int.tmod x0 64))))).toNat : Int)] [] [(27, .v (.int .u8 ((u8 ((W (224 + (W (Int.tdiv x0 4096)))))).toNat : Int))), (32, .v (.int .u8 ((u8 ((W (128 + (Int.tmod (W (Int.tdiv x0 64)) 64))))).toNat : Int))), (36, .v (.int .u8 ((u8 ((W (128 + (Int.tmod x0 64))))).toNat : Int)))] _ rfl ⟨⟨g8, rfl⟩, ⟨trivial, rfl⟩, ⟨trivial, u8_wrap _⟩, ⟨g9, rfl⟩, g10, ⟨trivial, rfl⟩, ⟨trivial, u8_wrap _⟩, g11, ⟨trivial, rfl⟩, ⟨trivial, u8_wrap _⟩, (Es rfl), rfl⟩ ?_
      refine JO.ofK rfl (JK.buildSlice ttOk rfl rfl rfl rfl rfl rfl rfl rfl rfl rfl rfl [] rfl .byte [(u8 ((W (224 + (W (Int.tdiv x0 4096)))))), (u8 ((W (128 + (Int.tmod (W (Int.tdiv x0 64)) 64))))), (u8 ((W (128 + (Int.tmod x0 64)))))] ⟨rfl, rfl⟩ rfl rfl fun a12 => JO.toK ?_)
      refine JO.reg ttOk 1 [] [] [(2, .v (.slice a12 ([(u8 ((W (224 + (W (Int.tdiv x0 4096)))))), (u8 ((W (128 + (Int.tmod (W (Int.tdiv x0 64)) 64))))), (u8 ((W (128 + (Int.tmod x0 64)))))] : List UInt8).length ([(u8 ((W (224 + (W (Int.tdiv x0 4096)))))), (u8 ((W (128 + (Int.tmod (W (Int.tdiv x0 64)) 64))))), (u8 ((W (128 + (Int.tmod x0 64)))))] : List UInt8).length))] _ rfl ⟨⟨rfl, trivial⟩, rfl⟩ (JO.done rfl ?_)
      cases h
      exact JS.ret ttOk (a12, ([(u8 ((W (224 + (W (Int.tdiv x0 4096)))))), (u8 ((W (128 + (Int.tmod (W (Int.tdiv x0 64)) 64))))), (u8 ((W (128 + (Int.tmod x0 64)))))] : List UInt8).length) trivial rfl rfl [0] rfl
    have h := condF h ht24
    refine JS.skip (JS.seq (JS.region ?_))
    have g13 : (262144 : Int) ≠ 0 := by decide
    have g14 : (4096 : Int) ≠ 0 := by decide
    have g15 : (64 : Int) ≠ 0 := by decide
    have g16 : (64 : Int) ≠ 0 := by decide
    have g17 : (64 : Int) ≠ 0 := by decide
    have g18 : (64 : Int) ≠ 0 := by decide
    refine JO.reg ttOk 18 [(W (Int.tdiv x0 262144)), (W (240 + (W (Int.tdiv x0 262144)))), ((u8 ((W (240 + (W (Int.tdiv x0 262144)))))).toNat : Int), (W (Int.tdiv x0 4096)), (W (128 + (Int.tmod (W (Int.tdiv x0 4096)) 64))), ((u8 ((W (128 + (Int.tmod (W (Int.tdiv x0 4096)) 64))))).toNat : Int), (W (Int.tdiv x0 64)), (W (128 + (Int.tmod (W (Int.tdiv x0 64)) 64))), ((u8 ((W (128 + (Int.tmod (W (Int.tdiv x0 64)) 64))))).toNat : Int), (W (128 + (Int.tmod x0 64))), ((u8 ((W (128 + (Int.tmod x0 64))))).toNat : Int)] [] [(41, .v (.int .u8 ((u8 ((W (240 + (W (Int.tdiv x0 262144)))))).toNat : Int))), (46, .v (.int .u8 ((u8 ((W (128 + (Int.tmod (W (Int.tdiv x0 4096)) 64))))).toNat : Int))), (51, .v (.int .u8 ((u8 ((W (128 + (Int.tmod (W (Int.tdiv x0 64)) 64))))).toNat : Int))), (55, .v (.int .u8 ((u8 ((W (128 + (Int.tmod x0 64))))).toNat : Int)))] _ rfl ⟨⟨g13, rfl⟩, ⟨trivial, rfl⟩, ⟨trivial, u8_wrap _⟩, ⟨g14, rfl⟩, g15, ⟨trivial, rfl⟩, ⟨trivial, u8_wrap _⟩, ⟨g16, rfl⟩, g17, ⟨trivial, rfl⟩, ⟨trivial, u8_wrap _⟩, g18, ⟨trivial, rfl⟩, ⟨trivial, u8_wrap _⟩, (Es rfl), rfl⟩ ?_
    refine JO.ofK rfl (JK.buildSlice ttOk rfl rfl rfl rfl rfl rfl rfl rfl rfl rfl rfl [] rfl .byte [(u8 ((W (240 + (W (Int.tdiv x0 262144)))))), (u8 ((W (128 + (Int.tmod (W (Int.tdiv x0 4096)) 64))))), (u8 ((W (128 + (Int.tmod (W (Int.tdiv x0 64)) 64))))), (u8 ((W (128 + (Int.tmod x0 64)))))] ⟨rfl, rfl⟩ rfl rfl fun a19 => JO.toK ?_)
    refine JO.reg ttOk 1 [] [] [(2, .v (.slice a19 ([(u8 ((W (240 + (W (Int.tdiv x0 262144)))))), (u8 ((W (128 + (Int.tmod (W (Int.tdiv x0 4096)) 64))))), (u8 ((W (128 + (Int.tmod (W (Int.tdiv x0 64)) 64))))), (u8 ((W (128 + (Int.tmod x0 64)))))] : List UInt8).length ([(u8 ((W (240 + (W (Int.tdiv x0 262144)))))), (u8 ((W (128 + (Int.tmod (W (Int.tdiv x0 4096)) 64))))), (u8 ((W (128 + (Int.tmod (W (Int.tdiv x0 64)) 64))))), (u8 ((W (128 + (Int.tmod x0 64)))))] : List UInt8).length))] _ rfl ⟨⟨rfl, trivial⟩, rfl⟩ (JO.done rfl ?_)
    cases h
    exact JS.ret ttOk (a19, ([(u8 ((W (240 + (W (Int.tdiv x0 262144)))))), (u8 ((W (128 + (Int.tmod (W (Int.tdiv x0 4096)) 64))))), (u8 ((W (128 + (Int.tmod (W (Int.tdiv x0 64)) 64))))), (u8 ((W (128 + (Int.tmod x0 64)))))] : List UInt8).length) trivial rfl rfl [0] rfl

def M_s_TextOf_L1 (x0 : List Int) (j28 : (List UInt8) → Option (List UInt8)) (k21 : (List UInt8 × Int) → Option (List UInt8)) : (List UInt8 × Int) → Option (List UInt8) := fun (x7, x10) =>
  (bif (decide (x10 < (x0.length : Int))) then
  (guardO (0 ≤ x10 ∧ x10 < (x0.length : Int)) <|
  (bindO (M_s_RuneBytes (at' x0 x10)) fun (y13 : List UInt8) =>
  (guardO (x7.length + y13.length ≤ 536870912) <|
  k21 ((x7 ++ y13), (W (x10 + 1))))))
  else
  j28 x7)

def M_s_TextOf (x0 : List Int) : Option (List UInt8) :=
  (joinO (fun (x25 : List UInt8) =>
  some x25) fun j28 =>
  (fixF (M_s_TextOf_L1 x0 j28) FUEL (([] : List UInt8), 0)))

theorem ok_s_TextOf (x0 : List Int) (a2 : Option Addr) (c3 : Nat) (l4 : Nat) (hl5 : x0.length = l4) (r : List UInt8) (h : M_s_TextOf x0 = some r) :
    FC Tryz.prog 50 [.slice a2 l4 c3] [⟨(.int .i64), ⟨a2, l4, c3⟩, x0⟩] (fun _ : Unit => True) (fun _ => .string (bs r)) (fun _ => []) :=
  by
    subst hl5
    refine FC.of (T := TTx) Tryz.call50 Tryz.func50 rfl rfl fun w0 => ?_
    unfold M_s_TextOf at h
    refine JS.rg0 ttOk 1 [] ⟨trivial, rfl⟩ rfl rfl (JS.seq (JS.region ?_))
    refine JO.ofK rfl (JK.buildSlice ttOk rfl rfl rfl rfl rfl rfl rfl rfl rfl rfl rfl [] rfl .byte [] ⟨rfl, rfl⟩ rfl rfl fun a6 => JO.toK ?_)
    refine JO.reg ttOk 1 [] [] [(3, .v (.slice a6 ([] : List UInt8).length ([] : List UInt8).length))] _ rfl ⟨⟨rfl, trivial⟩, rfl⟩ (JO.done rfl (JS.seq (JS.rg0 ttOk 3 [(7, .v (.slice a2 x0.length c3)), (8, .v (.int .i64 (x0.length : Int))), (9, .v (.int .i64 0))] ⟨(Es rfl), rfl⟩ rfl rfl ?_)))
    obtain ⟨j28, hj34, h⟩ := joinO_some h
    refine JS.blockJ (ι := List UInt8 × Option Addr × Nat) ⟨fun z => j28 z.1 = some r, fun z => [(3, .v (.slice z.2.1 z.1.length z.2.2))], fun z => .nil, fun z => [], fun z => [⟨.byte, ⟨z.2.1, z.1.length, z.2.2⟩, z.1⟩], fun z => 0⟩ ?_ ?_
    · refine JS.loop (ι := Nat × List UInt8 × Int × Option Addr × Nat) ⟨fun z => fixF (M_s_TextOf_L1 x0 j28) z.1 (z.2.1, z.2.2.1) = some r, fun z => [(3, .v (.slice z.2.2.2.1 z.2.1.length z.2.2.2.2)), (7, .v (.slice a2 x0.length c3)), (8, .v (.int .i64 (x0.length : Int))), (9, .v (.int .i64 z.2.2.1))], fun z => .nil, fun z => [⟨(.int .i64), ⟨a2, x0.length, c3⟩, x0⟩], fun z => [⟨.byte, ⟨z.2.2.2.1, z.2.1.length, z.2.2.2.2⟩, z.2.1⟩], fun z => z.1⟩ (FUEL, ([] : List UInt8), 0, a6, ([] : List UInt8).length) h (Es rfl) trivial [0] rfl [0] rfl ?_
      rintro ⟨n22, x7, x10, a8, c9⟩ h
      obtain ⟨n22, rfl, h⟩ := fixF_some h
      rw [M_s_TextOf_L1] at h
      refine JS.rg0 ttOk 1 [(10, .v (.bool (decide (x10 < (x0.length : Int)))))] ⟨⟨rfl, trivial⟩, rfl⟩ rfl rfl (JS.seq ?_)
      refine JS.cond rfl (fun ht33 => ?_) (fun ht33 => ?_)
      · have h := condT h ht33
        refine JS.skip (JS.seq (JS.block (JS.seq (JS.region (JO.know 0 rfl fun hs32 => ?_)))))
        obtain ⟨g12, h⟩ := guardO_some h
        refine JO.reg ttOk 1 [] [] [(11, .ep ⟨a2, x0.length, c3⟩ (Int.toNat x10 * 1))] _ rfl ⟨hs32.ix g12, ⟨rfl, trivial⟩, rfl⟩ (JO.load ttOk rfl rfl rfl rfl rfl rfl rfl 0 rfl rfl (Int.toNat x10) 0 (at' x0 x10) ⟨at_some g12, rfl⟩ rfl rfl (JO.reg ttOk 1 [] [] [(5, .v (.int .i64 (at' x0 x10)))] _ rfl ⟨⟨rfl, trivial⟩, rfl⟩ (JO.done rfl (JS.region (JO.reg ttOk 2 [] [] [(13, .v (.slice a8 x7.length c9)), (14, .v (.int .i64 (at' x0 x10)))] _ rfl ⟨(Es rfl), rfl⟩ ?_)))))
        obtain ⟨y13, hy14, h⟩ := bindO_some h
        refine JO.call rfl rfl rfl rfl (ok_s_RuneBytes (at' x0 x10) _ hy14) rfl [] rfl rfl ?_
        rintro ⟨a15, c16⟩ -
        obtain ⟨g17, h⟩ := guardO_some h
        refine JO.appendR' ttOk rfl rfl rfl rfl ⟨rfl, rfl, rfl, rfl, trivial, rfl, rfl, rfl, rfl⟩ rfl rfl rfl [1] rfl 1 rfl g17 rfl fun a18 c19 => JO.reg ttOk 1 [] [] [(3, .v (.slice a18 (x7 ++ y13).length c19))] _ rfl ⟨⟨rfl, trivial⟩, rfl⟩ (JO.done rfl (JS.endB (JS.re ttOk 2 [(W (x10 + 1))] [] [(9, .v (.int .i64 (W (x10 + 1))))] _ ⟨⟨trivial, rfl⟩, ⟨rfl, trivial⟩, rfl⟩ rfl rfl (JS.endL (n22, (x7 ++ y13), (W (x10 + 1)), a18, c19) h (Nat.lt_succ_self _) (Es rfl) trivial [0] rfl [0] rfl))))
      have h := condF h ht33
      refine JS.exit rfl (JS.endJ (x7, a8, c9) h ⟨rfl, trivial⟩ trivial [] rfl [0] rfl)
    rintro ⟨x25, a26, c27⟩ h
    subst hj34
    refine JS.seq (JS.region (JO.reg ttOk 1 [] [] [(18, .v (.slice a26 x25.length c27))] _ rfl ⟨⟨rfl, trivial⟩, rfl⟩ (JO.strOf ttOk rfl rfl rfl rfl rfl rfl rfl rfl 0 rfl rfl (JO.reg ttOk 1 [] [] [(2, .v (.string (bs x25)))] _ rfl ⟨⟨rfl, trivial⟩, rfl⟩ (JO.done rfl ?_)))))
    cases h
    exact JS.ret ttOk () trivial rfl rfl [] rfl

def M_s_l16In_L1 (x0 : List UInt8) (x1 : List UInt8) (x2 : Bool) (j14 : Unit → Option Bool) (k9 : Int → Option Bool) : Int → Option Bool := fun x4 =>
  (bif (decide ((W (x4 + (x1.length : Int))) ≤ (x0.length : Int))) then
  (guardO (0 ≤ x4 ∧ x4 ≤ (W (x4 + (x1.length : Int))) ∧ (W (x4 + (x1.length : Int))) ≤ (x0.length : Int)) <|
  (bif (decide ((sub' x0 x4 (W (x4 + (x1.length : Int)))) = x1)) then
  some true
  else
  (bif x2 then
  some false
  else
  k9 (W (x4 + 1)))))
  else
  j14 ())

def M_s_l16In (x0 : List UInt8) (x1 : List UInt8) (x2 : Bool) : Option Bool :=
  (joinO (fun (_ : Unit) =>
  some false) fun j14 =>
  (fixF (M_s_l16In_L1 x0 x1 x2 j14) FUEL 0))

theorem ok_s_l16In (x0 : List UInt8) (x1 : List UInt8) (x2 : Bool) (r : Bool) (h : M_s_l16In x0 x1 x2 = some r) :
    FC Tryz.prog 238 [.string (bs x0), .string (bs x1), .bool x2] [] (fun _ : Unit => True) (fun _ => .bool r) (fun _ => []) :=
  by
    refine FC.of (T := TTx) Tryz.call238 Tryz.func238 rfl rfl fun w0 => ?_
    unfold M_s_l16In at h
    refine JS.rg0 ttOk 1 [] ⟨trivial, rfl⟩ rfl rfl (JS.seq (JS.rg0 ttOk 1 [(7, .v (.int .i64 0))] ⟨⟨rfl, trivial⟩, rfl⟩ rfl rfl ?_))
    obtain ⟨j14, hj22, h⟩ := joinO_some h
    refine JS.blockJ (ι := Unit) ⟨fun _ => j14 () = some r, fun _ => [], fun _ => .nil, fun _ => [], fun _ => [], fun _ => 0⟩ ?_ ?_
    · refine JS.loop (ι := Nat × Int) ⟨fun z => fixF (M_s_l16In_L1 x0 x1 x2 j14) z.1 z.2 = some r, fun z => [(0, .v (.string (bs x0))), (1, .v (.string (bs x1))), (2, .v (.bool x2)), (7, .v (.int .i64 z.2))], fun z => .nil, fun z => [], fun z => [], fun z => z.1⟩ (FUEL, 0) h (Es rfl) trivial [] rfl [] rfl ?_
      rintro ⟨n10, x4⟩ h
      obtain ⟨n10, rfl, h⟩ := fixF_some h
      rw [M_s_l16In_L1] at h
      refine JS.seq (JS.rg ttOk 7 [(W (x4 + (x1.length : Int)))] [] [(14, .v (.bool (decide ((W (x4 + (x1.length : Int))) ≤ (x0.length : Int)))))] _ ⟨⟨trivial, rfl⟩, ⟨rfl, trivial⟩, rfl⟩ rfl rfl ?_)
      refine JS.cond rfl (fun ht21 => ?_) (fun ht21 => ?_)
      · have h := condT h ht21
        refine JS.skip (JS.seq (JS.block (JS.seq (JS.seq (JS.region ?_)))))
        obtain ⟨g5, h⟩ := guardO_some h
        refine JO.reg ttOk 9 [(W (x4 + (x1.length : Int)))] [] [(25, .v (.bool (decide ((sub' x0 x4 (W (x4 + (x1.length : Int)))) = x1))))] _ rfl ⟨⟨trivial, rfl⟩, g5, ⟨rfl, trivial⟩, rfl⟩ (JO.done rfl ?_)
        refine JS.cond rfl (fun ht20 => ?_) (fun ht20 => ?_)
        · have h := condT h ht20
          refine JS.rg0 ttOk 1 [(6, .v (.bool true))] ⟨⟨rfl, trivial⟩, rfl⟩ rfl rfl ?_
          cases h
          exact JS.ret ttOk () trivial rfl rfl [] rfl
        have h := condF h ht20
        refine JS.skip (JS.rg0 ttOk 1 [(26, .v (.bool x2))] ⟨⟨rfl, trivial⟩, rfl⟩ rfl rfl ?_)
        refine JS.cond rfl (fun ht19 => ?_) (fun ht19 => ?_)
        · have h := condT h ht19
          refine JS.rg0 ttOk 1 [(6, .v (.bool false))] ⟨⟨rfl, trivial⟩, rfl⟩ rfl rfl ?_
          cases h
          exact JS.ret ttOk () trivial rfl rfl [] rfl
        have h := condF h ht19
        refine JS.skip (JS.endB (JS.re ttOk 3 [(W (x4 + 1))] [] [(7, .v (.int .i64 (W (x4 + 1))))] _ ⟨⟨trivial, rfl⟩, ⟨rfl, trivial⟩, rfl⟩ rfl rfl (JS.endL (n10, (W (x4 + 1))) h (Nat.lt_succ_self _) (Es rfl) trivial [] rfl [] rfl)))
      have h := condF h ht21
      refine JS.exit rfl (JS.endJ () h trivial trivial [] rfl [] rfl)
    rintro _ h
    subst hj22
    refine JS.rg0 ttOk 1 [(6, .v (.bool false))] ⟨⟨rfl, trivial⟩, rfl⟩ rfl rfl ?_
    cases h
    exact JS.ret ttOk () trivial rfl rfl [] rfl

def M_s_HistFind_L1 (x0 : Int × List (List UInt8)) (x1 : List UInt8) (x2 : Int) (x3 : Int) (x4 : Bool) (j47 : Int → Option Int) (k39 : (Int × Int) → Option Int) : (Int × Int) → Option Int := fun (x12, x13) =>
  (bif (decide (x13 < (x0.2.length : Int))) then
  (joinO (fun (x24 : Int) =>
  k39 (x24, (W (x13 + 1)))) fun j25 =>
  (guardO (0 ≤ x13 ∧ x13 < (x0.2.length : Int)) <|
  (bindO (M_s_l16In (at' x0.2 x13) x1 x4) fun (y20 : Bool) =>
  (bif (bif (bif (!y20) then true else (bif (decide (x3 = 1)) then (decide ((W (x0.1 + x13)) < x2)) else false)) then true else (bif (decide (x3 = (-1))) then (decide (x2 < (W (x0.1 + x13)))) else false)) then
  j25 x12
  else
  (bif (bif (decide (x12 = 0)) then true else (decide (x3 = (-1)))) then
  j25 (W (x0.1 + x13))
  else
  j25 x12)))))
  else
  j47 x12)

def M_s_HistFind (x0 : Int × List (List UInt8)) (x1 : List UInt8) (x2 : Int) (x3 : Int) (x4 : Bool) : Option Int :=
  (bindO (M_s_HistOk x0) fun (y10 : Bool) =>
  (bif (bif (!y10) then true else (bif (!(decide (x3 = 1))) then (!(decide (x3 = (-1)))) else false)) then
  some 0
  else
  (joinO (fun (x46 : Int) =>
  some x46) fun j47 =>
  (fixF (M_s_HistFind_L1 x0 x1 x2 x3 x4 j47) FUEL (0, 0)))))

theorem ok_s_HistFind (x0 : Int × List (List UInt8)) (x1 : List UInt8) (x2 : Int) (x3 : Int) (x4 : Bool) (a6 : Option Addr) (c7 : Nat) (l8 : Nat) (hl9 : x0.2.length = l8) (r : Int) (h : M_s_HistFind x0 x1 x2 x3 x4 = some r) :
    FC Tryz.prog 154 [.agg #[.int .i64 x0.1, .slice a6 l8 c7], .string (bs x1), .int .i64 x2, .int .i64 x3, .bool x4] [⟨.str, ⟨a6, l8, c7⟩, x0.2⟩] (fun _ : Unit => True) (fun _ => .int .i64 r) (fun _ => []) :=
  by
    subst hl9
    refine FC.of (T := TTx) Tryz.call154 Tryz.func154 rfl rfl fun w0 => ?_
    unfold M_s_HistFind at h
    refine JS.rgB ttOk 2 [] [2] [(5, .bp 2 0)] (.new 2 50 [.int .i64 x0.1, .slice a6 x0.2.length c7] .nil) ⟨⟨rfl, trivial⟩, (Bs rfl rfl)⟩ rfl rfl (JS.seq (JS.seq (JS.region (JO.reg ttOk 1 [] [] [(15, .v (.agg #[.int .i64 x0.1, .slice a6 x0.2.length c7]))] _ rfl ⟨⟨rfl, trivial⟩, rfl⟩ ?_))))
    obtain ⟨y10, hy11, h⟩ := bindO_some h
    refine JO.call rfl rfl rfl rfl (ok_s_HistOk x0 a6 c7 x0.2.length rfl _ hy11) rfl [0] rfl rfl fun _ _ => JO.reg ttOk 9 [] [] [(25, .v (.bool (bif (!y10) then true else (bif (!(decide (x3 = 1))) then (!(decide (x3 = (-1)))) else false))))] _ rfl ⟨⟨rfl, trivial⟩, rfl⟩ (JO.done rfl ?_)
    refine JS.cond rfl (fun ht61 => ?_) (fun ht61 => ?_)
    · have h := condT h ht61
      refine JS.rg0 ttOk 1 [(10, .v (.int .i64 0))] ⟨⟨rfl, trivial⟩, rfl⟩ rfl rfl ?_
      cases h
      exact JS.ret ttOk () trivial rfl rfl [] rfl
    have h := condF h ht61
    refine JS.skip (JS.rg0 ttOk 1 [(11, .v (.int .i64 0))] ⟨⟨rfl, trivial⟩, rfl⟩ rfl rfl (JS.seq (JS.rg0 ttOk 4 [(27, .v (.slice a6 x0.2.length c7)), (28, .v (.int .i64 (x0.2.length : Int))), (29, .v (.int .i64 0))] ⟨(Es rfl), rfl⟩ rfl rfl ?_)))
    obtain ⟨j47, hj60, h⟩ := joinO_some h
    refine JS.blockJ (ι := Int) ⟨fun z => j47 z = some r, fun z => [(11, .v (.int .i64 z))], fun z => .nil, fun z => [], fun z => [], fun z => 0⟩ ?_ ?_
    · refine JS.loop (ι := Nat × Int × Int) ⟨fun z => fixF (M_s_HistFind_L1 x0 x1 x2 x3 x4 j47) z.1 (z.2.1, z.2.2) = some r, fun z => [(1, .v (.string (bs x1))), (2, .v (.int .i64 x2)), (3, .v (.int .i64 x3)), (4, .v (.bool x4)), (5, .bp 2 0), (11, .v (.int .i64 z.2.1)), (27, .v (.slice a6 x0.2.length c7)), (28, .v (.int .i64 (x0.2.length : Int))), (29, .v (.int .i64 z.2.2))], fun z => (.new 2 50 [.int .i64 x0.1, .slice a6 x0.2.length c7] .nil), fun z => [⟨.str, ⟨a6, x0.2.length, c7⟩, x0.2⟩], fun z => [], fun z => z.1⟩ (FUEL, 0, 0) h (Es rfl) (Bs rfl rfl) [0] rfl [] rfl ?_
      rintro ⟨n40, x12, x13⟩ h
      obtain ⟨n40, rfl, h⟩ := fixF_some h
      rw [M_s_HistFind_L1] at h
      refine JS.rg0 ttOk 1 [(30, .v (.bool (decide (x13 < (x0.2.length : Int)))))] ⟨⟨rfl, trivial⟩, rfl⟩ rfl rfl (JS.seq ?_)
      refine JS.cond rfl (fun ht59 => ?_) (fun ht59 => ?_)
      · have h := condT h ht59
        refine JS.skip (JS.seq ?_)
        obtain ⟨j25, hj58, h⟩ := joinO_some h
        refine JS.blockJ (ι := Int) ⟨fun z => j25 z = some r, fun z => [(1, .v (.string (bs x1))), (2, .v (.int .i64 x2)), (3, .v (.int .i64 x3)), (4, .v (.bool x4)), (5, .bp 2 0), (11, .v (.int .i64 z)), (27, .v (.slice a6 x0.2.length c7)), (28, .v (.int .i64 (x0.2.length : Int))), (29, .v (.int .i64 x13))], fun z => (.new 2 50 [.int .i64 x0.1, .slice a6 x0.2.length c7] .nil), fun z => [⟨.str, ⟨a6, x0.2.length, c7⟩, x0.2⟩], fun z => [], fun z => 0⟩ ?_ ?_
        · refine JS.seq (JS.region (JO.know 0 rfl fun hs55 => ?_))
          obtain ⟨g19, h⟩ := guardO_some h
          refine JO.reg ttOk 2 [] [] [(31, .v (.int .i64 x13)), (32, .ep ⟨a6, x0.2.length, c7⟩ (Int.toNat x13 * 1))] _ rfl ⟨hs55.ix g19, (Es rfl), rfl⟩ (JO.load ttOk rfl rfl rfl rfl rfl rfl rfl 0 rfl rfl (Int.toNat x13) 0 (at' x0.2 x13) ⟨at_some g19, rfl⟩ rfl rfl (JO.reg ttOk 2 [] [] [(12, .v (.int .i64 x13)), (13, .v (.string (bs (at' x0.2 x13))))] _ rfl ⟨(Es rfl), rfl⟩ (JO.done rfl (JS.rg ttOk 5 [(W (x0.1 + x13))] [] [(14, .v (.int .i64 (W (x0.1 + x13))))] _ ⟨⟨trivial, rfl⟩, ⟨rfl, trivial⟩, rfl⟩ rfl rfl (JS.seq (JS.seq (JS.region (JO.reg ttOk 3 [] [] [(38, .v (.string (bs (at' x0.2 x13)))), (39, .v (.string (bs x1))), (40, .v (.bool x4))] _ rfl ⟨(Es rfl), rfl⟩ ?_))))))))
          obtain ⟨y20, hy21, h⟩ := bindO_some h
          refine JO.call rfl rfl rfl rfl (ok_s_l16In (at' x0.2 x13) x1 x4 _ hy21) rfl [] rfl rfl fun _ _ => JO.reg ttOk 19 [] [] [(60, .v (.bool (bif (bif (!y20) then true else (bif (decide (x3 = 1)) then (decide ((W (x0.1 + x13)) < x2)) else false)) then true else (bif (decide (x3 = (-1))) then (decide (x2 < (W (x0.1 + x13)))) else false))))] _ rfl ⟨⟨rfl, trivial⟩, rfl⟩ (JO.done rfl ?_)
          refine JS.cond rfl (fun ht57 => ?_) (fun ht57 => ?_)
          · have h := condT h ht57
            refine JS.exit rfl (JS.endJ x12 h (Es rfl) (Bs rfl rfl) [0] rfl [] rfl)
          have h := condF h ht57
          refine JS.skip (JS.rg0 ttOk 6 [(66, .v (.bool (bif (decide (x12 = 0)) then true else (decide (x3 = (-1))))))] ⟨⟨rfl, trivial⟩, rfl⟩ rfl rfl ?_)
          refine JS.cond rfl (fun ht56 => ?_) (fun ht56 => ?_)
          · have h := condT h ht56
            refine JS.re0 ttOk 2 [(11, .v (.int .i64 (W (x0.1 + x13))))] ⟨⟨rfl, trivial⟩, rfl⟩ rfl rfl (JS.endB (JS.endJ (W (x0.1 + x13)) h (Es rfl) (Bs rfl rfl) [0] rfl [] rfl))
          have h := condF h ht56
          refine JS.skip (JS.endB (JS.endJ x12 h (Es rfl) (Bs rfl rfl) [0] rfl [] rfl))
        rintro x24 h
        subst hj58
        refine JS.re ttOk 2 [(W (x13 + 1))] [] [(29, .v (.int .i64 (W (x13 + 1))))] _ ⟨⟨trivial, rfl⟩, ⟨rfl, trivial⟩, rfl⟩ rfl rfl (JS.endL (n40, x24, (W (x13 + 1))) h (Nat.lt_succ_self _) (Es rfl) (Bs rfl rfl) [0] rfl [] rfl)
      have h := condF h ht59
      refine JS.exit rfl (JS.endJ x12 h ⟨rfl, trivial⟩ trivial [] rfl [] rfl)
    rintro x46 h
    subst hj60
    refine JS.rg0 ttOk 2 [(10, .v (.int .i64 x46))] ⟨⟨rfl, trivial⟩, rfl⟩ rfl rfl ?_
    cases h
    exact JS.ret ttOk () trivial rfl rfl [] rfl

def M_s_HistGet (x0 : Int × List (List UInt8)) (x1 : Int) : Option (List UInt8 × Bool) :=
  (bindO (M_s_HistOk x0) fun (y7 : Bool) =>
  (bif (bif (bif (!y7) then true else (decide (x1 < x0.1))) then true else (decide ((x0.2.length : Int) ≤ (W (x1 - x0.1))))) then
  some ([], false)
  else
  (guardO (0 ≤ (W (x1 - x0.1)) ∧ (W (x1 - x0.1)) < (x0.2.length : Int)) <|
  some ((at' x0.2 (W (x1 - x0.1))), true))))

theorem ok_s_HistGet (x0 : Int × List (List UInt8)) (x1 : Int) (a3 : Option Addr) (c4 : Nat) (l5 : Nat) (hl6 : x0.2.length = l5) (r : List UInt8 × Bool) (h : M_s_HistGet x0 x1 = some r) :
    FC Tryz.prog 47 [.agg #[.int .i64 x0.1, .slice a3 l5 c4], .int .i64 x1] [⟨.str, ⟨a3, l5, c4⟩, x0.2⟩] (fun _ : Unit => True) (fun _ => .tuple #[.string (bs r.1), .bool r.2]) (fun _ => []) :=
  by
    subst hl6
    refine FC.of (T := TTx) Tryz.call47 Tryz.func47 rfl rfl fun w0 => ?_
    unfold M_s_HistGet at h
    refine JS.rgB ttOk 3 [] [2] [(2, .bp 2 0)] (.new 2 50 [.int .i64 x0.1, .slice a3 x0.2.length c4] .nil) ⟨⟨rfl, trivial⟩, (Bs rfl rfl)⟩ rfl rfl (JS.seq (JS.seq (JS.region (JO.reg ttOk 1 [] [] [(6, .v (.agg #[.int .i64 x0.1, .slice a3 x0.2.length c4]))] _ rfl ⟨⟨rfl, trivial⟩, rfl⟩ ?_))))
    obtain ⟨y7, hy8, h⟩ := bindO_some h
    refine JO.call rfl rfl rfl rfl (ok_s_HistOk x0 a3 c4 x0.2.length rfl _ hy8) rfl [0] rfl rfl fun _ _ => JO.reg ttOk 17 [(W (x1 - x0.1))] [] [(24, .v (.bool (bif (bif (!y7) then true else (decide (x1 < x0.1))) then true else (decide ((x0.2.length : Int) ≤ (W (x1 - x0.1)))))))] _ rfl ⟨(fun q13 => ⟨trivial, rfl⟩), ⟨rfl, trivial⟩, rfl⟩ (JO.done rfl ?_)
    refine JS.cond rfl (fun ht15 => ?_) (fun ht15 => ?_)
    · have h := condT h ht15
      refine JS.rg0 ttOk 2 [(4, .v (.string (bs []))), (5, .v (.bool false))] ⟨(Es rfl), rfl⟩ rfl rfl ?_
      cases h
      exact JS.ret ttOk () trivial rfl rfl [] rfl
    have h := condF h ht15
    refine JS.skip (JS.seq (JS.region (JO.know 0 rfl fun hs14 => ?_)))
    obtain ⟨g11, h⟩ := guardO_some h
    refine JO.reg ttOk 7 [(W (x1 - x0.1))] [] [(31, .ep ⟨a3, x0.2.length, c4⟩ (Int.toNat (W (x1 - x0.1)) * 1))] _ rfl ⟨⟨trivial, rfl⟩, hs14.ix g11, ⟨rfl, trivial⟩, rfl⟩ (JO.load ttOk rfl rfl rfl rfl rfl rfl rfl 0 rfl rfl (Int.toNat (W (x1 - x0.1))) 0 (at' x0.2 (W (x1 - x0.1))) ⟨at_some g11, rfl⟩ rfl rfl (JO.reg ttOk 2 [] [] [(4, .v (.string (bs (at' x0.2 (W (x1 - x0.1)))))), (5, .v (.bool true))] _ rfl ⟨(Es rfl), rfl⟩ (JO.done rfl ?_)))
    cases h
    exact JS.ret ttOk () trivial rfl rfl [] rfl

def M_s_RuneRead_L1 (x0 : List UInt8) (x1 : Int) (x7 : Int) (j29 : Int → Option (Int × Int)) (k24 : (Int × Int) → Option (Int × Int)) : (Int × Int) → Option (Int × Int) := fun (x19, x20) =>
  (bif (decide (x20 < x7)) then
  (guardO (0 ≤ (W (x1 + x20)) ∧ (W (x1 + x20)) < (x0.length : Int)) <|
  k24 ((W ((W ((W (x19 * 64)) + ((at' x0 (W (x1 + x20))).toNat : Int))) - 128)), (W (x20 + 1))))
  else
  j29 x19)

def M_s_RuneRead_L2 (x0 : List UInt8) (x1 : Int) (j101 : Unit → Option (Int × Int)) (k77 : Int → Option (Int × Int)) : Int → Option (Int × Int) := fun x7 =>
  (bif (bif (decide (x7 ≤ 4)) then (decide (x7 ≤ (W ((x0.length : Int) - x1)))) else false) then
  (joinO (fun (_ : Unit) =>
  k77 (W (x7 + 1))) fun j55 =>
  (guardO (0 ≤ x1 ∧ x1 < (x0.length : Int)) <|
  (joinO (fun (x15 : Int) =>
  (joinO (fun (x28 : Int) =>
  (bindO (M_s_RuneBytes x28) fun (y32 : List UInt8) =>
  (guardO (((decide ((y32.length : Int) = x7)) = true) → 0 ≤ x1 ∧ x1 ≤ (W (x1 + x7)) ∧ (W (x1 + x7)) ≤ (x0.length : Int)) <|
  (bif (bif (decide ((y32.length : Int) = x7)) then (decide (y32 = (sub' x0 x1 (W (x1 + x7))))) else false) then
  some (x28, x7)
  else
  j55 ())))) fun j29 =>
  (fixF (M_s_RuneRead_L1 x0 x1 x7 j29) FUEL (x15, 1)))) fun j16 =>
  (bif (decide (1 < x7)) then
  (guardO (0 ≤ x7 ∧ x7 < (([0, 0, 192, 224, 240] : List Int).length : Int)) <|
  j16 (W (((at' x0 x1).toNat : Int) - (at' ([0, 0, 192, 224, 240] : List Int) x7))))
  else
  j16 ((at' x0 x1).toNat : Int)))))
  else
  j101 ())

def M_s_RuneRead (x0 : List UInt8) (x1 : Int) : Option (Int × Int) :=
  (bif (bif (decide (x1 < 0)) then true else (decide ((x0.length : Int) ≤ x1))) then
  some (0, 0)
  else
  (joinO (fun (_ : Unit) =>
  some (0, 0)) fun j101 =>
  (fixF (M_s_RuneRead_L2 x0 x1 j101) FUEL 1)))

theorem ok_s_RuneRead (x0 : List UInt8) (x1 : Int) (a3 : Option Addr) (c4 : Nat) (l5 : Nat) (hl6 : x0.length = l5) (r : Int × Int) (h : M_s_RuneRead x0 x1 = some r) :
    FC Tryz.prog 231 [.slice a3 l5 c4, .int .i64 x1] [⟨.byte, ⟨a3, l5, c4⟩, x0⟩] (fun _ : Unit => True) (fun _ => .tuple #[.int .i64 r.1, .int .i64 r.2]) (fun _ => []) :=
  by
    subst hl6
    refine FC.of (T := TTx) Tryz.call231 Tryz.func231 rfl rfl fun w0 => ?_
    unfold M_s_RuneRead at h
    refine JS.rg0 ttOk 2 [] ⟨trivial, rfl⟩ rfl rfl (JS.seq (JS.rg0 ttOk 8 [(17, .v (.bool (bif (decide (x1 < 0)) then true else (decide ((x0.length : Int) ≤ x1)))))] ⟨⟨rfl, trivial⟩, rfl⟩ rfl rfl ?_))
    refine JS.cond rfl (fun ht149 => ?_) (fun ht149 => ?_)
    · have h := condT h ht149
      refine JS.rg0 ttOk 2 [(4, .v (.int .i64 0)), (5, .v (.int .i64 0))] ⟨(Es rfl), rfl⟩ rfl rfl ?_
      cases h
      exact JS.ret ttOk () trivial rfl rfl [] rfl
    have h := condF h ht149
    refine JS.skip (JS.seq (JS.rg0 ttOk 1 [(6, .v (.int .i64 1))] ⟨⟨rfl, trivial⟩, rfl⟩ rfl rfl ?_))
    obtain ⟨j101, hj148, h⟩ := joinO_some h
    refine JS.blockJ (ι := Unit) ⟨fun _ => j101 () = some r, fun _ => [], fun _ => .nil, fun _ => [], fun _ => [], fun _ => 0⟩ ?_ ?_
    · refine JS.loop (ι := Nat × Int) ⟨fun z => fixF (M_s_RuneRead_L2 x0 x1 j101) z.1 z.2 = some r, fun z => [(0, .v (.slice a3 x0.length c4)), (1, .v (.int .i64 x1)), (6, .v (.int .i64 z.2))], fun z => .nil, fun z => [⟨.byte, ⟨a3, x0.length, c4⟩, x0⟩], fun z => [], fun z => z.1⟩ (FUEL, 1) h (Es rfl) trivial [0] rfl [] rfl ?_
      rintro ⟨n78, x7⟩ h
      obtain ⟨n78, rfl, h⟩ := fixF_some h
      rw [M_s_RuneRead_L2] at h
      refine JS.seq (JS.rg ttOk 10 [(W ((x0.length : Int) - x1))] [] [(27, .v (.bool (bif (decide (x7 ≤ 4)) then (decide (x7 ≤ (W ((x0.length : Int) - x1)))) else false)))] _ ⟨(fun q126 => ⟨trivial, rfl⟩), ⟨rfl, trivial⟩, rfl⟩ rfl rfl ?_)
      refine JS.cond rfl (fun ht147 => ?_) (fun ht147 => ?_)
      · have h := condT h ht147
        refine JS.skip (JS.seq ?_)
        obtain ⟨j55, hj146, h⟩ := joinO_some h
        refine JS.blockJ (ι := Unit) ⟨fun _ => j55 () = some r, fun _ => [(0, .v (.slice a3 x0.length c4)), (1, .v (.int .i64 x1)), (6, .v (.int .i64 x7))], fun _ => .nil, fun _ => [⟨.byte, ⟨a3, x0.length, c4⟩, x0⟩], fun _ => [], fun _ => 0⟩ ?_ ?_
        · refine JS.seq (JS.region (JO.know 0 rfl fun hs127 => ?_))
          obtain ⟨g10, h⟩ := guardO_some h
          refine JO.reg ttOk 3 [] [] [(32, .ep ⟨a3, x0.length, c4⟩ (Int.toNat x1 * 1))] _ rfl ⟨hs127.ix g10, ⟨rfl, trivial⟩, rfl⟩ (JO.load ttOk rfl rfl rfl rfl rfl rfl rfl 0 rfl rfl (Int.toNat x1) 0 (at' x0 x1) ⟨at_some g10, rfl⟩ rfl rfl (JO.reg ttOk 2 [((at' x0 x1).toNat : Int)] [] [(7, .v (.int .i64 ((at' x0 x1).toNat : Int)))] _ rfl ⟨⟨trivial, W_byte _⟩, ⟨rfl, trivial⟩, rfl⟩ (JO.done rfl ?_)))
          obtain ⟨j16, hj145, h⟩ := joinO_some h
          refine JS.seqJ (ι := Int) ⟨fun z => j16 z = some r, fun z => [(0, .v (.slice a3 x0.length c4)), (1, .v (.int .i64 x1)), (6, .v (.int .i64 x7)), (7, .v (.int .i64 z))], fun z => .nil, fun z => [⟨.byte, ⟨a3, x0.length, c4⟩, x0⟩], fun z => [], fun z => 0⟩ ?_ ?_
          · refine JS.rg0 ttOk 2 [(36, .v (.bool (decide (1 < x7))))] ⟨⟨rfl, trivial⟩, rfl⟩ rfl rfl ?_
            refine JS.cond rfl (fun ht129 => ?_) (fun ht129 => ?_)
            · have h := condT h ht129
              refine JS.region (JO.reg ttOk 1 [] [] [(37, .v (.int .i64 ((at' x0 x1).toNat : Int)))] _ rfl ⟨⟨rfl, trivial⟩, rfl⟩ ?_)
              refine JO.ofK rfl (JK.buildSlice ttOk rfl rfl rfl rfl rfl rfl rfl rfl rfl rfl rfl [] rfl (.int .i64) [0, 0, 192, 224, 240] ⟨rfl, rfl⟩ rfl rfl fun a11 => JO.toK ?_)
              refine JO.know 1 rfl fun hs128 => ?_
              obtain ⟨g13, h⟩ := guardO_some h
              refine JO.reg ttOk 2 [] [] [(40, .ep ⟨a11, ([0, 0, 192, 224, 240] : List Int).length, ([0, 0, 192, 224, 240] : List Int).length⟩ (Int.toNat x7 * 1))] _ rfl ⟨hs128.ix g13, ⟨rfl, trivial⟩, rfl⟩ (JO.load ttOk rfl rfl rfl rfl rfl rfl rfl 1 rfl rfl (Int.toNat x7) 0 (at' ([0, 0, 192, 224, 240] : List Int) x7) ⟨at_some g13, rfl⟩ rfl rfl (JO.reg ttOk 2 [(W (((at' x0 x1).toNat : Int) - (at' ([0, 0, 192, 224, 240] : List Int) x7)))] [] [(7, .v (.int .i64 (W (((at' x0 x1).toNat : Int) - (at' ([0, 0, 192, 224, 240] : List Int) x7)))))] _ rfl ⟨⟨trivial, rfl⟩, ⟨rfl, trivial⟩, rfl⟩ (JO.done rfl (JS.endJ (W (((at' x0 x1).toNat : Int) - (at' ([0, 0, 192, 224, 240] : List Int) x7))) h (Es rfl) trivial [0] rfl [] rfl))))
            have h := condF h ht129
            refine JS.skip (JS.endJ ((at' x0 x1).toNat : Int) h (Es rfl) trivial [0] rfl [] rfl)
          rintro x15 h
          subst hj145
          refine JS.seq (JS.rg0 ttOk 1 [(8, .v (.int .i64 1))] ⟨⟨rfl, trivial⟩, rfl⟩ rfl rfl ?_)
          obtain ⟨j29, hj144, h⟩ := joinO_some h
          refine JS.blockJ (ι := Int) ⟨fun z => j29 z = some r, fun z => [(0, .v (.slice a3 x0.length c4)), (1, .v (.int .i64 x1)), (6, .v (.int .i64 x7)), (7, .v (.int .i64 z))], fun z => .nil, fun z => [⟨.byte, ⟨a3, x0.length, c4⟩, x0⟩], fun z => [], fun z => 0⟩ ?_ ?_
          · refine JS.loop (ι := Nat × Int × Int) ⟨fun z => fixF (M_s_RuneRead_L1 x0 x1 x7 j29) z.1 (z.2.1, z.2.2) = some r, fun z => [(0, .v (.slice a3 x0.length c4)), (1, .v (.int .i64 x1)), (6, .v (.int .i64 x7)), (7, .v (.int .i64 z.2.1)), (8, .v (.int .i64 z.2.2))], fun z => .nil, fun z => [⟨.byte, ⟨a3, x0.length, c4⟩, x0⟩], fun z => [], fun z => z.1⟩ (FUEL, x15, 1) h (Es rfl) trivial [0] rfl [] rfl ?_
            rintro ⟨n25, x19, x20⟩ h
            obtain ⟨n25, rfl, h⟩ := fixF_some h
            rw [M_s_RuneRead_L1] at h
            refine JS.seq (JS.rg0 ttOk 3 [(45, .v (.bool (decide (x20 < x7))))] ⟨⟨rfl, trivial⟩, rfl⟩ rfl rfl ?_)
            refine JS.cond rfl (fun ht131 => ?_) (fun ht131 => ?_)
            · have h := condT h ht131
              refine JS.skip (JS.seq (JS.block (JS.region (JO.know 0 rfl fun hs130 => ?_))))
              obtain ⟨g22, h⟩ := guardO_some h
              refine JO.reg ttOk 7 [(W (x19 * 64)), (W (x1 + x20))] [] [(49, .v (.int .i64 (W (x19 * 64)))), (54, .ep ⟨a3, x0.length, c4⟩ (Int.toNat (W (x1 + x20)) * 1))] _ rfl ⟨⟨trivial, rfl⟩, ⟨trivial, rfl⟩, hs130.ix g22, (Es rfl), rfl⟩ (JO.load ttOk rfl rfl rfl rfl rfl rfl rfl 0 rfl rfl (Int.toNat (W (x1 + x20))) 0 (at' x0 (W (x1 + x20))) ⟨at_some g22, rfl⟩ rfl rfl (JO.reg ttOk 4 [((at' x0 (W (x1 + x20))).toNat : Int), (W ((W (x19 * 64)) + ((at' x0 (W (x1 + x20))).toNat : Int))), (W ((W ((W (x19 * 64)) + ((at' x0 (W (x1 + x20))).toNat : Int))) - 128))] [] [(7, .v (.int .i64 (W ((W ((W (x19 * 64)) + ((at' x0 (W (x1 + x20))).toNat : Int))) - 128))))] _ rfl ⟨⟨trivial, W_byte _⟩, ⟨trivial, rfl⟩, ⟨trivial, rfl⟩, ⟨rfl, trivial⟩, rfl⟩ (JO.done rfl (JS.endB (JS.re ttOk 3 [(W (x20 + 1))] [] [(8, .v (.int .i64 (W (x20 + 1))))] _ ⟨⟨trivial, rfl⟩, ⟨rfl, trivial⟩, rfl⟩ rfl rfl (JS.endL (n25, (W ((W ((W (x19 * 64)) + ((at' x0 (W (x1 + x20))).toNat : Int))) - 128)), (W (x20 + 1))) h (Nat.lt_succ_self _) (Es rfl) trivial [0] rfl [] rfl))))))
            have h := condF h ht131
            refine JS.exit rfl (JS.endJ x19 h (Es rfl) trivial [0] rfl [] rfl)
          rintro x28 h
          subst hj144
          refine JS.seq (JS.region (JO.reg ttOk 1 [] [] [(59, .v (.int .i64 x28))] _ rfl ⟨⟨rfl, trivial⟩, rfl⟩ ?_))
          obtain ⟨y32, hy33, h⟩ := bindO_some h
          refine JO.call rfl rfl rfl rfl (ok_s_RuneBytes x28 _ hy33) rfl [] rfl rfl ?_
          rintro ⟨a34, c35⟩ -
          refine JO.reg ttOk 1 [] [] [(9, .v (.slice a34 y32.length c35))] _ rfl ⟨⟨rfl, trivial⟩, rfl⟩ (JO.done rfl (JS.seq ?_))
          obtain ⟨g37, h⟩ := guardO_some h
          refine JS.subR 0 rfl x1 (W (x1 + x7)) fun a38 c39 hu40 => JS.know 1 rfl fun hs139 => ?_
          refine JS.regionA rfl .nil [2, 0] [14, 15] trivial rfl (fun be49 => ?_)
          refine JA.reg ttOk panic_cx true 5 [0, 1, 2, 3, 4, 5, 7, 8, 9, 10, 11] rfl (by kernel_rfl) [(W (x1 + x7))] [(65, .v (.bool (decide ((y32.length : Int) = x7)))), (66, .cd [(65, true)] (.v (.slice a34 y32.length c35))), (68, .cd [(65, true)] (.v (.slice a3 x0.length c4))), (69, .cd [(65, true)] (.v (.int .i64 x1))), (72, .cd [(65, true)] (.v (.int .i64 (W (x1 + x7)))))] trivial [2, 0] rfl rfl ⟨(fun q141 => ⟨trivial, rfl⟩), (Es rfl)⟩ (JA.strOf ttOk panic_cx 6 rfl (by kernel_rfl) rfl rfl rfl rfl rfl rfl rfl 0 rfl rfl trivial [2, 0] rfl (JA.sliceP ttOk panic_cx 12 rfl (by kernel_rfl) rfl rfl rfl rfl rfl rfl x1 (W (x1 + x7)) rfl rfl (fun q142 => ⟨(g37 q142).1, (g37 q142).2.1, (g37 q142).2.2, hs139.cap, hu40 (g37 q142)⟩) rfl (JA.strOf ttOk panic_cx 13 rfl (by kernel_rfl) rfl rfl rfl rfl rfl rfl rfl 1 rfl rfl trivial [2, 0] rfl (JA.regL ttOk panic_cx 0 [14, 15] rfl (by kernel_rfl) [] [(76, .v (.bool (bif (decide ((y32.length : Int) = x7)) then (decide (y32 = (sub' x0 x1 (W (x1 + x7))))) else false)))] rfl ⟨rfl, trivial⟩ (JA.done (by kernel_rfl) (JS.boxes (B' := .nil) trivial ?_))))))
          refine JS.cond rfl (fun ht143 => ?_) (fun ht143 => ?_)
          · have h := condT h ht143
            refine JS.rg0 ttOk 4 [(4, .v (.int .i64 x28)), (5, .v (.int .i64 x7))] ⟨(Es rfl), rfl⟩ rfl rfl ?_
            cases h
            exact JS.ret ttOk () trivial rfl rfl [] rfl
          have h := condF h ht143
          refine JS.skip (JS.endB (JS.endJ () h (Es rfl) trivial [1] rfl [] rfl))
        rintro _ h
        subst hj146
        refine JS.re ttOk 3 [(W (x7 + 1))] [] [(6, .v (.int .i64 (W (x7 + 1))))] _ ⟨⟨trivial, rfl⟩, ⟨rfl, trivial⟩, rfl⟩ rfl rfl (JS.endL (n78, (W (x7 + 1))) h (Nat.lt_succ_self _) (Es rfl) trivial [0] rfl [] rfl)
      have h := condF h ht147
      refine JS.exit rfl (JS.endJ () h trivial trivial [] rfl [] rfl)
    rintro _ h
    subst hj148
    refine JS.rg0 ttOk 2 [(4, .v (.int .i64 0)), (5, .v (.int .i64 0))] ⟨(Es rfl), rfl⟩ rfl rfl ?_
    cases h
    exact JS.ret ttOk () trivial rfl rfl [] rfl

def M_s_RunesOf_L1 (x0 : List UInt8) (j30 : (List Int) → Option (List Int × Bool)) (k23 : (List Int × Int) → Option (List Int × Bool)) : (List Int × Int) → Option (List Int × Bool) := fun (x8, x11) =>
  (bif (decide (x11 < (x0.length : Int))) then
  (bindO (M_s_RuneRead x0 x11) fun (y12, y13) =>
  (bif (decide (y13 = 0)) then
  some ([], false)
  else
  (guardO (x8.length + ([y12] : List Int).length ≤ 536870912) <|
  k23 ((x8 ++ ([y12] : List Int)), (W (x11 + y13))))))
  else
  j30 x8)

def M_s_RunesOf (x0 : List UInt8) : Option (List Int × Bool) :=
  (bif (decide (65536 < (x0.length : Int))) then
  some ([], false)
  else
  (joinO (fun (x27 : List Int) =>
  some (x27, true)) fun j30 =>
  (fixF (M_s_RunesOf_L1 x0 j30) FUEL (([] : List Int), 0))))

theorem ok_s_RunesOf (x0 : List UInt8) (r : List Int × Bool) (h : M_s_RunesOf x0 = some r) :
    FC Tryz.prog 134 [.string (bs x0)] [] (fun _ : Option Addr × Nat => True) (fun q => .tuple #[.slice q.1 r.1.length q.2, .bool r.2]) (fun q => [⟨(.int .i64), ⟨q.1, r.1.length, q.2⟩, r.1⟩]) :=
  by
    refine FC.of (T := TTx) Tryz.call134 Tryz.func134 rfl rfl fun w0 => ?_
    unfold M_s_RunesOf at h
    refine JS.rg0 ttOk 2 [] ⟨trivial, rfl⟩ rfl rfl (JS.seq (JS.rg0 ttOk 3 [(11, .v (.bool (decide (65536 < (x0.length : Int)))))] ⟨⟨rfl, trivial⟩, rfl⟩ rfl rfl ?_))
    refine JS.cond rfl (fun ht38 => ?_) (fun ht38 => ?_)
    · have h := condT h ht38
      refine JS.rg0 ttOk 2 [(2, .v (.slice none 0 0)), (3, .v (.bool false))] ⟨(Es rfl), rfl⟩ rfl rfl ?_
      cases h
      refine JS.nilO (.int .i64) Sl.nil rfl rfl (JS.ret ttOk (none, 0) trivial rfl rfl [0] rfl)
    have h := condF h ht38
    refine JS.skip (JS.seq (JS.region (JO.reg ttOk 1 [] [] [(12, .v (.string (bs x0)))] _ rfl ⟨⟨rfl, trivial⟩, rfl⟩ (JO.bytesOf ttOk rfl rfl rfl rfl rfl rfl rfl rfl rfl fun a2 c3 => JO.reg ttOk 1 [] [] [(4, .v (.slice a2 x0.length c3))] _ rfl ⟨⟨rfl, trivial⟩, rfl⟩ (JO.done rfl (JS.seq (JS.region ?_)))))))
    refine JO.ofK rfl (JK.buildSlice ttOk rfl rfl rfl rfl rfl rfl rfl rfl rfl rfl rfl [] rfl (.int .i64) [] ⟨rfl, rfl⟩ rfl rfl fun a4 => JO.toK ?_)
    refine JO.reg ttOk 1 [] [] [(5, .v (.slice a4 ([] : List Int).length ([] : List Int).length))] _ rfl ⟨⟨rfl, trivial⟩, rfl⟩ (JO.done rfl (JS.rg0 ttOk 1 [(6, .v (.int .i64 0))] ⟨⟨rfl, trivial⟩, rfl⟩ rfl rfl (JS.seq ?_)))
    obtain ⟨j30, hj37, h⟩ := joinO_some h
    refine JS.blockJ (ι := List Int × Option Addr × Nat) ⟨fun z => j30 z.1 = some r, fun z => [(5, .v (.slice z.2.1 z.1.length z.2.2))], fun z => .nil, fun z => [], fun z => [⟨(.int .i64), ⟨z.2.1, z.1.length, z.2.2⟩, z.1⟩], fun z => 0⟩ ?_ ?_
    · refine JS.loop (ι := Nat × List Int × Int × Option Addr × Nat) ⟨fun z => fixF (M_s_RunesOf_L1 x0 j30) z.1 (z.2.1, z.2.2.1) = some r, fun z => [(4, .v (.slice a2 x0.length c3)), (5, .v (.slice z.2.2.2.1 z.2.1.length z.2.2.2.2)), (6, .v (.int .i64 z.2.2.1))], fun z => .nil, fun z => [], fun z => [⟨(.int .i64), ⟨z.2.2.2.1, z.2.1.length, z.2.2.2.2⟩, z.2.1⟩, ⟨.byte, ⟨a2, x0.length, c3⟩, x0⟩], fun z => z.1⟩ (FUEL, ([] : List Int), 0, a4, ([] : List Int).length) h (Es rfl) trivial [] rfl [0, 0] rfl ?_
      rintro ⟨n24, x8, x11, a9, c10⟩ h
      obtain ⟨n24, rfl, h⟩ := fixF_some h
      rw [M_s_RunesOf_L1] at h
      refine JS.seq (JS.rg0 ttOk 4 [(18, .v (.bool (decide (x11 < (x0.length : Int)))))] ⟨⟨rfl, trivial⟩, rfl⟩ rfl rfl ?_)
      refine JS.cond rfl (fun ht36 => ?_) (fun ht36 => ?_)
      · have h := condT h ht36
        refine JS.skip (JS.block (JS.seq (JS.region (JO.reg ttOk 2 [] [] [(20, .v (.slice a2 x0.length c3)), (21, .v (.int .i64 x11))] _ rfl ⟨(Es rfl), rfl⟩ ?_))))
        obtain ⟨⟨y12, y13⟩, hy14, h⟩ := bindO_some h
        refine JO.call rfl rfl rfl rfl (ok_s_RuneRead x0 x11 a2 c3 x0.length rfl _ hy14) rfl [1] rfl rfl fun _ _ => JO.reg ttOk 5 [] [] [(7, .v (.int .i64 y12)), (8, .v (.int .i64 y13))] _ rfl ⟨(Es rfl), rfl⟩ (JO.done rfl (JS.seq (JS.rg0 ttOk 2 [(26, .v (.bool (decide (y13 = 0))))] ⟨⟨rfl, trivial⟩, rfl⟩ rfl rfl ?_)))
        refine JS.cond rfl (fun ht35 => ?_) (fun ht35 => ?_)
        · have h := condT h ht35
          refine JS.rg0 ttOk 2 [(2, .v (.slice none 0 0)), (3, .v (.bool false))] ⟨(Es rfl), rfl⟩ rfl rfl ?_
          cases h
          refine JS.nilO (.int .i64) Sl.nil rfl rfl (JS.ret ttOk (none, 0) trivial rfl rfl [0] rfl)
        have h := condF h ht35
        refine JS.skip (JS.seq (JS.region (JO.reg ttOk 2 [] [] [(27, .v (.slice a9 x8.length c10)), (28, .v (.int .i64 y12))] _ rfl ⟨(Es rfl), rfl⟩ ?_)))
        refine JO.ofK rfl (JK.buildSlice ttOk rfl rfl rfl rfl rfl rfl rfl rfl rfl rfl rfl [] rfl (.int .i64) [y12] ⟨rfl, rfl⟩ rfl rfl fun a15 => JO.toK ?_)
        obtain ⟨g16, h⟩ := guardO_some h
        refine JO.appendR' ttOk rfl rfl rfl rfl ⟨rfl, rfl, rfl, rfl, trivial, rfl, rfl, rfl, rfl⟩ rfl rfl rfl [1] rfl 0 rfl g16 rfl fun a17 c18 => JO.reg ttOk 1 [] [] [(5, .v (.slice a17 (x8 ++ ([y12] : List Int)).length c18))] _ rfl ⟨⟨rfl, trivial⟩, rfl⟩ (JO.done rfl (JS.re ttOk 4 [(W (x11 + y13))] [] [(6, .v (.int .i64 (W (x11 + y13))))] _ ⟨⟨trivial, rfl⟩, ⟨rfl, trivial⟩, rfl⟩ rfl rfl (JS.endB (JS.endL (n24, (x8 ++ ([y12] : List Int)), (W (x11 + y13)), a17, c18) h (Nat.lt_succ_self _) (Es rfl) trivial [] rfl [0, 1] rfl))))
      have h := condF h ht36
      refine JS.exit rfl (JS.endJ (x8, a9, c10) h ⟨rfl, trivial⟩ trivial [] rfl [0] rfl)
    rintro ⟨x27, a28, c29⟩ h
    subst hj37
    refine JS.rg0 ttOk 3 [(2, .v (.slice a28 x27.length c29)), (3, .v (.bool true))] ⟨(Es rfl), rfl⟩ rfl rfl ?_
    cases h
    exact JS.ret ttOk (a28, c29) trivial rfl rfl [0] rfl

def M_s_l13If (x0 : List Int × Int) (x1 : Bool) : Option ((List Int × Int) × Bool) :=
  (callO ((!x1) = false) (M_s_LineOk x0) false fun (y7 : Bool) =>
  (bif (bif (!x1) then true else (!y7)) then
  some (([], 0), false)
  else
  some (x0, true)))

theorem ok_s_l13If (x0 : List Int × Int) (x1 : Bool) (a3 : Option Addr) (c4 : Nat) (l5 : Nat) (hl6 : x0.1.length = l5) (r : (List Int × Int) × Bool) (h : M_s_l13If x0 x1 = some r) :
    FX Tryz.prog 135 [.agg #[.slice a3 l5 c4, .int .i64 x0.2], .bool x1] [] [⟨(.int .i64), ⟨a3, l5, c4⟩, x0.1⟩] (fun _ : Option Addr × Nat => True) (fun q => .tuple #[.agg #[.slice q.1 r.1.1.length q.2, .int .i64 r.1.2], .bool r.2]) (fun q => [⟨(.int .i64), ⟨q.1, r.1.1.length, q.2⟩, r.1.1⟩]) :=
  by
    subst hl6
    refine FX.of (T := TTx) Tryz.call135 Tryz.func135 rfl rfl fun w0 L0 => ?_
    unfold M_s_l13If at h
    refine JS.rgB ttOk 3 [] [2, 3] [(2, .bp 2 0), (4, .bp 3 0)] (.new 2 38 [.slice a3 x0.1.length c4, .int .i64 x0.2] (.new 3 38 [.slice none 0 0, .int .i64 0] .nil)) ⟨(Es rfl), (Bs rfl rfl)⟩ rfl rfl (JS.seq (JS.seq (JS.region (JO.reg ttOk 4 [] [] [(8, .v (.bool (!x1))), (9, .cd [(8, false)] (.v (.agg #[.slice a3 x0.1.length c4, .int .i64 x0.2])))] _ rfl ⟨(Es rfl), rfl⟩ ?_))))
    obtain ⟨y7, hy8, -, h⟩ := callO_some h
    refine JO.callg rfl rfl rfl rfl (fun q11 => ok_s_LineOk x0 a3 c4 x0.1.length rfl _ (hy8 q11)) rfl [0] rfl rfl (JO.reg ttOk 2 [] [] [(12, .v (.bool (bif (!x1) then true else (!y7))))] _ rfl ⟨⟨rfl, trivial⟩, rfl⟩ (JO.done rfl ?_))
    refine JS.cond rfl (fun ht12 => ?_) (fun ht12 => ?_)
    · have h := condT h ht12
      refine JS.rgB ttOk 3 [] [] [(5, .v (.bool false))] (.new 3 38 [.slice none 0 0, .int .i64 0] .nil) ⟨⟨rfl, trivial⟩, (Bs rfl rfl)⟩ rfl rfl ?_
      cases h
      refine JS.nilO (.int .i64) Sl.nil rfl rfl (JS.retX ttOk (none, 0) trivial rfl rfl [0] rfl)
    have h := condF h ht12
    refine JS.skip (JS.rgB ttOk 3 [] [] [(5, .v (.bool true))] (.new 3 38 [.slice a3 x0.1.length c4, .int .i64 x0.2] .nil) ⟨⟨rfl, trivial⟩, (Bs rfl rfl)⟩ rfl rfl ?_)
    cases h
    exact JS.retX ttOk (a3, c4) trivial rfl rfl [0] rfl

def M_s_LineOf (x0 : List UInt8) : Option ((List Int × Int) × Bool) :=
  (bindO (M_s_RunesOf x0) fun (y2, y3) =>
  (bindO (M_s_l13If (y2, (y2.length : Int)) y3) fun (y7, y8) =>
  some (y7, y8)))

theorem ok_s_LineOf (x0 : List UInt8) (r : (List Int × Int) × Bool) (h : M_s_LineOf x0 = some r) :
    FC Tryz.prog 48 [.string (bs x0)] [] (fun _ : Option Addr × Nat => True) (fun q => .tuple #[.agg #[.slice q.1 r.1.1.length q.2, .int .i64 r.1.2], .bool r.2]) (fun q => [⟨(.int .i64), ⟨q.1, r.1.1.length, q.2⟩, r.1.1⟩]) :=
  by
    refine FC.of (T := TTx) Tryz.call48 Tryz.func48 rfl rfl fun w0 => ?_
    unfold M_s_LineOf at h
    refine JS.rgB ttOk 2 [] [1] [(2, .bp 1 0)] (.new 1 38 [.slice none 0 0, .int .i64 0] .nil) ⟨⟨rfl, trivial⟩, (Bs rfl rfl)⟩ rfl rfl (JS.seq (JS.region (JO.reg ttOk 1 [] [] [(7, .v (.string (bs x0)))] _ rfl ⟨⟨rfl, trivial⟩, rfl⟩ ?_)))
    obtain ⟨⟨y2, y3⟩, hy4, h⟩ := bindO_some h
    refine JO.call rfl rfl rfl rfl (ok_s_RunesOf x0 _ hy4) rfl [] rfl rfl ?_
    rintro ⟨a5, c6⟩ -
    refine JO.reg ttOk 5 [] [] [(4, .v (.slice a5 y2.length c6)), (5, .v (.bool y3))] _ rfl ⟨(Es rfl), rfl⟩ (JO.done rfl (JS.seq (JS.region (JO.reg ttOk 5 [] [] [(14, .v (.agg #[.slice a5 y2.length c6, .int .i64 (y2.length : Int)])), (15, .v (.bool y3))] _ rfl ⟨(Es rfl), rfl⟩ ?_))))
    obtain ⟨⟨y7, y8⟩, hy9, h⟩ := bindO_some h
    refine JO.callX rfl rfl rfl rfl (ok_s_l13If (y2, (y2.length : Int)) y3 a5 c6 y2.length rfl _ hy9) rfl [0] rfl [] rfl rfl ?_
    rintro ⟨a10, c11⟩ -
    refine JO.regB ttOk 4 [] [] [(3, .v (.bool y8))] (.new 1 38 [.slice a10 y7.1.length c11, .int .i64 y7.2] .nil) rfl ⟨⟨rfl, trivial⟩, (Bs rfl rfl)⟩ (JO.done rfl ?_)
    cases h
    exact JS.ret ttOk (a10, c11) trivial rfl rfl [0] rfl

def M_s_l25Runes_L1 (x0 : List UInt8) (x1 : List UInt8) (j17 : Unit → Option Int) (k13 : Int → Option Int) : Int → Option Int := fun x3 =>
  (bif (decide ((W (x3 + (x1.length : Int))) ≤ (x0.length : Int))) then
  (guardO (0 ≤ x3 ∧ x3 ≤ (W (x3 + (x1.length : Int))) ∧ (W (x3 + (x1.length : Int))) ≤ (x0.length : Int)) <|
  (bif (decide ((sub' x0 x3 (W (x3 + (x1.length : Int)))) = x1)) then
  (guardO (0 ≤ (0 : Int) ∧ (0 : Int) ≤ x3 ∧ x3 ≤ (x0.length : Int)) <|
  (bindO (M_s_RunesOf (sub' x0 0 x3)) fun (y6, y7) =>
  some (y6.length : Int)))
  else
  k13 (W (x3 + 1))))
  else
  j17 ())

def M_s_l25Runes (x0 : List UInt8) (x1 : List UInt8) : Option Int :=
  (joinO (fun (_ : Unit) =>
  some (-1)) fun j17 =>
  (fixF (M_s_l25Runes_L1 x0 x1 j17) FUEL 0))

theorem ok_s_l25Runes (x0 : List UInt8) (x1 : List UInt8) (r : Int) (h : M_s_l25Runes x0 x1 = some r) :
    FC Tryz.prog 49 [.string (bs x0), .string (bs x1)] [] (fun _ : Unit => True) (fun _ => .int .i64 r) (fun _ => []) :=
  by
    refine FC.of (T := TTx) Tryz.call49 Tryz.func49 rfl rfl fun w0 => ?_
    unfold M_s_l25Runes at h
    refine JS.rg0 ttOk 1 [] ⟨trivial, rfl⟩ rfl rfl (JS.seq (JS.rg0 ttOk 1 [(5, .v (.int .i64 0))] ⟨⟨rfl, trivial⟩, rfl⟩ rfl rfl ?_))
    obtain ⟨j17, hj23, h⟩ := joinO_some h
    refine JS.blockJ (ι := Unit) ⟨fun _ => j17 () = some r, fun _ => [], fun _ => .nil, fun _ => [], fun _ => [], fun _ => 0⟩ ?_ ?_
    · refine JS.loop (ι := Nat × Int) ⟨fun z => fixF (M_s_l25Runes_L1 x0 x1 j17) z.1 z.2 = some r, fun z => [(0, .v (.string (bs x0))), (1, .v (.string (bs x1))), (5, .v (.int .i64 z.2))], fun z => .nil, fun z => [], fun z => [], fun z => z.1⟩ (FUEL, 0) h (Es rfl) trivial [] rfl [] rfl ?_
      rintro ⟨n14, x3⟩ h
      obtain ⟨n14, rfl, h⟩ := fixF_some h
      rw [M_s_l25Runes_L1] at h
      refine JS.seq (JS.rg ttOk 7 [(W (x3 + (x1.length : Int)))] [] [(14, .v (.bool (decide ((W (x3 + (x1.length : Int))) ≤ (x0.length : Int)))))] _ ⟨⟨trivial, rfl⟩, ⟨rfl, trivial⟩, rfl⟩ rfl rfl ?_)
      refine JS.cond rfl (fun ht22 => ?_) (fun ht22 => ?_)
      · have h := condT h ht22
        refine JS.skip (JS.seq (JS.block (JS.seq (JS.region ?_))))
        obtain ⟨g4, h⟩ := guardO_some h
        refine JO.reg ttOk 9 [(W (x3 + (x1.length : Int)))] [] [(25, .v (.bool (decide ((sub' x0 x3 (W (x3 + (x1.length : Int)))) = x1))))] _ rfl ⟨⟨trivial, rfl⟩, g4, ⟨rfl, trivial⟩, rfl⟩ (JO.done rfl ?_)
        refine JS.cond rfl (fun ht21 => ?_) (fun ht21 => ?_)
        · have h := condT h ht21
          refine JS.seq (JS.region ?_)
          obtain ⟨g5, h⟩ := guardO_some h
          refine JO.reg ttOk 3 [] [] [(29, .v (.string (bs (sub' x0 0 x3))))] _ rfl ⟨g5, ⟨rfl, trivial⟩, rfl⟩ ?_
          obtain ⟨⟨y6, y7⟩, hy8, h⟩ := bindO_some h
          refine JO.call rfl rfl rfl rfl (ok_s_RunesOf (sub' x0 0 x3) _ hy8) rfl [] rfl rfl ?_
          rintro ⟨a9, c10⟩ -
          refine JO.reg ttOk 5 [] [] [(6, .v (.slice a9 y6.length c10))] _ rfl ⟨⟨rfl, trivial⟩, rfl⟩ (JO.done rfl (JS.rg0 ttOk 3 [(4, .v (.int .i64 (y6.length : Int)))] ⟨⟨rfl, trivial⟩, rfl⟩ rfl rfl ?_))
          cases h
          exact JS.ret ttOk () trivial rfl rfl [] rfl
        have h := condF h ht21
        refine JS.skip (JS.endB (JS.re ttOk 3 [(W (x3 + 1))] [] [(5, .v (.int .i64 (W (x3 + 1))))] _ ⟨⟨trivial, rfl⟩, ⟨rfl, trivial⟩, rfl⟩ rfl rfl (JS.endL (n14, (W (x3 + 1))) h (Nat.lt_succ_self _) (Es rfl) trivial [] rfl [] rfl)))
      have h := condF h ht22
      refine JS.exit rfl (JS.endJ () h trivial trivial [] rfl [] rfl)
    rintro _ h
    subst hj23
    refine JS.rg0 ttOk 1 [(4, .v (.int .i64 (-1)))] ⟨⟨rfl, trivial⟩, rfl⟩ rfl rfl ?_
    cases h
    exact JS.ret ttOk () trivial rfl rfl [] rfl

end
end Go.Eng
