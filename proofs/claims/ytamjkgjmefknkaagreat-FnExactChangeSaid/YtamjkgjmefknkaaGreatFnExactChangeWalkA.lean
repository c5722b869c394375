/- The walks of the functions that FnExactChange reaches: what each computes, as a plain function (M_..), and that the model computes it (ok_..). Condition of each: that the plain function answers. -/
import Derived.Test.YtamjkgjmefknkaaGreatEngB
import Derived.Test.YtamjkgjmefknkaaGreatChecked
set_option linter.unusedVariables false
set_option linter.unusedSimpArgs false
namespace Go.Eng
open Go Go.Proofs
noncomputable section

@[reducible] def cl32 (x : Bool × Int × (List Int × Int) × Int × Int × Int × Int × Int × Int × Int × List (List Int) × (List (List Int × Int)) × Int × (List Int × Int) × List Int × Int × List Int × Int) (a1 : Option Addr) (c1 : Nat) (a2 : Option Addr) (c2 : Nat) (a3 : Option Addr) (c3 : Nat) (a4 : Option Addr) (c4 : Nat) (a5 : Option Addr) (c5 : Nat) (a6 : Option Addr) (c6 : Nat) : List Value := [.bool x.1, .int .i64 x.2.1, .slice a1 x.2.2.1.1.length c1, .int .i64 x.2.2.1.2, .int .i64 x.2.2.2.1, .int .i64 x.2.2.2.2.1, .int .i64 x.2.2.2.2.2.1, .int .i64 x.2.2.2.2.2.2.1, .int .i64 x.2.2.2.2.2.2.2.1, .int .i64 x.2.2.2.2.2.2.2.2.1, .int .i64 x.2.2.2.2.2.2.2.2.2.1, .slice a2 x.2.2.2.2.2.2.2.2.2.2.1.length c2, .slice a3 x.2.2.2.2.2.2.2.2.2.2.2.1.length c3, .int .i64 x.2.2.2.2.2.2.2.2.2.2.2.2.1, .slice a4 x.2.2.2.2.2.2.2.2.2.2.2.2.2.1.1.length c4, .int .i64 x.2.2.2.2.2.2.2.2.2.2.2.2.2.1.2, .slice a5 x.2.2.2.2.2.2.2.2.2.2.2.2.2.2.1.length c5, .int .i64 x.2.2.2.2.2.2.2.2.2.2.2.2.2.2.2.1, .slice a6 x.2.2.2.2.2.2.2.2.2.2.2.2.2.2.2.2.1.length c6, .int .i64 x.2.2.2.2.2.2.2.2.2.2.2.2.2.2.2.2.2]
@[reducible] def cl42 (x : Bool × Int × (List Int × Int) × Int × Int × Int × Int × Int × Int × Int × List (List Int) × (List (List Int × Int)) × Int × (List Int × Int) × List Int × Int × List Int × Int) (a1 : Option Addr) (c1 : Nat) (a2 : Option Addr) (c2 : Nat) (a3 : Option Addr) (c3 : Nat) (a4 : Option Addr) (c4 : Nat) (a5 : Option Addr) (c5 : Nat) (a6 : Option Addr) (c6 : Nat) : List Value := [.bool x.1, .int .i64 x.2.1, .slice a1 x.2.2.1.1.length c1, .int .i64 x.2.2.1.2, .int .i64 x.2.2.2.1, .int .i64 x.2.2.2.2.1, .int .i64 x.2.2.2.2.2.1, .int .i64 x.2.2.2.2.2.2.1, .int .i64 x.2.2.2.2.2.2.2.1, .int .i64 x.2.2.2.2.2.2.2.2.1, .int .i64 x.2.2.2.2.2.2.2.2.2.1, .slice a2 x.2.2.2.2.2.2.2.2.2.2.1.length c2, .slice a3 x.2.2.2.2.2.2.2.2.2.2.2.1.length c3, .int .i64 x.2.2.2.2.2.2.2.2.2.2.2.2.1, .slice a4 x.2.2.2.2.2.2.2.2.2.2.2.2.2.1.1.length c4, .int .i64 x.2.2.2.2.2.2.2.2.2.2.2.2.2.1.2, .slice a5 x.2.2.2.2.2.2.2.2.2.2.2.2.2.2.1.length c5, .int .i64 x.2.2.2.2.2.2.2.2.2.2.2.2.2.2.2.1, .slice a6 x.2.2.2.2.2.2.2.2.2.2.2.2.2.2.2.2.1.length c6, .int .i64 x.2.2.2.2.2.2.2.2.2.2.2.2.2.2.2.2.2]
def TTx : TT := [
  (2, ⟨.int .i64, 1, 8, [.int .i64 0]⟩),
  (3, ⟨.int .i64, 1, 8, [.int .i64 0]⟩),
  (4, ⟨.bool, 1, 1, [.bool false]⟩),
  (5, ⟨.int .u8, 1, 1, [.int .u8 0]⟩),
  (6, ⟨.int .u8, 1, 1, [.int .u8 0]⟩),
  (7, ⟨.struct [(0, 2), (1, 3), (2, 4), (3, 6)], 4, 24, [.int .i64 0, .int .i64 0, .bool false, .int .u8 0]⟩),
  (8, ⟨.struct [(0, 2), (1, 3), (2, 4), (3, 6)], 4, 24, [.int .i64 0, .int .i64 0, .bool false, .int .u8 0]⟩),
  (9, ⟨.str, 1, 16, [.string ByteArray.empty]⟩),
  (10, ⟨.str, 1, 16, [.string ByteArray.empty]⟩),
  (11, ⟨.str, 1, 16, [.string ByteArray.empty]⟩),
  (12, ⟨.int .u64, 1, 8, [.int .u64 0]⟩),
  (13, ⟨.struct [(0, 9), (1, 12)], 2, 24, [.string ByteArray.empty, .int .u64 0]⟩),
  (14, ⟨.struct [(0, 9), (1, 12)], 2, 24, [.string ByteArray.empty, .int .u64 0]⟩),
  (21, ⟨.int .i32, 1, 4, [.int .i32 0]⟩),
  (22, ⟨.slice 3, 1, 24, [.slice none 0 0]⟩),
  (23, ⟨.struct [(0, 22), (1, 3)], 2, 32, [.slice none 0 0, .int .i64 0]⟩),
  (24, ⟨.struct [(0, 22), (1, 3)], 2, 32, [.slice none 0 0, .int .i64 0]⟩),
  (25, ⟨.slice 200, 1, 24, [.slice none 0 0]⟩),
  (26, ⟨.struct [(0, 25)], 1, 24, [.slice none 0 0]⟩),
  (27, ⟨.struct [(0, 25)], 1, 24, [.slice none 0 0]⟩),
  (28, ⟨.slice 24, 1, 24, [.slice none 0 0]⟩),
  (29, ⟨.struct [(0, 28)], 1, 24, [.slice none 0 0]⟩),
  (30, ⟨.struct [(0, 28)], 1, 24, [.slice none 0 0]⟩),
  (31, ⟨.struct [(0, 4), (1, 3), (2, 24), (4, 3), (5, 3), (6, 3), (7, 3), (8, 3), (9, 3), (10, 3), (11, 27), (12, 30), (13, 3), (14, 24), (16, 22), (17, 3), (18, 24)], 20, 256, [.bool false, .int .i64 0, .slice none 0 0, .int .i64 0, .int .i64 0, .int .i64 0, .int .i64 0, .int .i64 0, .int .i64 0, .int .i64 0, .int .i64 0, .slice none 0 0, .slice none 0 0, .int .i64 0, .slice none 0 0, .int .i64 0, .slice none 0 0, .int .i64 0, .slice none 0 0, .int .i64 0]⟩),
  (32, ⟨.struct [(0, 4), (1, 3), (2, 24), (4, 3), (5, 3), (6, 3), (7, 3), (8, 3), (9, 3), (10, 3), (11, 27), (12, 30), (13, 3), (14, 24), (16, 22), (17, 3), (18, 24)], 20, 256, [.bool false, .int .i64 0, .slice none 0 0, .int .i64 0, .int .i64 0, .int .i64 0, .int .i64 0, .int .i64 0, .int .i64 0, .int .i64 0, .int .i64 0, .slice none 0 0, .slice none 0 0, .int .i64 0, .slice none 0 0, .int .i64 0, .slice none 0 0, .int .i64 0, .slice none 0 0, .int .i64 0]⟩),
  (34, ⟨.struct [(0, 22), (1, 3)], 2, 32, [.slice none 0 0, .int .i64 0]⟩),
  (35, ⟨.slice 159, 1, 24, [.slice none 0 0]⟩),
  (36, ⟨.struct [(0, 35)], 1, 24, [.slice none 0 0]⟩),
  (37, ⟨.struct [(0, 35)], 1, 24, [.slice none 0 0]⟩),
  (38, ⟨.slice 34, 1, 24, [.slice none 0 0]⟩),
  (39, ⟨.struct [(0, 38)], 1, 24, [.slice none 0 0]⟩),
  (40, ⟨.struct [(0, 38)], 1, 24, [.slice none 0 0]⟩),
  (41, ⟨.struct [(0, 4), (1, 3), (2, 34), (4, 3), (5, 3), (6, 3), (7, 3), (8, 3), (9, 3), (10, 3), (11, 37), (12, 40), (13, 3), (14, 34), (16, 22), (17, 3), (18, 34)], 20, 256, [.bool false, .int .i64 0, .slice none 0 0, .int .i64 0, .int .i64 0, .int .i64 0, .int .i64 0, .int .i64 0, .int .i64 0, .int .i64 0, .int .i64 0, .slice none 0 0, .slice none 0 0, .int .i64 0, .slice none 0 0, .int .i64 0, .slice none 0 0, .int .i64 0, .slice none 0 0, .int .i64 0]⟩),
  (42, ⟨.struct [(0, 4), (1, 3), (2, 34), (4, 3), (5, 3), (6, 3), (7, 3), (8, 3), (9, 3), (10, 3), (11, 37), (12, 40), (13, 3), (14, 34), (16, 22), (17, 3), (18, 34)], 20, 256, [.bool false, .int .i64 0, .slice none 0 0, .int .i64 0, .int .i64 0, .int .i64 0, .int .i64 0, .int .i64 0, .int .i64 0, .int .i64 0, .int .i64 0, .slice none 0 0, .slice none 0 0, .int .i64 0, .slice none 0 0, .int .i64 0, .slice none 0 0, .int .i64 0, .slice none 0 0, .int .i64 0]⟩),
  (49, ⟨.slice 9, 1, 24, [.slice none 0 0]⟩),
  (50, ⟨.struct [(0, 3), (1, 49)], 2, 32, [.int .i64 0, .slice none 0 0]⟩),
  (51, ⟨.struct [(0, 3), (1, 49)], 2, 32, [.int .i64 0, .slice none 0 0]⟩),
  (55, ⟨.struct [(0, 3), (1, 49)], 2, 32, [.int .i64 0, .slice none 0 0]⟩),
  (65, ⟨.struct [(0, 3), (1, 3)], 2, 16, [.int .i64 0, .int .i64 0]⟩),
  (66, ⟨.struct [(0, 3), (1, 3)], 2, 16, [.int .i64 0, .int .i64 0]⟩),
  (68, ⟨.struct [(0, 3), (1, 3)], 2, 16, [.int .i64 0, .int .i64 0]⟩),
  (73, ⟨.slice 5, 1, 24, [.slice none 0 0]⟩),
  (77, ⟨.slice 68, 1, 24, [.slice none 0 0]⟩),
  (78, ⟨.slice 4, 1, 24, [.slice none 0 0]⟩),
  (158, ⟨.struct [(0, 22)], 1, 24, [.slice none 0 0]⟩),
  (159, ⟨.struct [(0, 22)], 1, 24, [.slice none 0 0]⟩),
  (181, ⟨.struct [(0, 73), (1, 3), (2, 3)], 3, 40, [.slice none 0 0, .int .i64 0, .int .i64 0]⟩),
  (182, ⟨.struct [(0, 73), (1, 3), (2, 3)], 3, 40, [.slice none 0 0, .int .i64 0, .int .i64 0]⟩),
  (200, ⟨.struct [(0, 22)], 1, 24, [.slice none 0 0]⟩),
  (205, ⟨.int .u64, 1, 8, [.int .u64 0]⟩),
  (216, ⟨.int .u32, 1, 4, [.int .u32 0]⟩),
  (227, ⟨.int .u8, 1, 1, [.int .u8 0]⟩),
  (228, ⟨.int .u8, 1, 1, [.int .u8 0]⟩),
  (231, ⟨.int .i32, 1, 4, [.int .i32 0]⟩),
  (232, ⟨.int .i32, 1, 4, [.int .i32 0]⟩)]

set_option maxRecDepth 100000 in
theorem ttOk : TTok Tryz.prog TTx := TTok.of (by
  simp only [TTx, List.forall_mem_cons]
  exact ⟨⟨⟨_, _, rfl, rfl, rfl, rfl, rfl⟩, rfl⟩, ⟨⟨_, _, rfl, rfl, rfl, rfl, rfl⟩, rfl⟩, ⟨⟨_, _, rfl, rfl, rfl, rfl, rfl⟩, rfl⟩, ⟨⟨_, _, rfl, rfl, rfl, rfl, rfl⟩, rfl⟩, ⟨⟨_, _, rfl, rfl, rfl, rfl, rfl⟩, rfl⟩, ⟨⟨_, _, rfl, rfl, rfl, rfl, rfl⟩, ⟨_, rfl, rfl⟩⟩, ⟨⟨_, _, rfl, rfl, rfl, rfl, rfl⟩, ⟨_, rfl, rfl⟩⟩, ⟨⟨_, _, rfl, rfl, rfl, rfl, rfl⟩, rfl⟩, ⟨⟨_, _, rfl, rfl, rfl, rfl, rfl⟩, rfl⟩, ⟨⟨_, _, rfl, rfl, rfl, rfl, rfl⟩, rfl⟩, ⟨⟨_, _, rfl, rfl, rfl, rfl, rfl⟩, rfl⟩, ⟨⟨_, _, rfl, rfl, rfl, rfl, rfl⟩, ⟨_, rfl, rfl⟩⟩, ⟨⟨_, _, rfl, rfl, rfl, rfl, rfl⟩, ⟨_, rfl, rfl⟩⟩, ⟨⟨_, _, rfl, rfl, rfl, rfl, rfl⟩, rfl⟩, ⟨⟨_, _, rfl, rfl, rfl, rfl, rfl⟩, rfl⟩, ⟨⟨_, _, rfl, rfl, rfl, rfl, rfl⟩, ⟨_, rfl, rfl⟩⟩, ⟨⟨_, _, rfl, rfl, rfl, rfl, rfl⟩, ⟨_, rfl, rfl⟩⟩, ⟨⟨_, _, rfl, rfl, rfl, rfl, rfl⟩, rfl⟩, ⟨⟨_, _, rfl, rfl, rfl, rfl, rfl⟩, ⟨_, rfl, rfl⟩⟩, ⟨⟨_, _, rfl, rfl, rfl, rfl, rfl⟩, ⟨_, rfl, rfl⟩⟩, ⟨⟨_, _, rfl, rfl, rfl, rfl, rfl⟩, rfl⟩, ⟨⟨_, _, rfl, rfl, rfl, rfl, rfl⟩, ⟨_, rfl, rfl⟩⟩, ⟨⟨_, _, rfl, rfl, rfl, rfl, rfl⟩, ⟨_, rfl, rfl⟩⟩, ⟨⟨_, _, rfl, rfl, rfl, rfl, rfl⟩, ⟨_, rfl, rfl⟩⟩, ⟨⟨_, _, rfl, rfl, rfl, rfl, rfl⟩, ⟨_, rfl, rfl⟩⟩, ⟨⟨_, _, rfl, rfl, rfl, rfl, rfl⟩, ⟨_, rfl, rfl⟩⟩, ⟨⟨_, _, rfl, rfl, rfl, rfl, rfl⟩, rfl⟩, ⟨⟨_, _, rfl, rfl, rfl, rfl, rfl⟩, ⟨_, rfl, rfl⟩⟩, ⟨⟨_, _, rfl, rfl, rfl, rfl, rfl⟩, ⟨_, rfl, rfl⟩⟩, ⟨⟨_, _, rfl, rfl, rfl, rfl, rfl⟩, rfl⟩, ⟨⟨_, _, rfl, rfl, rfl, rfl, rfl⟩, ⟨_, rfl, rfl⟩⟩, ⟨⟨_, _, rfl, rfl, rfl, rfl, rfl⟩, ⟨_, rfl, rfl⟩⟩, ⟨⟨_, _, rfl, rfl, rfl, rfl, rfl⟩, ⟨_, rfl, rfl⟩⟩, ⟨⟨_, _, rfl, rfl, rfl, rfl, rfl⟩, ⟨_, rfl, rfl⟩⟩, ⟨⟨_, _, rfl, rfl, rfl, rfl, rfl⟩, rfl⟩, ⟨⟨_, _, rfl, rfl, rfl, rfl, rfl⟩, ⟨_, rfl, rfl⟩⟩, ⟨⟨_, _, rfl, rfl, rfl, rfl, rfl⟩, ⟨_, rfl, rfl⟩⟩, ⟨⟨_, _, rfl, rfl, rfl, rfl, rfl⟩, ⟨_, rfl, rfl⟩⟩, ⟨⟨_, _, rfl, rfl, rfl, rfl, rfl⟩, ⟨_, rfl, rfl⟩⟩, ⟨⟨_, _, rfl, rfl, rfl, rfl, rfl⟩, ⟨_, rfl, rfl⟩⟩, ⟨⟨_, _, rfl, rfl, rfl, rfl, rfl⟩, ⟨_, rfl, rfl⟩⟩, ⟨⟨_, _, rfl, rfl, rfl, rfl, rfl⟩, rfl⟩, ⟨⟨_, _, rfl, rfl, rfl, rfl, rfl⟩, rfl⟩, ⟨⟨_, _, rfl, rfl, rfl, rfl, rfl⟩, rfl⟩, ⟨⟨_, _, rfl, rfl, rfl, rfl, rfl⟩, ⟨_, rfl, rfl⟩⟩, ⟨⟨_, _, rfl, rfl, rfl, rfl, rfl⟩, ⟨_, rfl, rfl⟩⟩, ⟨⟨_, _, rfl, rfl, rfl, rfl, rfl⟩, ⟨_, rfl, rfl⟩⟩, ⟨⟨_, _, rfl, rfl, rfl, rfl, rfl⟩, ⟨_, rfl, rfl⟩⟩, ⟨⟨_, _, rfl, rfl, rfl, rfl, rfl⟩, ⟨_, rfl, rfl⟩⟩, ⟨⟨_, _, rfl, rfl, rfl, rfl, rfl⟩, rfl⟩, ⟨⟨_, _, rfl, rfl, rfl, rfl, rfl⟩, rfl⟩, ⟨⟨_, _, rfl, rfl, rfl, rfl, rfl⟩, rfl⟩, ⟨⟨_, _, rfl, rfl, rfl, rfl, rfl⟩, rfl⟩, ⟨⟨_, _, rfl, rfl, rfl, rfl, rfl⟩, rfl⟩, ⟨⟨_, _, rfl, rfl, rfl, rfl, rfl⟩, rfl⟩, by simp⟩)

def M_l_szIntS (x0 : List Int) (x1 : Int) : Option Int :=
  (bif (decide ((W (x1 - (x0.length : Int))) < 0)) then
  some (-1)
  else
  some (W (x1 - (x0.length : Int))))

theorem ok_l_szIntS (x0 : List Int) (x1 : Int) (a3 : Option Addr) (c4 : Nat) (l5 : Nat) (hl6 : x0.length = l5) (r : Int) (h : M_l_szIntS x0 x1 = some r) :
    FC Tryz.prog 50 [.slice a3 l5 c4, .int .i64 x1] [⟨(.int .i64), ⟨a3, l5, c4⟩, x0⟩] (fun _ : Unit => True) (fun _ => .int .i64 r) (fun _ => []) :=
  by
    subst hl6
    refine FC.of (T := TTx) Tryz.call50 Tryz.func50 rfl rfl fun w0 => ?_
    unfold M_l_szIntS at h
    refine JS.seq (JS.region (JO.reg ttOk 1 [] [] [] _ rfl ⟨trivial, rfl⟩ (JO.done rfl (JS.seq (JS.region (JO.reg ttOk 5 [(W (x1 - (x0.length : Int)))] [] [(1, .v (.int .i64 (W (x1 - (x0.length : Int)))))] _ rfl ⟨⟨trivial, rfl⟩, ⟨rfl, trivial⟩, rfl⟩ (JO.done rfl (JS.seq (JS.seq (JS.region (JO.reg ttOk 2 [] [] [(10, .v (.bool (decide ((W (x1 - (x0.length : Int))) < 0))))] _ rfl ⟨⟨rfl, trivial⟩, rfl⟩ (JO.done rfl ?_))))))))))))
    refine JS.cond rfl (fun ht8 => ?_) (fun ht8 => ?_)
    · have h := condT h ht8
      refine JS.seq (JS.region (JO.reg ttOk 1 [] [] [(4, .v (.int .i64 (-1)))] _ rfl ⟨⟨rfl, trivial⟩, rfl⟩ (JO.done rfl ?_)))
      cases h
      exact JS.ret ttOk () trivial rfl rfl [] rfl
    have h := condF h ht8
    refine JS.skip (JS.seq (JS.region (JO.reg ttOk 2 [] [] [(4, .v (.int .i64 (W (x1 - (x0.length : Int)))))] _ rfl ⟨⟨rfl, trivial⟩, rfl⟩ (JO.done rfl ?_))))
    cases h
    exact JS.ret ttOk () trivial rfl rfl [] rfl

def M_l_szLine (x0 : List Int × Int) (x1 : Int) : Option Int :=
  (bindO (M_l_szIntS x0.1 x1) fun (y7 : Int) =>
  (bif (decide (y7 < 0)) then
  some (-1)
  else
  some y7))

theorem ok_l_szLine (x0 : List Int × Int) (x1 : Int) (a3 : Option Addr) (c4 : Nat) (l5 : Nat) (hl6 : x0.1.length = l5) (r : Int) (h : M_l_szLine x0 x1 = some r) :
    FC Tryz.prog 47 [.agg #[.slice a3 l5 c4, .int .i64 x0.2], .int .i64 x1] [⟨(.int .i64), ⟨a3, l5, c4⟩, x0.1⟩] (fun _ : Unit => True) (fun _ => .int .i64 r) (fun _ => []) :=
  by
    subst hl6
    refine FC.of (T := TTx) Tryz.call47 Tryz.func47 rfl rfl fun w0 => ?_
    unfold M_l_szLine at h
    refine JS.seq (JS.region (JO.regB ttOk 2 [] [2] [(2, .bp 2 0)] (.new 2 24 [.slice a3 x0.1.length c4, .int .i64 x0.2] .nil) rfl ⟨⟨rfl, trivial⟩, ⟨rfl, rfl, rfl, rfl, trivial⟩⟩ (JO.done rfl (JS.seq (JS.region (JO.reg ttOk 3 [] [] [(6, .v (.slice a3 x0.1.length c4)), (7, .v (.int .i64 x1))] _ rfl ⟨⟨rfl, rfl, trivial⟩, rfl⟩ ?_))))))
    obtain ⟨y7, hy8, h⟩ := bindO_some h
    refine JO.call rfl rfl rfl rfl (ok_l_szIntS x0.1 x1 a3 c4 x0.1.length rfl _ hy8) rfl [0] rfl rfl fun _ _ => JO.reg ttOk 1 [] [] [(1, .v (.int .i64 y7))] _ rfl ⟨⟨rfl, trivial⟩, rfl⟩ (JO.done rfl (JS.seq (JS.seq (JS.region (JO.reg ttOk 2 [] [] [(10, .v (.bool (decide (y7 < 0))))] _ rfl ⟨⟨rfl, trivial⟩, rfl⟩ (JO.done rfl ?_))))))
    refine JS.cond rfl (fun ht10 => ?_) (fun ht10 => ?_)
    · have h := condT h ht10
      refine JS.seq (JS.region (JO.reg ttOk 1 [] [] [(4, .v (.int .i64 (-1)))] _ rfl ⟨⟨rfl, trivial⟩, rfl⟩ (JO.done rfl ?_)))
      cases h
      exact JS.ret ttOk () trivial rfl rfl [] rfl
    have h := condF h ht10
    refine JS.skip (JS.seq (JS.region (JO.reg ttOk 2 [] [] [(4, .v (.int .i64 y7))] _ rfl ⟨⟨rfl, trivial⟩, rfl⟩ (JO.done rfl ?_))))
    cases h
    exact JS.ret ttOk () trivial rfl rfl [] rfl

def M_l_szPiece (x0 : List Int) (x1 : Int) : Option Int :=
  (bindO (M_l_szIntS x0 x1) fun (y7 : Int) =>
  (bif (decide (y7 < 0)) then
  some (-1)
  else
  some y7))

theorem ok_l_szPiece (x0 : List Int) (x1 : Int) (a3 : Option Addr) (c4 : Nat) (l5 : Nat) (hl6 : x0.length = l5) (r : Int) (h : M_l_szPiece x0 x1 = some r) :
    FC Tryz.prog 239 [.agg #[.slice a3 l5 c4], .int .i64 x1] [⟨(.int .i64), ⟨a3, l5, c4⟩, x0⟩] (fun _ : Unit => True) (fun _ => .int .i64 r) (fun _ => []) :=
  by
    subst hl6
    refine FC.of (T := TTx) Tryz.call239 Tryz.func239 rfl rfl fun w0 => ?_
    unfold M_l_szPiece at h
    refine JS.seq (JS.region (JO.regB ttOk 2 [] [2] [(2, .bp 2 0)] (.new 2 200 [.slice a3 x0.length c4] .nil) rfl ⟨⟨rfl, trivial⟩, ⟨rfl, rfl, rfl, rfl, trivial⟩⟩ (JO.done rfl (JS.seq (JS.region (JO.reg ttOk 3 [] [] [(6, .v (.slice a3 x0.length c4)), (7, .v (.int .i64 x1))] _ rfl ⟨⟨rfl, rfl, trivial⟩, rfl⟩ ?_))))))
    obtain ⟨y7, hy8, h⟩ := bindO_some h
    refine JO.call rfl rfl rfl rfl (ok_l_szIntS x0 x1 a3 c4 x0.length rfl _ hy8) rfl [0] rfl rfl fun _ _ => JO.reg ttOk 1 [] [] [(1, .v (.int .i64 y7))] _ rfl ⟨⟨rfl, trivial⟩, rfl⟩ (JO.done rfl (JS.seq (JS.seq (JS.region (JO.reg ttOk 2 [] [] [(10, .v (.bool (decide (y7 < 0))))] _ rfl ⟨⟨rfl, trivial⟩, rfl⟩ (JO.done rfl ?_))))))
    refine JS.cond rfl (fun ht10 => ?_) (fun ht10 => ?_)
    · have h := condT h ht10
      refine JS.seq (JS.region (JO.reg ttOk 1 [] [] [(4, .v (.int .i64 (-1)))] _ rfl ⟨⟨rfl, trivial⟩, rfl⟩ (JO.done rfl ?_)))
      cases h
      exact JS.ret ttOk () trivial rfl rfl [] rfl
    have h := condF h ht10
    refine JS.skip (JS.seq (JS.region (JO.reg ttOk 2 [] [] [(4, .v (.int .i64 y7))] _ rfl ⟨⟨rfl, trivial⟩, rfl⟩ (JO.done rfl ?_))))
    cases h
    exact JS.ret ttOk () trivial rfl rfl [] rfl

def M_l_szPieceS_L1 (x0 : List (List Int)) (j26 : Int → Option Int) (k20 : (Int × Int) → Option Int) : (Int × Int) → Option Int := fun (x7, x8) =>
  (bif (decide (x8 < (x0.length : Int))) then
  (guardO (0 ≤ x8 ∧ x8 < (x0.length : Int)) <|
  (bindO (M_l_szPiece (at' x0 x8) x7) fun (y16 : Int) =>
  (bif (decide (y16 < 0)) then
  some (-1)
  else
  k20 (y16, (W (x8 + 1))))))
  else
  j26 x7)

def M_l_szPieceS (x0 : List (List Int)) (x1 : Int) : Option Int :=
  (bif (decide ((W (x1 - (x0.length : Int))) < 0)) then
  some (-1)
  else
  (joinO (fun (x25 : Int) =>
  some x25) fun j26 =>
  (fixF (M_l_szPieceS_L1 x0 j26) FUEL ((W (x1 - (x0.length : Int))), 0))))

theorem ok_l_szPieceS (x0 : List (List Int)) (x1 : Int) (a3 : Option Addr) (c4 : Nat) (l5 : Nat) (hl6 : x0.length = l5) (r : Int) (h : M_l_szPieceS x0 x1 = some r) :
    FC Tryz.prog 146 [.slice a3 l5 c4, .int .i64 x1] [⟨(.sl (.int .i64)), ⟨a3, l5, c4⟩, x0⟩] (fun _ : Unit => True) (fun _ => .int .i64 r) (fun _ => []) :=
  by
    subst hl6
    refine FC.of (T := TTx) Tryz.call146 Tryz.func146 rfl rfl fun w0 => ?_
    unfold M_l_szPieceS at h
    refine JS.seq (JS.region (JO.reg ttOk 1 [] [] [] _ rfl ⟨trivial, rfl⟩ (JO.done rfl (JS.seq (JS.region (JO.reg ttOk 5 [(W (x1 - (x0.length : Int)))] [] [(1, .v (.int .i64 (W (x1 - (x0.length : Int)))))] _ rfl ⟨⟨trivial, rfl⟩, ⟨rfl, trivial⟩, rfl⟩ (JO.done rfl (JS.seq (JS.seq (JS.region (JO.reg ttOk 2 [] [] [(11, .v (.bool (decide ((W (x1 - (x0.length : Int))) < 0))))] _ rfl ⟨⟨rfl, trivial⟩, rfl⟩ (JO.done rfl ?_))))))))))))
    refine JS.cond rfl (fun ht36 => ?_) (fun ht36 => ?_)
    · have h := condT h ht36
      refine JS.seq (JS.region (JO.reg ttOk 1 [] [] [(4, .v (.int .i64 (-1)))] _ rfl ⟨⟨rfl, trivial⟩, rfl⟩ (JO.done rfl ?_)))
      cases h
      exact JS.ret ttOk () trivial rfl rfl [] rfl
    have h := condF h ht36
    refine JS.skip (JS.seq (JS.seq (JS.region (JO.reg ttOk 1 [] [] [(5, .v (.int .i64 0))] _ rfl ⟨⟨rfl, trivial⟩, rfl⟩ (JO.done rfl ?_)))))
    obtain ⟨j26, hj35, h⟩ := joinO_some h
    refine JS.blockJ (ι := Int) ⟨fun z => j26 z = some r, fun z => [(1, .v (.int .i64 z))], fun z => .nil, fun z => [], fun z => [], fun z => 0⟩ ?_ ?_
    · refine JS.loop (ι := Nat × Int × Int) ⟨fun z => fixF (M_l_szPieceS_L1 x0 j26) z.1 (z.2.1, z.2.2) = some r, fun z => [(0, .v (.slice a3 x0.length c4)), (1, .v (.int .i64 z.2.1)), (5, .v (.int .i64 z.2.2))], fun z => .nil, fun z => [⟨(.sl (.int .i64)), ⟨a3, x0.length, c4⟩, x0⟩], fun z => [], fun z => z.1⟩ (FUEL, (W (x1 - (x0.length : Int))), 0) h ⟨rfl, rfl, rfl, trivial⟩ trivial [0] rfl [] rfl ?_
      rintro ⟨n21, x7, x8⟩ h
      obtain ⟨n21, rfl, h⟩ := fixF_some h
      rw [M_l_szPieceS_L1] at h
      refine JS.seq (JS.seq (JS.region (JO.reg ttOk 4 [] [] [(15, .v (.bool (decide (x8 < (x0.length : Int)))))] _ rfl ⟨⟨rfl, trivial⟩, rfl⟩ (JO.done rfl ?_))))
      refine JS.cond rfl (fun ht34 => ?_) (fun ht34 => ?_)
      · have h := condT h ht34
        refine JS.skip (JS.seq (JS.block (JS.seq (JS.region (JO.know 0 rfl fun hs32 => ?_)))))
        obtain ⟨g10, h⟩ := guardO_some h
        refine JO.reg ttOk 3 [] [] [(20, .ep ⟨a3, x0.length, c4⟩ (Int.toNat x8 * 1))] _ rfl ⟨hs32.ix g10, ⟨rfl, trivial⟩, rfl⟩ (JO.openR 0 rfl (Int.toNat x8) (at' x0 x8) rfl fun a11 c12 ys13 hl14 hy15 => JO.loadV ttOk rfl rfl rfl rfl rfl rfl 0 rfl rfl (Int.toNat x8) 0 (Sl.v ⟨a11, (at' x0 x8).length, c12⟩) ⟨hy15 (ltNat g10), rfl⟩ rfl rfl rfl (JO.reg ttOk 1 [] [] [(22, .v (.int .i64 x7))] _ rfl ⟨⟨rfl, trivial⟩, rfl⟩ ?_))
        obtain ⟨y16, hy17, h⟩ := bindO_some h
        refine JO.call rfl rfl rfl rfl (ok_l_szPiece (at' x0 x8) x7 a11 c12 ((at' x0 x8).length) rfl _ hy17) rfl [1] rfl rfl fun _ _ => JO.reg ttOk 1 [] [] [(1, .v (.int .i64 y16))] _ rfl ⟨⟨rfl, trivial⟩, rfl⟩ (JO.done rfl (JS.seq (JS.region (JO.reg ttOk 2 [] [] [(25, .v (.bool (decide (y16 < 0))))] _ rfl ⟨⟨rfl, trivial⟩, rfl⟩ (JO.done rfl ?_)))))
        refine JS.cond rfl (fun ht33 => ?_) (fun ht33 => ?_)
        · have h := condT h ht33
          refine JS.seq (JS.region (JO.reg ttOk 1 [] [] [(4, .v (.int .i64 (-1)))] _ rfl ⟨⟨rfl, trivial⟩, rfl⟩ (JO.done rfl ?_)))
          cases h
          exact JS.ret ttOk () trivial rfl rfl [] rfl
        have h := condF h ht33
        refine JS.skip (JS.endB (JS.region (JO.reg ttOk 3 [(W (x8 + 1))] [] [(5, .v (.int .i64 (W (x8 + 1))))] _ rfl ⟨⟨trivial, rfl⟩, ⟨rfl, trivial⟩, rfl⟩ (JO.done rfl (JS.endL (n21, y16, (W (x8 + 1))) h (Nat.lt_succ_self _) ⟨rfl, rfl, rfl, trivial⟩ trivial [2] rfl [] rfl)))))
      have h := condF h ht34
      refine JS.exit rfl (JS.endJ x7 h ⟨rfl, trivial⟩ trivial [] rfl [] rfl)
    rintro x25 h
    subst hj35
    refine JS.seq (JS.region (JO.reg ttOk 2 [] [] [(4, .v (.int .i64 x25))] _ rfl ⟨⟨rfl, trivial⟩, rfl⟩ (JO.done rfl ?_)))
    cases h
    exact JS.ret ttOk () trivial rfl rfl [] rfl

def M_l_szRing (x0 : List (List Int)) (x1 : Int) : Option Int :=
  (bindO (M_l_szPieceS x0 x1) fun (y7 : Int) =>
  (bif (decide (y7 < 0)) then
  some (-1)
  else
  some y7))

theorem ok_l_szRing (x0 : List (List Int)) (x1 : Int) (a3 : Option Addr) (c4 : Nat) (l5 : Nat) (hl6 : x0.length = l5) (r : Int) (h : M_l_szRing x0 x1 = some r) :
    FC Tryz.prog 48 [.agg #[.slice a3 l5 c4], .int .i64 x1] [⟨(.sl (.int .i64)), ⟨a3, l5, c4⟩, x0⟩] (fun _ : Unit => True) (fun _ => .int .i64 r) (fun _ => []) :=
  by
    subst hl6
    refine FC.of (T := TTx) Tryz.call48 Tryz.func48 rfl rfl fun w0 => ?_
    unfold M_l_szRing at h
    refine JS.seq (JS.region (JO.regB ttOk 2 [] [2] [(2, .bp 2 0)] (.new 2 27 [.slice a3 x0.length c4] .nil) rfl ⟨⟨rfl, trivial⟩, ⟨rfl, rfl, rfl, rfl, trivial⟩⟩ (JO.done rfl (JS.seq (JS.region (JO.reg ttOk 3 [] [] [(6, .v (.slice a3 x0.length c4)), (7, .v (.int .i64 x1))] _ rfl ⟨⟨rfl, rfl, trivial⟩, rfl⟩ ?_))))))
    obtain ⟨y7, hy8, h⟩ := bindO_some h
    refine JO.call rfl rfl rfl rfl (ok_l_szPieceS x0 x1 a3 c4 x0.length rfl _ hy8) rfl [0] rfl rfl fun _ _ => JO.reg ttOk 1 [] [] [(1, .v (.int .i64 y7))] _ rfl ⟨⟨rfl, trivial⟩, rfl⟩ (JO.done rfl (JS.seq (JS.seq (JS.region (JO.reg ttOk 2 [] [] [(10, .v (.bool (decide (y7 < 0))))] _ rfl ⟨⟨rfl, trivial⟩, rfl⟩ (JO.done rfl ?_))))))
    refine JS.cond rfl (fun ht10 => ?_) (fun ht10 => ?_)
    · have h := condT h ht10
      refine JS.seq (JS.region (JO.reg ttOk 1 [] [] [(4, .v (.int .i64 (-1)))] _ rfl ⟨⟨rfl, trivial⟩, rfl⟩ (JO.done rfl ?_)))
      cases h
      exact JS.ret ttOk () trivial rfl rfl [] rfl
    have h := condF h ht10
    refine JS.skip (JS.seq (JS.region (JO.reg ttOk 2 [] [] [(4, .v (.int .i64 y7))] _ rfl ⟨⟨rfl, trivial⟩, rfl⟩ (JO.done rfl ?_))))
    cases h
    exact JS.ret ttOk () trivial rfl rfl [] rfl

def M_l_szLineS_L1 (x0 : List (List Int × Int)) (j26 : Int → Option Int) (k20 : (Int × Int) → Option Int) : (Int × Int) → Option Int := fun (x7, x8) =>
  (bif (decide (x8 < (x0.length : Int))) then
  (guardO (0 ≤ x8 ∧ x8 < (x0.length : Int)) <|
  (bindO (M_l_szLine ((at' x0 x8).1, (at' x0 x8).2) x7) fun (y16 : Int) =>
  (bif (decide (y16 < 0)) then
  some (-1)
  else
  k20 (y16, (W (x8 + 1))))))
  else
  j26 x7)

def M_l_szLineS (x0 : List (List Int × Int)) (x1 : Int) : Option Int :=
  (bif (decide ((W (x1 - (x0.length : Int))) < 0)) then
  some (-1)
  else
  (joinO (fun (x25 : Int) =>
  some x25) fun j26 =>
  (fixF (M_l_szLineS_L1 x0 j26) FUEL ((W (x1 - (x0.length : Int))), 0))))

theorem ok_l_szLineS (x0 : List (List Int × Int)) (x1 : Int) (a3 : Option Addr) (c4 : Nat) (l5 : Nat) (hl6 : x0.length = l5) (r : Int) (h : M_l_szLineS x0 x1 = some r) :
    FC Tryz.prog 147 [.slice a3 l5 c4, .int .i64 x1] [⟨(.pair (.sl (.int .i64)) (.int .i64)), ⟨a3, l5, c4⟩, x0⟩] (fun _ : Unit => True) (fun _ => .int .i64 r) (fun _ => []) :=
  by
    subst hl6
    refine FC.of (T := TTx) Tryz.call147 Tryz.func147 rfl rfl fun w0 => ?_
    unfold M_l_szLineS at h
    refine JS.seq (JS.region (JO.reg ttOk 1 [] [] [] _ rfl ⟨trivial, rfl⟩ (JO.done rfl (JS.seq (JS.region (JO.reg ttOk 5 [(W (x1 - (x0.length : Int)))] [] [(1, .v (.int .i64 (W (x1 - (x0.length : Int)))))] _ rfl ⟨⟨trivial, rfl⟩, ⟨rfl, trivial⟩, rfl⟩ (JO.done rfl (JS.seq (JS.seq (JS.region (JO.reg ttOk 2 [] [] [(11, .v (.bool (decide ((W (x1 - (x0.length : Int))) < 0))))] _ rfl ⟨⟨rfl, trivial⟩, rfl⟩ (JO.done rfl ?_))))))))))))
    refine JS.cond rfl (fun ht36 => ?_) (fun ht36 => ?_)
    · have h := condT h ht36
      refine JS.seq (JS.region (JO.reg ttOk 1 [] [] [(4, .v (.int .i64 (-1)))] _ rfl ⟨⟨rfl, trivial⟩, rfl⟩ (JO.done rfl ?_)))
      cases h
      exact JS.ret ttOk () trivial rfl rfl [] rfl
    have h := condF h ht36
    refine JS.skip (JS.seq (JS.seq (JS.region (JO.reg ttOk 1 [] [] [(5, .v (.int .i64 0))] _ rfl ⟨⟨rfl, trivial⟩, rfl⟩ (JO.done rfl ?_)))))
    obtain ⟨j26, hj35, h⟩ := joinO_some h
    refine JS.blockJ (ι := Int) ⟨fun z => j26 z = some r, fun z => [(1, .v (.int .i64 z))], fun z => .nil, fun z => [], fun z => [], fun z => 0⟩ ?_ ?_
    · refine JS.loop (ι := Nat × Int × Int) ⟨fun z => fixF (M_l_szLineS_L1 x0 j26) z.1 (z.2.1, z.2.2) = some r, fun z => [(0, .v (.slice a3 x0.length c4)), (1, .v (.int .i64 z.2.1)), (5, .v (.int .i64 z.2.2))], fun z => .nil, fun z => [⟨(.pair (.sl (.int .i64)) (.int .i64)), ⟨a3, x0.length, c4⟩, x0⟩], fun z => [], fun z => z.1⟩ (FUEL, (W (x1 - (x0.length : Int))), 0) h ⟨rfl, rfl, rfl, trivial⟩ trivial [0] rfl [] rfl ?_
      rintro ⟨n21, x7, x8⟩ h
      obtain ⟨n21, rfl, h⟩ := fixF_some h
      rw [M_l_szLineS_L1] at h
      refine JS.seq (JS.seq (JS.region (JO.reg ttOk 4 [] [] [(15, .v (.bool (decide (x8 < (x0.length : Int)))))] _ rfl ⟨⟨rfl, trivial⟩, rfl⟩ (JO.done rfl ?_))))
      refine JS.cond rfl (fun ht34 => ?_) (fun ht34 => ?_)
      · have h := condT h ht34
        refine JS.skip (JS.seq (JS.block (JS.seq (JS.region (JO.know 0 rfl fun hs32 => ?_)))))
        obtain ⟨g10, h⟩ := guardO_some h
        refine JO.reg ttOk 3 [] [] [(20, .ep ⟨a3, x0.length, c4⟩ (Int.toNat x8 * 2))] _ rfl ⟨hs32.ix g10, ⟨rfl, trivial⟩, rfl⟩ (JO.openR 0 rfl (Int.toNat x8) (at' x0 x8) rfl fun a11 c12 ys13 hl14 hy15 => JO.loadV ttOk rfl rfl rfl rfl rfl rfl 0 rfl rfl (Int.toNat x8) 0 ((Sl.v ⟨a11, ((at' x0 x8).1).length, c12⟩), (at' x0 x8).2) ⟨hy15 (ltNat g10), rfl⟩ rfl rfl rfl (JO.reg ttOk 1 [] [] [(22, .v (.int .i64 x7))] _ rfl ⟨⟨rfl, trivial⟩, rfl⟩ ?_))
        obtain ⟨y16, hy17, h⟩ := bindO_some h
        refine JO.call rfl rfl rfl rfl (ok_l_szLine ((at' x0 x8).1, (at' x0 x8).2) x7 a11 c12 (((at' x0 x8).1).length) rfl _ hy17) rfl [1] rfl rfl fun _ _ => JO.reg ttOk 1 [] [] [(1, .v (.int .i64 y16))] _ rfl ⟨⟨rfl, trivial⟩, rfl⟩ (JO.done rfl (JS.seq (JS.region (JO.reg ttOk 2 [] [] [(25, .v (.bool (decide (y16 < 0))))] _ rfl ⟨⟨rfl, trivial⟩, rfl⟩ (JO.done rfl ?_)))))
        refine JS.cond rfl (fun ht33 => ?_) (fun ht33 => ?_)
        · have h := condT h ht33
          refine JS.seq (JS.region (JO.reg ttOk 1 [] [] [(4, .v (.int .i64 (-1)))] _ rfl ⟨⟨rfl, trivial⟩, rfl⟩ (JO.done rfl ?_)))
          cases h
          exact JS.ret ttOk () trivial rfl rfl [] rfl
        have h := condF h ht33
        refine JS.skip (JS.endB (JS.region (JO.reg ttOk 3 [(W (x8 + 1))] [] [(5, .v (.int .i64 (W (x8 + 1))))] _ rfl ⟨⟨trivial, rfl⟩, ⟨rfl, trivial⟩, rfl⟩ (JO.done rfl (JS.endL (n21, y16, (W (x8 + 1))) h (Nat.lt_succ_self _) ⟨rfl, rfl, rfl, trivial⟩ trivial [2] rfl [] rfl)))))
      have h := condF h ht34
      refine JS.exit rfl (JS.endJ x7 h ⟨rfl, trivial⟩ trivial [] rfl [] rfl)
    rintro x25 h
    subst hj35
    refine JS.seq (JS.region (JO.reg ttOk 2 [] [] [(4, .v (.int .i64 x25))] _ rfl ⟨⟨rfl, trivial⟩, rfl⟩ (JO.done rfl ?_)))
    cases h
    exact JS.ret ttOk () trivial rfl rfl [] rfl

def M_l_szUndo (x0 : List (List Int × Int)) (x1 : Int) : Option Int :=
  (bindO (M_l_szLineS x0 x1) fun (y7 : Int) =>
  (bif (decide (y7 < 0)) then
  some (-1)
  else
  some y7))

theorem ok_l_szUndo (x0 : List (List Int × Int)) (x1 : Int) (a3 : Option Addr) (c4 : Nat) (l5 : Nat) (hl6 : x0.length = l5) (r : Int) (h : M_l_szUndo x0 x1 = some r) :
    FC Tryz.prog 49 [.agg #[.slice a3 l5 c4], .int .i64 x1] [⟨(.pair (.sl (.int .i64)) (.int .i64)), ⟨a3, l5, c4⟩, x0⟩] (fun _ : Unit => True) (fun _ => .int .i64 r) (fun _ => []) :=
  by
    subst hl6
    refine FC.of (T := TTx) Tryz.call49 Tryz.func49 rfl rfl fun w0 => ?_
    unfold M_l_szUndo at h
    refine JS.seq (JS.region (JO.regB ttOk 2 [] [2] [(2, .bp 2 0)] (.new 2 30 [.slice a3 x0.length c4] .nil) rfl ⟨⟨rfl, trivial⟩, ⟨rfl, rfl, rfl, rfl, trivial⟩⟩ (JO.done rfl (JS.seq (JS.region (JO.reg ttOk 3 [] [] [(6, .v (.slice a3 x0.length c4)), (7, .v (.int .i64 x1))] _ rfl ⟨⟨rfl, rfl, trivial⟩, rfl⟩ ?_))))))
    obtain ⟨y7, hy8, h⟩ := bindO_some h
    refine JO.call rfl rfl rfl rfl (ok_l_szLineS x0 x1 a3 c4 x0.length rfl _ hy8) rfl [0] rfl rfl fun _ _ => JO.reg ttOk 1 [] [] [(1, .v (.int .i64 y7))] _ rfl ⟨⟨rfl, trivial⟩, rfl⟩ (JO.done rfl (JS.seq (JS.seq (JS.region (JO.reg ttOk 2 [] [] [(10, .v (.bool (decide (y7 < 0))))] _ rfl ⟨⟨rfl, trivial⟩, rfl⟩ (JO.done rfl ?_))))))
    refine JS.cond rfl (fun ht10 => ?_) (fun ht10 => ?_)
    · have h := condT h ht10
      refine JS.seq (JS.region (JO.reg ttOk 1 [] [] [(4, .v (.int .i64 (-1)))] _ rfl ⟨⟨rfl, trivial⟩, rfl⟩ (JO.done rfl ?_)))
      cases h
      exact JS.ret ttOk () trivial rfl rfl [] rfl
    have h := condF h ht10
    refine JS.skip (JS.seq (JS.region (JO.reg ttOk 2 [] [] [(4, .v (.int .i64 y7))] _ rfl ⟨⟨rfl, trivial⟩, rfl⟩ (JO.done rfl ?_))))
    cases h
    exact JS.ret ttOk () trivial rfl rfl [] rfl

def M_l_szEd (x0 : Bool × Int × (List Int × Int) × Int × Int × Int × Int × Int × Int × Int × List (List Int) × (List (List Int × Int)) × Int × (List Int × Int) × List Int × Int × List Int × Int) (x1 : Int) : Option Int :=
  (bindO (M_l_szLine x0.2.2.1 x1) fun (y27 : Int) =>
  (bif (decide (y27 < 0)) then
  some (-1)
  else
  (bindO (M_l_szRing x0.2.2.2.2.2.2.2.2.2.2.1 y27) fun (y29 : Int) =>
  (bif (decide (y29 < 0)) then
  some (-1)
  else
  (bindO (M_l_szUndo x0.2.2.2.2.2.2.2.2.2.2.2.1 y29) fun (y31 : Int) =>
  (bif (decide (y31 < 0)) then
  some (-1)
  else
  (bindO (M_l_szLine x0.2.2.2.2.2.2.2.2.2.2.2.2.2.1 y31) fun (y33 : Int) =>
  (bif (decide (y33 < 0)) then
  some (-1)
  else
  (bindO (M_l_szIntS x0.2.2.2.2.2.2.2.2.2.2.2.2.2.2.1 y33) fun (y35 : Int) =>
  (bif (decide (y35 < 0)) then
  some (-1)
  else
  (bindO (M_l_szLine x0.2.2.2.2.2.2.2.2.2.2.2.2.2.2.2.2 y35) fun (y37 : Int) =>
  (bif (decide (y37 < 0)) then
  some (-1)
  else
  some y37))))))))))))

theorem ok_l_szEd (x0 : Bool × Int × (List Int × Int) × Int × Int × Int × Int × Int × Int × Int × List (List Int) × (List (List Int × Int)) × Int × (List Int × Int) × List Int × Int × List Int × Int) (x1 : Int) (a3 : Option Addr) (c4 : Nat) (l5 : Nat) (hl6 : x0.2.2.1.1.length = l5) (a7 : Option Addr) (c8 : Nat) (l9 : Nat) (hl10 : x0.2.2.2.2.2.2.2.2.2.2.1.length = l9) (a11 : Option Addr) (c12 : Nat) (l13 : Nat) (hl14 : x0.2.2.2.2.2.2.2.2.2.2.2.1.length = l13) (a15 : Option Addr) (c16 : Nat) (l17 : Nat) (hl18 : x0.2.2.2.2.2.2.2.2.2.2.2.2.2.1.1.length = l17) (a19 : Option Addr) (c20 : Nat) (l21 : Nat) (hl22 : x0.2.2.2.2.2.2.2.2.2.2.2.2.2.2.1.length = l21) (a23 : Option Addr) (c24 : Nat) (l25 : Nat) (hl26 : x0.2.2.2.2.2.2.2.2.2.2.2.2.2.2.2.2.1.length = l25) (r : Int) (h : M_l_szEd x0 x1 = some r) :
    FC Tryz.prog 12 [.agg #[.bool x0.1, .int .i64 x0.2.1, .slice a3 l5 c4, .int .i64 x0.2.2.1.2, .int .i64 x0.2.2.2.1, .int .i64 x0.2.2.2.2.1, .int .i64 x0.2.2.2.2.2.1, .int .i64 x0.2.2.2.2.2.2.1, .int .i64 x0.2.2.2.2.2.2.2.1, .int .i64 x0.2.2.2.2.2.2.2.2.1, .int .i64 x0.2.2.2.2.2.2.2.2.2.1, .slice a7 l9 c8, .slice a11 l13 c12, .int .i64 x0.2.2.2.2.2.2.2.2.2.2.2.2.1, .slice a15 l17 c16, .int .i64 x0.2.2.2.2.2.2.2.2.2.2.2.2.2.1.2, .slice a19 l21 c20, .int .i64 x0.2.2.2.2.2.2.2.2.2.2.2.2.2.2.2.1, .slice a23 l25 c24, .int .i64 x0.2.2.2.2.2.2.2.2.2.2.2.2.2.2.2.2.2], .int .i64 x1] [⟨(.int .i64), ⟨a3, l5, c4⟩, x0.2.2.1.1⟩, ⟨(.sl (.int .i64)), ⟨a7, l9, c8⟩, x0.2.2.2.2.2.2.2.2.2.2.1⟩, ⟨(.pair (.sl (.int .i64)) (.int .i64)), ⟨a11, l13, c12⟩, x0.2.2.2.2.2.2.2.2.2.2.2.1⟩, ⟨(.int .i64), ⟨a15, l17, c16⟩, x0.2.2.2.2.2.2.2.2.2.2.2.2.2.1.1⟩, ⟨(.int .i64), ⟨a19, l21, c20⟩, x0.2.2.2.2.2.2.2.2.2.2.2.2.2.2.1⟩, ⟨(.int .i64), ⟨a23, l25, c24⟩, x0.2.2.2.2.2.2.2.2.2.2.2.2.2.2.2.2.1⟩] (fun _ : Unit => True) (fun _ => .int .i64 r) (fun _ => []) :=
  by
    subst hl6
    subst hl10
    subst hl14
    subst hl18
    subst hl22
    subst hl26
    refine FC.of (T := TTx) Tryz.call12 Tryz.func12 rfl rfl fun w0 => ?_
    unfold M_l_szEd at h
    refine JS.seq (JS.region (JO.regB ttOk 2 [] [7] [(2, .bp 7 0)] (.new 7 32 (cl32 x0 a3 c4 a7 c8 a11 c12 a15 c16 a19 c20 a23 c24) .nil) rfl ⟨⟨rfl, trivial⟩, ⟨rfl, rfl, rfl, rfl, trivial⟩⟩ (JO.done rfl (JS.seq (JS.region (JO.reg ttOk 3 [] [] [(6, .v (.agg #[.slice a3 x0.2.2.1.1.length c4, .int .i64 x0.2.2.1.2])), (7, .v (.int .i64 x1))] _ rfl ⟨⟨rfl, rfl, trivial⟩, rfl⟩ ?_))))))
    obtain ⟨y27, hy28, h⟩ := bindO_some h
    refine JO.call rfl rfl rfl rfl (ok_l_szLine x0.2.2.1 x1 a3 c4 x0.2.2.1.1.length rfl _ hy28) rfl [0] rfl rfl fun _ _ => JO.reg ttOk 1 [] [] [(1, .v (.int .i64 y27))] _ rfl ⟨⟨rfl, trivial⟩, rfl⟩ (JO.done rfl (JS.seq (JS.seq (JS.region (JO.reg ttOk 2 [] [] [(10, .v (.bool (decide (y27 < 0))))] _ rfl ⟨⟨rfl, trivial⟩, rfl⟩ (JO.done rfl ?_))))))
    refine JS.cond rfl (fun ht50 => ?_) (fun ht50 => ?_)
    · have h := condT h ht50
      refine JS.seq (JS.region (JO.reg ttOk 1 [] [] [(4, .v (.int .i64 (-1)))] _ rfl ⟨⟨rfl, trivial⟩, rfl⟩ (JO.done rfl ?_)))
      cases h
      exact JS.ret ttOk () trivial rfl rfl [] rfl
    have h := condF h ht50
    refine JS.skip (JS.seq (JS.region (JO.reg ttOk 3 [] [] [(12, .v (.agg #[.slice a7 x0.2.2.2.2.2.2.2.2.2.2.1.length c8])), (13, .v (.int .i64 y27))] _ rfl ⟨⟨rfl, rfl, trivial⟩, rfl⟩ ?_)))
    obtain ⟨y29, hy30, h⟩ := bindO_some h
    refine JO.call rfl rfl rfl rfl (ok_l_szRing x0.2.2.2.2.2.2.2.2.2.2.1 y27 a7 c8 x0.2.2.2.2.2.2.2.2.2.2.1.length rfl _ hy30) rfl [1] rfl rfl fun _ _ => JO.reg ttOk 1 [] [] [(1, .v (.int .i64 y29))] _ rfl ⟨⟨rfl, trivial⟩, rfl⟩ (JO.done rfl (JS.seq (JS.seq (JS.region (JO.reg ttOk 2 [] [] [(16, .v (.bool (decide (y29 < 0))))] _ rfl ⟨⟨rfl, trivial⟩, rfl⟩ (JO.done rfl ?_))))))
    refine JS.cond rfl (fun ht49 => ?_) (fun ht49 => ?_)
    · have h := condT h ht49
      refine JS.seq (JS.region (JO.reg ttOk 1 [] [] [(4, .v (.int .i64 (-1)))] _ rfl ⟨⟨rfl, trivial⟩, rfl⟩ (JO.done rfl ?_)))
      cases h
      exact JS.ret ttOk () trivial rfl rfl [] rfl
    have h := condF h ht49
    refine JS.skip (JS.seq (JS.region (JO.reg ttOk 3 [] [] [(18, .v (.agg #[.slice a11 x0.2.2.2.2.2.2.2.2.2.2.2.1.length c12])), (19, .v (.int .i64 y29))] _ rfl ⟨⟨rfl, rfl, trivial⟩, rfl⟩ ?_)))
    obtain ⟨y31, hy32, h⟩ := bindO_some h
    refine JO.call rfl rfl rfl rfl (ok_l_szUndo x0.2.2.2.2.2.2.2.2.2.2.2.1 y29 a11 c12 x0.2.2.2.2.2.2.2.2.2.2.2.1.length rfl _ hy32) rfl [2] rfl rfl fun _ _ => JO.reg ttOk 1 [] [] [(1, .v (.int .i64 y31))] _ rfl ⟨⟨rfl, trivial⟩, rfl⟩ (JO.done rfl (JS.seq (JS.seq (JS.region (JO.reg ttOk 2 [] [] [(22, .v (.bool (decide (y31 < 0))))] _ rfl ⟨⟨rfl, trivial⟩, rfl⟩ (JO.done rfl ?_))))))
    refine JS.cond rfl (fun ht48 => ?_) (fun ht48 => ?_)
    · have h := condT h ht48
      refine JS.seq (JS.region (JO.reg ttOk 1 [] [] [(4, .v (.int .i64 (-1)))] _ rfl ⟨⟨rfl, trivial⟩, rfl⟩ (JO.done rfl ?_)))
      cases h
      exact JS.ret ttOk () trivial rfl rfl [] rfl
    have h := condF h ht48
    refine JS.skip (JS.seq (JS.region (JO.reg ttOk 3 [] [] [(24, .v (.agg #[.slice a15 x0.2.2.2.2.2.2.2.2.2.2.2.2.2.1.1.length c16, .int .i64 x0.2.2.2.2.2.2.2.2.2.2.2.2.2.1.2])), (25, .v (.int .i64 y31))] _ rfl ⟨⟨rfl, rfl, trivial⟩, rfl⟩ ?_)))
    obtain ⟨y33, hy34, h⟩ := bindO_some h
    refine JO.call rfl rfl rfl rfl (ok_l_szLine x0.2.2.2.2.2.2.2.2.2.2.2.2.2.1 y31 a15 c16 x0.2.2.2.2.2.2.2.2.2.2.2.2.2.1.1.length rfl _ hy34) rfl [3] rfl rfl fun _ _ => JO.reg ttOk 1 [] [] [(1, .v (.int .i64 y33))] _ rfl ⟨⟨rfl, trivial⟩, rfl⟩ (JO.done rfl (JS.seq (JS.seq (JS.region (JO.reg ttOk 2 [] [] [(28, .v (.bool (decide (y33 < 0))))] _ rfl ⟨⟨rfl, trivial⟩, rfl⟩ (JO.done rfl ?_))))))
    refine JS.cond rfl (fun ht47 => ?_) (fun ht47 => ?_)
    · have h := condT h ht47
      refine JS.seq (JS.region (JO.reg ttOk 1 [] [] [(4, .v (.int .i64 (-1)))] _ rfl ⟨⟨rfl, trivial⟩, rfl⟩ (JO.done rfl ?_)))
      cases h
      exact JS.ret ttOk () trivial rfl rfl [] rfl
    have h := condF h ht47
    refine JS.skip (JS.seq (JS.region (JO.reg ttOk 3 [] [] [(30, .v (.slice a19 x0.2.2.2.2.2.2.2.2.2.2.2.2.2.2.1.length c20)), (31, .v (.int .i64 y33))] _ rfl ⟨⟨rfl, rfl, trivial⟩, rfl⟩ ?_)))
    obtain ⟨y35, hy36, h⟩ := bindO_some h
    refine JO.call rfl rfl rfl rfl (ok_l_szIntS x0.2.2.2.2.2.2.2.2.2.2.2.2.2.2.1 y33 a19 c20 x0.2.2.2.2.2.2.2.2.2.2.2.2.2.2.1.length rfl _ hy36) rfl [4] rfl rfl fun _ _ => JO.reg ttOk 1 [] [] [(1, .v (.int .i64 y35))] _ rfl ⟨⟨rfl, trivial⟩, rfl⟩ (JO.done rfl (JS.seq (JS.seq (JS.region (JO.reg ttOk 2 [] [] [(34, .v (.bool (decide (y35 < 0))))] _ rfl ⟨⟨rfl, trivial⟩, rfl⟩ (JO.done rfl ?_))))))
    refine JS.cond rfl (fun ht46 => ?_) (fun ht46 => ?_)
    · have h := condT h ht46
      refine JS.seq (JS.region (JO.reg ttOk 1 [] [] [(4, .v (.int .i64 (-1)))] _ rfl ⟨⟨rfl, trivial⟩, rfl⟩ (JO.done rfl ?_)))
      cases h
      exact JS.ret ttOk () trivial rfl rfl [] rfl
    have h := condF h ht46
    refine JS.skip (JS.seq (JS.region (JO.reg ttOk 3 [] [] [(36, .v (.agg #[.slice a23 x0.2.2.2.2.2.2.2.2.2.2.2.2.2.2.2.2.1.length c24, .int .i64 x0.2.2.2.2.2.2.2.2.2.2.2.2.2.2.2.2.2])), (37, .v (.int .i64 y35))] _ rfl ⟨⟨rfl, rfl, trivial⟩, rfl⟩ ?_)))
    obtain ⟨y37, hy38, h⟩ := bindO_some h
    refine JO.call rfl rfl rfl rfl (ok_l_szLine x0.2.2.2.2.2.2.2.2.2.2.2.2.2.2.2.2 y35 a23 c24 x0.2.2.2.2.2.2.2.2.2.2.2.2.2.2.2.2.1.length rfl _ hy38) rfl [5] rfl rfl fun _ _ => JO.reg ttOk 1 [] [] [(1, .v (.int .i64 y37))] _ rfl ⟨⟨rfl, trivial⟩, rfl⟩ (JO.done rfl (JS.seq (JS.seq (JS.region (JO.reg ttOk 2 [] [] [(40, .v (.bool (decide (y37 < 0))))] _ rfl ⟨⟨rfl, trivial⟩, rfl⟩ (JO.done rfl ?_))))))
    refine JS.cond rfl (fun ht45 => ?_) (fun ht45 => ?_)
    · have h := condT h ht45
      refine JS.seq (JS.region (JO.reg ttOk 1 [] [] [(4, .v (.int .i64 (-1)))] _ rfl ⟨⟨rfl, trivial⟩, rfl⟩ (JO.done rfl ?_)))
      cases h
      exact JS.ret ttOk () trivial rfl rfl [] rfl
    have h := condF h ht45
    refine JS.skip (JS.seq (JS.region (JO.reg ttOk 2 [] [] [(4, .v (.int .i64 y37))] _ rfl ⟨⟨rfl, trivial⟩, rfl⟩ (JO.done rfl ?_))))
    cases h
    exact JS.ret ttOk () trivial rfl rfl [] rfl

def M_l_toIntS_L1 (x0 : List Int) (j25 : (List Int) → Option (List Int)) (k17 : (List Int × Int) → Option (List Int)) : (List Int × Int) → Option (List Int) := fun (x8, x11) =>
  (bif (decide (x11 < (x0.length : Int))) then
  (guardO (0 ≤ x11 ∧ x11 < (x0.length : Int)) <|
  (guardO (0 ≤ x11 ∧ x11 < (x8.length : Int)) <|
  k17 ((List.set x8 (Int.toNat x11) (at' x0 x11)), (W (x11 + 1)))))
  else
  j25 x8)

def M_l_toIntS (x0 : List Int) : Option (List Int) :=
  (guardO (x0.length ≤ 536870912) <|
  (joinO (fun (x22 : List Int) =>
  some x22) fun j25 =>
  (fixF (M_l_toIntS_L1 x0 j25) FUEL ((List.replicate x0.length (0 : Int)), 0))))

theorem ok_l_toIntS (x0 : List Int) (a2 : Option Addr) (c3 : Nat) (l4 : Nat) (hl5 : x0.length = l4) (r : List Int) (h : M_l_toIntS x0 = some r) :
    FC Tryz.prog 26 [.slice a2 l4 c3] [⟨(.int .i64), ⟨a2, l4, c3⟩, x0⟩] (fun _ : Option Addr × Nat => True) (fun q => .slice q.1 r.length q.2) (fun q => [⟨(.int .i64), ⟨q.1, r.length, q.2⟩, r⟩]) :=
  by
    subst hl5
    refine FC.of (T := TTx) Tryz.call26 Tryz.func26 rfl rfl fun w0 => ?_
    unfold M_l_toIntS at h
    refine JS.seq (JS.region (JO.reg ttOk 1 [] [] [] _ rfl ⟨trivial, rfl⟩ (JO.done rfl (JS.seq (JS.region (JO.reg ttOk 2 [] [] [(6, .v (.int .i64 (x0.length : Int)))] _ rfl ⟨⟨rfl, trivial⟩, rfl⟩ ?_))))))
    obtain ⟨g6, h⟩ := guardO_some h
    refine JO.makeSlice ttOk rfl rfl rfl rfl rfl rfl rfl rfl x0.length rfl g6 (.int .i64) rfl rfl rfl rfl rfl fun a7 => JO.reg ttOk 1 [] [] [(3, .v (.slice a7 x0.length x0.length))] _ rfl ⟨⟨rfl, trivial⟩, rfl⟩ (JO.done rfl (JS.seq (JS.seq (JS.region (JO.reg ttOk 1 [] [] [(4, .v (.int .i64 0))] _ rfl ⟨⟨rfl, trivial⟩, rfl⟩ (JO.done rfl ?_))))))
    obtain ⟨j25, hj33, h⟩ := joinO_some h
    refine JS.blockJ (ι := List Int × Option Addr × Nat) ⟨fun z => j25 z.1 = some r, fun z => [(3, .v (.slice z.2.1 z.1.length z.2.2))], fun z => .nil, fun z => [], fun z => [⟨(.int .i64), ⟨z.2.1, z.1.length, z.2.2⟩, z.1⟩], fun z => 0⟩ ?_ ?_
    · refine JS.loop (ι := Nat × List Int × Int × Option Addr × Nat) ⟨fun z => fixF (M_l_toIntS_L1 x0 j25) z.1 (z.2.1, z.2.2.1) = some r, fun z => [(0, .v (.slice a2 x0.length c3)), (3, .v (.slice z.2.2.2.1 z.2.1.length z.2.2.2.2)), (4, .v (.int .i64 z.2.2.1))], fun z => .nil, fun z => [⟨(.int .i64), ⟨a2, x0.length, c3⟩, x0⟩], fun z => [⟨(.int .i64), ⟨z.2.2.2.1, z.2.1.length, z.2.2.2.2⟩, z.2.1⟩], fun z => z.1⟩ (FUEL, (List.replicate x0.length (0 : Int)), 0, a7, x0.length) h ⟨rfl, (by simp only [List.length_set, List.length_replicate, pickO, getF]; rfl), rfl, trivial⟩ trivial [0] rfl [0] (by simp only [List.length_set, List.length_replicate, pickO, getF]; rfl) ?_
      rintro ⟨n18, x8, x11, a9, c10⟩ h
      obtain ⟨n18, rfl, h⟩ := fixF_some h
      rw [M_l_toIntS_L1] at h
      refine JS.seq (JS.seq (JS.region (JO.reg ttOk 4 [] [] [(11, .v (.bool (decide (x11 < (x0.length : Int)))))] _ rfl ⟨⟨rfl, trivial⟩, rfl⟩ (JO.done rfl ?_))))
      refine JS.cond rfl (fun ht32 => ?_) (fun ht32 => ?_)
      · have h := condT h ht32
        refine JS.skip (JS.seq (JS.block (JS.region (JO.know 0 rfl fun hs30 => ?_))))
        obtain ⟨g13, h⟩ := guardO_some h
        refine JO.reg ttOk 5 [] [] [(14, .v (.slice a9 x8.length c10)), (15, .v (.int .i64 x11)), (18, .ep ⟨a2, x0.length, c3⟩ (Int.toNat x11 * 1))] _ rfl ⟨hs30.ix g13, ⟨rfl, rfl, rfl, trivial⟩, rfl⟩ (JO.load ttOk rfl rfl rfl rfl rfl rfl rfl 0 rfl rfl (Int.toNat x11) 0 (at' x0 x11) ⟨at_some g13, rfl⟩ rfl rfl (JO.know 1 rfl fun hs31 => ?_))
        obtain ⟨g15, h⟩ := guardO_some h
        refine JO.reg ttOk 1 [] [] [(20, .ep ⟨a9, x8.length, c10⟩ (Int.toNat x11 * 1))] _ rfl ⟨hs31.ix g15, ⟨rfl, trivial⟩, rfl⟩ (JO.storeE ttOk rfl rfl rfl rfl rfl rfl rfl rfl rfl [0] (fs := []) rfl (Int.toNat x11) 0 (at' x8 x11) (at' x0 x11) ⟨at_some g15, rfl⟩ ⟨rfl, rfl, rfl⟩ (JO.done rfl (JS.endB (JS.region (JO.reg ttOk 3 [(W (x11 + 1))] [] [(4, .v (.int .i64 (W (x11 + 1))))] _ rfl ⟨⟨trivial, rfl⟩, ⟨rfl, trivial⟩, rfl⟩ (JO.done rfl (JS.endL (n18, (List.set x8 (Int.toNat x11) (at' x0 x11)), (W (x11 + 1)), a9, c10) h (Nat.lt_succ_self _) ⟨rfl, (by simp only [List.length_set, List.length_replicate, pickO, getF]; rfl), rfl, trivial⟩ trivial [0] rfl [0] (by simp only [List.length_set, List.length_replicate, pickO, getF]; rfl))))))))
      have h := condF h ht32
      refine JS.exit rfl (JS.endJ (x8, a9, c10) h ⟨rfl, trivial⟩ trivial [] rfl [0] rfl)
    rintro ⟨x22, a23, c24⟩ h
    subst hj33
    refine JS.seq (JS.region (JO.reg ttOk 2 [] [] [(2, .v (.slice a23 x22.length c24))] _ rfl ⟨⟨rfl, trivial⟩, rfl⟩ (JO.done rfl ?_)))
    cases h
    exact JS.ret ttOk (a23, c24) trivial rfl rfl [0] rfl

def M_l_toLine (x0 : List Int × Int) : Option (List Int × Int) :=
  (bindO (M_l_toIntS x0.1) fun (y6 : List Int) =>
  some (y6, x0.2))

theorem ok_l_toLine (x0 : List Int × Int) (a2 : Option Addr) (c3 : Nat) (l4 : Nat) (hl5 : x0.1.length = l4) (r : List Int × Int) (h : M_l_toLine x0 = some r) :
    FC Tryz.prog 61 [.agg #[.slice a2 l4 c3, .int .i64 x0.2]] [⟨(.int .i64), ⟨a2, l4, c3⟩, x0.1⟩] (fun _ : Option Addr × Nat => True) (fun q => .agg #[.slice q.1 r.1.length q.2, .int .i64 r.2]) (fun q => [⟨(.int .i64), ⟨q.1, r.1.length, q.2⟩, r.1⟩]) :=
  by
    subst hl5
    refine FC.of (T := TTx) Tryz.call61 Tryz.func61 rfl rfl fun w0 => ?_
    unfold M_l_toLine at h
    refine JS.seq (JS.region (JO.regB ttOk 2 [] [2, 3] [(1, .bp 2 0), (2, .bp 3 0)] (.new 2 24 [.slice a2 x0.1.length c3, .int .i64 x0.2] (.new 3 34 [.slice none 0 0, .int .i64 0] .nil)) rfl ⟨⟨rfl, rfl, trivial⟩, ⟨rfl, rfl, rfl, rfl, rfl, rfl, rfl, rfl, trivial⟩⟩ (JO.done rfl (JS.seq (JS.region (JO.regB ttOk 1 [] [4] [(3, .bp 4 0)] (.new 2 24 [.slice a2 x0.1.length c3, .int .i64 x0.2] (.new 3 34 [.slice none 0 0, .int .i64 0] (.new 4 34 [.slice none 0 0, .int .i64 0] .nil))) rfl ⟨⟨rfl, trivial⟩, ⟨rfl, rfl, rfl, rfl, rfl, rfl, rfl, rfl, rfl, rfl, rfl, rfl, trivial⟩⟩ (JO.done rfl (JS.seq (JS.region (JO.reg ttOk 2 [] [] [(5, .v (.slice a2 x0.1.length c3))] _ rfl ⟨⟨rfl, trivial⟩, rfl⟩ ?_))))))))))
    obtain ⟨y6, hy7, h⟩ := bindO_some h
    refine JO.call rfl rfl rfl rfl (ok_l_toIntS x0.1 a2 c3 x0.1.length rfl _ hy7) rfl [0] rfl rfl ?_
    rintro ⟨a8, c9⟩ -
    refine JO.regB ttOk 2 [] [] [] (.new 2 24 [.slice a2 x0.1.length c3, .int .i64 x0.2] (.new 3 34 [.slice none 0 0, .int .i64 0] (.new 4 34 [.slice a8 y6.length c9, .int .i64 0] .nil))) rfl ⟨trivial, ⟨rfl, rfl, rfl, rfl, rfl, rfl, rfl, rfl, rfl, rfl, rfl, rfl, trivial⟩⟩ (JO.done rfl (JS.seq (JS.region (JO.regB ttOk 4 [] [] [] (.new 3 34 [.slice none 0 0, .int .i64 0] (.new 4 34 [.slice a8 y6.length c9, .int .i64 x0.2] .nil)) rfl ⟨trivial, ⟨rfl, rfl, rfl, rfl, rfl, rfl, rfl, rfl, trivial⟩⟩ (JO.done rfl (JS.seq (JS.region (JO.regB ttOk 2 [] [] [] (.new 3 34 [.slice a8 y6.length c9, .int .i64 x0.2] .nil) rfl ⟨trivial, ⟨rfl, rfl, rfl, rfl, trivial⟩⟩ (JO.done rfl ?_)))))))))
    cases h
    exact JS.ret ttOk (a8, c9) trivial rfl rfl [0] rfl

def M_l_toPiece (x0 : List Int) : Option (List Int) :=
  (bindO (M_l_toIntS x0) fun (y6 : List Int) =>
  some y6)

theorem ok_l_toPiece (x0 : List Int) (a2 : Option Addr) (c3 : Nat) (l4 : Nat) (hl5 : x0.length = l4) (r : List Int) (h : M_l_toPiece x0 = some r) :
    FC Tryz.prog 244 [.agg #[.slice a2 l4 c3]] [⟨(.int .i64), ⟨a2, l4, c3⟩, x0⟩] (fun _ : Option Addr × Nat => True) (fun q => .agg #[.slice q.1 r.length q.2]) (fun q => [⟨(.int .i64), ⟨q.1, r.length, q.2⟩, r⟩]) :=
  by
    subst hl5
    refine FC.of (T := TTx) Tryz.call244 Tryz.func244 rfl rfl fun w0 => ?_
    unfold M_l_toPiece at h
    refine JS.seq (JS.region (JO.regB ttOk 2 [] [2, 3] [(1, .bp 2 0), (2, .bp 3 0)] (.new 2 200 [.slice a2 x0.length c3] (.new 3 159 [.slice none 0 0] .nil)) rfl ⟨⟨rfl, rfl, trivial⟩, ⟨rfl, rfl, rfl, rfl, rfl, rfl, rfl, rfl, trivial⟩⟩ (JO.done rfl (JS.seq (JS.region (JO.regB ttOk 1 [] [4] [(3, .bp 4 0)] (.new 2 200 [.slice a2 x0.length c3] (.new 3 159 [.slice none 0 0] (.new 4 159 [.slice none 0 0] .nil))) rfl ⟨⟨rfl, trivial⟩, ⟨rfl, rfl, rfl, rfl, rfl, rfl, rfl, rfl, rfl, rfl, rfl, rfl, trivial⟩⟩ (JO.done rfl (JS.seq (JS.region (JO.reg ttOk 2 [] [] [(5, .v (.slice a2 x0.length c3))] _ rfl ⟨⟨rfl, trivial⟩, rfl⟩ ?_))))))))))
    obtain ⟨y6, hy7, h⟩ := bindO_some h
    refine JO.call rfl rfl rfl rfl (ok_l_toIntS x0 a2 c3 x0.length rfl _ hy7) rfl [0] rfl rfl ?_
    rintro ⟨a8, c9⟩ -
    refine JO.regB ttOk 2 [] [] [] (.new 3 159 [.slice none 0 0] (.new 4 159 [.slice a8 y6.length c9] .nil)) rfl ⟨trivial, ⟨rfl, rfl, rfl, rfl, rfl, rfl, rfl, rfl, trivial⟩⟩ (JO.done rfl (JS.seq (JS.region (JO.regB ttOk 2 [] [] [] (.new 3 159 [.slice a8 y6.length c9] .nil) rfl ⟨trivial, ⟨rfl, rfl, rfl, rfl, trivial⟩⟩ (JO.done rfl ?_)))))
    cases h
    exact JS.ret ttOk (a8, c9) trivial rfl rfl [0] rfl

def M_l_toPieceS_L1 (x0 : List (List Int)) (j34 : (List (List Int)) → Option (List (List Int))) (k26 : (List (List Int) × Int) → Option (List (List Int))) : (List (List Int) × Int) → Option (List (List Int)) := fun (x8, x11) =>
  (bif (decide (x11 < (x0.length : Int))) then
  (guardO (0 ≤ x11 ∧ x11 < (x0.length : Int)) <|
  (bindO (M_l_toPiece (at' x0 x11)) fun (y19 : List Int) =>
  (guardO (0 ≤ x11 ∧ x11 < (x8.length : Int)) <|
  k26 ((List.set x8 (Int.toNat x11) y19), (W (x11 + 1))))))
  else
  j34 x8)

def M_l_toPieceS (x0 : List (List Int)) : Option (List (List Int)) :=
  (guardO (x0.length ≤ 536870912) <|
  (joinO (fun (x31 : List (List Int)) =>
  some x31) fun j34 =>
  (fixF (M_l_toPieceS_L1 x0 j34) FUEL ((List.replicate x0.length []), 0))))

theorem ok_l_toPieceS (x0 : List (List Int)) (a2 : Option Addr) (c3 : Nat) (l4 : Nat) (hl5 : x0.length = l4) (r : List (List Int)) (h : M_l_toPieceS x0 = some r) :
    FC Tryz.prog 160 [.slice a2 l4 c3] [⟨(.sl (.int .i64)), ⟨a2, l4, c3⟩, x0⟩] (fun _ : Option Addr × Nat => True) (fun q => .slice q.1 r.length q.2) (fun q => [⟨(.sl (.int .i64)), ⟨q.1, r.length, q.2⟩, r⟩]) :=
  by
    subst hl5
    refine FC.of (T := TTx) Tryz.call160 Tryz.func160 rfl rfl fun w0 => ?_
    unfold M_l_toPieceS at h
    refine JS.seq (JS.region (JO.reg ttOk 1 [] [] [] _ rfl ⟨trivial, rfl⟩ (JO.done rfl (JS.seq (JS.region (JO.reg ttOk 2 [] [] [(6, .v (.int .i64 (x0.length : Int)))] _ rfl ⟨⟨rfl, trivial⟩, rfl⟩ ?_))))))
    obtain ⟨g6, h⟩ := guardO_some h
    refine JO.makeSlice ttOk rfl rfl rfl rfl rfl rfl rfl rfl x0.length rfl g6 (.sl (.int .i64)) rfl rfl rfl rfl rfl fun a7 => JO.reg ttOk 1 [] [] [(3, .v (.slice a7 x0.length x0.length))] _ rfl ⟨⟨rfl, trivial⟩, rfl⟩ (JO.done rfl (JS.seq (JS.seq (JS.region (JO.reg ttOk 1 [] [] [(4, .v (.int .i64 0))] _ rfl ⟨⟨rfl, trivial⟩, rfl⟩ (JO.done rfl ?_))))))
    obtain ⟨j34, hj42, h⟩ := joinO_some h
    refine JS.blockJ (ι := List (List Int) × Option Addr × Nat) ⟨fun z => j34 z.1 = some r, fun z => [(3, .v (.slice z.2.1 z.1.length z.2.2))], fun z => .nil, fun z => [], fun z => [⟨(.sl (.int .i64)), ⟨z.2.1, z.1.length, z.2.2⟩, z.1⟩], fun z => 0⟩ ?_ ?_
    · refine JS.loop (ι := Nat × List (List Int) × Int × Option Addr × Nat) ⟨fun z => fixF (M_l_toPieceS_L1 x0 j34) z.1 (z.2.1, z.2.2.1) = some r, fun z => [(0, .v (.slice a2 x0.length c3)), (3, .v (.slice z.2.2.2.1 z.2.1.length z.2.2.2.2)), (4, .v (.int .i64 z.2.2.1))], fun z => .nil, fun z => [⟨(.sl (.int .i64)), ⟨a2, x0.length, c3⟩, x0⟩], fun z => [⟨(.sl (.int .i64)), ⟨z.2.2.2.1, z.2.1.length, z.2.2.2.2⟩, z.2.1⟩], fun z => z.1⟩ (FUEL, (List.replicate x0.length []), 0, a7, x0.length) h ⟨rfl, (by simp only [List.length_set, List.length_replicate, pickO, getF]; rfl), rfl, trivial⟩ trivial [0] rfl [0] (by simp only [List.length_set, List.length_replicate, pickO, getF]; rfl) ?_
      rintro ⟨n27, x8, x11, a9, c10⟩ h
      obtain ⟨n27, rfl, h⟩ := fixF_some h
      rw [M_l_toPieceS_L1] at h
      refine JS.seq (JS.seq (JS.region (JO.reg ttOk 4 [] [] [(11, .v (.bool (decide (x11 < (x0.length : Int)))))] _ rfl ⟨⟨rfl, trivial⟩, rfl⟩ (JO.done rfl ?_))))
      refine JS.cond rfl (fun ht41 => ?_) (fun ht41 => ?_)
      · have h := condT h ht41
        refine JS.skip (JS.seq (JS.block (JS.region (JO.know 0 rfl fun hs39 => ?_))))
        obtain ⟨g13, h⟩ := guardO_some h
        refine JO.reg ttOk 5 [] [] [(14, .v (.slice a9 x8.length c10)), (15, .v (.int .i64 x11)), (18, .ep ⟨a2, x0.length, c3⟩ (Int.toNat x11 * 1))] _ rfl ⟨hs39.ix g13, ⟨rfl, rfl, rfl, trivial⟩, rfl⟩ (JO.openR 0 rfl (Int.toNat x11) (at' x0 x11) rfl fun a14 c15 ys16 hl17 hy18 => JO.loadV ttOk rfl rfl rfl rfl rfl rfl 0 rfl rfl (Int.toNat x11) 0 (Sl.v ⟨a14, (at' x0 x11).length, c15⟩) ⟨hy18 (ltNat g13), rfl⟩ rfl rfl rfl ?_)
        obtain ⟨y19, hy20, h⟩ := bindO_some h
        refine JO.call rfl rfl rfl rfl (ok_l_toPiece (at' x0 x11) a14 c15 ((at' x0 x11).length) rfl _ hy20) rfl [1] rfl rfl ?_
        rintro ⟨a21, c22⟩ -
        refine JO.know 4 rfl fun hs40 => ?_
        obtain ⟨g24, h⟩ := guardO_some h
        refine JO.reg ttOk 1 [] [] [(21, .ep ⟨a9, x8.length, c10⟩ (Int.toNat x11 * 1))] _ rfl ⟨hs40.ix g24, ⟨rfl, trivial⟩, rfl⟩ (JO.storeE ttOk rfl rfl rfl rfl rfl rfl rfl rfl rfl [1, 0] (fs := [⟨(.int .i64), ⟨a21, y19.length, c22⟩, y19⟩]) rfl (Int.toNat x11) 0 (at' x8 x11) y19 ⟨at_some g24, rfl⟩ ⟨rfl, rfl, rfl, rfl⟩ (JO.done rfl (JS.endB (JS.region (JO.reg ttOk 3 [(W (x11 + 1))] [] [(4, .v (.int .i64 (W (x11 + 1))))] _ rfl ⟨⟨trivial, rfl⟩, ⟨rfl, trivial⟩, rfl⟩ (JO.done rfl (JS.endL (n27, (List.set x8 (Int.toNat x11) y19), (W (x11 + 1)), a9, c10) h (Nat.lt_succ_self _) ⟨rfl, (by simp only [List.length_set, List.length_replicate, pickO, getF]; rfl), rfl, trivial⟩ trivial [2] rfl [0] (by simp only [List.length_set, List.length_replicate, pickO, getF]; rfl))))))))
      have h := condF h ht41
      refine JS.exit rfl (JS.endJ (x8, a9, c10) h ⟨rfl, trivial⟩ trivial [] rfl [0] rfl)
    rintro ⟨x31, a32, c33⟩ h
    subst hj42
    refine JS.seq (JS.region (JO.reg ttOk 2 [] [] [(2, .v (.slice a32 x31.length c33))] _ rfl ⟨⟨rfl, trivial⟩, rfl⟩ (JO.done rfl ?_)))
    cases h
    exact JS.ret ttOk (a32, c33) trivial rfl rfl [0] rfl

def M_l_toRing (x0 : List (List Int)) : Option (List (List Int)) :=
  (bindO (M_l_toPieceS x0) fun (y6 : List (List Int)) =>
  some y6)

theorem ok_l_toRing (x0 : List (List Int)) (a2 : Option Addr) (c3 : Nat) (l4 : Nat) (hl5 : x0.length = l4) (r : List (List Int)) (h : M_l_toRing x0 = some r) :
    FC Tryz.prog 62 [.agg #[.slice a2 l4 c3]] [⟨(.sl (.int .i64)), ⟨a2, l4, c3⟩, x0⟩] (fun _ : Option Addr × Nat => True) (fun q => .agg #[.slice q.1 r.length q.2]) (fun q => [⟨(.sl (.int .i64)), ⟨q.1, r.length, q.2⟩, r⟩]) :=
  by
    subst hl5
    refine FC.of (T := TTx) Tryz.call62 Tryz.func62 rfl rfl fun w0 => ?_
    unfold M_l_toRing at h
    refine JS.seq (JS.region (JO.regB ttOk 2 [] [2, 3] [(1, .bp 2 0), (2, .bp 3 0)] (.new 2 27 [.slice a2 x0.length c3] (.new 3 37 [.slice none 0 0] .nil)) rfl ⟨⟨rfl, rfl, trivial⟩, ⟨rfl, rfl, rfl, rfl, rfl, rfl, rfl, rfl, trivial⟩⟩ (JO.done rfl (JS.seq (JS.region (JO.regB ttOk 1 [] [4] [(3, .bp 4 0)] (.new 2 27 [.slice a2 x0.length c3] (.new 3 37 [.slice none 0 0] (.new 4 37 [.slice none 0 0] .nil))) rfl ⟨⟨rfl, trivial⟩, ⟨rfl, rfl, rfl, rfl, rfl, rfl, rfl, rfl, rfl, rfl, rfl, rfl, trivial⟩⟩ (JO.done rfl (JS.seq (JS.region (JO.reg ttOk 2 [] [] [(5, .v (.slice a2 x0.length c3))] _ rfl ⟨⟨rfl, trivial⟩, rfl⟩ ?_))))))))))
    obtain ⟨y6, hy7, h⟩ := bindO_some h
    refine JO.call rfl rfl rfl rfl (ok_l_toPieceS x0 a2 c3 x0.length rfl _ hy7) rfl [0] rfl rfl ?_
    rintro ⟨a8, c9⟩ -
    refine JO.regB ttOk 2 [] [] [] (.new 3 37 [.slice none 0 0] (.new 4 37 [.slice a8 y6.length c9] .nil)) rfl ⟨trivial, ⟨rfl, rfl, rfl, rfl, rfl, rfl, rfl, rfl, trivial⟩⟩ (JO.done rfl (JS.seq (JS.region (JO.regB ttOk 2 [] [] [] (.new 3 37 [.slice a8 y6.length c9] .nil) rfl ⟨trivial, ⟨rfl, rfl, rfl, rfl, trivial⟩⟩ (JO.done rfl ?_)))))
    cases h
    exact JS.ret ttOk (a8, c9) trivial rfl rfl [0] rfl

def M_l_toLineS_L1 (x0 : List (List Int × Int)) (j34 : (List (List Int × Int)) → Option (List (List Int × Int))) (k26 : ((List (List Int × Int)) × Int) → Option (List (List Int × Int))) : ((List (List Int × Int)) × Int) → Option (List (List Int × Int)) := fun (x8, x11) =>
  (bif (decide (x11 < (x0.length : Int))) then
  (guardO (0 ≤ x11 ∧ x11 < (x0.length : Int)) <|
  (bindO (M_l_toLine ((at' x0 x11).1, (at' x0 x11).2)) fun (y19 : List Int × Int) =>
  (guardO (0 ≤ x11 ∧ x11 < (x8.length : Int)) <|
  k26 ((List.set x8 (Int.toNat x11) y19), (W (x11 + 1))))))
  else
  j34 x8)

def M_l_toLineS (x0 : List (List Int × Int)) : Option (List (List Int × Int)) :=
  (guardO (x0.length ≤ 536870912) <|
  (joinO (fun (x31 : List (List Int × Int)) =>
  some x31) fun j34 =>
  (fixF (M_l_toLineS_L1 x0 j34) FUEL ((List.replicate x0.length ([], (0 : Int))), 0))))

theorem ok_l_toLineS (x0 : List (List Int × Int)) (a2 : Option Addr) (c3 : Nat) (l4 : Nat) (hl5 : x0.length = l4) (r : List (List Int × Int)) (h : M_l_toLineS x0 = some r) :
    FC Tryz.prog 161 [.slice a2 l4 c3] [⟨(.pair (.sl (.int .i64)) (.int .i64)), ⟨a2, l4, c3⟩, x0⟩] (fun _ : Option Addr × Nat => True) (fun q => .slice q.1 r.length q.2) (fun q => [⟨(.pair (.sl (.int .i64)) (.int .i64)), ⟨q.1, r.length, q.2⟩, r⟩]) :=
  by
    subst hl5
    refine FC.of (T := TTx) Tryz.call161 Tryz.func161 rfl rfl fun w0 => ?_
    unfold M_l_toLineS at h
    refine JS.seq (JS.region (JO.reg ttOk 1 [] [] [] _ rfl ⟨trivial, rfl⟩ (JO.done rfl (JS.seq (JS.region (JO.reg ttOk 2 [] [] [(6, .v (.int .i64 (x0.length : Int)))] _ rfl ⟨⟨rfl, trivial⟩, rfl⟩ ?_))))))
    obtain ⟨g6, h⟩ := guardO_some h
    refine JO.makeSlice ttOk rfl rfl rfl rfl rfl rfl rfl rfl x0.length rfl g6 (.pair (.sl (.int .i64)) (.int .i64)) rfl rfl rfl rfl rfl fun a7 => JO.reg ttOk 1 [] [] [(3, .v (.slice a7 x0.length x0.length))] _ rfl ⟨⟨rfl, trivial⟩, rfl⟩ (JO.done rfl (JS.seq (JS.seq (JS.region (JO.reg ttOk 1 [] [] [(4, .v (.int .i64 0))] _ rfl ⟨⟨rfl, trivial⟩, rfl⟩ (JO.done rfl ?_))))))
    obtain ⟨j34, hj42, h⟩ := joinO_some h
    refine JS.blockJ (ι := (List (List Int × Int)) × Option Addr × Nat) ⟨fun z => j34 z.1 = some r, fun z => [(3, .v (.slice z.2.1 z.1.length z.2.2))], fun z => .nil, fun z => [], fun z => [⟨(.pair (.sl (.int .i64)) (.int .i64)), ⟨z.2.1, z.1.length, z.2.2⟩, z.1⟩], fun z => 0⟩ ?_ ?_
    · refine JS.loop (ι := Nat × (List (List Int × Int)) × Int × Option Addr × Nat) ⟨fun z => fixF (M_l_toLineS_L1 x0 j34) z.1 (z.2.1, z.2.2.1) = some r, fun z => [(0, .v (.slice a2 x0.length c3)), (3, .v (.slice z.2.2.2.1 z.2.1.length z.2.2.2.2)), (4, .v (.int .i64 z.2.2.1))], fun z => .nil, fun z => [⟨(.pair (.sl (.int .i64)) (.int .i64)), ⟨a2, x0.length, c3⟩, x0⟩], fun z => [⟨(.pair (.sl (.int .i64)) (.int .i64)), ⟨z.2.2.2.1, z.2.1.length, z.2.2.2.2⟩, z.2.1⟩], fun z => z.1⟩ (FUEL, (List.replicate x0.length ([], (0 : Int))), 0, a7, x0.length) h ⟨rfl, (by simp only [List.length_set, List.length_replicate, pickO, getF]; rfl), rfl, trivial⟩ trivial [0] rfl [0] (by simp only [List.length_set, List.length_replicate, pickO, getF]; rfl) ?_
      rintro ⟨n27, x8, x11, a9, c10⟩ h
      obtain ⟨n27, rfl, h⟩ := fixF_some h
      rw [M_l_toLineS_L1] at h
      refine JS.seq (JS.seq (JS.region (JO.reg ttOk 4 [] [] [(11, .v (.bool (decide (x11 < (x0.length : Int)))))] _ rfl ⟨⟨rfl, trivial⟩, rfl⟩ (JO.done rfl ?_))))
      refine JS.cond rfl (fun ht41 => ?_) (fun ht41 => ?_)
      · have h := condT h ht41
        refine JS.skip (JS.seq (JS.block (JS.region (JO.know 0 rfl fun hs39 => ?_))))
        obtain ⟨g13, h⟩ := guardO_some h
        refine JO.reg ttOk 5 [] [] [(14, .v (.slice a9 x8.length c10)), (15, .v (.int .i64 x11)), (18, .ep ⟨a2, x0.length, c3⟩ (Int.toNat x11 * 2))] _ rfl ⟨hs39.ix g13, ⟨rfl, rfl, rfl, trivial⟩, rfl⟩ (JO.openR 0 rfl (Int.toNat x11) (at' x0 x11) rfl fun a14 c15 ys16 hl17 hy18 => JO.loadV ttOk rfl rfl rfl rfl rfl rfl 0 rfl rfl (Int.toNat x11) 0 ((Sl.v ⟨a14, ((at' x0 x11).1).length, c15⟩), (at' x0 x11).2) ⟨hy18 (ltNat g13), rfl⟩ rfl rfl rfl ?_)
        obtain ⟨y19, hy20, h⟩ := bindO_some h
        refine JO.call rfl rfl rfl rfl (ok_l_toLine ((at' x0 x11).1, (at' x0 x11).2) a14 c15 (((at' x0 x11).1).length) rfl _ hy20) rfl [1] rfl rfl ?_
        rintro ⟨a21, c22⟩ -
        refine JO.know 4 rfl fun hs40 => ?_
        obtain ⟨g24, h⟩ := guardO_some h
        refine JO.reg ttOk 1 [] [] [(21, .ep ⟨a9, x8.length, c10⟩ (Int.toNat x11 * 2))] _ rfl ⟨hs40.ix g24, ⟨rfl, trivial⟩, rfl⟩ (JO.storeE ttOk rfl rfl rfl rfl rfl rfl rfl rfl rfl [1, 0] (fs := [⟨(.int .i64), ⟨a21, y19.1.length, c22⟩, y19.1⟩]) rfl (Int.toNat x11) 0 (at' x8 x11) y19 ⟨at_some g24, rfl⟩ ⟨rfl, rfl, rfl, rfl⟩ (JO.done rfl (JS.endB (JS.region (JO.reg ttOk 3 [(W (x11 + 1))] [] [(4, .v (.int .i64 (W (x11 + 1))))] _ rfl ⟨⟨trivial, rfl⟩, ⟨rfl, trivial⟩, rfl⟩ (JO.done rfl (JS.endL (n27, (List.set x8 (Int.toNat x11) y19), (W (x11 + 1)), a9, c10) h (Nat.lt_succ_self _) ⟨rfl, (by simp only [List.length_set, List.length_replicate, pickO, getF]; rfl), rfl, trivial⟩ trivial [2] rfl [0] (by simp only [List.length_set, List.length_replicate, pickO, getF]; rfl))))))))
      have h := condF h ht41
      refine JS.exit rfl (JS.endJ (x8, a9, c10) h ⟨rfl, trivial⟩ trivial [] rfl [0] rfl)
    rintro ⟨x31, a32, c33⟩ h
    subst hj42
    refine JS.seq (JS.region (JO.reg ttOk 2 [] [] [(2, .v (.slice a32 x31.length c33))] _ rfl ⟨⟨rfl, trivial⟩, rfl⟩ (JO.done rfl ?_)))
    cases h
    exact JS.ret ttOk (a32, c33) trivial rfl rfl [0] rfl

def M_l_toUndo (x0 : List (List Int × Int)) : Option (List (List Int × Int)) :=
  (bindO (M_l_toLineS x0) fun (y6 : List (List Int × Int)) =>
  some y6)

theorem ok_l_toUndo (x0 : List (List Int × Int)) (a2 : Option Addr) (c3 : Nat) (l4 : Nat) (hl5 : x0.length = l4) (r : List (List Int × Int)) (h : M_l_toUndo x0 = some r) :
    FC Tryz.prog 63 [.agg #[.slice a2 l4 c3]] [⟨(.pair (.sl (.int .i64)) (.int .i64)), ⟨a2, l4, c3⟩, x0⟩] (fun _ : Option Addr × Nat => True) (fun q => .agg #[.slice q.1 r.length q.2]) (fun q => [⟨(.pair (.sl (.int .i64)) (.int .i64)), ⟨q.1, r.length, q.2⟩, r⟩]) :=
  by
    subst hl5
    refine FC.of (T := TTx) Tryz.call63 Tryz.func63 rfl rfl fun w0 => ?_
    unfold M_l_toUndo at h
    refine JS.seq (JS.region (JO.regB ttOk 2 [] [2, 3] [(1, .bp 2 0), (2, .bp 3 0)] (.new 2 30 [.slice a2 x0.length c3] (.new 3 40 [.slice none 0 0] .nil)) rfl ⟨⟨rfl, rfl, trivial⟩, ⟨rfl, rfl, rfl, rfl, rfl, rfl, rfl, rfl, trivial⟩⟩ (JO.done rfl (JS.seq (JS.region (JO.regB ttOk 1 [] [4] [(3, .bp 4 0)] (.new 2 30 [.slice a2 x0.length c3] (.new 3 40 [.slice none 0 0] (.new 4 40 [.slice none 0 0] .nil))) rfl ⟨⟨rfl, trivial⟩, ⟨rfl, rfl, rfl, rfl, rfl, rfl, rfl, rfl, rfl, rfl, rfl, rfl, trivial⟩⟩ (JO.done rfl (JS.seq (JS.region (JO.reg ttOk 2 [] [] [(5, .v (.slice a2 x0.length c3))] _ rfl ⟨⟨rfl, trivial⟩, rfl⟩ ?_))))))))))
    obtain ⟨y6, hy7, h⟩ := bindO_some h
    refine JO.call rfl rfl rfl rfl (ok_l_toLineS x0 a2 c3 x0.length rfl _ hy7) rfl [0] rfl rfl ?_
    rintro ⟨a8, c9⟩ -
    refine JO.regB ttOk 2 [] [] [] (.new 3 40 [.slice none 0 0] (.new 4 40 [.slice a8 y6.length c9] .nil)) rfl ⟨trivial, ⟨rfl, rfl, rfl, rfl, rfl, rfl, rfl, rfl, trivial⟩⟩ (JO.done rfl (JS.seq (JS.region (JO.regB ttOk 2 [] [] [] (.new 3 40 [.slice a8 y6.length c9] .nil) rfl ⟨trivial, ⟨rfl, rfl, rfl, rfl, trivial⟩⟩ (JO.done rfl ?_)))))
    cases h
    exact JS.ret ttOk (a8, c9) trivial rfl rfl [0] rfl

def M_l_toEd (x0 : Bool × Int × (List Int × Int) × Int × Int × Int × Int × Int × Int × Int × List (List Int) × (List (List Int × Int)) × Int × (List Int × Int) × List Int × Int × List Int × Int) : Option (Bool × Int × (List Int × Int) × Int × Int × Int × Int × Int × Int × Int × List (List Int) × (List (List Int × Int)) × Int × (List Int × Int) × List Int × Int × List Int × Int) :=
  (bindO (M_l_toLine x0.2.2.1) fun (y26 : List Int × Int) =>
  (bindO (M_l_toRing x0.2.2.2.2.2.2.2.2.2.2.1) fun (y30 : List (List Int)) =>
  (bindO (M_l_toUndo x0.2.2.2.2.2.2.2.2.2.2.2.1) fun (y34 : List (List Int × Int)) =>
  (bindO (M_l_toLine x0.2.2.2.2.2.2.2.2.2.2.2.2.2.1) fun (y38 : List Int × Int) =>
  (bindO (M_l_toIntS x0.2.2.2.2.2.2.2.2.2.2.2.2.2.2.1) fun (y42 : List Int) =>
  (bindO (M_l_toLine x0.2.2.2.2.2.2.2.2.2.2.2.2.2.2.2.2) fun (y46 : List Int × Int) =>
  some (x0.1, x0.2.1, y26, x0.2.2.2.1, x0.2.2.2.2.1, x0.2.2.2.2.2.1, x0.2.2.2.2.2.2.1, x0.2.2.2.2.2.2.2.1, x0.2.2.2.2.2.2.2.2.1, x0.2.2.2.2.2.2.2.2.2.1, y30, y34, x0.2.2.2.2.2.2.2.2.2.2.2.2.1, y38, y42, x0.2.2.2.2.2.2.2.2.2.2.2.2.2.2.2.1, y46)))))))

theorem ok_l_toEd (x0 : Bool × Int × (List Int × Int) × Int × Int × Int × Int × Int × Int × Int × List (List Int) × (List (List Int × Int)) × Int × (List Int × Int) × List Int × Int × List Int × Int) (a2 : Option Addr) (c3 : Nat) (l4 : Nat) (hl5 : x0.2.2.1.1.length = l4) (a6 : Option Addr) (c7 : Nat) (l8 : Nat) (hl9 : x0.2.2.2.2.2.2.2.2.2.2.1.length = l8) (a10 : Option Addr) (c11 : Nat) (l12 : Nat) (hl13 : x0.2.2.2.2.2.2.2.2.2.2.2.1.length = l12) (a14 : Option Addr) (c15 : Nat) (l16 : Nat) (hl17 : x0.2.2.2.2.2.2.2.2.2.2.2.2.2.1.1.length = l16) (a18 : Option Addr) (c19 : Nat) (l20 : Nat) (hl21 : x0.2.2.2.2.2.2.2.2.2.2.2.2.2.2.1.length = l20) (a22 : Option Addr) (c23 : Nat) (l24 : Nat) (hl25 : x0.2.2.2.2.2.2.2.2.2.2.2.2.2.2.2.2.1.length = l24) (r : Bool × Int × (List Int × Int) × Int × Int × Int × Int × Int × Int × Int × List (List Int) × (List (List Int × Int)) × Int × (List Int × Int) × List Int × Int × List Int × Int) (h : M_l_toEd x0 = some r) :
    FC Tryz.prog 14 [.agg #[.bool x0.1, .int .i64 x0.2.1, .slice a2 l4 c3, .int .i64 x0.2.2.1.2, .int .i64 x0.2.2.2.1, .int .i64 x0.2.2.2.2.1, .int .i64 x0.2.2.2.2.2.1, .int .i64 x0.2.2.2.2.2.2.1, .int .i64 x0.2.2.2.2.2.2.2.1, .int .i64 x0.2.2.2.2.2.2.2.2.1, .int .i64 x0.2.2.2.2.2.2.2.2.2.1, .slice a6 l8 c7, .slice a10 l12 c11, .int .i64 x0.2.2.2.2.2.2.2.2.2.2.2.2.1, .slice a14 l16 c15, .int .i64 x0.2.2.2.2.2.2.2.2.2.2.2.2.2.1.2, .slice a18 l20 c19, .int .i64 x0.2.2.2.2.2.2.2.2.2.2.2.2.2.2.2.1, .slice a22 l24 c23, .int .i64 x0.2.2.2.2.2.2.2.2.2.2.2.2.2.2.2.2.2]] [⟨(.int .i64), ⟨a2, l4, c3⟩, x0.2.2.1.1⟩, ⟨(.sl (.int .i64)), ⟨a6, l8, c7⟩, x0.2.2.2.2.2.2.2.2.2.2.1⟩, ⟨(.pair (.sl (.int .i64)) (.int .i64)), ⟨a10, l12, c11⟩, x0.2.2.2.2.2.2.2.2.2.2.2.1⟩, ⟨(.int .i64), ⟨a14, l16, c15⟩, x0.2.2.2.2.2.2.2.2.2.2.2.2.2.1.1⟩, ⟨(.int .i64), ⟨a18, l20, c19⟩, x0.2.2.2.2.2.2.2.2.2.2.2.2.2.2.1⟩, ⟨(.int .i64), ⟨a22, l24, c23⟩, x0.2.2.2.2.2.2.2.2.2.2.2.2.2.2.2.2.1⟩] (fun _ : Option Addr × Nat × Option Addr × Nat × Option Addr × Nat × Option Addr × Nat × Option Addr × Nat × Option Addr × Nat => True) (fun q => .agg (cl42 r q.1 q.2.1 q.2.2.1 q.2.2.2.1 q.2.2.2.2.1 q.2.2.2.2.2.1 q.2.2.2.2.2.2.1 q.2.2.2.2.2.2.2.1 q.2.2.2.2.2.2.2.2.1 q.2.2.2.2.2.2.2.2.2.1 q.2.2.2.2.2.2.2.2.2.2.1 q.2.2.2.2.2.2.2.2.2.2.2).toArray) (fun q => [⟨(.int .i64), ⟨q.1, r.2.2.1.1.length, q.2.1⟩, r.2.2.1.1⟩, ⟨(.sl (.int .i64)), ⟨q.2.2.1, r.2.2.2.2.2.2.2.2.2.2.1.length, q.2.2.2.1⟩, r.2.2.2.2.2.2.2.2.2.2.1⟩, ⟨(.pair (.sl (.int .i64)) (.int .i64)), ⟨q.2.2.2.2.1, r.2.2.2.2.2.2.2.2.2.2.2.1.length, q.2.2.2.2.2.1⟩, r.2.2.2.2.2.2.2.2.2.2.2.1⟩, ⟨(.int .i64), ⟨q.2.2.2.2.2.2.1, r.2.2.2.2.2.2.2.2.2.2.2.2.2.1.1.length, q.2.2.2.2.2.2.2.1⟩, r.2.2.2.2.2.2.2.2.2.2.2.2.2.1.1⟩, ⟨(.int .i64), ⟨q.2.2.2.2.2.2.2.2.1, r.2.2.2.2.2.2.2.2.2.2.2.2.2.2.1.length, q.2.2.2.2.2.2.2.2.2.1⟩, r.2.2.2.2.2.2.2.2.2.2.2.2.2.2.1⟩, ⟨(.int .i64), ⟨q.2.2.2.2.2.2.2.2.2.2.1, r.2.2.2.2.2.2.2.2.2.2.2.2.2.2.2.2.1.length, q.2.2.2.2.2.2.2.2.2.2.2⟩, r.2.2.2.2.2.2.2.2.2.2.2.2.2.2.2.2.1⟩]) :=
  by
    subst hl5
    subst hl9
    subst hl13
    subst hl17
    subst hl21
    subst hl25
    refine FC.of (T := TTx) Tryz.call14 Tryz.func14 rfl rfl fun w0 => ?_
    unfold M_l_toEd at h
    refine JS.seq (JS.region (JO.regB ttOk 2 [] [7, 8] [(1, .bp 7 0), (2, .bp 8 0)] (.new 7 32 (cl32 x0 a2 c3 a6 c7 a10 c11 a14 c15 a18 c19 a22 c23) (.new 8 42 (cl42 (false, 0, ([], 0), 0, 0, 0, 0, 0, 0, 0, [], [], 0, ([], 0), [], 0, ([], 0)) none 0 none 0 none 0 none 0 none 0 none 0) .nil)) rfl ⟨⟨rfl, rfl, trivial⟩, ⟨rfl, rfl, rfl, rfl, rfl, rfl, rfl, rfl, trivial⟩⟩ (JO.done rfl (JS.seq (JS.region (JO.regB ttOk 1 [] [9] [(3, .bp 9 0)] (.new 7 32 (cl32 x0 a2 c3 a6 c7 a10 c11 a14 c15 a18 c19 a22 c23) (.new 8 42 (cl42 (false, 0, ([], 0), 0, 0, 0, 0, 0, 0, 0, [], [], 0, ([], 0), [], 0, ([], 0)) none 0 none 0 none 0 none 0 none 0 none 0) (.new 9 42 (cl42 (false, 0, ([], 0), 0, 0, 0, 0, 0, 0, 0, [], [], 0, ([], 0), [], 0, ([], 0)) none 0 none 0 none 0 none 0 none 0 none 0) .nil))) rfl ⟨⟨rfl, trivial⟩, ⟨rfl, rfl, rfl, rfl, rfl, rfl, rfl, rfl, rfl, rfl, rfl, rfl, trivial⟩⟩ (JO.done rfl (JS.seq (JS.region (JO.regB ttOk 4 [] [] [] (.new 7 32 (cl32 x0 a2 c3 a6 c7 a10 c11 a14 c15 a18 c19 a22 c23) (.new 8 42 (cl42 (false, 0, ([], 0), 0, 0, 0, 0, 0, 0, 0, [], [], 0, ([], 0), [], 0, ([], 0)) none 0 none 0 none 0 none 0 none 0 none 0) (.new 9 42 (cl42 (x0.1, 0, ([], 0), 0, 0, 0, 0, 0, 0, 0, [], [], 0, ([], 0), [], 0, ([], 0)) none 0 none 0 none 0 none 0 none 0 none 0) .nil))) rfl ⟨trivial, ⟨rfl, rfl, rfl, rfl, rfl, rfl, rfl, rfl, rfl, rfl, rfl, rfl, trivial⟩⟩ (JO.done rfl (JS.seq (JS.region (JO.regB ttOk 4 [] [] [] (.new 7 32 (cl32 x0 a2 c3 a6 c7 a10 c11 a14 c15 a18 c19 a22 c23) (.new 8 42 (cl42 (false, 0, ([], 0), 0, 0, 0, 0, 0, 0, 0, [], [], 0, ([], 0), [], 0, ([], 0)) none 0 none 0 none 0 none 0 none 0 none 0) (.new 9 42 (cl42 (x0.1, x0.2.1, ([], 0), 0, 0, 0, 0, 0, 0, 0, [], [], 0, ([], 0), [], 0, ([], 0)) none 0 none 0 none 0 none 0 none 0 none 0) .nil))) rfl ⟨trivial, ⟨rfl, rfl, rfl, rfl, rfl, rfl, rfl, rfl, rfl, rfl, rfl, rfl, trivial⟩⟩ (JO.done rfl (JS.seq (JS.region (JO.reg ttOk 2 [] [] [(11, .v (.agg #[.slice a2 x0.2.2.1.1.length c3, .int .i64 x0.2.2.1.2]))] _ rfl ⟨⟨rfl, trivial⟩, rfl⟩ ?_))))))))))))))))))
    obtain ⟨y26, hy27, h⟩ := bindO_some h
    refine JO.call rfl rfl rfl rfl (ok_l_toLine x0.2.2.1 a2 c3 x0.2.2.1.1.length rfl _ hy27) rfl [0] rfl rfl ?_
    rintro ⟨a28, c29⟩ -
    refine JO.regB ttOk 2 [] [] [] (.new 7 32 (cl32 x0 a2 c3 a6 c7 a10 c11 a14 c15 a18 c19 a22 c23) (.new 8 42 (cl42 (false, 0, ([], 0), 0, 0, 0, 0, 0, 0, 0, [], [], 0, ([], 0), [], 0, ([], 0)) none 0 none 0 none 0 none 0 none 0 none 0) (.new 9 42 (cl42 (x0.1, x0.2.1, y26, 0, 0, 0, 0, 0, 0, 0, [], [], 0, ([], 0), [], 0, ([], 0)) a28 c29 none 0 none 0 none 0 none 0 none 0) .nil))) rfl ⟨trivial, ⟨rfl, rfl, rfl, rfl, rfl, rfl, rfl, rfl, rfl, rfl, rfl, rfl, trivial⟩⟩ (JO.done rfl (JS.seq (JS.region (JO.regB ttOk 4 [] [] [] (.new 7 32 (cl32 x0 a2 c3 a6 c7 a10 c11 a14 c15 a18 c19 a22 c23) (.new 8 42 (cl42 (false, 0, ([], 0), 0, 0, 0, 0, 0, 0, 0, [], [], 0, ([], 0), [], 0, ([], 0)) none 0 none 0 none 0 none 0 none 0 none 0) (.new 9 42 (cl42 (x0.1, x0.2.1, y26, x0.2.2.2.1, 0, 0, 0, 0, 0, 0, [], [], 0, ([], 0), [], 0, ([], 0)) a28 c29 none 0 none 0 none 0 none 0 none 0) .nil))) rfl ⟨trivial, ⟨rfl, rfl, rfl, rfl, rfl, rfl, rfl, rfl, rfl, rfl, rfl, rfl, trivial⟩⟩ (JO.done rfl (JS.seq (JS.region (JO.regB ttOk 4 [] [] [] (.new 7 32 (cl32 x0 a2 c3 a6 c7 a10 c11 a14 c15 a18 c19 a22 c23) (.new 8 42 (cl42 (false, 0, ([], 0), 0, 0, 0, 0, 0, 0, 0, [], [], 0, ([], 0), [], 0, ([], 0)) none 0 none 0 none 0 none 0 none 0 none 0) (.new 9 42 (cl42 (x0.1, x0.2.1, y26, x0.2.2.2.1, x0.2.2.2.2.1, 0, 0, 0, 0, 0, [], [], 0, ([], 0), [], 0, ([], 0)) a28 c29 none 0 none 0 none 0 none 0 none 0) .nil))) rfl ⟨trivial, ⟨rfl, rfl, rfl, rfl, rfl, rfl, rfl, rfl, rfl, rfl, rfl, rfl, trivial⟩⟩ (JO.done rfl (JS.seq (JS.region (JO.regB ttOk 4 [] [] [] (.new 7 32 (cl32 x0 a2 c3 a6 c7 a10 c11 a14 c15 a18 c19 a22 c23) (.new 8 42 (cl42 (false, 0, ([], 0), 0, 0, 0, 0, 0, 0, 0, [], [], 0, ([], 0), [], 0, ([], 0)) none 0 none 0 none 0 none 0 none 0 none 0) (.new 9 42 (cl42 (x0.1, x0.2.1, y26, x0.2.2.2.1, x0.2.2.2.2.1, x0.2.2.2.2.2.1, 0, 0, 0, 0, [], [], 0, ([], 0), [], 0, ([], 0)) a28 c29 none 0 none 0 none 0 none 0 none 0) .nil))) rfl ⟨trivial, ⟨rfl, rfl, rfl, rfl, rfl, rfl, rfl, rfl, rfl, rfl, rfl, rfl, trivial⟩⟩ (JO.done rfl (JS.seq (JS.region (JO.regB ttOk 4 [] [] [] (.new 7 32 (cl32 x0 a2 c3 a6 c7 a10 c11 a14 c15 a18 c19 a22 c23) (.new 8 42 (cl42 (false, 0, ([], 0), 0, 0, 0, 0, 0, 0, 0, [], [], 0, ([], 0), [], 0, ([], 0)) none 0 none 0 none 0 none 0 none 0 none 0) (.new 9 42 (cl42 (x0.1, x0.2.1, y26, x0.2.2.2.1, x0.2.2.2.2.1, x0.2.2.2.2.2.1, x0.2.2.2.2.2.2.1, 0, 0, 0, [], [], 0, ([], 0), [], 0, ([], 0)) a28 c29 none 0 none 0 none 0 none 0 none 0) .nil))) rfl ⟨trivial, ⟨rfl, rfl, rfl, rfl, rfl, rfl, rfl, rfl, rfl, rfl, rfl, rfl, trivial⟩⟩ (JO.done rfl (JS.seq (JS.region (JO.regB ttOk 4 [] [] [] (.new 7 32 (cl32 x0 a2 c3 a6 c7 a10 c11 a14 c15 a18 c19 a22 c23) (.new 8 42 (cl42 (false, 0, ([], 0), 0, 0, 0, 0, 0, 0, 0, [], [], 0, ([], 0), [], 0, ([], 0)) none 0 none 0 none 0 none 0 none 0 none 0) (.new 9 42 (cl42 (x0.1, x0.2.1, y26, x0.2.2.2.1, x0.2.2.2.2.1, x0.2.2.2.2.2.1, x0.2.2.2.2.2.2.1, x0.2.2.2.2.2.2.2.1, 0, 0, [], [], 0, ([], 0), [], 0, ([], 0)) a28 c29 none 0 none 0 none 0 none 0 none 0) .nil))) rfl ⟨trivial, ⟨rfl, rfl, rfl, rfl, rfl, rfl, rfl, rfl, rfl, rfl, rfl, rfl, trivial⟩⟩ (JO.done rfl (JS.seq (JS.region ?_)))))))))))))))))))))))
    refine JO.regB ttOk 4 [] [] [] (.new 7 32 (cl32 x0 a2 c3 a6 c7 a10 c11 a14 c15 a18 c19 a22 c23) (.new 8 42 (cl42 (false, 0, ([], 0), 0, 0, 0, 0, 0, 0, 0, [], [], 0, ([], 0), [], 0, ([], 0)) none 0 none 0 none 0 none 0 none 0 none 0) (.new 9 42 (cl42 (x0.1, x0.2.1, y26, x0.2.2.2.1, x0.2.2.2.2.1, x0.2.2.2.2.2.1, x0.2.2.2.2.2.2.1, x0.2.2.2.2.2.2.2.1, x0.2.2.2.2.2.2.2.2.1, 0, [], [], 0, ([], 0), [], 0, ([], 0)) a28 c29 none 0 none 0 none 0 none 0 none 0) .nil))) rfl ⟨trivial, ⟨rfl, rfl, rfl, rfl, rfl, rfl, rfl, rfl, rfl, rfl, rfl, rfl, trivial⟩⟩ (JO.done rfl (JS.seq (JS.region (JO.regB ttOk 4 [] [] [] (.new 7 32 (cl32 x0 a2 c3 a6 c7 a10 c11 a14 c15 a18 c19 a22 c23) (.new 8 42 (cl42 (false, 0, ([], 0), 0, 0, 0, 0, 0, 0, 0, [], [], 0, ([], 0), [], 0, ([], 0)) none 0 none 0 none 0 none 0 none 0 none 0) (.new 9 42 (cl42 (x0.1, x0.2.1, y26, x0.2.2.2.1, x0.2.2.2.2.1, x0.2.2.2.2.2.1, x0.2.2.2.2.2.2.1, x0.2.2.2.2.2.2.2.1, x0.2.2.2.2.2.2.2.2.1, x0.2.2.2.2.2.2.2.2.2.1, [], [], 0, ([], 0), [], 0, ([], 0)) a28 c29 none 0 none 0 none 0 none 0 none 0) .nil))) rfl ⟨trivial, ⟨rfl, rfl, rfl, rfl, rfl, rfl, rfl, rfl, rfl, rfl, rfl, rfl, trivial⟩⟩ (JO.done rfl (JS.seq (JS.region (JO.reg ttOk 2 [] [] [(36, .v (.agg #[.slice a6 x0.2.2.2.2.2.2.2.2.2.2.1.length c7]))] _ rfl ⟨⟨rfl, trivial⟩, rfl⟩ ?_))))))))
    obtain ⟨y30, hy31, h⟩ := bindO_some h
    refine JO.call rfl rfl rfl rfl (ok_l_toRing x0.2.2.2.2.2.2.2.2.2.2.1 a6 c7 x0.2.2.2.2.2.2.2.2.2.2.1.length rfl _ hy31) rfl [1] rfl rfl ?_
    rintro ⟨a32, c33⟩ -
    refine JO.regB ttOk 2 [] [] [] (.new 7 32 (cl32 x0 a2 c3 a6 c7 a10 c11 a14 c15 a18 c19 a22 c23) (.new 8 42 (cl42 (false, 0, ([], 0), 0, 0, 0, 0, 0, 0, 0, [], [], 0, ([], 0), [], 0, ([], 0)) none 0 none 0 none 0 none 0 none 0 none 0) (.new 9 42 (cl42 (x0.1, x0.2.1, y26, x0.2.2.2.1, x0.2.2.2.2.1, x0.2.2.2.2.2.1, x0.2.2.2.2.2.2.1, x0.2.2.2.2.2.2.2.1, x0.2.2.2.2.2.2.2.2.1, x0.2.2.2.2.2.2.2.2.2.1, y30, [], 0, ([], 0), [], 0, ([], 0)) a28 c29 a32 c33 none 0 none 0 none 0 none 0) .nil))) rfl ⟨trivial, ⟨rfl, rfl, rfl, rfl, rfl, rfl, rfl, rfl, rfl, rfl, rfl, rfl, trivial⟩⟩ (JO.done rfl (JS.seq (JS.region (JO.reg ttOk 2 [] [] [(40, .v (.agg #[.slice a10 x0.2.2.2.2.2.2.2.2.2.2.2.1.length c11]))] _ rfl ⟨⟨rfl, trivial⟩, rfl⟩ ?_))))
    obtain ⟨y34, hy35, h⟩ := bindO_some h
    refine JO.call rfl rfl rfl rfl (ok_l_toUndo x0.2.2.2.2.2.2.2.2.2.2.2.1 a10 c11 x0.2.2.2.2.2.2.2.2.2.2.2.1.length rfl _ hy35) rfl [2] rfl rfl ?_
    rintro ⟨a36, c37⟩ -
    refine JO.regB ttOk 2 [] [] [] (.new 7 32 (cl32 x0 a2 c3 a6 c7 a10 c11 a14 c15 a18 c19 a22 c23) (.new 8 42 (cl42 (false, 0, ([], 0), 0, 0, 0, 0, 0, 0, 0, [], [], 0, ([], 0), [], 0, ([], 0)) none 0 none 0 none 0 none 0 none 0 none 0) (.new 9 42 (cl42 (x0.1, x0.2.1, y26, x0.2.2.2.1, x0.2.2.2.2.1, x0.2.2.2.2.2.1, x0.2.2.2.2.2.2.1, x0.2.2.2.2.2.2.2.1, x0.2.2.2.2.2.2.2.2.1, x0.2.2.2.2.2.2.2.2.2.1, y30, y34, 0, ([], 0), [], 0, ([], 0)) a28 c29 a32 c33 a36 c37 none 0 none 0 none 0) .nil))) rfl ⟨trivial, ⟨rfl, rfl, rfl, rfl, rfl, rfl, rfl, rfl, rfl, rfl, rfl, rfl, trivial⟩⟩ (JO.done rfl (JS.seq (JS.region (JO.regB ttOk 4 [] [] [] (.new 7 32 (cl32 x0 a2 c3 a6 c7 a10 c11 a14 c15 a18 c19 a22 c23) (.new 8 42 (cl42 (false, 0, ([], 0), 0, 0, 0, 0, 0, 0, 0, [], [], 0, ([], 0), [], 0, ([], 0)) none 0 none 0 none 0 none 0 none 0 none 0) (.new 9 42 (cl42 (x0.1, x0.2.1, y26, x0.2.2.2.1, x0.2.2.2.2.1, x0.2.2.2.2.2.1, x0.2.2.2.2.2.2.1, x0.2.2.2.2.2.2.2.1, x0.2.2.2.2.2.2.2.2.1, x0.2.2.2.2.2.2.2.2.2.1, y30, y34, x0.2.2.2.2.2.2.2.2.2.2.2.2.1, ([], 0), [], 0, ([], 0)) a28 c29 a32 c33 a36 c37 none 0 none 0 none 0) .nil))) rfl ⟨trivial, ⟨rfl, rfl, rfl, rfl, rfl, rfl, rfl, rfl, rfl, rfl, rfl, rfl, trivial⟩⟩ (JO.done rfl (JS.seq (JS.region (JO.reg ttOk 2 [] [] [(47, .v (.agg #[.slice a14 x0.2.2.2.2.2.2.2.2.2.2.2.2.2.1.1.length c15, .int .i64 x0.2.2.2.2.2.2.2.2.2.2.2.2.2.1.2]))] _ rfl ⟨⟨rfl, trivial⟩, rfl⟩ ?_))))))))
    obtain ⟨y38, hy39, h⟩ := bindO_some h
    refine JO.call rfl rfl rfl rfl (ok_l_toLine x0.2.2.2.2.2.2.2.2.2.2.2.2.2.1 a14 c15 x0.2.2.2.2.2.2.2.2.2.2.2.2.2.1.1.length rfl _ hy39) rfl [3] rfl rfl ?_
    rintro ⟨a40, c41⟩ -
    refine JO.regB ttOk 2 [] [] [] (.new 7 32 (cl32 x0 a2 c3 a6 c7 a10 c11 a14 c15 a18 c19 a22 c23) (.new 8 42 (cl42 (false, 0, ([], 0), 0, 0, 0, 0, 0, 0, 0, [], [], 0, ([], 0), [], 0, ([], 0)) none 0 none 0 none 0 none 0 none 0 none 0) (.new 9 42 (cl42 (x0.1, x0.2.1, y26, x0.2.2.2.1, x0.2.2.2.2.1, x0.2.2.2.2.2.1, x0.2.2.2.2.2.2.1, x0.2.2.2.2.2.2.2.1, x0.2.2.2.2.2.2.2.2.1, x0.2.2.2.2.2.2.2.2.2.1, y30, y34, x0.2.2.2.2.2.2.2.2.2.2.2.2.1, y38, [], 0, ([], 0)) a28 c29 a32 c33 a36 c37 a40 c41 none 0 none 0) .nil))) rfl ⟨trivial, ⟨rfl, rfl, rfl, rfl, rfl, rfl, rfl, rfl, rfl, rfl, rfl, rfl, trivial⟩⟩ (JO.done rfl (JS.seq (JS.region (JO.reg ttOk 2 [] [] [(51, .v (.slice a18 x0.2.2.2.2.2.2.2.2.2.2.2.2.2.2.1.length c19))] _ rfl ⟨⟨rfl, trivial⟩, rfl⟩ ?_))))
    obtain ⟨y42, hy43, h⟩ := bindO_some h
    refine JO.call rfl rfl rfl rfl (ok_l_toIntS x0.2.2.2.2.2.2.2.2.2.2.2.2.2.2.1 a18 c19 x0.2.2.2.2.2.2.2.2.2.2.2.2.2.2.1.length rfl _ hy43) rfl [4] rfl rfl ?_
    rintro ⟨a44, c45⟩ -
    refine JO.regB ttOk 2 [] [] [] (.new 7 32 (cl32 x0 a2 c3 a6 c7 a10 c11 a14 c15 a18 c19 a22 c23) (.new 8 42 (cl42 (false, 0, ([], 0), 0, 0, 0, 0, 0, 0, 0, [], [], 0, ([], 0), [], 0, ([], 0)) none 0 none 0 none 0 none 0 none 0 none 0) (.new 9 42 (cl42 (x0.1, x0.2.1, y26, x0.2.2.2.1, x0.2.2.2.2.1, x0.2.2.2.2.2.1, x0.2.2.2.2.2.2.1, x0.2.2.2.2.2.2.2.1, x0.2.2.2.2.2.2.2.2.1, x0.2.2.2.2.2.2.2.2.2.1, y30, y34, x0.2.2.2.2.2.2.2.2.2.2.2.2.1, y38, y42, 0, ([], 0)) a28 c29 a32 c33 a36 c37 a40 c41 a44 c45 none 0) .nil))) rfl ⟨trivial, ⟨rfl, rfl, rfl, rfl, rfl, rfl, rfl, rfl, rfl, rfl, rfl, rfl, trivial⟩⟩ (JO.done rfl (JS.seq (JS.region (JO.regB ttOk 4 [] [] [] (.new 7 32 (cl32 x0 a2 c3 a6 c7 a10 c11 a14 c15 a18 c19 a22 c23) (.new 8 42 (cl42 (false, 0, ([], 0), 0, 0, 0, 0, 0, 0, 0, [], [], 0, ([], 0), [], 0, ([], 0)) none 0 none 0 none 0 none 0 none 0 none 0) (.new 9 42 (cl42 (x0.1, x0.2.1, y26, x0.2.2.2.1, x0.2.2.2.2.1, x0.2.2.2.2.2.1, x0.2.2.2.2.2.2.1, x0.2.2.2.2.2.2.2.1, x0.2.2.2.2.2.2.2.2.1, x0.2.2.2.2.2.2.2.2.2.1, y30, y34, x0.2.2.2.2.2.2.2.2.2.2.2.2.1, y38, y42, x0.2.2.2.2.2.2.2.2.2.2.2.2.2.2.2.1, ([], 0)) a28 c29 a32 c33 a36 c37 a40 c41 a44 c45 none 0) .nil))) rfl ⟨trivial, ⟨rfl, rfl, rfl, rfl, rfl, rfl, rfl, rfl, rfl, rfl, rfl, rfl, trivial⟩⟩ (JO.done rfl (JS.seq (JS.region (JO.reg ttOk 2 [] [] [(58, .v (.agg #[.slice a22 x0.2.2.2.2.2.2.2.2.2.2.2.2.2.2.2.2.1.length c23, .int .i64 x0.2.2.2.2.2.2.2.2.2.2.2.2.2.2.2.2.2]))] _ rfl ⟨⟨rfl, trivial⟩, rfl⟩ ?_))))))))
    obtain ⟨y46, hy47, h⟩ := bindO_some h
    refine JO.call rfl rfl rfl rfl (ok_l_toLine x0.2.2.2.2.2.2.2.2.2.2.2.2.2.2.2.2 a22 c23 x0.2.2.2.2.2.2.2.2.2.2.2.2.2.2.2.2.1.length rfl _ hy47) rfl [5] rfl rfl ?_
    rintro ⟨a48, c49⟩ -
    refine JO.regB ttOk 2 [] [] [] (.new 8 42 (cl42 (false, 0, ([], 0), 0, 0, 0, 0, 0, 0, 0, [], [], 0, ([], 0), [], 0, ([], 0)) none 0 none 0 none 0 none 0 none 0 none 0) (.new 9 42 (cl42 (x0.1, x0.2.1, y26, x0.2.2.2.1, x0.2.2.2.2.1, x0.2.2.2.2.2.1, x0.2.2.2.2.2.2.1, x0.2.2.2.2.2.2.2.1, x0.2.2.2.2.2.2.2.2.1, x0.2.2.2.2.2.2.2.2.2.1, y30, y34, x0.2.2.2.2.2.2.2.2.2.2.2.2.1, y38, y42, x0.2.2.2.2.2.2.2.2.2.2.2.2.2.2.2.1, y46) a28 c29 a32 c33 a36 c37 a40 c41 a44 c45 a48 c49) .nil)) rfl ⟨trivial, ⟨rfl, rfl, rfl, rfl, rfl, rfl, rfl, rfl, trivial⟩⟩ (JO.done rfl (JS.seq (JS.region (JO.regB ttOk 2 [] [] [] (.new 8 42 (cl42 (x0.1, x0.2.1, y26, x0.2.2.2.1, x0.2.2.2.2.1, x0.2.2.2.2.2.1, x0.2.2.2.2.2.2.1, x0.2.2.2.2.2.2.2.1, x0.2.2.2.2.2.2.2.2.1, x0.2.2.2.2.2.2.2.2.2.1, y30, y34, x0.2.2.2.2.2.2.2.2.2.2.2.2.1, y38, y42, x0.2.2.2.2.2.2.2.2.2.2.2.2.2.2.2.1, y46) a28 c29 a32 c33 a36 c37 a40 c41 a44 c45 a48 c49) .nil) rfl ⟨trivial, ⟨rfl, rfl, rfl, rfl, trivial⟩⟩ (JO.done rfl ?_)))))
    cases h
    exact JS.ret ttOk (a28, c29, a32, c33, a36, c37, a40, c41, a44, c45, a48, c49) trivial rfl rfl [5, 4, 3, 2, 1, 0] rfl

def M_s_RuneOk (x0 : Int) : Option Bool :=
  some (bif (bif (decide (0 ≤ x0)) then (decide (x0 ≤ 1114111)) else false) then (bif (decide (x0 < 55296)) then true else (decide (57343 < x0))) else false)

theorem ok_s_RuneOk (x0 : Int) (r : Bool) (h : M_s_RuneOk x0 = some r) :
    FC Tryz.prog 242 [.int .i64 x0] [] (fun _ : Unit => True) (fun _ => .bool r) (fun _ => []) :=
  by
    refine FC.of (T := TTx) Tryz.call242 Tryz.func242 rfl rfl fun w0 => ?_
    unfold M_s_RuneOk at h
    refine JS.seq (JS.region (JO.reg ttOk 1 [] [] [] _ rfl ⟨trivial, rfl⟩ (JO.done rfl (JS.seq (JS.region (JO.reg ttOk 15 [] [] [(2, .v (.bool (bif (bif (decide (0 ≤ x0)) then (decide (x0 ≤ 1114111)) else false) then (bif (decide (x0 < 55296)) then true else (decide (57343 < x0))) else false)))] _ rfl ⟨⟨rfl, trivial⟩, rfl⟩ (JO.done rfl ?_)))))))
    cases h
    exact JS.ret ttOk () trivial rfl rfl [] rfl

def M_s_Printable (x0 : Int) : Option Bool :=
  (bindO (M_s_RuneOk x0) fun (y2 : Bool) =>
  some (bif (bif y2 then (decide (32 ≤ x0)) else false) then (bif (decide (x0 < 127)) then true else (decide (159 < x0))) else false))

theorem ok_s_Printable (x0 : Int) (r : Bool) (h : M_s_Printable x0 = some r) :
    FC Tryz.prog 152 [.int .i64 x0] [] (fun _ : Unit => True) (fun _ => .bool r) (fun _ => []) :=
  by
    refine FC.of (T := TTx) Tryz.call152 Tryz.func152 rfl rfl fun w0 => ?_
    unfold M_s_Printable at h
    refine JS.seq (JS.region (JO.reg ttOk 1 [] [] [] _ rfl ⟨trivial, rfl⟩ (JO.done rfl (JS.seq (JS.region (JO.reg ttOk 1 [] [] [(3, .v (.int .i64 x0))] _ rfl ⟨⟨rfl, trivial⟩, rfl⟩ ?_))))))
    obtain ⟨y2, hy3, h⟩ := bindO_some h
    refine JO.call rfl rfl rfl rfl (ok_s_RuneOk x0 _ hy3) rfl [] rfl rfl fun _ _ => JO.reg ttOk 13 [] [] [(2, .v (.bool (bif (bif y2 then (decide (32 ≤ x0)) else false) then (bif (decide (x0 < 127)) then true else (decide (159 < x0))) else false)))] _ rfl ⟨⟨rfl, trivial⟩, rfl⟩ (JO.done rfl ?_)
    cases h
    exact JS.ret ttOk () trivial rfl rfl [] rfl

def M_s_l13Typed (x0 : Int) : Option Bool :=
  (bindO (M_s_Printable x0) fun (y2 : Bool) =>
  some (bif (bif y2 then true else (decide (x0 = 9))) then true else (decide (x0 = 10))))

theorem ok_s_l13Typed (x0 : Int) (r : Bool) (h : M_s_l13Typed x0 = some r) :
    FC Tryz.prog 286 [.int .i64 x0] [] (fun _ : Unit => True) (fun _ => .bool r) (fun _ => []) :=
  by
    refine FC.of (T := TTx) Tryz.call286 Tryz.func286 rfl rfl fun w0 => ?_
    unfold M_s_l13Typed at h
    refine JS.seq (JS.region (JO.reg ttOk 1 [] [] [] _ rfl ⟨trivial, rfl⟩ (JO.done rfl (JS.seq (JS.region (JO.reg ttOk 1 [] [] [(3, .v (.int .i64 x0))] _ rfl ⟨⟨rfl, trivial⟩, rfl⟩ ?_))))))
    obtain ⟨y2, hy3, h⟩ := bindO_some h
    refine JO.call rfl rfl rfl rfl (ok_s_Printable x0 _ hy3) rfl [] rfl rfl fun _ _ => JO.reg ttOk 9 [] [] [(2, .v (.bool (bif (bif y2 then true else (decide (x0 = 9))) then true else (decide (x0 = 10)))))] _ rfl ⟨⟨rfl, trivial⟩, rfl⟩ (JO.done rfl ?_)
    cases h
    exact JS.ret ttOk () trivial rfl rfl [] rfl

def M_s_l13AllTyped_L1 (x0 : List Int) (j18 : Unit → Option Bool) (k13 : Int → Option Bool) : Int → Option Bool := fun x6 =>
  (bif (decide (x6 < (x0.length : Int))) then
  (guardO (0 ≤ x6 ∧ x6 < (x0.length : Int)) <|
  (bindO (M_s_l13Typed (at' x0 x6)) fun (y9 : Bool) =>
  (bif (!y9) then
  some false
  else
  k13 (W (x6 + 1)))))
  else
  j18 ())

def M_s_l13AllTyped (x0 : List Int) : Option Bool :=
  (joinO (fun (_ : Unit) =>
  some true) fun j18 =>
  (fixF (M_s_l13AllTyped_L1 x0 j18) FUEL 0))

theorem ok_s_l13AllTyped (x0 : List Int) (a2 : Option Addr) (c3 : Nat) (l4 : Nat) (hl5 : x0.length = l4) (r : Bool) (h : M_s_l13AllTyped x0 = some r) :
    FC Tryz.prog 240 [.slice a2 l4 c3] [⟨(.int .i64), ⟨a2, l4, c3⟩, x0⟩] (fun _ : Unit => True) (fun _ => .bool r) (fun _ => []) :=
  by
    subst hl5
    refine FC.of (T := TTx) Tryz.call240 Tryz.func240 rfl rfl fun w0 => ?_
    unfold M_s_l13AllTyped at h
    refine JS.seq (JS.region (JO.reg ttOk 1 [] [] [] _ rfl ⟨trivial, rfl⟩ (JO.done rfl (JS.seq (JS.seq (JS.region (JO.reg ttOk 3 [] [] [(5, .v (.slice a2 x0.length c3)), (6, .v (.int .i64 (x0.length : Int))), (7, .v (.int .i64 0))] _ rfl ⟨⟨rfl, rfl, rfl, trivial⟩, rfl⟩ (JO.done rfl ?_))))))))
    obtain ⟨j18, hj26, h⟩ := joinO_some h
    refine JS.blockJ (ι := Unit) ⟨fun _ => j18 () = some r, fun _ => [], fun _ => .nil, fun _ => [], fun _ => [], fun _ => 0⟩ ?_ ?_
    · refine JS.loop (ι := Nat × Int) ⟨fun z => fixF (M_s_l13AllTyped_L1 x0 j18) z.1 z.2 = some r, fun z => [(5, .v (.slice a2 x0.length c3)), (6, .v (.int .i64 (x0.length : Int))), (7, .v (.int .i64 z.2))], fun z => .nil, fun z => [⟨(.int .i64), ⟨a2, x0.length, c3⟩, x0⟩], fun z => [], fun z => z.1⟩ (FUEL, 0) h ⟨rfl, rfl, rfl, trivial⟩ trivial [0] rfl [] rfl ?_
      rintro ⟨n14, x6⟩ h
      obtain ⟨n14, rfl, h⟩ := fixF_some h
      rw [M_s_l13AllTyped_L1] at h
      refine JS.seq (JS.region (JO.reg ttOk 1 [] [] [(8, .v (.bool (decide (x6 < (x0.length : Int)))))] _ rfl ⟨⟨rfl, trivial⟩, rfl⟩ (JO.done rfl (JS.seq ?_))))
      refine JS.cond rfl (fun ht25 => ?_) (fun ht25 => ?_)
      · have h := condT h ht25
        refine JS.skip (JS.seq (JS.block (JS.seq (JS.region (JO.know 0 rfl fun hs23 => ?_)))))
        obtain ⟨g8, h⟩ := guardO_some h
        refine JO.reg ttOk 1 [] [] [(9, .ep ⟨a2, x0.length, c3⟩ (Int.toNat x6 * 1))] _ rfl ⟨hs23.ix g8, ⟨rfl, trivial⟩, rfl⟩ (JO.load ttOk rfl rfl rfl rfl rfl rfl rfl 0 rfl rfl (Int.toNat x6) 0 (at' x0 x6) ⟨at_some g8, rfl⟩ rfl rfl (JO.reg ttOk 1 [] [] [(4, .v (.int .i64 (at' x0 x6)))] _ rfl ⟨⟨rfl, trivial⟩, rfl⟩ (JO.done rfl (JS.seq (JS.region (JO.reg ttOk 1 [] [] [(11, .v (.int .i64 (at' x0 x6)))] _ rfl ⟨⟨rfl, trivial⟩, rfl⟩ ?_))))))
        obtain ⟨y9, hy10, h⟩ := bindO_some h
        refine JO.call rfl rfl rfl rfl (ok_s_l13Typed (at' x0 x6) _ hy10) rfl [] rfl rfl fun _ _ => JO.reg ttOk 1 [] [] [(13, .v (.bool (!y9)))] _ rfl ⟨⟨rfl, trivial⟩, rfl⟩ (JO.done rfl ?_)
        refine JS.cond rfl (fun ht24 => ?_) (fun ht24 => ?_)
        · have h := condT h ht24
          refine JS.seq (JS.region (JO.reg ttOk 1 [] [] [(2, .v (.bool false))] _ rfl ⟨⟨rfl, trivial⟩, rfl⟩ (JO.done rfl ?_)))
          cases h
          exact JS.ret ttOk () trivial rfl rfl [] rfl
        have h := condF h ht24
        refine JS.skip (JS.endB (JS.region (JO.reg ttOk 2 [(W (x6 + 1))] [] [(7, .v (.int .i64 (W (x6 + 1))))] _ rfl ⟨⟨trivial, rfl⟩, ⟨rfl, trivial⟩, rfl⟩ (JO.done rfl (JS.endL (n14, (W (x6 + 1))) h (Nat.lt_succ_self _) ⟨rfl, rfl, rfl, trivial⟩ trivial [0] rfl [] rfl)))))
      have h := condF h ht25
      refine JS.exit rfl (JS.endJ () h trivial trivial [] rfl [] rfl)
    rintro _ h
    subst hj26
    refine JS.seq (JS.region (JO.reg ttOk 1 [] [] [(2, .v (.bool true))] _ rfl ⟨⟨rfl, trivial⟩, rfl⟩ (JO.done rfl ?_)))
    cases h
    exact JS.ret ttOk () trivial rfl rfl [] rfl

def M_s_LineOk (x0 : List Int × Int) : Option Bool :=
  (callO ((decide ((x0.1.length : Int) ≤ 400)) = true) (M_s_l13AllTyped x0.1) false fun (y6 : Bool) =>
  some (bif (bif (bif (decide ((x0.1.length : Int) ≤ 400)) then y6 else false) then (decide (0 ≤ x0.2)) else false) then (decide (x0.2 ≤ (x0.1.length : Int))) else false))

theorem ok_s_LineOk (x0 : List Int × Int) (a2 : Option Addr) (c3 : Nat) (l4 : Nat) (hl5 : x0.1.length = l4) (r : Bool) (h : M_s_LineOk x0 = some r) :
    FC Tryz.prog 148 [.agg #[.slice a2 l4 c3, .int .i64 x0.2]] [⟨(.int .i64), ⟨a2, l4, c3⟩, x0.1⟩] (fun _ : Unit => True) (fun _ => .bool r) (fun _ => []) :=
  by
    subst hl5
    refine FC.of (T := TTx) Tryz.call148 Tryz.func148 rfl rfl fun w0 => ?_
    unfold M_s_LineOk at h
    refine JS.seq (JS.region (JO.regB ttOk 2 [] [2] [(1, .bp 2 0)] (.new 2 34 [.slice a2 x0.1.length c3, .int .i64 x0.2] .nil) rfl ⟨⟨rfl, trivial⟩, ⟨rfl, rfl, rfl, rfl, trivial⟩⟩ (JO.done rfl (JS.seq (JS.region (JO.reg ttOk 7 [] [] [(7, .v (.bool (decide ((x0.1.length : Int) ≤ 400)))), (9, .cd [(7, true)] (.v (.slice a2 x0.1.length c3)))] _ rfl ⟨⟨rfl, rfl, trivial⟩, rfl⟩ ?_))))))
    obtain ⟨y6, hy7, -, h⟩ := callO_some h
    refine JO.callg rfl rfl rfl rfl (fun q9 => ok_s_l13AllTyped x0.1 a2 c3 x0.1.length rfl _ (hy7 q9)) rfl [0] rfl rfl (JO.reg ttOk 15 [] [] [(2, .v (.bool (bif (bif (bif (decide ((x0.1.length : Int) ≤ 400)) then y6 else false) then (decide (0 ≤ x0.2)) else false) then (decide (x0.2 ≤ (x0.1.length : Int))) else false)))] _ rfl ⟨⟨rfl, trivial⟩, rfl⟩ (JO.done rfl ?_))
    cases h
    exact JS.ret ttOk () trivial rfl rfl [] rfl

def M_s_l21Empty (x0 : List Int × Int) : Option Bool :=
  some (bif (decide ((x0.1.length : Int) = 0)) then (decide (x0.2 = 0)) else false)

theorem ok_s_l21Empty (x0 : List Int × Int) (a2 : Option Addr) (c3 : Nat) (l4 : Nat) (hl5 : x0.1.length = l4) (r : Bool) (h : M_s_l21Empty x0 = some r) :
    FC Tryz.prog 153 [.agg #[.slice a2 l4 c3, .int .i64 x0.2]] [⟨(.int .i64), ⟨a2, l4, c3⟩, x0.1⟩] (fun _ : Unit => True) (fun _ => .bool r) (fun _ => []) :=
  by
    subst hl5
    refine FC.of (T := TTx) Tryz.call153 Tryz.func153 rfl rfl fun w0 => ?_
    unfold M_s_l21Empty at h
    refine JS.seq (JS.region (JO.regB ttOk 2 [] [2] [(1, .bp 2 0)] (.new 2 34 [.slice a2 x0.1.length c3, .int .i64 x0.2] .nil) rfl ⟨⟨rfl, trivial⟩, ⟨rfl, rfl, rfl, rfl, trivial⟩⟩ (JO.done rfl (JS.seq (JS.region (JO.reg ttOk 10 [] [] [(2, .v (.bool (bif (decide ((x0.1.length : Int) = 0)) then (decide (x0.2 = 0)) else false)))] _ rfl ⟨⟨rfl, trivial⟩, rfl⟩ (JO.done rfl ?_)))))))
    cases h
    exact JS.ret ttOk () trivial rfl rfl [] rfl

def M_s_l03HasInt_L1 (x0 : List Int) (x1 : Int) (j17 : Unit → Option Bool) (k12 : Int → Option Bool) : Int → Option Bool := fun x7 =>
  (bif (decide (x7 < (x0.length : Int))) then
  (guardO (0 ≤ x7 ∧ x7 < (x0.length : Int)) <|
  (bif (decide ((at' x0 x7) = x1)) then
  some true
  else
  k12 (W (x7 + 1))))
  else
  j17 ())

def M_s_l03HasInt (x0 : List Int) (x1 : Int) : Option Bool :=
  (joinO (fun (_ : Unit) =>
  some false) fun j17 =>
  (fixF (M_s_l03HasInt_L1 x0 x1 j17) FUEL 0))

theorem ok_s_l03HasInt (x0 : List Int) (x1 : Int) (a3 : Option Addr) (c4 : Nat) (l5 : Nat) (hl6 : x0.length = l5) (r : Bool) (h : M_s_l03HasInt x0 x1 = some r) :
    FC Tryz.prog 287 [.slice a3 l5 c4, .int .i64 x1] [⟨(.int .i64), ⟨a3, l5, c4⟩, x0⟩] (fun _ : Unit => True) (fun _ => .bool r) (fun _ => []) :=
  by
    subst hl6
    refine FC.of (T := TTx) Tryz.call287 Tryz.func287 rfl rfl fun w0 => ?_
    unfold M_s_l03HasInt at h
    refine JS.seq (JS.region (JO.reg ttOk 1 [] [] [] _ rfl ⟨trivial, rfl⟩ (JO.done rfl (JS.seq (JS.seq (JS.region (JO.reg ttOk 3 [] [] [(7, .v (.slice a3 x0.length c4)), (8, .v (.int .i64 (x0.length : Int))), (9, .v (.int .i64 0))] _ rfl ⟨⟨rfl, rfl, rfl, trivial⟩, rfl⟩ (JO.done rfl ?_))))))))
    obtain ⟨j17, hj25, h⟩ := joinO_some h
    refine JS.blockJ (ι := Unit) ⟨fun _ => j17 () = some r, fun _ => [], fun _ => .nil, fun _ => [], fun _ => [], fun _ => 0⟩ ?_ ?_
    · refine JS.loop (ι := Nat × Int) ⟨fun z => fixF (M_s_l03HasInt_L1 x0 x1 j17) z.1 z.2 = some r, fun z => [(1, .v (.int .i64 x1)), (7, .v (.slice a3 x0.length c4)), (8, .v (.int .i64 (x0.length : Int))), (9, .v (.int .i64 z.2))], fun z => .nil, fun z => [⟨(.int .i64), ⟨a3, x0.length, c4⟩, x0⟩], fun z => [], fun z => z.1⟩ (FUEL, 0) h ⟨rfl, rfl, rfl, rfl, trivial⟩ trivial [0] rfl [] rfl ?_
      rintro ⟨n13, x7⟩ h
      obtain ⟨n13, rfl, h⟩ := fixF_some h
      rw [M_s_l03HasInt_L1] at h
      refine JS.seq (JS.region (JO.reg ttOk 1 [] [] [(10, .v (.bool (decide (x7 < (x0.length : Int)))))] _ rfl ⟨⟨rfl, trivial⟩, rfl⟩ (JO.done rfl (JS.seq ?_))))
      refine JS.cond rfl (fun ht24 => ?_) (fun ht24 => ?_)
      · have h := condT h ht24
        refine JS.skip (JS.seq (JS.block (JS.seq (JS.region (JO.know 0 rfl fun hs22 => ?_)))))
        obtain ⟨g9, h⟩ := guardO_some h
        refine JO.reg ttOk 1 [] [] [(11, .ep ⟨a3, x0.length, c4⟩ (Int.toNat x7 * 1))] _ rfl ⟨hs22.ix g9, ⟨rfl, trivial⟩, rfl⟩ (JO.load ttOk rfl rfl rfl rfl rfl rfl rfl 0 rfl rfl (Int.toNat x7) 0 (at' x0 x7) ⟨at_some g9, rfl⟩ rfl rfl (JO.reg ttOk 1 [] [] [(6, .v (.int .i64 (at' x0 x7)))] _ rfl ⟨⟨rfl, trivial⟩, rfl⟩ (JO.done rfl (JS.seq (JS.region (JO.reg ttOk 3 [] [] [(15, .v (.bool (decide ((at' x0 x7) = x1))))] _ rfl ⟨⟨rfl, trivial⟩, rfl⟩ (JO.done rfl ?_)))))))
        refine JS.cond rfl (fun ht23 => ?_) (fun ht23 => ?_)
        · have h := condT h ht23
          refine JS.seq (JS.region (JO.reg ttOk 1 [] [] [(4, .v (.bool true))] _ rfl ⟨⟨rfl, trivial⟩, rfl⟩ (JO.done rfl ?_)))
          cases h
          exact JS.ret ttOk () trivial rfl rfl [] rfl
        have h := condF h ht23
        refine JS.skip (JS.endB (JS.region (JO.reg ttOk 2 [(W (x7 + 1))] [] [(9, .v (.int .i64 (W (x7 + 1))))] _ rfl ⟨⟨trivial, rfl⟩, ⟨rfl, trivial⟩, rfl⟩ (JO.done rfl (JS.endL (n13, (W (x7 + 1))) h (Nat.lt_succ_self _) ⟨rfl, rfl, rfl, rfl, trivial⟩ trivial [0] rfl [] rfl)))))
      have h := condF h ht24
      refine JS.exit rfl (JS.endJ () h trivial trivial [] rfl [] rfl)
    rintro _ h
    subst hj25
    refine JS.seq (JS.region (JO.reg ttOk 1 [] [] [(4, .v (.bool false))] _ rfl ⟨⟨rfl, trivial⟩, rfl⟩ (JO.done rfl ?_)))
    cases h
    exact JS.ret ttOk () trivial rfl rfl [] rfl

def M_s_l21Among (x0 : Int) (x1 : List Int) : Option Bool :=
  (bindO (M_s_l03HasInt x1 x0) fun (y7 : Bool) =>
  some y7)

theorem ok_s_l21Among (x0 : Int) (x1 : List Int) (a3 : Option Addr) (c4 : Nat) (l5 : Nat) (hl6 : x1.length = l5) (r : Bool) (h : M_s_l21Among x0 x1 = some r) :
    FC Tryz.prog 241 [.int .i64 x0, .slice a3 l5 c4] [⟨(.int .i64), ⟨a3, l5, c4⟩, x1⟩] (fun _ : Unit => True) (fun _ => .bool r) (fun _ => []) :=
  by
    subst hl6
    refine FC.of (T := TTx) Tryz.call241 Tryz.func241 rfl rfl fun w0 => ?_
    unfold M_s_l21Among at h
    refine JS.seq (JS.region (JO.reg ttOk 1 [] [] [] _ rfl ⟨trivial, rfl⟩ (JO.done rfl (JS.seq (JS.region (JO.reg ttOk 2 [] [] [(5, .v (.slice a3 x1.length c4)), (6, .v (.int .i64 x0))] _ rfl ⟨⟨rfl, rfl, trivial⟩, rfl⟩ ?_))))))
    obtain ⟨y7, hy8, h⟩ := bindO_some h
    refine JO.call rfl rfl rfl rfl (ok_s_l03HasInt x1 x0 a3 c4 x1.length rfl _ hy8) rfl [0] rfl rfl fun _ _ => JO.reg ttOk 1 [] [] [(4, .v (.bool y7))] _ rfl ⟨⟨rfl, trivial⟩, rfl⟩ (JO.done rfl ?_)
    cases h
    exact JS.ret ttOk () trivial rfl rfl [] rfl

def M_s_l21Mode (x0 : Bool × Int × (List Int × Int) × Int × Int × Int × Int × Int × Int × Int × List (List Int) × (List (List Int × Int)) × Int × (List Int × Int) × List Int × Int × List Int × Int) : Option Bool :=
  (bif (bif (bif (bif (bif (decide (x0.2.1 = 0)) then x0.1 else false) then true else (bif (bif (decide (x0.2.1 = 1)) then true else (decide (x0.2.1 = 2))) then (!x0.1) else false)) then true else (decide (x0.2.1 < 0))) then true else (decide (3 < x0.2.1))) then
  some false
  else
  (bif (bif (bif (decide (x0.2.1 = 2)) then (decide (0 < (x0.2.2.1.1.length : Int))) else false) then (decide (x0.2.2.1.2 = (x0.2.2.1.1.length : Int))) else false) then
  some false
  else
  (bif (bif (!(decide (x0.2.1 = 2))) then (bif (bif (!(decide (x0.2.2.2.2.1 = 0))) then true else (!(decide (x0.2.2.2.2.2.1 = 0)))) then true else (!(decide (x0.2.2.2.2.2.2.1 = 0)))) else false) then
  some false
  else
  (callO ((bif (decide (0 < (x0.2.2.2.2.2.2.2.2.2.2.2.2.2.2.1.length : Int))) then true else (!(decide (x0.2.2.2.2.2.2.2.2.2.2.2.2.2.2.2.1 = 0)))) = false ∧ (!(decide (x0.2.1 = 3))) = true) (M_s_l21Empty x0.2.2.2.2.2.2.2.2.2.2.2.2.2.2.2.2) false fun (y26 : Bool) =>
  (bif (bif (!(decide (x0.2.1 = 3))) then (bif (bif (decide (0 < (x0.2.2.2.2.2.2.2.2.2.2.2.2.2.2.1.length : Int))) then true else (!(decide (x0.2.2.2.2.2.2.2.2.2.2.2.2.2.2.2.1 = 0)))) then true else (!y26)) else false) then
  some false
  else
  (bindO (M_s_l21Among x0.2.2.2.2.1 ([0, 100, 99, 121] : List Int)) fun (y31 : Bool) =>
  (callO (y31 = true) (M_s_l21Among x0.2.2.2.2.2.2.1 (gl y31 ([0, 102, 70, 116, 84, 114] : List Int))) false fun (y34 : Bool) =>
  some (bif (bif y31 then y34 else false) then (bif (!(decide (x0.2.2.2.2.1 = 0))) then true else (decide (x0.2.2.2.2.2.1 = 0))) else false))))))))

theorem ok_s_l21Mode (x0 : Bool × Int × (List Int × Int) × Int × Int × Int × Int × Int × Int × Int × List (List Int) × (List (List Int × Int)) × Int × (List Int × Int) × List Int × Int × List Int × Int) (a2 : Option Addr) (c3 : Nat) (l4 : Nat) (hl5 : x0.2.2.1.1.length = l4) (a6 : Option Addr) (c7 : Nat) (l8 : Nat) (hl9 : x0.2.2.2.2.2.2.2.2.2.2.1.length = l8) (a10 : Option Addr) (c11 : Nat) (l12 : Nat) (hl13 : x0.2.2.2.2.2.2.2.2.2.2.2.1.length = l12) (a14 : Option Addr) (c15 : Nat) (l16 : Nat) (hl17 : x0.2.2.2.2.2.2.2.2.2.2.2.2.2.1.1.length = l16) (a18 : Option Addr) (c19 : Nat) (l20 : Nat) (hl21 : x0.2.2.2.2.2.2.2.2.2.2.2.2.2.2.1.length = l20) (a22 : Option Addr) (c23 : Nat) (l24 : Nat) (hl25 : x0.2.2.2.2.2.2.2.2.2.2.2.2.2.2.2.2.1.length = l24) (r : Bool) (h : M_s_l21Mode x0 = some r) :
    FC Tryz.prog 149 [.agg #[.bool x0.1, .int .i64 x0.2.1, .slice a2 l4 c3, .int .i64 x0.2.2.1.2, .int .i64 x0.2.2.2.1, .int .i64 x0.2.2.2.2.1, .int .i64 x0.2.2.2.2.2.1, .int .i64 x0.2.2.2.2.2.2.1, .int .i64 x0.2.2.2.2.2.2.2.1, .int .i64 x0.2.2.2.2.2.2.2.2.1, .int .i64 x0.2.2.2.2.2.2.2.2.2.1, .slice a6 l8 c7, .slice a10 l12 c11, .int .i64 x0.2.2.2.2.2.2.2.2.2.2.2.2.1, .slice a14 l16 c15, .int .i64 x0.2.2.2.2.2.2.2.2.2.2.2.2.2.1.2, .slice a18 l20 c19, .int .i64 x0.2.2.2.2.2.2.2.2.2.2.2.2.2.2.2.1, .slice a22 l24 c23, .int .i64 x0.2.2.2.2.2.2.2.2.2.2.2.2.2.2.2.2.2]] [⟨(.int .i64), ⟨a2, l4, c3⟩, x0.2.2.1.1⟩, ⟨(.sl (.int .i64)), ⟨a6, l8, c7⟩, x0.2.2.2.2.2.2.2.2.2.2.1⟩, ⟨(.pair (.sl (.int .i64)) (.int .i64)), ⟨a10, l12, c11⟩, x0.2.2.2.2.2.2.2.2.2.2.2.1⟩, ⟨(.int .i64), ⟨a14, l16, c15⟩, x0.2.2.2.2.2.2.2.2.2.2.2.2.2.1.1⟩, ⟨(.int .i64), ⟨a18, l20, c19⟩, x0.2.2.2.2.2.2.2.2.2.2.2.2.2.2.1⟩, ⟨(.int .i64), ⟨a22, l24, c23⟩, x0.2.2.2.2.2.2.2.2.2.2.2.2.2.2.2.2.1⟩] (fun _ : Unit => True) (fun _ => .bool r) (fun _ => []) :=
  by
    subst hl5
    subst hl9
    subst hl13
    subst hl17
    subst hl21
    subst hl25
    refine FC.of (T := TTx) Tryz.call149 Tryz.func149 rfl rfl fun w0 => ?_
    unfold M_s_l21Mode at h
    refine JS.seq (JS.region (JO.regB ttOk 2 [] [7] [(1, .bp 7 0)] (.new 7 42 (cl42 x0 a2 c3 a6 c7 a10 c11 a14 c15 a18 c19 a22 c23) .nil) rfl ⟨⟨rfl, trivial⟩, ⟨rfl, rfl, rfl, rfl, trivial⟩⟩ (JO.done rfl (JS.seq (JS.seq (JS.region (JO.reg ttOk 32 [] [] [(34, .v (.bool (bif (bif (bif (bif (decide (x0.2.1 = 0)) then x0.1 else false) then true else (bif (bif (decide (x0.2.1 = 1)) then true else (decide (x0.2.1 = 2))) then (!x0.1) else false)) then true else (decide (x0.2.1 < 0))) then true else (decide (3 < x0.2.1)))))] _ rfl ⟨⟨rfl, trivial⟩, rfl⟩ (JO.done rfl ?_))))))))
    refine JS.cond rfl (fun ht47 => ?_) (fun ht47 => ?_)
    · have h := condT h ht47
      refine JS.seq (JS.region (JO.reg ttOk 1 [] [] [(2, .v (.bool false))] _ rfl ⟨⟨rfl, trivial⟩, rfl⟩ (JO.done rfl ?_)))
      cases h
      exact JS.ret ttOk () trivial rfl rfl [] rfl
    have h := condF h ht47
    refine JS.skip (JS.seq (JS.seq (JS.region (JO.reg ttOk 20 [] [] [(54, .v (.bool (bif (bif (decide (x0.2.1 = 2)) then (decide (0 < (x0.2.2.1.1.length : Int))) else false) then (decide (x0.2.2.1.2 = (x0.2.2.1.1.length : Int))) else false)))] _ rfl ⟨⟨rfl, trivial⟩, rfl⟩ (JO.done rfl ?_)))))
    refine JS.cond rfl (fun ht46 => ?_) (fun ht46 => ?_)
    · have h := condT h ht46
      refine JS.seq (JS.region (JO.reg ttOk 1 [] [] [(2, .v (.bool false))] _ rfl ⟨⟨rfl, trivial⟩, rfl⟩ (JO.done rfl ?_)))
      cases h
      exact JS.ret ttOk () trivial rfl rfl [] rfl
    have h := condF h ht46
    refine JS.skip (JS.seq (JS.seq (JS.region (JO.reg ttOk 18 [] [] [(72, .v (.bool (bif (!(decide (x0.2.1 = 2))) then (bif (bif (!(decide (x0.2.2.2.2.1 = 0))) then true else (!(decide (x0.2.2.2.2.2.1 = 0)))) then true else (!(decide (x0.2.2.2.2.2.2.1 = 0)))) else false)))] _ rfl ⟨⟨rfl, trivial⟩, rfl⟩ (JO.done rfl ?_)))))
    refine JS.cond rfl (fun ht45 => ?_) (fun ht45 => ?_)
    · have h := condT h ht45
      refine JS.seq (JS.region (JO.reg ttOk 1 [] [] [(2, .v (.bool false))] _ rfl ⟨⟨rfl, trivial⟩, rfl⟩ (JO.done rfl ?_)))
      cases h
      exact JS.ret ttOk () trivial rfl rfl [] rfl
    have h := condF h ht45
    refine JS.skip (JS.seq (JS.seq (JS.region (JO.reg ttOk 16 [] [] [(76, .v (.bool (!(decide (x0.2.1 = 3))))), (86, .cd [(76, true)] (.v (.bool (bif (decide (0 < (x0.2.2.2.2.2.2.2.2.2.2.2.2.2.2.1.length : Int))) then true else (!(decide (x0.2.2.2.2.2.2.2.2.2.2.2.2.2.2.2.1 = 0))))))), (88, .cd [(86, false), (76, true)] (.v (.agg #[.slice a22 x0.2.2.2.2.2.2.2.2.2.2.2.2.2.2.2.2.1.length c23, .int .i64 x0.2.2.2.2.2.2.2.2.2.2.2.2.2.2.2.2.2])))] _ rfl ⟨⟨rfl, rfl, rfl, trivial⟩, rfl⟩ ?_))))
    obtain ⟨y26, hy27, -, h⟩ := callO_some h
    refine JO.callg rfl rfl rfl rfl (fun q41 q42 => ok_s_l21Empty x0.2.2.2.2.2.2.2.2.2.2.2.2.2.2.2.2 a22 c23 x0.2.2.2.2.2.2.2.2.2.2.2.2.2.2.2.2.1.length rfl _ (hy27 ⟨q41, q42⟩)) rfl [5] rfl rfl (JO.reg ttOk 3 [] [] [(92, .v (.bool (bif (!(decide (x0.2.1 = 3))) then (bif (bif (decide (0 < (x0.2.2.2.2.2.2.2.2.2.2.2.2.2.2.1.length : Int))) then true else (!(decide (x0.2.2.2.2.2.2.2.2.2.2.2.2.2.2.2.1 = 0)))) then true else (!y26)) else false)))] _ rfl ⟨⟨rfl, trivial⟩, rfl⟩ (JO.done rfl ?_))
    refine JS.cond rfl (fun ht44 => ?_) (fun ht44 => ?_)
    · have h := condT h ht44
      refine JS.seq (JS.region (JO.reg ttOk 1 [] [] [(2, .v (.bool false))] _ rfl ⟨⟨rfl, trivial⟩, rfl⟩ (JO.done rfl ?_)))
      cases h
      exact JS.ret ttOk () trivial rfl rfl [] rfl
    have h := condF h ht44
    refine JS.skip (JS.seq (JS.region (JO.reg ttOk 2 [] [] [(94, .v (.int .i64 x0.2.2.2.2.1))] _ rfl ⟨⟨rfl, trivial⟩, rfl⟩ ?_)))
    refine JO.ofK rfl (JK.buildSlice ttOk rfl rfl rfl rfl rfl rfl rfl rfl rfl rfl rfl [] rfl (.int .i64) [0, 100, 99, 121] ⟨rfl, rfl⟩ rfl rfl fun a30 => JO.toK ?_)
    obtain ⟨y31, hy32, h⟩ := bindO_some h
    refine JO.call rfl rfl rfl rfl (ok_s_l21Among x0.2.2.2.2.1 ([0, 100, 99, 121] : List Int) a30 (([0, 100, 99, 121] : List Int).length) (([0, 100, 99, 121] : List Int).length) rfl _ hy32) rfl [6] rfl rfl fun _ _ => JO.reg ttOk 3 [] [] [(97, .v (.bool y31)), (99, .cd [(97, true)] (.v (.int .i64 x0.2.2.2.2.2.2.1)))] _ rfl ⟨⟨rfl, rfl, trivial⟩, rfl⟩ (JO.buildSliceG ttOk rfl rfl rfl rfl rfl rfl rfl rfl rfl rfl rfl rfl (.int .i64) [0, 102, 70, 116, 84, 114] ⟨rfl, rfl⟩ rfl y31 gwant_t rfl fun a33 => ?_)
    obtain ⟨y34, hy35, -, h⟩ := callO_some h
    refine JO.callg rfl rfl rfl rfl (fun q43 => ok_s_l21Among x0.2.2.2.2.2.2.1 (gl y31 ([0, 102, 70, 116, 84, 114] : List Int)) a33 ((gl y31 ([0, 102, 70, 116, 84, 114] : List Int)).length) ((gl y31 ([0, 102, 70, 116, 84, 114] : List Int)).length) rfl _ (hy35 q43)) rfl [6] rfl rfl (JO.reg ttOk 12 [] [] [(2, .v (.bool (bif (bif y31 then y34 else false) then (bif (!(decide (x0.2.2.2.2.1 = 0))) then true else (decide (x0.2.2.2.2.2.1 = 0))) else false)))] _ rfl ⟨⟨rfl, trivial⟩, rfl⟩ (JO.done rfl ?_))
    cases h
    exact JS.ret ttOk () trivial rfl rfl [] rfl

def M_s_l15Piece (x0 : List Int) : Option Bool :=
  (callO ((decide ((x0.length : Int) ≤ 400)) = true) (M_s_l13AllTyped x0) false fun (y6 : Bool) =>
  some (bif (decide ((x0.length : Int) ≤ 400)) then y6 else false))

theorem ok_s_l15Piece (x0 : List Int) (a2 : Option Addr) (c3 : Nat) (l4 : Nat) (hl5 : x0.length = l4) (r : Bool) (h : M_s_l15Piece x0 = some r) :
    FC Tryz.prog 157 [.slice a2 l4 c3] [⟨(.int .i64), ⟨a2, l4, c3⟩, x0⟩] (fun _ : Unit => True) (fun _ => .bool r) (fun _ => []) :=
  by
    subst hl5
    refine FC.of (T := TTx) Tryz.call157 Tryz.func157 rfl rfl fun w0 => ?_
    unfold M_s_l15Piece at h
    refine JS.seq (JS.region (JO.reg ttOk 1 [] [] [] _ rfl ⟨trivial, rfl⟩ (JO.done rfl (JS.seq (JS.region (JO.reg ttOk 5 [] [] [(6, .v (.bool (decide ((x0.length : Int) ≤ 400)))), (7, .cd [(6, true)] (.v (.slice a2 x0.length c3)))] _ rfl ⟨⟨rfl, rfl, trivial⟩, rfl⟩ ?_))))))
    obtain ⟨y6, hy7, -, h⟩ := callO_some h
    refine JO.callg rfl rfl rfl rfl (fun q9 => ok_s_l13AllTyped x0 a2 c3 x0.length rfl _ (hy7 q9)) rfl [0] rfl rfl (JO.reg ttOk 2 [] [] [(2, .v (.bool (bif (decide ((x0.length : Int) ≤ 400)) then y6 else false)))] _ rfl ⟨⟨rfl, trivial⟩, rfl⟩ (JO.done rfl ?_))
    cases h
    exact JS.ret ttOk () trivial rfl rfl [] rfl

def M_s_RingOk_L1 (x0 : List (List Int)) (j32 : Unit → Option Bool) (k26 : Int → Option Bool) : Int → Option Bool := fun x6 =>
  (bif (decide (x6 < (x0.length : Int))) then
  (guardO (0 ≤ x6 ∧ x6 < (x0.length : Int)) <|
  (callO ((decide (((at' x0 x6).length : Int) = 0)) = false) (M_s_l15Piece (at' x0 x6)) false fun (y17 : Bool) =>
  (bif (bif (decide (((at' x0 x6).length : Int) = 0)) then true else (!y17)) then
  some false
  else
  k26 (W (x6 + 1)))))
  else
  j32 ())

def M_s_RingOk (x0 : List (List Int)) : Option Bool :=
  (joinO (fun (_ : Unit) =>
  some (decide ((x0.length : Int) ≤ 6))) fun j32 =>
  (fixF (M_s_RingOk_L1 x0 j32) FUEL 0))

theorem ok_s_RingOk (x0 : List (List Int)) (a2 : Option Addr) (c3 : Nat) (l4 : Nat) (hl5 : x0.length = l4) (r : Bool) (h : M_s_RingOk x0 = some r) :
    FC Tryz.prog 150 [.agg #[.slice a2 l4 c3]] [⟨(.sl (.int .i64)), ⟨a2, l4, c3⟩, x0⟩] (fun _ : Unit => True) (fun _ => .bool r) (fun _ => []) :=
  by
    subst hl5
    refine FC.of (T := TTx) Tryz.call150 Tryz.func150 rfl rfl fun w0 => ?_
    unfold M_s_RingOk at h
    refine JS.seq (JS.region (JO.regB ttOk 2 [] [2] [(1, .bp 2 0)] (.new 2 37 [.slice a2 x0.length c3] .nil) rfl ⟨⟨rfl, trivial⟩, ⟨rfl, rfl, rfl, rfl, trivial⟩⟩ (JO.done rfl (JS.seq (JS.seq (JS.region (JO.reg ttOk 4 [] [] [(6, .v (.slice a2 x0.length c3)), (7, .v (.int .i64 (x0.length : Int))), (8, .v (.int .i64 0))] _ rfl ⟨⟨rfl, rfl, rfl, trivial⟩, rfl⟩ (JO.done rfl ?_))))))))
    obtain ⟨j32, hj42, h⟩ := joinO_some h
    refine JS.blockJ (ι := Unit) ⟨fun _ => j32 () = some r, fun _ => [(1, .bp 2 0)], fun _ => (.new 2 37 [.slice a2 x0.length c3] .nil), fun _ => [⟨(.sl (.int .i64)), ⟨a2, x0.length, c3⟩, x0⟩], fun _ => [], fun _ => 0⟩ ?_ ?_
    · refine JS.loop (ι := Nat × Int) ⟨fun z => fixF (M_s_RingOk_L1 x0 j32) z.1 z.2 = some r, fun z => [(1, .bp 2 0), (6, .v (.slice a2 x0.length c3)), (7, .v (.int .i64 (x0.length : Int))), (8, .v (.int .i64 z.2))], fun z => (.new 2 37 [.slice a2 x0.length c3] .nil), fun z => [⟨(.sl (.int .i64)), ⟨a2, x0.length, c3⟩, x0⟩], fun z => [], fun z => z.1⟩ (FUEL, 0) h ⟨rfl, rfl, rfl, rfl, trivial⟩ ⟨rfl, rfl, rfl, rfl, trivial⟩ [0] rfl [] rfl ?_
      rintro ⟨n27, x6⟩ h
      obtain ⟨n27, rfl, h⟩ := fixF_some h
      rw [M_s_RingOk_L1] at h
      refine JS.seq (JS.region (JO.reg ttOk 1 [] [] [(9, .v (.bool (decide (x6 < (x0.length : Int)))))] _ rfl ⟨⟨rfl, trivial⟩, rfl⟩ (JO.done rfl (JS.seq ?_))))
      refine JS.cond rfl (fun ht41 => ?_) (fun ht41 => ?_)
      · have h := condT h ht41
        refine JS.skip (JS.seq (JS.block (JS.seq (JS.region (JO.know 0 rfl fun hs38 => ?_)))))
        obtain ⟨g11, h⟩ := guardO_some h
        refine JO.reg ttOk 1 [] [] [(10, .ep ⟨a2, x0.length, c3⟩ (Int.toNat x6 * 1))] _ rfl ⟨hs38.ix g11, ⟨rfl, trivial⟩, rfl⟩ (JO.openR 0 rfl (Int.toNat x6) (at' x0 x6) rfl fun a12 c13 ys14 hl15 hy16 => JO.loadV ttOk rfl rfl rfl rfl rfl rfl 0 rfl rfl (Int.toNat x6) 0 (Sl.v ⟨a12, (at' x0 x6).length, c13⟩) ⟨hy16 (ltNat g11), rfl⟩ rfl rfl rfl (JO.regB ttOk 2 [] [16] [(4, .bp 16 0)] (.new 2 37 [.slice a2 x0.length c3] (.new 16 159 [.slice a12 (at' x0 x6).length c13] .nil)) rfl ⟨⟨rfl, trivial⟩, ⟨rfl, rfl, rfl, rfl, rfl, rfl, rfl, rfl, trivial⟩⟩ (JO.done rfl (JS.seq (JS.region (JO.reg ttOk 7 [] [] [(16, .v (.bool (decide (((at' x0 x6).length : Int) = 0)))), (18, .cd [(16, false)] (.v (.slice a12 (at' x0 x6).length c13)))] _ rfl ⟨⟨rfl, rfl, trivial⟩, rfl⟩ ?_))))))
        obtain ⟨y17, hy18, -, h⟩ := callO_some h
        refine JO.callg rfl rfl rfl rfl (fun q39 => ok_s_l15Piece (at' x0 x6) a12 c13 ((at' x0 x6).length) rfl _ (hy18 q39)) rfl [1] rfl rfl (JO.reg ttOk 2 [] [] [(21, .v (.bool (bif (decide (((at' x0 x6).length : Int) = 0)) then true else (!y17))))] _ rfl ⟨⟨rfl, trivial⟩, rfl⟩ (JO.done rfl ?_))
        refine JS.cond rfl (fun ht40 => ?_) (fun ht40 => ?_)
        · have h := condT h ht40
          refine JS.seq (JS.region (JO.reg ttOk 1 [] [] [(2, .v (.bool false))] _ rfl ⟨⟨rfl, trivial⟩, rfl⟩ (JO.done rfl ?_)))
          cases h
          exact JS.ret ttOk () trivial rfl rfl [] rfl
        have h := condF h ht40
        refine JS.skip (JS.endB (JS.region (JO.reg ttOk 2 [(W (x6 + 1))] [] [(8, .v (.int .i64 (W (x6 + 1))))] _ rfl ⟨⟨trivial, rfl⟩, ⟨rfl, trivial⟩, rfl⟩ (JO.done rfl (JS.endL (n27, (W (x6 + 1))) h (Nat.lt_succ_self _) ⟨rfl, rfl, rfl, rfl, trivial⟩ ⟨rfl, rfl, rfl, rfl, trivial⟩ [2] rfl [] rfl)))))
      have h := condF h ht41
      refine JS.exit rfl (JS.endJ () h ⟨rfl, trivial⟩ ⟨rfl, rfl, rfl, rfl, trivial⟩ [0] rfl [] rfl)
    rintro _ h
    subst hj42
    refine JS.seq (JS.region (JO.reg ttOk 5 [] [] [(2, .v (.bool (decide ((x0.length : Int) ≤ 6))))] _ rfl ⟨⟨rfl, trivial⟩, rfl⟩ (JO.done rfl ?_)))
    cases h
    exact JS.ret ttOk () trivial rfl rfl [] rfl

def M_s_UndoOk_L1 (x0 : List (List Int × Int)) (j29 : Unit → Option Bool) (k24 : Int → Option Bool) : Int → Option Bool := fun x6 =>
  (bif (decide (x6 < (x0.length : Int))) then
  (guardO (0 ≤ x6 ∧ x6 < (x0.length : Int)) <|
  (bindO (M_s_LineOk ((at' x0 x6).1, (at' x0 x6).2)) fun (y17 : Bool) =>
  (bif (!y17) then
  some false
  else
  k24 (W (x6 + 1)))))
  else
  j29 ())

def M_s_UndoOk (x0 : List (List Int × Int)) : Option Bool :=
  (joinO (fun (_ : Unit) =>
  some (decide ((x0.length : Int) ≤ 20))) fun j29 =>
  (fixF (M_s_UndoOk_L1 x0 j29) FUEL 0))

theorem ok_s_UndoOk (x0 : List (List Int × Int)) (a2 : Option Addr) (c3 : Nat) (l4 : Nat) (hl5 : x0.length = l4) (r : Bool) (h : M_s_UndoOk x0 = some r) :
    FC Tryz.prog 151 [.agg #[.slice a2 l4 c3]] [⟨(.pair (.sl (.int .i64)) (.int .i64)), ⟨a2, l4, c3⟩, x0⟩] (fun _ : Unit => True) (fun _ => .bool r) (fun _ => []) :=
  by
    subst hl5
    refine FC.of (T := TTx) Tryz.call151 Tryz.func151 rfl rfl fun w0 => ?_
    unfold M_s_UndoOk at h
    refine JS.seq (JS.region (JO.regB ttOk 2 [] [2] [(1, .bp 2 0)] (.new 2 40 [.slice a2 x0.length c3] .nil) rfl ⟨⟨rfl, trivial⟩, ⟨rfl, rfl, rfl, rfl, trivial⟩⟩ (JO.done rfl (JS.seq (JS.seq (JS.region (JO.reg ttOk 4 [] [] [(6, .v (.slice a2 x0.length c3)), (7, .v (.int .i64 (x0.length : Int))), (8, .v (.int .i64 0))] _ rfl ⟨⟨rfl, rfl, rfl, trivial⟩, rfl⟩ (JO.done rfl ?_))))))))
    obtain ⟨j29, hj37, h⟩ := joinO_some h
    refine JS.blockJ (ι := Unit) ⟨fun _ => j29 () = some r, fun _ => [(1, .bp 2 0)], fun _ => (.new 2 40 [.slice a2 x0.length c3] .nil), fun _ => [⟨(.pair (.sl (.int .i64)) (.int .i64)), ⟨a2, x0.length, c3⟩, x0⟩], fun _ => [], fun _ => 0⟩ ?_ ?_
    · refine JS.loop (ι := Nat × Int) ⟨fun z => fixF (M_s_UndoOk_L1 x0 j29) z.1 z.2 = some r, fun z => [(1, .bp 2 0), (6, .v (.slice a2 x0.length c3)), (7, .v (.int .i64 (x0.length : Int))), (8, .v (.int .i64 z.2))], fun z => (.new 2 40 [.slice a2 x0.length c3] .nil), fun z => [⟨(.pair (.sl (.int .i64)) (.int .i64)), ⟨a2, x0.length, c3⟩, x0⟩], fun z => [], fun z => z.1⟩ (FUEL, 0) h ⟨rfl, rfl, rfl, rfl, trivial⟩ ⟨rfl, rfl, rfl, rfl, trivial⟩ [0] rfl [] rfl ?_
      rintro ⟨n25, x6⟩ h
      obtain ⟨n25, rfl, h⟩ := fixF_some h
      rw [M_s_UndoOk_L1] at h
      refine JS.seq (JS.region (JO.reg ttOk 1 [] [] [(9, .v (.bool (decide (x6 < (x0.length : Int)))))] _ rfl ⟨⟨rfl, trivial⟩, rfl⟩ (JO.done rfl (JS.seq ?_))))
      refine JS.cond rfl (fun ht36 => ?_) (fun ht36 => ?_)
      · have h := condT h ht36
        refine JS.skip (JS.seq (JS.block (JS.seq (JS.region (JO.know 0 rfl fun hs34 => ?_)))))
        obtain ⟨g11, h⟩ := guardO_some h
        refine JO.reg ttOk 1 [] [] [(10, .ep ⟨a2, x0.length, c3⟩ (Int.toNat x6 * 2))] _ rfl ⟨hs34.ix g11, ⟨rfl, trivial⟩, rfl⟩ (JO.openR 0 rfl (Int.toNat x6) (at' x0 x6) rfl fun a12 c13 ys14 hl15 hy16 => JO.loadV ttOk rfl rfl rfl rfl rfl rfl 0 rfl rfl (Int.toNat x6) 0 ((Sl.v ⟨a12, ((at' x0 x6).1).length, c13⟩), (at' x0 x6).2) ⟨hy16 (ltNat g11), rfl⟩ rfl rfl rfl (JO.regB ttOk 2 [] [16] [(4, .bp 16 0)] (.new 2 40 [.slice a2 x0.length c3] (.new 16 34 [.slice a12 ((at' x0 x6).1).length c13, .int .i64 (at' x0 x6).2] .nil)) rfl ⟨⟨rfl, trivial⟩, ⟨rfl, rfl, rfl, rfl, rfl, rfl, rfl, rfl, trivial⟩⟩ (JO.done rfl (JS.seq (JS.region (JO.reg ttOk 1 [] [] [(12, .v (.agg #[.slice a12 ((at' x0 x6).1).length c13, .int .i64 (at' x0 x6).2]))] _ rfl ⟨⟨rfl, trivial⟩, rfl⟩ ?_))))))
        obtain ⟨y17, hy18, h⟩ := bindO_some h
        refine JO.call rfl rfl rfl rfl (ok_s_LineOk ((at' x0 x6).1, (at' x0 x6).2) a12 c13 (((at' x0 x6).1).length) rfl _ hy18) rfl [1] rfl rfl fun _ _ => JO.reg ttOk 1 [] [] [(14, .v (.bool (!y17)))] _ rfl ⟨⟨rfl, trivial⟩, rfl⟩ (JO.done rfl ?_)
        refine JS.cond rfl (fun ht35 => ?_) (fun ht35 => ?_)
        · have h := condT h ht35
          refine JS.seq (JS.region (JO.reg ttOk 1 [] [] [(2, .v (.bool false))] _ rfl ⟨⟨rfl, trivial⟩, rfl⟩ (JO.done rfl ?_)))
          cases h
          exact JS.ret ttOk () trivial rfl rfl [] rfl
        have h := condF h ht35
        refine JS.skip (JS.endB (JS.region (JO.reg ttOk 2 [(W (x6 + 1))] [] [(8, .v (.int .i64 (W (x6 + 1))))] _ rfl ⟨⟨trivial, rfl⟩, ⟨rfl, trivial⟩, rfl⟩ (JO.done rfl (JS.endL (n25, (W (x6 + 1))) h (Nat.lt_succ_self _) ⟨rfl, rfl, rfl, rfl, trivial⟩ ⟨rfl, rfl, rfl, rfl, trivial⟩ [2] rfl [] rfl)))))
      have h := condF h ht36
      refine JS.exit rfl (JS.endJ () h ⟨rfl, trivial⟩ ⟨rfl, rfl, rfl, rfl, trivial⟩ [0] rfl [] rfl)
    rintro _ h
    subst hj37
    refine JS.seq (JS.region (JO.reg ttOk 5 [] [] [(2, .v (.bool (decide ((x0.length : Int) ≤ 20))))] _ rfl ⟨⟨rfl, trivial⟩, rfl⟩ (JO.done rfl ?_)))
    cases h
    exact JS.ret ttOk () trivial rfl rfl [] rfl

def M_s_EdOk_L1 (x0 : Bool × Int × (List Int × Int) × Int × Int × Int × Int × Int × Int × Int × List (List Int) × (List (List Int × Int)) × Int × (List Int × Int) × List Int × Int × List Int × Int) (j63 : Unit → Option Bool) (k58 : Int → Option Bool) : Int → Option Bool := fun x51 =>
  (bif (decide (x51 < (x0.2.2.2.2.2.2.2.2.2.2.2.2.2.2.1.length : Int))) then
  (guardO (0 ≤ x51 ∧ x51 < (x0.2.2.2.2.2.2.2.2.2.2.2.2.2.2.1.length : Int)) <|
  (bindO (M_s_Printable (at' x0.2.2.2.2.2.2.2.2.2.2.2.2.2.2.1 x51)) fun (y54 : Bool) =>
  (bif (!y54) then
  some false
  else
  k58 (W (x51 + 1)))))
  else
  j63 ())

def M_s_EdOk (x0 : Bool × Int × (List Int × Int) × Int × Int × Int × Int × Int × Int × Int × List (List Int) × (List (List Int × Int)) × Int × (List Int × Int) × List Int × Int × List Int × Int) : Option Bool :=
  (bindO (M_s_LineOk x0.2.2.1) fun (y26 : Bool) =>
  (callO ((!y26) = false) (M_s_LineOk x0.2.2.2.2.2.2.2.2.2.2.2.2.2.1) false fun (y28 : Bool) =>
  (callO ((bif (!y26) then true else (!y28)) = false) (M_s_LineOk x0.2.2.2.2.2.2.2.2.2.2.2.2.2.2.2.2) false fun (y31 : Bool) =>
  (callO ((bif (bif (!y26) then true else (!y28)) then true else (!y31)) = false) (M_s_l21Mode x0) false fun (y34 : Bool) =>
  (callO ((bif (bif (bif (bif (bif (bif (bif (bif (bif (!y26) then true else (!y28)) then true else (!y31)) then true else (!y34)) then true else (decide (x0.2.2.2.1 < 0))) then true else (decide (999 < x0.2.2.2.1))) then true else (decide (x0.2.2.2.2.2.1 < 0))) then true else (decide (999 < x0.2.2.2.2.2.1))) then true else (decide (x0.2.2.2.2.2.2.2.2.2.1 < 0))) then true else (decide (3 < x0.2.2.2.2.2.2.2.2.2.1))) = false) (M_s_RingOk x0.2.2.2.2.2.2.2.2.2.2.1) false fun (y37 : Bool) =>
  (callO ((bif (bif (bif (bif (bif (bif (bif (bif (bif (bif (!y26) then true else (!y28)) then true else (!y31)) then true else (!y34)) then true else (decide (x0.2.2.2.1 < 0))) then true else (decide (999 < x0.2.2.2.1))) then true else (decide (x0.2.2.2.2.2.1 < 0))) then true else (decide (999 < x0.2.2.2.2.2.1))) then true else (decide (x0.2.2.2.2.2.2.2.2.2.1 < 0))) then true else (decide (3 < x0.2.2.2.2.2.2.2.2.2.1))) then true else (!y37)) = false) (M_s_UndoOk x0.2.2.2.2.2.2.2.2.2.2.2.1) false fun (y40 : Bool) =>
  (bif (bif (bif (bif (bif (bif (bif (bif (bif (bif (bif (bif (!y26) then true else (!y28)) then true else (!y31)) then true else (!y34)) then true else (decide (x0.2.2.2.1 < 0))) then true else (decide (999 < x0.2.2.2.1))) then true else (decide (x0.2.2.2.2.2.1 < 0))) then true else (decide (999 < x0.2.2.2.2.2.1))) then true else (decide (x0.2.2.2.2.2.2.2.2.2.1 < 0))) then true else (decide (3 < x0.2.2.2.2.2.2.2.2.2.1))) then true else (!y37)) then true else (!y40)) then
  some false
  else
  (callO ((!(decide (x0.2.2.2.2.2.2.2.1 = 0))) = true ∧ (bif (decide (x0.2.2.2.2.2.2.2.1 = 0)) then (!(decide (x0.2.2.2.2.2.2.2.2.1 = 0))) else false) = false) (M_s_Printable x0.2.2.2.2.2.2.2.1) false fun (y43 : Bool) =>
  (bif (bif (bif (decide (x0.2.2.2.2.2.2.2.1 = 0)) then (!(decide (x0.2.2.2.2.2.2.2.2.1 = 0))) else false) then true else (bif (!(decide (x0.2.2.2.2.2.2.2.1 = 0))) then (bif (bif (!y43) then true else (decide (x0.2.2.2.2.2.2.2.2.1 < 0))) then true else (decide (3 < x0.2.2.2.2.2.2.2.2.1))) else false)) then
  some false
  else
  (callO ((decide (x0.2.2.2.2.2.2.2.2.2.2.2.2.1 = 0)) = true ∧ (bif (bif (bif (decide (x0.2.2.2.2.2.2.2.2.2.2.2.2.1 < 0)) then true else (decide (1000000060 < x0.2.2.2.2.2.2.2.2.2.2.2.2.1))) then true else (decide (x0.2.2.2.2.2.2.2.2.2.2.2.2.2.2.2.1 < 0))) then true else (decide (1000000060 < x0.2.2.2.2.2.2.2.2.2.2.2.2.2.2.2.1))) = false) (M_s_l21Empty x0.2.2.2.2.2.2.2.2.2.2.2.2.2.1) false fun (y47 : Bool) =>
  (bif (bif (bif (bif (bif (bif (decide (x0.2.2.2.2.2.2.2.2.2.2.2.2.1 < 0)) then true else (decide (1000000060 < x0.2.2.2.2.2.2.2.2.2.2.2.2.1))) then true else (decide (x0.2.2.2.2.2.2.2.2.2.2.2.2.2.2.2.1 < 0))) then true else (decide (1000000060 < x0.2.2.2.2.2.2.2.2.2.2.2.2.2.2.2.1))) then true else (bif (decide (x0.2.2.2.2.2.2.2.2.2.2.2.2.1 = 0)) then (!y47) else false)) then true else (decide (40 < (x0.2.2.2.2.2.2.2.2.2.2.2.2.2.2.1.length : Int)))) then
  some false
  else
  (joinO (fun (_ : Unit) =>
  some true) fun j63 =>
  (fixF (M_s_EdOk_L1 x0 j63) FUEL 0)))))))))))))

theorem ok_s_EdOk (x0 : Bool × Int × (List Int × Int) × Int × Int × Int × Int × Int × Int × Int × List (List Int) × (List (List Int × Int)) × Int × (List Int × Int) × List Int × Int × List Int × Int) (a2 : Option Addr) (c3 : Nat) (l4 : Nat) (hl5 : x0.2.2.1.1.length = l4) (a6 : Option Addr) (c7 : Nat) (l8 : Nat) (hl9 : x0.2.2.2.2.2.2.2.2.2.2.1.length = l8) (a10 : Option Addr) (c11 : Nat) (l12 : Nat) (hl13 : x0.2.2.2.2.2.2.2.2.2.2.2.1.length = l12) (a14 : Option Addr) (c15 : Nat) (l16 : Nat) (hl17 : x0.2.2.2.2.2.2.2.2.2.2.2.2.2.1.1.length = l16) (a18 : Option Addr) (c19 : Nat) (l20 : Nat) (hl21 : x0.2.2.2.2.2.2.2.2.2.2.2.2.2.2.1.length = l20) (a22 : Option Addr) (c23 : Nat) (l24 : Nat) (hl25 : x0.2.2.2.2.2.2.2.2.2.2.2.2.2.2.2.2.1.length = l24) (r : Bool) (h : M_s_EdOk x0 = some r) :
    FC Tryz.prog 51 [.agg #[.bool x0.1, .int .i64 x0.2.1, .slice a2 l4 c3, .int .i64 x0.2.2.1.2, .int .i64 x0.2.2.2.1, .int .i64 x0.2.2.2.2.1, .int .i64 x0.2.2.2.2.2.1, .int .i64 x0.2.2.2.2.2.2.1, .int .i64 x0.2.2.2.2.2.2.2.1, .int .i64 x0.2.2.2.2.2.2.2.2.1, .int .i64 x0.2.2.2.2.2.2.2.2.2.1, .slice a6 l8 c7, .slice a10 l12 c11, .int .i64 x0.2.2.2.2.2.2.2.2.2.2.2.2.1, .slice a14 l16 c15, .int .i64 x0.2.2.2.2.2.2.2.2.2.2.2.2.2.1.2, .slice a18 l20 c19, .int .i64 x0.2.2.2.2.2.2.2.2.2.2.2.2.2.2.2.1, .slice a22 l24 c23, .int .i64 x0.2.2.2.2.2.2.2.2.2.2.2.2.2.2.2.2.2]] [⟨(.int .i64), ⟨a2, l4, c3⟩, x0.2.2.1.1⟩, ⟨(.sl (.int .i64)), ⟨a6, l8, c7⟩, x0.2.2.2.2.2.2.2.2.2.2.1⟩, ⟨(.pair (.sl (.int .i64)) (.int .i64)), ⟨a10, l12, c11⟩, x0.2.2.2.2.2.2.2.2.2.2.2.1⟩, ⟨(.int .i64), ⟨a14, l16, c15⟩, x0.2.2.2.2.2.2.2.2.2.2.2.2.2.1.1⟩, ⟨(.int .i64), ⟨a18, l20, c19⟩, x0.2.2.2.2.2.2.2.2.2.2.2.2.2.2.1⟩, ⟨(.int .i64), ⟨a22, l24, c23⟩, x0.2.2.2.2.2.2.2.2.2.2.2.2.2.2.2.2.1⟩] (fun _ : Unit => True) (fun _ => .bool r) (fun _ => []) :=
  by
    subst hl5
    subst hl9
    subst hl13
    subst hl17
    subst hl21
    subst hl25
    refine FC.of (T := TTx) Tryz.call51 Tryz.func51 rfl rfl fun w0 => ?_
    unfold M_s_EdOk at h
    refine JS.seq (JS.region (JO.regB ttOk 2 [] [7] [(1, .bp 7 0)] (.new 7 42 (cl42 x0 a2 c3 a6 c7 a10 c11 a14 c15 a18 c19 a22 c23) .nil) rfl ⟨⟨rfl, trivial⟩, ⟨rfl, rfl, rfl, rfl, trivial⟩⟩ (JO.done rfl (JS.seq (JS.seq (JS.region (JO.reg ttOk 2 [] [] [(7, .v (.agg #[.slice a2 x0.2.2.1.1.length c3, .int .i64 x0.2.2.1.2]))] _ rfl ⟨⟨rfl, trivial⟩, rfl⟩ ?_)))))))
    obtain ⟨y26, hy27, h⟩ := bindO_some h
    refine JO.call rfl rfl rfl rfl (ok_s_LineOk x0.2.2.1 a2 c3 x0.2.2.1.1.length rfl _ hy27) rfl [0] rfl rfl fun _ _ => JO.reg ttOk 4 [] [] [(10, .v (.bool (!y26))), (12, .cd [(10, false)] (.v (.agg #[.slice a14 x0.2.2.2.2.2.2.2.2.2.2.2.2.2.1.1.length c15, .int .i64 x0.2.2.2.2.2.2.2.2.2.2.2.2.2.1.2])))] _ rfl ⟨⟨rfl, rfl, trivial⟩, rfl⟩ ?_
    obtain ⟨y28, hy29, -, h⟩ := callO_some h
    refine JO.callg rfl rfl rfl rfl (fun q71 => ok_s_LineOk x0.2.2.2.2.2.2.2.2.2.2.2.2.2.1 a14 c15 x0.2.2.2.2.2.2.2.2.2.2.2.2.2.1.1.length rfl _ (hy29 q71)) rfl [3] rfl rfl (JO.reg ttOk 5 [] [] [(16, .v (.bool (bif (!y26) then true else (!y28)))), (18, .cd [(16, false)] (.v (.agg #[.slice a22 x0.2.2.2.2.2.2.2.2.2.2.2.2.2.2.2.2.1.length c23, .int .i64 x0.2.2.2.2.2.2.2.2.2.2.2.2.2.2.2.2.2])))] _ rfl ⟨⟨rfl, rfl, trivial⟩, rfl⟩ ?_)
    obtain ⟨y31, hy32, -, h⟩ := callO_some h
    refine JO.callg rfl rfl rfl rfl (fun q72 => ok_s_LineOk x0.2.2.2.2.2.2.2.2.2.2.2.2.2.2.2.2 a22 c23 x0.2.2.2.2.2.2.2.2.2.2.2.2.2.2.2.2.1.length rfl _ (hy32 q72)) rfl [5] rfl rfl (JO.reg ttOk 4 [] [] [(22, .v (.bool (bif (bif (!y26) then true else (!y28)) then true else (!y31)))), (23, .cd [(22, false)] (.v (.agg (cl42 x0 a2 c3 a6 c7 a10 c11 a14 c15 a18 c19 a22 c23).toArray)))] _ rfl ⟨⟨rfl, rfl, trivial⟩, rfl⟩ ?_)
    obtain ⟨y34, hy35, -, h⟩ := callO_some h
    refine JO.callg rfl rfl rfl rfl (fun q73 => ok_s_l21Mode x0 a2 c3 x0.2.2.1.1.length rfl a6 c7 x0.2.2.2.2.2.2.2.2.2.2.1.length rfl a10 c11 x0.2.2.2.2.2.2.2.2.2.2.2.1.length rfl a14 c15 x0.2.2.2.2.2.2.2.2.2.2.2.2.2.1.1.length rfl a18 c19 x0.2.2.2.2.2.2.2.2.2.2.2.2.2.2.1.length rfl a22 c23 x0.2.2.2.2.2.2.2.2.2.2.2.2.2.2.2.2.1.length rfl _ (hy35 q73)) rfl [0, 1, 2, 3, 4, 5] rfl rfl (JO.reg ttOk 35 [] [] [(57, .v (.bool (bif (bif (bif (bif (bif (bif (bif (bif (bif (!y26) then true else (!y28)) then true else (!y31)) then true else (!y34)) then true else (decide (x0.2.2.2.1 < 0))) then true else (decide (999 < x0.2.2.2.1))) then true else (decide (x0.2.2.2.2.2.1 < 0))) then true else (decide (999 < x0.2.2.2.2.2.1))) then true else (decide (x0.2.2.2.2.2.2.2.2.2.1 < 0))) then true else (decide (3 < x0.2.2.2.2.2.2.2.2.2.1))))), (59, .cd [(57, false)] (.v (.agg #[.slice a6 x0.2.2.2.2.2.2.2.2.2.2.1.length c7])))] _ rfl ⟨⟨rfl, rfl, trivial⟩, rfl⟩ ?_)
    obtain ⟨y37, hy38, -, h⟩ := callO_some h
    refine JO.callg rfl rfl rfl rfl (fun q74 => ok_s_RingOk x0.2.2.2.2.2.2.2.2.2.2.1 a6 c7 x0.2.2.2.2.2.2.2.2.2.2.1.length rfl _ (hy38 q74)) rfl [1] rfl rfl (JO.reg ttOk 5 [] [] [(63, .v (.bool (bif (bif (bif (bif (bif (bif (bif (bif (bif (bif (!y26) then true else (!y28)) then true else (!y31)) then true else (!y34)) then true else (decide (x0.2.2.2.1 < 0))) then true else (decide (999 < x0.2.2.2.1))) then true else (decide (x0.2.2.2.2.2.1 < 0))) then true else (decide (999 < x0.2.2.2.2.2.1))) then true else (decide (x0.2.2.2.2.2.2.2.2.2.1 < 0))) then true else (decide (3 < x0.2.2.2.2.2.2.2.2.2.1))) then true else (!y37)))), (65, .cd [(63, false)] (.v (.agg #[.slice a10 x0.2.2.2.2.2.2.2.2.2.2.2.1.length c11])))] _ rfl ⟨⟨rfl, rfl, trivial⟩, rfl⟩ ?_)
    obtain ⟨y40, hy41, -, h⟩ := callO_some h
    refine JO.callg rfl rfl rfl rfl (fun q75 => ok_s_UndoOk x0.2.2.2.2.2.2.2.2.2.2.2.1 a10 c11 x0.2.2.2.2.2.2.2.2.2.2.2.1.length rfl _ (hy41 q75)) rfl [2] rfl rfl (JO.reg ttOk 2 [] [] [(68, .v (.bool (bif (bif (bif (bif (bif (bif (bif (bif (bif (bif (bif (!y26) then true else (!y28)) then true else (!y31)) then true else (!y34)) then true else (decide (x0.2.2.2.1 < 0))) then true else (decide (999 < x0.2.2.2.1))) then true else (decide (x0.2.2.2.2.2.1 < 0))) then true else (decide (999 < x0.2.2.2.2.2.1))) then true else (decide (x0.2.2.2.2.2.2.2.2.2.1 < 0))) then true else (decide (3 < x0.2.2.2.2.2.2.2.2.2.1))) then true else (!y37)) then true else (!y40))))] _ rfl ⟨⟨rfl, trivial⟩, rfl⟩ (JO.done rfl ?_))
    refine JS.cond rfl (fun ht86 => ?_) (fun ht86 => ?_)
    · have h := condT h ht86
      refine JS.seq (JS.region (JO.reg ttOk 1 [] [] [(2, .v (.bool false))] _ rfl ⟨⟨rfl, trivial⟩, rfl⟩ (JO.done rfl ?_)))
      cases h
      exact JS.ret ttOk () trivial rfl rfl [] rfl
    have h := condF h ht86
    refine JS.skip (JS.seq (JS.seq (JS.region (JO.reg ttOk 15 [] [] [(77, .v (.bool (bif (decide (x0.2.2.2.2.2.2.2.1 = 0)) then (!(decide (x0.2.2.2.2.2.2.2.2.1 = 0))) else false))), (81, .cd [(77, false)] (.v (.bool (!(decide (x0.2.2.2.2.2.2.2.1 = 0)))))), (83, .cd [(81, true), (77, false)] (.v (.int .i64 x0.2.2.2.2.2.2.2.1)))] _ rfl ⟨⟨rfl, rfl, rfl, trivial⟩, rfl⟩ ?_))))
    obtain ⟨y43, hy44, -, h⟩ := callO_some h
    refine JO.callg rfl rfl rfl rfl (fun q76 q77 => ok_s_Printable x0.2.2.2.2.2.2.2.1 _ (hy44 ⟨q76, q77⟩)) rfl [] rfl rfl (JO.reg ttOk 13 [] [] [(97, .v (.bool (bif (bif (decide (x0.2.2.2.2.2.2.2.1 = 0)) then (!(decide (x0.2.2.2.2.2.2.2.2.1 = 0))) else false) then true else (bif (!(decide (x0.2.2.2.2.2.2.2.1 = 0))) then (bif (bif (!y43) then true else (decide (x0.2.2.2.2.2.2.2.2.1 < 0))) then true else (decide (3 < x0.2.2.2.2.2.2.2.2.1))) else false))))] _ rfl ⟨⟨rfl, trivial⟩, rfl⟩ (JO.done rfl ?_))
    refine JS.cond rfl (fun ht85 => ?_) (fun ht85 => ?_)
    · have h := condT h ht85
      refine JS.seq (JS.region (JO.reg ttOk 1 [] [] [(2, .v (.bool false))] _ rfl ⟨⟨rfl, trivial⟩, rfl⟩ (JO.done rfl ?_)))
      cases h
      exact JS.ret ttOk () trivial rfl rfl [] rfl
    have h := condF h ht85
    refine JS.skip (JS.seq (JS.region (JO.reg ttOk 1 [] [] [(3, .v (.int .i64 1000000060))] _ rfl ⟨⟨rfl, trivial⟩, rfl⟩ (JO.done rfl (JS.seq (JS.seq (JS.region (JO.reg ttOk 27 [] [] [(118, .v (.bool (bif (bif (bif (decide (x0.2.2.2.2.2.2.2.2.2.2.2.2.1 < 0)) then true else (decide (1000000060 < x0.2.2.2.2.2.2.2.2.2.2.2.2.1))) then true else (decide (x0.2.2.2.2.2.2.2.2.2.2.2.2.2.2.2.1 < 0))) then true else (decide (1000000060 < x0.2.2.2.2.2.2.2.2.2.2.2.2.2.2.2.1))))), (122, .cd [(118, false)] (.v (.bool (decide (x0.2.2.2.2.2.2.2.2.2.2.2.2.1 = 0))))), (124, .cd [(122, true), (118, false)] (.v (.agg #[.slice a14 x0.2.2.2.2.2.2.2.2.2.2.2.2.2.1.1.length c15, .int .i64 x0.2.2.2.2.2.2.2.2.2.2.2.2.2.1.2])))] _ rfl ⟨⟨rfl, rfl, rfl, trivial⟩, rfl⟩ ?_))))))))
    obtain ⟨y47, hy48, -, h⟩ := callO_some h
    refine JO.callg rfl rfl rfl rfl (fun q78 q79 => ok_s_l21Empty x0.2.2.2.2.2.2.2.2.2.2.2.2.2.1 a14 c15 x0.2.2.2.2.2.2.2.2.2.2.2.2.2.1.1.length rfl _ (hy48 ⟨q78, q79⟩)) rfl [3] rfl rfl (JO.reg ttOk 9 [] [] [(134, .v (.bool (bif (bif (bif (bif (bif (decide (x0.2.2.2.2.2.2.2.2.2.2.2.2.1 < 0)) then true else (decide (1000000060 < x0.2.2.2.2.2.2.2.2.2.2.2.2.1))) then true else (decide (x0.2.2.2.2.2.2.2.2.2.2.2.2.2.2.2.1 < 0))) then true else (decide (1000000060 < x0.2.2.2.2.2.2.2.2.2.2.2.2.2.2.2.1))) then true else (bif (decide (x0.2.2.2.2.2.2.2.2.2.2.2.2.1 = 0)) then (!y47) else false)) then true else (decide (40 < (x0.2.2.2.2.2.2.2.2.2.2.2.2.2.2.1.length : Int))))))] _ rfl ⟨⟨rfl, trivial⟩, rfl⟩ (JO.done rfl ?_))
    refine JS.cond rfl (fun ht84 => ?_) (fun ht84 => ?_)
    · have h := condT h ht84
      refine JS.seq (JS.region (JO.reg ttOk 1 [] [] [(2, .v (.bool false))] _ rfl ⟨⟨rfl, trivial⟩, rfl⟩ (JO.done rfl ?_)))
      cases h
      exact JS.ret ttOk () trivial rfl rfl [] rfl
    have h := condF h ht84
    refine JS.skip (JS.seq (JS.seq (JS.region (JO.reg ttOk 4 [] [] [(136, .v (.slice a18 x0.2.2.2.2.2.2.2.2.2.2.2.2.2.2.1.length c19)), (137, .v (.int .i64 (x0.2.2.2.2.2.2.2.2.2.2.2.2.2.2.1.length : Int))), (138, .v (.int .i64 0))] _ rfl ⟨⟨rfl, rfl, rfl, trivial⟩, rfl⟩ (JO.done rfl ?_)))))
    obtain ⟨j63, hj83, h⟩ := joinO_some h
    refine JS.blockJ (ι := Unit) ⟨fun _ => j63 () = some r, fun _ => [], fun _ => .nil, fun _ => [], fun _ => [], fun _ => 0⟩ ?_ ?_
    · refine JS.loop (ι := Nat × Int) ⟨fun z => fixF (M_s_EdOk_L1 x0 j63) z.1 z.2 = some r, fun z => [(136, .v (.slice a18 x0.2.2.2.2.2.2.2.2.2.2.2.2.2.2.1.length c19)), (137, .v (.int .i64 (x0.2.2.2.2.2.2.2.2.2.2.2.2.2.2.1.length : Int))), (138, .v (.int .i64 z.2))], fun z => .nil, fun z => [⟨(.int .i64), ⟨a18, x0.2.2.2.2.2.2.2.2.2.2.2.2.2.2.1.length, c19⟩, x0.2.2.2.2.2.2.2.2.2.2.2.2.2.2.1⟩], fun z => [], fun z => z.1⟩ (FUEL, 0) h ⟨rfl, rfl, rfl, trivial⟩ trivial [4] rfl [] rfl ?_
      rintro ⟨n59, x51⟩ h
      obtain ⟨n59, rfl, h⟩ := fixF_some h
      rw [M_s_EdOk_L1] at h
      refine JS.seq (JS.region (JO.reg ttOk 1 [] [] [(139, .v (.bool (decide (x51 < (x0.2.2.2.2.2.2.2.2.2.2.2.2.2.2.1.length : Int)))))] _ rfl ⟨⟨rfl, trivial⟩, rfl⟩ (JO.done rfl (JS.seq ?_))))
      refine JS.cond rfl (fun ht82 => ?_) (fun ht82 => ?_)
      · have h := condT h ht82
        refine JS.skip (JS.seq (JS.block (JS.seq (JS.region (JO.know 0 rfl fun hs80 => ?_)))))
        obtain ⟨g53, h⟩ := guardO_some h
        refine JO.reg ttOk 1 [] [] [(140, .ep ⟨a18, x0.2.2.2.2.2.2.2.2.2.2.2.2.2.2.1.length, c19⟩ (Int.toNat x51 * 1))] _ rfl ⟨hs80.ix g53, ⟨rfl, trivial⟩, rfl⟩ (JO.load ttOk rfl rfl rfl rfl rfl rfl rfl 0 rfl rfl (Int.toNat x51) 0 (at' x0.2.2.2.2.2.2.2.2.2.2.2.2.2.2.1 x51) ⟨at_some g53, rfl⟩ rfl rfl (JO.reg ttOk 1 [] [] [(5, .v (.int .i64 (at' x0.2.2.2.2.2.2.2.2.2.2.2.2.2.2.1 x51)))] _ rfl ⟨⟨rfl, trivial⟩, rfl⟩ (JO.done rfl (JS.seq (JS.region (JO.reg ttOk 1 [] [] [(142, .v (.int .i64 (at' x0.2.2.2.2.2.2.2.2.2.2.2.2.2.2.1 x51)))] _ rfl ⟨⟨rfl, trivial⟩, rfl⟩ ?_))))))
        obtain ⟨y54, hy55, h⟩ := bindO_some h
        refine JO.call rfl rfl rfl rfl (ok_s_Printable (at' x0.2.2.2.2.2.2.2.2.2.2.2.2.2.2.1 x51) _ hy55) rfl [] rfl rfl fun _ _ => JO.reg ttOk 1 [] [] [(144, .v (.bool (!y54)))] _ rfl ⟨⟨rfl, trivial⟩, rfl⟩ (JO.done rfl ?_)
        refine JS.cond rfl (fun ht81 => ?_) (fun ht81 => ?_)
        · have h := condT h ht81
          refine JS.seq (JS.region (JO.reg ttOk 1 [] [] [(2, .v (.bool false))] _ rfl ⟨⟨rfl, trivial⟩, rfl⟩ (JO.done rfl ?_)))
          cases h
          exact JS.ret ttOk () trivial rfl rfl [] rfl
        have h := condF h ht81
        refine JS.skip (JS.endB (JS.region (JO.reg ttOk 2 [(W (x51 + 1))] [] [(138, .v (.int .i64 (W (x51 + 1))))] _ rfl ⟨⟨trivial, rfl⟩, ⟨rfl, trivial⟩, rfl⟩ (JO.done rfl (JS.endL (n59, (W (x51 + 1))) h (Nat.lt_succ_self _) ⟨rfl, rfl, rfl, trivial⟩ trivial [0] rfl [] rfl)))))
      have h := condF h ht82
      refine JS.exit rfl (JS.endJ () h trivial trivial [] rfl [] rfl)
    rintro _ h
    subst hj83
    refine JS.seq (JS.region (JO.reg ttOk 1 [] [] [(2, .v (.bool true))] _ rfl ⟨⟨rfl, trivial⟩, rfl⟩ (JO.done rfl ?_)))
    cases h
    exact JS.ret ttOk () trivial rfl rfl [] rfl

def M_s_l13Span (x0 : List Int × Int) (x1 : Int) (x2 : Int) : Option Bool :=
  (bindO (M_s_LineOk x0) fun (y8 : Bool) =>
  some (bif (bif (bif y8 then (decide (0 ≤ x1)) else false) then (decide (x1 ≤ x2)) else false) then (decide (x2 ≤ (x0.1.length : Int))) else false))

theorem ok_s_l13Span (x0 : List Int × Int) (x1 : Int) (x2 : Int) (a4 : Option Addr) (c5 : Nat) (l6 : Nat) (hl7 : x0.1.length = l6) (r : Bool) (h : M_s_l13Span x0 x1 x2 = some r) :
    FC Tryz.prog 154 [.agg #[.slice a4 l6 c5, .int .i64 x0.2], .int .i64 x1, .int .i64 x2] [⟨(.int .i64), ⟨a4, l6, c5⟩, x0.1⟩] (fun _ : Unit => True) (fun _ => .bool r) (fun _ => []) :=
  by
    subst hl7
    refine FC.of (T := TTx) Tryz.call154 Tryz.func154 rfl rfl fun w0 => ?_
    unfold M_s_l13Span at h
    refine JS.seq (JS.region (JO.regB ttOk 2 [] [2] [(3, .bp 2 0)] (.new 2 34 [.slice a4 x0.1.length c5, .int .i64 x0.2] .nil) rfl ⟨⟨rfl, trivial⟩, ⟨rfl, rfl, rfl, rfl, trivial⟩⟩ (JO.done rfl (JS.seq (JS.region (JO.reg ttOk 1 [] [] [(7, .v (.agg #[.slice a4 x0.1.length c5, .int .i64 x0.2]))] _ rfl ⟨⟨rfl, trivial⟩, rfl⟩ ?_))))))
    obtain ⟨y8, hy9, h⟩ := bindO_some h
    refine JO.call rfl rfl rfl rfl (ok_s_LineOk x0 a4 c5 x0.1.length rfl _ hy9) rfl [0] rfl rfl fun _ _ => JO.reg ttOk 17 [] [] [(6, .v (.bool (bif (bif (bif y8 then (decide (0 ≤ x1)) else false) then (decide (x1 ≤ x2)) else false) then (decide (x2 ≤ (x0.1.length : Int))) else false)))] _ rfl ⟨⟨rfl, trivial⟩, rfl⟩ (JO.done rfl ?_)
    cases h
    exact JS.ret ttOk () trivial rfl rfl [] rfl

def M_s_l13Join (x0 : List Int) (x1 : List Int) (x2 : List Int) : Option (List Int) :=
  (guardO (([] : List Int).length + x0.length ≤ 536870912) <|
  (guardO ((([] : List Int) ++ x0).length + x1.length ≤ 536870912) <|
  (guardO (((([] : List Int) ++ x0) ++ x1).length + x2.length ≤ 536870912) <|
  some (((([] : List Int) ++ x0) ++ x1) ++ x2))))

theorem ok_s_l13Join (x0 : List Int) (x1 : List Int) (x2 : List Int) (a4 : Option Addr) (c5 : Nat) (l6 : Nat) (hl7 : x0.length = l6) (a8 : Option Addr) (c9 : Nat) (l10 : Nat) (hl11 : x1.length = l10) (a12 : Option Addr) (c13 : Nat) (l14 : Nat) (hl15 : x2.length = l14) (r : List Int) (h : M_s_l13Join x0 x1 x2 = some r) :
    FC Tryz.prog 104 [.slice a4 l6 c5, .slice a8 l10 c9, .slice a12 l14 c13] [⟨(.int .i64), ⟨a4, l6, c5⟩, x0⟩, ⟨(.int .i64), ⟨a8, l10, c9⟩, x1⟩, ⟨(.int .i64), ⟨a12, l14, c13⟩, x2⟩] (fun _ : Option Addr × Nat => True) (fun q => .slice q.1 r.length q.2) (fun q => [⟨(.int .i64), ⟨q.1, r.length, q.2⟩, r⟩]) :=
  by
    subst hl7
    subst hl11
    subst hl15
    refine FC.of (T := TTx) Tryz.call104 Tryz.func104 rfl rfl fun w0 => ?_
    unfold M_s_l13Join at h
    refine JS.seq (JS.region (JO.reg ttOk 1 [] [] [] _ rfl ⟨trivial, rfl⟩ (JO.done rfl (JS.seq (JS.region ?_)))))
    refine JO.ofK rfl (JK.buildSlice ttOk rfl rfl rfl rfl rfl rfl rfl rfl rfl rfl rfl [] rfl (.int .i64) [] ⟨rfl, rfl⟩ rfl rfl fun a16 => JO.toK ?_)
    refine JO.reg ttOk 1 [] [] [(8, .v (.slice a4 x0.length c5))] _ rfl ⟨⟨rfl, trivial⟩, rfl⟩ ?_
    obtain ⟨g17, h⟩ := guardO_some h
    refine JO.appendR' ttOk rfl rfl rfl rfl ⟨rfl, rfl, rfl, rfl, trivial, rfl, rfl, rfl, rfl⟩ rfl rfl rfl [0] rfl 0 rfl g17 rfl fun a18 c19 => JO.reg ttOk 1 [] [] [(10, .v (.slice a8 x1.length c9))] _ rfl ⟨⟨rfl, trivial⟩, rfl⟩ ?_
    obtain ⟨g20, h⟩ := guardO_some h
    refine JO.appendR' ttOk rfl rfl rfl rfl ⟨rfl, rfl, rfl, rfl, trivial, rfl, rfl, rfl, rfl⟩ rfl rfl rfl [0] rfl 1 rfl g20 rfl fun a21 c22 => JO.reg ttOk 1 [] [] [(12, .v (.slice a12 x2.length c13))] _ rfl ⟨⟨rfl, trivial⟩, rfl⟩ ?_
    obtain ⟨g23, h⟩ := guardO_some h
    refine JO.appendR' ttOk rfl rfl rfl rfl ⟨rfl, rfl, rfl, rfl, trivial, rfl, rfl, rfl, rfl⟩ rfl rfl rfl [0] rfl 2 rfl g23 rfl fun a24 c25 => JO.reg ttOk 1 [] [] [(6, .v (.slice a24 (((([] : List Int) ++ x0) ++ x1) ++ x2).length c25))] _ rfl ⟨⟨rfl, trivial⟩, rfl⟩ (JO.done rfl ?_)
    cases h
    exact JS.ret ttOk (a24, c25) trivial rfl rfl [0] rfl

def M_s_LineCut (x0 : List Int × Int) (x1 : Int) (x2 : Int) : Option ((List Int × Int) × List Int × Bool) :=
  (bindO (M_s_l13Span x0 x1 x2) fun (y8 : Bool) =>
  (bif (!y8) then
  some (([], 0), [], false)
  else
  (joinO (fun (x12 : Int) =>
  (guardO (0 ≤ (0 : Int) ∧ (0 : Int) ≤ x1 ∧ x1 ≤ (x0.1.length : Int)) <|
  (guardO (0 ≤ x2 ∧ x2 ≤ (x0.1.length : Int) ∧ (x0.1.length : Int) ≤ (x0.1.length : Int)) <|
  (bindO (M_s_l13Join (sub' x0.1 (0 : Int) x1) ([] : List Int) (sub' x0.1 x2 (x0.1.length : Int))) fun (y25 : List Int) =>
  (guardO (0 ≤ x1 ∧ x1 ≤ x2 ∧ x2 ≤ (x0.1.length : Int)) <|
  (bindO (M_s_l13Join ([] : List Int) (sub' x0.1 x1 x2) ([] : List Int)) fun (y33 : List Int) =>
  some ((y25, x12), y33, true))))))) fun j13 =>
  (bif (decide (x2 ≤ x0.2)) then
  j13 (W (x0.2 - (W (x2 - x1))))
  else
  (bif (decide (x1 < x0.2)) then
  j13 x1
  else
  j13 x0.2)))))

theorem ok_s_LineCut (x0 : List Int × Int) (x1 : Int) (x2 : Int) (a4 : Option Addr) (c5 : Nat) (l6 : Nat) (hl7 : x0.1.length = l6) (r : (List Int × Int) × List Int × Bool) (h : M_s_LineCut x0 x1 x2 = some r) :
    FC Tryz.prog 55 [.agg #[.slice a4 l6 c5, .int .i64 x0.2], .int .i64 x1, .int .i64 x2] [⟨(.int .i64), ⟨a4, l6, c5⟩, x0.1⟩] (fun _ : Option Addr × Nat × Option Addr × Nat => True) (fun q => .tuple #[.agg #[.slice q.1 r.1.1.length q.2.1, .int .i64 r.1.2], .slice q.2.2.1 r.2.1.length q.2.2.2, .bool r.2.2]) (fun q => [⟨(.int .i64), ⟨q.1, r.1.1.length, q.2.1⟩, r.1.1⟩, ⟨(.int .i64), ⟨q.2.2.1, r.2.1.length, q.2.2.2⟩, r.2.1⟩]) :=
  by
    subst hl7
    refine FC.of (T := TTx) Tryz.call55 Tryz.func55 rfl rfl fun w0 => ?_
    unfold M_s_LineCut at h
    refine JS.seq (JS.region (JO.regB ttOk 4 [] [2, 3] [(3, .bp 2 0), (6, .bp 3 0)] (.new 2 34 [.slice a4 x0.1.length c5, .int .i64 x0.2] (.new 3 34 [.slice none 0 0, .int .i64 0] .nil)) rfl ⟨⟨rfl, rfl, trivial⟩, ⟨rfl, rfl, rfl, rfl, rfl, rfl, rfl, rfl, trivial⟩⟩ (JO.done rfl (JS.seq (JS.seq (JS.region (JO.reg ttOk 3 [] [] [(10, .v (.agg #[.slice a4 x0.1.length c5, .int .i64 x0.2])), (11, .v (.int .i64 x1)), (12, .v (.int .i64 x2))] _ rfl ⟨⟨rfl, rfl, rfl, trivial⟩, rfl⟩ ?_)))))))
    obtain ⟨y8, hy9, h⟩ := bindO_some h
    refine JO.call rfl rfl rfl rfl (ok_s_l13Span x0 x1 x2 a4 c5 x0.1.length rfl _ hy9) rfl [0] rfl rfl fun _ _ => JO.reg ttOk 1 [] [] [(14, .v (.bool (!y8)))] _ rfl ⟨⟨rfl, trivial⟩, rfl⟩ (JO.done rfl ?_)
    refine JS.cond rfl (fun ht48 => ?_) (fun ht48 => ?_)
    · have h := condT h ht48
      refine JS.seq (JS.region (JO.regB ttOk 4 [] [] [(7, .v (.slice none 0 0)), (8, .v (.bool false))] (.new 3 34 [.slice none 0 0, .int .i64 0] .nil) rfl ⟨⟨rfl, rfl, trivial⟩, ⟨rfl, rfl, rfl, rfl, trivial⟩⟩ (JO.done rfl ?_)))
      cases h
      refine JS.nilO (.int .i64) Sl.nil rfl rfl (JS.nilO (.int .i64) Sl.nil rfl rfl (JS.ret ttOk (none, 0, none, 0) trivial rfl rfl [1, 0] rfl))
    have h := condF h ht48
    refine JS.skip (JS.seq (JS.region (JO.reg ttOk 3 [] [] [(9, .v (.int .i64 x0.2))] _ rfl ⟨⟨rfl, trivial⟩, rfl⟩ (JO.done rfl ?_))))
    obtain ⟨j13, hj47, h⟩ := joinO_some h
    refine JS.seqJ (ι := Int) ⟨fun z => j13 z = some r, fun z => [(1, .v (.int .i64 x1)), (2, .v (.int .i64 x2)), (3, .bp 2 0), (6, .bp 3 0), (9, .v (.int .i64 z))], fun z => (.new 2 34 [.slice a4 x0.1.length c5, .int .i64 x0.2] (.new 3 34 [.slice none 0 0, .int .i64 0] .nil)), fun z => [⟨(.int .i64), ⟨a4, x0.1.length, c5⟩, x0.1⟩], fun z => [], fun z => 0⟩ ?_ ?_
    · refine JS.seq (JS.region (JO.reg ttOk 3 [] [] [(20, .v (.bool (decide (x2 ≤ x0.2))))] _ rfl ⟨⟨rfl, trivial⟩, rfl⟩ (JO.done rfl ?_)))
      refine JS.cond rfl (fun ht43 => ?_) (fun ht43 => ?_)
      · have h := condT h ht43
        refine JS.region (JO.reg ttOk 6 [(W (x2 - x1)), (W (x0.2 - (W (x2 - x1))))] [] [(9, .v (.int .i64 (W (x0.2 - (W (x2 - x1))))))] _ rfl ⟨⟨trivial, rfl⟩, ⟨trivial, rfl⟩, ⟨rfl, trivial⟩, rfl⟩ (JO.done rfl (JS.endJ (W (x0.2 - (W (x2 - x1)))) h ⟨rfl, rfl, rfl, rfl, rfl, trivial⟩ ⟨rfl, rfl, rfl, rfl, rfl, rfl, rfl, rfl, trivial⟩ [0] rfl [] rfl)))
      have h := condF h ht43
      refine JS.seq (JS.region (JO.reg ttOk 3 [] [] [(28, .v (.bool (decide (x1 < x0.2))))] _ rfl ⟨⟨rfl, trivial⟩, rfl⟩ (JO.done rfl ?_)))
      refine JS.cond rfl (fun ht42 => ?_) (fun ht42 => ?_)
      · have h := condT h ht42
        refine JS.region (JO.reg ttOk 2 [] [] [(9, .v (.int .i64 x1))] _ rfl ⟨⟨rfl, trivial⟩, rfl⟩ (JO.done rfl (JS.endJ x1 h ⟨rfl, rfl, rfl, rfl, rfl, trivial⟩ ⟨rfl, rfl, rfl, rfl, rfl, rfl, rfl, rfl, trivial⟩ [0] rfl [] rfl)))
      have h := condF h ht42
      refine JS.skip (JS.endJ x0.2 h ⟨rfl, rfl, rfl, rfl, rfl, trivial⟩ ⟨rfl, rfl, rfl, rfl, rfl, rfl, rfl, rfl, trivial⟩ [0] rfl [] rfl)
    rintro x12 h
    subst hj47
    refine JS.seq ?_
    obtain ⟨g16, h⟩ := guardO_some h
    obtain ⟨g21, h⟩ := guardO_some h
    obtain ⟨y25, hy26, h⟩ := bindO_some h
    obtain ⟨g29, h⟩ := guardO_some h
    obtain ⟨y33, hy34, h⟩ := bindO_some h
    refine JS.subR 0 rfl (0 : Int) x1 fun a17 c18 hu19 => JS.subR 1 rfl x2 (x0.1.length : Int) fun a22 c23 hu24 => JS.subR 2 rfl x1 x2 fun a30 c31 hu32 => JS.know 3 rfl fun hs46 => ?_
    refine JS.regionA rfl (.new 2 34 [.slice a4 x0.1.length c5, .int .i64 x0.2] .nil) [] [18, 19] ⟨rfl, rfl, rfl, rfl, trivial⟩ rfl (fun be39 => ?_)
    refine JA.reg ttOk panic_cx true 9 [0, 1, 2, 4, 5, 6, 9, 11, 12, 13, 14] rfl (by kernel_rfl) [] [(30, .bp 2 0), (31, .v (.slice a4 x0.1.length c5)), (32, .v (.int .i64 x1)), (34, .bp 2 0), (35, .v (.slice a4 x0.1.length c5)), (36, .v (.int .i64 x2)), (39, .v (.int .i64 x12)), (41, .bp 2 0), (42, .v (.slice a4 x0.1.length c5)), (43, .v (.int .i64 x1)), (44, .v (.int .i64 x2))] ⟨rfl, rfl, rfl, rfl, trivial⟩ [] rfl rfl ⟨rfl, rfl, rfl, rfl, rfl, rfl, rfl, rfl, rfl, rfl, rfl, trivial⟩ (JA.sliceP ttOk panic_cx 3 rfl (by kernel_rfl) rfl rfl rfl rfl rfl rfl (0 : Int) x1 rfl rfl ⟨g16.1, g16.2.1, g16.2.2, hs46.cap, hu19 g16⟩ rfl (JA.sliceP ttOk panic_cx 7 rfl (by kernel_rfl) rfl rfl rfl rfl rfl rfl x2 (x0.1.length : Int) rfl rfl ⟨g21.1, g21.2.1, g21.2.2, hs46.cap, hu24 g21⟩ rfl (JA.sliceP ttOk panic_cx 15 rfl (by kernel_rfl) rfl rfl rfl rfl rfl rfl x1 x2 rfl rfl ⟨g29.1, g29.2.1, g29.2.2, hs46.cap, hu32 g29⟩ rfl (JA.one 8 (by kernel_rfl) (JK.nilR (.int .i64) Sl.nil rfl rfl (JK.call rfl rfl rfl rfl (ok_s_l13Join (sub' x0.1 (0 : Int) x1) ([] : List Int) (sub' x0.1 x2 (x0.1.length : Int)) a17 c18 ((sub' x0.1 (0 : Int) x1).length) rfl none 0 (([] : List Int).length) rfl a22 c23 ((sub' x0.1 x2 (x0.1.length : Int)).length) rfl _ hy26) rfl [3, 0, 2] rfl rfl ?_))))))
    rintro ⟨a27, c28⟩ -
    refine JA.next ⟨rfl, rfl, rfl, rfl, trivial⟩ [] rfl (JA.reg ttOk panic_cx true 4 [10] rfl (by kernel_rfl) [] [(30, .bp 2 0), (31, .v (.slice a4 x0.1.length c5)), (32, .v (.int .i64 x1)), (33, .v (.slice a17 (sub' x0.1 (0 : Int) x1).length c18)), (34, .bp 2 0), (35, .v (.slice a4 x0.1.length c5)), (36, .v (.int .i64 x2)), (37, .v (.slice a22 (sub' x0.1 x2 (x0.1.length : Int)).length c23)), (38, .v (.slice a27 y25.length c28)), (39, .v (.int .i64 x12)), (40, .v (.agg #[.slice a27 y25.length c28, .int .i64 x12])), (41, .bp 2 0), (42, .v (.slice a4 x0.1.length c5)), (43, .v (.int .i64 x1)), (44, .v (.int .i64 x2)), (45, .v (.slice a30 (sub' x0.1 x1 x2).length c31))] ⟨rfl, rfl, rfl, rfl, trivial⟩ [] rfl rfl ⟨rfl, rfl, rfl, rfl, rfl, rfl, rfl, rfl, rfl, rfl, rfl, rfl, rfl, rfl, rfl, rfl, trivial⟩ (JA.one 16 (by kernel_rfl) (JK.nilR (.int .i64) Sl.nil rfl rfl (JK.nilR (.int .i64) Sl.nil rfl rfl (JK.call rfl rfl rfl rfl (ok_s_l13Join ([] : List Int) (sub' x0.1 x1 x2) ([] : List Int) none 0 (([] : List Int).length) rfl a30 c31 ((sub' x0.1 x1 x2).length) rfl none 0 (([] : List Int).length) rfl _ hy34) rfl [1, 3, 0] rfl rfl ?_)))))
    rintro ⟨a35, c36⟩ -
    refine JA.next ⟨rfl, rfl, rfl, rfl, trivial⟩ [] rfl (JA.one 17 (by kernel_rfl) (JK.stBox ttOk rfl rfl rfl rfl rfl rfl rfl rfl (JK.boxes (B' := (.new 2 34 [.slice a4 x0.1.length c5, .int .i64 x0.2] (.new 3 34 [.slice a27 y25.length c28, .int .i64 x12] .nil))) ⟨rfl, rfl, rfl, rfl, rfl, rfl, rfl, rfl, trivial⟩ (JA.next ⟨rfl, rfl, rfl, rfl, trivial⟩ [] rfl (JA.regL ttOk panic_cx 0 [18, 19] rfl (by kernel_rfl) [] [(7, .v (.slice a35 y33.length c36)), (8, .v (.bool true)), (30, .bp 2 0), (31, .v (.slice a4 x0.1.length c5)), (32, .v (.int .i64 x1)), (33, .v (.slice a17 (sub' x0.1 (0 : Int) x1).length c18)), (34, .bp 2 0), (35, .v (.slice a4 x0.1.length c5)), (36, .v (.int .i64 x2)), (37, .v (.slice a22 (sub' x0.1 x2 (x0.1.length : Int)).length c23)), (38, .v (.slice a27 y25.length c28)), (39, .v (.int .i64 x12)), (40, .v (.agg #[.slice a27 y25.length c28, .int .i64 x12])), (41, .bp 2 0), (42, .v (.slice a4 x0.1.length c5)), (43, .v (.int .i64 x1)), (44, .v (.int .i64 x2)), (45, .v (.slice a30 (sub' x0.1 x1 x2).length c31)), (46, .v (.slice a35 y33.length c36))] rfl ⟨rfl, rfl, rfl, rfl, rfl, rfl, rfl, rfl, rfl, rfl, rfl, rfl, rfl, rfl, rfl, rfl, rfl, rfl, rfl, trivial⟩ (JA.done (by kernel_rfl) (JS.boxes (B' := (.new 3 34 [.slice a27 y25.length c28, .int .i64 x12] .nil)) ⟨rfl, rfl, rfl, rfl, trivial⟩ ?_)))))))
    cases h
    exact JS.ret ttOk (a27, c28, a35, c36) trivial rfl rfl [1, 0] rfl

def M_s_l24Cut (x0 : Bool × Int × (List Int × Int) × Int × Int × Int × Int × Int × Int × Int × List (List Int) × (List (List Int × Int)) × Int × (List Int × Int) × List Int × Int × List Int × Int) (x1 : Int) (x2 : Int) : Option Bool :=
  (bindO (M_s_LineCut x0.2.2.1 x1 x2) fun (y28, y29, y30) =>
  some y30)

theorem ok_s_l24Cut (x0 : Bool × Int × (List Int × Int) × Int × Int × Int × Int × Int × Int × Int × List (List Int) × (List (List Int × Int)) × Int × (List Int × Int) × List Int × Int × List Int × Int) (x1 : Int) (x2 : Int) (a4 : Option Addr) (c5 : Nat) (l6 : Nat) (hl7 : x0.2.2.1.1.length = l6) (a8 : Option Addr) (c9 : Nat) (l10 : Nat) (hl11 : x0.2.2.2.2.2.2.2.2.2.2.1.length = l10) (a12 : Option Addr) (c13 : Nat) (l14 : Nat) (hl15 : x0.2.2.2.2.2.2.2.2.2.2.2.1.length = l14) (a16 : Option Addr) (c17 : Nat) (l18 : Nat) (hl19 : x0.2.2.2.2.2.2.2.2.2.2.2.2.2.1.1.length = l18) (a20 : Option Addr) (c21 : Nat) (l22 : Nat) (hl23 : x0.2.2.2.2.2.2.2.2.2.2.2.2.2.2.1.length = l22) (a24 : Option Addr) (c25 : Nat) (l26 : Nat) (hl27 : x0.2.2.2.2.2.2.2.2.2.2.2.2.2.2.2.2.1.length = l26) (r : Bool) (h : M_s_l24Cut x0 x1 x2 = some r) :
    FC Tryz.prog 52 [.agg #[.bool x0.1, .int .i64 x0.2.1, .slice a4 l6 c5, .int .i64 x0.2.2.1.2, .int .i64 x0.2.2.2.1, .int .i64 x0.2.2.2.2.1, .int .i64 x0.2.2.2.2.2.1, .int .i64 x0.2.2.2.2.2.2.1, .int .i64 x0.2.2.2.2.2.2.2.1, .int .i64 x0.2.2.2.2.2.2.2.2.1, .int .i64 x0.2.2.2.2.2.2.2.2.2.1, .slice a8 l10 c9, .slice a12 l14 c13, .int .i64 x0.2.2.2.2.2.2.2.2.2.2.2.2.1, .slice a16 l18 c17, .int .i64 x0.2.2.2.2.2.2.2.2.2.2.2.2.2.1.2, .slice a20 l22 c21, .int .i64 x0.2.2.2.2.2.2.2.2.2.2.2.2.2.2.2.1, .slice a24 l26 c25, .int .i64 x0.2.2.2.2.2.2.2.2.2.2.2.2.2.2.2.2.2], .int .i64 x1, .int .i64 x2] [⟨(.int .i64), ⟨a4, l6, c5⟩, x0.2.2.1.1⟩, ⟨(.sl (.int .i64)), ⟨a8, l10, c9⟩, x0.2.2.2.2.2.2.2.2.2.2.1⟩, ⟨(.pair (.sl (.int .i64)) (.int .i64)), ⟨a12, l14, c13⟩, x0.2.2.2.2.2.2.2.2.2.2.2.1⟩, ⟨(.int .i64), ⟨a16, l18, c17⟩, x0.2.2.2.2.2.2.2.2.2.2.2.2.2.1.1⟩, ⟨(.int .i64), ⟨a20, l22, c21⟩, x0.2.2.2.2.2.2.2.2.2.2.2.2.2.2.1⟩, ⟨(.int .i64), ⟨a24, l26, c25⟩, x0.2.2.2.2.2.2.2.2.2.2.2.2.2.2.2.2.1⟩] (fun _ : Unit => True) (fun _ => .bool r) (fun _ => []) :=
  by
    subst hl7
    subst hl11
    subst hl15
    subst hl19
    subst hl23
    subst hl27
    refine FC.of (T := TTx) Tryz.call52 Tryz.func52 rfl rfl fun w0 => ?_
    unfold M_s_l24Cut at h
    refine JS.seq (JS.region (JO.regB ttOk 2 [] [7] [(3, .bp 7 0)] (.new 7 42 (cl42 x0 a4 c5 a8 c9 a12 c13 a16 c17 a20 c21 a24 c25) .nil) rfl ⟨⟨rfl, trivial⟩, ⟨rfl, rfl, rfl, rfl, trivial⟩⟩ (JO.done rfl (JS.seq (JS.region (JO.reg ttOk 4 [] [] [(12, .v (.agg #[.slice a4 x0.2.2.1.1.length c5, .int .i64 x0.2.2.1.2])), (13, .v (.int .i64 x1)), (14, .v (.int .i64 x2))] _ rfl ⟨⟨rfl, rfl, rfl, trivial⟩, rfl⟩ ?_))))))
    obtain ⟨⟨y28, y29, y30⟩, hy31, h⟩ := bindO_some h
    refine JO.call rfl rfl rfl rfl (ok_s_LineCut x0.2.2.1 x1 x2 a4 c5 x0.2.2.1.1.length rfl _ hy31) rfl [0] rfl rfl ?_
    rintro ⟨a32, c33, a34, c35⟩ -
    refine JO.regB ttOk 8 [] [18] [(7, .bp 18 0), (9, .v (.bool y30))] .nil rfl ⟨⟨rfl, rfl, trivial⟩, trivial⟩ (JO.done rfl (JS.seq (JS.region (JO.reg ttOk 2 [] [] [(6, .v (.bool y30))] _ rfl ⟨⟨rfl, trivial⟩, rfl⟩ (JO.done rfl ?_)))))
    cases h
    exact JS.ret ttOk () trivial rfl rfl [] rfl

def M_s_l08Clamp (x0 : Int) (x1 : Int) : Option Int :=
  (bif (decide (x0 < 0)) then
  some 0
  else
  (bif (decide (x1 < x0)) then
  some x1
  else
  some x0))

theorem ok_s_l08Clamp (x0 : Int) (x1 : Int) (r : Int) (h : M_s_l08Clamp x0 x1 = some r) :
    FC Tryz.prog 142 [.int .i64 x0, .int .i64 x1] [] (fun _ : Unit => True) (fun _ => .int .i64 r) (fun _ => []) :=
  by
    refine FC.of (T := TTx) Tryz.call142 Tryz.func142 rfl rfl fun w0 => ?_
    unfold M_s_l08Clamp at h
    refine JS.seq (JS.region (JO.reg ttOk 1 [] [] [] _ rfl ⟨trivial, rfl⟩ (JO.done rfl (JS.seq (JS.seq (JS.region (JO.reg ttOk 2 [] [] [(6, .v (.bool (decide (x0 < 0))))] _ rfl ⟨⟨rfl, trivial⟩, rfl⟩ (JO.done rfl ?_))))))))
    refine JS.cond rfl (fun ht6 => ?_) (fun ht6 => ?_)
    · have h := condT h ht6
      refine JS.seq (JS.region (JO.reg ttOk 1 [] [] [(4, .v (.int .i64 0))] _ rfl ⟨⟨rfl, trivial⟩, rfl⟩ (JO.done rfl ?_)))
      cases h
      exact JS.ret ttOk () trivial rfl rfl [] rfl
    have h := condF h ht6
    refine JS.skip (JS.seq (JS.seq (JS.region (JO.reg ttOk 3 [] [] [(9, .v (.bool (decide (x1 < x0))))] _ rfl ⟨⟨rfl, trivial⟩, rfl⟩ (JO.done rfl ?_)))))
    refine JS.cond rfl (fun ht5 => ?_) (fun ht5 => ?_)
    · have h := condT h ht5
      refine JS.seq (JS.region (JO.reg ttOk 2 [] [] [(4, .v (.int .i64 x1))] _ rfl ⟨⟨rfl, trivial⟩, rfl⟩ (JO.done rfl ?_)))
      cases h
      exact JS.ret ttOk () trivial rfl rfl [] rfl
    have h := condF h ht5
    refine JS.skip (JS.seq (JS.region (JO.reg ttOk 2 [] [] [(4, .v (.int .i64 x0))] _ rfl ⟨⟨rfl, trivial⟩, rfl⟩ (JO.done rfl ?_))))
    cases h
    exact JS.ret ttOk () trivial rfl rfl [] rfl

def M_s_l13If (x0 : List Int × Int) (x1 : Bool) : Option ((List Int × Int) × Bool) :=
  (callO ((!x1) = false) (M_s_LineOk x0) false fun (y7 : Bool) =>
  (bif (bif (!x1) then true else (!y7)) then
  some (([], 0), false)
  else
  some (x0, true)))

theorem ok_s_l13If (x0 : List Int × Int) (x1 : Bool) (a3 : Option Addr) (c4 : Nat) (l5 : Nat) (hl6 : x0.1.length = l5) (r : (List Int × Int) × Bool) (h : M_s_l13If x0 x1 = some r) :
    FX Tryz.prog 158 [.agg #[.slice a3 l5 c4, .int .i64 x0.2], .bool x1] [] [⟨(.int .i64), ⟨a3, l5, c4⟩, x0.1⟩] (fun _ : Option Addr × Nat => True) (fun q => .tuple #[.agg #[.slice q.1 r.1.1.length q.2, .int .i64 r.1.2], .bool r.2]) (fun q => [⟨(.int .i64), ⟨q.1, r.1.1.length, q.2⟩, r.1.1⟩]) :=
  by
    subst hl6
    refine FX.of (T := TTx) Tryz.call158 Tryz.func158 rfl rfl fun w0 L0 => ?_
    unfold M_s_l13If at h
    refine JS.seq (JS.region (JO.regB ttOk 3 [] [2, 3] [(2, .bp 2 0), (4, .bp 3 0)] (.new 2 34 [.slice a3 x0.1.length c4, .int .i64 x0.2] (.new 3 34 [.slice none 0 0, .int .i64 0] .nil)) rfl ⟨⟨rfl, rfl, trivial⟩, ⟨rfl, rfl, rfl, rfl, rfl, rfl, rfl, rfl, trivial⟩⟩ (JO.done rfl (JS.seq (JS.seq (JS.region (JO.reg ttOk 4 [] [] [(8, .v (.bool (!x1))), (9, .cd [(8, false)] (.v (.agg #[.slice a3 x0.1.length c4, .int .i64 x0.2])))] _ rfl ⟨⟨rfl, rfl, trivial⟩, rfl⟩ ?_)))))))
    obtain ⟨y7, hy8, -, h⟩ := callO_some h
    refine JO.callg rfl rfl rfl rfl (fun q11 => ok_s_LineOk x0 a3 c4 x0.1.length rfl _ (hy8 q11)) rfl [0] rfl rfl (JO.reg ttOk 2 [] [] [(12, .v (.bool (bif (!x1) then true else (!y7))))] _ rfl ⟨⟨rfl, trivial⟩, rfl⟩ (JO.done rfl ?_))
    refine JS.cond rfl (fun ht12 => ?_) (fun ht12 => ?_)
    · have h := condT h ht12
      refine JS.seq (JS.region (JO.regB ttOk 3 [] [] [(5, .v (.bool false))] (.new 3 34 [.slice none 0 0, .int .i64 0] .nil) rfl ⟨⟨rfl, trivial⟩, ⟨rfl, rfl, rfl, rfl, trivial⟩⟩ (JO.done rfl ?_)))
      cases h
      refine JS.nilO (.int .i64) Sl.nil rfl rfl (JS.retX ttOk (none, 0) trivial rfl rfl [0] rfl)
    have h := condF h ht12
    refine JS.skip (JS.seq (JS.region (JO.regB ttOk 3 [] [] [(5, .v (.bool true))] (.new 3 34 [.slice a3 x0.1.length c4, .int .i64 x0.2] .nil) rfl ⟨⟨rfl, trivial⟩, ⟨rfl, rfl, rfl, rfl, trivial⟩⟩ (JO.done rfl ?_))))
    cases h
    exact JS.retX ttOk (a3, c4) trivial rfl rfl [0] rfl

def M_s_LineGo (x0 : List Int × Int) (x1 : Int) : Option ((List Int × Int) × Bool) :=
  (bindO (M_s_l13Join x0.1 ([] : List Int) ([] : List Int)) fun (y7 : List Int) =>
  (bindO (M_s_l08Clamp x1 (x0.1.length : Int)) fun (y11 : Int) =>
  (bindO (M_s_LineOk x0) fun (y13 : Bool) =>
  (bindO (M_s_l13If (y7, y11) y13) fun (y15, y16) =>
  some (y15, y16)))))

theorem ok_s_LineGo (x0 : List Int × Int) (x1 : Int) (a3 : Option Addr) (c4 : Nat) (l5 : Nat) (hl6 : x0.1.length = l5) (r : (List Int × Int) × Bool) (h : M_s_LineGo x0 x1 = some r) :
    FC Tryz.prog 59 [.agg #[.slice a3 l5 c4, .int .i64 x0.2], .int .i64 x1] [⟨(.int .i64), ⟨a3, l5, c4⟩, x0.1⟩] (fun _ : Option Addr × Nat => True) (fun q => .tuple #[.agg #[.slice q.1 r.1.1.length q.2, .int .i64 r.1.2], .bool r.2]) (fun q => [⟨(.int .i64), ⟨q.1, r.1.1.length, q.2⟩, r.1.1⟩]) :=
  by
    subst hl6
    refine FC.of (T := TTx) Tryz.call59 Tryz.func59 rfl rfl fun w0 => ?_
    unfold M_s_LineGo at h
    refine JS.seq (JS.region (JO.regB ttOk 3 [] [2, 3] [(2, .bp 2 0), (4, .bp 3 0)] (.new 2 34 [.slice a3 x0.1.length c4, .int .i64 x0.2] (.new 3 34 [.slice none 0 0, .int .i64 0] .nil)) rfl ⟨⟨rfl, rfl, trivial⟩, ⟨rfl, rfl, rfl, rfl, rfl, rfl, rfl, rfl, trivial⟩⟩ (JO.done rfl (JS.seq ?_))))
    obtain ⟨y7, hy8, h⟩ := bindO_some h
    obtain ⟨y11, hy12, h⟩ := bindO_some h
    obtain ⟨y13, hy14, h⟩ := bindO_some h
    obtain ⟨⟨y15, y16⟩, hy17, h⟩ := bindO_some h
    refine JS.regionA rfl (.new 2 34 [.slice a3 x0.1.length c4, .int .i64 x0.2] .nil) [] [14, 15] ⟨rfl, rfl, rfl, rfl, trivial⟩ rfl (fun be20 => ?_)
    refine JA.reg ttOk panic_cx true 9 [0, 1, 3, 4, 5, 6, 9] rfl (by kernel_rfl) [] [(6, .bp 2 0), (7, .v (.slice a3 x0.1.length c4)), (9, .v (.int .i64 x1)), (10, .bp 2 0), (11, .v (.slice a3 x0.1.length c4)), (12, .v (.int .i64 (x0.1.length : Int))), (15, .v (.agg #[.slice a3 x0.1.length c4, .int .i64 x0.2]))] ⟨rfl, rfl, rfl, rfl, trivial⟩ [] rfl rfl ⟨rfl, rfl, rfl, rfl, rfl, rfl, rfl, trivial⟩ (JA.one 2 (by kernel_rfl) (JK.nilR (.int .i64) Sl.nil rfl rfl (JK.nilR (.int .i64) Sl.nil rfl rfl (JK.call rfl rfl rfl rfl (ok_s_l13Join x0.1 ([] : List Int) ([] : List Int) a3 c4 x0.1.length rfl none 0 (([] : List Int).length) rfl none 0 (([] : List Int).length) rfl _ hy8) rfl [2, 1, 0] rfl rfl ?_))))
    rintro ⟨a9, c10⟩ -
    refine JA.next ⟨rfl, rfl, rfl, rfl, trivial⟩ [] rfl (JA.one 7 (by kernel_rfl) (JK.call rfl rfl rfl rfl (ok_s_l08Clamp x1 (x0.1.length : Int) _ hy12) rfl [] rfl rfl fun _ _ => JA.next ⟨rfl, rfl, rfl, rfl, trivial⟩ [] rfl (JA.reg ttOk panic_cx true 6 [8] rfl (by kernel_rfl) [] [(6, .bp 2 0), (7, .v (.slice a3 x0.1.length c4)), (8, .v (.slice a9 y7.length c10)), (9, .v (.int .i64 x1)), (10, .bp 2 0), (11, .v (.slice a3 x0.1.length c4)), (12, .v (.int .i64 (x0.1.length : Int))), (13, .v (.int .i64 y11)), (14, .v (.agg #[.slice a9 y7.length c10, .int .i64 y11])), (15, .v (.agg #[.slice a3 x0.1.length c4, .int .i64 x0.2]))] ⟨rfl, rfl, rfl, rfl, trivial⟩ [] rfl rfl ⟨rfl, rfl, rfl, rfl, rfl, rfl, rfl, rfl, rfl, rfl, trivial⟩ (JA.one 10 (by kernel_rfl) (JK.call rfl rfl rfl rfl (ok_s_LineOk x0 a3 c4 x0.1.length rfl _ hy14) rfl [2] rfl rfl fun _ _ => JA.next ⟨rfl, rfl, rfl, rfl, trivial⟩ [] rfl (JA.one 11 (by kernel_rfl) (JK.callX rfl rfl rfl rfl (ok_s_l13If (y7, y11) y13 a9 c10 y7.length rfl _ hy17) rfl [0] rfl [] rfl rfl ?_)))))))
    rintro ⟨a18, c19⟩ -
    refine JA.next ⟨rfl, rfl, rfl, rfl, trivial⟩ [] rfl (JA.reg ttOk panic_cx true 2 [12, 13] rfl (by kernel_rfl) [] [(6, .bp 2 0), (7, .v (.slice a3 x0.1.length c4)), (8, .v (.slice a9 y7.length c10)), (9, .v (.int .i64 x1)), (10, .bp 2 0), (11, .v (.slice a3 x0.1.length c4)), (12, .v (.int .i64 (x0.1.length : Int))), (13, .v (.int .i64 y11)), (14, .v (.agg #[.slice a9 y7.length c10, .int .i64 y11])), (15, .v (.agg #[.slice a3 x0.1.length c4, .int .i64 x0.2])), (16, .v (.bool y13)), (17, .v (.tuple #[.agg #[.slice a18 y15.1.length c19, .int .i64 y15.2], .bool y16])), (18, .v (.agg #[.slice a18 y15.1.length c19, .int .i64 y15.2])), (19, .v (.bool y16))] ⟨rfl, rfl, rfl, rfl, trivial⟩ [] rfl rfl ⟨rfl, rfl, rfl, rfl, rfl, rfl, rfl, rfl, rfl, rfl, rfl, rfl, rfl, rfl, trivial⟩ (JA.one 14 (by kernel_rfl) (JK.stBox ttOk rfl rfl rfl rfl rfl rfl rfl rfl (JK.boxes (B' := (.new 2 34 [.slice a3 x0.1.length c4, .int .i64 x0.2] (.new 3 34 [.slice a18 y15.1.length c19, .int .i64 y15.2] .nil))) ⟨rfl, rfl, rfl, rfl, rfl, rfl, rfl, rfl, trivial⟩ (JA.nextL rfl (JA.regL ttOk panic_cx 0 [15] rfl (by kernel_rfl) [] [(5, .v (.bool y16)), (6, .bp 2 0), (7, .v (.slice a3 x0.1.length c4)), (8, .v (.slice a9 y7.length c10)), (9, .v (.int .i64 x1)), (10, .bp 2 0), (11, .v (.slice a3 x0.1.length c4)), (12, .v (.int .i64 (x0.1.length : Int))), (13, .v (.int .i64 y11)), (14, .v (.agg #[.slice a9 y7.length c10, .int .i64 y11])), (15, .v (.agg #[.slice a3 x0.1.length c4, .int .i64 x0.2])), (16, .v (.bool y13)), (17, .v (.tuple #[.agg #[.slice a18 y15.1.length c19, .int .i64 y15.2], .bool y16])), (18, .v (.agg #[.slice a18 y15.1.length c19, .int .i64 y15.2])), (19, .v (.bool y16))] rfl ⟨rfl, rfl, rfl, rfl, rfl, rfl, rfl, rfl, rfl, rfl, rfl, rfl, rfl, rfl, rfl, trivial⟩ (JA.done (by kernel_rfl) (JS.boxes (B' := (.new 3 34 [.slice a18 y15.1.length c19, .int .i64 y15.2] .nil)) ⟨rfl, rfl, rfl, rfl, trivial⟩ ?_))))))))
    cases h
    exact JS.ret ttOk (a18, c19) trivial rfl rfl [0] rfl

def M_s_l15Line (x0 : List Int × Int) : Option (List Int × Int) :=
  (guardO (([] : List Int).length + x0.1.length ≤ 536870912) <|
  some ((([] : List Int) ++ x0.1), x0.2))

theorem ok_s_l15Line (x0 : List Int × Int) (a2 : Option Addr) (c3 : Nat) (l4 : Nat) (hl5 : x0.1.length = l4) (r : List Int × Int) (h : M_s_l15Line x0 = some r) :
    FC Tryz.prog 80 [.agg #[.slice a2 l4 c3, .int .i64 x0.2]] [⟨(.int .i64), ⟨a2, l4, c3⟩, x0.1⟩] (fun _ : Option Addr × Nat => True) (fun q => .agg #[.slice q.1 r.1.length q.2, .int .i64 r.2]) (fun q => [⟨(.int .i64), ⟨q.1, r.1.length, q.2⟩, r.1⟩]) :=
  by
    subst hl5
    refine FC.of (T := TTx) Tryz.call80 Tryz.func80 rfl rfl fun w0 => ?_
    unfold M_s_l15Line at h
    refine JS.seq (JS.region (JO.regB ttOk 2 [] [2, 3] [(1, .bp 2 0), (2, .bp 3 0)] (.new 2 34 [.slice a2 x0.1.length c3, .int .i64 x0.2] (.new 3 34 [.slice none 0 0, .int .i64 0] .nil)) rfl ⟨⟨rfl, rfl, trivial⟩, ⟨rfl, rfl, rfl, rfl, rfl, rfl, rfl, rfl, trivial⟩⟩ (JO.done rfl (JS.seq ?_))))
    obtain ⟨g7, h⟩ := guardO_some h
    refine JS.regionA rfl (.new 2 34 [.slice a2 x0.1.length c3, .int .i64 x0.2] .nil) [] [7] ⟨rfl, rfl, rfl, rfl, trivial⟩ rfl (fun be10 => ?_)
    refine JA.reg ttOk panic_cx true 4 [1, 2, 4, 5] rfl (by kernel_rfl) [] [(4, .bp 2 0), (5, .v (.slice a2 x0.1.length c3)), (7, .bp 2 1), (8, .v (.int .i64 x0.2))] ⟨rfl, rfl, rfl, rfl, trivial⟩ [] rfl rfl ⟨rfl, rfl, rfl, rfl, trivial⟩ (JA.one 0 (by kernel_rfl) (JK.buildSlice ttOk rfl rfl rfl rfl rfl rfl rfl rfl rfl rfl rfl [] rfl (.int .i64) [] ⟨rfl, rfl⟩ rfl rfl fun a6 => JA.next ⟨rfl, rfl, rfl, rfl, trivial⟩ [] rfl (JA.one 3 (by kernel_rfl) (JK.appendR' ttOk rfl rfl rfl rfl ⟨rfl, rfl, rfl, rfl, trivial, rfl, rfl, rfl, rfl⟩ rfl rfl rfl [0] rfl 0 rfl g7 rfl fun a8 c9 => JA.next ⟨rfl, rfl, rfl, rfl, trivial⟩ [] rfl (JA.reg ttOk panic_cx true 1 [6] rfl (by kernel_rfl) [] [(3, .v (.slice a6 ([] : List Int).length ([] : List Int).length)), (4, .bp 2 0), (5, .v (.slice a2 x0.1.length c3)), (6, .v (.slice a8 (([] : List Int) ++ x0.1).length c9)), (7, .bp 2 1), (8, .v (.int .i64 x0.2)), (9, .v (.agg #[.slice a8 (([] : List Int) ++ x0.1).length c9, .int .i64 x0.2]))] ⟨rfl, rfl, rfl, rfl, trivial⟩ [] rfl rfl ⟨rfl, rfl, rfl, rfl, rfl, rfl, rfl, trivial⟩ (JA.one 7 (by kernel_rfl) (JK.stBox ttOk rfl rfl rfl rfl rfl rfl rfl rfl (JK.boxes (B' := (.new 2 34 [.slice a2 x0.1.length c3, .int .i64 x0.2] (.new 3 34 [.slice a8 (([] : List Int) ++ x0.1).length c9, .int .i64 x0.2] .nil))) ⟨rfl, rfl, rfl, rfl, rfl, rfl, rfl, rfl, trivial⟩ (JA.nextL rfl (JA.done (by kernel_rfl) (JS.boxes (B' := (.new 3 34 [.slice a8 (([] : List Int) ++ x0.1).length c9, .int .i64 x0.2] .nil)) ⟨rfl, rfl, rfl, rfl, trivial⟩ ?_)))))))))))
    cases h
    exact JS.ret ttOk (a8, c9) trivial rfl rfl [0] rfl

def M_s_l15Copy_L1 (x0 : List (List Int)) (j39 : (List (List Int)) → Option (List (List Int))) (k32 : (Int × List (List Int)) → Option (List (List Int))) : (Int × List (List Int)) → Option (List (List Int)) := fun (x6, x10) =>
  (bif (decide (x6 < (x0.length : Int))) then
  (guardO (0 ≤ x6 ∧ x6 < (x0.length : Int)) <|
  (guardO (([] : List Int).length + (at' x0 x6).length ≤ 536870912) <|
  (guardO (x10.length + ([(([] : List Int) ++ (at' x0 x6))] : List (List Int)).length ≤ 536870912) <|
  k32 ((W (x6 + 1)), (x10 ++ ([(([] : List Int) ++ (at' x0 x6))] : List (List Int)))))))
  else
  j39 x10)

def M_s_l15Copy (x0 : List (List Int)) : Option (List (List Int)) :=
  (joinO (fun (x36 : List (List Int)) =>
  some x36) fun j39 =>
  (fixF (M_s_l15Copy_L1 x0 j39) FUEL (0, ([] : List (List Int)))))

theorem ok_s_l15Copy (x0 : List (List Int)) (a2 : Option Addr) (c3 : Nat) (l4 : Nat) (hl5 : x0.length = l4) (r : List (List Int)) (h : M_s_l15Copy x0 = some r) :
    FC Tryz.prog 155 [.agg #[.slice a2 l4 c3]] [⟨(.sl (.int .i64)), ⟨a2, l4, c3⟩, x0⟩] (fun _ : Option Addr × Nat => True) (fun q => .agg #[.slice q.1 r.length q.2]) (fun q => [⟨(.sl (.int .i64)), ⟨q.1, r.length, q.2⟩, r⟩]) :=
  by
    subst hl5
    refine FC.of (T := TTx) Tryz.call155 Tryz.func155 rfl rfl fun w0 => ?_
    unfold M_s_l15Copy at h
    refine JS.seq (JS.region (JO.regB ttOk 2 [] [2, 3] [(1, .bp 2 0), (2, .bp 3 0)] (.new 2 37 [.slice a2 x0.length c3] (.new 3 37 [.slice none 0 0] .nil)) rfl ⟨⟨rfl, rfl, trivial⟩, ⟨rfl, rfl, rfl, rfl, rfl, rfl, rfl, rfl, trivial⟩⟩ (JO.done rfl (JS.seq (JS.region (JO.regB ttOk 3 [] [4] [(3, .bp 4 0)] (.new 2 37 [.slice a2 x0.length c3] (.new 3 37 [.slice none 0 0] (.new 4 37 [.slice none 0 0] .nil))) rfl ⟨⟨rfl, trivial⟩, ⟨rfl, rfl, rfl, rfl, rfl, rfl, rfl, rfl, rfl, rfl, rfl, rfl, trivial⟩⟩ (JO.done rfl (JS.seq (JS.seq (JS.region (JO.reg ttOk 4 [] [] [(8, .v (.slice a2 x0.length c3)), (9, .v (.int .i64 (x0.length : Int))), (10, .v (.int .i64 0))] _ rfl ⟨⟨rfl, rfl, rfl, trivial⟩, rfl⟩ (JO.done rfl ?_))))))))))))
    obtain ⟨j39, hj45, h⟩ := joinO_some h
    refine JS.blockJ (ι := List (List Int) × Option Addr × Nat) ⟨fun z => j39 z.1 = some r, fun z => [(2, .bp 3 0), (3, .bp 4 0)], fun z => (.new 3 37 [.slice none 0 0] (.new 4 37 [.slice z.2.1 z.1.length z.2.2] .nil)), fun z => [], fun z => [⟨(.sl (.int .i64)), ⟨z.2.1, z.1.length, z.2.2⟩, z.1⟩], fun z => 0⟩ ?_ ?_
    · refine JS.nilO (.sl (.int .i64)) Sl.nil rfl rfl (JS.loop (ι := Nat × Int × List (List Int) × Option Addr × Nat) ⟨fun z => fixF (M_s_l15Copy_L1 x0 j39) z.1 (z.2.1, z.2.2.1) = some r, fun z => [(2, .bp 3 0), (3, .bp 4 0), (8, .v (.slice a2 x0.length c3)), (9, .v (.int .i64 (x0.length : Int))), (10, .v (.int .i64 z.2.1))], fun z => (.new 3 37 [.slice none 0 0] (.new 4 37 [.slice z.2.2.2.1 z.2.2.1.length z.2.2.2.2] .nil)), fun z => [⟨(.sl (.int .i64)), ⟨a2, x0.length, c3⟩, x0⟩], fun z => [⟨(.sl (.int .i64)), ⟨z.2.2.2.1, z.2.2.1.length, z.2.2.2.2⟩, z.2.2.1⟩], fun z => z.1⟩ (FUEL, 0, ([] : List (List Int)), none, 0) h ⟨rfl, rfl, rfl, rfl, rfl, trivial⟩ ⟨rfl, rfl, rfl, rfl, rfl, rfl, rfl, rfl, trivial⟩ [0] rfl [0] rfl ?_)
      rintro ⟨n33, x6, x10, a11, c12⟩ h
      obtain ⟨n33, rfl, h⟩ := fixF_some h
      rw [M_s_l15Copy_L1] at h
      refine JS.seq (JS.region (JO.reg ttOk 1 [] [] [(11, .v (.bool (decide (x6 < (x0.length : Int)))))] _ rfl ⟨⟨rfl, trivial⟩, rfl⟩ (JO.done rfl (JS.seq ?_))))
      refine JS.cond rfl (fun ht44 => ?_) (fun ht44 => ?_)
      · have h := condT h ht44
        refine JS.skip (JS.seq (JS.block (JS.seq (JS.region (JO.know 0 rfl fun hs43 => ?_)))))
        obtain ⟨g14, h⟩ := guardO_some h
        refine JO.reg ttOk 1 [] [] [(12, .ep ⟨a2, x0.length, c3⟩ (Int.toNat x6 * 1))] _ rfl ⟨hs43.ix g14, ⟨rfl, trivial⟩, rfl⟩ (JO.openR 0 rfl (Int.toNat x6) (at' x0 x6) rfl fun a15 c16 ys17 hl18 hy19 => JO.loadV ttOk rfl rfl rfl rfl rfl rfl 0 rfl rfl (Int.toNat x6) 0 (Sl.v ⟨a15, (at' x0 x6).length, c16⟩) ⟨hy19 (ltNat g14), rfl⟩ rfl rfl rfl (JO.regB ttOk 2 [] [22] [(5, .bp 22 0)] (.new 3 37 [.slice none 0 0] (.new 4 37 [.slice a11 x10.length c12] (.new 22 159 [.slice a15 (at' x0 x6).length c16] .nil))) rfl ⟨⟨rfl, trivial⟩, ⟨rfl, rfl, rfl, rfl, rfl, rfl, rfl, rfl, rfl, rfl, rfl, rfl, trivial⟩⟩ (JO.done rfl ?_)))
        obtain ⟨g21, h⟩ := guardO_some h
        obtain ⟨g25, h⟩ := guardO_some h
        refine JS.regionA rfl (.new 4 37 [.slice a11 x10.length c12] (.new 22 159 [.slice a15 (at' x0 x6).length c16] .nil)) [] [9, 10] ⟨rfl, rfl, rfl, rfl, rfl, rfl, rfl, rfl, trivial⟩ rfl (fun be28 => ?_)
        refine JA.reg ttOk panic_cx true 7 [0, 1, 3, 4] rfl (by kernel_rfl) [] [(14, .bp 4 0), (15, .v (.slice a11 x10.length c12)), (17, .bp 22 0), (18, .v (.slice a15 (at' x0 x6).length c16))] ⟨rfl, rfl, rfl, rfl, rfl, rfl, rfl, rfl, trivial⟩ [] rfl rfl ⟨rfl, rfl, rfl, rfl, trivial⟩ (JA.one 2 (by kernel_rfl) (JK.buildSlice ttOk rfl rfl rfl rfl rfl rfl rfl rfl rfl rfl rfl [] rfl (.int .i64) [] ⟨rfl, rfl⟩ rfl rfl fun a20 => JA.next ⟨rfl, rfl, rfl, rfl, rfl, rfl, rfl, rfl, trivial⟩ [] rfl (JA.one 5 (by kernel_rfl) (JK.appendR' ttOk rfl rfl rfl rfl ⟨rfl, rfl, rfl, rfl, trivial, rfl, rfl, rfl, rfl⟩ rfl rfl rfl [0] rfl 1 rfl g21 rfl fun a22 c23 => JA.next ⟨rfl, rfl, rfl, rfl, rfl, rfl, rfl, rfl, trivial⟩ [] rfl (JA.reg ttOk panic_cx true 4 [6] rfl (by kernel_rfl) [] [(14, .bp 4 0), (15, .v (.slice a11 x10.length c12)), (16, .v (.slice a20 ([] : List Int).length ([] : List Int).length)), (17, .bp 22 0), (18, .v (.slice a15 (at' x0 x6).length c16)), (19, .v (.slice a22 (([] : List Int) ++ (at' x0 x6)).length c23)), (20, .v (.agg #[.slice a22 (([] : List Int) ++ (at' x0 x6)).length c23]))] ⟨rfl, rfl, rfl, rfl, rfl, rfl, rfl, rfl, trivial⟩ [] rfl rfl ⟨rfl, rfl, rfl, rfl, rfl, rfl, rfl, trivial⟩ (JA.one 7 (by kernel_rfl) (JK.buildSlice ttOk rfl rfl rfl rfl rfl rfl rfl rfl rfl rfl rfl [0] rfl (.sl (.int .i64)) [(([] : List Int) ++ (at' x0 x6))] ⟨rfl, rfl, rfl⟩ rfl rfl fun a24 => JA.next ⟨rfl, rfl, rfl, rfl, rfl, rfl, rfl, rfl, trivial⟩ [] rfl (JA.one 8 (by kernel_rfl) (JK.appendO' ttOk rfl rfl rfl rfl ⟨rfl, rfl, rfl, rfl, trivial, rfl, rfl, rfl, rfl⟩ rfl rfl [1, 0] rfl g25 rfl fun a26 c27 => JA.next ⟨rfl, rfl, rfl, rfl, rfl, rfl, rfl, rfl, trivial⟩ [] rfl (JA.regL ttOk panic_cx 1 [9] rfl (by kernel_rfl) [] [(14, .bp 4 0), (15, .v (.slice a11 x10.length c12)), (16, .v (.slice a20 ([] : List Int).length ([] : List Int).length)), (17, .bp 22 0), (18, .v (.slice a15 (at' x0 x6).length c16)), (19, .v (.slice a22 (([] : List Int) ++ (at' x0 x6)).length c23)), (20, .v (.agg #[.slice a22 (([] : List Int) ++ (at' x0 x6)).length c23])), (21, .v (.slice a24 ([(([] : List Int) ++ (at' x0 x6))] : List (List Int)).length ([(([] : List Int) ++ (at' x0 x6))] : List (List Int)).length)), (22, .v (.slice a26 (x10 ++ ([(([] : List Int) ++ (at' x0 x6))] : List (List Int))).length c27)), (23, .bp 4 0)] rfl ⟨rfl, rfl, rfl, rfl, rfl, rfl, rfl, rfl, rfl, rfl, trivial⟩ (JA.one 10 (by kernel_rfl) (JK.stBox ttOk rfl rfl rfl rfl rfl rfl rfl rfl (JK.boxes (B' := (.new 3 37 [.slice none 0 0] (.new 4 37 [.slice a26 (x10 ++ ([(([] : List Int) ++ (at' x0 x6))] : List (List Int))).length c27] (.new 22 159 [.slice a15 (at' x0 x6).length c16] .nil)))) ⟨rfl, rfl, rfl, rfl, rfl, rfl, rfl, rfl, rfl, rfl, rfl, rfl, trivial⟩ (JA.nextL rfl (JA.done (by kernel_rfl) ?_)))))))))))))))
        refine JS.boxes (B' := (.new 3 37 [.slice none 0 0] (.new 4 37 [.slice a26 (x10 ++ ([(([] : List Int) ++ (at' x0 x6))] : List (List Int))).length c27] .nil))) ⟨rfl, rfl, rfl, rfl, rfl, rfl, rfl, rfl, trivial⟩ (JS.endB (JS.region (JO.reg ttOk 2 [(W (x6 + 1))] [] [(10, .v (.int .i64 (W (x6 + 1))))] _ rfl ⟨⟨trivial, rfl⟩, ⟨rfl, trivial⟩, rfl⟩ (JO.done rfl (JS.endL (n33, (W (x6 + 1)), (x10 ++ ([(([] : List Int) ++ (at' x0 x6))] : List (List Int))), a26, c27) h (Nat.lt_succ_self _) ⟨rfl, rfl, rfl, rfl, rfl, trivial⟩ ⟨rfl, rfl, rfl, rfl, rfl, rfl, rfl, rfl, trivial⟩ [2] rfl [0] rfl)))))
      have h := condF h ht44
      refine JS.exit rfl (JS.endJ (x10, a11, c12) h ⟨rfl, rfl, trivial⟩ ⟨rfl, rfl, rfl, rfl, rfl, rfl, rfl, rfl, trivial⟩ [] rfl [0] rfl)
    rintro ⟨x36, a37, c38⟩ h
    subst hj45
    refine JS.seq (JS.region (JO.regB ttOk 2 [] [] [] (.new 3 37 [.slice a37 x36.length c38] .nil) rfl ⟨trivial, ⟨rfl, rfl, rfl, rfl, trivial⟩⟩ (JO.done rfl ?_)))
    cases h
    exact JS.ret ttOk (a37, c38) trivial rfl rfl [0] rfl

def M_s_l15Lines_L1 (x0 : List (List Int × Int)) (j39 : (List (List Int × Int)) → Option (List (List Int × Int))) (k32 : (Int × (List (List Int × Int))) → Option (List (List Int × Int))) : (Int × (List (List Int × Int))) → Option (List (List Int × Int)) := fun (x6, x10) =>
  (bif (decide (x6 < (x0.length : Int))) then
  (guardO (0 ≤ x6 ∧ x6 < (x0.length : Int)) <|
  (bindO (M_s_l15Line ((at' x0 x6).1, (at' x0 x6).2)) fun (y20 : List Int × Int) =>
  (guardO (x10.length + ([y20] : List (List Int × Int)).length ≤ 536870912) <|
  k32 ((W (x6 + 1)), (x10 ++ ([y20] : List (List Int × Int)))))))
  else
  j39 x10)

def M_s_l15Lines (x0 : List (List Int × Int)) : Option (List (List Int × Int)) :=
  (joinO (fun (x36 : List (List Int × Int)) =>
  some x36) fun j39 =>
  (fixF (M_s_l15Lines_L1 x0 j39) FUEL (0, ([] : List (List Int × Int)))))

theorem ok_s_l15Lines (x0 : List (List Int × Int)) (a2 : Option Addr) (c3 : Nat) (l4 : Nat) (hl5 : x0.length = l4) (r : List (List Int × Int)) (h : M_s_l15Lines x0 = some r) :
    FC Tryz.prog 156 [.agg #[.slice a2 l4 c3]] [⟨(.pair (.sl (.int .i64)) (.int .i64)), ⟨a2, l4, c3⟩, x0⟩] (fun _ : Option Addr × Nat => True) (fun q => .agg #[.slice q.1 r.length q.2]) (fun q => [⟨(.pair (.sl (.int .i64)) (.int .i64)), ⟨q.1, r.length, q.2⟩, r⟩]) :=
  by
    subst hl5
    refine FC.of (T := TTx) Tryz.call156 Tryz.func156 rfl rfl fun w0 => ?_
    unfold M_s_l15Lines at h
    refine JS.seq (JS.region (JO.regB ttOk 2 [] [2, 3] [(1, .bp 2 0), (2, .bp 3 0)] (.new 2 40 [.slice a2 x0.length c3] (.new 3 40 [.slice none 0 0] .nil)) rfl ⟨⟨rfl, rfl, trivial⟩, ⟨rfl, rfl, rfl, rfl, rfl, rfl, rfl, rfl, trivial⟩⟩ (JO.done rfl (JS.seq (JS.region (JO.regB ttOk 3 [] [4] [(3, .bp 4 0)] (.new 2 40 [.slice a2 x0.length c3] (.new 3 40 [.slice none 0 0] (.new 4 40 [.slice none 0 0] .nil))) rfl ⟨⟨rfl, trivial⟩, ⟨rfl, rfl, rfl, rfl, rfl, rfl, rfl, rfl, rfl, rfl, rfl, rfl, trivial⟩⟩ (JO.done rfl (JS.seq (JS.seq (JS.region (JO.reg ttOk 4 [] [] [(8, .v (.slice a2 x0.length c3)), (9, .v (.int .i64 (x0.length : Int))), (10, .v (.int .i64 0))] _ rfl ⟨⟨rfl, rfl, rfl, trivial⟩, rfl⟩ (JO.done rfl ?_))))))))))))
    obtain ⟨j39, hj45, h⟩ := joinO_some h
    refine JS.blockJ (ι := (List (List Int × Int)) × Option Addr × Nat) ⟨fun z => j39 z.1 = some r, fun z => [(2, .bp 3 0), (3, .bp 4 0)], fun z => (.new 3 40 [.slice none 0 0] (.new 4 40 [.slice z.2.1 z.1.length z.2.2] .nil)), fun z => [], fun z => [⟨(.pair (.sl (.int .i64)) (.int .i64)), ⟨z.2.1, z.1.length, z.2.2⟩, z.1⟩], fun z => 0⟩ ?_ ?_
    · refine JS.nilO (.pair (.sl (.int .i64)) (.int .i64)) Sl.nil rfl rfl (JS.loop (ι := Nat × Int × (List (List Int × Int)) × Option Addr × Nat) ⟨fun z => fixF (M_s_l15Lines_L1 x0 j39) z.1 (z.2.1, z.2.2.1) = some r, fun z => [(2, .bp 3 0), (3, .bp 4 0), (8, .v (.slice a2 x0.length c3)), (9, .v (.int .i64 (x0.length : Int))), (10, .v (.int .i64 z.2.1))], fun z => (.new 3 40 [.slice none 0 0] (.new 4 40 [.slice z.2.2.2.1 z.2.2.1.length z.2.2.2.2] .nil)), fun z => [⟨(.pair (.sl (.int .i64)) (.int .i64)), ⟨a2, x0.length, c3⟩, x0⟩], fun z => [⟨(.pair (.sl (.int .i64)) (.int .i64)), ⟨z.2.2.2.1, z.2.2.1.length, z.2.2.2.2⟩, z.2.2.1⟩], fun z => z.1⟩ (FUEL, 0, ([] : List (List Int × Int)), none, 0) h ⟨rfl, rfl, rfl, rfl, rfl, trivial⟩ ⟨rfl, rfl, rfl, rfl, rfl, rfl, rfl, rfl, trivial⟩ [0] rfl [0] rfl ?_)
      rintro ⟨n33, x6, x10, a11, c12⟩ h
      obtain ⟨n33, rfl, h⟩ := fixF_some h
      rw [M_s_l15Lines_L1] at h
      refine JS.seq (JS.region (JO.reg ttOk 1 [] [] [(11, .v (.bool (decide (x6 < (x0.length : Int)))))] _ rfl ⟨⟨rfl, trivial⟩, rfl⟩ (JO.done rfl (JS.seq ?_))))
      refine JS.cond rfl (fun ht44 => ?_) (fun ht44 => ?_)
      · have h := condT h ht44
        refine JS.skip (JS.seq (JS.block (JS.seq (JS.region (JO.know 0 rfl fun hs43 => ?_)))))
        obtain ⟨g14, h⟩ := guardO_some h
        refine JO.reg ttOk 1 [] [] [(12, .ep ⟨a2, x0.length, c3⟩ (Int.toNat x6 * 2))] _ rfl ⟨hs43.ix g14, ⟨rfl, trivial⟩, rfl⟩ (JO.openR 0 rfl (Int.toNat x6) (at' x0 x6) rfl fun a15 c16 ys17 hl18 hy19 => JO.loadV ttOk rfl rfl rfl rfl rfl rfl 0 rfl rfl (Int.toNat x6) 0 ((Sl.v ⟨a15, ((at' x0 x6).1).length, c16⟩), (at' x0 x6).2) ⟨hy19 (ltNat g14), rfl⟩ rfl rfl rfl (JO.regB ttOk 2 [] [22] [(5, .bp 22 0)] (.new 3 40 [.slice none 0 0] (.new 4 40 [.slice a11 x10.length c12] (.new 22 34 [.slice a15 ((at' x0 x6).1).length c16, .int .i64 (at' x0 x6).2] .nil))) rfl ⟨⟨rfl, trivial⟩, ⟨rfl, rfl, rfl, rfl, rfl, rfl, rfl, rfl, rfl, rfl, rfl, rfl, trivial⟩⟩ (JO.done rfl ?_)))
        obtain ⟨y20, hy21, h⟩ := bindO_some h
        obtain ⟨g25, h⟩ := guardO_some h
        refine JS.regionA rfl (.new 4 40 [.slice a11 x10.length c12] (.new 22 34 [.slice a15 ((at' x0 x6).1).length c16, .int .i64 (at' x0 x6).2] .nil)) [] [6, 7] ⟨rfl, rfl, rfl, rfl, rfl, rfl, rfl, rfl, trivial⟩ rfl (fun be28 => ?_)
        refine JA.reg ttOk panic_cx true 5 [0, 1, 2] rfl (by kernel_rfl) [] [(14, .bp 4 0), (15, .v (.slice a11 x10.length c12)), (16, .v (.agg #[.slice a15 ((at' x0 x6).1).length c16, .int .i64 (at' x0 x6).2]))] ⟨rfl, rfl, rfl, rfl, rfl, rfl, rfl, rfl, trivial⟩ [] rfl rfl ⟨rfl, rfl, rfl, trivial⟩ (JA.one 3 (by kernel_rfl) (JK.call rfl rfl rfl rfl (ok_s_l15Line ((at' x0 x6).1, (at' x0 x6).2) a15 c16 (((at' x0 x6).1).length) rfl _ hy21) rfl [1] rfl rfl ?_))
        rintro ⟨a22, c23⟩ -
        refine JA.next ⟨rfl, rfl, rfl, rfl, rfl, rfl, rfl, rfl, trivial⟩ [] rfl (JA.one 4 (by kernel_rfl) (JK.buildSlice ttOk rfl rfl rfl rfl rfl rfl rfl rfl rfl rfl rfl [0] rfl (.pair (.sl (.int .i64)) (.int .i64)) [y20] ⟨rfl, rfl, rfl⟩ rfl rfl fun a24 => JA.next ⟨rfl, rfl, rfl, rfl, rfl, rfl, rfl, rfl, trivial⟩ [] rfl (JA.one 5 (by kernel_rfl) (JK.appendO' ttOk rfl rfl rfl rfl ⟨rfl, rfl, rfl, rfl, trivial, rfl, rfl, rfl, rfl⟩ rfl rfl [1, 0] rfl g25 rfl fun a26 c27 => JA.next ⟨rfl, rfl, rfl, rfl, rfl, rfl, rfl, rfl, trivial⟩ [] rfl (JA.regL ttOk panic_cx 1 [6] rfl (by kernel_rfl) [] [(14, .bp 4 0), (15, .v (.slice a11 x10.length c12)), (16, .v (.agg #[.slice a15 ((at' x0 x6).1).length c16, .int .i64 (at' x0 x6).2])), (17, .v (.agg #[.slice a22 y20.1.length c23, .int .i64 y20.2])), (18, .v (.slice a24 ([y20] : List (List Int × Int)).length ([y20] : List (List Int × Int)).length)), (19, .v (.slice a26 (x10 ++ ([y20] : List (List Int × Int))).length c27)), (20, .bp 4 0)] rfl ⟨rfl, rfl, rfl, rfl, rfl, rfl, rfl, trivial⟩ (JA.one 7 (by kernel_rfl) (JK.stBox ttOk rfl rfl rfl rfl rfl rfl rfl rfl (JK.boxes (B' := (.new 3 40 [.slice none 0 0] (.new 4 40 [.slice a26 (x10 ++ ([y20] : List (List Int × Int))).length c27] (.new 22 34 [.slice a15 ((at' x0 x6).1).length c16, .int .i64 (at' x0 x6).2] .nil)))) ⟨rfl, rfl, rfl, rfl, rfl, rfl, rfl, rfl, rfl, rfl, rfl, rfl, trivial⟩ (JA.nextL rfl (JA.done (by kernel_rfl) (JS.boxes (B' := (.new 3 40 [.slice none 0 0] (.new 4 40 [.slice a26 (x10 ++ ([y20] : List (List Int × Int))).length c27] .nil))) ⟨rfl, rfl, rfl, rfl, rfl, rfl, rfl, rfl, trivial⟩ (JS.endB (JS.region (JO.reg ttOk 2 [(W (x6 + 1))] [] [(10, .v (.int .i64 (W (x6 + 1))))] _ rfl ⟨⟨trivial, rfl⟩, ⟨rfl, trivial⟩, rfl⟩ (JO.done rfl (JS.endL (n33, (W (x6 + 1)), (x10 ++ ([y20] : List (List Int × Int))), a26, c27) h (Nat.lt_succ_self _) ⟨rfl, rfl, rfl, rfl, rfl, trivial⟩ ⟨rfl, rfl, rfl, rfl, rfl, rfl, rfl, rfl, trivial⟩ [2] rfl [0] rfl))))))))))))))))
      have h := condF h ht44
      refine JS.exit rfl (JS.endJ (x10, a11, c12) h ⟨rfl, rfl, trivial⟩ ⟨rfl, rfl, rfl, rfl, rfl, rfl, rfl, rfl, trivial⟩ [] rfl [0] rfl)
    rintro ⟨x36, a37, c38⟩ h
    subst hj45
    refine JS.seq (JS.region (JO.regB ttOk 2 [] [] [] (.new 3 40 [.slice a37 x36.length c38] .nil) rfl ⟨trivial, ⟨rfl, rfl, rfl, rfl, trivial⟩⟩ (JO.done rfl ?_)))
    cases h
    exact JS.ret ttOk (a37, c38) trivial rfl rfl [0] rfl

def M_s_l21Copy (x0 : Bool × Int × (List Int × Int) × Int × Int × Int × Int × Int × Int × Int × List (List Int) × (List (List Int × Int)) × Int × (List Int × Int) × List Int × Int × List Int × Int) : Option (Bool × Int × (List Int × Int) × Int × Int × Int × Int × Int × Int × Int × List (List Int) × (List (List Int × Int)) × Int × (List Int × Int) × List Int × Int × List Int × Int) :=
  (bindO (M_s_l15Line x0.2.2.1) fun (y26 : List Int × Int) =>
  (bindO (M_s_l15Line x0.2.2.2.2.2.2.2.2.2.2.2.2.2.1) fun (y30 : List Int × Int) =>
  (bindO (M_s_l15Line x0.2.2.2.2.2.2.2.2.2.2.2.2.2.2.2.2) fun (y34 : List Int × Int) =>
  (bindO (M_s_l15Copy x0.2.2.2.2.2.2.2.2.2.2.1) fun (y38 : List (List Int)) =>
  (bindO (M_s_l15Lines x0.2.2.2.2.2.2.2.2.2.2.2.1) fun (y42 : List (List Int × Int)) =>
  (guardO (([] : List Int).length + x0.2.2.2.2.2.2.2.2.2.2.2.2.2.2.1.length ≤ 536870912) <|
  some (x0.1, x0.2.1, y26, x0.2.2.2.1, x0.2.2.2.2.1, x0.2.2.2.2.2.1, x0.2.2.2.2.2.2.1, x0.2.2.2.2.2.2.2.1, x0.2.2.2.2.2.2.2.2.1, x0.2.2.2.2.2.2.2.2.2.1, y38, y42, x0.2.2.2.2.2.2.2.2.2.2.2.2.1, y30, (([] : List Int) ++ x0.2.2.2.2.2.2.2.2.2.2.2.2.2.2.1), x0.2.2.2.2.2.2.2.2.2.2.2.2.2.2.2.1, y34)))))))

theorem ok_s_l21Copy (x0 : Bool × Int × (List Int × Int) × Int × Int × Int × Int × Int × Int × Int × List (List Int) × (List (List Int × Int)) × Int × (List Int × Int) × List Int × Int × List Int × Int) (a2 : Option Addr) (c3 : Nat) (l4 : Nat) (hl5 : x0.2.2.1.1.length = l4) (a6 : Option Addr) (c7 : Nat) (l8 : Nat) (hl9 : x0.2.2.2.2.2.2.2.2.2.2.1.length = l8) (a10 : Option Addr) (c11 : Nat) (l12 : Nat) (hl13 : x0.2.2.2.2.2.2.2.2.2.2.2.1.length = l12) (a14 : Option Addr) (c15 : Nat) (l16 : Nat) (hl17 : x0.2.2.2.2.2.2.2.2.2.2.2.2.2.1.1.length = l16) (a18 : Option Addr) (c19 : Nat) (l20 : Nat) (hl21 : x0.2.2.2.2.2.2.2.2.2.2.2.2.2.2.1.length = l20) (a22 : Option Addr) (c23 : Nat) (l24 : Nat) (hl25 : x0.2.2.2.2.2.2.2.2.2.2.2.2.2.2.2.2.1.length = l24) (r : Bool × Int × (List Int × Int) × Int × Int × Int × Int × Int × Int × Int × List (List Int) × (List (List Int × Int)) × Int × (List Int × Int) × List Int × Int × List Int × Int) (h : M_s_l21Copy x0 = some r) :
    FC Tryz.prog 56 [.agg #[.bool x0.1, .int .i64 x0.2.1, .slice a2 l4 c3, .int .i64 x0.2.2.1.2, .int .i64 x0.2.2.2.1, .int .i64 x0.2.2.2.2.1, .int .i64 x0.2.2.2.2.2.1, .int .i64 x0.2.2.2.2.2.2.1, .int .i64 x0.2.2.2.2.2.2.2.1, .int .i64 x0.2.2.2.2.2.2.2.2.1, .int .i64 x0.2.2.2.2.2.2.2.2.2.1, .slice a6 l8 c7, .slice a10 l12 c11, .int .i64 x0.2.2.2.2.2.2.2.2.2.2.2.2.1, .slice a14 l16 c15, .int .i64 x0.2.2.2.2.2.2.2.2.2.2.2.2.2.1.2, .slice a18 l20 c19, .int .i64 x0.2.2.2.2.2.2.2.2.2.2.2.2.2.2.2.1, .slice a22 l24 c23, .int .i64 x0.2.2.2.2.2.2.2.2.2.2.2.2.2.2.2.2.2]] [⟨(.int .i64), ⟨a2, l4, c3⟩, x0.2.2.1.1⟩, ⟨(.sl (.int .i64)), ⟨a6, l8, c7⟩, x0.2.2.2.2.2.2.2.2.2.2.1⟩, ⟨(.pair (.sl (.int .i64)) (.int .i64)), ⟨a10, l12, c11⟩, x0.2.2.2.2.2.2.2.2.2.2.2.1⟩, ⟨(.int .i64), ⟨a14, l16, c15⟩, x0.2.2.2.2.2.2.2.2.2.2.2.2.2.1.1⟩, ⟨(.int .i64), ⟨a18, l20, c19⟩, x0.2.2.2.2.2.2.2.2.2.2.2.2.2.2.1⟩, ⟨(.int .i64), ⟨a22, l24, c23⟩, x0.2.2.2.2.2.2.2.2.2.2.2.2.2.2.2.2.1⟩] (fun _ : Option Addr × Nat × Option Addr × Nat × Option Addr × Nat × Option Addr × Nat × Option Addr × Nat × Option Addr × Nat => True) (fun q => .agg (cl42 r q.1 q.2.1 q.2.2.1 q.2.2.2.1 q.2.2.2.2.1 q.2.2.2.2.2.1 q.2.2.2.2.2.2.1 q.2.2.2.2.2.2.2.1 q.2.2.2.2.2.2.2.2.1 q.2.2.2.2.2.2.2.2.2.1 q.2.2.2.2.2.2.2.2.2.2.1 q.2.2.2.2.2.2.2.2.2.2.2).toArray) (fun q => [⟨(.int .i64), ⟨q.1, r.2.2.1.1.length, q.2.1⟩, r.2.2.1.1⟩, ⟨(.sl (.int .i64)), ⟨q.2.2.1, r.2.2.2.2.2.2.2.2.2.2.1.length, q.2.2.2.1⟩, r.2.2.2.2.2.2.2.2.2.2.1⟩, ⟨(.pair (.sl (.int .i64)) (.int .i64)), ⟨q.2.2.2.2.1, r.2.2.2.2.2.2.2.2.2.2.2.1.length, q.2.2.2.2.2.1⟩, r.2.2.2.2.2.2.2.2.2.2.2.1⟩, ⟨(.int .i64), ⟨q.2.2.2.2.2.2.1, r.2.2.2.2.2.2.2.2.2.2.2.2.2.1.1.length, q.2.2.2.2.2.2.2.1⟩, r.2.2.2.2.2.2.2.2.2.2.2.2.2.1.1⟩, ⟨(.int .i64), ⟨q.2.2.2.2.2.2.2.2.1, r.2.2.2.2.2.2.2.2.2.2.2.2.2.2.1.length, q.2.2.2.2.2.2.2.2.2.1⟩, r.2.2.2.2.2.2.2.2.2.2.2.2.2.2.1⟩, ⟨(.int .i64), ⟨q.2.2.2.2.2.2.2.2.2.2.1, r.2.2.2.2.2.2.2.2.2.2.2.2.2.2.2.2.1.length, q.2.2.2.2.2.2.2.2.2.2.2⟩, r.2.2.2.2.2.2.2.2.2.2.2.2.2.2.2.2.1⟩]) :=
  by
    subst hl5
    subst hl9
    subst hl13
    subst hl17
    subst hl21
    subst hl25
    refine FC.of (T := TTx) Tryz.call56 Tryz.func56 rfl rfl fun w0 => ?_
    unfold M_s_l21Copy at h
    refine JS.seq (JS.region (JO.regB ttOk 2 [] [7, 8] [(1, .bp 7 0), (2, .bp 8 0)] (.new 7 42 (cl42 x0 a2 c3 a6 c7 a10 c11 a14 c15 a18 c19 a22 c23) (.new 8 42 (cl42 (false, 0, ([], 0), 0, 0, 0, 0, 0, 0, 0, [], [], 0, ([], 0), [], 0, ([], 0)) none 0 none 0 none 0 none 0 none 0 none 0) .nil)) rfl ⟨⟨rfl, rfl, trivial⟩, ⟨rfl, rfl, rfl, rfl, rfl, rfl, rfl, rfl, trivial⟩⟩ (JO.done rfl (JS.seq (JS.region (JO.reg ttOk 2 [] [] [(4, .v (.agg #[.slice a2 x0.2.2.1.1.length c3, .int .i64 x0.2.2.1.2]))] _ rfl ⟨⟨rfl, trivial⟩, rfl⟩ ?_))))))
    obtain ⟨y26, hy27, h⟩ := bindO_some h
    refine JO.call rfl rfl rfl rfl (ok_s_l15Line x0.2.2.1 a2 c3 x0.2.2.1.1.length rfl _ hy27) rfl [0] rfl rfl ?_
    rintro ⟨a28, c29⟩ -
    refine JO.regB ttOk 2 [] [] [] (.new 7 42 (cl42 (x0.1, x0.2.1, y26, x0.2.2.2.1, x0.2.2.2.2.1, x0.2.2.2.2.2.1, x0.2.2.2.2.2.2.1, x0.2.2.2.2.2.2.2.1, x0.2.2.2.2.2.2.2.2.1, x0.2.2.2.2.2.2.2.2.2.1, x0.2.2.2.2.2.2.2.2.2.2.1, x0.2.2.2.2.2.2.2.2.2.2.2.1, x0.2.2.2.2.2.2.2.2.2.2.2.2.1, x0.2.2.2.2.2.2.2.2.2.2.2.2.2.1, x0.2.2.2.2.2.2.2.2.2.2.2.2.2.2.1, x0.2.2.2.2.2.2.2.2.2.2.2.2.2.2.2.1, x0.2.2.2.2.2.2.2.2.2.2.2.2.2.2.2.2) a28 c29 a6 c7 a10 c11 a14 c15 a18 c19 a22 c23) (.new 8 42 (cl42 (false, 0, ([], 0), 0, 0, 0, 0, 0, 0, 0, [], [], 0, ([], 0), [], 0, ([], 0)) none 0 none 0 none 0 none 0 none 0 none 0) .nil)) rfl ⟨trivial, ⟨rfl, rfl, rfl, rfl, rfl, rfl, rfl, rfl, trivial⟩⟩ (JO.done rfl (JS.seq (JS.region (JO.reg ttOk 2 [] [] [(8, .v (.agg #[.slice a14 x0.2.2.2.2.2.2.2.2.2.2.2.2.2.1.1.length c15, .int .i64 x0.2.2.2.2.2.2.2.2.2.2.2.2.2.1.2]))] _ rfl ⟨⟨rfl, trivial⟩, rfl⟩ ?_))))
    obtain ⟨y30, hy31, h⟩ := bindO_some h
    refine JO.call rfl rfl rfl rfl (ok_s_l15Line x0.2.2.2.2.2.2.2.2.2.2.2.2.2.1 a14 c15 x0.2.2.2.2.2.2.2.2.2.2.2.2.2.1.1.length rfl _ hy31) rfl [3] rfl rfl ?_
    rintro ⟨a32, c33⟩ -
    refine JO.regB ttOk 2 [] [] [] (.new 7 42 (cl42 (x0.1, x0.2.1, y26, x0.2.2.2.1, x0.2.2.2.2.1, x0.2.2.2.2.2.1, x0.2.2.2.2.2.2.1, x0.2.2.2.2.2.2.2.1, x0.2.2.2.2.2.2.2.2.1, x0.2.2.2.2.2.2.2.2.2.1, x0.2.2.2.2.2.2.2.2.2.2.1, x0.2.2.2.2.2.2.2.2.2.2.2.1, x0.2.2.2.2.2.2.2.2.2.2.2.2.1, y30, x0.2.2.2.2.2.2.2.2.2.2.2.2.2.2.1, x0.2.2.2.2.2.2.2.2.2.2.2.2.2.2.2.1, x0.2.2.2.2.2.2.2.2.2.2.2.2.2.2.2.2) a28 c29 a6 c7 a10 c11 a32 c33 a18 c19 a22 c23) (.new 8 42 (cl42 (false, 0, ([], 0), 0, 0, 0, 0, 0, 0, 0, [], [], 0, ([], 0), [], 0, ([], 0)) none 0 none 0 none 0 none 0 none 0 none 0) .nil)) rfl ⟨trivial, ⟨rfl, rfl, rfl, rfl, rfl, rfl, rfl, rfl, trivial⟩⟩ (JO.done rfl (JS.seq (JS.region (JO.reg ttOk 2 [] [] [(12, .v (.agg #[.slice a22 x0.2.2.2.2.2.2.2.2.2.2.2.2.2.2.2.2.1.length c23, .int .i64 x0.2.2.2.2.2.2.2.2.2.2.2.2.2.2.2.2.2]))] _ rfl ⟨⟨rfl, trivial⟩, rfl⟩ ?_))))
    obtain ⟨y34, hy35, h⟩ := bindO_some h
    refine JO.call rfl rfl rfl rfl (ok_s_l15Line x0.2.2.2.2.2.2.2.2.2.2.2.2.2.2.2.2 a22 c23 x0.2.2.2.2.2.2.2.2.2.2.2.2.2.2.2.2.1.length rfl _ hy35) rfl [5] rfl rfl ?_
    rintro ⟨a36, c37⟩ -
    refine JO.regB ttOk 2 [] [] [] (.new 7 42 (cl42 (x0.1, x0.2.1, y26, x0.2.2.2.1, x0.2.2.2.2.1, x0.2.2.2.2.2.1, x0.2.2.2.2.2.2.1, x0.2.2.2.2.2.2.2.1, x0.2.2.2.2.2.2.2.2.1, x0.2.2.2.2.2.2.2.2.2.1, x0.2.2.2.2.2.2.2.2.2.2.1, x0.2.2.2.2.2.2.2.2.2.2.2.1, x0.2.2.2.2.2.2.2.2.2.2.2.2.1, y30, x0.2.2.2.2.2.2.2.2.2.2.2.2.2.2.1, x0.2.2.2.2.2.2.2.2.2.2.2.2.2.2.2.1, y34) a28 c29 a6 c7 a10 c11 a32 c33 a18 c19 a36 c37) (.new 8 42 (cl42 (false, 0, ([], 0), 0, 0, 0, 0, 0, 0, 0, [], [], 0, ([], 0), [], 0, ([], 0)) none 0 none 0 none 0 none 0 none 0 none 0) .nil)) rfl ⟨trivial, ⟨rfl, rfl, rfl, rfl, rfl, rfl, rfl, rfl, trivial⟩⟩ (JO.done rfl (JS.seq (JS.region (JO.reg ttOk 2 [] [] [(16, .v (.agg #[.slice a6 x0.2.2.2.2.2.2.2.2.2.2.1.length c7]))] _ rfl ⟨⟨rfl, trivial⟩, rfl⟩ ?_))))
    obtain ⟨y38, hy39, h⟩ := bindO_some h
    refine JO.call rfl rfl rfl rfl (ok_s_l15Copy x0.2.2.2.2.2.2.2.2.2.2.1 a6 c7 x0.2.2.2.2.2.2.2.2.2.2.1.length rfl _ hy39) rfl [1] rfl rfl ?_
    rintro ⟨a40, c41⟩ -
    refine JO.regB ttOk 2 [] [] [] (.new 7 42 (cl42 (x0.1, x0.2.1, y26, x0.2.2.2.1, x0.2.2.2.2.1, x0.2.2.2.2.2.1, x0.2.2.2.2.2.2.1, x0.2.2.2.2.2.2.2.1, x0.2.2.2.2.2.2.2.2.1, x0.2.2.2.2.2.2.2.2.2.1, y38, x0.2.2.2.2.2.2.2.2.2.2.2.1, x0.2.2.2.2.2.2.2.2.2.2.2.2.1, y30, x0.2.2.2.2.2.2.2.2.2.2.2.2.2.2.1, x0.2.2.2.2.2.2.2.2.2.2.2.2.2.2.2.1, y34) a28 c29 a40 c41 a10 c11 a32 c33 a18 c19 a36 c37) (.new 8 42 (cl42 (false, 0, ([], 0), 0, 0, 0, 0, 0, 0, 0, [], [], 0, ([], 0), [], 0, ([], 0)) none 0 none 0 none 0 none 0 none 0 none 0) .nil)) rfl ⟨trivial, ⟨rfl, rfl, rfl, rfl, rfl, rfl, rfl, rfl, trivial⟩⟩ (JO.done rfl (JS.seq (JS.region (JO.reg ttOk 2 [] [] [(20, .v (.agg #[.slice a10 x0.2.2.2.2.2.2.2.2.2.2.2.1.length c11]))] _ rfl ⟨⟨rfl, trivial⟩, rfl⟩ ?_))))
    obtain ⟨y42, hy43, h⟩ := bindO_some h
    refine JO.call rfl rfl rfl rfl (ok_s_l15Lines x0.2.2.2.2.2.2.2.2.2.2.2.1 a10 c11 x0.2.2.2.2.2.2.2.2.2.2.2.1.length rfl _ hy43) rfl [2] rfl rfl ?_
    rintro ⟨a44, c45⟩ -
    refine JO.regB ttOk 2 [] [] [] (.new 7 42 (cl42 (x0.1, x0.2.1, y26, x0.2.2.2.1, x0.2.2.2.2.1, x0.2.2.2.2.2.1, x0.2.2.2.2.2.2.1, x0.2.2.2.2.2.2.2.1, x0.2.2.2.2.2.2.2.2.1, x0.2.2.2.2.2.2.2.2.2.1, y38, y42, x0.2.2.2.2.2.2.2.2.2.2.2.2.1, y30, x0.2.2.2.2.2.2.2.2.2.2.2.2.2.2.1, x0.2.2.2.2.2.2.2.2.2.2.2.2.2.2.2.1, y34) a28 c29 a40 c41 a44 c45 a32 c33 a18 c19 a36 c37) (.new 8 42 (cl42 (false, 0, ([], 0), 0, 0, 0, 0, 0, 0, 0, [], [], 0, ([], 0), [], 0, ([], 0)) none 0 none 0 none 0 none 0 none 0 none 0) .nil)) rfl ⟨trivial, ⟨rfl, rfl, rfl, rfl, rfl, rfl, rfl, rfl, trivial⟩⟩ (JO.done rfl (JS.seq (JS.region ?_)))
    refine JO.ofK rfl (JK.buildSlice ttOk rfl rfl rfl rfl rfl rfl rfl rfl rfl rfl rfl [] rfl (.int .i64) [] ⟨rfl, rfl⟩ rfl rfl fun a46 => JO.toK ?_)
    refine JO.reg ttOk 2 [] [] [(25, .v (.slice a18 x0.2.2.2.2.2.2.2.2.2.2.2.2.2.2.1.length c19))] _ rfl ⟨⟨rfl, trivial⟩, rfl⟩ ?_
    obtain ⟨g47, h⟩ := guardO_some h
    refine JO.appendR' ttOk rfl rfl rfl rfl ⟨rfl, rfl, rfl, rfl, trivial, rfl, rfl, rfl, rfl⟩ rfl rfl rfl [0] rfl 4 rfl g47 rfl fun a48 c49 => JO.regB ttOk 2 [] [] [] (.new 7 42 (cl42 (x0.1, x0.2.1, y26, x0.2.2.2.1, x0.2.2.2.2.1, x0.2.2.2.2.2.1, x0.2.2.2.2.2.2.1, x0.2.2.2.2.2.2.2.1, x0.2.2.2.2.2.2.2.2.1, x0.2.2.2.2.2.2.2.2.2.1, y38, y42, x0.2.2.2.2.2.2.2.2.2.2.2.2.1, y30, (([] : List Int) ++ x0.2.2.2.2.2.2.2.2.2.2.2.2.2.2.1), x0.2.2.2.2.2.2.2.2.2.2.2.2.2.2.2.1, y34) a28 c29 a40 c41 a44 c45 a32 c33 a48 c49 a36 c37) (.new 8 42 (cl42 (false, 0, ([], 0), 0, 0, 0, 0, 0, 0, 0, [], [], 0, ([], 0), [], 0, ([], 0)) none 0 none 0 none 0 none 0 none 0 none 0) .nil)) rfl ⟨trivial, ⟨rfl, rfl, rfl, rfl, rfl, rfl, rfl, rfl, trivial⟩⟩ (JO.done rfl (JS.seq (JS.region (JO.regB ttOk 2 [] [] [] (.new 8 42 (cl42 (x0.1, x0.2.1, y26, x0.2.2.2.1, x0.2.2.2.2.1, x0.2.2.2.2.2.1, x0.2.2.2.2.2.2.1, x0.2.2.2.2.2.2.2.1, x0.2.2.2.2.2.2.2.2.1, x0.2.2.2.2.2.2.2.2.2.1, y38, y42, x0.2.2.2.2.2.2.2.2.2.2.2.2.1, y30, (([] : List Int) ++ x0.2.2.2.2.2.2.2.2.2.2.2.2.2.2.1), x0.2.2.2.2.2.2.2.2.2.2.2.2.2.2.2.1, y34) a28 c29 a40 c41 a44 c45 a32 c33 a48 c49 a36 c37) .nil) rfl ⟨trivial, ⟨rfl, rfl, rfl, rfl, trivial⟩⟩ (JO.done rfl ?_)))))
    cases h
    exact JS.ret ttOk (a28, c29, a40, c41, a44, c45, a32, c33, a48, c49, a36, c37) trivial rfl rfl [5, 2, 1, 2, 0, 0] rfl

def M_s_l21Idle (x0 : Bool × Int × (List Int × Int) × Int × Int × Int × Int × Int × Int × Int × List (List Int) × (List (List Int × Int)) × Int × (List Int × Int) × List Int × Int × List Int × Int) : Option (Bool × Int × (List Int × Int) × Int × Int × Int × Int × Int × Int × Int × List (List Int) × (List (List Int × Int)) × Int × (List Int × Int) × List Int × Int × List Int × Int) :=
  some (x0.1, x0.2.1, x0.2.2.1, 0, 0, 0, 0, x0.2.2.2.2.2.2.2.1, x0.2.2.2.2.2.2.2.2.1, x0.2.2.2.2.2.2.2.2.2.1, x0.2.2.2.2.2.2.2.2.2.2.1, x0.2.2.2.2.2.2.2.2.2.2.2.1, x0.2.2.2.2.2.2.2.2.2.2.2.2.1, x0.2.2.2.2.2.2.2.2.2.2.2.2.2.1, x0.2.2.2.2.2.2.2.2.2.2.2.2.2.2.1, x0.2.2.2.2.2.2.2.2.2.2.2.2.2.2.2.1, x0.2.2.2.2.2.2.2.2.2.2.2.2.2.2.2.2)

theorem ok_s_l21Idle (x0 : Bool × Int × (List Int × Int) × Int × Int × Int × Int × Int × Int × Int × List (List Int) × (List (List Int × Int)) × Int × (List Int × Int) × List Int × Int × List Int × Int) (a2 : Option Addr) (c3 : Nat) (l4 : Nat) (hl5 : x0.2.2.1.1.length = l4) (a6 : Option Addr) (c7 : Nat) (l8 : Nat) (hl9 : x0.2.2.2.2.2.2.2.2.2.2.1.length = l8) (a10 : Option Addr) (c11 : Nat) (l12 : Nat) (hl13 : x0.2.2.2.2.2.2.2.2.2.2.2.1.length = l12) (a14 : Option Addr) (c15 : Nat) (l16 : Nat) (hl17 : x0.2.2.2.2.2.2.2.2.2.2.2.2.2.1.1.length = l16) (a18 : Option Addr) (c19 : Nat) (l20 : Nat) (hl21 : x0.2.2.2.2.2.2.2.2.2.2.2.2.2.2.1.length = l20) (a22 : Option Addr) (c23 : Nat) (l24 : Nat) (hl25 : x0.2.2.2.2.2.2.2.2.2.2.2.2.2.2.2.2.1.length = l24) (r : Bool × Int × (List Int × Int) × Int × Int × Int × Int × Int × Int × Int × List (List Int) × (List (List Int × Int)) × Int × (List Int × Int) × List Int × Int × List Int × Int) (h : M_s_l21Idle x0 = some r) :
    FC Tryz.prog 79 [.agg #[.bool x0.1, .int .i64 x0.2.1, .slice a2 l4 c3, .int .i64 x0.2.2.1.2, .int .i64 x0.2.2.2.1, .int .i64 x0.2.2.2.2.1, .int .i64 x0.2.2.2.2.2.1, .int .i64 x0.2.2.2.2.2.2.1, .int .i64 x0.2.2.2.2.2.2.2.1, .int .i64 x0.2.2.2.2.2.2.2.2.1, .int .i64 x0.2.2.2.2.2.2.2.2.2.1, .slice a6 l8 c7, .slice a10 l12 c11, .int .i64 x0.2.2.2.2.2.2.2.2.2.2.2.2.1, .slice a14 l16 c15, .int .i64 x0.2.2.2.2.2.2.2.2.2.2.2.2.2.1.2, .slice a18 l20 c19, .int .i64 x0.2.2.2.2.2.2.2.2.2.2.2.2.2.2.2.1, .slice a22 l24 c23, .int .i64 x0.2.2.2.2.2.2.2.2.2.2.2.2.2.2.2.2.2]] [⟨(.int .i64), ⟨a2, l4, c3⟩, x0.2.2.1.1⟩, ⟨(.sl (.int .i64)), ⟨a6, l8, c7⟩, x0.2.2.2.2.2.2.2.2.2.2.1⟩, ⟨(.pair (.sl (.int .i64)) (.int .i64)), ⟨a10, l12, c11⟩, x0.2.2.2.2.2.2.2.2.2.2.2.1⟩, ⟨(.int .i64), ⟨a14, l16, c15⟩, x0.2.2.2.2.2.2.2.2.2.2.2.2.2.1.1⟩, ⟨(.int .i64), ⟨a18, l20, c19⟩, x0.2.2.2.2.2.2.2.2.2.2.2.2.2.2.1⟩, ⟨(.int .i64), ⟨a22, l24, c23⟩, x0.2.2.2.2.2.2.2.2.2.2.2.2.2.2.2.2.1⟩] (fun _ : Unit => True) (fun _ => .agg #[.bool r.1, .int .i64 r.2.1, .slice a2 l4 c3, .int .i64 r.2.2.1.2, .int .i64 r.2.2.2.1, .int .i64 r.2.2.2.2.1, .int .i64 r.2.2.2.2.2.1, .int .i64 r.2.2.2.2.2.2.1, .int .i64 r.2.2.2.2.2.2.2.1, .int .i64 r.2.2.2.2.2.2.2.2.1, .int .i64 r.2.2.2.2.2.2.2.2.2.1, .slice a6 l8 c7, .slice a10 l12 c11, .int .i64 r.2.2.2.2.2.2.2.2.2.2.2.2.1, .slice a14 l16 c15, .int .i64 r.2.2.2.2.2.2.2.2.2.2.2.2.2.1.2, .slice a18 l20 c19, .int .i64 r.2.2.2.2.2.2.2.2.2.2.2.2.2.2.2.1, .slice a22 l24 c23, .int .i64 r.2.2.2.2.2.2.2.2.2.2.2.2.2.2.2.2.2]) (fun _ => []) :=
  by
    subst hl5
    subst hl9
    subst hl13
    subst hl17
    subst hl21
    subst hl25
    refine FC.of (T := TTx) Tryz.call79 Tryz.func79 rfl rfl fun w0 => ?_
    unfold M_s_l21Idle at h
    refine JS.seq (JS.region (JO.regB ttOk 2 [] [7, 8] [(1, .bp 7 0), (2, .bp 8 0)] (.new 7 42 (cl42 x0 a2 c3 a6 c7 a10 c11 a14 c15 a18 c19 a22 c23) (.new 8 42 (cl42 (false, 0, ([], 0), 0, 0, 0, 0, 0, 0, 0, [], [], 0, ([], 0), [], 0, ([], 0)) none 0 none 0 none 0 none 0 none 0 none 0) .nil)) rfl ⟨⟨rfl, rfl, trivial⟩, ⟨rfl, rfl, rfl, rfl, rfl, rfl, rfl, rfl, trivial⟩⟩ (JO.done rfl (JS.seq (JS.region (JO.regB ttOk 2 [] [] [] (.new 7 42 (cl42 (x0.1, x0.2.1, x0.2.2.1, 0, x0.2.2.2.2.1, x0.2.2.2.2.2.1, x0.2.2.2.2.2.2.1, x0.2.2.2.2.2.2.2.1, x0.2.2.2.2.2.2.2.2.1, x0.2.2.2.2.2.2.2.2.2.1, x0.2.2.2.2.2.2.2.2.2.2.1, x0.2.2.2.2.2.2.2.2.2.2.2.1, x0.2.2.2.2.2.2.2.2.2.2.2.2.1, x0.2.2.2.2.2.2.2.2.2.2.2.2.2.1, x0.2.2.2.2.2.2.2.2.2.2.2.2.2.2.1, x0.2.2.2.2.2.2.2.2.2.2.2.2.2.2.2.1, x0.2.2.2.2.2.2.2.2.2.2.2.2.2.2.2.2) a2 c3 a6 c7 a10 c11 a14 c15 a18 c19 a22 c23) (.new 8 42 (cl42 (false, 0, ([], 0), 0, 0, 0, 0, 0, 0, 0, [], [], 0, ([], 0), [], 0, ([], 0)) none 0 none 0 none 0 none 0 none 0 none 0) .nil)) rfl ⟨trivial, ⟨rfl, rfl, rfl, rfl, rfl, rfl, rfl, rfl, trivial⟩⟩ (JO.done rfl (JS.seq (JS.region (JO.regB ttOk 2 [] [] [] (.new 7 42 (cl42 (x0.1, x0.2.1, x0.2.2.1, 0, 0, x0.2.2.2.2.2.1, x0.2.2.2.2.2.2.1, x0.2.2.2.2.2.2.2.1, x0.2.2.2.2.2.2.2.2.1, x0.2.2.2.2.2.2.2.2.2.1, x0.2.2.2.2.2.2.2.2.2.2.1, x0.2.2.2.2.2.2.2.2.2.2.2.1, x0.2.2.2.2.2.2.2.2.2.2.2.2.1, x0.2.2.2.2.2.2.2.2.2.2.2.2.2.1, x0.2.2.2.2.2.2.2.2.2.2.2.2.2.2.1, x0.2.2.2.2.2.2.2.2.2.2.2.2.2.2.2.1, x0.2.2.2.2.2.2.2.2.2.2.2.2.2.2.2.2) a2 c3 a6 c7 a10 c11 a14 c15 a18 c19 a22 c23) (.new 8 42 (cl42 (false, 0, ([], 0), 0, 0, 0, 0, 0, 0, 0, [], [], 0, ([], 0), [], 0, ([], 0)) none 0 none 0 none 0 none 0 none 0 none 0) .nil)) rfl ⟨trivial, ⟨rfl, rfl, rfl, rfl, rfl, rfl, rfl, rfl, trivial⟩⟩ (JO.done rfl (JS.seq (JS.region (JO.regB ttOk 2 [] [] [] (.new 7 42 (cl42 (x0.1, x0.2.1, x0.2.2.1, 0, 0, 0, x0.2.2.2.2.2.2.1, x0.2.2.2.2.2.2.2.1, x0.2.2.2.2.2.2.2.2.1, x0.2.2.2.2.2.2.2.2.2.1, x0.2.2.2.2.2.2.2.2.2.2.1, x0.2.2.2.2.2.2.2.2.2.2.2.1, x0.2.2.2.2.2.2.2.2.2.2.2.2.1, x0.2.2.2.2.2.2.2.2.2.2.2.2.2.1, x0.2.2.2.2.2.2.2.2.2.2.2.2.2.2.1, x0.2.2.2.2.2.2.2.2.2.2.2.2.2.2.2.1, x0.2.2.2.2.2.2.2.2.2.2.2.2.2.2.2.2) a2 c3 a6 c7 a10 c11 a14 c15 a18 c19 a22 c23) (.new 8 42 (cl42 (false, 0, ([], 0), 0, 0, 0, 0, 0, 0, 0, [], [], 0, ([], 0), [], 0, ([], 0)) none 0 none 0 none 0 none 0 none 0 none 0) .nil)) rfl ⟨trivial, ⟨rfl, rfl, rfl, rfl, rfl, rfl, rfl, rfl, trivial⟩⟩ (JO.done rfl (JS.seq (JS.region (JO.regB ttOk 2 [] [] [] (.new 7 42 (cl42 (x0.1, x0.2.1, x0.2.2.1, 0, 0, 0, 0, x0.2.2.2.2.2.2.2.1, x0.2.2.2.2.2.2.2.2.1, x0.2.2.2.2.2.2.2.2.2.1, x0.2.2.2.2.2.2.2.2.2.2.1, x0.2.2.2.2.2.2.2.2.2.2.2.1, x0.2.2.2.2.2.2.2.2.2.2.2.2.1, x0.2.2.2.2.2.2.2.2.2.2.2.2.2.1, x0.2.2.2.2.2.2.2.2.2.2.2.2.2.2.1, x0.2.2.2.2.2.2.2.2.2.2.2.2.2.2.2.1, x0.2.2.2.2.2.2.2.2.2.2.2.2.2.2.2.2) a2 c3 a6 c7 a10 c11 a14 c15 a18 c19 a22 c23) (.new 8 42 (cl42 (false, 0, ([], 0), 0, 0, 0, 0, 0, 0, 0, [], [], 0, ([], 0), [], 0, ([], 0)) none 0 none 0 none 0 none 0 none 0 none 0) .nil)) rfl ⟨trivial, ⟨rfl, rfl, rfl, rfl, rfl, rfl, rfl, rfl, trivial⟩⟩ (JO.done rfl (JS.seq (JS.region (JO.regB ttOk 2 [] [] [] (.new 8 42 (cl42 (x0.1, x0.2.1, x0.2.2.1, 0, 0, 0, 0, x0.2.2.2.2.2.2.2.1, x0.2.2.2.2.2.2.2.2.1, x0.2.2.2.2.2.2.2.2.2.1, x0.2.2.2.2.2.2.2.2.2.2.1, x0.2.2.2.2.2.2.2.2.2.2.2.1, x0.2.2.2.2.2.2.2.2.2.2.2.2.1, x0.2.2.2.2.2.2.2.2.2.2.2.2.2.1, x0.2.2.2.2.2.2.2.2.2.2.2.2.2.2.1, x0.2.2.2.2.2.2.2.2.2.2.2.2.2.2.2.1, x0.2.2.2.2.2.2.2.2.2.2.2.2.2.2.2.2) a2 c3 a6 c7 a10 c11 a14 c15 a18 c19 a22 c23) .nil) rfl ⟨trivial, ⟨rfl, rfl, rfl, rfl, trivial⟩⟩ (JO.done rfl ?_)))))))))))))))))))))))
    cases h
    exact JS.ret ttOk () trivial rfl rfl [] rfl

def M_s_l15Same_L1 (x0 : List Int) (x1 : List Int) (j28 : Unit → Option Bool) (k20 : Int → Option Bool) : Int → Option Bool := fun x11 =>
  (bif (decide (x11 < (x0.length : Int))) then
  (guardO (0 ≤ x11 ∧ x11 < (x0.length : Int)) <|
  (guardO (0 ≤ x11 ∧ x11 < (x1.length : Int)) <|
  (bif (!(decide ((at' x0 x11) = (at' x1 x11)))) then
  some false
  else
  k20 (W (x11 + 1)))))
  else
  j28 ())

def M_s_l15Same (x0 : List Int) (x1 : List Int) : Option Bool :=
  (bif (!(decide ((x0.length : Int) = (x1.length : Int)))) then
  some false
  else
  (joinO (fun (_ : Unit) =>
  some true) fun j28 =>
  (fixF (M_s_l15Same_L1 x0 x1 j28) FUEL 0)))

theorem ok_s_l15Same (x0 : List Int) (x1 : List Int) (a3 : Option Addr) (c4 : Nat) (l5 : Nat) (hl6 : x0.length = l5) (a7 : Option Addr) (c8 : Nat) (l9 : Nat) (hl10 : x1.length = l9) (r : Bool) (h : M_s_l15Same x0 x1 = some r) :
    FC Tryz.prog 243 [.slice a3 l5 c4, .slice a7 l9 c8] [⟨(.int .i64), ⟨a3, l5, c4⟩, x0⟩, ⟨(.int .i64), ⟨a7, l9, c8⟩, x1⟩] (fun _ : Unit => True) (fun _ => .bool r) (fun _ => []) :=
  by
    subst hl6
    subst hl10
    refine FC.of (T := TTx) Tryz.call243 Tryz.func243 rfl rfl fun w0 => ?_
    unfold M_s_l15Same at h
    refine JS.seq (JS.region (JO.reg ttOk 1 [] [] [] _ rfl ⟨trivial, rfl⟩ (JO.done rfl (JS.seq (JS.seq (JS.region (JO.reg ttOk 5 [] [] [(10, .v (.bool (!(decide ((x0.length : Int) = (x1.length : Int))))))] _ rfl ⟨⟨rfl, trivial⟩, rfl⟩ (JO.done rfl ?_))))))))
    refine JS.cond rfl (fun ht44 => ?_) (fun ht44 => ?_)
    · have h := condT h ht44
      refine JS.seq (JS.region (JO.reg ttOk 1 [] [] [(4, .v (.bool false))] _ rfl ⟨⟨rfl, trivial⟩, rfl⟩ (JO.done rfl ?_)))
      cases h
      exact JS.ret ttOk () trivial rfl rfl [] rfl
    have h := condF h ht44
    refine JS.skip (JS.seq (JS.seq (JS.region (JO.reg ttOk 3 [] [] [(12, .v (.int .i64 (x0.length : Int))), (13, .v (.int .i64 0))] _ rfl ⟨⟨rfl, rfl, trivial⟩, rfl⟩ (JO.done rfl ?_)))))
    obtain ⟨j28, hj43, h⟩ := joinO_some h
    refine JS.blockJ (ι := Unit) ⟨fun _ => j28 () = some r, fun _ => [], fun _ => .nil, fun _ => [], fun _ => [], fun _ => 0⟩ ?_ ?_
    · refine JS.loop (ι := Nat × Int) ⟨fun z => fixF (M_s_l15Same_L1 x0 x1 j28) z.1 z.2 = some r, fun z => [(0, .v (.slice a3 x0.length c4)), (1, .v (.slice a7 x1.length c8)), (12, .v (.int .i64 (x0.length : Int))), (13, .v (.int .i64 z.2))], fun z => .nil, fun z => [⟨(.int .i64), ⟨a3, x0.length, c4⟩, x0⟩, ⟨(.int .i64), ⟨a7, x1.length, c8⟩, x1⟩], fun z => [], fun z => z.1⟩ (FUEL, 0) h ⟨rfl, rfl, rfl, rfl, trivial⟩ trivial [0, 1] rfl [] rfl ?_
      rintro ⟨n21, x11⟩ h
      obtain ⟨n21, rfl, h⟩ := fixF_some h
      rw [M_s_l15Same_L1] at h
      refine JS.seq (JS.region (JO.reg ttOk 1 [] [] [(14, .v (.bool (decide (x11 < (x0.length : Int)))))] _ rfl ⟨⟨rfl, trivial⟩, rfl⟩ (JO.done rfl (JS.seq ?_))))
      refine JS.cond rfl (fun ht42 => ?_) (fun ht42 => ?_)
      · have h := condT h ht42
        refine JS.skip (JS.seq (JS.block (JS.seq (JS.region (JO.reg ttOk 2 [] [] [(5, .v (.int .i64 x11))] _ rfl ⟨⟨rfl, trivial⟩, rfl⟩ (JO.done rfl (JS.seq ?_)))))))
        obtain ⟨g13, h⟩ := guardO_some h
        obtain ⟨g15, h⟩ := guardO_some h
        refine JS.know 0 rfl fun hs39 => JS.know 1 rfl fun hs40 => JS.regionQ rfl (by kernel_rfl) (JQ.reg ttOk 3 [] [(18, .ep ⟨a3, x0.length, c4⟩ (Int.toNat x11 * 1))] rfl ⟨hs39.ix g13, ⟨rfl, trivial⟩⟩ (JQ.load ttOk rfl rfl rfl rfl rfl rfl rfl 0 rfl rfl (Int.toNat x11) 0 (at' x0 x11) ⟨at_some g13, rfl⟩ rfl rfl (JQ.reg ttOk 3 [] [(22, .ep ⟨a7, x1.length, c8⟩ (Int.toNat x11 * 1))] rfl ⟨hs40.ix g15, ⟨rfl, trivial⟩⟩ (JQ.load ttOk rfl rfl rfl rfl rfl rfl rfl 1 rfl rfl (Int.toNat x11) 0 (at' x1 x11) ⟨at_some g15, rfl⟩ rfl rfl (JQ.reg ttOk 1 [] [(24, .v (.bool (!(decide ((at' x0 x11) = (at' x1 x11))))))] rfl ⟨rfl, trivial⟩ (JQ.done rfl ?_))))))
        refine JS.cond rfl (fun ht41 => ?_) (fun ht41 => ?_)
        · have h := condT h ht41
          refine JS.seq (JS.region (JO.reg ttOk 1 [] [] [(4, .v (.bool false))] _ rfl ⟨⟨rfl, trivial⟩, rfl⟩ (JO.done rfl ?_)))
          cases h
          exact JS.ret ttOk () trivial rfl rfl [] rfl
        have h := condF h ht41
        refine JS.skip (JS.endB (JS.region (JO.reg ttOk 2 [(W (x11 + 1))] [] [(13, .v (.int .i64 (W (x11 + 1))))] _ rfl ⟨⟨trivial, rfl⟩, ⟨rfl, trivial⟩, rfl⟩ (JO.done rfl (JS.endL (n21, (W (x11 + 1))) h (Nat.lt_succ_self _) ⟨rfl, rfl, rfl, rfl, trivial⟩ trivial [0, 1] rfl [] rfl)))))
      have h := condF h ht42
      refine JS.exit rfl (JS.endJ () h trivial trivial [] rfl [] rfl)
    rintro _ h
    subst hj43
    refine JS.seq (JS.region (JO.reg ttOk 1 [] [] [(4, .v (.bool true))] _ rfl ⟨⟨rfl, trivial⟩, rfl⟩ (JO.done rfl ?_)))
    cases h
    exact JS.ret ttOk () trivial rfl rfl [] rfl

def M_s_UndoPut (x0 : List (List Int × Int)) (x1 : List Int × Int) : Option ((List (List Int × Int)) × Bool) :=
  (bindO (M_s_UndoOk x0) fun (y11 : Bool) =>
  (callO ((!y11) = false) (M_s_LineOk x1) false fun (y13 : Bool) =>
  (bif (bif (!y11) then true else (!y13)) then
  some ([], false)
  else
  (bindO (M_s_l15Lines x0) fun (y16 : List (List Int × Int)) =>
  (guardO (((decide (0 < (y16.length : Int))) = true) → 0 ≤ (W ((y16.length : Int) - 1)) ∧ (W ((y16.length : Int) - 1)) < (y16.length : Int)) <|
  (callO ((decide (0 < (y16.length : Int))) = true) (M_s_l15Same ((at' y16 (W ((y16.length : Int) - 1))).1) x1.1) false fun (y30 : Bool) =>
  (bif (bif (decide (0 < (y16.length : Int))) then y30 else false) then
  some (y16, true)
  else
  (bindO (M_s_l15Line x1) fun (y45 : List Int × Int) =>
  (guardO (y16.length + ([y45] : List (List Int × Int)).length ≤ 536870912) <|
  (joinO (fun (x58 : List (List Int × Int)) =>
  some (x58, true)) fun j61 =>
  (bif (decide ((y16.length : Int) = 20)) then
  (guardO (0 ≤ (1 : Int) ∧ (1 : Int) ≤ ((y16 ++ ([y45] : List (List Int × Int))).length : Int) ∧ ((y16 ++ ([y45] : List (List Int × Int))).length : Int) ≤ ((y16 ++ ([y45] : List (List Int × Int))).length : Int)) <|
  j61 (sub' (y16 ++ ([y45] : List (List Int × Int))) 1 ((y16 ++ ([y45] : List (List Int × Int))).length : Int)))
  else
  j61 (y16 ++ ([y45] : List (List Int × Int))))))))))))))

theorem ok_s_UndoPut (x0 : List (List Int × Int)) (x1 : List Int × Int) (a3 : Option Addr) (c4 : Nat) (l5 : Nat) (hl6 : x0.length = l5) (a7 : Option Addr) (c8 : Nat) (l9 : Nat) (hl10 : x1.1.length = l9) (r : (List (List Int × Int)) × Bool) (h : M_s_UndoPut x0 x1 = some r) :
    FC Tryz.prog 203 [.agg #[.slice a3 l5 c4], .agg #[.slice a7 l9 c8, .int .i64 x1.2]] [⟨(.pair (.sl (.int .i64)) (.int .i64)), ⟨a3, l5, c4⟩, x0⟩, ⟨(.int .i64), ⟨a7, l9, c8⟩, x1.1⟩] (fun _ : Option Addr × Nat => True) (fun q => .tuple #[.agg #[.slice q.1 r.1.length q.2], .bool r.2]) (fun q => [⟨(.pair (.sl (.int .i64)) (.int .i64)), ⟨q.1, r.1.length, q.2⟩, r.1⟩]) :=
  by
    subst hl6
    subst hl10
    refine FC.of (T := TTx) Tryz.call203 Tryz.func203 rfl rfl fun w0 => ?_
    unfold M_s_UndoPut at h
    refine JS.seq (JS.region (JO.regB ttOk 4 [] [3, 4, 5] [(2, .bp 3 0), (3, .bp 4 0), (4, .bp 5 0)] (.new 3 40 [.slice a3 x0.length c4] (.new 4 34 [.slice a7 x1.1.length c8, .int .i64 x1.2] (.new 5 40 [.slice none 0 0] .nil))) rfl ⟨⟨rfl, rfl, rfl, trivial⟩, ⟨rfl, rfl, rfl, rfl, rfl, rfl, rfl, rfl, rfl, rfl, rfl, rfl, trivial⟩⟩ (JO.done rfl (JS.seq (JS.seq (JS.region (JO.reg ttOk 1 [] [] [(8, .v (.agg #[.slice a3 x0.length c4]))] _ rfl ⟨⟨rfl, trivial⟩, rfl⟩ ?_)))))))
    obtain ⟨y11, hy12, h⟩ := bindO_some h
    refine JO.call rfl rfl rfl rfl (ok_s_UndoOk x0 a3 c4 x0.length rfl _ hy12) rfl [0] rfl rfl fun _ _ => JO.reg ttOk 3 [] [] [(11, .v (.bool (!y11))), (12, .cd [(11, false)] (.v (.agg #[.slice a7 x1.1.length c8, .int .i64 x1.2])))] _ rfl ⟨⟨rfl, rfl, trivial⟩, rfl⟩ ?_
    obtain ⟨y13, hy14, -, h⟩ := callO_some h
    refine JO.callg rfl rfl rfl rfl (fun q66 => ok_s_LineOk x1 a7 c8 x1.1.length rfl _ (hy14 q66)) rfl [1] rfl rfl (JO.reg ttOk 2 [] [] [(15, .v (.bool (bif (!y11) then true else (!y13))))] _ rfl ⟨⟨rfl, trivial⟩, rfl⟩ (JO.done rfl ?_))
    refine JS.cond rfl (fun ht88 => ?_) (fun ht88 => ?_)
    · have h := condT h ht88
      refine JS.seq (JS.region (JO.regB ttOk 3 [] [] [(5, .v (.bool false))] (.new 5 40 [.slice none 0 0] .nil) rfl ⟨⟨rfl, trivial⟩, ⟨rfl, rfl, rfl, rfl, trivial⟩⟩ (JO.done rfl ?_)))
      cases h
      refine JS.nilO (.pair (.sl (.int .i64)) (.int .i64)) Sl.nil rfl rfl (JS.ret ttOk (none, 0) trivial rfl rfl [0] rfl)
    have h := condF h ht88
    refine JS.skip (JS.seq (JS.region (JO.reg ttOk 1 [] [] [(17, .v (.agg #[.slice a3 x0.length c4]))] _ rfl ⟨⟨rfl, trivial⟩, rfl⟩ ?_)))
    obtain ⟨y16, hy17, h⟩ := bindO_some h
    refine JO.call rfl rfl rfl rfl (ok_s_l15Lines x0 a3 c4 x0.length rfl _ hy17) rfl [0] rfl rfl ?_
    rintro ⟨a18, c19⟩ -
    refine JO.regB ttOk 2 [] [15] [(6, .bp 15 0)] (.new 4 34 [.slice a7 x1.1.length c8, .int .i64 x1.2] (.new 5 40 [.slice none 0 0] (.new 15 40 [.slice a18 y16.length c19] .nil))) rfl ⟨⟨rfl, trivial⟩, ⟨rfl, rfl, rfl, rfl, rfl, rfl, rfl, rfl, rfl, rfl, rfl, rfl, trivial⟩⟩ (JO.done rfl (JS.seq (JS.region (JO.reg ttOk 4 [] [] [(7, .v (.int .i64 (y16.length : Int)))] _ rfl ⟨⟨rfl, trivial⟩, rfl⟩ (JO.done rfl (JS.seq (JS.seq ?_)))))))
    obtain ⟨g22, h⟩ := guardO_some h
    obtain ⟨y30, hy31, -, h⟩ := callO_some h
    refine JS.ofO (id := 0) (JO.lend [0] rfl (Int.toNat (W ((y16.length : Int) - 1))) (at' y16 (W ((y16.length : Int) - 1))) rfl ?_)
    intro a25 c26 l27 hl28
    obtain rfl : ([.slice a25 ((at' y16 (W ((y16.length : Int) - 1))).1).length c26, .int .i64 (at' y16 (W ((y16.length : Int) - 1))).2] : List Value) = l27 := Option.some.inj hl28
    refine JO.ofS (JS.know 2 rfl fun hs80 => JS.regionQ rfl (by kernel_rfl) (JQ.reg ttOk 9 [(W ((y16.length : Int) - 1))] [(24, .v (.bool (decide (0 < (y16.length : Int))))), (30, .cd [(24, true)] (.ep ⟨a18, y16.length, c19⟩ (Int.toNat (W ((y16.length : Int) - 1)) * 2)))] rfl ⟨(fun q79 => ⟨trivial, rfl⟩), (fun q81 => (hs80.cast (lentL_len _ _ _)).ix (g22 q81)), (fun q82 => (hs80.cast (lentL_len _ _ _)).fa (g22 q82)), ⟨rfl, rfl, trivial⟩⟩ (JQ.loadV ttOk rfl rfl rfl rfl rfl rfl 2 rfl rfl (Int.toNat (W ((y16.length : Int) - 1))) 0 (Sum.inr [.slice a25 ((at' y16 (W ((y16.length : Int) - 1))).1).length c26, .int .i64 (at' y16 (W ((y16.length : Int) - 1))).2]) (fun q83 => ⟨lentL_at (at_some (g22 q83)), rfl⟩) rfl rfl rfl (JQ.reg ttOk 2 [] [(33, .cd [(24, true)] (.v (.slice a7 x1.1.length c8)))] rfl ⟨rfl, trivial⟩ (JQ.call rfl rfl rfl rfl (fun q84 => ok_s_l15Same ((at' y16 (W ((y16.length : Int) - 1))).1) x1.1 a25 c26 (((at' y16 (W ((y16.length : Int) - 1))).1).length) rfl a7 c8 x1.1.length rfl _ (hy31 q84)) rfl [3, 1] rfl rfl (JQ.reg ttOk 1 [] [(35, .v (.bool (bif (decide (0 < (y16.length : Int))) then y30 else false)))] rfl ⟨rfl, trivial⟩ (JQ.done rfl ?_)))))))
    refine JS.ofO (id := 0) (JO.unlend0 [0, 0] rfl (at' y16 (W ((y16.length : Int) - 1))) rfl ⟨rfl, rfl, rfl⟩ (JO.ofS ?_))
    refine JS.cond rfl (fun ht87 => ?_) (fun ht87 => ?_)
    · have h := condT h ht87
      refine JS.seq (JS.region (JO.regB ttOk 3 [] [] [(5, .v (.bool true))] (.new 5 40 [.slice a18 y16.length c19] .nil) rfl ⟨⟨rfl, trivial⟩, ⟨rfl, rfl, rfl, rfl, trivial⟩⟩ (JO.done rfl ?_)))
      cases h
      exact JS.ret ttOk (a18, c19) trivial rfl rfl [0] rfl
    have h := condF h ht87
    refine JS.skip (JS.seq ?_)
    obtain ⟨y45, hy46, h⟩ := bindO_some h
    obtain ⟨g50, h⟩ := guardO_some h
    refine JS.regionA rfl (.new 4 34 [.slice a7 x1.1.length c8, .int .i64 x1.2] (.new 15 40 [.slice a18 y16.length c19] .nil)) [] [6, 7] ⟨rfl, rfl, rfl, rfl, rfl, rfl, rfl, rfl, trivial⟩ rfl (fun be53 => ?_)
    refine JA.reg ttOk panic_cx true 5 [0, 1, 2] rfl (by kernel_rfl) [] [(37, .bp 15 0), (38, .v (.slice a18 y16.length c19)), (39, .v (.agg #[.slice a7 x1.1.length c8, .int .i64 x1.2]))] ⟨rfl, rfl, rfl, rfl, rfl, rfl, rfl, rfl, trivial⟩ [] rfl rfl ⟨rfl, rfl, rfl, trivial⟩ (JA.one 3 (by kernel_rfl) (JK.call rfl rfl rfl rfl (ok_s_l15Line x1 a7 c8 x1.1.length rfl _ hy46) rfl [1] rfl rfl ?_))
    rintro ⟨a47, c48⟩ -
    refine JA.next ⟨rfl, rfl, rfl, rfl, rfl, rfl, rfl, rfl, trivial⟩ [] rfl (JA.one 4 (by kernel_rfl) (JK.buildSlice ttOk rfl rfl rfl rfl rfl rfl rfl rfl rfl rfl rfl [0] rfl (.pair (.sl (.int .i64)) (.int .i64)) [y45] ⟨rfl, rfl, rfl⟩ rfl rfl fun a49 => JA.next ⟨rfl, rfl, rfl, rfl, rfl, rfl, rfl, rfl, trivial⟩ [] rfl (JA.one 5 (by kernel_rfl) (JK.appendO' ttOk rfl rfl rfl rfl ⟨rfl, rfl, rfl, rfl, trivial, rfl, rfl, rfl, rfl⟩ rfl rfl [1, 0] rfl g50 rfl fun a51 c52 => JA.next ⟨rfl, rfl, rfl, rfl, rfl, rfl, rfl, rfl, trivial⟩ [] rfl (JA.regL ttOk panic_cx 1 [6] rfl (by kernel_rfl) [] [(37, .bp 15 0), (38, .v (.slice a18 y16.length c19)), (39, .v (.agg #[.slice a7 x1.1.length c8, .int .i64 x1.2])), (40, .v (.agg #[.slice a47 y45.1.length c48, .int .i64 y45.2])), (41, .v (.slice a49 ([y45] : List (List Int × Int)).length ([y45] : List (List Int × Int)).length)), (42, .v (.slice a51 (y16 ++ ([y45] : List (List Int × Int))).length c52)), (43, .bp 15 0)] rfl ⟨rfl, rfl, rfl, rfl, rfl, rfl, rfl, trivial⟩ (JA.one 7 (by kernel_rfl) (JK.stBox ttOk rfl rfl rfl rfl rfl rfl rfl rfl (JK.boxes (B' := (.new 4 34 [.slice a7 x1.1.length c8, .int .i64 x1.2] (.new 5 40 [.slice none 0 0] (.new 15 40 [.slice a51 (y16 ++ ([y45] : List (List Int × Int))).length c52] .nil)))) ⟨rfl, rfl, rfl, rfl, rfl, rfl, rfl, rfl, rfl, rfl, rfl, rfl, trivial⟩ (JA.nextL rfl (JA.done (by kernel_rfl) (JS.boxes (B' := (.new 5 40 [.slice none 0 0] (.new 15 40 [.slice a51 (y16 ++ ([y45] : List (List Int × Int))).length c52] .nil))) ⟨rfl, rfl, rfl, rfl, rfl, rfl, rfl, rfl, trivial⟩ ?_)))))))))))
    obtain ⟨j61, hj86, h⟩ := joinO_some h
    refine JS.seqJ (ι := (List (List Int × Int)) × Option Addr × Nat) ⟨fun z => j61 z.1 = some r, fun z => [(4, .bp 5 0), (6, .bp 15 0)], fun z => (.new 5 40 [.slice none 0 0] (.new 15 40 [.slice z.2.1 z.1.length z.2.2] .nil)), fun z => [], fun z => [⟨(.pair (.sl (.int .i64)) (.int .i64)), ⟨z.2.1, z.1.length, z.2.2⟩, z.1⟩], fun z => 0⟩ ?_ ?_
    · refine JS.seq (JS.region (JO.reg ttOk 2 [] [] [(45, .v (.bool (decide ((y16.length : Int) = 20))))] _ rfl ⟨⟨rfl, trivial⟩, rfl⟩ (JO.done rfl ?_)))
      refine JS.cond rfl (fun ht85 => ?_) (fun ht85 => ?_)
      · have h := condT h ht85
        refine JS.region (JO.reg ttOk 2 [] [] [(47, .v (.slice a51 (y16 ++ ([y45] : List (List Int × Int))).length c52))] _ rfl ⟨⟨rfl, trivial⟩, rfl⟩ ?_)
        obtain ⟨g54, h⟩ := guardO_some h
        refine JO.sliceO' ttOk rfl rfl rfl rfl rfl rfl rfl rfl [0] rfl (1 : Int) ((y16 ++ ([y45] : List (List Int × Int))).length : Int) rfl rfl g54 rfl fun a55 c56 => JO.regB ttOk 2 [] [] [] (.new 5 40 [.slice none 0 0] (.new 15 40 [.slice a55 (sub' (y16 ++ ([y45] : List (List Int × Int))) 1 ((y16 ++ ([y45] : List (List Int × Int))).length : Int)).length c56] .nil)) rfl ⟨trivial, ⟨rfl, rfl, rfl, rfl, rfl, rfl, rfl, rfl, trivial⟩⟩ (JO.done rfl (JS.endJ ((sub' (y16 ++ ([y45] : List (List Int × Int))) 1 ((y16 ++ ([y45] : List (List Int × Int))).length : Int)), a55, c56) h ⟨rfl, rfl, trivial⟩ ⟨rfl, rfl, rfl, rfl, rfl, rfl, rfl, rfl, trivial⟩ [] rfl [0] rfl))
      have h := condF h ht85
      refine JS.skip (JS.endJ ((y16 ++ ([y45] : List (List Int × Int))), a51, c52) h ⟨rfl, rfl, trivial⟩ ⟨rfl, rfl, rfl, rfl, rfl, rfl, rfl, rfl, trivial⟩ [] rfl [0] rfl)
    rintro ⟨x58, a59, c60⟩ h
    subst hj86
    refine JS.seq (JS.region (JO.regB ttOk 3 [] [] [(5, .v (.bool true))] (.new 5 40 [.slice a59 x58.length c60] .nil) rfl ⟨⟨rfl, trivial⟩, ⟨rfl, rfl, rfl, rfl, trivial⟩⟩ (JO.done rfl ?_)))
    cases h
    exact JS.ret ttOk (a59, c60) trivial rfl rfl [0] rfl

def M_s_l21Clip (x0 : Bool × Int × (List Int × Int) × Int × Int × Int × Int × Int × Int × Int × List (List Int) × (List (List Int × Int)) × Int × (List Int × Int) × List Int × Int × List Int × Int) : Option (Bool × Int × (List Int × Int) × Int × Int × Int × Int × Int × Int × Int × List (List Int) × (List (List Int × Int)) × Int × (List Int × Int) × List Int × Int × List Int × Int) :=
  (joinO (fun (x27 : Int) =>
  some (x0.1, x0.2.1, (x0.2.2.1.1, x27), x0.2.2.2.1, x0.2.2.2.2.1, x0.2.2.2.2.2.1, x0.2.2.2.2.2.2.1, x0.2.2.2.2.2.2.2.1, x0.2.2.2.2.2.2.2.2.1, x0.2.2.2.2.2.2.2.2.2.1, x0.2.2.2.2.2.2.2.2.2.2.1, x0.2.2.2.2.2.2.2.2.2.2.2.1, x0.2.2.2.2.2.2.2.2.2.2.2.2.1, x0.2.2.2.2.2.2.2.2.2.2.2.2.2.1, x0.2.2.2.2.2.2.2.2.2.2.2.2.2.2.1, x0.2.2.2.2.2.2.2.2.2.2.2.2.2.2.2.1, x0.2.2.2.2.2.2.2.2.2.2.2.2.2.2.2.2)) fun j28 =>
  (bif (bif (bif (decide (x0.2.1 = 2)) then (decide (x0.2.2.1.2 = (x0.2.2.1.1.length : Int))) else false) then (decide (0 < x0.2.2.1.2)) else false) then
  j28 (W (x0.2.2.1.2 - 1))
  else
  j28 x0.2.2.1.2))

theorem ok_s_l21Clip (x0 : Bool × Int × (List Int × Int) × Int × Int × Int × Int × Int × Int × Int × List (List Int) × (List (List Int × Int)) × Int × (List Int × Int) × List Int × Int × List Int × Int) (a2 : Option Addr) (c3 : Nat) (l4 : Nat) (hl5 : x0.2.2.1.1.length = l4) (a6 : Option Addr) (c7 : Nat) (l8 : Nat) (hl9 : x0.2.2.2.2.2.2.2.2.2.2.1.length = l8) (a10 : Option Addr) (c11 : Nat) (l12 : Nat) (hl13 : x0.2.2.2.2.2.2.2.2.2.2.2.1.length = l12) (a14 : Option Addr) (c15 : Nat) (l16 : Nat) (hl17 : x0.2.2.2.2.2.2.2.2.2.2.2.2.2.1.1.length = l16) (a18 : Option Addr) (c19 : Nat) (l20 : Nat) (hl21 : x0.2.2.2.2.2.2.2.2.2.2.2.2.2.2.1.length = l20) (a22 : Option Addr) (c23 : Nat) (l24 : Nat) (hl25 : x0.2.2.2.2.2.2.2.2.2.2.2.2.2.2.2.2.1.length = l24) (r : Bool × Int × (List Int × Int) × Int × Int × Int × Int × Int × Int × Int × List (List Int) × (List (List Int × Int)) × Int × (List Int × Int) × List Int × Int × List Int × Int) (h : M_s_l21Clip x0 = some r) :
    FC Tryz.prog 81 [.agg #[.bool x0.1, .int .i64 x0.2.1, .slice a2 l4 c3, .int .i64 x0.2.2.1.2, .int .i64 x0.2.2.2.1, .int .i64 x0.2.2.2.2.1, .int .i64 x0.2.2.2.2.2.1, .int .i64 x0.2.2.2.2.2.2.1, .int .i64 x0.2.2.2.2.2.2.2.1, .int .i64 x0.2.2.2.2.2.2.2.2.1, .int .i64 x0.2.2.2.2.2.2.2.2.2.1, .slice a6 l8 c7, .slice a10 l12 c11, .int .i64 x0.2.2.2.2.2.2.2.2.2.2.2.2.1, .slice a14 l16 c15, .int .i64 x0.2.2.2.2.2.2.2.2.2.2.2.2.2.1.2, .slice a18 l20 c19, .int .i64 x0.2.2.2.2.2.2.2.2.2.2.2.2.2.2.2.1, .slice a22 l24 c23, .int .i64 x0.2.2.2.2.2.2.2.2.2.2.2.2.2.2.2.2.2]] [⟨(.int .i64), ⟨a2, l4, c3⟩, x0.2.2.1.1⟩, ⟨(.sl (.int .i64)), ⟨a6, l8, c7⟩, x0.2.2.2.2.2.2.2.2.2.2.1⟩, ⟨(.pair (.sl (.int .i64)) (.int .i64)), ⟨a10, l12, c11⟩, x0.2.2.2.2.2.2.2.2.2.2.2.1⟩, ⟨(.int .i64), ⟨a14, l16, c15⟩, x0.2.2.2.2.2.2.2.2.2.2.2.2.2.1.1⟩, ⟨(.int .i64), ⟨a18, l20, c19⟩, x0.2.2.2.2.2.2.2.2.2.2.2.2.2.2.1⟩, ⟨(.int .i64), ⟨a22, l24, c23⟩, x0.2.2.2.2.2.2.2.2.2.2.2.2.2.2.2.2.1⟩] (fun _ : Unit => True) (fun _ => .agg #[.bool r.1, .int .i64 r.2.1, .slice a2 l4 c3, .int .i64 r.2.2.1.2, .int .i64 r.2.2.2.1, .int .i64 r.2.2.2.2.1, .int .i64 r.2.2.2.2.2.1, .int .i64 r.2.2.2.2.2.2.1, .int .i64 r.2.2.2.2.2.2.2.1, .int .i64 r.2.2.2.2.2.2.2.2.1, .int .i64 r.2.2.2.2.2.2.2.2.2.1, .slice a6 l8 c7, .slice a10 l12 c11, .int .i64 r.2.2.2.2.2.2.2.2.2.2.2.2.1, .slice a14 l16 c15, .int .i64 r.2.2.2.2.2.2.2.2.2.2.2.2.2.1.2, .slice a18 l20 c19, .int .i64 r.2.2.2.2.2.2.2.2.2.2.2.2.2.2.2.1, .slice a22 l24 c23, .int .i64 r.2.2.2.2.2.2.2.2.2.2.2.2.2.2.2.2.2]) (fun _ => []) :=
  by
    subst hl5
    subst hl9
    subst hl13
    subst hl17
    subst hl21
    subst hl25
    refine FC.of (T := TTx) Tryz.call81 Tryz.func81 rfl rfl fun w0 => ?_
    unfold M_s_l21Clip at h
    refine JS.seq (JS.region (JO.regB ttOk 2 [] [7, 8] [(1, .bp 7 0), (2, .bp 8 0)] (.new 7 42 (cl42 x0 a2 c3 a6 c7 a10 c11 a14 c15 a18 c19 a22 c23) (.new 8 42 (cl42 (false, 0, ([], 0), 0, 0, 0, 0, 0, 0, 0, [], [], 0, ([], 0), [], 0, ([], 0)) none 0 none 0 none 0 none 0 none 0 none 0) .nil)) rfl ⟨⟨rfl, rfl, trivial⟩, ⟨rfl, rfl, rfl, rfl, rfl, rfl, rfl, rfl, trivial⟩⟩ (JO.done rfl ?_)))
    obtain ⟨j28, hj32, h⟩ := joinO_some h
    refine JS.seqJ (ι := Int) ⟨fun z => j28 z = some r, fun z => [(1, .bp 7 0), (2, .bp 8 0)], fun z => (.new 7 42 (cl42 (x0.1, x0.2.1, (x0.2.2.1.1, z), x0.2.2.2.1, x0.2.2.2.2.1, x0.2.2.2.2.2.1, x0.2.2.2.2.2.2.1, x0.2.2.2.2.2.2.2.1, x0.2.2.2.2.2.2.2.2.1, x0.2.2.2.2.2.2.2.2.2.1, x0.2.2.2.2.2.2.2.2.2.2.1, x0.2.2.2.2.2.2.2.2.2.2.2.1, x0.2.2.2.2.2.2.2.2.2.2.2.2.1, x0.2.2.2.2.2.2.2.2.2.2.2.2.2.1, x0.2.2.2.2.2.2.2.2.2.2.2.2.2.2.1, x0.2.2.2.2.2.2.2.2.2.2.2.2.2.2.2.1, x0.2.2.2.2.2.2.2.2.2.2.2.2.2.2.2.2) a2 c3 a6 c7 a10 c11 a14 c15 a18 c19 a22 c23) (.new 8 42 (cl42 (false, 0, ([], 0), 0, 0, 0, 0, 0, 0, 0, [], [], 0, ([], 0), [], 0, ([], 0)) none 0 none 0 none 0 none 0 none 0 none 0) .nil)), fun z => [⟨(.int .i64), ⟨a2, x0.2.2.1.1.length, c3⟩, x0.2.2.1.1⟩, ⟨(.sl (.int .i64)), ⟨a6, x0.2.2.2.2.2.2.2.2.2.2.1.length, c7⟩, x0.2.2.2.2.2.2.2.2.2.2.1⟩, ⟨(.pair (.sl (.int .i64)) (.int .i64)), ⟨a10, x0.2.2.2.2.2.2.2.2.2.2.2.1.length, c11⟩, x0.2.2.2.2.2.2.2.2.2.2.2.1⟩, ⟨(.int .i64), ⟨a14, x0.2.2.2.2.2.2.2.2.2.2.2.2.2.1.1.length, c15⟩, x0.2.2.2.2.2.2.2.2.2.2.2.2.2.1.1⟩, ⟨(.int .i64), ⟨a18, x0.2.2.2.2.2.2.2.2.2.2.2.2.2.2.1.length, c19⟩, x0.2.2.2.2.2.2.2.2.2.2.2.2.2.2.1⟩, ⟨(.int .i64), ⟨a22, x0.2.2.2.2.2.2.2.2.2.2.2.2.2.2.2.2.1.length, c23⟩, x0.2.2.2.2.2.2.2.2.2.2.2.2.2.2.2.2.1⟩], fun z => [], fun z => 0⟩ ?_ ?_
    · refine JS.seq (JS.region (JO.reg ttOk 19 [] [] [(21, .v (.bool (bif (bif (decide (x0.2.1 = 2)) then (decide (x0.2.2.1.2 = (x0.2.2.1.1.length : Int))) else false) then (decide (0 < x0.2.2.1.2)) else false)))] _ rfl ⟨⟨rfl, trivial⟩, rfl⟩ (JO.done rfl ?_)))
      refine JS.cond rfl (fun ht31 => ?_) (fun ht31 => ?_)
      · have h := condT h ht31
        refine JS.region (JO.regB ttOk 7 [(W (x0.2.2.1.2 - 1))] [] [] (.new 7 42 (cl42 (x0.1, x0.2.1, (x0.2.2.1.1, (W (x0.2.2.1.2 - 1))), x0.2.2.2.1, x0.2.2.2.2.1, x0.2.2.2.2.2.1, x0.2.2.2.2.2.2.1, x0.2.2.2.2.2.2.2.1, x0.2.2.2.2.2.2.2.2.1, x0.2.2.2.2.2.2.2.2.2.1, x0.2.2.2.2.2.2.2.2.2.2.1, x0.2.2.2.2.2.2.2.2.2.2.2.1, x0.2.2.2.2.2.2.2.2.2.2.2.2.1, x0.2.2.2.2.2.2.2.2.2.2.2.2.2.1, x0.2.2.2.2.2.2.2.2.2.2.2.2.2.2.1, x0.2.2.2.2.2.2.2.2.2.2.2.2.2.2.2.1, x0.2.2.2.2.2.2.2.2.2.2.2.2.2.2.2.2) a2 c3 a6 c7 a10 c11 a14 c15 a18 c19 a22 c23) (.new 8 42 (cl42 (false, 0, ([], 0), 0, 0, 0, 0, 0, 0, 0, [], [], 0, ([], 0), [], 0, ([], 0)) none 0 none 0 none 0 none 0 none 0 none 0) .nil)) rfl ⟨⟨trivial, rfl⟩, trivial, ⟨rfl, rfl, rfl, rfl, rfl, rfl, rfl, rfl, trivial⟩⟩ (JO.done rfl (JS.endJ (W (x0.2.2.1.2 - 1)) h ⟨rfl, rfl, trivial⟩ ⟨rfl, rfl, rfl, rfl, rfl, rfl, rfl, rfl, trivial⟩ [0, 1, 2, 3, 4, 5] rfl [] rfl)))
      have h := condF h ht31
      refine JS.skip (JS.endJ x0.2.2.1.2 h ⟨rfl, rfl, trivial⟩ ⟨rfl, rfl, rfl, rfl, rfl, rfl, rfl, rfl, trivial⟩ [0, 1, 2, 3, 4, 5] rfl [] rfl)
    rintro x27 h
    subst hj32
    refine JS.seq (JS.region (JO.regB ttOk 2 [] [] [] (.new 8 42 (cl42 (x0.1, x0.2.1, (x0.2.2.1.1, x27), x0.2.2.2.1, x0.2.2.2.2.1, x0.2.2.2.2.2.1, x0.2.2.2.2.2.2.1, x0.2.2.2.2.2.2.2.1, x0.2.2.2.2.2.2.2.2.1, x0.2.2.2.2.2.2.2.2.2.1, x0.2.2.2.2.2.2.2.2.2.2.1, x0.2.2.2.2.2.2.2.2.2.2.2.1, x0.2.2.2.2.2.2.2.2.2.2.2.2.1, x0.2.2.2.2.2.2.2.2.2.2.2.2.2.1, x0.2.2.2.2.2.2.2.2.2.2.2.2.2.2.1, x0.2.2.2.2.2.2.2.2.2.2.2.2.2.2.2.1, x0.2.2.2.2.2.2.2.2.2.2.2.2.2.2.2.2) a2 c3 a6 c7 a10 c11 a14 c15 a18 c19 a22 c23) .nil) rfl ⟨trivial, ⟨rfl, rfl, rfl, rfl, trivial⟩⟩ (JO.done rfl ?_)))
    cases h
    exact JS.ret ttOk () trivial rfl rfl [] rfl

def M_s_EdSet (x0 : Bool × Int × (List Int × Int) × Int × Int × Int × Int × Int × Int × Int × List (List Int) × (List (List Int × Int)) × Int × (List Int × Int) × List Int × Int × List Int × Int) (x1 : List Int × Int) (x2 : Int) : Option ((Bool × Int × (List Int × Int) × Int × Int × Int × Int × Int × Int × Int × List (List Int) × (List (List Int × Int)) × Int × (List Int × Int) × List Int × Int × List Int × Int) × Bool) :=
  (bindO (M_s_EdOk x0) fun (y32 : Bool) =>
  (callO ((!y32) = false) (M_s_LineOk x1) false fun (y34 : Bool) =>
  (bif (bif (bif (bif (!y32) then true else (!y34)) then true else (decide (x2 < 0))) then true else (decide (3 < x2))) then
  some ((false, 0, ([], 0), 0, 0, 0, 0, 0, 0, 0, [], [], 0, ([], 0), [], 0, ([], 0)), false)
  else
  (bindO (M_s_l21Copy x0) fun (y37 : Bool × Int × (List Int × Int) × Int × Int × Int × Int × Int × Int × Int × List (List Int) × (List (List Int × Int)) × Int × (List Int × Int) × List Int × Int × List Int × Int) =>
  (bindO (M_s_l21Idle y37) fun (y51 : Bool × Int × (List Int × Int) × Int × Int × Int × Int × Int × Int × Int × List (List Int) × (List (List Int × Int)) × Int × (List Int × Int) × List Int × Int × List Int × Int) =>
  (joinO (fun (x61 : List (List Int × Int)) =>
  (bindO (M_s_l15Line x1) fun (y66 : List Int × Int) =>
  (bindO (M_s_l21Clip (y51.1, y51.2.1, y66, y51.2.2.2.1, y51.2.2.2.2.1, y51.2.2.2.2.2.1, y51.2.2.2.2.2.2.1, y51.2.2.2.2.2.2.2.1, y51.2.2.2.2.2.2.2.2.1, x2, y37.2.2.2.2.2.2.2.2.2.2.1, x61, y51.2.2.2.2.2.2.2.2.2.2.2.2.1, (y37.2.2.2.2.2.2.2.2.2.2.2.2.2.1.1, y51.2.2.2.2.2.2.2.2.2.2.2.2.2.1.2), y37.2.2.2.2.2.2.2.2.2.2.2.2.2.2.1, y51.2.2.2.2.2.2.2.2.2.2.2.2.2.2.2.1, (y37.2.2.2.2.2.2.2.2.2.2.2.2.2.2.2.2.1, y51.2.2.2.2.2.2.2.2.2.2.2.2.2.2.2.2.2))) fun (y70 : Bool × Int × (List Int × Int) × Int × Int × Int × Int × Int × Int × Int × List (List Int) × (List (List Int × Int)) × Int × (List Int × Int) × List Int × Int × List Int × Int) =>
  some ((y70.1, y70.2.1, (y66.1, y70.2.2.1.2), y70.2.2.2.1, y70.2.2.2.2.1, y70.2.2.2.2.2.1, y70.2.2.2.2.2.2.1, y70.2.2.2.2.2.2.2.1, y70.2.2.2.2.2.2.2.2.1, y70.2.2.2.2.2.2.2.2.2.1, y37.2.2.2.2.2.2.2.2.2.2.1, x61, y70.2.2.2.2.2.2.2.2.2.2.2.2.1, (y37.2.2.2.2.2.2.2.2.2.2.2.2.2.1.1, y70.2.2.2.2.2.2.2.2.2.2.2.2.2.1.2), y37.2.2.2.2.2.2.2.2.2.2.2.2.2.2.1, y70.2.2.2.2.2.2.2.2.2.2.2.2.2.2.2.1, (y37.2.2.2.2.2.2.2.2.2.2.2.2.2.2.2.2.1, y70.2.2.2.2.2.2.2.2.2.2.2.2.2.2.2.2.2)), true)))) fun j64 =>
  (bindO (M_s_l15Same x0.2.2.1.1 x1.1) fun (y53 : Bool) =>
  (bif (bif (!y53) then (!(bif (decide (x2 = 1)) then (decide (x0.2.2.2.2.2.2.2.2.2.1 = 1)) else false)) else false) then
  (bindO (M_s_UndoPut y37.2.2.2.2.2.2.2.2.2.2.2.1 x0.2.2.1) fun (y55, y56) =>
  j64 y55)
  else
  j64 y37.2.2.2.2.2.2.2.2.2.2.2.1))))))))

theorem ok_s_EdSet (x0 : Bool × Int × (List Int × Int) × Int × Int × Int × Int × Int × Int × Int × List (List Int) × (List (List Int × Int)) × Int × (List Int × Int) × List Int × Int × List Int × Int) (x1 : List Int × Int) (x2 : Int) (a4 : Option Addr) (c5 : Nat) (l6 : Nat) (hl7 : x0.2.2.1.1.length = l6) (a8 : Option Addr) (c9 : Nat) (l10 : Nat) (hl11 : x0.2.2.2.2.2.2.2.2.2.2.1.length = l10) (a12 : Option Addr) (c13 : Nat) (l14 : Nat) (hl15 : x0.2.2.2.2.2.2.2.2.2.2.2.1.length = l14) (a16 : Option Addr) (c17 : Nat) (l18 : Nat) (hl19 : x0.2.2.2.2.2.2.2.2.2.2.2.2.2.1.1.length = l18) (a20 : Option Addr) (c21 : Nat) (l22 : Nat) (hl23 : x0.2.2.2.2.2.2.2.2.2.2.2.2.2.2.1.length = l22) (a24 : Option Addr) (c25 : Nat) (l26 : Nat) (hl27 : x0.2.2.2.2.2.2.2.2.2.2.2.2.2.2.2.2.1.length = l26) (a28 : Option Addr) (c29 : Nat) (l30 : Nat) (hl31 : x1.1.length = l30) (r : (Bool × Int × (List Int × Int) × Int × Int × Int × Int × Int × Int × Int × List (List Int) × (List (List Int × Int)) × Int × (List Int × Int) × List Int × Int × List Int × Int) × Bool) (h : M_s_EdSet x0 x1 x2 = some r) :
    FC Tryz.prog 159 [.agg #[.bool x0.1, .int .i64 x0.2.1, .slice a4 l6 c5, .int .i64 x0.2.2.1.2, .int .i64 x0.2.2.2.1, .int .i64 x0.2.2.2.2.1, .int .i64 x0.2.2.2.2.2.1, .int .i64 x0.2.2.2.2.2.2.1, .int .i64 x0.2.2.2.2.2.2.2.1, .int .i64 x0.2.2.2.2.2.2.2.2.1, .int .i64 x0.2.2.2.2.2.2.2.2.2.1, .slice a8 l10 c9, .slice a12 l14 c13, .int .i64 x0.2.2.2.2.2.2.2.2.2.2.2.2.1, .slice a16 l18 c17, .int .i64 x0.2.2.2.2.2.2.2.2.2.2.2.2.2.1.2, .slice a20 l22 c21, .int .i64 x0.2.2.2.2.2.2.2.2.2.2.2.2.2.2.2.1, .slice a24 l26 c25, .int .i64 x0.2.2.2.2.2.2.2.2.2.2.2.2.2.2.2.2.2], .agg #[.slice a28 l30 c29, .int .i64 x1.2], .int .i64 x2] [⟨(.int .i64), ⟨a4, l6, c5⟩, x0.2.2.1.1⟩, ⟨(.sl (.int .i64)), ⟨a8, l10, c9⟩, x0.2.2.2.2.2.2.2.2.2.2.1⟩, ⟨(.pair (.sl (.int .i64)) (.int .i64)), ⟨a12, l14, c13⟩, x0.2.2.2.2.2.2.2.2.2.2.2.1⟩, ⟨(.int .i64), ⟨a16, l18, c17⟩, x0.2.2.2.2.2.2.2.2.2.2.2.2.2.1.1⟩, ⟨(.int .i64), ⟨a20, l22, c21⟩, x0.2.2.2.2.2.2.2.2.2.2.2.2.2.2.1⟩, ⟨(.int .i64), ⟨a24, l26, c25⟩, x0.2.2.2.2.2.2.2.2.2.2.2.2.2.2.2.2.1⟩, ⟨(.int .i64), ⟨a28, l30, c29⟩, x1.1⟩] (fun _ : Option Addr × Nat × Option Addr × Nat × Option Addr × Nat × Option Addr × Nat × Option Addr × Nat × Option Addr × Nat => True) (fun q => .tuple #[.agg (cl42 r.1 q.1 q.2.1 q.2.2.1 q.2.2.2.1 q.2.2.2.2.1 q.2.2.2.2.2.1 q.2.2.2.2.2.2.1 q.2.2.2.2.2.2.2.1 q.2.2.2.2.2.2.2.2.1 q.2.2.2.2.2.2.2.2.2.1 q.2.2.2.2.2.2.2.2.2.2.1 q.2.2.2.2.2.2.2.2.2.2.2).toArray, .bool r.2]) (fun q => [⟨(.int .i64), ⟨q.1, r.1.2.2.1.1.length, q.2.1⟩, r.1.2.2.1.1⟩, ⟨(.sl (.int .i64)), ⟨q.2.2.1, r.1.2.2.2.2.2.2.2.2.2.2.1.length, q.2.2.2.1⟩, r.1.2.2.2.2.2.2.2.2.2.2.1⟩, ⟨(.pair (.sl (.int .i64)) (.int .i64)), ⟨q.2.2.2.2.1, r.1.2.2.2.2.2.2.2.2.2.2.2.1.length, q.2.2.2.2.2.1⟩, r.1.2.2.2.2.2.2.2.2.2.2.2.1⟩, ⟨(.int .i64), ⟨q.2.2.2.2.2.2.1, r.1.2.2.2.2.2.2.2.2.2.2.2.2.2.1.1.length, q.2.2.2.2.2.2.2.1⟩, r.1.2.2.2.2.2.2.2.2.2.2.2.2.2.1.1⟩, ⟨(.int .i64), ⟨q.2.2.2.2.2.2.2.2.1, r.1.2.2.2.2.2.2.2.2.2.2.2.2.2.2.1.length, q.2.2.2.2.2.2.2.2.2.1⟩, r.1.2.2.2.2.2.2.2.2.2.2.2.2.2.2.1⟩, ⟨(.int .i64), ⟨q.2.2.2.2.2.2.2.2.2.2.1, r.1.2.2.2.2.2.2.2.2.2.2.2.2.2.2.2.2.1.length, q.2.2.2.2.2.2.2.2.2.2.2⟩, r.1.2.2.2.2.2.2.2.2.2.2.2.2.2.2.2.2.1⟩]) :=
  by
    subst hl7
    subst hl11
    subst hl15
    subst hl19
    subst hl23
    subst hl27
    subst hl31
    refine FC.of (T := TTx) Tryz.call159 Tryz.func159 rfl rfl fun w0 => ?_
    unfold M_s_EdSet at h
    refine JS.seq (JS.region (JO.regB ttOk 4 [] [8, 9, 10] [(3, .bp 8 0), (4, .bp 9 0), (6, .bp 10 0)] (.new 8 42 (cl42 x0 a4 c5 a8 c9 a12 c13 a16 c17 a20 c21 a24 c25) (.new 9 34 [.slice a28 x1.1.length c29, .int .i64 x1.2] (.new 10 42 (cl42 (false, 0, ([], 0), 0, 0, 0, 0, 0, 0, 0, [], [], 0, ([], 0), [], 0, ([], 0)) none 0 none 0 none 0 none 0 none 0 none 0) .nil))) rfl ⟨⟨rfl, rfl, rfl, trivial⟩, ⟨rfl, rfl, rfl, rfl, rfl, rfl, rfl, rfl, rfl, rfl, rfl, rfl, trivial⟩⟩ (JO.done rfl (JS.seq (JS.seq (JS.region (JO.reg ttOk 1 [] [] [(9, .v (.agg (cl42 x0 a4 c5 a8 c9 a12 c13 a16 c17 a20 c21 a24 c25).toArray))] _ rfl ⟨⟨rfl, trivial⟩, rfl⟩ ?_)))))))
    obtain ⟨y32, hy33, h⟩ := bindO_some h
    refine JO.call rfl rfl rfl rfl (ok_s_EdOk x0 a4 c5 x0.2.2.1.1.length rfl a8 c9 x0.2.2.2.2.2.2.2.2.2.2.1.length rfl a12 c13 x0.2.2.2.2.2.2.2.2.2.2.2.1.length rfl a16 c17 x0.2.2.2.2.2.2.2.2.2.2.2.2.2.1.1.length rfl a20 c21 x0.2.2.2.2.2.2.2.2.2.2.2.2.2.2.1.length rfl a24 c25 x0.2.2.2.2.2.2.2.2.2.2.2.2.2.2.2.2.1.length rfl _ hy33) rfl [0, 1, 2, 3, 4, 5] rfl rfl fun _ _ => JO.reg ttOk 3 [] [] [(12, .v (.bool (!y32))), (13, .cd [(12, false)] (.v (.agg #[.slice a28 x1.1.length c29, .int .i64 x1.2])))] _ rfl ⟨⟨rfl, rfl, trivial⟩, rfl⟩ ?_
    obtain ⟨y34, hy35, -, h⟩ := callO_some h
    refine JO.callg rfl rfl rfl rfl (fun q74 => ok_s_LineOk x1 a28 c29 x1.1.length rfl _ (hy35 q74)) rfl [6] rfl rfl (JO.reg ttOk 10 [] [] [(24, .v (.bool (bif (bif (bif (!y32) then true else (!y34)) then true else (decide (x2 < 0))) then true else (decide (3 < x2)))))] _ rfl ⟨⟨rfl, trivial⟩, rfl⟩ (JO.done rfl ?_))
    refine JS.cond rfl (fun ht77 => ?_) (fun ht77 => ?_)
    · have h := condT h ht77
      refine JS.seq (JS.region (JO.regB ttOk 3 [] [] [(7, .v (.bool false))] (.new 10 42 (cl42 (false, 0, ([], 0), 0, 0, 0, 0, 0, 0, 0, [], [], 0, ([], 0), [], 0, ([], 0)) none 0 none 0 none 0 none 0 none 0 none 0) .nil) rfl ⟨⟨rfl, trivial⟩, ⟨rfl, rfl, rfl, rfl, trivial⟩⟩ (JO.done rfl ?_)))
      cases h
      refine JS.nilO (.int .i64) Sl.nil rfl rfl (JS.nilO (.sl (.int .i64)) Sl.nil rfl rfl (JS.nilO (.pair (.sl (.int .i64)) (.int .i64)) Sl.nil rfl rfl (JS.nilO (.int .i64) Sl.nil rfl rfl (JS.nilO (.int .i64) Sl.nil rfl rfl (JS.nilO (.int .i64) Sl.nil rfl rfl (JS.ret ttOk (none, 0, none, 0, none, 0, none, 0, none, 0, none, 0) trivial rfl rfl [5, 4, 3, 2, 1, 0] rfl))))))
    have h := condF h ht77
    refine JS.skip (JS.seq (JS.region (JO.reg ttOk 1 [] [] [(26, .v (.agg (cl42 x0 a4 c5 a8 c9 a12 c13 a16 c17 a20 c21 a24 c25).toArray))] _ rfl ⟨⟨rfl, trivial⟩, rfl⟩ ?_)))
    obtain ⟨y37, hy38, h⟩ := bindO_some h
    refine JO.call rfl rfl rfl rfl (ok_s_l21Copy x0 a4 c5 x0.2.2.1.1.length rfl a8 c9 x0.2.2.2.2.2.2.2.2.2.2.1.length rfl a12 c13 x0.2.2.2.2.2.2.2.2.2.2.2.1.length rfl a16 c17 x0.2.2.2.2.2.2.2.2.2.2.2.2.2.1.1.length rfl a20 c21 x0.2.2.2.2.2.2.2.2.2.2.2.2.2.2.1.length rfl a24 c25 x0.2.2.2.2.2.2.2.2.2.2.2.2.2.2.2.2.1.length rfl _ hy38) rfl [0, 1, 2, 3, 4, 5] rfl rfl ?_
    rintro ⟨a39, c40, a41, c42, a43, c44, a45, c46, a47, c48, a49, c50⟩ -
    obtain ⟨y51, hy52, h⟩ := bindO_some h
    refine JO.call rfl rfl rfl rfl (ok_s_l21Idle y37 a39 c40 y37.2.2.1.1.length rfl a41 c42 y37.2.2.2.2.2.2.2.2.2.2.1.length rfl a43 c44 y37.2.2.2.2.2.2.2.2.2.2.2.1.length rfl a45 c46 y37.2.2.2.2.2.2.2.2.2.2.2.2.2.1.1.length rfl a47 c48 y37.2.2.2.2.2.2.2.2.2.2.2.2.2.2.1.length rfl a49 c50 y37.2.2.2.2.2.2.2.2.2.2.2.2.2.2.2.2.1.length rfl _ hy52) rfl [7, 8, 9, 10, 11, 12] rfl rfl fun _ _ => JO.regB ttOk 2 [] [37] [(8, .bp 37 0)] (.new 8 42 (cl42 x0 a4 c5 a8 c9 a12 c13 a16 c17 a20 c21 a24 c25) (.new 9 34 [.slice a28 x1.1.length c29, .int .i64 x1.2] (.new 10 42 (cl42 (false, 0, ([], 0), 0, 0, 0, 0, 0, 0, 0, [], [], 0, ([], 0), [], 0, ([], 0)) none 0 none 0 none 0 none 0 none 0 none 0) (.new 37 42 (cl42 (y51.1, y51.2.1, (y37.2.2.1.1, y51.2.2.1.2), y51.2.2.2.1, y51.2.2.2.2.1, y51.2.2.2.2.2.1, y51.2.2.2.2.2.2.1, y51.2.2.2.2.2.2.2.1, y51.2.2.2.2.2.2.2.2.1, y51.2.2.2.2.2.2.2.2.2.1, y37.2.2.2.2.2.2.2.2.2.2.1, y37.2.2.2.2.2.2.2.2.2.2.2.1, y51.2.2.2.2.2.2.2.2.2.2.2.2.1, (y37.2.2.2.2.2.2.2.2.2.2.2.2.2.1.1, y51.2.2.2.2.2.2.2.2.2.2.2.2.2.1.2), y37.2.2.2.2.2.2.2.2.2.2.2.2.2.2.1, y51.2.2.2.2.2.2.2.2.2.2.2.2.2.2.2.1, (y37.2.2.2.2.2.2.2.2.2.2.2.2.2.2.2.2.1, y51.2.2.2.2.2.2.2.2.2.2.2.2.2.2.2.2.2)) a39 c40 a41 c42 a43 c44 a45 c46 a47 c48 a49 c50) .nil)))) rfl ⟨⟨rfl, trivial⟩, ⟨rfl, rfl, rfl, rfl, rfl, rfl, rfl, rfl, rfl, rfl, rfl, rfl, rfl, rfl, rfl, rfl, trivial⟩⟩ (JO.done rfl ?_)
    obtain ⟨j64, hj76, h⟩ := joinO_some h
    refine JS.seqJ (ι := (List (List Int × Int)) × Option Addr × Nat) ⟨fun z => j64 z.1 = some r, fun z => [(2, .v (.int .i64 x2)), (4, .bp 9 0), (6, .bp 10 0), (8, .bp 37 0)], fun z => (.new 9 34 [.slice a28 x1.1.length c29, .int .i64 x1.2] (.new 10 42 (cl42 (false, 0, ([], 0), 0, 0, 0, 0, 0, 0, 0, [], [], 0, ([], 0), [], 0, ([], 0)) none 0 none 0 none 0 none 0 none 0 none 0) (.new 37 42 (cl42 (y51.1, y51.2.1, (y37.2.2.1.1, y51.2.2.1.2), y51.2.2.2.1, y51.2.2.2.2.1, y51.2.2.2.2.2.1, y51.2.2.2.2.2.2.1, y51.2.2.2.2.2.2.2.1, y51.2.2.2.2.2.2.2.2.1, y51.2.2.2.2.2.2.2.2.2.1, y37.2.2.2.2.2.2.2.2.2.2.1, z.1, y51.2.2.2.2.2.2.2.2.2.2.2.2.1, (y37.2.2.2.2.2.2.2.2.2.2.2.2.2.1.1, y51.2.2.2.2.2.2.2.2.2.2.2.2.2.1.2), y37.2.2.2.2.2.2.2.2.2.2.2.2.2.2.1, y51.2.2.2.2.2.2.2.2.2.2.2.2.2.2.2.1, (y37.2.2.2.2.2.2.2.2.2.2.2.2.2.2.2.2.1, y51.2.2.2.2.2.2.2.2.2.2.2.2.2.2.2.2.2)) a39 c40 a41 c42 z.2.1 z.2.2 a45 c46 a47 c48 a49 c50) .nil))), fun z => [⟨(.int .i64), ⟨a28, x1.1.length, c29⟩, x1.1⟩], fun z => [⟨(.pair (.sl (.int .i64)) (.int .i64)), ⟨z.2.1, z.1.length, z.2.2⟩, z.1⟩, ⟨(.int .i64), ⟨a39, y37.2.2.1.1.length, c40⟩, y37.2.2.1.1⟩, ⟨(.sl (.int .i64)), ⟨a41, y37.2.2.2.2.2.2.2.2.2.2.1.length, c42⟩, y37.2.2.2.2.2.2.2.2.2.2.1⟩, ⟨(.int .i64), ⟨a45, y37.2.2.2.2.2.2.2.2.2.2.2.2.2.1.1.length, c46⟩, y37.2.2.2.2.2.2.2.2.2.2.2.2.2.1.1⟩, ⟨(.int .i64), ⟨a47, y37.2.2.2.2.2.2.2.2.2.2.2.2.2.2.1.length, c48⟩, y37.2.2.2.2.2.2.2.2.2.2.2.2.2.2.1⟩, ⟨(.int .i64), ⟨a49, y37.2.2.2.2.2.2.2.2.2.2.2.2.2.2.2.2.1.length, c50⟩, y37.2.2.2.2.2.2.2.2.2.2.2.2.2.2.2.2.1⟩], fun z => 0⟩ ?_ ?_
    · refine JS.seq (JS.region (JO.reg ttOk 5 [] [] [(31, .v (.slice a4 x0.2.2.1.1.length c5)), (33, .v (.slice a28 x1.1.length c29))] _ rfl ⟨⟨rfl, rfl, trivial⟩, rfl⟩ ?_))
      obtain ⟨y53, hy54, h⟩ := bindO_some h
      refine JO.call rfl rfl rfl rfl (ok_s_l15Same x0.2.2.1.1 x1.1 a4 c5 x0.2.2.1.1.length rfl a28 c29 x1.1.length rfl _ hy54) rfl [0, 6] rfl rfl fun _ _ => JO.reg ttOk 11 [] [] [(45, .v (.bool (bif (!y53) then (!(bif (decide (x2 = 1)) then (decide (x0.2.2.2.2.2.2.2.2.2.1 = 1)) else false)) else false)))] _ rfl ⟨⟨rfl, trivial⟩, rfl⟩ (JO.done rfl ?_)
      refine JS.cond rfl (fun ht75 => ?_) (fun ht75 => ?_)
      · have h := condT h ht75
        refine JS.region (JO.reg ttOk 4 [] [] [(48, .v (.agg #[.slice a43 y37.2.2.2.2.2.2.2.2.2.2.2.1.length c44])), (50, .v (.agg #[.slice a4 x0.2.2.1.1.length c5, .int .i64 x0.2.2.1.2]))] _ rfl ⟨⟨rfl, rfl, trivial⟩, rfl⟩ ?_)
        obtain ⟨⟨y55, y56⟩, hy57, h⟩ := bindO_some h
        refine JO.call rfl rfl rfl rfl (ok_s_UndoPut y37.2.2.2.2.2.2.2.2.2.2.2.1 x0.2.2.1 a43 c44 y37.2.2.2.2.2.2.2.2.2.2.2.1.length rfl a4 c5 x0.2.2.1.1.length rfl _ hy57) rfl [9, 0] rfl rfl ?_
        rintro ⟨a58, c59⟩ -
        refine JO.regB ttOk 5 [] [] [] (.new 9 34 [.slice a28 x1.1.length c29, .int .i64 x1.2] (.new 10 42 (cl42 (false, 0, ([], 0), 0, 0, 0, 0, 0, 0, 0, [], [], 0, ([], 0), [], 0, ([], 0)) none 0 none 0 none 0 none 0 none 0 none 0) (.new 37 42 (cl42 (y51.1, y51.2.1, (y37.2.2.1.1, y51.2.2.1.2), y51.2.2.2.1, y51.2.2.2.2.1, y51.2.2.2.2.2.1, y51.2.2.2.2.2.2.1, y51.2.2.2.2.2.2.2.1, y51.2.2.2.2.2.2.2.2.1, y51.2.2.2.2.2.2.2.2.2.1, y37.2.2.2.2.2.2.2.2.2.2.1, y55, y51.2.2.2.2.2.2.2.2.2.2.2.2.1, (y37.2.2.2.2.2.2.2.2.2.2.2.2.2.1.1, y51.2.2.2.2.2.2.2.2.2.2.2.2.2.1.2), y37.2.2.2.2.2.2.2.2.2.2.2.2.2.2.1, y51.2.2.2.2.2.2.2.2.2.2.2.2.2.2.2.1, (y37.2.2.2.2.2.2.2.2.2.2.2.2.2.2.2.2.1, y51.2.2.2.2.2.2.2.2.2.2.2.2.2.2.2.2.2)) a39 c40 a41 c42 a58 c59 a45 c46 a47 c48 a49 c50) .nil))) rfl ⟨trivial, ⟨rfl, rfl, rfl, rfl, rfl, rfl, rfl, rfl, rfl, rfl, rfl, rfl, trivial⟩⟩ (JO.done rfl (JS.endJA (y55, a58, c59) h ⟨rfl, rfl, rfl, rfl, trivial⟩ ⟨rfl, rfl, rfl, rfl, rfl, rfl, rfl, rfl, rfl, rfl, rfl, rfl, trivial⟩ [6] rfl [0, 1, 2, 4, 5, 6] rfl rfl))
      have h := condF h ht75
      refine JS.skip (JS.endJA (y37.2.2.2.2.2.2.2.2.2.2.2.1, a43, c44) h ⟨rfl, rfl, rfl, rfl, trivial⟩ ⟨rfl, rfl, rfl, rfl, rfl, rfl, rfl, rfl, rfl, rfl, rfl, rfl, trivial⟩ [6] rfl [2, 0, 1, 3, 4, 5] rfl rfl)
    rintro ⟨x61, a62, c63⟩ h
    subst hj76
    refine JS.seq (JS.region (JO.reg ttOk 1 [] [] [(55, .v (.agg #[.slice a28 x1.1.length c29, .int .i64 x1.2]))] _ rfl ⟨⟨rfl, trivial⟩, rfl⟩ ?_))
    obtain ⟨y66, hy67, h⟩ := bindO_some h
    refine JO.call rfl rfl rfl rfl (ok_s_l15Line x1 a28 c29 x1.1.length rfl _ hy67) rfl [0] rfl rfl ?_
    rintro ⟨a68, c69⟩ -
    refine JO.regB ttOk 2 [] [] [] (.new 10 42 (cl42 (false, 0, ([], 0), 0, 0, 0, 0, 0, 0, 0, [], [], 0, ([], 0), [], 0, ([], 0)) none 0 none 0 none 0 none 0 none 0 none 0) (.new 37 42 (cl42 (y51.1, y51.2.1, y66, y51.2.2.2.1, y51.2.2.2.2.1, y51.2.2.2.2.2.1, y51.2.2.2.2.2.2.1, y51.2.2.2.2.2.2.2.1, y51.2.2.2.2.2.2.2.2.1, y51.2.2.2.2.2.2.2.2.2.1, y37.2.2.2.2.2.2.2.2.2.2.1, x61, y51.2.2.2.2.2.2.2.2.2.2.2.2.1, (y37.2.2.2.2.2.2.2.2.2.2.2.2.2.1.1, y51.2.2.2.2.2.2.2.2.2.2.2.2.2.1.2), y37.2.2.2.2.2.2.2.2.2.2.2.2.2.2.1, y51.2.2.2.2.2.2.2.2.2.2.2.2.2.2.2.1, (y37.2.2.2.2.2.2.2.2.2.2.2.2.2.2.2.2.1, y51.2.2.2.2.2.2.2.2.2.2.2.2.2.2.2.2.2)) a68 c69 a41 c42 a62 c63 a45 c46 a47 c48 a49 c50) .nil)) rfl ⟨trivial, ⟨rfl, rfl, rfl, rfl, rfl, rfl, rfl, rfl, trivial⟩⟩ (JO.done rfl (JS.seq (JS.region (JO.regB ttOk 3 [] [] [] (.new 10 42 (cl42 (false, 0, ([], 0), 0, 0, 0, 0, 0, 0, 0, [], [], 0, ([], 0), [], 0, ([], 0)) none 0 none 0 none 0 none 0 none 0 none 0) (.new 37 42 (cl42 (y51.1, y51.2.1, y66, y51.2.2.2.1, y51.2.2.2.2.1, y51.2.2.2.2.2.1, y51.2.2.2.2.2.2.1, y51.2.2.2.2.2.2.2.1, y51.2.2.2.2.2.2.2.2.1, x2, y37.2.2.2.2.2.2.2.2.2.2.1, x61, y51.2.2.2.2.2.2.2.2.2.2.2.2.1, (y37.2.2.2.2.2.2.2.2.2.2.2.2.2.1.1, y51.2.2.2.2.2.2.2.2.2.2.2.2.2.1.2), y37.2.2.2.2.2.2.2.2.2.2.2.2.2.2.1, y51.2.2.2.2.2.2.2.2.2.2.2.2.2.2.2.1, (y37.2.2.2.2.2.2.2.2.2.2.2.2.2.2.2.2.1, y51.2.2.2.2.2.2.2.2.2.2.2.2.2.2.2.2.2)) a68 c69 a41 c42 a62 c63 a45 c46 a47 c48 a49 c50) .nil)) rfl ⟨trivial, ⟨rfl, rfl, rfl, rfl, rfl, rfl, rfl, rfl, trivial⟩⟩ (JO.done rfl (JS.seq (JS.region (JO.reg ttOk 1 [] [] [(60, .v (.agg (cl42 (y51.1, y51.2.1, y66, y51.2.2.2.1, y51.2.2.2.2.1, y51.2.2.2.2.2.1, y51.2.2.2.2.2.2.1, y51.2.2.2.2.2.2.2.1, y51.2.2.2.2.2.2.2.2.1, x2, y37.2.2.2.2.2.2.2.2.2.2.1, x61, y51.2.2.2.2.2.2.2.2.2.2.2.2.1, (y37.2.2.2.2.2.2.2.2.2.2.2.2.2.1.1, y51.2.2.2.2.2.2.2.2.2.2.2.2.2.1.2), y37.2.2.2.2.2.2.2.2.2.2.2.2.2.2.1, y51.2.2.2.2.2.2.2.2.2.2.2.2.2.2.2.1, (y37.2.2.2.2.2.2.2.2.2.2.2.2.2.2.2.2.1, y51.2.2.2.2.2.2.2.2.2.2.2.2.2.2.2.2.2)) a68 c69 a41 c42 a62 c63 a45 c46 a47 c48 a49 c50).toArray))] _ rfl ⟨⟨rfl, trivial⟩, rfl⟩ ?_))))))))
    obtain ⟨y70, hy71, h⟩ := bindO_some h
    refine JO.call rfl rfl rfl rfl (ok_s_l21Clip (y51.1, y51.2.1, y66, y51.2.2.2.1, y51.2.2.2.2.1, y51.2.2.2.2.2.1, y51.2.2.2.2.2.2.1, y51.2.2.2.2.2.2.2.1, y51.2.2.2.2.2.2.2.2.1, x2, y37.2.2.2.2.2.2.2.2.2.2.1, x61, y51.2.2.2.2.2.2.2.2.2.2.2.2.1, (y37.2.2.2.2.2.2.2.2.2.2.2.2.2.1.1, y51.2.2.2.2.2.2.2.2.2.2.2.2.2.1.2), y37.2.2.2.2.2.2.2.2.2.2.2.2.2.2.1, y51.2.2.2.2.2.2.2.2.2.2.2.2.2.2.2.1, (y37.2.2.2.2.2.2.2.2.2.2.2.2.2.2.2.2.1, y51.2.2.2.2.2.2.2.2.2.2.2.2.2.2.2.2.2)) a68 c69 y66.1.length rfl a41 c42 y37.2.2.2.2.2.2.2.2.2.2.1.length rfl a62 c63 x61.length rfl a45 c46 y37.2.2.2.2.2.2.2.2.2.2.2.2.2.1.1.length rfl a47 c48 y37.2.2.2.2.2.2.2.2.2.2.2.2.2.2.1.length rfl a49 c50 y37.2.2.2.2.2.2.2.2.2.2.2.2.2.2.2.2.1.length rfl _ hy71) rfl [1, 4, 2, 5, 6, 7] rfl rfl fun _ _ => JO.regB ttOk 2 [] [] [(7, .v (.bool true))] (.new 10 42 (cl42 (y70.1, y70.2.1, (y66.1, y70.2.2.1.2), y70.2.2.2.1, y70.2.2.2.2.1, y70.2.2.2.2.2.1, y70.2.2.2.2.2.2.1, y70.2.2.2.2.2.2.2.1, y70.2.2.2.2.2.2.2.2.1, y70.2.2.2.2.2.2.2.2.2.1, y37.2.2.2.2.2.2.2.2.2.2.1, x61, y70.2.2.2.2.2.2.2.2.2.2.2.2.1, (y37.2.2.2.2.2.2.2.2.2.2.2.2.2.1.1, y70.2.2.2.2.2.2.2.2.2.2.2.2.2.1.2), y37.2.2.2.2.2.2.2.2.2.2.2.2.2.2.1, y70.2.2.2.2.2.2.2.2.2.2.2.2.2.2.2.1, (y37.2.2.2.2.2.2.2.2.2.2.2.2.2.2.2.2.1, y70.2.2.2.2.2.2.2.2.2.2.2.2.2.2.2.2.2)) a68 c69 a41 c42 a62 c63 a45 c46 a47 c48 a49 c50) .nil) rfl ⟨⟨rfl, trivial⟩, ⟨rfl, rfl, rfl, rfl, trivial⟩⟩ (JO.done rfl ?_)
    cases h
    exact JS.ret ttOk (a68, c69, a41, c42, a62, c63, a45, c46, a47, c48, a49, c50) trivial rfl rfl [0, 2, 0, 1, 1, 1] rfl

def M_s_l23Bell (x0 : Bool × Int × (List Int × Int) × Int × Int × Int × Int × Int × Int × Int × List (List Int) × (List (List Int × Int)) × Int × (List Int × Int) × List Int × Int × List Int × Int) : Option ((Bool × Int × (List Int × Int) × Int × Int × Int × Int × Int × Int × Int × List (List Int) × (List (List Int × Int)) × Int × (List Int × Int) × List Int × Int × List Int × Int) × Int) :=
  (bindO (M_s_l21Copy x0) fun (y26 : Bool × Int × (List Int × Int) × Int × Int × Int × Int × Int × Int × Int × List (List Int) × (List (List Int × Int)) × Int × (List Int × Int) × List Int × Int × List Int × Int) =>
  (bindO (M_s_l21Idle y26) fun (y40 : Bool × Int × (List Int × Int) × Int × Int × Int × Int × Int × Int × Int × List (List Int) × (List (List Int × Int)) × Int × (List Int × Int) × List Int × Int × List Int × Int) =>
  some ((y40.1, y40.2.1, (y26.2.2.1.1, y40.2.2.1.2), y40.2.2.2.1, y40.2.2.2.2.1, y40.2.2.2.2.2.1, y40.2.2.2.2.2.2.1, y40.2.2.2.2.2.2.2.1, y40.2.2.2.2.2.2.2.2.1, 0, y26.2.2.2.2.2.2.2.2.2.2.1, y26.2.2.2.2.2.2.2.2.2.2.2.1, y40.2.2.2.2.2.2.2.2.2.2.2.2.1, (y26.2.2.2.2.2.2.2.2.2.2.2.2.2.1.1, y40.2.2.2.2.2.2.2.2.2.2.2.2.2.1.2), y26.2.2.2.2.2.2.2.2.2.2.2.2.2.2.1, y40.2.2.2.2.2.2.2.2.2.2.2.2.2.2.2.1, (y26.2.2.2.2.2.2.2.2.2.2.2.2.2.2.2.2.1, y40.2.2.2.2.2.2.2.2.2.2.2.2.2.2.2.2.2)), 1)))

theorem ok_s_l23Bell (x0 : Bool × Int × (List Int × Int) × Int × Int × Int × Int × Int × Int × Int × List (List Int) × (List (List Int × Int)) × Int × (List Int × Int) × List Int × Int × List Int × Int) (a2 : Option Addr) (c3 : Nat) (l4 : Nat) (hl5 : x0.2.2.1.1.length = l4) (a6 : Option Addr) (c7 : Nat) (l8 : Nat) (hl9 : x0.2.2.2.2.2.2.2.2.2.2.1.length = l8) (a10 : Option Addr) (c11 : Nat) (l12 : Nat) (hl13 : x0.2.2.2.2.2.2.2.2.2.2.2.1.length = l12) (a14 : Option Addr) (c15 : Nat) (l16 : Nat) (hl17 : x0.2.2.2.2.2.2.2.2.2.2.2.2.2.1.1.length = l16) (a18 : Option Addr) (c19 : Nat) (l20 : Nat) (hl21 : x0.2.2.2.2.2.2.2.2.2.2.2.2.2.2.1.length = l20) (a22 : Option Addr) (c23 : Nat) (l24 : Nat) (hl25 : x0.2.2.2.2.2.2.2.2.2.2.2.2.2.2.2.2.1.length = l24) (r : (Bool × Int × (List Int × Int) × Int × Int × Int × Int × Int × Int × Int × List (List Int) × (List (List Int × Int)) × Int × (List Int × Int) × List Int × Int × List Int × Int) × Int) (h : M_s_l23Bell x0 = some r) :
    FC Tryz.prog 54 [.agg #[.bool x0.1, .int .i64 x0.2.1, .slice a2 l4 c3, .int .i64 x0.2.2.1.2, .int .i64 x0.2.2.2.1, .int .i64 x0.2.2.2.2.1, .int .i64 x0.2.2.2.2.2.1, .int .i64 x0.2.2.2.2.2.2.1, .int .i64 x0.2.2.2.2.2.2.2.1, .int .i64 x0.2.2.2.2.2.2.2.2.1, .int .i64 x0.2.2.2.2.2.2.2.2.2.1, .slice a6 l8 c7, .slice a10 l12 c11, .int .i64 x0.2.2.2.2.2.2.2.2.2.2.2.2.1, .slice a14 l16 c15, .int .i64 x0.2.2.2.2.2.2.2.2.2.2.2.2.2.1.2, .slice a18 l20 c19, .int .i64 x0.2.2.2.2.2.2.2.2.2.2.2.2.2.2.2.1, .slice a22 l24 c23, .int .i64 x0.2.2.2.2.2.2.2.2.2.2.2.2.2.2.2.2.2]] [⟨(.int .i64), ⟨a2, l4, c3⟩, x0.2.2.1.1⟩, ⟨(.sl (.int .i64)), ⟨a6, l8, c7⟩, x0.2.2.2.2.2.2.2.2.2.2.1⟩, ⟨(.pair (.sl (.int .i64)) (.int .i64)), ⟨a10, l12, c11⟩, x0.2.2.2.2.2.2.2.2.2.2.2.1⟩, ⟨(.int .i64), ⟨a14, l16, c15⟩, x0.2.2.2.2.2.2.2.2.2.2.2.2.2.1.1⟩, ⟨(.int .i64), ⟨a18, l20, c19⟩, x0.2.2.2.2.2.2.2.2.2.2.2.2.2.2.1⟩, ⟨(.int .i64), ⟨a22, l24, c23⟩, x0.2.2.2.2.2.2.2.2.2.2.2.2.2.2.2.2.1⟩] (fun _ : Option Addr × Nat × Option Addr × Nat × Option Addr × Nat × Option Addr × Nat × Option Addr × Nat × Option Addr × Nat => True) (fun q => .tuple #[.agg (cl42 r.1 q.1 q.2.1 q.2.2.1 q.2.2.2.1 q.2.2.2.2.1 q.2.2.2.2.2.1 q.2.2.2.2.2.2.1 q.2.2.2.2.2.2.2.1 q.2.2.2.2.2.2.2.2.1 q.2.2.2.2.2.2.2.2.2.1 q.2.2.2.2.2.2.2.2.2.2.1 q.2.2.2.2.2.2.2.2.2.2.2).toArray, .int .i64 r.2]) (fun q => [⟨(.int .i64), ⟨q.1, r.1.2.2.1.1.length, q.2.1⟩, r.1.2.2.1.1⟩, ⟨(.sl (.int .i64)), ⟨q.2.2.1, r.1.2.2.2.2.2.2.2.2.2.2.1.length, q.2.2.2.1⟩, r.1.2.2.2.2.2.2.2.2.2.2.1⟩, ⟨(.pair (.sl (.int .i64)) (.int .i64)), ⟨q.2.2.2.2.1, r.1.2.2.2.2.2.2.2.2.2.2.2.1.length, q.2.2.2.2.2.1⟩, r.1.2.2.2.2.2.2.2.2.2.2.2.1⟩, ⟨(.int .i64), ⟨q.2.2.2.2.2.2.1, r.1.2.2.2.2.2.2.2.2.2.2.2.2.2.1.1.length, q.2.2.2.2.2.2.2.1⟩, r.1.2.2.2.2.2.2.2.2.2.2.2.2.2.1.1⟩, ⟨(.int .i64), ⟨q.2.2.2.2.2.2.2.2.1, r.1.2.2.2.2.2.2.2.2.2.2.2.2.2.2.1.length, q.2.2.2.2.2.2.2.2.2.1⟩, r.1.2.2.2.2.2.2.2.2.2.2.2.2.2.2.1⟩, ⟨(.int .i64), ⟨q.2.2.2.2.2.2.2.2.2.2.1, r.1.2.2.2.2.2.2.2.2.2.2.2.2.2.2.2.2.1.length, q.2.2.2.2.2.2.2.2.2.2.2⟩, r.1.2.2.2.2.2.2.2.2.2.2.2.2.2.2.2.2.1⟩]) :=
  by
    subst hl5
    subst hl9
    subst hl13
    subst hl17
    subst hl21
    subst hl25
    refine FC.of (T := TTx) Tryz.call54 Tryz.func54 rfl rfl fun w0 => ?_
    unfold M_s_l23Bell at h
    refine JS.seq (JS.region (JO.regB ttOk 3 [] [7, 8] [(1, .bp 7 0), (2, .bp 8 0)] (.new 7 42 (cl42 x0 a2 c3 a6 c7 a10 c11 a14 c15 a18 c19 a22 c23) (.new 8 42 (cl42 (false, 0, ([], 0), 0, 0, 0, 0, 0, 0, 0, [], [], 0, ([], 0), [], 0, ([], 0)) none 0 none 0 none 0 none 0 none 0 none 0) .nil)) rfl ⟨⟨rfl, rfl, trivial⟩, ⟨rfl, rfl, rfl, rfl, rfl, rfl, rfl, rfl, trivial⟩⟩ (JO.done rfl (JS.seq (JS.region (JO.reg ttOk 1 [] [] [(5, .v (.agg (cl42 x0 a2 c3 a6 c7 a10 c11 a14 c15 a18 c19 a22 c23).toArray))] _ rfl ⟨⟨rfl, trivial⟩, rfl⟩ ?_))))))
    obtain ⟨y26, hy27, h⟩ := bindO_some h
    refine JO.call rfl rfl rfl rfl (ok_s_l21Copy x0 a2 c3 x0.2.2.1.1.length rfl a6 c7 x0.2.2.2.2.2.2.2.2.2.2.1.length rfl a10 c11 x0.2.2.2.2.2.2.2.2.2.2.2.1.length rfl a14 c15 x0.2.2.2.2.2.2.2.2.2.2.2.2.2.1.1.length rfl a18 c19 x0.2.2.2.2.2.2.2.2.2.2.2.2.2.2.1.length rfl a22 c23 x0.2.2.2.2.2.2.2.2.2.2.2.2.2.2.2.2.1.length rfl _ hy27) rfl [0, 1, 2, 3, 4, 5] rfl rfl ?_
    rintro ⟨a28, c29, a30, c31, a32, c33, a34, c35, a36, c37, a38, c39⟩ -
    obtain ⟨y40, hy41, h⟩ := bindO_some h
    refine JO.call rfl rfl rfl rfl (ok_s_l21Idle y26 a28 c29 y26.2.2.1.1.length rfl a30 c31 y26.2.2.2.2.2.2.2.2.2.2.1.length rfl a32 c33 y26.2.2.2.2.2.2.2.2.2.2.2.1.length rfl a34 c35 y26.2.2.2.2.2.2.2.2.2.2.2.2.2.1.1.length rfl a36 c37 y26.2.2.2.2.2.2.2.2.2.2.2.2.2.2.1.length rfl a38 c39 y26.2.2.2.2.2.2.2.2.2.2.2.2.2.2.2.2.1.length rfl _ hy41) rfl [6, 7, 8, 9, 10, 11] rfl rfl fun _ _ => JO.regB ttOk 2 [] [31] [(4, .bp 31 0)] (.new 8 42 (cl42 (false, 0, ([], 0), 0, 0, 0, 0, 0, 0, 0, [], [], 0, ([], 0), [], 0, ([], 0)) none 0 none 0 none 0 none 0 none 0 none 0) (.new 31 42 (cl42 (y40.1, y40.2.1, (y26.2.2.1.1, y40.2.2.1.2), y40.2.2.2.1, y40.2.2.2.2.1, y40.2.2.2.2.2.1, y40.2.2.2.2.2.2.1, y40.2.2.2.2.2.2.2.1, y40.2.2.2.2.2.2.2.2.1, y40.2.2.2.2.2.2.2.2.2.1, y26.2.2.2.2.2.2.2.2.2.2.1, y26.2.2.2.2.2.2.2.2.2.2.2.1, y40.2.2.2.2.2.2.2.2.2.2.2.2.1, (y26.2.2.2.2.2.2.2.2.2.2.2.2.2.1.1, y40.2.2.2.2.2.2.2.2.2.2.2.2.2.1.2), y26.2.2.2.2.2.2.2.2.2.2.2.2.2.2.1, y40.2.2.2.2.2.2.2.2.2.2.2.2.2.2.2.1, (y26.2.2.2.2.2.2.2.2.2.2.2.2.2.2.2.2.1, y40.2.2.2.2.2.2.2.2.2.2.2.2.2.2.2.2.2)) a28 c29 a30 c31 a32 c33 a34 c35 a36 c37 a38 c39) .nil)) rfl ⟨⟨rfl, trivial⟩, ⟨rfl, rfl, rfl, rfl, rfl, rfl, rfl, rfl, trivial⟩⟩ (JO.done rfl (JS.seq (JS.region (JO.regB ttOk 2 [] [] [] (.new 8 42 (cl42 (false, 0, ([], 0), 0, 0, 0, 0, 0, 0, 0, [], [], 0, ([], 0), [], 0, ([], 0)) none 0 none 0 none 0 none 0 none 0 none 0) (.new 31 42 (cl42 (y40.1, y40.2.1, (y26.2.2.1.1, y40.2.2.1.2), y40.2.2.2.1, y40.2.2.2.2.1, y40.2.2.2.2.2.1, y40.2.2.2.2.2.2.1, y40.2.2.2.2.2.2.2.1, y40.2.2.2.2.2.2.2.2.1, 0, y26.2.2.2.2.2.2.2.2.2.2.1, y26.2.2.2.2.2.2.2.2.2.2.2.1, y40.2.2.2.2.2.2.2.2.2.2.2.2.1, (y26.2.2.2.2.2.2.2.2.2.2.2.2.2.1.1, y40.2.2.2.2.2.2.2.2.2.2.2.2.2.1.2), y26.2.2.2.2.2.2.2.2.2.2.2.2.2.2.1, y40.2.2.2.2.2.2.2.2.2.2.2.2.2.2.2.1, (y26.2.2.2.2.2.2.2.2.2.2.2.2.2.2.2.2.1, y40.2.2.2.2.2.2.2.2.2.2.2.2.2.2.2.2.2)) a28 c29 a30 c31 a32 c33 a34 c35 a36 c37 a38 c39) .nil)) rfl ⟨trivial, ⟨rfl, rfl, rfl, rfl, rfl, rfl, rfl, rfl, trivial⟩⟩ (JO.done rfl (JS.seq (JS.region (JO.regB ttOk 3 [] [] [(3, .v (.int .i64 1))] (.new 8 42 (cl42 (y40.1, y40.2.1, (y26.2.2.1.1, y40.2.2.1.2), y40.2.2.2.1, y40.2.2.2.2.1, y40.2.2.2.2.2.1, y40.2.2.2.2.2.2.1, y40.2.2.2.2.2.2.2.1, y40.2.2.2.2.2.2.2.2.1, 0, y26.2.2.2.2.2.2.2.2.2.2.1, y26.2.2.2.2.2.2.2.2.2.2.2.1, y40.2.2.2.2.2.2.2.2.2.2.2.2.1, (y26.2.2.2.2.2.2.2.2.2.2.2.2.2.1.1, y40.2.2.2.2.2.2.2.2.2.2.2.2.2.1.2), y26.2.2.2.2.2.2.2.2.2.2.2.2.2.2.1, y40.2.2.2.2.2.2.2.2.2.2.2.2.2.2.2.1, (y26.2.2.2.2.2.2.2.2.2.2.2.2.2.2.2.2.1, y40.2.2.2.2.2.2.2.2.2.2.2.2.2.2.2.2.2)) a28 c29 a30 c31 a32 c33 a34 c35 a36 c37 a38 c39) .nil) rfl ⟨⟨rfl, trivial⟩, ⟨rfl, rfl, rfl, rfl, trivial⟩⟩ (JO.done rfl ?_)))))))))
    cases h
    exact JS.ret ttOk (a28, c29, a30, c31, a32, c33, a34, c35, a36, c37, a38, c39) trivial rfl rfl [0, 0, 0, 0, 0, 0] rfl

def M_s_l23Set (x0 : Bool × Int × (List Int × Int) × Int × Int × Int × Int × Int × Int × Int × List (List Int) × (List (List Int × Int)) × Int × (List Int × Int) × List Int × Int × List Int × Int) (x1 : List Int × Int) (x2 : Bool) (x3 : Int) : Option ((Bool × Int × (List Int × Int) × Int × Int × Int × Int × Int × Int × Int × List (List Int) × (List (List Int × Int)) × Int × (List Int × Int) × List Int × Int × List Int × Int) × Int) :=
  (bindO (M_s_EdSet x0 x1 x3) fun (y33, y34) =>
  (bif (bif (!x2) then true else (!y34)) then
  (bindO (M_s_l23Bell x0) fun (y48, y49) =>
  some (y48, y49))
  else
  some (y33, 0)))

theorem ok_s_l23Set (x0 : Bool × Int × (List Int × Int) × Int × Int × Int × Int × Int × Int × Int × List (List Int) × (List (List Int × Int)) × Int × (List Int × Int) × List Int × Int × List Int × Int) (x1 : List Int × Int) (x2 : Bool) (x3 : Int) (a5 : Option Addr) (c6 : Nat) (l7 : Nat) (hl8 : x0.2.2.1.1.length = l7) (a9 : Option Addr) (c10 : Nat) (l11 : Nat) (hl12 : x0.2.2.2.2.2.2.2.2.2.2.1.length = l11) (a13 : Option Addr) (c14 : Nat) (l15 : Nat) (hl16 : x0.2.2.2.2.2.2.2.2.2.2.2.1.length = l15) (a17 : Option Addr) (c18 : Nat) (l19 : Nat) (hl20 : x0.2.2.2.2.2.2.2.2.2.2.2.2.2.1.1.length = l19) (a21 : Option Addr) (c22 : Nat) (l23 : Nat) (hl24 : x0.2.2.2.2.2.2.2.2.2.2.2.2.2.2.1.length = l23) (a25 : Option Addr) (c26 : Nat) (l27 : Nat) (hl28 : x0.2.2.2.2.2.2.2.2.2.2.2.2.2.2.2.2.1.length = l27) (a29 : Option Addr) (c30 : Nat) (l31 : Nat) (hl32 : x1.1.length = l31) (r : (Bool × Int × (List Int × Int) × Int × Int × Int × Int × Int × Int × Int × List (List Int) × (List (List Int × Int)) × Int × (List Int × Int) × List Int × Int × List Int × Int) × Int) (h : M_s_l23Set x0 x1 x2 x3 = some r) :
    FC Tryz.prog 60 [.agg #[.bool x0.1, .int .i64 x0.2.1, .slice a5 l7 c6, .int .i64 x0.2.2.1.2, .int .i64 x0.2.2.2.1, .int .i64 x0.2.2.2.2.1, .int .i64 x0.2.2.2.2.2.1, .int .i64 x0.2.2.2.2.2.2.1, .int .i64 x0.2.2.2.2.2.2.2.1, .int .i64 x0.2.2.2.2.2.2.2.2.1, .int .i64 x0.2.2.2.2.2.2.2.2.2.1, .slice a9 l11 c10, .slice a13 l15 c14, .int .i64 x0.2.2.2.2.2.2.2.2.2.2.2.2.1, .slice a17 l19 c18, .int .i64 x0.2.2.2.2.2.2.2.2.2.2.2.2.2.1.2, .slice a21 l23 c22, .int .i64 x0.2.2.2.2.2.2.2.2.2.2.2.2.2.2.2.1, .slice a25 l27 c26, .int .i64 x0.2.2.2.2.2.2.2.2.2.2.2.2.2.2.2.2.2], .agg #[.slice a29 l31 c30, .int .i64 x1.2], .bool x2, .int .i64 x3] [⟨(.int .i64), ⟨a5, l7, c6⟩, x0.2.2.1.1⟩, ⟨(.sl (.int .i64)), ⟨a9, l11, c10⟩, x0.2.2.2.2.2.2.2.2.2.2.1⟩, ⟨(.pair (.sl (.int .i64)) (.int .i64)), ⟨a13, l15, c14⟩, x0.2.2.2.2.2.2.2.2.2.2.2.1⟩, ⟨(.int .i64), ⟨a17, l19, c18⟩, x0.2.2.2.2.2.2.2.2.2.2.2.2.2.1.1⟩, ⟨(.int .i64), ⟨a21, l23, c22⟩, x0.2.2.2.2.2.2.2.2.2.2.2.2.2.2.1⟩, ⟨(.int .i64), ⟨a25, l27, c26⟩, x0.2.2.2.2.2.2.2.2.2.2.2.2.2.2.2.2.1⟩, ⟨(.int .i64), ⟨a29, l31, c30⟩, x1.1⟩] (fun _ : Option Addr × Nat × Option Addr × Nat × Option Addr × Nat × Option Addr × Nat × Option Addr × Nat × Option Addr × Nat => True) (fun q => .tuple #[.agg (cl42 r.1 q.1 q.2.1 q.2.2.1 q.2.2.2.1 q.2.2.2.2.1 q.2.2.2.2.2.1 q.2.2.2.2.2.2.1 q.2.2.2.2.2.2.2.1 q.2.2.2.2.2.2.2.2.1 q.2.2.2.2.2.2.2.2.2.1 q.2.2.2.2.2.2.2.2.2.2.1 q.2.2.2.2.2.2.2.2.2.2.2).toArray, .int .i64 r.2]) (fun q => [⟨(.int .i64), ⟨q.1, r.1.2.2.1.1.length, q.2.1⟩, r.1.2.2.1.1⟩, ⟨(.sl (.int .i64)), ⟨q.2.2.1, r.1.2.2.2.2.2.2.2.2.2.2.1.length, q.2.2.2.1⟩, r.1.2.2.2.2.2.2.2.2.2.2.1⟩, ⟨(.pair (.sl (.int .i64)) (.int .i64)), ⟨q.2.2.2.2.1, r.1.2.2.2.2.2.2.2.2.2.2.2.1.length, q.2.2.2.2.2.1⟩, r.1.2.2.2.2.2.2.2.2.2.2.2.1⟩, ⟨(.int .i64), ⟨q.2.2.2.2.2.2.1, r.1.2.2.2.2.2.2.2.2.2.2.2.2.2.1.1.length, q.2.2.2.2.2.2.2.1⟩, r.1.2.2.2.2.2.2.2.2.2.2.2.2.2.1.1⟩, ⟨(.int .i64), ⟨q.2.2.2.2.2.2.2.2.1, r.1.2.2.2.2.2.2.2.2.2.2.2.2.2.2.1.length, q.2.2.2.2.2.2.2.2.2.1⟩, r.1.2.2.2.2.2.2.2.2.2.2.2.2.2.2.1⟩, ⟨(.int .i64), ⟨q.2.2.2.2.2.2.2.2.2.2.1, r.1.2.2.2.2.2.2.2.2.2.2.2.2.2.2.2.2.1.length, q.2.2.2.2.2.2.2.2.2.2.2⟩, r.1.2.2.2.2.2.2.2.2.2.2.2.2.2.2.2.2.1⟩]) :=
  by
    subst hl8
    subst hl12
    subst hl16
    subst hl20
    subst hl24
    subst hl28
    subst hl32
    refine FC.of (T := TTx) Tryz.call60 Tryz.func60 rfl rfl fun w0 => ?_
    unfold M_s_l23Set at h
    refine JS.seq (JS.region (JO.regB ttOk 4 [] [8, 9, 10] [(4, .bp 8 0), (5, .bp 9 0), (8, .bp 10 0)] (.new 8 42 (cl42 x0 a5 c6 a9 c10 a13 c14 a17 c18 a21 c22 a25 c26) (.new 9 34 [.slice a29 x1.1.length c30, .int .i64 x1.2] (.new 10 42 (cl42 (false, 0, ([], 0), 0, 0, 0, 0, 0, 0, 0, [], [], 0, ([], 0), [], 0, ([], 0)) none 0 none 0 none 0 none 0 none 0 none 0) .nil))) rfl ⟨⟨rfl, rfl, rfl, trivial⟩, ⟨rfl, rfl, rfl, rfl, rfl, rfl, rfl, rfl, rfl, rfl, rfl, rfl, trivial⟩⟩ (JO.done rfl (JS.seq (JS.region (JO.reg ttOk 3 [] [] [(13, .v (.agg (cl42 x0 a5 c6 a9 c10 a13 c14 a17 c18 a21 c22 a25 c26).toArray)), (14, .v (.agg #[.slice a29 x1.1.length c30, .int .i64 x1.2])), (15, .v (.int .i64 x3))] _ rfl ⟨⟨rfl, rfl, rfl, trivial⟩, rfl⟩ ?_))))))
    obtain ⟨⟨y33, y34⟩, hy35, h⟩ := bindO_some h
    refine JO.call rfl rfl rfl rfl (ok_s_EdSet x0 x1 x3 a5 c6 x0.2.2.1.1.length rfl a9 c10 x0.2.2.2.2.2.2.2.2.2.2.1.length rfl a13 c14 x0.2.2.2.2.2.2.2.2.2.2.2.1.length rfl a17 c18 x0.2.2.2.2.2.2.2.2.2.2.2.2.2.1.1.length rfl a21 c22 x0.2.2.2.2.2.2.2.2.2.2.2.2.2.2.1.length rfl a25 c26 x0.2.2.2.2.2.2.2.2.2.2.2.2.2.2.2.2.1.length rfl a29 c30 x1.1.length rfl _ hy35) rfl [0, 1, 2, 3, 4, 5, 6] rfl rfl ?_
    rintro ⟨a36, c37, a38, c39, a40, c41, a42, c43, a44, c45, a46, c47⟩ -
    refine JO.regB ttOk 6 [] [32] [(10, .bp 32 0), (11, .v (.bool y34))] (.new 8 42 (cl42 x0 a5 c6 a9 c10 a13 c14 a17 c18 a21 c22 a25 c26) (.new 10 42 (cl42 (false, 0, ([], 0), 0, 0, 0, 0, 0, 0, 0, [], [], 0, ([], 0), [], 0, ([], 0)) none 0 none 0 none 0 none 0 none 0 none 0) (.new 32 42 (cl42 y33 a36 c37 a38 c39 a40 c41 a42 c43 a44 c45 a46 c47) .nil))) rfl ⟨⟨rfl, rfl, trivial⟩, ⟨rfl, rfl, rfl, rfl, rfl, rfl, rfl, rfl, rfl, rfl, rfl, rfl, trivial⟩⟩ (JO.done rfl (JS.seq (JS.seq (JS.region (JO.reg ttOk 6 [] [] [(24, .v (.bool (bif (!x2) then true else (!y34))))] _ rfl ⟨⟨rfl, trivial⟩, rfl⟩ (JO.done rfl ?_))))))
    refine JS.cond rfl (fun ht64 => ?_) (fun ht64 => ?_)
    · have h := condT h ht64
      refine JS.seq (JS.region (JO.reg ttOk 1 [] [] [(25, .v (.agg (cl42 x0 a5 c6 a9 c10 a13 c14 a17 c18 a21 c22 a25 c26).toArray))] _ rfl ⟨⟨rfl, trivial⟩, rfl⟩ ?_))
      obtain ⟨⟨y48, y49⟩, hy50, h⟩ := bindO_some h
      refine JO.call rfl rfl rfl rfl (ok_s_l23Bell x0 a5 c6 x0.2.2.1.1.length rfl a9 c10 x0.2.2.2.2.2.2.2.2.2.2.1.length rfl a13 c14 x0.2.2.2.2.2.2.2.2.2.2.2.1.length rfl a17 c18 x0.2.2.2.2.2.2.2.2.2.2.2.2.2.1.1.length rfl a21 c22 x0.2.2.2.2.2.2.2.2.2.2.2.2.2.2.1.length rfl a25 c26 x0.2.2.2.2.2.2.2.2.2.2.2.2.2.2.2.2.1.length rfl _ hy50) rfl [0, 1, 2, 3, 4, 5] rfl rfl ?_
      rintro ⟨a51, c52, a53, c54, a55, c56, a57, c58, a59, c60, a61, c62⟩ -
      refine JO.regB ttOk 4 [] [] [(9, .v (.int .i64 y49))] (.new 10 42 (cl42 y48 a51 c52 a53 c54 a55 c56 a57 c58 a59 c60 a61 c62) .nil) rfl ⟨⟨rfl, trivial⟩, ⟨rfl, rfl, rfl, rfl, trivial⟩⟩ (JO.done rfl ?_)
      cases h
      exact JS.ret ttOk (a51, c52, a53, c54, a55, c56, a57, c58, a59, c60, a61, c62) trivial rfl rfl [0, 0, 0, 0, 0, 0] rfl
    have h := condF h ht64
    refine JS.skip (JS.seq (JS.region (JO.regB ttOk 3 [] [] [(9, .v (.int .i64 0))] (.new 10 42 (cl42 y33 a36 c37 a38 c39 a40 c41 a42 c43 a44 c45 a46 c47) .nil) rfl ⟨⟨rfl, trivial⟩, ⟨rfl, rfl, rfl, rfl, trivial⟩⟩ (JO.done rfl ?_))))
    cases h
    exact JS.ret ttOk (a36, c37, a38, c39, a40, c41, a42, c43, a44, c45, a46, c47) trivial rfl rfl [0, 0, 0, 0, 0, 0] rfl

def M_s_l23Go (x0 : Bool × Int × (List Int × Int) × Int × Int × Int × Int × Int × Int × Int × List (List Int) × (List (List Int × Int)) × Int × (List Int × Int) × List Int × Int × List Int × Int) (x1 : Int) : Option ((Bool × Int × (List Int × Int) × Int × Int × Int × Int × Int × Int × Int × List (List Int) × (List (List Int × Int)) × Int × (List Int × Int) × List Int × Int × List Int × Int) × Int) :=
  (bindO (M_s_LineGo x0.2.2.1 x1) fun (y27, y28) =>
  (bindO (M_s_l23Set x0 y27 y28 0) fun (y32, y33) =>
  some (y32, y33)))

theorem ok_s_l23Go (x0 : Bool × Int × (List Int × Int) × Int × Int × Int × Int × Int × Int × Int × List (List Int) × (List (List Int × Int)) × Int × (List Int × Int) × List Int × Int × List Int × Int) (x1 : Int) (a3 : Option Addr) (c4 : Nat) (l5 : Nat) (hl6 : x0.2.2.1.1.length = l5) (a7 : Option Addr) (c8 : Nat) (l9 : Nat) (hl10 : x0.2.2.2.2.2.2.2.2.2.2.1.length = l9) (a11 : Option Addr) (c12 : Nat) (l13 : Nat) (hl14 : x0.2.2.2.2.2.2.2.2.2.2.2.1.length = l13) (a15 : Option Addr) (c16 : Nat) (l17 : Nat) (hl18 : x0.2.2.2.2.2.2.2.2.2.2.2.2.2.1.1.length = l17) (a19 : Option Addr) (c20 : Nat) (l21 : Nat) (hl22 : x0.2.2.2.2.2.2.2.2.2.2.2.2.2.2.1.length = l21) (a23 : Option Addr) (c24 : Nat) (l25 : Nat) (hl26 : x0.2.2.2.2.2.2.2.2.2.2.2.2.2.2.2.2.1.length = l25) (r : (Bool × Int × (List Int × Int) × Int × Int × Int × Int × Int × Int × Int × List (List Int) × (List (List Int × Int)) × Int × (List Int × Int) × List Int × Int × List Int × Int) × Int) (h : M_s_l23Go x0 x1 = some r) :
    FC Tryz.prog 58 [.agg #[.bool x0.1, .int .i64 x0.2.1, .slice a3 l5 c4, .int .i64 x0.2.2.1.2, .int .i64 x0.2.2.2.1, .int .i64 x0.2.2.2.2.1, .int .i64 x0.2.2.2.2.2.1, .int .i64 x0.2.2.2.2.2.2.1, .int .i64 x0.2.2.2.2.2.2.2.1, .int .i64 x0.2.2.2.2.2.2.2.2.1, .int .i64 x0.2.2.2.2.2.2.2.2.2.1, .slice a7 l9 c8, .slice a11 l13 c12, .int .i64 x0.2.2.2.2.2.2.2.2.2.2.2.2.1, .slice a15 l17 c16, .int .i64 x0.2.2.2.2.2.2.2.2.2.2.2.2.2.1.2, .slice a19 l21 c20, .int .i64 x0.2.2.2.2.2.2.2.2.2.2.2.2.2.2.2.1, .slice a23 l25 c24, .int .i64 x0.2.2.2.2.2.2.2.2.2.2.2.2.2.2.2.2.2], .int .i64 x1] [⟨(.int .i64), ⟨a3, l5, c4⟩, x0.2.2.1.1⟩, ⟨(.sl (.int .i64)), ⟨a7, l9, c8⟩, x0.2.2.2.2.2.2.2.2.2.2.1⟩, ⟨(.pair (.sl (.int .i64)) (.int .i64)), ⟨a11, l13, c12⟩, x0.2.2.2.2.2.2.2.2.2.2.2.1⟩, ⟨(.int .i64), ⟨a15, l17, c16⟩, x0.2.2.2.2.2.2.2.2.2.2.2.2.2.1.1⟩, ⟨(.int .i64), ⟨a19, l21, c20⟩, x0.2.2.2.2.2.2.2.2.2.2.2.2.2.2.1⟩, ⟨(.int .i64), ⟨a23, l25, c24⟩, x0.2.2.2.2.2.2.2.2.2.2.2.2.2.2.2.2.1⟩] (fun _ : Option Addr × Nat × Option Addr × Nat × Option Addr × Nat × Option Addr × Nat × Option Addr × Nat × Option Addr × Nat => True) (fun q => .tuple #[.agg (cl42 r.1 q.1 q.2.1 q.2.2.1 q.2.2.2.1 q.2.2.2.2.1 q.2.2.2.2.2.1 q.2.2.2.2.2.2.1 q.2.2.2.2.2.2.2.1 q.2.2.2.2.2.2.2.2.1 q.2.2.2.2.2.2.2.2.2.1 q.2.2.2.2.2.2.2.2.2.2.1 q.2.2.2.2.2.2.2.2.2.2.2).toArray, .int .i64 r.2]) (fun q => [⟨(.int .i64), ⟨q.1, r.1.2.2.1.1.length, q.2.1⟩, r.1.2.2.1.1⟩, ⟨(.sl (.int .i64)), ⟨q.2.2.1, r.1.2.2.2.2.2.2.2.2.2.2.1.length, q.2.2.2.1⟩, r.1.2.2.2.2.2.2.2.2.2.2.1⟩, ⟨(.pair (.sl (.int .i64)) (.int .i64)), ⟨q.2.2.2.2.1, r.1.2.2.2.2.2.2.2.2.2.2.2.1.length, q.2.2.2.2.2.1⟩, r.1.2.2.2.2.2.2.2.2.2.2.2.1⟩, ⟨(.int .i64), ⟨q.2.2.2.2.2.2.1, r.1.2.2.2.2.2.2.2.2.2.2.2.2.2.1.1.length, q.2.2.2.2.2.2.2.1⟩, r.1.2.2.2.2.2.2.2.2.2.2.2.2.2.1.1⟩, ⟨(.int .i64), ⟨q.2.2.2.2.2.2.2.2.1, r.1.2.2.2.2.2.2.2.2.2.2.2.2.2.2.1.length, q.2.2.2.2.2.2.2.2.2.1⟩, r.1.2.2.2.2.2.2.2.2.2.2.2.2.2.2.1⟩, ⟨(.int .i64), ⟨q.2.2.2.2.2.2.2.2.2.2.1, r.1.2.2.2.2.2.2.2.2.2.2.2.2.2.2.2.2.1.length, q.2.2.2.2.2.2.2.2.2.2.2⟩, r.1.2.2.2.2.2.2.2.2.2.2.2.2.2.2.2.2.1⟩]) :=
  by
    subst hl6
    subst hl10
    subst hl14
    subst hl18
    subst hl22
    subst hl26
    refine FC.of (T := TTx) Tryz.call58 Tryz.func58 rfl rfl fun w0 => ?_
    unfold M_s_l23Go at h
    refine JS.seq (JS.region (JO.regB ttOk 3 [] [7, 8] [(2, .bp 7 0), (4, .bp 8 0)] (.new 7 42 (cl42 x0 a3 c4 a7 c8 a11 c12 a15 c16 a19 c20 a23 c24) (.new 8 42 (cl42 (false, 0, ([], 0), 0, 0, 0, 0, 0, 0, 0, [], [], 0, ([], 0), [], 0, ([], 0)) none 0 none 0 none 0 none 0 none 0 none 0) .nil)) rfl ⟨⟨rfl, rfl, trivial⟩, ⟨rfl, rfl, rfl, rfl, rfl, rfl, rfl, rfl, trivial⟩⟩ (JO.done rfl (JS.seq (JS.region (JO.reg ttOk 3 [] [] [(10, .v (.agg #[.slice a3 x0.2.2.1.1.length c4, .int .i64 x0.2.2.1.2])), (11, .v (.int .i64 x1))] _ rfl ⟨⟨rfl, rfl, trivial⟩, rfl⟩ ?_))))))
    obtain ⟨⟨y27, y28⟩, hy29, h⟩ := bindO_some h
    refine JO.call rfl rfl rfl rfl (ok_s_LineGo x0.2.2.1 x1 a3 c4 x0.2.2.1.1.length rfl _ hy29) rfl [0] rfl rfl ?_
    rintro ⟨a30, c31⟩ -
    refine JO.regB ttOk 6 [] [15] [(6, .bp 15 0), (7, .v (.bool y28))] (.new 7 42 (cl42 x0 a3 c4 a7 c8 a11 c12 a15 c16 a19 c20 a23 c24) (.new 8 42 (cl42 (false, 0, ([], 0), 0, 0, 0, 0, 0, 0, 0, [], [], 0, ([], 0), [], 0, ([], 0)) none 0 none 0 none 0 none 0 none 0 none 0) (.new 15 34 [.slice a30 y27.1.length c31, .int .i64 y27.2] .nil))) rfl ⟨⟨rfl, rfl, trivial⟩, ⟨rfl, rfl, rfl, rfl, rfl, rfl, rfl, rfl, rfl, rfl, rfl, rfl, trivial⟩⟩ (JO.done rfl (JS.seq (JS.region (JO.reg ttOk 3 [] [] [(15, .v (.agg (cl42 x0 a3 c4 a7 c8 a11 c12 a15 c16 a19 c20 a23 c24).toArray)), (16, .v (.agg #[.slice a30 y27.1.length c31, .int .i64 y27.2])), (17, .v (.bool y28))] _ rfl ⟨⟨rfl, rfl, rfl, trivial⟩, rfl⟩ ?_))))
    obtain ⟨⟨y32, y33⟩, hy34, h⟩ := bindO_some h
    refine JO.call rfl rfl rfl rfl (ok_s_l23Set x0 y27 y28 0 a3 c4 x0.2.2.1.1.length rfl a7 c8 x0.2.2.2.2.2.2.2.2.2.2.1.length rfl a11 c12 x0.2.2.2.2.2.2.2.2.2.2.2.1.length rfl a15 c16 x0.2.2.2.2.2.2.2.2.2.2.2.2.2.1.1.length rfl a19 c20 x0.2.2.2.2.2.2.2.2.2.2.2.2.2.2.1.length rfl a23 c24 x0.2.2.2.2.2.2.2.2.2.2.2.2.2.2.2.2.1.length rfl a30 c31 y27.1.length rfl _ hy34) rfl [0, 1, 2, 3, 4, 5, 6] rfl rfl ?_
    rintro ⟨a35, c36, a37, c38, a39, c40, a41, c42, a43, c44, a45, c46⟩ -
    refine JO.regB ttOk 4 [] [] [(5, .v (.int .i64 y33))] (.new 8 42 (cl42 y32 a35 c36 a37 c38 a39 c40 a41 c42 a43 c44 a45 c46) .nil) rfl ⟨⟨rfl, trivial⟩, ⟨rfl, rfl, rfl, rfl, trivial⟩⟩ (JO.done rfl ?_)
    cases h
    exact JS.ret ttOk (a35, c36, a37, c38, a39, c40, a41, c42, a43, c44, a45, c46) trivial rfl rfl [0, 0, 0, 0, 0, 0] rfl

end
end Go.Eng
