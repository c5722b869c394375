/- The walks of the functions that FnType reaches: what each computes, as a plain function (M_..), and that the model computes it (ok_..). Condition of each: that the plain function answers. -/
import Derived.Test.YtlpgcohnjhomgaaGreatEngB
import Derived.Test.YtlpgcohnjhomgaaGreatChecked
set_option linter.unusedVariables false
set_option linter.unusedSimpArgs false
namespace Go.Eng
open Go Go.Proofs
noncomputable section

@[reducible] def cl46 (x : Bool × Int × (List Int × Int) × Int × Int × Int × Int × Int × Int × Int × List (List Int) × (List (List Int × Int)) × Int × (List Int × Int) × List Int × Int × List Int × Int) (a1 : Option Addr) (c1 : Nat) (a2 : Option Addr) (c2 : Nat) (a3 : Option Addr) (c3 : Nat) (a4 : Option Addr) (c4 : Nat) (a5 : Option Addr) (c5 : Nat) (a6 : Option Addr) (c6 : Nat) : List Value := [.bool x.1, .int .i64 x.2.1, .slice a1 x.2.2.1.1.length c1, .int .i64 x.2.2.1.2, .int .i64 x.2.2.2.1, .int .i64 x.2.2.2.2.1, .int .i64 x.2.2.2.2.2.1, .int .i64 x.2.2.2.2.2.2.1, .int .i64 x.2.2.2.2.2.2.2.1, .int .i64 x.2.2.2.2.2.2.2.2.1, .int .i64 x.2.2.2.2.2.2.2.2.2.1, .slice a2 x.2.2.2.2.2.2.2.2.2.2.1.length c2, .slice a3 x.2.2.2.2.2.2.2.2.2.2.2.1.length c3, .int .i64 x.2.2.2.2.2.2.2.2.2.2.2.2.1, .slice a4 x.2.2.2.2.2.2.2.2.2.2.2.2.2.1.1.length c4, .int .i64 x.2.2.2.2.2.2.2.2.2.2.2.2.2.1.2, .slice a5 x.2.2.2.2.2.2.2.2.2.2.2.2.2.2.1.length c5, .int .i64 x.2.2.2.2.2.2.2.2.2.2.2.2.2.2.2.1, .slice a6 x.2.2.2.2.2.2.2.2.2.2.2.2.2.2.2.2.1.length c6, .int .i64 x.2.2.2.2.2.2.2.2.2.2.2.2.2.2.2.2.2]
def TTx : TT := [
  (2, ⟨.int .i64, 1, 8, [.int .i64 0]⟩),
  (3, ⟨.int .i64, 1, 8, [.int .i64 0]⟩),
  (4, ⟨.bool, 1, 1, [.bool false]⟩),
  (5, ⟨.int .u8, 1, 1, [.int .u8 0]⟩),
  (6, ⟨.int .u8, 1, 1, [.int .u8 0]⟩),
  (7, ⟨.struct [(0, 2), (1, 3), (2, 4), (3, 6)], 4, 24, [.int .i64 0, .int .i64 0, .bool false, .int .u8 0]⟩),
  (8, ⟨.struct [(0, 2), (1, 3), (2, 4), (3, 6)], 4, 24, [.int .i64 0, .int .i64 0, .bool false, .int .u8 0]⟩),
  (9, ⟨.str, 1, 16, [.string ByteArray.empty]⟩),
  (10, ⟨.str, 1, 16, [.string ByteArray.empty]⟩),
  (11, ⟨.str, 1, 16, [.string ByteArray.empty]⟩),
  (12, ⟨.int .u64, 1, 8, [.int .u64 0]⟩),
  (13, ⟨.struct [(0, 9), (1, 12)], 2, 24, [.string ByteArray.empty, .int .u64 0]⟩),
  (14, ⟨.struct [(0, 9), (1, 12)], 2, 24, [.string ByteArray.empty, .int .u64 0]⟩),
  (21, ⟨.int .i32, 1, 4, [.int .i32 0]⟩),
  (22, ⟨.slice 3, 1, 24, [.slice none 0 0]⟩),
  (23, ⟨.struct [(0, 22), (1, 3)], 2, 32, [.slice none 0 0, .int .i64 0]⟩),
  (24, ⟨.struct [(0, 22), (1, 3)], 2, 32, [.slice none 0 0, .int .i64 0]⟩),
  (25, ⟨.slice 193, 1, 24, [.slice none 0 0]⟩),
  (26, ⟨.struct [(0, 25)], 1, 24, [.slice none 0 0]⟩),
  (27, ⟨.struct [(0, 25)], 1, 24, [.slice none 0 0]⟩),
  (28, ⟨.slice 24, 1, 24, [.slice none 0 0]⟩),
  (29, ⟨.struct [(0, 28)], 1, 24, [.slice none 0 0]⟩),
  (30, ⟨.struct [(0, 28)], 1, 24, [.slice none 0 0]⟩),
  (31, ⟨.struct [(0, 4), (1, 3), (2, 24), (4, 3), (5, 3), (6, 3), (7, 3), (8, 3), (9, 3), (10, 3), (11, 27), (12, 30), (13, 3), (14, 24), (16, 22), (17, 3), (18, 24)], 20, 256, [.bool false, .int .i64 0, .slice none 0 0, .int .i64 0, .int .i64 0, .int .i64 0, .int .i64 0, .int .i64 0, .int .i64 0, .int .i64 0, .int .i64 0, .slice none 0 0, .slice none 0 0, .int .i64 0, .slice none 0 0, .int .i64 0, .slice none 0 0, .int .i64 0, .slice none 0 0, .int .i64 0]⟩),
  (32, ⟨.struct [(0, 4), (1, 3), (2, 24), (4, 3), (5, 3), (6, 3), (7, 3), (8, 3), (9, 3), (10, 3), (11, 27), (12, 30), (13, 3), (14, 24), (16, 22), (17, 3), (18, 24)], 20, 256, [.bool false, .int .i64 0, .slice none 0 0, .int .i64 0, .int .i64 0, .int .i64 0, .int .i64 0, .int .i64 0, .int .i64 0, .int .i64 0, .int .i64 0, .slice none 0 0, .slice none 0 0, .int .i64 0, .slice none 0 0, .int .i64 0, .slice none 0 0, .int .i64 0, .slice none 0 0, .int .i64 0]⟩),
  (33, ⟨.slice 9, 1, 24, [.slice none 0 0]⟩),
  (34, ⟨.struct [(0, 3), (1, 33)], 2, 32, [.int .i64 0, .slice none 0 0]⟩),
  (35, ⟨.struct [(0, 3), (1, 33)], 2, 32, [.int .i64 0, .slice none 0 0]⟩),
  (38, ⟨.struct [(0, 22), (1, 3)], 2, 32, [.slice none 0 0, .int .i64 0]⟩),
  (39, ⟨.slice 174, 1, 24, [.slice none 0 0]⟩),
  (40, ⟨.struct [(0, 39)], 1, 24, [.slice none 0 0]⟩),
  (41, ⟨.struct [(0, 39)], 1, 24, [.slice none 0 0]⟩),
  (42, ⟨.slice 38, 1, 24, [.slice none 0 0]⟩),
  (43, ⟨.struct [(0, 42)], 1, 24, [.slice none 0 0]⟩),
  (44, ⟨.struct [(0, 42)], 1, 24, [.slice none 0 0]⟩),
  (45, ⟨.struct [(0, 4), (1, 3), (2, 38), (4, 3), (5, 3), (6, 3), (7, 3), (8, 3), (9, 3), (10, 3), (11, 41), (12, 44), (13, 3), (14, 38), (16, 22), (17, 3), (18, 38)], 20, 256, [.bool false, .int .i64 0, .slice none 0 0, .int .i64 0, .int .i64 0, .int .i64 0, .int .i64 0, .int .i64 0, .int .i64 0, .int .i64 0, .int .i64 0, .slice none 0 0, .slice none 0 0, .int .i64 0, .slice none 0 0, .int .i64 0, .slice none 0 0, .int .i64 0, .slice none 0 0, .int .i64 0]⟩),
  (46, ⟨.struct [(0, 4), (1, 3), (2, 38), (4, 3), (5, 3), (6, 3), (7, 3), (8, 3), (9, 3), (10, 3), (11, 41), (12, 44), (13, 3), (14, 38), (16, 22), (17, 3), (18, 38)], 20, 256, [.bool false, .int .i64 0, .slice none 0 0, .int .i64 0, .int .i64 0, .int .i64 0, .int .i64 0, .int .i64 0, .int .i64 0, .int .i64 0, .int .i64 0, .slice none 0 0, .slice none 0 0, .int .i64 0, .slice none 0 0, .int .i64 0, .slice none 0 0, .int .i64 0, .slice none 0 0, .int .i64 0]⟩),
  (50, ⟨.struct [(0, 3), (1, 33)], 2, 32, [.int .i64 0, .slice none 0 0]⟩),
  (60, ⟨.struct [(0, 3), (1, 3)], 2, 16, [.int .i64 0, .int .i64 0]⟩),
  (61, ⟨.struct [(0, 3), (1, 3)], 2, 16, [.int .i64 0, .int .i64 0]⟩),
  (64, ⟨.struct [(0, 3), (1, 3)], 2, 16, [.int .i64 0, .int .i64 0]⟩),
  (69, ⟨.slice 5, 1, 24, [.slice none 0 0]⟩),
  (73, ⟨.slice 64, 1, 24, [.slice none 0 0]⟩),
  (74, ⟨.slice 4, 1, 24, [.slice none 0 0]⟩),
  (163, ⟨.struct [(0, 69), (1, 3), (2, 3)], 3, 40, [.slice none 0 0, .int .i64 0, .int .i64 0]⟩),
  (164, ⟨.struct [(0, 69), (1, 3), (2, 3)], 3, 40, [.slice none 0 0, .int .i64 0, .int .i64 0]⟩),
  (173, ⟨.struct [(0, 22)], 1, 24, [.slice none 0 0]⟩),
  (174, ⟨.struct [(0, 22)], 1, 24, [.slice none 0 0]⟩),
  (193, ⟨.struct [(0, 22)], 1, 24, [.slice none 0 0]⟩),
  (197, ⟨.int .u64, 1, 8, [.int .u64 0]⟩),
  (214, ⟨.int .u32, 1, 4, [.int .u32 0]⟩),
  (225, ⟨.int .u8, 1, 1, [.int .u8 0]⟩),
  (226, ⟨.int .u8, 1, 1, [.int .u8 0]⟩),
  (229, ⟨.int .i32, 1, 4, [.int .i32 0]⟩),
  (230, ⟨.int .i32, 1, 4, [.int .i32 0]⟩)]

set_option maxRecDepth 100000 in
theorem ttOk : TTok Tryz.prog TTx := TTok.of (by
  simp only [TTx, List.forall_mem_cons]
  exact ⟨⟨⟨_, _, rfl, rfl, rfl, rfl, rfl⟩, rfl⟩, ⟨⟨_, _, rfl, rfl, rfl, rfl, rfl⟩, rfl⟩, ⟨⟨_, _, rfl, rfl, rfl, rfl, rfl⟩, rfl⟩, ⟨⟨_, _, rfl, rfl, rfl, rfl, rfl⟩, rfl⟩, ⟨⟨_, _, rfl, rfl, rfl, rfl, rfl⟩, rfl⟩, ⟨⟨_, _, rfl, rfl, rfl, rfl, rfl⟩, ⟨_, rfl, rfl⟩⟩, ⟨⟨_, _, rfl, rfl, rfl, rfl, rfl⟩, ⟨_, rfl, rfl⟩⟩, ⟨⟨_, _, rfl, rfl, rfl, rfl, rfl⟩, rfl⟩, ⟨⟨_, _, rfl, rfl, rfl, rfl, rfl⟩, rfl⟩, ⟨⟨_, _, rfl, rfl, rfl, rfl, rfl⟩, rfl⟩, ⟨⟨_, _, rfl, rfl, rfl, rfl, rfl⟩, rfl⟩, ⟨⟨_, _, rfl, rfl, rfl, rfl, rfl⟩, ⟨_, rfl, rfl⟩⟩, ⟨⟨_, _, rfl, rfl, rfl, rfl, rfl⟩, ⟨_, rfl, rfl⟩⟩, ⟨⟨_, _, rfl, rfl, rfl, rfl, rfl⟩, rfl⟩, ⟨⟨_, _, rfl, rfl, rfl, rfl, rfl⟩, rfl⟩, ⟨⟨_, _, rfl, rfl, rfl, rfl, rfl⟩, ⟨_, rfl, rfl⟩⟩, ⟨⟨_, _, rfl, rfl, rfl, rfl, rfl⟩, ⟨_, rfl, rfl⟩⟩, ⟨⟨_, _, rfl, rfl, rfl, rfl, rfl⟩, rfl⟩, ⟨⟨_, _, rfl, rfl, rfl, rfl, rfl⟩, ⟨_, rfl, rfl⟩⟩, ⟨⟨_, _, rfl, rfl, rfl, rfl, rfl⟩, ⟨_, rfl, rfl⟩⟩, ⟨⟨_, _, rfl, rfl, rfl, rfl, rfl⟩, rfl⟩, ⟨⟨_, _, rfl, rfl, rfl, rfl, rfl⟩, ⟨_, rfl, rfl⟩⟩, ⟨⟨_, _, rfl, rfl, rfl, rfl, rfl⟩, ⟨_, rfl, rfl⟩⟩, ⟨⟨_, _, rfl, rfl, rfl, rfl, rfl⟩, ⟨_, rfl, rfl⟩⟩, ⟨⟨_, _, rfl, rfl, rfl, rfl, rfl⟩, ⟨_, rfl, rfl⟩⟩, ⟨⟨_, _, rfl, rfl, rfl, rfl, rfl⟩, rfl⟩, ⟨⟨_, _, rfl, rfl, rfl, rfl, rfl⟩, ⟨_, rfl, rfl⟩⟩, ⟨⟨_, _, rfl, rfl, rfl, rfl, rfl⟩, ⟨_, rfl, rfl⟩⟩, ⟨⟨_, _, rfl, rfl, rfl, rfl, rfl⟩, ⟨_, rfl, rfl⟩⟩, ⟨⟨_, _, rfl, rfl, rfl, rfl, rfl⟩, rfl⟩, ⟨⟨_, _, rfl, rfl, rfl, rfl, rfl⟩, ⟨_, rfl, rfl⟩⟩, ⟨⟨_, _, rfl, rfl, rfl, rfl, rfl⟩, ⟨_, rfl, rfl⟩⟩, ⟨⟨_, _, rfl, rfl, rfl, rfl, rfl⟩, rfl⟩, ⟨⟨_, _, rfl, rfl, rfl, rfl, rfl⟩, ⟨_, rfl, rfl⟩⟩, ⟨⟨_, _, rfl, rfl, rfl, rfl, rfl⟩, ⟨_, rfl, rfl⟩⟩, ⟨⟨_, _, rfl, rfl, rfl, rfl, rfl⟩, ⟨_, rfl, rfl⟩⟩, ⟨⟨_, _, rfl, rfl, rfl, rfl, rfl⟩, ⟨_, rfl, rfl⟩⟩, ⟨⟨_, _, rfl, rfl, rfl, rfl, rfl⟩, ⟨_, rfl, rfl⟩⟩, ⟨⟨_, _, rfl, rfl, rfl, rfl, rfl⟩, ⟨_, rfl, rfl⟩⟩, ⟨⟨_, _, rfl, rfl, rfl, rfl, rfl⟩, ⟨_, rfl, rfl⟩⟩, ⟨⟨_, _, rfl, rfl, rfl, rfl, rfl⟩, ⟨_, rfl, rfl⟩⟩, ⟨⟨_, _, rfl, rfl, rfl, rfl, rfl⟩, rfl⟩, ⟨⟨_, _, rfl, rfl, rfl, rfl, rfl⟩, rfl⟩, ⟨⟨_, _, rfl, rfl, rfl, rfl, rfl⟩, rfl⟩, ⟨⟨_, _, rfl, rfl, rfl, rfl, rfl⟩, ⟨_, rfl, rfl⟩⟩, ⟨⟨_, _, rfl, rfl, rfl, rfl, rfl⟩, ⟨_, rfl, rfl⟩⟩, ⟨⟨_, _, rfl, rfl, rfl, rfl, rfl⟩, ⟨_, rfl, rfl⟩⟩, ⟨⟨_, _, rfl, rfl, rfl, rfl, rfl⟩, ⟨_, rfl, rfl⟩⟩, ⟨⟨_, _, rfl, rfl, rfl, rfl, rfl⟩, ⟨_, rfl, rfl⟩⟩, ⟨⟨_, _, rfl, rfl, rfl, rfl, rfl⟩, rfl⟩, ⟨⟨_, _, rfl, rfl, rfl, rfl, rfl⟩, rfl⟩, ⟨⟨_, _, rfl, rfl, rfl, rfl, rfl⟩, rfl⟩, ⟨⟨_, _, rfl, rfl, rfl, rfl, rfl⟩, rfl⟩, ⟨⟨_, _, rfl, rfl, rfl, rfl, rfl⟩, rfl⟩, ⟨⟨_, _, rfl, rfl, rfl, rfl, rfl⟩, rfl⟩, by simp⟩)

def M_s_l01New_L1 (x0 : List UInt8) (j16 : Int → Option (List UInt8 × Int × Int)) (k11 : (Int × Int) → Option (List UInt8 × Int × Int)) : (Int × Int) → Option (List UInt8 × Int × Int) := fun (x6, x7) =>
  (bif (bif (decide (x7 < (x0.length : Int))) then (decide (x7 < 4000)) else false) then
  (guardO (0 ≤ x7 ∧ x7 < (x0.length : Int)) <|
  k11 ((W (((BitVec.ofInt (IntKind.bits .i64) (W ((W ((W (x6 * 137)) + ((at' x0 x7).toNat : Int))) + 7)) &&& BitVec.ofInt (IntKind.bits .i64) 1073741823).toNat : Int))), (W (x7 + 1))))
  else
  j16 x6)

def M_s_l01New (x0 : List UInt8) : Option (List UInt8 × Int × Int) :=
  (joinO (fun (x15 : Int) =>
  some (x0, 0, x15)) fun j16 =>
  (fixF (M_s_l01New_L1 x0 j16) FUEL ((W (600128 + (x0.length : Int))), 0)))

theorem ok_s_l01New (x0 : List UInt8) (a2 : Option Addr) (c3 : Nat) (l4 : Nat) (hl5 : x0.length = l4) (r : List UInt8 × Int × Int) (h : M_s_l01New x0 = some r) :
    FC Tryz.prog 89 [.slice a2 l4 c3] [⟨.byte, ⟨a2, l4, c3⟩, x0⟩] (fun _ : Option Addr => True) (fun q => .pointer q) (fun q => [⟨(.pair .val (.pair (.int .i64) (.int .i64))), ⟨q, 1, 1⟩, [((Sl.v ⟨a2, l4, c3⟩), r.2.1, r.2.2)]⟩]) :=
  by
    subst hl5
    refine FC.of (T := TTx) Tryz.call89 Tryz.func89 rfl rfl fun w0 => ?_
    unfold M_s_l01New at h
    refine JS.rg0 ttOk 1 [] ⟨trivial, rfl⟩ rfl rfl (JS.rg ttOk 4 [(W (600128 + (x0.length : Int)))] [] [(3, .v (.int .i64 (W (600128 + (x0.length : Int)))))] _ ⟨⟨trivial, rfl⟩, ⟨rfl, trivial⟩, rfl⟩ rfl rfl (JS.seq (JS.rg0 ttOk 1 [(4, .v (.int .i64 0))] ⟨⟨rfl, trivial⟩, rfl⟩ rfl rfl ?_)))
    obtain ⟨j16, hj23, h⟩ := joinO_some h
    refine JS.blockJ (ι := Int) ⟨fun z => j16 z = some r, fun z => [(0, .v (.slice a2 x0.length c3)), (3, .v (.int .i64 z))], fun z => .nil, fun z => [⟨.byte, ⟨a2, x0.length, c3⟩, x0⟩], fun z => [], fun z => 0⟩ ?_ ?_
    · refine JS.loop (ι := Nat × Int × Int) ⟨fun z => fixF (M_s_l01New_L1 x0 j16) z.1 (z.2.1, z.2.2) = some r, fun z => [(0, .v (.slice a2 x0.length c3)), (3, .v (.int .i64 z.2.1)), (4, .v (.int .i64 z.2.2))], fun z => .nil, fun z => [⟨.byte, ⟨a2, x0.length, c3⟩, x0⟩], fun z => [], fun z => z.1⟩ (FUEL, (W (600128 + (x0.length : Int))), 0) h (Es rfl) trivial [0] rfl [] rfl ?_
      rintro ⟨n12, x6, x7⟩ h
      obtain ⟨n12, rfl, h⟩ := fixF_some h
      rw [M_s_l01New_L1] at h
      refine JS.seq (JS.rg0 ttOk 8 [(15, .v (.bool (bif (decide (x7 < (x0.length : Int))) then (decide (x7 < 4000)) else false)))] ⟨⟨rfl, trivial⟩, rfl⟩ rfl rfl ?_)
      refine JS.cond rfl (fun ht22 => ?_) (fun ht22 => ?_)
      · have h := condT h ht22
        refine JS.skip (JS.seq (JS.block (JS.region (JO.know 0 rfl fun hs21 => ?_))))
        obtain ⟨g9, h⟩ := guardO_some h
        refine JO.reg ttOk 5 [(W (x6 * 137))] [] [(19, .v (.int .i64 (W (x6 * 137)))), (22, .ep ⟨a2, x0.length, c3⟩ (Int.toNat x7 * 1))] _ rfl ⟨⟨trivial, rfl⟩, hs21.ix g9, (Es rfl), rfl⟩ (JO.load ttOk rfl rfl rfl rfl rfl rfl rfl 0 rfl rfl (Int.toNat x7) 0 (at' x0 x7) ⟨at_some g9, rfl⟩ rfl rfl (JO.reg ttOk 5 [((at' x0 x7).toNat : Int), (W ((W (x6 * 137)) + ((at' x0 x7).toNat : Int))), (W ((W ((W (x6 * 137)) + ((at' x0 x7).toNat : Int))) + 7)), (W (((BitVec.ofInt (IntKind.bits .i64) (W ((W ((W (x6 * 137)) + ((at' x0 x7).toNat : Int))) + 7)) &&& BitVec.ofInt (IntKind.bits .i64) 1073741823).toNat : Int)))] [] [(3, .v (.int .i64 (W (((BitVec.ofInt (IntKind.bits .i64) (W ((W ((W (x6 * 137)) + ((at' x0 x7).toNat : Int))) + 7)) &&& BitVec.ofInt (IntKind.bits .i64) 1073741823).toNat : Int)))))] _ rfl ⟨⟨trivial, W_byte _⟩, ⟨trivial, rfl⟩, ⟨trivial, rfl⟩, ⟨trivial, rfl⟩, ⟨rfl, trivial⟩, rfl⟩ (JO.done rfl (JS.endB (JS.re ttOk 3 [(W (x7 + 1))] [] [(4, .v (.int .i64 (W (x7 + 1))))] _ ⟨⟨trivial, rfl⟩, ⟨rfl, trivial⟩, rfl⟩ rfl rfl (JS.endL (n12, (W (((BitVec.ofInt (IntKind.bits .i64) (W ((W ((W (x6 * 137)) + ((at' x0 x7).toNat : Int))) + 7)) &&& BitVec.ofInt (IntKind.bits .i64) 1073741823).toNat : Int))), (W (x7 + 1))) h (Nat.lt_succ_self _) (Es rfl) trivial [0] rfl [] rfl))))))
      have h := condF h ht22
      refine JS.exit rfl (JS.endJ x6 h (Es rfl) trivial [0] rfl [] rfl)
    rintro x15 h
    subst hj23
    refine JS.rgB ttOk 5 [] [9] [(2, .bp 9 0), (31, .bp 9 0)] (.new 9 164 [.slice a2 x0.length c3, .int .i64 0, .int .i64 x15] .nil) ⟨(Es rfl), (Bs rfl rfl)⟩ rfl rfl (JS.unbox 9 rfl (B' := .nil) trivial rfl (.pair .val (.pair (.int .i64) (.int .i64))) ((Sl.v ⟨a2, x0.length, c3⟩), 0, x15) ⟨rfl, rfl, rfl⟩ (fun a19 => [(0, .v (.slice a2 x0.length c3)), (2, .ep ⟨a19, 1, 1⟩ 0), (3, .v (.int .i64 x15)), (31, .ep ⟨a19, 1, 1⟩ 0)]) (fun _ => (Es rfl)) fun a19 => ?_)
    cases h
    exact JS.ret ttOk a19 trivial rfl rfl [0] rfl

def M_s_l01Byte (x0 : List UInt8 × Int × Int) : Option (Int × List UInt8 × Int × Int) :=
  (joinO (fun ((x14, x15) : Int × Int) =>
  some (x14, (x0.1, x15, (W ((W (x0.2.2 * 6364136223846793005)) + 1442695040888963407))))) fun j16 =>
  (bif (decide (x0.2.1 < (x0.1.length : Int))) then
  (guardO (0 ≤ x0.2.1 ∧ x0.2.1 < (x0.1.length : Int)) <|
  j16 ((W (((BitVec.ofInt (IntKind.bits .i64) (W ((W (((BitVec.ofInt (IntKind.bits .i64) (W (((BitVec.ofInt (IntKind.bits .i64) (Int.fdiv (W ((W (x0.2.2 * 6364136223846793005)) + 1442695040888963407)) (2 ^ (min (Int.toNat 33) (IntKind.bits .i64)))) ^^^ BitVec.ofInt (IntKind.bits .i64) (Int.fdiv (W ((W (x0.2.2 * 6364136223846793005)) + 1442695040888963407)) (2 ^ (min (Int.toNat 45) (IntKind.bits .i64))))).toNat : Int))) &&& BitVec.ofInt (IntKind.bits .i64) 255).toNat : Int))) + ((at' x0.1 x0.2.1).toNat : Int))) &&& BitVec.ofInt (IntKind.bits .i64) 255).toNat : Int))), (W (x0.2.1 + 1))))
  else
  j16 ((W (((BitVec.ofInt (IntKind.bits .i64) (W (((BitVec.ofInt (IntKind.bits .i64) (Int.fdiv (W ((W (x0.2.2 * 6364136223846793005)) + 1442695040888963407)) (2 ^ (min (Int.toNat 33) (IntKind.bits .i64)))) ^^^ BitVec.ofInt (IntKind.bits .i64) (Int.fdiv (W ((W (x0.2.2 * 6364136223846793005)) + 1442695040888963407)) (2 ^ (min (Int.toNat 45) (IntKind.bits .i64))))).toNat : Int))) &&& BitVec.ofInt (IntKind.bits .i64) 255).toNat : Int))), x0.2.1)))

theorem ok_s_l01Byte (x0 : List UInt8 × Int × Int) (a2 : Option Addr) (a3 : Option Addr) (c4 : Nat) (l5 : Nat) (hl6 : x0.1.length = l5) (r : Int × List UInt8 × Int × Int) (h : M_s_l01Byte x0 = some r) :
    FX Tryz.prog 175 [.pointer a2] [⟨.byte, ⟨a3, l5, c4⟩, x0.1⟩] [⟨(.pair .val (.pair (.int .i64) (.int .i64))), ⟨a2, 1, 1⟩, [((Sl.v ⟨a3, l5, c4⟩), x0.2.1, x0.2.2)]⟩] (fun _ : Unit => True) (fun _ => .int .i64 r.1) (fun _ => [⟨(.pair .val (.pair (.int .i64) (.int .i64))), ⟨a2, 1, 1⟩, [((Sl.v ⟨a3, l5, c4⟩), r.2.2.1, r.2.2.2)]⟩]) :=
  by
    subst hl6
    refine FX.of (T := TTx) Tryz.call175 Tryz.func175 rfl rfl fun w0 L0 => ?_
    unfold M_s_l01Byte at h
    refine JS.ptr 0 a2 rfl ?_
    refine JS.rg0 ttOk 1 [] ⟨trivial, rfl⟩ rfl rfl (JS.seq (JS.region (JO.know 1 rfl fun hs21 => JO.reg ttOk 4 [] [] [(4, .ep ⟨a2, 1, 1⟩ 0), (7, .ep ⟨a2, 1, 1⟩ 2)] _ rfl ⟨(hs21.fa ptr0).1, hs21.fa ptr0, (Es rfl), rfl⟩ (JO.loadV ttOk rfl rfl rfl rfl rfl rfl 1 rfl rfl 0 2 ((Sl.v ⟨a3, x0.1.length, c4⟩), x0.2.1, x0.2.2) ⟨rfl, rfl⟩ rfl rfl rfl (JO.reg ttOk 4 [(W (x0.2.2 * 6364136223846793005)), (W ((W (x0.2.2 * 6364136223846793005)) + 1442695040888963407))] [] [(10, .v (.int .i64 (W ((W (x0.2.2 * 6364136223846793005)) + 1442695040888963407)))), (12, .ep ⟨a2, 1, 1⟩ 2)] _ rfl ⟨⟨trivial, rfl⟩, ⟨trivial, rfl⟩, (hs21.fa ptr0).1, hs21.fa ptr0, (Es rfl), rfl⟩ (JO.storeE ttOk rfl rfl rfl rfl rfl rfl rfl rfl rfl [0] (fs := []) rfl 0 2 ((Sl.v ⟨a3, x0.1.length, c4⟩), x0.2.1, x0.2.2) ((Sl.v ⟨a3, x0.1.length, c4⟩), x0.2.1, (W ((W (x0.2.2 * 6364136223846793005)) + 1442695040888963407))) ⟨rfl, rfl⟩ ⟨⟨⟨rfl, rfl, rfl⟩, rfl⟩, rfl⟩ (JO.done rfl (JS.seq ?_))))))))
    have g8 : (0 : Int) ≤ 33 := by decide
    have g9 : (0 : Int) ≤ 45 := by decide
    refine JS.regionQ rfl (by kernel_rfl) (JQ.reg ttOk 3 [] [(15, .ep ⟨a2, 1, 1⟩ 2)] rfl ⟨(hs21.fa ptr0).1, hs21.fa ptr0, ⟨rfl, trivial⟩⟩ (JQ.loadV ttOk rfl rfl rfl rfl rfl rfl 1 rfl rfl 0 2 ((Sl.v ⟨a3, x0.1.length, c4⟩), x0.2.1, (W ((W (x0.2.2 * 6364136223846793005)) + 1442695040888963407))) ⟨rfl, rfl⟩ rfl rfl rfl (JQ.reg ttOk 4 [] [(17, .v (.int .i64 (Int.fdiv (W ((W (x0.2.2 * 6364136223846793005)) + 1442695040888963407)) (2 ^ (min (Int.toNat 33) (IntKind.bits .i64)))))), (20, .ep ⟨a2, 1, 1⟩ 2)] rfl ⟨g8, (hs21.fa ptr0).1, hs21.fa ptr0, (Es rfl)⟩ (JQ.loadV ttOk rfl rfl rfl rfl rfl rfl 1 rfl rfl 0 2 ((Sl.v ⟨a3, x0.1.length, c4⟩), x0.2.1, (W ((W (x0.2.2 * 6364136223846793005)) + 1442695040888963407))) ⟨rfl, rfl⟩ rfl rfl rfl (JQ.reg ttOk 4 [(W (((BitVec.ofInt (IntKind.bits .i64) (Int.fdiv (W ((W (x0.2.2 * 6364136223846793005)) + 1442695040888963407)) (2 ^ (min (Int.toNat 33) (IntKind.bits .i64)))) ^^^ BitVec.ofInt (IntKind.bits .i64) (Int.fdiv (W ((W (x0.2.2 * 6364136223846793005)) + 1442695040888963407)) (2 ^ (min (Int.toNat 45) (IntKind.bits .i64))))).toNat : Int))), (W (((BitVec.ofInt (IntKind.bits .i64) (W (((BitVec.ofInt (IntKind.bits .i64) (Int.fdiv (W ((W (x0.2.2 * 6364136223846793005)) + 1442695040888963407)) (2 ^ (min (Int.toNat 33) (IntKind.bits .i64)))) ^^^ BitVec.ofInt (IntKind.bits .i64) (Int.fdiv (W ((W (x0.2.2 * 6364136223846793005)) + 1442695040888963407)) (2 ^ (min (Int.toNat 45) (IntKind.bits .i64))))).toNat : Int))) &&& BitVec.ofInt (IntKind.bits .i64) 255).toNat : Int)))] [(3, .v (.int .i64 (W (((BitVec.ofInt (IntKind.bits .i64) (W (((BitVec.ofInt (IntKind.bits .i64) (Int.fdiv (W ((W (x0.2.2 * 6364136223846793005)) + 1442695040888963407)) (2 ^ (min (Int.toNat 33) (IntKind.bits .i64)))) ^^^ BitVec.ofInt (IntKind.bits .i64) (Int.fdiv (W ((W (x0.2.2 * 6364136223846793005)) + 1442695040888963407)) (2 ^ (min (Int.toNat 45) (IntKind.bits .i64))))).toNat : Int))) &&& BitVec.ofInt (IntKind.bits .i64) 255).toNat : Int)))))] rfl ⟨g9, ⟨trivial, rfl⟩, ⟨trivial, rfl⟩, ⟨rfl, trivial⟩⟩ (JQ.done rfl ?_))))))
    obtain ⟨j16, hj25, h⟩ := joinO_some h
    refine JS.seqJ (ι := Int × Int) ⟨fun z => j16 (z.1, z.2) = some r, fun z => [(3, .v (.int .i64 z.1))], fun z => .nil, fun z => [⟨.byte, ⟨a3, x0.1.length, c4⟩, x0.1⟩], fun z => [⟨(.pair .val (.pair (.int .i64) (.int .i64))), ⟨a2, 1, 1⟩, [((Sl.v ⟨a3, x0.1.length, c4⟩), z.2, (W ((W (x0.2.2 * 6364136223846793005)) + 1442695040888963407)))]⟩], fun z => 0⟩ ?_ ?_
    · refine JS.seq (JS.regionQ rfl (by kernel_rfl) (JQ.reg ttOk 3 [] [(27, .ep ⟨a2, 1, 1⟩ 1)] rfl ⟨(hs21.fa ptr0).1, hs21.fa ptr0, ⟨rfl, trivial⟩⟩ (JQ.loadV ttOk rfl rfl rfl rfl rfl rfl 1 rfl rfl 0 1 ((Sl.v ⟨a3, x0.1.length, c4⟩), x0.2.1, (W ((W (x0.2.2 * 6364136223846793005)) + 1442695040888963407))) ⟨rfl, rfl⟩ rfl rfl rfl (JQ.reg ttOk 3 [] [(31, .ep ⟨a2, 1, 1⟩ 0)] rfl ⟨(hs21.fa ptr0).1, hs21.fa ptr0, ⟨rfl, trivial⟩⟩ (JQ.loadV ttOk rfl rfl rfl rfl rfl rfl 1 rfl rfl 0 0 ((Sl.v ⟨a3, x0.1.length, c4⟩), x0.2.1, (W ((W (x0.2.2 * 6364136223846793005)) + 1442695040888963407))) ⟨rfl, rfl⟩ rfl rfl rfl (JQ.reg ttOk 2 [] [(34, .v (.bool (decide (x0.2.1 < (x0.1.length : Int)))))] rfl ⟨rfl, trivial⟩ (JQ.done rfl ?_)))))))
      refine JS.cond rfl (fun ht24 => ?_) (fun ht24 => ?_)
      · have h := condT h ht24
        refine JS.seq ?_
        obtain ⟨g11, h⟩ := guardO_some h
        refine JS.know 0 rfl fun hs23 => JS.regionQ rfl (by kernel_rfl) (JQ.reg ttOk 4 [] [(35, .v (.int .i64 (W (((BitVec.ofInt (IntKind.bits .i64) (W (((BitVec.ofInt (IntKind.bits .i64) (Int.fdiv (W ((W (x0.2.2 * 6364136223846793005)) + 1442695040888963407)) (2 ^ (min (Int.toNat 33) (IntKind.bits .i64)))) ^^^ BitVec.ofInt (IntKind.bits .i64) (Int.fdiv (W ((W (x0.2.2 * 6364136223846793005)) + 1442695040888963407)) (2 ^ (min (Int.toNat 45) (IntKind.bits .i64))))).toNat : Int))) &&& BitVec.ofInt (IntKind.bits .i64) 255).toNat : Int))))), (38, .ep ⟨a2, 1, 1⟩ 0)] rfl ⟨(hs21.fa ptr0).1, hs21.fa ptr0, (Es rfl)⟩ (JQ.loadV ttOk rfl rfl rfl rfl rfl rfl 1 rfl rfl 0 0 ((Sl.v ⟨a3, x0.1.length, c4⟩), x0.2.1, (W ((W (x0.2.2 * 6364136223846793005)) + 1442695040888963407))) ⟨rfl, rfl⟩ rfl rfl rfl (JQ.reg ttOk 3 [] [(42, .ep ⟨a2, 1, 1⟩ 1)] rfl ⟨(hs21.fa ptr0).1, hs21.fa ptr0, ⟨rfl, trivial⟩⟩ (JQ.loadV ttOk rfl rfl rfl rfl rfl rfl 1 rfl rfl 0 1 ((Sl.v ⟨a3, x0.1.length, c4⟩), x0.2.1, (W ((W (x0.2.2 * 6364136223846793005)) + 1442695040888963407))) ⟨rfl, rfl⟩ rfl rfl rfl (JQ.reg ttOk 1 [] [(44, .ep ⟨a3, x0.1.length, c4⟩ (Int.toNat x0.2.1 * 1))] rfl ⟨hs23.ix g11, ⟨rfl, trivial⟩⟩ (JQ.load ttOk rfl rfl rfl rfl rfl rfl rfl 0 rfl rfl (Int.toNat x0.2.1) 0 (at' x0.1 x0.2.1) ⟨at_some g11, rfl⟩ rfl rfl (JQ.reg ttOk 4 [((at' x0.1 x0.2.1).toNat : Int), (W ((W (((BitVec.ofInt (IntKind.bits .i64) (W (((BitVec.ofInt (IntKind.bits .i64) (Int.fdiv (W ((W (x0.2.2 * 6364136223846793005)) + 1442695040888963407)) (2 ^ (min (Int.toNat 33) (IntKind.bits .i64)))) ^^^ BitVec.ofInt (IntKind.bits .i64) (Int.fdiv (W ((W (x0.2.2 * 6364136223846793005)) + 1442695040888963407)) (2 ^ (min (Int.toNat 45) (IntKind.bits .i64))))).toNat : Int))) &&& BitVec.ofInt (IntKind.bits .i64) 255).toNat : Int))) + ((at' x0.1 x0.2.1).toNat : Int))), (W (((BitVec.ofInt (IntKind.bits .i64) (W ((W (((BitVec.ofInt (IntKind.bits .i64) (W (((BitVec.ofInt (IntKind.bits .i64) (Int.fdiv (W ((W (x0.2.2 * 6364136223846793005)) + 1442695040888963407)) (2 ^ (min (Int.toNat 33) (IntKind.bits .i64)))) ^^^ BitVec.ofInt (IntKind.bits .i64) (Int.fdiv (W ((W (x0.2.2 * 6364136223846793005)) + 1442695040888963407)) (2 ^ (min (Int.toNat 45) (IntKind.bits .i64))))).toNat : Int))) &&& BitVec.ofInt (IntKind.bits .i64) 255).toNat : Int))) + ((at' x0.1 x0.2.1).toNat : Int))) &&& BitVec.ofInt (IntKind.bits .i64) 255).toNat : Int)))] [(3, .v (.int .i64 (W (((BitVec.ofInt (IntKind.bits .i64) (W ((W (((BitVec.ofInt (IntKind.bits .i64) (W (((BitVec.ofInt (IntKind.bits .i64) (Int.fdiv (W ((W (x0.2.2 * 6364136223846793005)) + 1442695040888963407)) (2 ^ (min (Int.toNat 33) (IntKind.bits .i64)))) ^^^ BitVec.ofInt (IntKind.bits .i64) (Int.fdiv (W ((W (x0.2.2 * 6364136223846793005)) + 1442695040888963407)) (2 ^ (min (Int.toNat 45) (IntKind.bits .i64))))).toNat : Int))) &&& BitVec.ofInt (IntKind.bits .i64) 255).toNat : Int))) + ((at' x0.1 x0.2.1).toNat : Int))) &&& BitVec.ofInt (IntKind.bits .i64) 255).toNat : Int)))))] rfl ⟨⟨trivial, W_byte _⟩, ⟨trivial, rfl⟩, ⟨trivial, rfl⟩, ⟨rfl, trivial⟩⟩ (JQ.done rfl (JS.region (JO.reg ttOk 4 [] [] [(49, .ep ⟨a2, 1, 1⟩ 0), (52, .ep ⟨a2, 1, 1⟩ 1)] _ rfl ⟨(hs21.fa ptr0).1, hs21.fa ptr0, (Es rfl), rfl⟩ (JO.loadV ttOk rfl rfl rfl rfl rfl rfl 1 rfl rfl 0 1 ((Sl.v ⟨a3, x0.1.length, c4⟩), x0.2.1, (W ((W (x0.2.2 * 6364136223846793005)) + 1442695040888963407))) ⟨rfl, rfl⟩ rfl rfl rfl (JO.reg ttOk 3 [(W (x0.2.1 + 1))] [] [(54, .v (.int .i64 (W (x0.2.1 + 1)))), (56, .ep ⟨a2, 1, 1⟩ 1)] _ rfl ⟨⟨trivial, rfl⟩, (hs21.fa ptr0).1, hs21.fa ptr0, (Es rfl), rfl⟩ (JO.storeE ttOk rfl rfl rfl rfl rfl rfl rfl rfl rfl [0] (fs := []) rfl 0 1 ((Sl.v ⟨a3, x0.1.length, c4⟩), x0.2.1, (W ((W (x0.2.2 * 6364136223846793005)) + 1442695040888963407))) ((Sl.v ⟨a3, x0.1.length, c4⟩), (W (x0.2.1 + 1)), (W ((W (x0.2.2 * 6364136223846793005)) + 1442695040888963407))) ⟨rfl, rfl⟩ ⟨⟨⟨rfl, rfl, rfl⟩, rfl⟩, rfl⟩ (JO.done rfl (JS.endJ ((W (((BitVec.ofInt (IntKind.bits .i64) (W ((W (((BitVec.ofInt (IntKind.bits .i64) (W (((BitVec.ofInt (IntKind.bits .i64) (Int.fdiv (W ((W (x0.2.2 * 6364136223846793005)) + 1442695040888963407)) (2 ^ (min (Int.toNat 33) (IntKind.bits .i64)))) ^^^ BitVec.ofInt (IntKind.bits .i64) (Int.fdiv (W ((W (x0.2.2 * 6364136223846793005)) + 1442695040888963407)) (2 ^ (min (Int.toNat 45) (IntKind.bits .i64))))).toNat : Int))) &&& BitVec.ofInt (IntKind.bits .i64) 255).toNat : Int))) + ((at' x0.1 x0.2.1).toNat : Int))) &&& BitVec.ofInt (IntKind.bits .i64) 255).toNat : Int))), (W (x0.2.1 + 1))) h ⟨rfl, trivial⟩ trivial [0] rfl [0] rfl)))))))))))))))
      have h := condF h ht24
      refine JS.skip (JS.endJ ((W (((BitVec.ofInt (IntKind.bits .i64) (W (((BitVec.ofInt (IntKind.bits .i64) (Int.fdiv (W ((W (x0.2.2 * 6364136223846793005)) + 1442695040888963407)) (2 ^ (min (Int.toNat 33) (IntKind.bits .i64)))) ^^^ BitVec.ofInt (IntKind.bits .i64) (Int.fdiv (W ((W (x0.2.2 * 6364136223846793005)) + 1442695040888963407)) (2 ^ (min (Int.toNat 45) (IntKind.bits .i64))))).toNat : Int))) &&& BitVec.ofInt (IntKind.bits .i64) 255).toNat : Int))), x0.2.1) h ⟨rfl, trivial⟩ trivial [0] rfl [0] rfl)
    rintro ⟨x14, x15⟩ h
    subst hj25
    refine JS.rg0 ttOk 2 [(2, .v (.int .i64 x14))] ⟨⟨rfl, trivial⟩, rfl⟩ rfl rfl ?_
    cases h
    exact JS.retX ttOk () trivial rfl rfl [0] rfl

def M_s_l01Below (x0 : List UInt8 × Int × Int) (x1 : Int) : Option (Int × List UInt8 × Int × Int) :=
  (bif (decide (x1 ≤ 0)) then
  some (0, x0)
  else
  (bif (decide (x1 ≤ 256)) then
  (bindO (M_s_l01Byte x0) fun (y8, y9) =>
  (guardO (x1 ≠ 0) <|
  some ((Int.tmod y8 x1), (x0.1, y9.2.1, y9.2.2))))
  else
  (bindO (M_s_l01Byte x0) fun (y12, y13) =>
  (bindO (M_s_l01Byte (x0.1, y13.2.1, y13.2.2)) fun (y15, y16) =>
  (bindO (M_s_l01Byte (x0.1, y16.2.1, y16.2.2)) fun (y18, y19) =>
  (bindO (M_s_l01Byte (x0.1, y19.2.1, y19.2.2)) fun (y21, y22) =>
  (guardO (x1 ≠ 0) <|
  some ((Int.tmod (W ((W ((W ((W (y12 * 16777216)) + (W (y15 * 65536)))) + (W (y18 * 256)))) + y21)) x1), (x0.1, y22.2.1, y22.2.2)))))))))

theorem ok_s_l01Below (x0 : List UInt8 × Int × Int) (x1 : Int) (a3 : Option Addr) (a4 : Option Addr) (c5 : Nat) (l6 : Nat) (hl7 : x0.1.length = l6) (r : Int × List UInt8 × Int × Int) (h : M_s_l01Below x0 x1 = some r) :
    FX Tryz.prog 94 [.pointer a3, .int .i64 x1] [⟨.byte, ⟨a4, l6, c5⟩, x0.1⟩] [⟨(.pair .val (.pair (.int .i64) (.int .i64))), ⟨a3, 1, 1⟩, [((Sl.v ⟨a4, l6, c5⟩), x0.2.1, x0.2.2)]⟩] (fun _ : Unit => True) (fun _ => .int .i64 r.1) (fun _ => [⟨(.pair .val (.pair (.int .i64) (.int .i64))), ⟨a3, 1, 1⟩, [((Sl.v ⟨a4, l6, c5⟩), r.2.2.1, r.2.2.2)]⟩]) :=
  by
    subst hl7
    refine FX.of (T := TTx) Tryz.call94 Tryz.func94 rfl rfl fun w0 L0 => ?_
    unfold M_s_l01Below at h
    refine JS.ptr 0 a3 rfl ?_
    refine JS.rg0 ttOk 1 [] ⟨trivial, rfl⟩ rfl rfl (JS.seq (JS.rg0 ttOk 2 [(10, .v (.bool (decide (x1 ≤ 0))))] ⟨⟨rfl, trivial⟩, rfl⟩ rfl rfl ?_))
    refine JS.cond rfl (fun ht28 => ?_) (fun ht28 => ?_)
    · have h := condT h ht28
      refine JS.rg0 ttOk 1 [(4, .v (.int .i64 0))] ⟨⟨rfl, trivial⟩, rfl⟩ rfl rfl ?_
      cases h
      exact JS.retX ttOk () trivial rfl rfl [0] rfl
    have h := condF h ht28
    refine JS.skip (JS.seq (JS.rg0 ttOk 2 [(12, .v (.bool (decide (x1 ≤ 256))))] ⟨⟨rfl, trivial⟩, rfl⟩ rfl rfl ?_))
    refine JS.cond rfl (fun ht27 => ?_) (fun ht27 => ?_)
    · have h := condT h ht27
      refine JS.seq (JS.region (JO.reg ttOk 1 [] [] [(13, .ep ⟨a3, 1, 1⟩ 0)] _ rfl ⟨⟨rfl, trivial⟩, rfl⟩ ?_))
      obtain ⟨⟨y8, y9⟩, hy10, h⟩ := bindO_some h
      refine JO.callX rfl rfl rfl rfl (ok_s_l01Byte x0 a3 a4 c5 x0.1.length rfl _ hy10) rfl [0] rfl [0] rfl rfl fun _ _ => ?_
      obtain ⟨g11, h⟩ := guardO_some h
      refine JO.reg ttOk 3 [] [] [(4, .v (.int .i64 (Int.tmod y8 x1)))] _ rfl ⟨g11, ⟨rfl, trivial⟩, rfl⟩ (JO.done rfl ?_)
      cases h
      exact JS.retX ttOk () trivial rfl rfl [0] rfl
    have h := condF h ht27
    refine JS.skip (JS.seq (JS.region (JO.reg ttOk 1 [] [] [(17, .ep ⟨a3, 1, 1⟩ 0)] _ rfl ⟨⟨rfl, trivial⟩, rfl⟩ ?_)))
    obtain ⟨⟨y12, y13⟩, hy14, h⟩ := bindO_some h
    refine JO.callX rfl rfl rfl rfl (ok_s_l01Byte x0 a3 a4 c5 x0.1.length rfl _ hy14) rfl [0] rfl [0] rfl rfl fun _ _ => JO.reg ttOk 1 [] [] [(5, .v (.int .i64 y12))] _ rfl ⟨⟨rfl, trivial⟩, rfl⟩ (JO.done rfl (JS.seq (JS.region (JO.reg ttOk 1 [] [] [(19, .ep ⟨a3, 1, 1⟩ 0)] _ rfl ⟨⟨rfl, trivial⟩, rfl⟩ ?_))))
    obtain ⟨⟨y15, y16⟩, hy17, h⟩ := bindO_some h
    refine JO.callX rfl rfl rfl rfl (ok_s_l01Byte (x0.1, y13.2.1, y13.2.2) a3 a4 c5 x0.1.length rfl _ hy17) rfl [0] rfl [0] rfl rfl fun _ _ => JO.reg ttOk 1 [] [] [(6, .v (.int .i64 y15))] _ rfl ⟨⟨rfl, trivial⟩, rfl⟩ (JO.done rfl (JS.seq (JS.region (JO.reg ttOk 1 [] [] [(21, .ep ⟨a3, 1, 1⟩ 0)] _ rfl ⟨⟨rfl, trivial⟩, rfl⟩ ?_))))
    obtain ⟨⟨y18, y19⟩, hy20, h⟩ := bindO_some h
    refine JO.callX rfl rfl rfl rfl (ok_s_l01Byte (x0.1, y16.2.1, y16.2.2) a3 a4 c5 x0.1.length rfl _ hy20) rfl [0] rfl [0] rfl rfl fun _ _ => JO.reg ttOk 1 [] [] [(7, .v (.int .i64 y18))] _ rfl ⟨⟨rfl, trivial⟩, rfl⟩ (JO.done rfl (JS.seq (JS.region (JO.reg ttOk 1 [] [] [(23, .ep ⟨a3, 1, 1⟩ 0)] _ rfl ⟨⟨rfl, trivial⟩, rfl⟩ ?_))))
    obtain ⟨⟨y21, y22⟩, hy23, h⟩ := bindO_some h
    refine JO.callX rfl rfl rfl rfl (ok_s_l01Byte (x0.1, y19.2.1, y19.2.2) a3 a4 c5 x0.1.length rfl _ hy23) rfl [0] rfl [0] rfl rfl fun _ _ => JO.reg ttOk 1 [] [] [(8, .v (.int .i64 y21))] _ rfl ⟨⟨rfl, trivial⟩, rfl⟩ (JO.done rfl (JS.seq (JS.region ?_)))
    obtain ⟨g24, h⟩ := guardO_some h
    refine JO.reg ttOk 13 [(W (y12 * 16777216)), (W (y15 * 65536)), (W ((W (y12 * 16777216)) + (W (y15 * 65536)))), (W (y18 * 256)), (W ((W ((W (y12 * 16777216)) + (W (y15 * 65536)))) + (W (y18 * 256)))), (W ((W ((W ((W (y12 * 16777216)) + (W (y15 * 65536)))) + (W (y18 * 256)))) + y21))] [] [(4, .v (.int .i64 (Int.tmod (W ((W ((W ((W (y12 * 16777216)) + (W (y15 * 65536)))) + (W (y18 * 256)))) + y21)) x1)))] _ rfl ⟨⟨trivial, rfl⟩, ⟨trivial, rfl⟩, ⟨trivial, rfl⟩, ⟨trivial, rfl⟩, ⟨trivial, rfl⟩, ⟨trivial, rfl⟩, g24, ⟨rfl, trivial⟩, rfl⟩ (JO.done rfl ?_)
    cases h
    exact JS.retX ttOk () trivial rfl rfl [0] rfl

def M_s_l02Rune (x0 : List UInt8 × Int × Int) : Option (Int × List UInt8 × Int × Int) :=
  (bindO (M_s_l01Below x0 12) fun (y7, y8) =>
  (bif (decide (y7 < 9)) then
  (bindO (M_s_l01Below (x0.1, y8.2.1, y8.2.2) 16) fun (y11, y12) =>
  (guardO (0 ≤ y11 ∧ y11 < (([97, 98, 99, 120, 49, 50, 32, 32, 46, 45, 95, 233, 4352, 20013, 128512, 47] : List Int).length : Int)) <|
  some ((at' ([97, 98, 99, 120, 49, 50, 32, 32, 46, 45, 95, 233, 4352, 20013, 128512, 47] : List Int) y11), (x0.1, y12.2.1, y12.2.2))))
  else
  (bif (decide (y7 = 9)) then
  (bindO (M_s_l01Below (x0.1, y8.2.1, y8.2.2) 94) fun (y16, y17) =>
  some ((W (33 + y16)), (x0.1, y17.2.1, y17.2.2)))
  else
  (bif (decide (y7 = 10)) then
  (bindO (M_s_l01Below (x0.1, y8.2.1, y8.2.2) 300) fun (y19, y20) =>
  some ((W (160 + y19)), (x0.1, y20.2.1, y20.2.2)))
  else
  (bindO (M_s_l01Below (x0.1, y8.2.1, y8.2.2) 2000) fun (y22, y23) =>
  some ((W (19968 + y22)), (x0.1, y23.2.1, y23.2.2)))))))

theorem ok_s_l02Rune (x0 : List UInt8 × Int × Int) (a2 : Option Addr) (a3 : Option Addr) (c4 : Nat) (l5 : Nat) (hl6 : x0.1.length = l5) (r : Int × List UInt8 × Int × Int) (h : M_s_l02Rune x0 = some r) :
    FX Tryz.prog 172 [.pointer a2] [⟨.byte, ⟨a3, l5, c4⟩, x0.1⟩] [⟨(.pair .val (.pair (.int .i64) (.int .i64))), ⟨a2, 1, 1⟩, [((Sl.v ⟨a3, l5, c4⟩), x0.2.1, x0.2.2)]⟩] (fun _ : Unit => True) (fun _ => .int .i64 r.1) (fun _ => [⟨(.pair .val (.pair (.int .i64) (.int .i64))), ⟨a2, 1, 1⟩, [((Sl.v ⟨a3, l5, c4⟩), r.2.2.1, r.2.2.2)]⟩]) :=
  by
    subst hl6
    refine FX.of (T := TTx) Tryz.call172 Tryz.func172 rfl rfl fun w0 L0 => ?_
    unfold M_s_l02Rune at h
    refine JS.ptr 0 a2 rfl ?_
    refine JS.rg0 ttOk 1 [] ⟨trivial, rfl⟩ rfl rfl (JS.seq (JS.region (JO.reg ttOk 1 [] [] [(4, .ep ⟨a2, 1, 1⟩ 0)] _ rfl ⟨⟨rfl, trivial⟩, rfl⟩ ?_)))
    obtain ⟨⟨y7, y8⟩, hy9, h⟩ := bindO_some h
    refine JO.callX rfl rfl rfl rfl (ok_s_l01Below x0 12 a2 a3 c4 x0.1.length rfl _ hy9) rfl [0] rfl [0] rfl rfl fun _ _ => JO.reg ttOk 1 [] [] [(3, .v (.int .i64 y7))] _ rfl ⟨⟨rfl, trivial⟩, rfl⟩ (JO.done rfl (JS.seq (JS.rg0 ttOk 2 [(7, .v (.bool (decide (y7 < 9))))] ⟨⟨rfl, trivial⟩, rfl⟩ rfl rfl ?_)))
    refine JS.cond rfl (fun ht31 => ?_) (fun ht31 => ?_)
    · have h := condT h ht31
      refine JS.seq (JS.region ?_)
      refine JO.ofK rfl (JK.buildSlice ttOk rfl rfl rfl rfl rfl rfl rfl rfl rfl rfl rfl [] rfl (.int .i64) [97, 98, 99, 120, 49, 50, 32, 32, 46, 45, 95, 233, 4352, 20013, 128512, 47] ⟨rfl, rfl⟩ rfl rfl fun a10 => JO.toK ?_)
      refine JO.reg ttOk 1 [] [] [(9, .ep ⟨a2, 1, 1⟩ 0)] _ rfl ⟨⟨rfl, trivial⟩, rfl⟩ ?_
      obtain ⟨⟨y11, y12⟩, hy13, h⟩ := bindO_some h
      refine JO.callX rfl rfl rfl rfl (ok_s_l01Below (x0.1, y8.2.1, y8.2.2) 16 a2 a3 c4 x0.1.length rfl _ hy13) rfl [1] rfl [0] rfl rfl fun _ _ => JO.know 2 rfl fun hs28 => ?_
      obtain ⟨g15, h⟩ := guardO_some h
      refine JO.reg ttOk 1 [] [] [(11, .ep ⟨a10, ([97, 98, 99, 120, 49, 50, 32, 32, 46, 45, 95, 233, 4352, 20013, 128512, 47] : List Int).length, ([97, 98, 99, 120, 49, 50, 32, 32, 46, 45, 95, 233, 4352, 20013, 128512, 47] : List Int).length⟩ (Int.toNat y11 * 1))] _ rfl ⟨hs28.ix g15, ⟨rfl, trivial⟩, rfl⟩ (JO.load ttOk rfl rfl rfl rfl rfl rfl rfl 2 rfl rfl (Int.toNat y11) 0 (at' ([97, 98, 99, 120, 49, 50, 32, 32, 46, 45, 95, 233, 4352, 20013, 128512, 47] : List Int) y11) ⟨at_some g15, rfl⟩ rfl rfl (JO.reg ttOk 1 [] [] [(2, .v (.int .i64 (at' ([97, 98, 99, 120, 49, 50, 32, 32, 46, 45, 95, 233, 4352, 20013, 128512, 47] : List Int) y11)))] _ rfl ⟨⟨rfl, trivial⟩, rfl⟩ (JO.done rfl ?_)))
      cases h
      exact JS.retX ttOk () trivial rfl rfl [0] rfl
    have h := condF h ht31
    refine JS.skip (JS.seq (JS.rg0 ttOk 2 [(14, .v (.bool (decide (y7 = 9))))] ⟨⟨rfl, trivial⟩, rfl⟩ rfl rfl ?_))
    refine JS.cond rfl (fun ht30 => ?_) (fun ht30 => ?_)
    · have h := condT h ht30
      refine JS.seq (JS.region (JO.reg ttOk 1 [] [] [(15, .ep ⟨a2, 1, 1⟩ 0)] _ rfl ⟨⟨rfl, trivial⟩, rfl⟩ ?_))
      obtain ⟨⟨y16, y17⟩, hy18, h⟩ := bindO_some h
      refine JO.callX rfl rfl rfl rfl (ok_s_l01Below (x0.1, y8.2.1, y8.2.2) 94 a2 a3 c4 x0.1.length rfl _ hy18) rfl [0] rfl [0] rfl rfl fun _ _ => JO.reg ttOk 2 [(W (33 + y16))] [] [(2, .v (.int .i64 (W (33 + y16))))] _ rfl ⟨⟨trivial, rfl⟩, ⟨rfl, trivial⟩, rfl⟩ (JO.done rfl ?_)
      cases h
      exact JS.retX ttOk () trivial rfl rfl [0] rfl
    have h := condF h ht30
    refine JS.skip (JS.seq (JS.rg0 ttOk 2 [(19, .v (.bool (decide (y7 = 10))))] ⟨⟨rfl, trivial⟩, rfl⟩ rfl rfl ?_))
    refine JS.cond rfl (fun ht29 => ?_) (fun ht29 => ?_)
    · have h := condT h ht29
      refine JS.seq (JS.region (JO.reg ttOk 1 [] [] [(20, .ep ⟨a2, 1, 1⟩ 0)] _ rfl ⟨⟨rfl, trivial⟩, rfl⟩ ?_))
      obtain ⟨⟨y19, y20⟩, hy21, h⟩ := bindO_some h
      refine JO.callX rfl rfl rfl rfl (ok_s_l01Below (x0.1, y8.2.1, y8.2.2) 300 a2 a3 c4 x0.1.length rfl _ hy21) rfl [0] rfl [0] rfl rfl fun _ _ => JO.reg ttOk 2 [(W (160 + y19))] [] [(2, .v (.int .i64 (W (160 + y19))))] _ rfl ⟨⟨trivial, rfl⟩, ⟨rfl, trivial⟩, rfl⟩ (JO.done rfl ?_)
      cases h
      exact JS.retX ttOk () trivial rfl rfl [0] rfl
    have h := condF h ht29
    refine JS.skip (JS.seq (JS.region (JO.reg ttOk 1 [] [] [(23, .ep ⟨a2, 1, 1⟩ 0)] _ rfl ⟨⟨rfl, trivial⟩, rfl⟩ ?_)))
    obtain ⟨⟨y22, y23⟩, hy24, h⟩ := bindO_some h
    refine JO.callX rfl rfl rfl rfl (ok_s_l01Below (x0.1, y8.2.1, y8.2.2) 2000 a2 a3 c4 x0.1.length rfl _ hy24) rfl [0] rfl [0] rfl rfl fun _ _ => JO.reg ttOk 2 [(W (19968 + y22))] [] [(2, .v (.int .i64 (W (19968 + y22))))] _ rfl ⟨⟨trivial, rfl⟩, ⟨rfl, trivial⟩, rfl⟩ (JO.done rfl ?_)
    cases h
    exact JS.retX ttOk () trivial rfl rfl [0] rfl

def M_s_l02Runes_L1 (x0 : List UInt8 × Int × Int) (j38 : (List Int × Int × Int) → Option (List Int × List UInt8 × Int × Int)) (k30 : (List Int × Int × Int × Int) → Option (List Int × List UInt8 × Int × Int)) : (List Int × Int × Int × Int) → Option (List Int × List UInt8 × Int × Int) := fun (x12, x15, x19, x20) =>
  (bif (decide (0 < x15)) then
  (bindO (M_s_l02Rune (x0.1, x19, x20)) fun (y21, y22) =>
  (guardO (x12.length + ([y21] : List Int).length ≤ 536870912) <|
  k30 ((x12 ++ ([y21] : List Int)), (W (x15 - 1)), y22.2.1, y22.2.2)))
  else
  j38 (x12, x19, x20))

def M_s_l02Runes (x0 : List UInt8 × Int × Int) (x1 : Int) : Option (List Int × List UInt8 × Int × Int) :=
  (bindO (M_s_l01Below x0 (W (x1 + 1))) fun (y9, y10) =>
  (joinO (fun ((x33, x36, x37) : List Int × Int × Int) =>
  some (x33, (x0.1, x36, x37))) fun j38 =>
  (fixF (M_s_l02Runes_L1 x0 j38) FUEL (([] : List Int), y9, y10.2.1, y10.2.2))))

theorem ok_s_l02Runes (x0 : List UInt8 × Int × Int) (x1 : Int) (a3 : Option Addr) (a4 : Option Addr) (c5 : Nat) (l6 : Nat) (hl7 : x0.1.length = l6) (r : List Int × List UInt8 × Int × Int) (h : M_s_l02Runes x0 x1 = some r) :
    FX Tryz.prog 90 [.pointer a3, .int .i64 x1] [⟨.byte, ⟨a4, l6, c5⟩, x0.1⟩] [⟨(.pair .val (.pair (.int .i64) (.int .i64))), ⟨a3, 1, 1⟩, [((Sl.v ⟨a4, l6, c5⟩), x0.2.1, x0.2.2)]⟩] (fun _ : Option Addr × Nat => True) (fun q => .slice q.1 r.1.length q.2) (fun q => [⟨(.pair .val (.pair (.int .i64) (.int .i64))), ⟨a3, 1, 1⟩, [((Sl.v ⟨a4, l6, c5⟩), r.2.2.1, r.2.2.2)]⟩, ⟨(.int .i64), ⟨q.1, r.1.length, q.2⟩, r.1⟩]) :=
  by
    subst hl7
    refine FX.of (T := TTx) Tryz.call90 Tryz.func90 rfl rfl fun w0 L0 => ?_
    unfold M_s_l02Runes at h
    refine JS.ptr 0 a3 rfl ?_
    refine JS.rg0 ttOk 1 [] ⟨trivial, rfl⟩ rfl rfl (JS.seq (JS.region ?_))
    refine JO.ofK rfl (JK.buildSlice ttOk rfl rfl rfl rfl rfl rfl rfl rfl rfl rfl rfl [] rfl (.int .i64) [] ⟨rfl, rfl⟩ rfl rfl fun a8 => JO.toK ?_)
    refine JO.reg ttOk 1 [] [] [(5, .v (.slice a8 ([] : List Int).length ([] : List Int).length))] _ rfl ⟨⟨rfl, trivial⟩, rfl⟩ (JO.done rfl (JS.seq (JS.seq (JS.region (JO.reg ttOk 3 [(W (x1 + 1))] [] [(8, .ep ⟨a3, 1, 1⟩ 0), (10, .v (.int .i64 (W (x1 + 1))))] _ rfl ⟨⟨trivial, rfl⟩, (Es rfl), rfl⟩ ?_)))))
    obtain ⟨⟨y9, y10⟩, hy11, h⟩ := bindO_some h
    refine JO.callX rfl rfl rfl rfl (ok_s_l01Below x0 (W (x1 + 1)) a3 a4 c5 x0.1.length rfl _ hy11) rfl [1] rfl [0] rfl rfl fun _ _ => JO.reg ttOk 1 [] [] [(6, .v (.int .i64 y9))] _ rfl ⟨⟨rfl, trivial⟩, rfl⟩ (JO.done rfl ?_)
    obtain ⟨j38, hj42, h⟩ := joinO_some h
    refine JS.blockJ (ι := List Int × Int × Int × Option Addr × Nat) ⟨fun z => j38 (z.1, z.2.1, z.2.2.1) = some r, fun z => [(5, .v (.slice z.2.2.2.1 z.1.length z.2.2.2.2))], fun z => .nil, fun z => [⟨.byte, ⟨a4, x0.1.length, c5⟩, x0.1⟩], fun z => [⟨(.int .i64), ⟨z.2.2.2.1, z.1.length, z.2.2.2.2⟩, z.1⟩, ⟨(.pair .val (.pair (.int .i64) (.int .i64))), ⟨a3, 1, 1⟩, [((Sl.v ⟨a4, x0.1.length, c5⟩), z.2.1, z.2.2.1)]⟩], fun z => 0⟩ ?_ ?_
    · refine JS.loop (ι := Nat × List Int × Int × Int × Int × Option Addr × Nat) ⟨fun z => fixF (M_s_l02Runes_L1 x0 j38) z.1 (z.2.1, z.2.2.1, z.2.2.2.1, z.2.2.2.2.1) = some r, fun z => [(0, .ep ⟨a3, 1, 1⟩ 0), (5, .v (.slice z.2.2.2.2.2.1 z.2.1.length z.2.2.2.2.2.2)), (6, .v (.int .i64 z.2.2.1))], fun z => .nil, fun z => [⟨.byte, ⟨a4, x0.1.length, c5⟩, x0.1⟩], fun z => [⟨(.int .i64), ⟨z.2.2.2.2.2.1, z.2.1.length, z.2.2.2.2.2.2⟩, z.2.1⟩, ⟨(.pair .val (.pair (.int .i64) (.int .i64))), ⟨a3, 1, 1⟩, [((Sl.v ⟨a4, x0.1.length, c5⟩), z.2.2.2.1, z.2.2.2.2.1)]⟩], fun z => z.1⟩ (FUEL, ([] : List Int), y9, y10.2.1, y10.2.2, a8, ([] : List Int).length) h (Es rfl) trivial [0] rfl [1, 0] rfl ?_
      rintro ⟨n31, x12, x15, x19, x20, a13, c14⟩ h
      obtain ⟨n31, rfl, h⟩ := fixF_some h
      rw [M_s_l02Runes_L1] at h
      refine JS.seq (JS.rg0 ttOk 2 [(13, .v (.bool (decide (0 < x15))))] ⟨⟨rfl, trivial⟩, rfl⟩ rfl rfl ?_)
      refine JS.cond rfl (fun ht41 => ?_) (fun ht41 => ?_)
      · have h := condT h ht41
        refine JS.skip (JS.seq (JS.block (JS.region (JO.reg ttOk 2 [] [] [(16, .v (.slice a13 x12.length c14)), (17, .ep ⟨a3, 1, 1⟩ 0)] _ rfl ⟨(Es rfl), rfl⟩ ?_))))
        obtain ⟨⟨y21, y22⟩, hy23, h⟩ := bindO_some h
        refine JO.callX rfl rfl rfl rfl (ok_s_l02Rune (x0.1, x19, x20) a3 a4 c5 x0.1.length rfl _ hy23) rfl [1] rfl [0] rfl rfl fun _ _ => ?_
        refine JO.ofK rfl (JK.buildSlice ttOk rfl rfl rfl rfl rfl rfl rfl rfl rfl rfl rfl [] rfl (.int .i64) [y21] ⟨rfl, rfl⟩ rfl rfl fun a24 => JO.toK ?_)
        obtain ⟨g25, h⟩ := guardO_some h
        refine JO.appendR' ttOk rfl rfl rfl rfl ⟨rfl, rfl, rfl, rfl, trivial, rfl, rfl, rfl, rfl⟩ rfl rfl rfl [2] rfl 1 rfl g25 rfl fun a26 c27 => JO.reg ttOk 1 [] [] [(5, .v (.slice a26 (x12 ++ ([y21] : List Int)).length c27))] _ rfl ⟨⟨rfl, trivial⟩, rfl⟩ (JO.done rfl (JS.endB (JS.re ttOk 3 [(W (x15 - 1))] [] [(6, .v (.int .i64 (W (x15 - 1))))] _ ⟨⟨trivial, rfl⟩, ⟨rfl, trivial⟩, rfl⟩ rfl rfl (JS.endL (n31, (x12 ++ ([y21] : List Int)), (W (x15 - 1)), y22.2.1, y22.2.2, a26, c27) h (Nat.lt_succ_self _) (Es rfl) trivial [0] rfl [0, 1] rfl))))
      have h := condF h ht41
      refine JS.exit rfl (JS.endJ (x12, x19, x20, a13, c14) h ⟨rfl, trivial⟩ trivial [0] rfl [0, 0] rfl)
    rintro ⟨x33, x36, x37, a34, c35⟩ h
    subst hj42
    refine JS.rg0 ttOk 2 [(4, .v (.slice a34 x33.length c35))] ⟨⟨rfl, trivial⟩, rfl⟩ rfl rfl ?_
    cases h
    exact JS.retX ttOk (a34, c35) trivial rfl rfl [1, 0] rfl

def M_s_MakeRunes (x0 : List UInt8) : Option (List Int) :=
  (bindO (M_s_l01New x0) fun (y6 : List UInt8 × Int × Int) =>
  (bindO (M_s_l02Runes (x0, y6.2.1, y6.2.2) 20) fun (y9, y10) =>
  some y9))

theorem ok_s_MakeRunes (x0 : List UInt8) (a2 : Option Addr) (c3 : Nat) (l4 : Nat) (hl5 : x0.length = l4) (r : List Int) (h : M_s_MakeRunes x0 = some r) :
    FC Tryz.prog 29 [.slice a2 l4 c3] [⟨.byte, ⟨a2, l4, c3⟩, x0⟩] (fun _ : Option Addr × Nat => True) (fun q => .slice q.1 r.length q.2) (fun q => [⟨(.int .i64), ⟨q.1, r.length, q.2⟩, r⟩]) :=
  by
    subst hl5
    refine FC.of (T := TTx) Tryz.call29 Tryz.func29 rfl rfl fun w0 => ?_
    unfold M_s_MakeRunes at h
    refine JS.rg0 ttOk 1 [] ⟨trivial, rfl⟩ rfl rfl (JS.seq (JS.region (JO.reg ttOk 1 [] [] [(5, .v (.slice a2 x0.length c3))] _ rfl ⟨⟨rfl, trivial⟩, rfl⟩ ?_)))
    obtain ⟨y6, hy7, h⟩ := bindO_some h
    refine JO.call rfl rfl rfl rfl (ok_s_l01New x0 a2 c3 x0.length rfl _ hy7) rfl [0] rfl rfl fun a8 _ => JO.ptr 6 a8 rfl (JO.reg ttOk 1 [] [] [(3, .ep ⟨a8, 1, 1⟩ 0)] _ rfl ⟨⟨rfl, trivial⟩, rfl⟩ (JO.done rfl (JS.seq (JS.region (JO.reg ttOk 1 [] [] [(7, .ep ⟨a8, 1, 1⟩ 0)] _ rfl ⟨⟨rfl, trivial⟩, rfl⟩ ?_)))))
    obtain ⟨⟨y9, y10⟩, hy11, h⟩ := bindO_some h
    refine JO.callX rfl rfl rfl rfl (ok_s_l02Runes (x0, y6.2.1, y6.2.2) 20 a8 a2 c3 x0.length rfl _ hy11) rfl [0] rfl [0] rfl rfl ?_
    rintro ⟨a12, c13⟩ -
    refine JO.reg ttOk 1 [] [] [(4, .v (.slice a12 y9.length c13))] _ rfl ⟨⟨rfl, trivial⟩, rfl⟩ (JO.done rfl (JS.rg0 ttOk 2 [(2, .v (.slice a12 y9.length c13))] ⟨⟨rfl, trivial⟩, rfl⟩ rfl rfl ?_))
    cases h
    exact JS.ret ttOk (a12, c13) trivial rfl rfl [1] rfl

def M_s_EdNew (x0 : Bool) : Option (Bool × Int × (List Int × Int) × Int × Int × Int × Int × Int × Int × Int × List (List Int) × (List (List Int × Int)) × Int × (List Int × Int) × List Int × Int × List Int × Int) :=
  (bif x0 then
  some (true, 1, ([], 0), 0, 0, 0, 0, 0, 0, 0, [], [], 0, ([], 0), [], 0, ([], 0))
  else
  some (false, 0, ([], 0), 0, 0, 0, 0, 0, 0, 0, [], [], 0, ([], 0), [], 0, ([], 0)))

theorem ok_s_EdNew (x0 : Bool) (r : Bool × Int × (List Int × Int) × Int × Int × Int × Int × Int × Int × Int × List (List Int) × (List (List Int × Int)) × Int × (List Int × Int) × List Int × Int × List Int × Int) (h : M_s_EdNew x0 = some r) :
    FC Tryz.prog 91 [.bool x0] [] (fun _ : Unit => True) (fun _ => .agg (cl46 (r.1, r.2.1, ([], r.2.2.1.2), r.2.2.2.1, r.2.2.2.2.1, r.2.2.2.2.2.1, r.2.2.2.2.2.2.1, r.2.2.2.2.2.2.2.1, r.2.2.2.2.2.2.2.2.1, r.2.2.2.2.2.2.2.2.2.1, [], [], r.2.2.2.2.2.2.2.2.2.2.2.2.1, ([], r.2.2.2.2.2.2.2.2.2.2.2.2.2.1.2), [], r.2.2.2.2.2.2.2.2.2.2.2.2.2.2.2.1, ([], r.2.2.2.2.2.2.2.2.2.2.2.2.2.2.2.2.2)) none 0 none 0 none 0 none 0 none 0 none 0).toArray) (fun _ => []) :=
  by
    refine FC.of (T := TTx) Tryz.call91 Tryz.func91 rfl rfl fun w0 => ?_
    unfold M_s_EdNew at h
    refine JS.rgB ttOk 1 [] [1] [(2, .bp 1 0)] (.new 1 46 (cl46 (false, 0, ([], 0), 0, 0, 0, 0, 0, 0, 0, [], [], 0, ([], 0), [], 0, ([], 0)) none 0 none 0 none 0 none 0 none 0 none 0) .nil) ⟨⟨rfl, trivial⟩, (Bs rfl rfl)⟩ rfl rfl (JS.seq (JS.rg0 ttOk 1 [(3, .v (.bool x0))] ⟨⟨rfl, trivial⟩, rfl⟩ rfl rfl ?_))
    refine JS.cond rfl (fun ht3 => ?_) (fun ht3 => ?_)
    · have h := condT h ht3
      refine JS.rgB ttOk 2 [] [] [] (.new 1 46 (cl46 (true, 1, ([], 0), 0, 0, 0, 0, 0, 0, 0, [], [], 0, ([], 0), [], 0, ([], 0)) none 0 none 0 none 0 none 0 none 0 none 0) .nil) ⟨trivial, (Bs rfl rfl)⟩ rfl rfl ?_
      cases h
      exact JS.ret ttOk () trivial rfl rfl [] rfl
    have h := condF h ht3
    refine JS.skip (JS.rgB ttOk 2 [] [] [] (.new 1 46 (cl46 (false, 0, ([], 0), 0, 0, 0, 0, 0, 0, 0, [], [], 0, ([], 0), [], 0, ([], 0)) none 0 none 0 none 0 none 0 none 0 none 0) .nil) ⟨trivial, (Bs rfl rfl)⟩ rfl rfl ?_)
    cases h
    exact JS.ret ttOk () trivial rfl rfl [] rfl

def M_s_l13Runes_L1 (x0 : List UInt8 × Int × Int) (y8 : List Int) (j106 : (List Int × Int × Int) → Option (List Int × List UInt8 × Int × Int)) (k89 : (List Int × Int × Int × Int) → Option (List Int × List UInt8 × Int × Int)) : (List Int × Int × Int × Int) → Option (List Int × List UInt8 × Int × Int) := fun (x13, x16, x20, x21) =>
  (bif (decide (x16 < (y8.length : Int))) then
  (joinO (fun ((x51, x54, x55) : List Int × Int × Int) =>
  k89 (x51, (W (x16 + 1)), x54, x55)) fun j56 =>
  (bindO (M_s_l01Below (x0.1, x20, x21) 14) fun (y22, y23) =>
  (joinO (fun (x28 : List Int) =>
  (joinO (fun (x37 : List Int) =>
  (bif (decide (y22 = 2)) then
  (bindO (M_s_l01Below (x0.1, y23.2.1, y23.2.2) 26) fun (y43, y44) =>
  (guardO (0 ≤ x16 ∧ x16 < (x37.length : Int)) <|
  j56 ((List.set x37 (Int.toNat x16) (W (65 + y43))), y44.2.1, y44.2.2)))
  else
  j56 (x37, y23.2.1, y23.2.2))) fun j40 =>
  (bif (decide (y22 = 1)) then
  (guardO (0 ≤ x16 ∧ x16 < (x28.length : Int)) <|
  j40 (List.set x28 (Int.toNat x16) 10))
  else
  j40 x28))) fun j31 =>
  (bif (decide (y22 = 0)) then
  (guardO (0 ≤ x16 ∧ x16 < (x13.length : Int)) <|
  j31 (List.set x13 (Int.toNat x16) 9))
  else
  j31 x13))))
  else
  j106 (x13, x20, x21))

def M_s_l13Runes (x0 : List UInt8 × Int × Int) (x1 : Int) : Option (List Int × List UInt8 × Int × Int) :=
  (bindO (M_s_l02Runes x0 x1) fun (y8, y9) =>
  (joinO (fun ((x101, x104, x105) : List Int × Int × Int) =>
  some (x101, (x0.1, x104, x105))) fun j106 =>
  (fixF (M_s_l13Runes_L1 x0 y8 j106) FUEL (y8, 0, y9.2.1, y9.2.2))))

theorem ok_s_l13Runes (x0 : List UInt8 × Int × Int) (x1 : Int) (a3 : Option Addr) (a4 : Option Addr) (c5 : Nat) (l6 : Nat) (hl7 : x0.1.length = l6) (r : List Int × List UInt8 × Int × Int) (h : M_s_l13Runes x0 x1 = some r) :
    FX Tryz.prog 173 [.pointer a3, .int .i64 x1] [⟨.byte, ⟨a4, l6, c5⟩, x0.1⟩] [⟨(.pair .val (.pair (.int .i64) (.int .i64))), ⟨a3, 1, 1⟩, [((Sl.v ⟨a4, l6, c5⟩), x0.2.1, x0.2.2)]⟩] (fun _ : Option Addr × Nat => True) (fun q => .slice q.1 r.1.length q.2) (fun q => [⟨(.pair .val (.pair (.int .i64) (.int .i64))), ⟨a3, 1, 1⟩, [((Sl.v ⟨a4, l6, c5⟩), r.2.2.1, r.2.2.2)]⟩, ⟨(.int .i64), ⟨q.1, r.1.length, q.2⟩, r.1⟩]) :=
  by
    subst hl7
    refine FX.of (T := TTx) Tryz.call173 Tryz.func173 rfl rfl fun w0 L0 => ?_
    unfold M_s_l13Runes at h
    refine JS.ptr 0 a3 rfl ?_
    refine JS.rg0 ttOk 1 [] ⟨trivial, rfl⟩ rfl rfl (JS.seq (JS.region (JO.reg ttOk 2 [] [] [(8, .ep ⟨a3, 1, 1⟩ 0), (9, .v (.int .i64 x1))] _ rfl ⟨(Es rfl), rfl⟩ ?_)))
    obtain ⟨⟨y8, y9⟩, hy10, h⟩ := bindO_some h
    refine JO.callX rfl rfl rfl rfl (ok_s_l02Runes x0 x1 a3 a4 c5 x0.1.length rfl _ hy10) rfl [0] rfl [0] rfl rfl ?_
    rintro ⟨a11, c12⟩ -
    refine JO.reg ttOk 1 [] [] [(5, .v (.slice a11 y8.length c12))] _ rfl ⟨⟨rfl, trivial⟩, rfl⟩ (JO.done rfl (JS.seq (JS.rg0 ttOk 3 [(12, .v (.int .i64 (y8.length : Int))), (13, .v (.int .i64 0))] ⟨(Es rfl), rfl⟩ rfl rfl ?_)))
    obtain ⟨j106, hj128, h⟩ := joinO_some h
    refine JS.blockJ (ι := List Int × Int × Int × Option Addr × Nat) ⟨fun z => j106 (z.1, z.2.1, z.2.2.1) = some r, fun z => [(5, .v (.slice z.2.2.2.1 z.1.length z.2.2.2.2))], fun z => .nil, fun z => [⟨.byte, ⟨a4, x0.1.length, c5⟩, x0.1⟩], fun z => [⟨(.int .i64), ⟨z.2.2.2.1, z.1.length, z.2.2.2.2⟩, z.1⟩, ⟨(.pair .val (.pair (.int .i64) (.int .i64))), ⟨a3, 1, 1⟩, [((Sl.v ⟨a4, x0.1.length, c5⟩), z.2.1, z.2.2.1)]⟩], fun z => 0⟩ ?_ ?_
    · refine JS.loop (ι := Nat × List Int × Int × Int × Int × Option Addr × Nat) ⟨fun z => fixF (M_s_l13Runes_L1 x0 y8 j106) z.1 (z.2.1, z.2.2.1, z.2.2.2.1, z.2.2.2.2.1) = some r, fun z => [(0, .ep ⟨a3, 1, 1⟩ 0), (5, .v (.slice z.2.2.2.2.2.1 z.2.1.length z.2.2.2.2.2.2)), (12, .v (.int .i64 (y8.length : Int))), (13, .v (.int .i64 z.2.2.1))], fun z => .nil, fun z => [⟨.byte, ⟨a4, x0.1.length, c5⟩, x0.1⟩], fun z => [⟨(.int .i64), ⟨z.2.2.2.2.2.1, z.2.1.length, z.2.2.2.2.2.2⟩, z.2.1⟩, ⟨(.pair .val (.pair (.int .i64) (.int .i64))), ⟨a3, 1, 1⟩, [((Sl.v ⟨a4, x0.1.length, c5⟩), z.2.2.2.1, z.2.2.2.2.1)]⟩], fun z => z.1⟩ (FUEL, y8, 0, y9.2.1, y9.2.2, a11, c12) h (Es rfl) trivial [0] rfl [1, 0] rfl ?_
      rintro ⟨n90, x13, x16, x20, x21, a14, c15⟩ h
      obtain ⟨n90, rfl, h⟩ := fixF_some h
      rw [M_s_l13Runes_L1] at h
      refine JS.rg0 ttOk 1 [(14, .v (.bool (decide (x16 < (y8.length : Int)))))] ⟨⟨rfl, trivial⟩, rfl⟩ rfl rfl (JS.seq ?_)
      refine JS.cond rfl (fun ht127 => ?_) (fun ht127 => ?_)
      · have h := condT h ht127
        refine JS.skip (JS.seq ?_)
        obtain ⟨j56, hj126, h⟩ := joinO_some h
        refine JS.blockJ (ι := List Int × Int × Int × Option Addr × Nat) ⟨fun z => j56 (z.1, z.2.1, z.2.2.1) = some r, fun z => [(0, .ep ⟨a3, 1, 1⟩ 0), (5, .v (.slice z.2.2.2.1 z.1.length z.2.2.2.2)), (12, .v (.int .i64 (y8.length : Int))), (13, .v (.int .i64 x16))], fun z => .nil, fun z => [⟨.byte, ⟨a4, x0.1.length, c5⟩, x0.1⟩], fun z => [⟨(.int .i64), ⟨z.2.2.2.1, z.1.length, z.2.2.2.2⟩, z.1⟩, ⟨(.pair .val (.pair (.int .i64) (.int .i64))), ⟨a3, 1, 1⟩, [((Sl.v ⟨a4, x0.1.length, c5⟩), z.2.1, z.2.2.1)]⟩], fun z => 0⟩ ?_ ?_
        · refine JS.rg0 ttOk 2 [(6, .v (.int .i64 x16))] ⟨⟨rfl, trivial⟩, rfl⟩ rfl rfl (JS.seq (JS.region (JO.reg ttOk 1 [] [] [(16, .ep ⟨a3, 1, 1⟩ 0)] _ rfl ⟨⟨rfl, trivial⟩, rfl⟩ ?_)))
          obtain ⟨⟨y22, y23⟩, hy24, h⟩ := bindO_some h
          refine JO.callX rfl rfl rfl rfl (ok_s_l01Below (x0.1, x20, x21) 14 a3 a4 c5 x0.1.length rfl _ hy24) rfl [1] rfl [0] rfl rfl fun _ _ => JO.reg ttOk 1 [] [] [(7, .v (.int .i64 y22))] _ rfl ⟨⟨rfl, trivial⟩, rfl⟩ (JO.done rfl ?_)
          obtain ⟨j31, hj125, h⟩ := joinO_some h
          refine JS.seqJ (ι := List Int × Option Addr × Nat) ⟨fun z => j31 z.1 = some r, fun z => [(0, .ep ⟨a3, 1, 1⟩ 0), (5, .v (.slice z.2.1 z.1.length z.2.2)), (6, .v (.int .i64 x16)), (7, .v (.int .i64 y22)), (12, .v (.int .i64 (y8.length : Int))), (13, .v (.int .i64 x16))], fun z => .nil, fun z => [⟨.byte, ⟨a4, x0.1.length, c5⟩, x0.1⟩], fun z => [⟨(.int .i64), ⟨z.2.1, z.1.length, z.2.2⟩, z.1⟩, ⟨(.pair .val (.pair (.int .i64) (.int .i64))), ⟨a3, 1, 1⟩, [((Sl.v ⟨a4, x0.1.length, c5⟩), y23.2.1, y23.2.2)]⟩], fun z => 0⟩ ?_ ?_
          · refine JS.rg0 ttOk 2 [(19, .v (.bool (decide (y22 = 0))))] ⟨⟨rfl, trivial⟩, rfl⟩ rfl rfl ?_
            refine JS.cond rfl (fun ht119 => ?_) (fun ht119 => ?_)
            · have h := condT h ht119
              refine JS.region (JO.know 2 rfl fun hs118 => ?_)
              obtain ⟨g26, h⟩ := guardO_some h
              refine JO.reg ttOk 3 [] [] [(22, .ep ⟨a14, x13.length, c15⟩ (Int.toNat x16 * 1))] _ rfl ⟨hs118.ix g26, ⟨rfl, trivial⟩, rfl⟩ (JO.storeE ttOk rfl rfl rfl rfl rfl rfl rfl rfl rfl [1] (fs := []) rfl (Int.toNat x16) 0 (at' x13 x16) 9 ⟨at_some g26, rfl⟩ ⟨rfl, rfl, rfl⟩ (JO.done rfl (JS.endJ ((List.set x13 (Int.toNat x16) 9), a14, c15) h ⟨rfl, (by simp only [List.length_set, List.length_replicate, pickO, getF, cl46]; rfl), rfl, rfl, rfl, rfl, trivial⟩ trivial [0] rfl [0, 0] (by simp only [List.length_set, List.length_replicate, pickO, getF, cl46]; rfl))))
            have h := condF h ht119
            refine JS.skip (JS.endJ (x13, a14, c15) h (Es rfl) trivial [0] rfl [1, 0] rfl)
          rintro ⟨x28, a29, c30⟩ h
          subst hj125
          obtain ⟨j40, hj124, h⟩ := joinO_some h
          refine JS.seqJ (ι := List Int × Option Addr × Nat) ⟨fun z => j40 z.1 = some r, fun z => [(0, .ep ⟨a3, 1, 1⟩ 0), (5, .v (.slice z.2.1 z.1.length z.2.2)), (6, .v (.int .i64 x16)), (7, .v (.int .i64 y22)), (12, .v (.int .i64 (y8.length : Int))), (13, .v (.int .i64 x16))], fun z => .nil, fun z => [⟨.byte, ⟨a4, x0.1.length, c5⟩, x0.1⟩], fun z => [⟨(.int .i64), ⟨z.2.1, z.1.length, z.2.2⟩, z.1⟩, ⟨(.pair .val (.pair (.int .i64) (.int .i64))), ⟨a3, 1, 1⟩, [((Sl.v ⟨a4, x0.1.length, c5⟩), y23.2.1, y23.2.2)]⟩], fun z => 0⟩ ?_ ?_
          · refine JS.rg0 ttOk 2 [(24, .v (.bool (decide (y22 = 1))))] ⟨⟨rfl, trivial⟩, rfl⟩ rfl rfl ?_
            refine JS.cond rfl (fun ht121 => ?_) (fun ht121 => ?_)
            · have h := condT h ht121
              refine JS.region (JO.know 1 rfl fun hs120 => ?_)
              obtain ⟨g35, h⟩ := guardO_some h
              refine JO.reg ttOk 3 [] [] [(27, .ep ⟨a29, x28.length, c30⟩ (Int.toNat x16 * 1))] _ rfl ⟨hs120.ix g35, ⟨rfl, trivial⟩, rfl⟩ (JO.storeE ttOk rfl rfl rfl rfl rfl rfl rfl rfl rfl [0] (fs := []) rfl (Int.toNat x16) 0 (at' x28 x16) 10 ⟨at_some g35, rfl⟩ ⟨rfl, rfl, rfl⟩ (JO.done rfl (JS.endJ ((List.set x28 (Int.toNat x16) 10), a29, c30) h ⟨rfl, (by simp only [List.length_set, List.length_replicate, pickO, getF, cl46]; rfl), rfl, rfl, rfl, rfl, trivial⟩ trivial [0] rfl [0, 0] (by simp only [List.length_set, List.length_replicate, pickO, getF, cl46]; rfl))))
            have h := condF h ht121
            refine JS.skip (JS.endJ (x28, a29, c30) h (Es rfl) trivial [0] rfl [0, 0] rfl)
          rintro ⟨x37, a38, c39⟩ h
          subst hj124
          refine JS.rg0 ttOk 2 [(29, .v (.bool (decide (y22 = 2))))] ⟨⟨rfl, trivial⟩, rfl⟩ rfl rfl ?_
          refine JS.cond rfl (fun ht123 => ?_) (fun ht123 => ?_)
          · have h := condT h ht123
            refine JS.region (JO.reg ttOk 3 [] [] [(30, .v (.slice a38 x37.length c39)), (31, .v (.int .i64 x16)), (32, .ep ⟨a3, 1, 1⟩ 0)] _ rfl ⟨(Es rfl), rfl⟩ ?_)
            obtain ⟨⟨y43, y44⟩, hy45, h⟩ := bindO_some h
            refine JO.callX rfl rfl rfl rfl (ok_s_l01Below (x0.1, y23.2.1, y23.2.2) 26 a3 a4 c5 x0.1.length rfl _ hy45) rfl [1] rfl [0] rfl rfl fun _ _ => JO.know 2 rfl fun hs122 => ?_
            obtain ⟨g47, h⟩ := guardO_some h
            refine JO.reg ttOk 2 [(W (65 + y43))] [] [(34, .v (.int .i64 (W (65 + y43)))), (35, .ep ⟨a38, x37.length, c39⟩ (Int.toNat x16 * 1))] _ rfl ⟨⟨trivial, rfl⟩, hs122.ix g47, (Es rfl), rfl⟩ (JO.storeE ttOk rfl rfl rfl rfl rfl rfl rfl rfl rfl [1] (fs := []) rfl (Int.toNat x16) 0 (at' x37 x16) (W (65 + y43)) ⟨at_some g47, rfl⟩ ⟨rfl, rfl, rfl⟩ (JO.done rfl (JS.endB (JS.endJ ((List.set x37 (Int.toNat x16) (W (65 + y43))), y44.2.1, y44.2.2, a38, c39) h ⟨rfl, (by simp only [List.length_set, List.length_replicate, pickO, getF, cl46]; rfl), rfl, rfl, trivial⟩ trivial [0] rfl [0, 0] (by simp only [List.length_set, List.length_replicate, pickO, getF, cl46]; rfl)))))
          have h := condF h ht123
          refine JS.skip (JS.endB (JS.endJ (x37, y23.2.1, y23.2.2, a38, c39) h (Es rfl) trivial [0] rfl [0, 0] rfl))
        rintro ⟨x51, x54, x55, a52, c53⟩ h
        subst hj126
        refine JS.re ttOk 2 [(W (x16 + 1))] [] [(13, .v (.int .i64 (W (x16 + 1))))] _ ⟨⟨trivial, rfl⟩, ⟨rfl, trivial⟩, rfl⟩ rfl rfl (JS.endL (n90, x51, (W (x16 + 1)), x54, x55, a52, c53) h (Nat.lt_succ_self _) (Es rfl) trivial [0] rfl [0, 0] rfl)
      have h := condF h ht127
      refine JS.exit rfl (JS.endJ (x13, x20, x21, a14, c15) h ⟨rfl, trivial⟩ trivial [0] rfl [0, 0] rfl)
    rintro ⟨x101, x104, x105, a102, c103⟩ h
    subst hj128
    refine JS.rg0 ttOk 2 [(4, .v (.slice a102 x101.length c103))] ⟨⟨rfl, trivial⟩, rfl⟩ rfl rfl ?_
    cases h
    exact JS.retX ttOk (a102, c103) trivial rfl rfl [1, 0] rfl

def M_s_l13Draw (x0 : List UInt8 × Int × Int) : Option ((List Int × Int) × List UInt8 × Int × Int) :=
  (bindO (M_s_l13Runes x0 16) fun (y7, y8) =>
  (bindO (M_s_l01Below (x0.1, y8.2.1, y8.2.2) (W ((y7.length : Int) + 1))) fun (y12, y13) =>
  some ((y7, y12), (x0.1, y13.2.1, y13.2.2))))

theorem ok_s_l13Draw (x0 : List UInt8 × Int × Int) (a2 : Option Addr) (a3 : Option Addr) (c4 : Nat) (l5 : Nat) (hl6 : x0.1.length = l5) (r : (List Int × Int) × List UInt8 × Int × Int) (h : M_s_l13Draw x0 = some r) :
    FX Tryz.prog 92 [.pointer a2] [⟨.byte, ⟨a3, l5, c4⟩, x0.1⟩] [⟨(.pair .val (.pair (.int .i64) (.int .i64))), ⟨a2, 1, 1⟩, [((Sl.v ⟨a3, l5, c4⟩), x0.2.1, x0.2.2)]⟩] (fun _ : Option Addr × Nat => True) (fun q => .agg #[.slice q.1 r.1.1.length q.2, .int .i64 r.1.2]) (fun q => [⟨(.pair .val (.pair (.int .i64) (.int .i64))), ⟨a2, 1, 1⟩, [((Sl.v ⟨a3, l5, c4⟩), r.2.2.1, r.2.2.2)]⟩, ⟨(.int .i64), ⟨q.1, r.1.1.length, q.2⟩, r.1.1⟩]) :=
  by
    subst hl6
    refine FX.of (T := TTx) Tryz.call92 Tryz.func92 rfl rfl fun w0 L0 => ?_
    unfold M_s_l13Draw at h
    refine JS.ptr 0 a2 rfl ?_
    refine JS.rgB ttOk 1 [] [3] [(2, .bp 3 0)] (.new 3 38 [.slice none 0 0, .int .i64 0] .nil) ⟨⟨rfl, trivial⟩, (Bs rfl rfl)⟩ rfl rfl (JS.seq (JS.region (JO.reg ttOk 1 [] [] [(4, .ep ⟨a2, 1, 1⟩ 0)] _ rfl ⟨⟨rfl, trivial⟩, rfl⟩ ?_)))
    obtain ⟨⟨y7, y8⟩, hy9, h⟩ := bindO_some h
    refine JO.callX rfl rfl rfl rfl (ok_s_l13Runes x0 16 a2 a3 c4 x0.1.length rfl _ hy9) rfl [0] rfl [0] rfl rfl ?_
    rintro ⟨a10, c11⟩ -
    refine JO.reg ttOk 1 [] [] [(3, .v (.slice a10 y7.length c11))] _ rfl ⟨⟨rfl, trivial⟩, rfl⟩ (JO.done rfl (JS.seq (JS.region (JO.reg ttOk 5 [(W ((y7.length : Int) + 1))] [] [(6, .v (.slice a10 y7.length c11)), (7, .ep ⟨a2, 1, 1⟩ 0), (10, .v (.int .i64 (W ((y7.length : Int) + 1))))] _ rfl ⟨⟨trivial, rfl⟩, (Es rfl), rfl⟩ ?_))))
    obtain ⟨⟨y12, y13⟩, hy14, h⟩ := bindO_some h
    refine JO.callX rfl rfl rfl rfl (ok_s_l01Below (x0.1, y8.2.1, y8.2.2) (W ((y7.length : Int) + 1)) a2 a3 c4 x0.1.length rfl _ hy14) rfl [0] rfl [0] rfl rfl fun _ _ => JO.regB ttOk 2 [] [] [] (.new 3 38 [.slice a10 y7.length c11, .int .i64 y12] .nil) rfl ⟨trivial, (Bs rfl rfl)⟩ (JO.done rfl ?_)
    cases h
    exact JS.retX ttOk (a10, c11) trivial rfl rfl [0, 0] rfl

def M_s_RuneOk (x0 : Int) : Option Bool :=
  some (bif (bif (decide (0 ≤ x0)) then (decide (x0 ≤ 1114111)) else false) then (bif (decide (x0 < 55296)) then true else (decide (57343 < x0))) else false)

theorem ok_s_RuneOk (x0 : Int) (r : Bool) (h : M_s_RuneOk x0 = some r) :
    FC Tryz.prog 230 [.int .i64 x0] [] (fun _ : Unit => True) (fun _ => .bool r) (fun _ => []) :=
  by
    refine FC.of (T := TTx) Tryz.call230 Tryz.func230 rfl rfl fun w0 => ?_
    unfold M_s_RuneOk at h
    refine JS.rg0 ttOk 1 [] ⟨trivial, rfl⟩ rfl rfl (JS.rg0 ttOk 15 [(2, .v (.bool (bif (bif (decide (0 ≤ x0)) then (decide (x0 ≤ 1114111)) else false) then (bif (decide (x0 < 55296)) then true else (decide (57343 < x0))) else false)))] ⟨⟨rfl, trivial⟩, rfl⟩ rfl rfl ?_)
    cases h
    exact JS.ret ttOk () trivial rfl rfl [] rfl

def M_s_Printable (x0 : Int) : Option Bool :=
  (bindO (M_s_RuneOk x0) fun (y2 : Bool) =>
  some (bif (bif y2 then (decide (32 ≤ x0)) else false) then (bif (decide (x0 < 127)) then true else (decide (159 < x0))) else false))

theorem ok_s_Printable (x0 : Int) (r : Bool) (h : M_s_Printable x0 = some r) :
    FC Tryz.prog 132 [.int .i64 x0] [] (fun _ : Unit => True) (fun _ => .bool r) (fun _ => []) :=
  by
    refine FC.of (T := TTx) Tryz.call132 Tryz.func132 rfl rfl fun w0 => ?_
    unfold M_s_Printable at h
    refine JS.rg0 ttOk 1 [] ⟨trivial, rfl⟩ rfl rfl (JS.seq (JS.region (JO.reg ttOk 1 [] [] [(3, .v (.int .i64 x0))] _ rfl ⟨⟨rfl, trivial⟩, rfl⟩ ?_)))
    obtain ⟨y2, hy3, h⟩ := bindO_some h
    refine JO.call rfl rfl rfl rfl (ok_s_RuneOk x0 _ hy3) rfl [] rfl rfl fun _ _ => JO.reg ttOk 13 [] [] [(2, .v (.bool (bif (bif y2 then (decide (32 ≤ x0)) else false) then (bif (decide (x0 < 127)) then true else (decide (159 < x0))) else false)))] _ rfl ⟨⟨rfl, trivial⟩, rfl⟩ (JO.done rfl ?_)
    cases h
    exact JS.ret ttOk () trivial rfl rfl [] rfl

def M_s_l13Typed (x0 : Int) : Option Bool :=
  (bindO (M_s_Printable x0) fun (y2 : Bool) =>
  some (bif (bif y2 then true else (decide (x0 = 9))) then true else (decide (x0 = 10))))

theorem ok_s_l13Typed (x0 : Int) (r : Bool) (h : M_s_l13Typed x0 = some r) :
    FC Tryz.prog 283 [.int .i64 x0] [] (fun _ : Unit => True) (fun _ => .bool r) (fun _ => []) :=
  by
    refine FC.of (T := TTx) Tryz.call283 Tryz.func283 rfl rfl fun w0 => ?_
    unfold M_s_l13Typed at h
    refine JS.rg0 ttOk 1 [] ⟨trivial, rfl⟩ rfl rfl (JS.seq (JS.region (JO.reg ttOk 1 [] [] [(3, .v (.int .i64 x0))] _ rfl ⟨⟨rfl, trivial⟩, rfl⟩ ?_)))
    obtain ⟨y2, hy3, h⟩ := bindO_some h
    refine JO.call rfl rfl rfl rfl (ok_s_Printable x0 _ hy3) rfl [] rfl rfl fun _ _ => JO.reg ttOk 9 [] [] [(2, .v (.bool (bif (bif y2 then true else (decide (x0 = 9))) then true else (decide (x0 = 10)))))] _ rfl ⟨⟨rfl, trivial⟩, rfl⟩ (JO.done rfl ?_)
    cases h
    exact JS.ret ttOk () trivial rfl rfl [] rfl

def M_s_l13AllTyped_L1 (x0 : List Int) (j18 : Unit → Option Bool) (k13 : Int → Option Bool) : Int → Option Bool := fun x6 =>
  (bif (decide (x6 < (x0.length : Int))) then
  (guardO (0 ≤ x6 ∧ x6 < (x0.length : Int)) <|
  (bindO (M_s_l13Typed (at' x0 x6)) fun (y9 : Bool) =>
  (bif (!y9) then
  some false
  else
  k13 (W (x6 + 1)))))
  else
  j18 ())

def M_s_l13AllTyped (x0 : List Int) : Option Bool :=
  (joinO (fun (_ : Unit) =>
  some true) fun j18 =>
  (fixF (M_s_l13AllTyped_L1 x0 j18) FUEL 0))

theorem ok_s_l13AllTyped (x0 : List Int) (a2 : Option Addr) (c3 : Nat) (l4 : Nat) (hl5 : x0.length = l4) (r : Bool) (h : M_s_l13AllTyped x0 = some r) :
    FC Tryz.prog 227 [.slice a2 l4 c3] [⟨(.int .i64), ⟨a2, l4, c3⟩, x0⟩] (fun _ : Unit => True) (fun _ => .bool r) (fun _ => []) :=
  by
    subst hl5
    refine FC.of (T := TTx) Tryz.call227 Tryz.func227 rfl rfl fun w0 => ?_
    unfold M_s_l13AllTyped at h
    refine JS.rg0 ttOk 1 [] ⟨trivial, rfl⟩ rfl rfl (JS.seq (JS.rg0 ttOk 3 [(5, .v (.slice a2 x0.length c3)), (6, .v (.int .i64 (x0.length : Int))), (7, .v (.int .i64 0))] ⟨(Es rfl), rfl⟩ rfl rfl ?_))
    obtain ⟨j18, hj26, h⟩ := joinO_some h
    refine JS.blockJ (ι := Unit) ⟨fun _ => j18 () = some r, fun _ => [], fun _ => .nil, fun _ => [], fun _ => [], fun _ => 0⟩ ?_ ?_
    · refine JS.loop (ι := Nat × Int) ⟨fun z => fixF (M_s_l13AllTyped_L1 x0 j18) z.1 z.2 = some r, fun z => [(5, .v (.slice a2 x0.length c3)), (6, .v (.int .i64 (x0.length : Int))), (7, .v (.int .i64 z.2))], fun z => .nil, fun z => [⟨(.int .i64), ⟨a2, x0.length, c3⟩, x0⟩], fun z => [], fun z => z.1⟩ (FUEL, 0) h (Es rfl) trivial [0] rfl [] rfl ?_
      rintro ⟨n14, x6⟩ h
      obtain ⟨n14, rfl, h⟩ := fixF_some h
      rw [M_s_l13AllTyped_L1] at h
      refine JS.rg0 ttOk 1 [(8, .v (.bool (decide (x6 < (x0.length : Int)))))] ⟨⟨rfl, trivial⟩, rfl⟩ rfl rfl (JS.seq ?_)
      refine JS.cond rfl (fun ht25 => ?_) (fun ht25 => ?_)
      · have h := condT h ht25
        refine JS.skip (JS.seq (JS.block (JS.seq (JS.region (JO.know 0 rfl fun hs23 => ?_)))))
        obtain ⟨g8, h⟩ := guardO_some h
        refine JO.reg ttOk 1 [] [] [(9, .ep ⟨a2, x0.length, c3⟩ (Int.toNat x6 * 1))] _ rfl ⟨hs23.ix g8, ⟨rfl, trivial⟩, rfl⟩ (JO.load ttOk rfl rfl rfl rfl rfl rfl rfl 0 rfl rfl (Int.toNat x6) 0 (at' x0 x6) ⟨at_some g8, rfl⟩ rfl rfl (JO.reg ttOk 1 [] [] [(4, .v (.int .i64 (at' x0 x6)))] _ rfl ⟨⟨rfl, trivial⟩, rfl⟩ (JO.done rfl (JS.seq (JS.region (JO.reg ttOk 1 [] [] [(11, .v (.int .i64 (at' x0 x6)))] _ rfl ⟨⟨rfl, trivial⟩, rfl⟩ ?_))))))
        obtain ⟨y9, hy10, h⟩ := bindO_some h
        refine JO.call rfl rfl rfl rfl (ok_s_l13Typed (at' x0 x6) _ hy10) rfl [] rfl rfl fun _ _ => JO.reg ttOk 1 [] [] [(13, .v (.bool (!y9)))] _ rfl ⟨⟨rfl, trivial⟩, rfl⟩ (JO.done rfl ?_)
        refine JS.cond rfl (fun ht24 => ?_) (fun ht24 => ?_)
        · have h := condT h ht24
          refine JS.rg0 ttOk 1 [(2, .v (.bool false))] ⟨⟨rfl, trivial⟩, rfl⟩ rfl rfl ?_
          cases h
          exact JS.ret ttOk () trivial rfl rfl [] rfl
        have h := condF h ht24
        refine JS.skip (JS.endB (JS.re ttOk 2 [(W (x6 + 1))] [] [(7, .v (.int .i64 (W (x6 + 1))))] _ ⟨⟨trivial, rfl⟩, ⟨rfl, trivial⟩, rfl⟩ rfl rfl (JS.endL (n14, (W (x6 + 1))) h (Nat.lt_succ_self _) (Es rfl) trivial [0] rfl [] rfl)))
      have h := condF h ht25
      refine JS.exit rfl (JS.endJ () h trivial trivial [] rfl [] rfl)
    rintro _ h
    subst hj26
    refine JS.rg0 ttOk 1 [(2, .v (.bool true))] ⟨⟨rfl, trivial⟩, rfl⟩ rfl rfl ?_
    cases h
    exact JS.ret ttOk () trivial rfl rfl [] rfl

def M_s_l15Piece (x0 : List Int) : Option Bool :=
  (callO ((decide ((x0.length : Int) ≤ 400)) = true) (M_s_l13AllTyped x0) false fun (y6 : Bool) =>
  some (bif (decide ((x0.length : Int) ≤ 400)) then y6 else false))

theorem ok_s_l15Piece (x0 : List Int) (a2 : Option Addr) (c3 : Nat) (l4 : Nat) (hl5 : x0.length = l4) (r : Bool) (h : M_s_l15Piece x0 = some r) :
    FC Tryz.prog 229 [.slice a2 l4 c3] [⟨(.int .i64), ⟨a2, l4, c3⟩, x0⟩] (fun _ : Unit => True) (fun _ => .bool r) (fun _ => []) :=
  by
    subst hl5
    refine FC.of (T := TTx) Tryz.call229 Tryz.func229 rfl rfl fun w0 => ?_
    unfold M_s_l15Piece at h
    refine JS.rg0 ttOk 1 [] ⟨trivial, rfl⟩ rfl rfl (JS.seq (JS.region (JO.reg ttOk 5 [] [] [(6, .v (.bool (decide ((x0.length : Int) ≤ 400)))), (7, .cd [(6, true)] (.v (.slice a2 x0.length c3)))] _ rfl ⟨(Es rfl), rfl⟩ ?_)))
    obtain ⟨y6, hy7, -, h⟩ := callO_some h
    refine JO.callg rfl rfl rfl rfl (fun q9 => ok_s_l13AllTyped x0 a2 c3 x0.length rfl _ (hy7 q9)) rfl [0] rfl rfl (JO.reg ttOk 2 [] [] [(2, .v (.bool (bif (decide ((x0.length : Int) ≤ 400)) then y6 else false)))] _ rfl ⟨⟨rfl, trivial⟩, rfl⟩ (JO.done rfl ?_))
    cases h
    exact JS.ret ttOk () trivial rfl rfl [] rfl

def M_s_RingOk_L1 (x0 : List (List Int)) (j32 : Unit → Option Bool) (k26 : Int → Option Bool) : Int → Option Bool := fun x6 =>
  (bif (decide (x6 < (x0.length : Int))) then
  (guardO (0 ≤ x6 ∧ x6 < (x0.length : Int)) <|
  (callO ((decide (((at' x0 x6).length : Int) = 0)) = false) (M_s_l15Piece (at' x0 x6)) false fun (y17 : Bool) =>
  (bif (bif (decide (((at' x0 x6).length : Int) = 0)) then true else (!y17)) then
  some false
  else
  k26 (W (x6 + 1)))))
  else
  j32 ())

def M_s_RingOk (x0 : List (List Int)) : Option Bool :=
  (joinO (fun (_ : Unit) =>
  some (decide ((x0.length : Int) ≤ 6))) fun j32 =>
  (fixF (M_s_RingOk_L1 x0 j32) FUEL 0))

theorem ok_s_RingOk (x0 : List (List Int)) (a2 : Option Addr) (c3 : Nat) (l4 : Nat) (hl5 : x0.length = l4) (r : Bool) (h : M_s_RingOk x0 = some r) :
    FC Tryz.prog 130 [.agg #[.slice a2 l4 c3]] [⟨(.sl (.int .i64)), ⟨a2, l4, c3⟩, x0⟩] (fun _ : Unit => True) (fun _ => .bool r) (fun _ => []) :=
  by
    subst hl5
    refine FC.of (T := TTx) Tryz.call130 Tryz.func130 rfl rfl fun w0 => ?_
    unfold M_s_RingOk at h
    refine JS.rgB ttOk 2 [] [2] [(1, .bp 2 0)] (.new 2 41 [.slice a2 x0.length c3] .nil) ⟨⟨rfl, trivial⟩, (Bs rfl rfl)⟩ rfl rfl (JS.seq (JS.rg0 ttOk 4 [(6, .v (.slice a2 x0.length c3)), (7, .v (.int .i64 (x0.length : Int))), (8, .v (.int .i64 0))] ⟨(Es rfl), rfl⟩ rfl rfl ?_))
    obtain ⟨j32, hj42, h⟩ := joinO_some h
    refine JS.blockJ (ι := Unit) ⟨fun _ => j32 () = some r, fun _ => [(1, .bp 2 0)], fun _ => (.new 2 41 [.slice a2 x0.length c3] .nil), fun _ => [⟨(.sl (.int .i64)), ⟨a2, x0.length, c3⟩, x0⟩], fun _ => [], fun _ => 0⟩ ?_ ?_
    · refine JS.loop (ι := Nat × Int) ⟨fun z => fixF (M_s_RingOk_L1 x0 j32) z.1 z.2 = some r, fun z => [(1, .bp 2 0), (6, .v (.slice a2 x0.length c3)), (7, .v (.int .i64 (x0.length : Int))), (8, .v (.int .i64 z.2))], fun z => (.new 2 41 [.slice a2 x0.length c3] .nil), fun z => [⟨(.sl (.int .i64)), ⟨a2, x0.length, c3⟩, x0⟩], fun z => [], fun z => z.1⟩ (FUEL, 0) h (Es rfl) (Bs rfl rfl) [0] rfl [] rfl ?_
      rintro ⟨n27, x6⟩ h
      obtain ⟨n27, rfl, h⟩ := fixF_some h
      rw [M_s_RingOk_L1] at h
      refine JS.rg0 ttOk 1 [(9, .v (.bool (decide (x6 < (x0.length : Int)))))] ⟨⟨rfl, trivial⟩, rfl⟩ rfl rfl (JS.seq ?_)
      refine JS.cond rfl (fun ht41 => ?_) (fun ht41 => ?_)
      · have h := condT h ht41
        refine JS.skip (JS.seq (JS.block (JS.seq (JS.region (JO.know 0 rfl fun hs38 => ?_)))))
        obtain ⟨g11, h⟩ := guardO_some h
        refine JO.reg ttOk 1 [] [] [(10, .ep ⟨a2, x0.length, c3⟩ (Int.toNat x6 * 1))] _ rfl ⟨hs38.ix g11, ⟨rfl, trivial⟩, rfl⟩ (JO.openR 0 rfl (Int.toNat x6) (at' x0 x6) rfl fun a12 c13 ys14 hl15 hy16 => JO.loadV ttOk rfl rfl rfl rfl rfl rfl 0 rfl rfl (Int.toNat x6) 0 (Sl.v ⟨a12, (at' x0 x6).length, c13⟩) ⟨hy16 (ltNat g11), rfl⟩ rfl rfl rfl (JO.regB ttOk 2 [] [16] [(4, .bp 16 0)] (.new 2 41 [.slice a2 x0.length c3] (.new 16 174 [.slice a12 (at' x0 x6).length c13] .nil)) rfl ⟨⟨rfl, trivial⟩, (Bs rfl rfl)⟩ (JO.done rfl (JS.seq (JS.region (JO.reg ttOk 7 [] [] [(16, .v (.bool (decide (((at' x0 x6).length : Int) = 0)))), (18, .cd [(16, false)] (.v (.slice a12 (at' x0 x6).length c13)))] _ rfl ⟨(Es rfl), rfl⟩ ?_))))))
        obtain ⟨y17, hy18, -, h⟩ := callO_some h
        refine JO.callg rfl rfl rfl rfl (fun q39 => ok_s_l15Piece (at' x0 x6) a12 c13 ((at' x0 x6).length) rfl _ (hy18 q39)) rfl [1] rfl rfl (JO.reg ttOk 2 [] [] [(21, .v (.bool (bif (decide (((at' x0 x6).length : Int) = 0)) then true else (!y17))))] _ rfl ⟨⟨rfl, trivial⟩, rfl⟩ (JO.done rfl ?_))
        refine JS.cond rfl (fun ht40 => ?_) (fun ht40 => ?_)
        · have h := condT h ht40
          refine JS.rg0 ttOk 1 [(2, .v (.bool false))] ⟨⟨rfl, trivial⟩, rfl⟩ rfl rfl ?_
          cases h
          exact JS.ret ttOk () trivial rfl rfl [] rfl
        have h := condF h ht40
        refine JS.skip (JS.endB (JS.re ttOk 2 [(W (x6 + 1))] [] [(8, .v (.int .i64 (W (x6 + 1))))] _ ⟨⟨trivial, rfl⟩, ⟨rfl, trivial⟩, rfl⟩ rfl rfl (JS.endL (n27, (W (x6 + 1))) h (Nat.lt_succ_self _) (Es rfl) (Bs rfl rfl) [2] rfl [] rfl)))
      have h := condF h ht41
      refine JS.exit rfl (JS.endJ () h ⟨rfl, trivial⟩ (Bs rfl rfl) [0] rfl [] rfl)
    rintro _ h
    subst hj42
    refine JS.rg0 ttOk 5 [(2, .v (.bool (decide ((x0.length : Int) ≤ 6))))] ⟨⟨rfl, trivial⟩, rfl⟩ rfl rfl ?_
    cases h
    exact JS.ret ttOk () trivial rfl rfl [] rfl

def M_s_l15Copy_L1 (x0 : List (List Int)) (j39 : (List (List Int)) → Option (List (List Int))) (k32 : (Int × List (List Int)) → Option (List (List Int))) : (Int × List (List Int)) → Option (List (List Int)) := fun (x6, x10) =>
  (bif (decide (x6 < (x0.length : Int))) then
  (guardO (0 ≤ x6 ∧ x6 < (x0.length : Int)) <|
  (guardO (([] : List Int).length + (at' x0 x6).length ≤ 536870912) <|
  (guardO (x10.length + ([(([] : List Int) ++ (at' x0 x6))] : List (List Int)).length ≤ 536870912) <|
  k32 ((W (x6 + 1)), (x10 ++ ([(([] : List Int) ++ (at' x0 x6))] : List (List Int)))))))
  else
  j39 x10)

def M_s_l15Copy (x0 : List (List Int)) : Option (List (List Int)) :=
  (joinO (fun (x36 : List (List Int)) =>
  some x36) fun j39 =>
  (fixF (M_s_l15Copy_L1 x0 j39) FUEL (0, ([] : List (List Int)))))

theorem ok_s_l15Copy (x0 : List (List Int)) (a2 : Option Addr) (c3 : Nat) (l4 : Nat) (hl5 : x0.length = l4) (r : List (List Int)) (h : M_s_l15Copy x0 = some r) :
    FC Tryz.prog 137 [.agg #[.slice a2 l4 c3]] [⟨(.sl (.int .i64)), ⟨a2, l4, c3⟩, x0⟩] (fun _ : Option Addr × Nat => True) (fun q => .agg #[.slice q.1 r.length q.2]) (fun q => [⟨(.sl (.int .i64)), ⟨q.1, r.length, q.2⟩, r⟩]) :=
  by
    subst hl5
    refine FC.of (T := TTx) Tryz.call137 Tryz.func137 rfl rfl fun w0 => ?_
    unfold M_s_l15Copy at h
    refine JS.rgB ttOk 2 [] [2, 3] [(1, .bp 2 0), (2, .bp 3 0)] (.new 2 41 [.slice a2 x0.length c3] (.new 3 41 [.slice none 0 0] .nil)) ⟨(Es rfl), (Bs rfl rfl)⟩ rfl rfl (JS.rgB ttOk 3 [] [4] [(3, .bp 4 0)] (.new 2 41 [.slice a2 x0.length c3] (.new 3 41 [.slice none 0 0] (.new 4 41 [.slice none 0 0] .nil))) ⟨⟨rfl, trivial⟩, (Bs rfl rfl)⟩ rfl rfl (JS.seq (JS.rg0 ttOk 4 [(8, .v (.slice a2 x0.length c3)), (9, .v (.int .i64 (x0.length : Int))), (10, .v (.int .i64 0))] ⟨(Es rfl), rfl⟩ rfl rfl ?_)))
    obtain ⟨j39, hj45, h⟩ := joinO_some h
    refine JS.blockJ (ι := List (List Int) × Option Addr × Nat) ⟨fun z => j39 z.1 = some r, fun z => [(2, .bp 3 0), (3, .bp 4 0)], fun z => (.new 3 41 [.slice none 0 0] (.new 4 41 [.slice z.2.1 z.1.length z.2.2] .nil)), fun z => [], fun z => [⟨(.sl (.int .i64)), ⟨z.2.1, z.1.length, z.2.2⟩, z.1⟩], fun z => 0⟩ ?_ ?_
    · refine JS.nilO (.sl (.int .i64)) Sl.nil rfl rfl (JS.loop (ι := Nat × Int × List (List Int) × Option Addr × Nat) ⟨fun z => fixF (M_s_l15Copy_L1 x0 j39) z.1 (z.2.1, z.2.2.1) = some r, fun z => [(2, .bp 3 0), (3, .bp 4 0), (8, .v (.slice a2 x0.length c3)), (9, .v (.int .i64 (x0.length : Int))), (10, .v (.int .i64 z.2.1))], fun z => (.new 3 41 [.slice none 0 0] (.new 4 41 [.slice z.2.2.2.1 z.2.2.1.length z.2.2.2.2] .nil)), fun z => [⟨(.sl (.int .i64)), ⟨a2, x0.length, c3⟩, x0⟩], fun z => [⟨(.sl (.int .i64)), ⟨z.2.2.2.1, z.2.2.1.length, z.2.2.2.2⟩, z.2.2.1⟩], fun z => z.1⟩ (FUEL, 0, ([] : List (List Int)), none, 0) h (Es rfl) (Bs rfl rfl) [0] rfl [0] rfl ?_)
      rintro ⟨n33, x6, x10, a11, c12⟩ h
      obtain ⟨n33, rfl, h⟩ := fixF_some h
      rw [M_s_l15Copy_L1] at h
      refine JS.rg0 ttOk 1 [(11, .v (.bool (decide (x6 < (x0.length : Int)))))] ⟨⟨rfl, trivial⟩, rfl⟩ rfl rfl (JS.seq ?_)
      refine JS.cond rfl (fun ht44 => ?_) (fun ht44 => ?_)
      · have h := condT h ht44
        refine JS.skip (JS.seq (JS.block (JS.seq (JS.region (JO.know 0 rfl fun hs43 => ?_)))))
        obtain ⟨g14, h⟩ := guardO_some h
        refine JO.reg ttOk 1 [] [] [(12, .ep ⟨a2, x0.length, c3⟩ (Int.toNat x6 * 1))] _ rfl ⟨hs43.ix g14, ⟨rfl, trivial⟩, rfl⟩ (JO.openR 0 rfl (Int.toNat x6) (at' x0 x6) rfl fun a15 c16 ys17 hl18 hy19 => JO.loadV ttOk rfl rfl rfl rfl rfl rfl 0 rfl rfl (Int.toNat x6) 0 (Sl.v ⟨a15, (at' x0 x6).length, c16⟩) ⟨hy19 (ltNat g14), rfl⟩ rfl rfl rfl (JO.regB ttOk 2 [] [22] [(5, .bp 22 0)] (.new 3 41 [.slice none 0 0] (.new 4 41 [.slice a11 x10.length c12] (.new 22 174 [.slice a15 (at' x0 x6).length c16] .nil))) rfl ⟨⟨rfl, trivial⟩, (Bs rfl rfl)⟩ (JO.done rfl ?_)))
        obtain ⟨g21, h⟩ := guardO_some h
        obtain ⟨g25, h⟩ := guardO_some h
        refine JS.regionA rfl (.new 4 41 [.slice a11 x10.length c12] (.new 22 174 [.slice a15 (at' x0 x6).length c16] .nil)) [] [8, 9, 10] ⟨rfl, rfl, rfl, rfl, rfl, rfl, rfl, rfl, trivial⟩ rfl (fun be28 => ?_)
        refine JA.reg ttOk panic_cx true 7 [0, 1, 3, 4] rfl (by kernel_rfl) [] [(15, .v (.slice a11 x10.length c12)), (18, .v (.slice a15 (at' x0 x6).length c16))] ⟨rfl, rfl, rfl, rfl, rfl, rfl, rfl, rfl, trivial⟩ [] rfl rfl (Es rfl) (JA.one 2 (by kernel_rfl) (JK.buildSlice ttOk rfl rfl rfl rfl rfl rfl rfl rfl rfl rfl rfl [] rfl (.int .i64) [] ⟨rfl, rfl⟩ rfl rfl fun a20 => JA.next ⟨rfl, rfl, rfl, rfl, rfl, rfl, rfl, rfl, trivial⟩ [] rfl (JA.one 5 (by kernel_rfl) (JK.appendR' ttOk rfl rfl rfl rfl ⟨rfl, rfl, rfl, rfl, trivial, rfl, rfl, rfl, rfl⟩ rfl rfl rfl [0] rfl 1 rfl g21 rfl fun a22 c23 => JA.next ⟨rfl, rfl, rfl, rfl, rfl, rfl, rfl, rfl, trivial⟩ [] rfl (JA.reg ttOk panic_cx true 4 [6] rfl (by kernel_rfl) [] [(20, .v (.agg #[.slice a22 (([] : List Int) ++ (at' x0 x6)).length c23]))] ⟨rfl, rfl, rfl, rfl, rfl, rfl, rfl, rfl, trivial⟩ [] rfl rfl ⟨rfl, trivial⟩ (JA.one 7 (by kernel_rfl) (JK.buildSlice ttOk rfl rfl rfl rfl rfl rfl rfl rfl rfl rfl rfl [0] rfl (.sl (.int .i64)) [(([] : List Int) ++ (at' x0 x6))] ⟨rfl, rfl, rfl⟩ rfl rfl fun a24 => JA.next ⟨rfl, rfl, rfl, rfl, rfl, rfl, rfl, rfl, trivial⟩ [] rfl (JA.one 8 (by kernel_rfl) (JK.appendO' ttOk rfl rfl rfl rfl ⟨rfl, rfl, rfl, rfl, trivial, rfl, rfl, rfl, rfl⟩ rfl rfl [1, 0] rfl g25 rfl fun a26 c27 => JA.nextL rfl (JA.regL ttOk panic_cx 1 [9] rfl (by kernel_rfl) [] [(23, .bp 4 0)] rfl ⟨rfl, trivial⟩ (JA.one 10 (by kernel_rfl) (JK.stBox ttOk rfl rfl rfl rfl rfl rfl rfl rfl (JA.nextL rfl (JA.done (by kernel_rfl) (JS.boxes (B' := (.new 3 41 [.slice none 0 0] (.new 4 41 [.slice a26 (x10 ++ ([(([] : List Int) ++ (at' x0 x6))] : List (List Int))).length c27] .nil))) (Bs rfl rfl) ?_)))))))))))))))
        refine JS.endB (JS.re ttOk 2 [(W (x6 + 1))] [] [(10, .v (.int .i64 (W (x6 + 1))))] _ ⟨⟨trivial, rfl⟩, ⟨rfl, trivial⟩, rfl⟩ rfl rfl (JS.endL (n33, (W (x6 + 1)), (x10 ++ ([(([] : List Int) ++ (at' x0 x6))] : List (List Int))), a26, c27) h (Nat.lt_succ_self _) (Es rfl) (Bs rfl rfl) [2] rfl [0] rfl))
      have h := condF h ht44
      refine JS.exit rfl (JS.endJ (x10, a11, c12) h (Es rfl) (Bs rfl rfl) [] rfl [0] rfl)
    rintro ⟨x36, a37, c38⟩ h
    subst hj45
    refine JS.rgB ttOk 2 [] [] [] (.new 3 41 [.slice a37 x36.length c38] .nil) ⟨trivial, (Bs rfl rfl)⟩ rfl rfl ?_
    cases h
    exact JS.ret ttOk (a37, c38) trivial rfl rfl [0] rfl

def M_s_l13Join (x0 : List Int) (x1 : List Int) (x2 : List Int) : Option (List Int) :=
  (guardO (([] : List Int).length + x0.length ≤ 536870912) <|
  (guardO ((([] : List Int) ++ x0).length + x1.length ≤ 536870912) <|
  (guardO (((([] : List Int) ++ x0) ++ x1).length + x2.length ≤ 536870912) <|
  some (((([] : List Int) ++ x0) ++ x1) ++ x2))))

theorem ok_s_l13Join (x0 : List Int) (x1 : List Int) (x2 : List Int) (a4 : Option Addr) (c5 : Nat) (l6 : Nat) (hl7 : x0.length = l6) (a8 : Option Addr) (c9 : Nat) (l10 : Nat) (hl11 : x1.length = l10) (a12 : Option Addr) (c13 : Nat) (l14 : Nat) (hl15 : x2.length = l14) (r : List Int) (h : M_s_l13Join x0 x1 x2 = some r) :
    FC Tryz.prog 82 [.slice a4 l6 c5, .slice a8 l10 c9, .slice a12 l14 c13] [⟨(.int .i64), ⟨a4, l6, c5⟩, x0⟩, ⟨(.int .i64), ⟨a8, l10, c9⟩, x1⟩, ⟨(.int .i64), ⟨a12, l14, c13⟩, x2⟩] (fun _ : Option Addr × Nat => True) (fun q => .slice q.1 r.length q.2) (fun q => [⟨(.int .i64), ⟨q.1, r.length, q.2⟩, r⟩]) :=
  by
    subst hl7
    subst hl11
    subst hl15
    refine FC.of (T := TTx) Tryz.call82 Tryz.func82 rfl rfl fun w0 => ?_
    unfold M_s_l13Join at h
    refine JS.rg0 ttOk 1 [] ⟨trivial, rfl⟩ rfl rfl (JS.seq (JS.region ?_))
    refine JO.ofK rfl (JK.buildSlice ttOk rfl rfl rfl rfl rfl rfl rfl rfl rfl rfl rfl [] rfl (.int .i64) [] ⟨rfl, rfl⟩ rfl rfl fun a16 => JO.toK ?_)
    refine JO.reg ttOk 1 [] [] [(8, .v (.slice a4 x0.length c5))] _ rfl ⟨⟨rfl, trivial⟩, rfl⟩ ?_
    obtain ⟨g17, h⟩ := guardO_some h
    refine JO.appendR' ttOk rfl rfl rfl rfl ⟨rfl, rfl, rfl, rfl, trivial, rfl, rfl, rfl, rfl⟩ rfl rfl rfl [0] rfl 0 rfl g17 rfl fun a18 c19 => JO.reg ttOk 1 [] [] [(10, .v (.slice a8 x1.length c9))] _ rfl ⟨⟨rfl, trivial⟩, rfl⟩ ?_
    obtain ⟨g20, h⟩ := guardO_some h
    refine JO.appendR' ttOk rfl rfl rfl rfl ⟨rfl, rfl, rfl, rfl, trivial, rfl, rfl, rfl, rfl⟩ rfl rfl rfl [0] rfl 1 rfl g20 rfl fun a21 c22 => JO.reg ttOk 1 [] [] [(12, .v (.slice a12 x2.length c13))] _ rfl ⟨⟨rfl, trivial⟩, rfl⟩ ?_
    obtain ⟨g23, h⟩ := guardO_some h
    refine JO.appendR' ttOk rfl rfl rfl rfl ⟨rfl, rfl, rfl, rfl, trivial, rfl, rfl, rfl, rfl⟩ rfl rfl rfl [0] rfl 2 rfl g23 rfl fun a24 c25 => JO.reg ttOk 1 [] [] [(6, .v (.slice a24 (((([] : List Int) ++ x0) ++ x1) ++ x2).length c25))] _ rfl ⟨⟨rfl, trivial⟩, rfl⟩ (JO.done rfl ?_)
    cases h
    exact JS.ret ttOk (a24, c25) trivial rfl rfl [0] rfl

def M_s_RingPut (x0 : List (List Int)) (x1 : List Int) (x2 : Int) : Option (List (List Int) × Bool) :=
  (bindO (M_s_RingOk x0) fun (y12 : Bool) =>
  (callO ((bif (bif (!y12) then true else (decide (x2 < 0))) then true else (decide (2 < x2))) = false) (M_s_l15Piece x1) false fun (y14 : Bool) =>
  (bif (bif (bif (bif (!y12) then true else (decide (x2 < 0))) then true else (decide (2 < x2))) then true else (!y14)) then
  some ([], false)
  else
  (bindO (M_s_l15Copy x0) fun (y17 : List (List Int)) =>
  (bif (decide ((x1.length : Int) = 0)) then
  some (y17, true)
  else
  (guardO (((bif (!(decide (x2 = 0))) then (decide (0 < (x0.length : Int))) else false) = true) → 0 ≤ (0 : Int) ∧ 0 < (x0.length : Int)) <|
  (bif (bif (bif (!(decide (x2 = 0))) then (decide (0 < (x0.length : Int))) else false) then (decide ((W (((at' x0 0).length : Int) + (x1.length : Int))) ≤ 400)) else false) then
  (guardO (0 ≤ (0 : Int) ∧ 0 < (x0.length : Int)) <|
  (bindO (M_s_l13Join (at' x0 0) x1 ([] : List Int)) fun (y33 : List Int) =>
  (joinO (fun (x43 : List Int) =>
  (guardO (0 ≤ (0 : Int) ∧ 0 < (y17.length : Int)) <|
  some ((List.set y17 (Int.toNat 0) x43), true))) fun j46 =>
  (bif (decide (x2 = 2)) then
  (guardO (0 ≤ (0 : Int) ∧ 0 < (x0.length : Int)) <|
  (bindO (M_s_l13Join x1 (at' x0 0) ([] : List Int)) fun (y38 : List Int) =>
  j46 y38))
  else
  j46 y33))))
  else
  (guardO (([] : List Int).length + x1.length ≤ 536870912) <|
  (guardO (([(([] : List Int) ++ x1)] : List (List Int)).length + y17.length ≤ 536870912) <|
  (joinO (fun (x64 : List (List Int)) =>
  some (x64, true)) fun j67 =>
  (bif (decide (6 < ((([(([] : List Int) ++ x1)] : List (List Int)) ++ y17).length : Int))) then
  (guardO (0 ≤ (0 : Int) ∧ (0 : Int) ≤ (6 : Int) ∧ (6 : Int) ≤ ((([(([] : List Int) ++ x1)] : List (List Int)) ++ y17).length : Int)) <|
  j67 (sub' (([(([] : List Int) ++ x1)] : List (List Int)) ++ y17) 0 (6 : Int)))
  else
  j67 (([(([] : List Int) ++ x1)] : List (List Int)) ++ y17))))))))))))

theorem ok_s_RingPut (x0 : List (List Int)) (x1 : List Int) (x2 : Int) (a4 : Option Addr) (c5 : Nat) (l6 : Nat) (hl7 : x0.length = l6) (a8 : Option Addr) (c9 : Nat) (l10 : Nat) (hl11 : x1.length = l10) (r : List (List Int) × Bool) (h : M_s_RingPut x0 x1 x2 = some r) :
    FC Tryz.prog 174 [.agg #[.slice a4 l6 c5], .slice a8 l10 c9, .int .i64 x2] [⟨(.sl (.int .i64)), ⟨a4, l6, c5⟩, x0⟩, ⟨(.int .i64), ⟨a8, l10, c9⟩, x1⟩] (fun _ : Option Addr × Nat => True) (fun q => .tuple #[.agg #[.slice q.1 r.1.length q.2], .bool r.2]) (fun q => [⟨(.sl (.int .i64)), ⟨q.1, r.1.length, q.2⟩, r.1⟩]) :=
  by
    subst hl7
    subst hl11
    refine FC.of (T := TTx) Tryz.call174 Tryz.func174 rfl rfl fun w0 => ?_
    unfold M_s_RingPut at h
    refine JS.rgB ttOk 3 [] [3, 4] [(3, .bp 3 0), (6, .bp 4 0)] (.new 3 41 [.slice a4 x0.length c5] (.new 4 41 [.slice none 0 0] .nil)) ⟨(Es rfl), (Bs rfl rfl)⟩ rfl rfl (JS.seq (JS.seq (JS.region (JO.reg ttOk 1 [] [] [(11, .v (.agg #[.slice a4 x0.length c5]))] _ rfl ⟨⟨rfl, trivial⟩, rfl⟩ ?_))))
    obtain ⟨y12, hy13, h⟩ := bindO_some h
    refine JO.call rfl rfl rfl rfl (ok_s_RingOk x0 a4 c5 x0.length rfl _ hy13) rfl [0] rfl rfl fun _ _ => JO.reg ttOk 11 [] [] [(22, .v (.bool (bif (bif (!y12) then true else (decide (x2 < 0))) then true else (decide (2 < x2))))), (23, .cd [(22, false)] (.v (.slice a8 x1.length c9)))] _ rfl ⟨(Es rfl), rfl⟩ ?_
    obtain ⟨y14, hy15, -, h⟩ := callO_some h
    refine JO.callg rfl rfl rfl rfl (fun q73 => ok_s_l15Piece x1 a8 c9 x1.length rfl _ (hy15 q73)) rfl [1] rfl rfl (JO.reg ttOk 2 [] [] [(26, .v (.bool (bif (bif (bif (!y12) then true else (decide (x2 < 0))) then true else (decide (2 < x2))) then true else (!y14))))] _ rfl ⟨⟨rfl, trivial⟩, rfl⟩ (JO.done rfl ?_))
    refine JS.cond rfl (fun ht86 => ?_) (fun ht86 => ?_)
    · have h := condT h ht86
      refine JS.rgB ttOk 3 [] [] [(7, .v (.bool false))] (.new 4 41 [.slice none 0 0] .nil) ⟨⟨rfl, trivial⟩, (Bs rfl rfl)⟩ rfl rfl ?_
      cases h
      refine JS.nilO (.sl (.int .i64)) Sl.nil rfl rfl (JS.ret ttOk (none, 0) trivial rfl rfl [0] rfl)
    have h := condF h ht86
    refine JS.skip (JS.seq (JS.region (JO.reg ttOk 1 [] [] [(28, .v (.agg #[.slice a4 x0.length c5]))] _ rfl ⟨⟨rfl, trivial⟩, rfl⟩ ?_)))
    obtain ⟨y17, hy18, h⟩ := bindO_some h
    refine JO.call rfl rfl rfl rfl (ok_s_l15Copy x0 a4 c5 x0.length rfl _ hy18) rfl [0] rfl rfl ?_
    rintro ⟨a19, c20⟩ -
    refine JO.regB ttOk 2 [] [14] [(8, .bp 14 0)] (.new 3 41 [.slice a4 x0.length c5] (.new 4 41 [.slice none 0 0] (.new 14 41 [.slice a19 y17.length c20] .nil))) rfl ⟨⟨rfl, trivial⟩, (Bs rfl rfl)⟩ (JO.done rfl (JS.seq (JS.rg0 ttOk 3 [(32, .v (.bool (decide ((x1.length : Int) = 0))))] ⟨⟨rfl, trivial⟩, rfl⟩ rfl rfl ?_)))
    refine JS.cond rfl (fun ht85 => ?_) (fun ht85 => ?_)
    · have h := condT h ht85
      refine JS.rgB ttOk 3 [] [] [(7, .v (.bool true))] (.new 4 41 [.slice a19 y17.length c20] .nil) ⟨⟨rfl, trivial⟩, (Bs rfl rfl)⟩ rfl rfl ?_
      cases h
      exact JS.ret ttOk (a19, c20) trivial rfl rfl [0] rfl
    have h := condF h ht85
    refine JS.skip (JS.seq (JS.seq (JS.region (JO.know 0 rfl fun hs74 => ?_))))
    obtain ⟨g22, h⟩ := guardO_some h
    refine JO.reg ttOk 13 [] [] [(42, .v (.bool (bif (!(decide (x2 = 0))) then (decide (0 < (x0.length : Int))) else false))), (46, .cd [(42, true)] (.ep ⟨a4, x0.length, c5⟩ (Int.toNat 0 * 1)))] _ rfl ⟨(fun q75 => hs74.ix (g22 q75)), (fun q76 => hs74.fa (g22 q76)), (Es rfl), rfl⟩ (JO.openR 0 rfl (Int.toNat 0) (at' x0 0) rfl fun a25 c26 ys27 hl28 hy29 => JO.loadV ttOk rfl rfl rfl rfl rfl rfl 0 rfl rfl (Int.toNat 0) 0 (Sl.v ⟨a25, (at' x0 0).length, c26⟩) (fun q77 => ⟨hy29 (ltNat (g22 q77)), rfl⟩) rfl rfl rfl (JO.reg ttOk 6 [(W (((at' x0 0).length : Int) + (x1.length : Int)))] [] [(53, .v (.bool (bif (bif (!(decide (x2 = 0))) then (decide (0 < (x0.length : Int))) else false) then (decide ((W (((at' x0 0).length : Int) + (x1.length : Int))) ≤ 400)) else false)))] _ rfl ⟨(fun q78 => ⟨trivial, rfl⟩), ⟨rfl, trivial⟩, rfl⟩ (JO.done rfl ?_)))
    refine JS.cond rfl (fun ht84 => ?_) (fun ht84 => ?_)
    · have h := condT h ht84
      refine JS.seq (JS.region ?_)
      obtain ⟨g32, h⟩ := guardO_some h
      refine JO.reg ttOk 4 [] [] [(57, .ep ⟨a4, x0.length, c5⟩ (Int.toNat 0 * 1))] _ rfl ⟨hs74.ix g32, hs74.fa g32, ⟨rfl, trivial⟩, rfl⟩ (JO.loadV ttOk rfl rfl rfl rfl rfl rfl 0 rfl rfl (Int.toNat 0) 0 (Sl.v ⟨a25, (at' x0 0).length, c26⟩) ⟨hy29 (ltNat g32), rfl⟩ rfl rfl rfl (JO.reg ttOk 1 [] [] [(59, .v (.slice a8 x1.length c9))] _ rfl ⟨⟨rfl, trivial⟩, rfl⟩ ?_))
      obtain ⟨y33, hy34, h⟩ := bindO_some h
      refine JO.nilR (.int .i64) Sl.nil rfl rfl (JO.call rfl rfl rfl rfl (ok_s_l13Join (at' x0 0) x1 ([] : List Int) a25 c26 ((at' x0 0).length) rfl a8 c9 x1.length rfl none 0 (([] : List Int).length) rfl _ hy34) rfl [2, 4, 0] rfl rfl ?_)
      rintro ⟨a35, c36⟩ -
      refine JO.reg ttOk 1 [] [] [(9, .v (.slice a35 y33.length c36))] _ rfl ⟨⟨rfl, trivial⟩, rfl⟩ (JO.done rfl ?_)
      obtain ⟨j46, hj81, h⟩ := joinO_some h
      refine JS.seqJ (ι := List Int × Option Addr × Nat) ⟨fun z => j46 z.1 = some r, fun z => [(6, .bp 4 0), (8, .bp 14 0), (9, .v (.slice z.2.1 z.1.length z.2.2))], fun z => (.new 4 41 [.slice none 0 0] (.new 14 41 [.slice a19 y17.length c20] .nil)), fun z => [], fun z => [⟨(.int .i64), ⟨z.2.1, z.1.length, z.2.2⟩, z.1⟩, ⟨(.sl (.int .i64)), ⟨a19, y17.length, c20⟩, y17⟩], fun z => 0⟩ ?_ ?_
      · refine JS.rg0 ttOk 2 [(62, .v (.bool (decide (x2 = 2))))] ⟨⟨rfl, trivial⟩, rfl⟩ rfl rfl ?_
        refine JS.cond rfl (fun ht79 => ?_) (fun ht79 => ?_)
        · have h := condT h ht79
          refine JS.region ?_
          obtain ⟨g37, h⟩ := guardO_some h
          refine JO.reg ttOk 5 [] [] [(63, .v (.slice a8 x1.length c9)), (67, .ep ⟨a4, x0.length, c5⟩ (Int.toNat 0 * 1))] _ rfl ⟨hs74.ix g37, hs74.fa g37, (Es rfl), rfl⟩ (JO.loadV ttOk rfl rfl rfl rfl rfl rfl 1 rfl rfl (Int.toNat 0) 0 (Sl.v ⟨a25, (at' x0 0).length, c26⟩) ⟨hy29 (ltNat g37), rfl⟩ rfl rfl rfl ?_)
          obtain ⟨y38, hy39, h⟩ := bindO_some h
          refine JO.nilR (.int .i64) Sl.nil rfl rfl (JO.call rfl rfl rfl rfl (ok_s_l13Join x1 (at' x0 0) ([] : List Int) a8 c9 x1.length rfl a25 c26 ((at' x0 0).length) rfl none 0 (([] : List Int).length) rfl _ hy39) rfl [5, 3, 0] rfl rfl ?_)
          rintro ⟨a40, c41⟩ -
          refine JO.reg ttOk 1 [] [] [(9, .v (.slice a40 y38.length c41))] _ rfl ⟨⟨rfl, trivial⟩, rfl⟩ (JO.done rfl (JS.endJ (y38, a40, c41) h (Es rfl) (Bs rfl rfl) [] rfl [0, 1] rfl))
        have h := condF h ht79
        refine JS.skip (JS.endJ (y33, a35, c36) h (Es rfl) (Bs rfl rfl) [] rfl [0, 0] rfl)
      rintro ⟨x43, a44, c45⟩ h
      subst hj81
      refine JS.seq (JS.region (JO.know 1 rfl fun hs80 => ?_))
      obtain ⟨g49, h⟩ := guardO_some h
      refine JO.reg ttOk 5 [] [] [(73, .v (.agg #[.slice a44 x43.length c45])), (74, .ep ⟨a19, y17.length, c20⟩ (Int.toNat 0 * 1))] _ rfl ⟨hs80.ix g49, (Es rfl), rfl⟩ (JO.storeE ttOk rfl rfl rfl rfl rfl rfl rfl rfl rfl [1, 0] (fs := [⟨(.int .i64), ⟨a44, x43.length, c45⟩, x43⟩]) rfl (Int.toNat 0) 0 (at' y17 0) x43 ⟨at_some g49, rfl⟩ ⟨rfl, rfl, rfl, rfl⟩ (JO.done rfl (JS.rgB ttOk 3 [] [] [(7, .v (.bool true))] (.new 4 41 [.slice a19 y17.length c20] .nil) ⟨⟨rfl, trivial⟩, (Bs rfl rfl)⟩ rfl rfl ?_)))
      cases h
      exact JS.ret ttOk (a19, c20) trivial rfl (by simp only [List.length_set, List.length_replicate, pickO, getF, cl46]; rfl) [0] (by simp only [List.length_set, List.length_replicate, pickO, getF, cl46]; rfl)
    have h := condF h ht84
    refine JS.skip (JS.seq ?_)
    obtain ⟨g52, h⟩ := guardO_some h
    obtain ⟨g56, h⟩ := guardO_some h
    refine JS.regionA rfl (.new 14 41 [.slice a19 y17.length c20] .nil) [] [7, 8] ⟨rfl, rfl, rfl, rfl, trivial⟩ rfl (fun be59 => ?_)
    refine JA.reg ttOk panic_cx true 6 [1, 5, 6] rfl (by kernel_rfl) [] [(77, .v (.slice a8 x1.length c9)), (82, .v (.slice a19 y17.length c20))] ⟨rfl, rfl, rfl, rfl, trivial⟩ [] rfl rfl (Es rfl) (JA.one 0 (by kernel_rfl) (JK.buildSlice ttOk rfl rfl rfl rfl rfl rfl rfl rfl rfl rfl rfl [] rfl (.int .i64) [] ⟨rfl, rfl⟩ rfl rfl fun a51 => JA.next ⟨rfl, rfl, rfl, rfl, trivial⟩ [] rfl (JA.one 2 (by kernel_rfl) (JK.appendR' ttOk rfl rfl rfl rfl ⟨rfl, rfl, rfl, rfl, trivial, rfl, rfl, rfl, rfl⟩ rfl rfl rfl [0] rfl 3 rfl g52 rfl fun a53 c54 => JA.next ⟨rfl, rfl, rfl, rfl, trivial⟩ [] rfl (JA.reg ttOk panic_cx true 3 [3] rfl (by kernel_rfl) [] [(79, .v (.agg #[.slice a53 (([] : List Int) ++ x1).length c54]))] ⟨rfl, rfl, rfl, rfl, trivial⟩ [] rfl rfl ⟨rfl, trivial⟩ (JA.one 4 (by kernel_rfl) (JK.buildSlice ttOk rfl rfl rfl rfl rfl rfl rfl rfl rfl rfl rfl [0] rfl (.sl (.int .i64)) [(([] : List Int) ++ x1)] ⟨rfl, rfl, rfl⟩ rfl rfl fun a55 => JA.next ⟨rfl, rfl, rfl, rfl, trivial⟩ [] rfl (JA.one 7 (by kernel_rfl) (JK.appendO' ttOk rfl rfl rfl rfl ⟨rfl, rfl, rfl, rfl, trivial, rfl, rfl, rfl, rfl⟩ rfl rfl [0, 0] rfl g56 rfl fun a57 c58 => JA.nextL rfl (JA.regL ttOk panic_cx 0 [8] rfl (by kernel_rfl) [] [(10, .v (.slice a57 (([(([] : List Int) ++ x1)] : List (List Int)) ++ y17).length c58))] rfl ⟨rfl, trivial⟩ (JA.done (by kernel_rfl) (JS.boxes (B' := (.new 4 41 [.slice none 0 0] .nil)) (Bs rfl rfl) ?_))))))))))))
    obtain ⟨j67, hj83, h⟩ := joinO_some h
    refine JS.seqJ (ι := List (List Int) × Option Addr × Nat) ⟨fun z => j67 z.1 = some r, fun z => [(6, .bp 4 0), (10, .v (.slice z.2.1 z.1.length z.2.2))], fun z => (.new 4 41 [.slice none 0 0] .nil), fun z => [], fun z => [⟨(.sl (.int .i64)), ⟨z.2.1, z.1.length, z.2.2⟩, z.1⟩], fun z => 0⟩ ?_ ?_
    · refine JS.rg0 ttOk 3 [(86, .v (.bool (decide (6 < ((([(([] : List Int) ++ x1)] : List (List Int)) ++ y17).length : Int)))))] ⟨⟨rfl, trivial⟩, rfl⟩ rfl rfl ?_
      refine JS.cond rfl (fun ht82 => ?_) (fun ht82 => ?_)
      · have h := condT h ht82
        refine JS.region (JO.reg ttOk 1 [] [] [(87, .v (.slice a57 (([(([] : List Int) ++ x1)] : List (List Int)) ++ y17).length c58))] _ rfl ⟨⟨rfl, trivial⟩, rfl⟩ ?_)
        obtain ⟨g60, h⟩ := guardO_some h
        refine JO.sliceO' ttOk rfl rfl rfl rfl rfl rfl rfl rfl [0] rfl (0 : Int) (6 : Int) rfl rfl g60 rfl fun a61 c62 => JO.reg ttOk 1 [] [] [(10, .v (.slice a61 (sub' (([(([] : List Int) ++ x1)] : List (List Int)) ++ y17) 0 (6 : Int)).length c62))] _ rfl ⟨⟨rfl, trivial⟩, rfl⟩ (JO.done rfl (JS.endJ ((sub' (([(([] : List Int) ++ x1)] : List (List Int)) ++ y17) 0 (6 : Int)), a61, c62) h (Es rfl) (Bs rfl rfl) [] rfl [0] rfl))
      have h := condF h ht82
      refine JS.skip (JS.endJ ((([(([] : List Int) ++ x1)] : List (List Int)) ++ y17), a57, c58) h (Es rfl) (Bs rfl rfl) [] rfl [0] rfl)
    rintro ⟨x64, a65, c66⟩ h
    subst hj83
    refine JS.rgB ttOk 4 [] [] [(7, .v (.bool true))] (.new 4 41 [.slice a65 x64.length c66] .nil) ⟨⟨rfl, trivial⟩, (Bs rfl rfl)⟩ rfl rfl ?_
    cases h
    exact JS.ret ttOk (a65, c66) trivial rfl rfl [0] rfl

def M_s_l15Ring_L1 (x0 : List UInt8 × Int × Int) (j46 : (List (List Int) × Int × Int) → Option (List (List Int) × List UInt8 × Int × Int)) (k38 : (Int × List (List Int) × Int × Int) → Option (List (List Int) × List UInt8 × Int × Int)) : (Int × List (List Int) × Int × Int) → Option (List (List Int) × List UInt8 × Int × Int) := fun (x10, x14, x20, x21) =>
  (bif (decide (0 < x10)) then
  (bindO (M_s_l13Runes (x0.1, x20, x21) 5) fun (y22, y23) =>
  (bindO (M_s_l01Below (x0.1, y23.2.1, y23.2.2) 3) fun (y27, y28) =>
  (bindO (M_s_RingPut x14 y22 y27) fun (y30, y31) =>
  k38 ((W (x10 - 1)), y30, y28.2.1, y28.2.2))))
  else
  j46 (x14, x20, x21))

def M_s_l15Ring (x0 : List UInt8 × Int × Int) : Option (List (List Int) × List UInt8 × Int × Int) :=
  (bindO (M_s_l01Below x0 8) fun (y7, y8) =>
  (joinO (fun ((x41, x44, x45) : List (List Int) × Int × Int) =>
  some (x41, (x0.1, x44, x45))) fun j46 =>
  (fixF (M_s_l15Ring_L1 x0 j46) FUEL (y7, ([] : List (List Int)), y8.2.1, y8.2.2))))

theorem ok_s_l15Ring (x0 : List UInt8 × Int × Int) (a2 : Option Addr) (a3 : Option Addr) (c4 : Nat) (l5 : Nat) (hl6 : x0.1.length = l5) (r : List (List Int) × List UInt8 × Int × Int) (h : M_s_l15Ring x0 = some r) :
    FX Tryz.prog 93 [.pointer a2] [⟨.byte, ⟨a3, l5, c4⟩, x0.1⟩] [⟨(.pair .val (.pair (.int .i64) (.int .i64))), ⟨a2, 1, 1⟩, [((Sl.v ⟨a3, l5, c4⟩), x0.2.1, x0.2.2)]⟩] (fun _ : Option Addr × Nat => True) (fun q => .agg #[.slice q.1 r.1.length q.2]) (fun q => [⟨(.pair .val (.pair (.int .i64) (.int .i64))), ⟨a2, 1, 1⟩, [((Sl.v ⟨a3, l5, c4⟩), r.2.2.1, r.2.2.2)]⟩, ⟨(.sl (.int .i64)), ⟨q.1, r.1.length, q.2⟩, r.1⟩]) :=
  by
    subst hl6
    refine FX.of (T := TTx) Tryz.call93 Tryz.func93 rfl rfl fun w0 L0 => ?_
    unfold M_s_l15Ring at h
    refine JS.ptr 0 a2 rfl ?_
    refine JS.rgB ttOk 1 [] [3] [(2, .bp 3 0)] (.new 3 41 [.slice none 0 0] .nil) ⟨⟨rfl, trivial⟩, (Bs rfl rfl)⟩ rfl rfl (JS.rgB ttOk 3 [] [4] [(3, .bp 4 0)] (.new 3 41 [.slice none 0 0] (.new 4 41 [.slice none 0 0] .nil)) ⟨⟨rfl, trivial⟩, (Bs rfl rfl)⟩ rfl rfl (JS.seq (JS.seq (JS.region (JO.reg ttOk 1 [] [] [(6, .ep ⟨a2, 1, 1⟩ 0)] _ rfl ⟨⟨rfl, trivial⟩, rfl⟩ ?_)))))
    obtain ⟨⟨y7, y8⟩, hy9, h⟩ := bindO_some h
    refine JO.callX rfl rfl rfl rfl (ok_s_l01Below x0 8 a2 a3 c4 x0.1.length rfl _ hy9) rfl [0] rfl [0] rfl rfl fun _ _ => JO.reg ttOk 1 [] [] [(4, .v (.int .i64 y7))] _ rfl ⟨⟨rfl, trivial⟩, rfl⟩ (JO.done rfl ?_)
    obtain ⟨j46, hj50, h⟩ := joinO_some h
    refine JS.blockJ (ι := List (List Int) × Int × Int × Option Addr × Nat) ⟨fun z => j46 (z.1, z.2.1, z.2.2.1) = some r, fun z => [(2, .bp 3 0), (3, .bp 4 0)], fun z => (.new 3 41 [.slice none 0 0] (.new 4 41 [.slice z.2.2.2.1 z.1.length z.2.2.2.2] .nil)), fun z => [⟨.byte, ⟨a3, x0.1.length, c4⟩, x0.1⟩], fun z => [⟨(.sl (.int .i64)), ⟨z.2.2.2.1, z.1.length, z.2.2.2.2⟩, z.1⟩, ⟨(.pair .val (.pair (.int .i64) (.int .i64))), ⟨a2, 1, 1⟩, [((Sl.v ⟨a3, x0.1.length, c4⟩), z.2.1, z.2.2.1)]⟩], fun z => 0⟩ ?_ ?_
    · refine JS.nilO (.sl (.int .i64)) Sl.nil rfl rfl (JS.loop (ι := Nat × Int × List (List Int) × Int × Int × Option Addr × Nat) ⟨fun z => fixF (M_s_l15Ring_L1 x0 j46) z.1 (z.2.1, z.2.2.1, z.2.2.2.1, z.2.2.2.2.1) = some r, fun z => [(0, .ep ⟨a2, 1, 1⟩ 0), (2, .bp 3 0), (3, .bp 4 0), (4, .v (.int .i64 z.2.1))], fun z => (.new 3 41 [.slice none 0 0] (.new 4 41 [.slice z.2.2.2.2.2.1 z.2.2.1.length z.2.2.2.2.2.2] .nil)), fun z => [⟨.byte, ⟨a3, x0.1.length, c4⟩, x0.1⟩], fun z => [⟨(.sl (.int .i64)), ⟨z.2.2.2.2.2.1, z.2.2.1.length, z.2.2.2.2.2.2⟩, z.2.2.1⟩, ⟨(.pair .val (.pair (.int .i64) (.int .i64))), ⟨a2, 1, 1⟩, [((Sl.v ⟨a3, x0.1.length, c4⟩), z.2.2.2.1, z.2.2.2.2.1)]⟩], fun z => z.1⟩ (FUEL, y7, ([] : List (List Int)), y8.2.1, y8.2.2, none, 0) h (Es rfl) (Bs rfl rfl) [0] rfl [0, 0] rfl ?_)
      rintro ⟨n39, x10, x14, x20, x21, a15, c16⟩ h
      obtain ⟨n39, rfl, h⟩ := fixF_some h
      rw [M_s_l15Ring_L1] at h
      refine JS.seq (JS.rg0 ttOk 2 [(9, .v (.bool (decide (0 < x10))))] ⟨⟨rfl, trivial⟩, rfl⟩ rfl rfl ?_)
      refine JS.cond rfl (fun ht49 => ?_) (fun ht49 => ?_)
      · have h := condT h ht49
        refine JS.skip (JS.seq (JS.block ?_))
        obtain ⟨⟨y22, y23⟩, hy24, h⟩ := bindO_some h
        obtain ⟨⟨y27, y28⟩, hy29, h⟩ := bindO_some h
        obtain ⟨⟨y30, y31⟩, hy32, h⟩ := bindO_some h
        refine JS.regionA rfl (.new 4 41 [.slice a15 x14.length c16] .nil) [] [5, 6, 7, 8, 9] ⟨rfl, rfl, rfl, rfl, trivial⟩ rfl (fun be35 => ?_)
        refine JA.reg ttOk panic_cxX true 7 [0, 1, 3] rfl (by kernel_rfl) [] [(13, .v (.agg #[.slice a15 x14.length c16])), (14, .ep ⟨a2, 1, 1⟩ 0), (16, .ep ⟨a2, 1, 1⟩ 0)] ⟨rfl, rfl, rfl, rfl, trivial⟩ [] rfl rfl (Es rfl) (JA.one 2 (by kernel_rfl) (JK.callX rfl rfl rfl rfl (ok_s_l13Runes (x0.1, x20, x21) 5 a2 a3 c4 x0.1.length rfl _ hy24) rfl [1] rfl [0] rfl rfl ?_))
        rintro ⟨a25, c26⟩ -
        refine JA.next ⟨rfl, rfl, rfl, rfl, trivial⟩ [] rfl (JA.one 4 (by kernel_rfl) (JK.callX rfl rfl rfl rfl (ok_s_l01Below (x0.1, y23.2.1, y23.2.2) 3 a2 a3 c4 x0.1.length rfl _ hy29) rfl [0] rfl [0] rfl rfl fun _ _ => JA.next ⟨rfl, rfl, rfl, rfl, trivial⟩ [] rfl (JA.one 5 (by kernel_rfl) (JK.call rfl rfl rfl rfl (ok_s_RingPut x14 y22 y27 a15 c16 x14.length rfl a25 c26 y22.length rfl _ hy32) rfl [3, 2] rfl rfl ?_))))
        rintro ⟨a33, c34⟩ -
        refine JA.nextL rfl (JA.regL ttOk panic_cxX 1 [6, 7, 8] rfl (by kernel_rfl) [] [(19, .v (.agg #[.slice a33 y30.length c34]))] rfl ⟨rfl, trivial⟩ (JA.one 9 (by kernel_rfl) (JK.stBox ttOk rfl rfl rfl rfl rfl rfl rfl rfl (JA.nextL rfl (JA.done (by kernel_rfl) (JS.boxes (B' := (.new 3 41 [.slice none 0 0] (.new 4 41 [.slice a33 y30.length c34] .nil))) (Bs rfl rfl) (JS.endB (JS.re ttOk 3 [(W (x10 - 1))] [] [(4, .v (.int .i64 (W (x10 - 1))))] _ ⟨⟨trivial, rfl⟩, ⟨rfl, trivial⟩, rfl⟩ rfl rfl (JS.endL (n39, (W (x10 - 1)), y30, y28.2.1, y28.2.2, a33, c34) h (Nat.lt_succ_self _) (Es rfl) (Bs rfl rfl) [0] rfl [0, 0] rfl)))))))))
      have h := condF h ht49
      refine JS.exit rfl (JS.endJ (x14, x20, x21, a15, c16) h (Es rfl) (Bs rfl rfl) [0] rfl [0, 0] rfl)
    rintro ⟨x41, x44, x45, a42, c43⟩ h
    subst hj50
    refine JS.rgB ttOk 2 [] [] [] (.new 3 41 [.slice a42 x41.length c43] .nil) ⟨trivial, (Bs rfl rfl)⟩ rfl rfl ?_
    cases h
    exact JS.retX ttOk (a42, c43) trivial rfl rfl [1, 0] rfl

def M_s_l05Text (x0 : List UInt8 × Int × Int) : Option (List UInt8 × List UInt8 × Int × Int) :=
  (bindO (M_s_l01Below x0 12) fun (y8, y9) =>
  (guardO (0 ≤ y8 ∧ y8 < (([([108, 115] : List UInt8), ([101, 99, 104, 111, 32, 97] : List UInt8), ([99, 97, 116, 32, 98] : List UInt8), ([97, 32, 124, 32, 98] : List UInt8), ([120, 61, 49] : List UInt8), ([105, 102, 32, 97, 59, 32, 116, 104, 101, 110, 32, 98, 59, 32, 102, 105] : List UInt8), ([101, 99, 104, 111, 32, 39, 97, 10, 98, 39] : List UInt8), ([109, 97, 107, 101] : List UInt8), ([108, 115, 32, 45, 108] : List UInt8), ([101, 99, 104, 111, 32, 195, 169] : List UInt8), ([103, 105, 116, 32, 108, 111, 103] : List UInt8), ([119] : List UInt8)] : List (List UInt8)).length : Int)) <|
  some ((at' ([([108, 115] : List UInt8), ([101, 99, 104, 111, 32, 97] : List UInt8), ([99, 97, 116, 32, 98] : List UInt8), ([97, 32, 124, 32, 98] : List UInt8), ([120, 61, 49] : List UInt8), ([105, 102, 32, 97, 59, 32, 116, 104, 101, 110, 32, 98, 59, 32, 102, 105] : List UInt8), ([101, 99, 104, 111, 32, 39, 97, 10, 98, 39] : List UInt8), ([109, 97, 107, 101] : List UInt8), ([108, 115, 32, 45, 108] : List UInt8), ([101, 99, 104, 111, 32, 195, 169] : List UInt8), ([103, 105, 116, 32, 108, 111, 103] : List UInt8), ([119] : List UInt8)] : List (List UInt8)) y8), (x0.1, y9.2.1, y9.2.2))))

theorem ok_s_l05Text (x0 : List UInt8 × Int × Int) (a2 : Option Addr) (a3 : Option Addr) (c4 : Nat) (l5 : Nat) (hl6 : x0.1.length = l5) (r : List UInt8 × List UInt8 × Int × Int) (h : M_s_l05Text x0 = some r) :
    FX Tryz.prog 177 [.pointer a2] [⟨.byte, ⟨a3, l5, c4⟩, x0.1⟩] [⟨(.pair .val (.pair (.int .i64) (.int .i64))), ⟨a2, 1, 1⟩, [((Sl.v ⟨a3, l5, c4⟩), x0.2.1, x0.2.2)]⟩] (fun _ : Unit => True) (fun _ => .string (bs r.1)) (fun _ => [⟨(.pair .val (.pair (.int .i64) (.int .i64))), ⟨a2, 1, 1⟩, [((Sl.v ⟨a3, l5, c4⟩), r.2.2.1, r.2.2.2)]⟩]) :=
  by
    subst hl6
    refine FX.of (T := TTx) Tryz.call177 Tryz.func177 rfl rfl fun w0 L0 => ?_
    unfold M_s_l05Text at h
    refine JS.ptr 0 a2 rfl ?_
    refine JS.rg0 ttOk 1 [] ⟨trivial, rfl⟩ rfl rfl (JS.seq (JS.region ?_))
    refine JO.ofK rfl (JK.buildSlice ttOk rfl rfl rfl rfl rfl rfl rfl rfl rfl rfl rfl [] rfl .str [([108, 115] : List UInt8), ([101, 99, 104, 111, 32, 97] : List UInt8), ([99, 97, 116, 32, 98] : List UInt8), ([97, 32, 124, 32, 98] : List UInt8), ([120, 61, 49] : List UInt8), ([105, 102, 32, 97, 59, 32, 116, 104, 101, 110, 32, 98, 59, 32, 102, 105] : List UInt8), ([101, 99, 104, 111, 32, 39, 97, 10, 98, 39] : List UInt8), ([109, 97, 107, 101] : List UInt8), ([108, 115, 32, 45, 108] : List UInt8), ([101, 99, 104, 111, 32, 195, 169] : List UInt8), ([103, 105, 116, 32, 108, 111, 103] : List UInt8), ([119] : List UInt8)] ⟨rfl, rfl⟩ rfl rfl fun a7 => JO.toK ?_)
    refine JO.reg ttOk 1 [] [] [(4, .ep ⟨a2, 1, 1⟩ 0)] _ rfl ⟨⟨rfl, trivial⟩, rfl⟩ ?_
    obtain ⟨⟨y8, y9⟩, hy10, h⟩ := bindO_some h
    refine JO.callX rfl rfl rfl rfl (ok_s_l01Below x0 12 a2 a3 c4 x0.1.length rfl _ hy10) rfl [1] rfl [0] rfl rfl fun _ _ => JO.know 2 rfl fun hs13 => ?_
    obtain ⟨g12, h⟩ := guardO_some h
    refine JO.reg ttOk 1 [] [] [(6, .ep ⟨a7, ([([108, 115] : List UInt8), ([101, 99, 104, 111, 32, 97] : List UInt8), ([99, 97, 116, 32, 98] : List UInt8), ([97, 32, 124, 32, 98] : List UInt8), ([120, 61, 49] : List UInt8), ([105, 102, 32, 97, 59, 32, 116, 104, 101, 110, 32, 98, 59, 32, 102, 105] : List UInt8), ([101, 99, 104, 111, 32, 39, 97, 10, 98, 39] : List UInt8), ([109, 97, 107, 101] : List UInt8), ([108, 115, 32, 45, 108] : List UInt8), ([101, 99, 104, 111, 32, 195, 169] : List UInt8), ([103, 105, 116, 32, 108, 111, 103] : List UInt8), ([119] : List UInt8)] : List (List UInt8)).length, ([([108, 115] : List UInt8), ([101, 99, 104, 111, 32, 97] : List UInt8), ([99, 97, 116, 32, 98] : List UInt8), ([97, 32, 124, 32, 98] : List UInt8), ([120, 61, 49] : List UInt8), ([105, 102, 32, 97, 59, 32, 116, 104, 101, 110, 32, 98, 59, 32, 102, 105] : List UInt8), ([101, 99, 104, 111, 32, 39, 97, 10, 98, 39] : List UInt8), ([109, 97, 107, 101] : List UInt8), ([108, 115, 32, 45, 108] : List UInt8), ([101, 99, 104, 111, 32, 195, 169] : List UInt8), ([103, 105, 116, 32, 108, 111, 103] : List UInt8), ([119] : List UInt8)] : List (List UInt8)).length⟩ (Int.toNat y8 * 1))] _ rfl ⟨hs13.ix g12, ⟨rfl, trivial⟩, rfl⟩ (JO.load ttOk rfl rfl rfl rfl rfl rfl rfl 2 rfl rfl (Int.toNat y8) 0 (at' ([([108, 115] : List UInt8), ([101, 99, 104, 111, 32, 97] : List UInt8), ([99, 97, 116, 32, 98] : List UInt8), ([97, 32, 124, 32, 98] : List UInt8), ([120, 61, 49] : List UInt8), ([105, 102, 32, 97, 59, 32, 116, 104, 101, 110, 32, 98, 59, 32, 102, 105] : List UInt8), ([101, 99, 104, 111, 32, 39, 97, 10, 98, 39] : List UInt8), ([109, 97, 107, 101] : List UInt8), ([108, 115, 32, 45, 108] : List UInt8), ([101, 99, 104, 111, 32, 195, 169] : List UInt8), ([103, 105, 116, 32, 108, 111, 103] : List UInt8), ([119] : List UInt8)] : List (List UInt8)) y8) ⟨at_some g12, rfl⟩ rfl rfl (JO.reg ttOk 1 [] [] [(2, .v (.string (bs (at' ([([108, 115] : List UInt8), ([101, 99, 104, 111, 32, 97] : List UInt8), ([99, 97, 116, 32, 98] : List UInt8), ([97, 32, 124, 32, 98] : List UInt8), ([120, 61, 49] : List UInt8), ([105, 102, 32, 97, 59, 32, 116, 104, 101, 110, 32, 98, 59, 32, 102, 105] : List UInt8), ([101, 99, 104, 111, 32, 39, 97, 10, 98, 39] : List UInt8), ([109, 97, 107, 101] : List UInt8), ([108, 115, 32, 45, 108] : List UInt8), ([101, 99, 104, 111, 32, 195, 169] : List UInt8), ([103, 105, 116, 32, 108, 111, 103] : List UInt8), ([119] : List UInt8)] : List (List UInt8)) y8))))] _ rfl ⟨⟨rfl, trivial⟩, rfl⟩ (JO.done rfl ?_)))
    cases h
    exact JS.retX ttOk () trivial rfl rfl [0] rfl

def M_s_HistOk_L1 (x0 : Int × List (List UInt8)) (j23 : Unit → Option Bool) (k18 : Int → Option Bool) : Int → Option Bool := fun x6 =>
  (bif (decide (x6 < (x0.2.length : Int))) then
  (guardO (0 ≤ x6 ∧ x6 < (x0.2.length : Int)) <|
  (bif (bif (decide (((at' x0.2 x6).length : Int) < 1)) then true else (decide (1000 < ((at' x0.2 x6).length : Int)))) then
  some false
  else
  k18 (W (x6 + 1))))
  else
  j23 ())

def M_s_HistOk (x0 : Int × List (List UInt8)) : Option Bool :=
  (joinO (fun (_ : Unit) =>
  some (bif (bif (decide (1 ≤ x0.1)) then (decide (x0.1 ≤ 1000000000)) else false) then (decide ((x0.2.length : Int) ≤ 60)) else false)) fun j23 =>
  (fixF (M_s_HistOk_L1 x0 j23) FUEL 0))

theorem ok_s_HistOk (x0 : Int × List (List UInt8)) (a2 : Option Addr) (c3 : Nat) (l4 : Nat) (hl5 : x0.2.length = l4) (r : Bool) (h : M_s_HistOk x0 = some r) :
    FC Tryz.prog 78 [.agg #[.int .i64 x0.1, .slice a2 l4 c3]] [⟨.str, ⟨a2, l4, c3⟩, x0.2⟩] (fun _ : Unit => True) (fun _ => .bool r) (fun _ => []) :=
  by
    subst hl5
    refine FC.of (T := TTx) Tryz.call78 Tryz.func78 rfl rfl fun w0 => ?_
    unfold M_s_HistOk at h
    refine JS.rgB ttOk 2 [] [2] [(1, .bp 2 0)] (.new 2 50 [.int .i64 x0.1, .slice a2 x0.2.length c3] .nil) ⟨⟨rfl, trivial⟩, (Bs rfl rfl)⟩ rfl rfl (JS.seq (JS.rg0 ttOk 4 [(6, .v (.slice a2 x0.2.length c3)), (7, .v (.int .i64 (x0.2.length : Int))), (8, .v (.int .i64 0))] ⟨(Es rfl), rfl⟩ rfl rfl ?_))
    obtain ⟨j23, hj31, h⟩ := joinO_some h
    refine JS.blockJ (ι := Unit) ⟨fun _ => j23 () = some r, fun _ => [(1, .bp 2 0)], fun _ => (.new 2 50 [.int .i64 x0.1, .slice a2 x0.2.length c3] .nil), fun _ => [⟨.str, ⟨a2, x0.2.length, c3⟩, x0.2⟩], fun _ => [], fun _ => 0⟩ ?_ ?_
    · refine JS.loop (ι := Nat × Int) ⟨fun z => fixF (M_s_HistOk_L1 x0 j23) z.1 z.2 = some r, fun z => [(1, .bp 2 0), (6, .v (.slice a2 x0.2.length c3)), (7, .v (.int .i64 (x0.2.length : Int))), (8, .v (.int .i64 z.2))], fun z => (.new 2 50 [.int .i64 x0.1, .slice a2 x0.2.length c3] .nil), fun z => [⟨.str, ⟨a2, x0.2.length, c3⟩, x0.2⟩], fun z => [], fun z => z.1⟩ (FUEL, 0) h (Es rfl) (Bs rfl rfl) [0] rfl [] rfl ?_
      rintro ⟨n19, x6⟩ h
      obtain ⟨n19, rfl, h⟩ := fixF_some h
      rw [M_s_HistOk_L1] at h
      refine JS.rg0 ttOk 1 [(9, .v (.bool (decide (x6 < (x0.2.length : Int)))))] ⟨⟨rfl, trivial⟩, rfl⟩ rfl rfl (JS.seq ?_)
      refine JS.cond rfl (fun ht30 => ?_) (fun ht30 => ?_)
      · have h := condT h ht30
        refine JS.skip (JS.seq (JS.block (JS.seq (JS.region (JO.know 0 rfl fun hs28 => ?_)))))
        obtain ⟨g12, h⟩ := guardO_some h
        refine JO.reg ttOk 1 [] [] [(10, .ep ⟨a2, x0.2.length, c3⟩ (Int.toNat x6 * 1))] _ rfl ⟨hs28.ix g12, ⟨rfl, trivial⟩, rfl⟩ (JO.load ttOk rfl rfl rfl rfl rfl rfl rfl 0 rfl rfl (Int.toNat x6) 0 (at' x0.2 x6) ⟨at_some g12, rfl⟩ rfl rfl (JO.reg ttOk 1 [] [] [(4, .v (.string (bs (at' x0.2 x6))))] _ rfl ⟨⟨rfl, trivial⟩, rfl⟩ (JO.done rfl (JS.rg0 ttOk 8 [(19, .v (.bool (bif (decide (((at' x0.2 x6).length : Int) < 1)) then true else (decide (1000 < ((at' x0.2 x6).length : Int))))))] ⟨⟨rfl, trivial⟩, rfl⟩ rfl rfl ?_))))
        refine JS.cond rfl (fun ht29 => ?_) (fun ht29 => ?_)
        · have h := condT h ht29
          refine JS.rg0 ttOk 1 [(2, .v (.bool false))] ⟨⟨rfl, trivial⟩, rfl⟩ rfl rfl ?_
          cases h
          exact JS.ret ttOk () trivial rfl rfl [] rfl
        have h := condF h ht29
        refine JS.skip (JS.endB (JS.re ttOk 2 [(W (x6 + 1))] [] [(8, .v (.int .i64 (W (x6 + 1))))] _ ⟨⟨trivial, rfl⟩, ⟨rfl, trivial⟩, rfl⟩ rfl rfl (JS.endL (n19, (W (x6 + 1))) h (Nat.lt_succ_self _) (Es rfl) (Bs rfl rfl) [0] rfl [] rfl)))
      have h := condF h ht30
      refine JS.exit rfl (JS.endJ () h ⟨rfl, trivial⟩ (Bs rfl rfl) [0] rfl [] rfl)
    rintro _ h
    subst hj31
    refine JS.rg0 ttOk 15 [(2, .v (.bool (bif (bif (decide (1 ≤ x0.1)) then (decide (x0.1 ≤ 1000000000)) else false) then (decide ((x0.2.length : Int) ≤ 60)) else false)))] ⟨⟨rfl, trivial⟩, rfl⟩ rfl rfl ?_
    cases h
    exact JS.ret ttOk () trivial rfl rfl [] rfl

def M_s_HistAdd (x0 : Int × List (List UInt8)) (x1 : List UInt8) : Option ((Int × List (List UInt8)) × Bool) :=
  (joinO (fun (x16 : List (List UInt8)) =>
  (joinO (fun ((x24, x25) : Int × List (List UInt8)) =>
  (bindO (M_s_HistOk x0) fun (y30 : Bool) =>
  (callO ((!y30) = false) (M_s_HistOk (x24, x25)) false fun (y32 : Bool) =>
  (bif (bif (!y30) then true else (!y32)) then
  some ((0, []), false)
  else
  some ((x24, x25), true))))) fun j28 =>
  (bif (decide (60 < (x16.length : Int))) then
  (guardO (0 ≤ (1 : Int) ∧ (1 : Int) ≤ (x16.length : Int) ∧ (x16.length : Int) ≤ (x16.length : Int)) <|
  j28 ((W (x0.1 + 1)), (sub' x16 1 (x16.length : Int))))
  else
  j28 (x0.1, x16)))) fun j19 =>
  (guardO (([] : List (List UInt8)).length + x0.2.length ≤ 536870912) <|
  (guardO ((([] : List (List UInt8)) ++ x0.2).length + ([x1] : List (List UInt8)).length ≤ 536870912) <|
  j19 ((([] : List (List UInt8)) ++ x0.2) ++ ([x1] : List (List UInt8))))))

theorem ok_s_HistAdd (x0 : Int × List (List UInt8)) (x1 : List UInt8) (a3 : Option Addr) (c4 : Nat) (l5 : Nat) (hl6 : x0.2.length = l5) (r : (Int × List (List UInt8)) × Bool) (h : M_s_HistAdd x0 x1 = some r) :
    FC Tryz.prog 176 [.agg #[.int .i64 x0.1, .slice a3 l5 c4], .string (bs x1)] [⟨.str, ⟨a3, l5, c4⟩, x0.2⟩] (fun _ : Option Addr × Nat => True) (fun q => .tuple #[.agg #[.int .i64 r.1.1, .slice q.1 r.1.2.length q.2], .bool r.2]) (fun q => [⟨.str, ⟨q.1, r.1.2.length, q.2⟩, r.1.2⟩]) :=
  by
    subst hl6
    refine FC.of (T := TTx) Tryz.call176 Tryz.func176 rfl rfl fun w0 => ?_
    unfold M_s_HistAdd at h
    refine JS.rgB ttOk 3 [] [2, 3] [(2, .bp 2 0), (4, .bp 3 0)] (.new 2 50 [.int .i64 x0.1, .slice a3 x0.2.length c4] (.new 3 50 [.int .i64 0, .slice none 0 0] .nil)) ⟨(Es rfl), (Bs rfl rfl)⟩ rfl rfl (JS.seq ?_)
    obtain ⟨j19, hj42, h⟩ := joinO_some h
    refine JS.cutJ (ι := List (List UInt8) × Option Addr × Nat) ⟨fun z => j19 z.1 = some r, fun z => [(2, .bp 2 0), (4, .bp 3 0), (6, .bp 16 0)], fun z => (.new 2 50 [.int .i64 x0.1, .slice a3 x0.2.length c4] (.new 3 50 [.int .i64 0, .slice none 0 0] (.new 16 50 [.int .i64 x0.1, .slice z.2.1 z.1.length z.2.2] .nil))), fun z => [⟨.str, ⟨a3, x0.2.length, c4⟩, x0.2⟩], fun z => [⟨.str, ⟨z.2.1, z.1.length, z.2.2⟩, z.1⟩], fun z => 0⟩ ?_ ?_
    · obtain ⟨g8, h⟩ := guardO_some h
      obtain ⟨g12, h⟩ := guardO_some h
      refine JS.regionA rfl (.new 2 50 [.int .i64 x0.1, .slice a3 x0.2.length c4] .nil) [] [9, 11] ⟨rfl, rfl, rfl, rfl, trivial⟩ rfl (fun be15 => ?_)
      refine JA.reg ttOk panic_cx true 7 [0, 1, 3, 4, 6] rfl (by kernel_rfl) [] [(8, .v (.int .i64 x0.1)), (11, .v (.slice a3 x0.2.length c4)), (13, .v (.string (bs x1)))] ⟨rfl, rfl, rfl, rfl, trivial⟩ [] rfl rfl (Es rfl) ?_
      refine JA.all (rs := [2, 7, 10]) (by kernel_rfl) rfl (List.forall_mem_cons.2 ⟨?_, List.forall_mem_cons.2 ⟨?_, List.forall_mem_cons.2 ⟨?_, (fun _ hx => absurd hx List.not_mem_nil)⟩⟩⟩)
      · refine JK.buildSlice ttOk rfl rfl rfl rfl rfl rfl rfl rfl rfl rfl rfl [] rfl .str [] ⟨rfl, rfl⟩ rfl rfl fun a7 => JA.next ⟨rfl, rfl, rfl, rfl, trivial⟩ [] rfl ?_
        refine JA.all (rs := [5, 7, 10]) (by kernel_rfl) rfl (List.forall_mem_cons.2 ⟨?_, List.forall_mem_cons.2 ⟨?_, List.forall_mem_cons.2 ⟨?_, (fun _ hx => absurd hx List.not_mem_nil)⟩⟩⟩)
        · refine JK.appendR' ttOk rfl rfl rfl rfl ⟨rfl, rfl, rfl, rfl, trivial, rfl, rfl, rfl, rfl⟩ rfl rfl rfl [0] rfl 0 rfl g8 rfl fun a9 c10 => JA.next ⟨rfl, rfl, rfl, rfl, trivial⟩ [] rfl ?_
          refine JA.all (rs := [7, 10]) (by kernel_rfl) rfl (List.forall_mem_cons.2 ⟨?_, List.forall_mem_cons.2 ⟨?_, (fun _ hx => absurd hx List.not_mem_nil)⟩⟩)
          · refine JK.buildSlice ttOk rfl rfl rfl rfl rfl rfl rfl rfl rfl rfl rfl [] rfl .str [x1] ⟨rfl, rfl⟩ rfl rfl fun a11 => JA.next ⟨rfl, rfl, rfl, rfl, trivial⟩ [] rfl ?_
            refine JA.all (rs := [8, 10]) (by kernel_rfl) rfl (List.forall_mem_cons.2 ⟨?_, List.forall_mem_cons.2 ⟨?_, (fun _ hx => absurd hx List.not_mem_nil)⟩⟩)
            · refine JK.appendR' ttOk rfl rfl rfl rfl ⟨rfl, rfl, rfl, rfl, trivial, rfl, rfl, rfl, rfl⟩ rfl rfl rfl [1] rfl 1 rfl g12 rfl fun a13 c14 => JA.next ⟨rfl, rfl, rfl, rfl, trivial⟩ [] rfl (JA.regL ttOk panic_cx 2 [9] rfl (by kernel_rfl) [] [(16, .v (.agg #[.int .i64 x0.1, .slice a13 ((([] : List (List UInt8)) ++ x0.2) ++ ([x1] : List (List UInt8))).length c14]))] rfl ⟨rfl, trivial⟩ (JA.one 10 (by kernel_rfl) (JK.alloc ttOk rfl rfl rfl rfl rfl 16 rfl (sd_upd _ rfl) (JA.next ⟨rfl, rfl, rfl, rfl, trivial⟩ [] rfl (JA.one 11 (by kernel_rfl) (JK.stBox ttOk rfl rfl rfl rfl rfl rfl rfl rfl (JA.nextL rfl (JA.done (by kernel_rfl) (JS.boxes (B' := (.new 2 50 [.int .i64 x0.1, .slice a3 x0.2.length c4] (.new 3 50 [.int .i64 0, .slice none 0 0] (.new 16 50 [.int .i64 x0.1, .slice a13 ((([] : List (List UInt8)) ++ x0.2) ++ ([x1] : List (List UInt8))).length c14] .nil)))) (Bs rfl rfl) (JS.endJ (((([] : List (List UInt8)) ++ x0.2) ++ ([x1] : List (List UInt8))), a13, c14) h (Es rfl) (Bs rfl rfl) [0] rfl [0] rfl))))))))))
            refine JK.alloc ttOk rfl rfl rfl rfl rfl 16 rfl (sd_upd _ rfl) (JA.next ⟨rfl, rfl, rfl, rfl, trivial⟩ [] rfl (JA.one 8 (by kernel_rfl) (JK.appendR' ttOk rfl rfl rfl rfl ⟨rfl, rfl, rfl, rfl, trivial, rfl, rfl, rfl, rfl⟩ rfl rfl rfl [1] rfl 1 rfl g12 rfl fun a13 c14 => JA.next ⟨rfl, rfl, rfl, rfl, trivial⟩ [] rfl (JA.regL ttOk panic_cx 1 [9] rfl (by kernel_rfl) [] [(16, .v (.agg #[.int .i64 x0.1, .slice a13 ((([] : List (List UInt8)) ++ x0.2) ++ ([x1] : List (List UInt8))).length c14]))] rfl ⟨rfl, trivial⟩ (JA.one 11 (by kernel_rfl) (JK.stBox ttOk rfl rfl rfl rfl rfl rfl rfl rfl (JA.nextL rfl (JA.done (by kernel_rfl) (JS.boxes (B' := (.new 2 50 [.int .i64 x0.1, .slice a3 x0.2.length c4] (.new 3 50 [.int .i64 0, .slice none 0 0] (.new 16 50 [.int .i64 x0.1, .slice a13 ((([] : List (List UInt8)) ++ x0.2) ++ ([x1] : List (List UInt8))).length c14] .nil)))) (Bs rfl rfl) (JS.endJ (((([] : List (List UInt8)) ++ x0.2) ++ ([x1] : List (List UInt8))), a13, c14) h (Es rfl) (Bs rfl rfl) [0] rfl [0] rfl))))))))))
          refine JK.alloc ttOk rfl rfl rfl rfl rfl 16 rfl (sd_upd _ rfl) (JA.next ⟨rfl, rfl, rfl, rfl, trivial⟩ [] rfl (JA.one 7 (by kernel_rfl) (JK.buildSlice ttOk rfl rfl rfl rfl rfl rfl rfl rfl rfl rfl rfl [] rfl .str [x1] ⟨rfl, rfl⟩ rfl rfl fun a11 => JA.next ⟨rfl, rfl, rfl, rfl, trivial⟩ [] rfl (JA.one 8 (by kernel_rfl) (JK.appendR' ttOk rfl rfl rfl rfl ⟨rfl, rfl, rfl, rfl, trivial, rfl, rfl, rfl, rfl⟩ rfl rfl rfl [1] rfl 1 rfl g12 rfl fun a13 c14 => JA.next ⟨rfl, rfl, rfl, rfl, trivial⟩ [] rfl (JA.regL ttOk panic_cx 1 [9] rfl (by kernel_rfl) [] [(16, .v (.agg #[.int .i64 x0.1, .slice a13 ((([] : List (List UInt8)) ++ x0.2) ++ ([x1] : List (List UInt8))).length c14]))] rfl ⟨rfl, trivial⟩ (JA.one 11 (by kernel_rfl) (JK.stBox ttOk rfl rfl rfl rfl rfl rfl rfl rfl (JA.nextL rfl (JA.done (by kernel_rfl) (JS.boxes (B' := (.new 2 50 [.int .i64 x0.1, .slice a3 x0.2.length c4] (.new 3 50 [.int .i64 0, .slice none 0 0] (.new 16 50 [.int .i64 x0.1, .slice a13 ((([] : List (List UInt8)) ++ x0.2) ++ ([x1] : List (List UInt8))).length c14] .nil)))) (Bs rfl rfl) (JS.endJ (((([] : List (List UInt8)) ++ x0.2) ++ ([x1] : List (List UInt8))), a13, c14) h (Es rfl) (Bs rfl rfl) [0] rfl [0] rfl))))))))))))
        · refine JK.buildSlice ttOk rfl rfl rfl rfl rfl rfl rfl rfl rfl rfl rfl [] rfl .str [x1] ⟨rfl, rfl⟩ rfl rfl fun a11 => JA.next ⟨rfl, rfl, rfl, rfl, trivial⟩ [] rfl ?_
          refine JA.all (rs := [5, 10]) (by kernel_rfl) rfl (List.forall_mem_cons.2 ⟨?_, List.forall_mem_cons.2 ⟨?_, (fun _ hx => absurd hx List.not_mem_nil)⟩⟩)
          · refine JK.appendR' ttOk rfl rfl rfl rfl ⟨rfl, rfl, rfl, rfl, trivial, rfl, rfl, rfl, rfl⟩ rfl rfl rfl [1] rfl 0 rfl g8 rfl fun a9 c10 => JA.next ⟨rfl, rfl, rfl, rfl, trivial⟩ [] rfl ?_
            refine JA.all (rs := [8, 10]) (by kernel_rfl) rfl (List.forall_mem_cons.2 ⟨?_, List.forall_mem_cons.2 ⟨?_, (fun _ hx => absurd hx List.not_mem_nil)⟩⟩)
            · refine JK.appendR' ttOk rfl rfl rfl rfl ⟨rfl, rfl, rfl, rfl, trivial, rfl, rfl, rfl, rfl⟩ rfl rfl rfl [0] rfl 2 rfl g12 rfl fun a13 c14 => JA.next ⟨rfl, rfl, rfl, rfl, trivial⟩ [] rfl (JA.regL ttOk panic_cx 2 [9] rfl (by kernel_rfl) [] [(16, .v (.agg #[.int .i64 x0.1, .slice a13 ((([] : List (List UInt8)) ++ x0.2) ++ ([x1] : List (List UInt8))).length c14]))] rfl ⟨rfl, trivial⟩ (JA.one 10 (by kernel_rfl) (JK.alloc ttOk rfl rfl rfl rfl rfl 16 rfl (sd_upd _ rfl) (JA.next ⟨rfl, rfl, rfl, rfl, trivial⟩ [] rfl (JA.one 11 (by kernel_rfl) (JK.stBox ttOk rfl rfl rfl rfl rfl rfl rfl rfl (JA.nextL rfl (JA.done (by kernel_rfl) (JS.boxes (B' := (.new 2 50 [.int .i64 x0.1, .slice a3 x0.2.length c4] (.new 3 50 [.int .i64 0, .slice none 0 0] (.new 16 50 [.int .i64 x0.1, .slice a13 ((([] : List (List UInt8)) ++ x0.2) ++ ([x1] : List (List UInt8))).length c14] .nil)))) (Bs rfl rfl) (JS.endJ (((([] : List (List UInt8)) ++ x0.2) ++ ([x1] : List (List UInt8))), a13, c14) h (Es rfl) (Bs rfl rfl) [0] rfl [0] rfl))))))))))
            refine JK.alloc ttOk rfl rfl rfl rfl rfl 16 rfl (sd_upd _ rfl) (JA.next ⟨rfl, rfl, rfl, rfl, trivial⟩ [] rfl (JA.one 8 (by kernel_rfl) (JK.appendR' ttOk rfl rfl rfl rfl ⟨rfl, rfl, rfl, rfl, trivial, rfl, rfl, rfl, rfl⟩ rfl rfl rfl [0] rfl 2 rfl g12 rfl fun a13 c14 => JA.next ⟨rfl, rfl, rfl, rfl, trivial⟩ [] rfl (JA.regL ttOk panic_cx 1 [9] rfl (by kernel_rfl) [] [(16, .v (.agg #[.int .i64 x0.1, .slice a13 ((([] : List (List UInt8)) ++ x0.2) ++ ([x1] : List (List UInt8))).length c14]))] rfl ⟨rfl, trivial⟩ (JA.one 11 (by kernel_rfl) (JK.stBox ttOk rfl rfl rfl rfl rfl rfl rfl rfl (JA.nextL rfl (JA.done (by kernel_rfl) (JS.boxes (B' := (.new 2 50 [.int .i64 x0.1, .slice a3 x0.2.length c4] (.new 3 50 [.int .i64 0, .slice none 0 0] (.new 16 50 [.int .i64 x0.1, .slice a13 ((([] : List (List UInt8)) ++ x0.2) ++ ([x1] : List (List UInt8))).length c14] .nil)))) (Bs rfl rfl) (JS.endJ (((([] : List (List UInt8)) ++ x0.2) ++ ([x1] : List (List UInt8))), a13, c14) h (Es rfl) (Bs rfl rfl) [0] rfl [0] rfl))))))))))
          refine JK.alloc ttOk rfl rfl rfl rfl rfl 16 rfl (sd_upd _ rfl) (JA.next ⟨rfl, rfl, rfl, rfl, trivial⟩ [] rfl (JA.one 5 (by kernel_rfl) (JK.appendR' ttOk rfl rfl rfl rfl ⟨rfl, rfl, rfl, rfl, trivial, rfl, rfl, rfl, rfl⟩ rfl rfl rfl [1] rfl 0 rfl g8 rfl fun a9 c10 => JA.next ⟨rfl, rfl, rfl, rfl, trivial⟩ [] rfl (JA.one 8 (by kernel_rfl) (JK.appendR' ttOk rfl rfl rfl rfl ⟨rfl, rfl, rfl, rfl, trivial, rfl, rfl, rfl, rfl⟩ rfl rfl rfl [0] rfl 2 rfl g12 rfl fun a13 c14 => JA.next ⟨rfl, rfl, rfl, rfl, trivial⟩ [] rfl (JA.regL ttOk panic_cx 1 [9] rfl (by kernel_rfl) [] [(16, .v (.agg #[.int .i64 x0.1, .slice a13 ((([] : List (List UInt8)) ++ x0.2) ++ ([x1] : List (List UInt8))).length c14]))] rfl ⟨rfl, trivial⟩ (JA.one 11 (by kernel_rfl) (JK.stBox ttOk rfl rfl rfl rfl rfl rfl rfl rfl (JA.nextL rfl (JA.done (by kernel_rfl) (JS.boxes (B' := (.new 2 50 [.int .i64 x0.1, .slice a3 x0.2.length c4] (.new 3 50 [.int .i64 0, .slice none 0 0] (.new 16 50 [.int .i64 x0.1, .slice a13 ((([] : List (List UInt8)) ++ x0.2) ++ ([x1] : List (List UInt8))).length c14] .nil)))) (Bs rfl rfl) (JS.endJ (((([] : List (List UInt8)) ++ x0.2) ++ ([x1] : List (List UInt8))), a13, c14) h (Es rfl) (Bs rfl rfl) [0] rfl [0] rfl))))))))))))
        refine JK.alloc ttOk rfl rfl rfl rfl rfl 16 rfl (sd_upd _ rfl) (JA.next ⟨rfl, rfl, rfl, rfl, trivial⟩ [] rfl ?_)
        refine JA.all (rs := [5, 7]) (by kernel_rfl) rfl (List.forall_mem_cons.2 ⟨?_, List.forall_mem_cons.2 ⟨?_, (fun _ hx => absurd hx List.not_mem_nil)⟩⟩)
        · refine JK.appendR' ttOk rfl rfl rfl rfl ⟨rfl, rfl, rfl, rfl, trivial, rfl, rfl, rfl, rfl⟩ rfl rfl rfl [0] rfl 0 rfl g8 rfl fun a9 c10 => JA.next ⟨rfl, rfl, rfl, rfl, trivial⟩ [] rfl (JA.one 7 (by kernel_rfl) (JK.buildSlice ttOk rfl rfl rfl rfl rfl rfl rfl rfl rfl rfl rfl [] rfl .str [x1] ⟨rfl, rfl⟩ rfl rfl fun a11 => JA.next ⟨rfl, rfl, rfl, rfl, trivial⟩ [] rfl (JA.one 8 (by kernel_rfl) (JK.appendR' ttOk rfl rfl rfl rfl ⟨rfl, rfl, rfl, rfl, trivial, rfl, rfl, rfl, rfl⟩ rfl rfl rfl [1] rfl 1 rfl g12 rfl fun a13 c14 => JA.next ⟨rfl, rfl, rfl, rfl, trivial⟩ [] rfl (JA.regL ttOk panic_cx 1 [9] rfl (by kernel_rfl) [] [(16, .v (.agg #[.int .i64 x0.1, .slice a13 ((([] : List (List UInt8)) ++ x0.2) ++ ([x1] : List (List UInt8))).length c14]))] rfl ⟨rfl, trivial⟩ (JA.one 11 (by kernel_rfl) (JK.stBox ttOk rfl rfl rfl rfl rfl rfl rfl rfl (JA.nextL rfl (JA.done (by kernel_rfl) (JS.boxes (B' := (.new 2 50 [.int .i64 x0.1, .slice a3 x0.2.length c4] (.new 3 50 [.int .i64 0, .slice none 0 0] (.new 16 50 [.int .i64 x0.1, .slice a13 ((([] : List (List UInt8)) ++ x0.2) ++ ([x1] : List (List UInt8))).length c14] .nil)))) (Bs rfl rfl) (JS.endJ (((([] : List (List UInt8)) ++ x0.2) ++ ([x1] : List (List UInt8))), a13, c14) h (Es rfl) (Bs rfl rfl) [0] rfl [0] rfl)))))))))))
        refine JK.buildSlice ttOk rfl rfl rfl rfl rfl rfl rfl rfl rfl rfl rfl [] rfl .str [x1] ⟨rfl, rfl⟩ rfl rfl fun a11 => JA.next ⟨rfl, rfl, rfl, rfl, trivial⟩ [] rfl (JA.one 5 (by kernel_rfl) (JK.appendR' ttOk rfl rfl rfl rfl ⟨rfl, rfl, rfl, rfl, trivial, rfl, rfl, rfl, rfl⟩ rfl rfl rfl [1] rfl 0 rfl g8 rfl fun a9 c10 => JA.next ⟨rfl, rfl, rfl, rfl, trivial⟩ [] rfl (JA.one 8 (by kernel_rfl) (JK.appendR' ttOk rfl rfl rfl rfl ⟨rfl, rfl, rfl, rfl, trivial, rfl, rfl, rfl, rfl⟩ rfl rfl rfl [0] rfl 2 rfl g12 rfl fun a13 c14 => JA.next ⟨rfl, rfl, rfl, rfl, trivial⟩ [] rfl (JA.regL ttOk panic_cx 1 [9] rfl (by kernel_rfl) [] [(16, .v (.agg #[.int .i64 x0.1, .slice a13 ((([] : List (List UInt8)) ++ x0.2) ++ ([x1] : List (List UInt8))).length c14]))] rfl ⟨rfl, trivial⟩ (JA.one 11 (by kernel_rfl) (JK.stBox ttOk rfl rfl rfl rfl rfl rfl rfl rfl (JA.nextL rfl (JA.done (by kernel_rfl) (JS.boxes (B' := (.new 2 50 [.int .i64 x0.1, .slice a3 x0.2.length c4] (.new 3 50 [.int .i64 0, .slice none 0 0] (.new 16 50 [.int .i64 x0.1, .slice a13 ((([] : List (List UInt8)) ++ x0.2) ++ ([x1] : List (List UInt8))).length c14] .nil)))) (Bs rfl rfl) (JS.endJ (((([] : List (List UInt8)) ++ x0.2) ++ ([x1] : List (List UInt8))), a13, c14) h (Es rfl) (Bs rfl rfl) [0] rfl [0] rfl)))))))))))
      · refine JK.buildSlice ttOk rfl rfl rfl rfl rfl rfl rfl rfl rfl rfl rfl [] rfl .str [x1] ⟨rfl, rfl⟩ rfl rfl fun a11 => JA.next ⟨rfl, rfl, rfl, rfl, trivial⟩ [] rfl ?_
        refine JA.all (rs := [2, 10]) (by kernel_rfl) rfl (List.forall_mem_cons.2 ⟨?_, List.forall_mem_cons.2 ⟨?_, (fun _ hx => absurd hx List.not_mem_nil)⟩⟩)
        · refine JK.buildSlice ttOk rfl rfl rfl rfl rfl rfl rfl rfl rfl rfl rfl [] rfl .str [] ⟨rfl, rfl⟩ rfl rfl fun a7 => JA.next ⟨rfl, rfl, rfl, rfl, trivial⟩ [] rfl ?_
          refine JA.all (rs := [5, 10]) (by kernel_rfl) rfl (List.forall_mem_cons.2 ⟨?_, List.forall_mem_cons.2 ⟨?_, (fun _ hx => absurd hx List.not_mem_nil)⟩⟩)
          · refine JK.appendR' ttOk rfl rfl rfl rfl ⟨rfl, rfl, rfl, rfl, trivial, rfl, rfl, rfl, rfl⟩ rfl rfl rfl [0] rfl 0 rfl g8 rfl fun a9 c10 => JA.next ⟨rfl, rfl, rfl, rfl, trivial⟩ [] rfl ?_
            refine JA.all (rs := [8, 10]) (by kernel_rfl) rfl (List.forall_mem_cons.2 ⟨?_, List.forall_mem_cons.2 ⟨?_, (fun _ hx => absurd hx List.not_mem_nil)⟩⟩)
            · refine JK.appendR' ttOk rfl rfl rfl rfl ⟨rfl, rfl, rfl, rfl, trivial, rfl, rfl, rfl, rfl⟩ rfl rfl rfl [0] rfl 2 rfl g12 rfl fun a13 c14 => JA.next ⟨rfl, rfl, rfl, rfl, trivial⟩ [] rfl (JA.regL ttOk panic_cx 2 [9] rfl (by kernel_rfl) [] [(16, .v (.agg #[.int .i64 x0.1, .slice a13 ((([] : List (List UInt8)) ++ x0.2) ++ ([x1] : List (List UInt8))).length c14]))] rfl ⟨rfl, trivial⟩ (JA.one 10 (by kernel_rfl) (JK.alloc ttOk rfl rfl rfl rfl rfl 16 rfl (sd_upd _ rfl) (JA.next ⟨rfl, rfl, rfl, rfl, trivial⟩ [] rfl (JA.one 11 (by kernel_rfl) (JK.stBox ttOk rfl rfl rfl rfl rfl rfl rfl rfl (JA.nextL rfl (JA.done (by kernel_rfl) (JS.boxes (B' := (.new 2 50 [.int .i64 x0.1, .slice a3 x0.2.length c4] (.new 3 50 [.int .i64 0, .slice none 0 0] (.new 16 50 [.int .i64 x0.1, .slice a13 ((([] : List (List UInt8)) ++ x0.2) ++ ([x1] : List (List UInt8))).length c14] .nil)))) (Bs rfl rfl) (JS.endJ (((([] : List (List UInt8)) ++ x0.2) ++ ([x1] : List (List UInt8))), a13, c14) h (Es rfl) (Bs rfl rfl) [0] rfl [0] rfl))))))))))
            refine JK.alloc ttOk rfl rfl rfl rfl rfl 16 rfl (sd_upd _ rfl) (JA.next ⟨rfl, rfl, rfl, rfl, trivial⟩ [] rfl (JA.one 8 (by kernel_rfl) (JK.appendR' ttOk rfl rfl rfl rfl ⟨rfl, rfl, rfl, rfl, trivial, rfl, rfl, rfl, rfl⟩ rfl rfl rfl [0] rfl 2 rfl g12 rfl fun a13 c14 => JA.next ⟨rfl, rfl, rfl, rfl, trivial⟩ [] rfl (JA.regL ttOk panic_cx 1 [9] rfl (by kernel_rfl) [] [(16, .v (.agg #[.int .i64 x0.1, .slice a13 ((([] : List (List UInt8)) ++ x0.2) ++ ([x1] : List (List UInt8))).length c14]))] rfl ⟨rfl, trivial⟩ (JA.one 11 (by kernel_rfl) (JK.stBox ttOk rfl rfl rfl rfl rfl rfl rfl rfl (JA.nextL rfl (JA.done (by kernel_rfl) (JS.boxes (B' := (.new 2 50 [.int .i64 x0.1, .slice a3 x0.2.length c4] (.new 3 50 [.int .i64 0, .slice none 0 0] (.new 16 50 [.int .i64 x0.1, .slice a13 ((([] : List (List UInt8)) ++ x0.2) ++ ([x1] : List (List UInt8))).length c14] .nil)))) (Bs rfl rfl) (JS.endJ (((([] : List (List UInt8)) ++ x0.2) ++ ([x1] : List (List UInt8))), a13, c14) h (Es rfl) (Bs rfl rfl) [0] rfl [0] rfl))))))))))
          refine JK.alloc ttOk rfl rfl rfl rfl rfl 16 rfl (sd_upd _ rfl) (JA.next ⟨rfl, rfl, rfl, rfl, trivial⟩ [] rfl (JA.one 5 (by kernel_rfl) (JK.appendR' ttOk rfl rfl rfl rfl ⟨rfl, rfl, rfl, rfl, trivial, rfl, rfl, rfl, rfl⟩ rfl rfl rfl [0] rfl 0 rfl g8 rfl fun a9 c10 => JA.next ⟨rfl, rfl, rfl, rfl, trivial⟩ [] rfl (JA.one 8 (by kernel_rfl) (JK.appendR' ttOk rfl rfl rfl rfl ⟨rfl, rfl, rfl, rfl, trivial, rfl, rfl, rfl, rfl⟩ rfl rfl rfl [0] rfl 2 rfl g12 rfl fun a13 c14 => JA.next ⟨rfl, rfl, rfl, rfl, trivial⟩ [] rfl (JA.regL ttOk panic_cx 1 [9] rfl (by kernel_rfl) [] [(16, .v (.agg #[.int .i64 x0.1, .slice a13 ((([] : List (List UInt8)) ++ x0.2) ++ ([x1] : List (List UInt8))).length c14]))] rfl ⟨rfl, trivial⟩ (JA.one 11 (by kernel_rfl) (JK.stBox ttOk rfl rfl rfl rfl rfl rfl rfl rfl (JA.nextL rfl (JA.done (by kernel_rfl) (JS.boxes (B' := (.new 2 50 [.int .i64 x0.1, .slice a3 x0.2.length c4] (.new 3 50 [.int .i64 0, .slice none 0 0] (.new 16 50 [.int .i64 x0.1, .slice a13 ((([] : List (List UInt8)) ++ x0.2) ++ ([x1] : List (List UInt8))).length c14] .nil)))) (Bs rfl rfl) (JS.endJ (((([] : List (List UInt8)) ++ x0.2) ++ ([x1] : List (List UInt8))), a13, c14) h (Es rfl) (Bs rfl rfl) [0] rfl [0] rfl))))))))))))
        refine JK.alloc ttOk rfl rfl rfl rfl rfl 16 rfl (sd_upd _ rfl) (JA.next ⟨rfl, rfl, rfl, rfl, trivial⟩ [] rfl (JA.one 2 (by kernel_rfl) (JK.buildSlice ttOk rfl rfl rfl rfl rfl rfl rfl rfl rfl rfl rfl [] rfl .str [] ⟨rfl, rfl⟩ rfl rfl fun a7 => JA.next ⟨rfl, rfl, rfl, rfl, trivial⟩ [] rfl (JA.one 5 (by kernel_rfl) (JK.appendR' ttOk rfl rfl rfl rfl ⟨rfl, rfl, rfl, rfl, trivial, rfl, rfl, rfl, rfl⟩ rfl rfl rfl [0] rfl 0 rfl g8 rfl fun a9 c10 => JA.next ⟨rfl, rfl, rfl, rfl, trivial⟩ [] rfl (JA.one 8 (by kernel_rfl) (JK.appendR' ttOk rfl rfl rfl rfl ⟨rfl, rfl, rfl, rfl, trivial, rfl, rfl, rfl, rfl⟩ rfl rfl rfl [0] rfl 2 rfl g12 rfl fun a13 c14 => JA.next ⟨rfl, rfl, rfl, rfl, trivial⟩ [] rfl (JA.regL ttOk panic_cx 1 [9] rfl (by kernel_rfl) [] [(16, .v (.agg #[.int .i64 x0.1, .slice a13 ((([] : List (List UInt8)) ++ x0.2) ++ ([x1] : List (List UInt8))).length c14]))] rfl ⟨rfl, trivial⟩ (JA.one 11 (by kernel_rfl) (JK.stBox ttOk rfl rfl rfl rfl rfl rfl rfl rfl (JA.nextL rfl (JA.done (by kernel_rfl) (JS.boxes (B' := (.new 2 50 [.int .i64 x0.1, .slice a3 x0.2.length c4] (.new 3 50 [.int .i64 0, .slice none 0 0] (.new 16 50 [.int .i64 x0.1, .slice a13 ((([] : List (List UInt8)) ++ x0.2) ++ ([x1] : List (List UInt8))).length c14] .nil)))) (Bs rfl rfl) (JS.endJ (((([] : List (List UInt8)) ++ x0.2) ++ ([x1] : List (List UInt8))), a13, c14) h (Es rfl) (Bs rfl rfl) [0] rfl [0] rfl))))))))))))))
      refine JK.alloc ttOk rfl rfl rfl rfl rfl 16 rfl (sd_upd _ rfl) (JA.next ⟨rfl, rfl, rfl, rfl, trivial⟩ [] rfl ?_)
      refine JA.all (rs := [2, 7]) (by kernel_rfl) rfl (List.forall_mem_cons.2 ⟨?_, List.forall_mem_cons.2 ⟨?_, (fun _ hx => absurd hx List.not_mem_nil)⟩⟩)
      · refine JK.buildSlice ttOk rfl rfl rfl rfl rfl rfl rfl rfl rfl rfl rfl [] rfl .str [] ⟨rfl, rfl⟩ rfl rfl fun a7 => JA.next ⟨rfl, rfl, rfl, rfl, trivial⟩ [] rfl ?_
        refine JA.all (rs := [5, 7]) (by kernel_rfl) rfl (List.forall_mem_cons.2 ⟨?_, List.forall_mem_cons.2 ⟨?_, (fun _ hx => absurd hx List.not_mem_nil)⟩⟩)
        · refine JK.appendR' ttOk rfl rfl rfl rfl ⟨rfl, rfl, rfl, rfl, trivial, rfl, rfl, rfl, rfl⟩ rfl rfl rfl [0] rfl 0 rfl g8 rfl fun a9 c10 => JA.next ⟨rfl, rfl, rfl, rfl, trivial⟩ [] rfl (JA.one 7 (by kernel_rfl) (JK.buildSlice ttOk rfl rfl rfl rfl rfl rfl rfl rfl rfl rfl rfl [] rfl .str [x1] ⟨rfl, rfl⟩ rfl rfl fun a11 => JA.next ⟨rfl, rfl, rfl, rfl, trivial⟩ [] rfl (JA.one 8 (by kernel_rfl) (JK.appendR' ttOk rfl rfl rfl rfl ⟨rfl, rfl, rfl, rfl, trivial, rfl, rfl, rfl, rfl⟩ rfl rfl rfl [1] rfl 1 rfl g12 rfl fun a13 c14 => JA.next ⟨rfl, rfl, rfl, rfl, trivial⟩ [] rfl (JA.regL ttOk panic_cx 1 [9] rfl (by kernel_rfl) [] [(16, .v (.agg #[.int .i64 x0.1, .slice a13 ((([] : List (List UInt8)) ++ x0.2) ++ ([x1] : List (List UInt8))).length c14]))] rfl ⟨rfl, trivial⟩ (JA.one 11 (by kernel_rfl) (JK.stBox ttOk rfl rfl rfl rfl rfl rfl rfl rfl (JA.nextL rfl (JA.done (by kernel_rfl) (JS.boxes (B' := (.new 2 50 [.int .i64 x0.1, .slice a3 x0.2.length c4] (.new 3 50 [.int .i64 0, .slice none 0 0] (.new 16 50 [.int .i64 x0.1, .slice a13 ((([] : List (List UInt8)) ++ x0.2) ++ ([x1] : List (List UInt8))).length c14] .nil)))) (Bs rfl rfl) (JS.endJ (((([] : List (List UInt8)) ++ x0.2) ++ ([x1] : List (List UInt8))), a13, c14) h (Es rfl) (Bs rfl rfl) [0] rfl [0] rfl)))))))))))
        refine JK.buildSlice ttOk rfl rfl rfl rfl rfl rfl rfl rfl rfl rfl rfl [] rfl .str [x1] ⟨rfl, rfl⟩ rfl rfl fun a11 => JA.next ⟨rfl, rfl, rfl, rfl, trivial⟩ [] rfl (JA.one 5 (by kernel_rfl) (JK.appendR' ttOk rfl rfl rfl rfl ⟨rfl, rfl, rfl, rfl, trivial, rfl, rfl, rfl, rfl⟩ rfl rfl rfl [1] rfl 0 rfl g8 rfl fun a9 c10 => JA.next ⟨rfl, rfl, rfl, rfl, trivial⟩ [] rfl (JA.one 8 (by kernel_rfl) (JK.appendR' ttOk rfl rfl rfl rfl ⟨rfl, rfl, rfl, rfl, trivial, rfl, rfl, rfl, rfl⟩ rfl rfl rfl [0] rfl 2 rfl g12 rfl fun a13 c14 => JA.next ⟨rfl, rfl, rfl, rfl, trivial⟩ [] rfl (JA.regL ttOk panic_cx 1 [9] rfl (by kernel_rfl) [] [(16, .v (.agg #[.int .i64 x0.1, .slice a13 ((([] : List (List UInt8)) ++ x0.2) ++ ([x1] : List (List UInt8))).length c14]))] rfl ⟨rfl, trivial⟩ (JA.one 11 (by kernel_rfl) (JK.stBox ttOk rfl rfl rfl rfl rfl rfl rfl rfl (JA.nextL rfl (JA.done (by kernel_rfl) (JS.boxes (B' := (.new 2 50 [.int .i64 x0.1, .slice a3 x0.2.length c4] (.new 3 50 [.int .i64 0, .slice none 0 0] (.new 16 50 [.int .i64 x0.1, .slice a13 ((([] : List (List UInt8)) ++ x0.2) ++ ([x1] : List (List UInt8))).length c14] .nil)))) (Bs rfl rfl) (JS.endJ (((([] : List (List UInt8)) ++ x0.2) ++ ([x1] : List (List UInt8))), a13, c14) h (Es rfl) (Bs rfl rfl) [0] rfl [0] rfl)))))))))))
      refine JK.buildSlice ttOk rfl rfl rfl rfl rfl rfl rfl rfl rfl rfl rfl [] rfl .str [x1] ⟨rfl, rfl⟩ rfl rfl fun a11 => JA.next ⟨rfl, rfl, rfl, rfl, trivial⟩ [] rfl (JA.one 2 (by kernel_rfl) (JK.buildSlice ttOk rfl rfl rfl rfl rfl rfl rfl rfl rfl rfl rfl [] rfl .str [] ⟨rfl, rfl⟩ rfl rfl fun a7 => JA.next ⟨rfl, rfl, rfl, rfl, trivial⟩ [] rfl (JA.one 5 (by kernel_rfl) (JK.appendR' ttOk rfl rfl rfl rfl ⟨rfl, rfl, rfl, rfl, trivial, rfl, rfl, rfl, rfl⟩ rfl rfl rfl [0] rfl 0 rfl g8 rfl fun a9 c10 => JA.next ⟨rfl, rfl, rfl, rfl, trivial⟩ [] rfl (JA.one 8 (by kernel_rfl) (JK.appendR' ttOk rfl rfl rfl rfl ⟨rfl, rfl, rfl, rfl, trivial, rfl, rfl, rfl, rfl⟩ rfl rfl rfl [0] rfl 2 rfl g12 rfl fun a13 c14 => JA.next ⟨rfl, rfl, rfl, rfl, trivial⟩ [] rfl (JA.regL ttOk panic_cx 1 [9] rfl (by kernel_rfl) [] [(16, .v (.agg #[.int .i64 x0.1, .slice a13 ((([] : List (List UInt8)) ++ x0.2) ++ ([x1] : List (List UInt8))).length c14]))] rfl ⟨rfl, trivial⟩ (JA.one 11 (by kernel_rfl) (JK.stBox ttOk rfl rfl rfl rfl rfl rfl rfl rfl (JA.nextL rfl (JA.done (by kernel_rfl) (JS.boxes (B' := (.new 2 50 [.int .i64 x0.1, .slice a3 x0.2.length c4] (.new 3 50 [.int .i64 0, .slice none 0 0] (.new 16 50 [.int .i64 x0.1, .slice a13 ((([] : List (List UInt8)) ++ x0.2) ++ ([x1] : List (List UInt8))).length c14] .nil)))) (Bs rfl rfl) (JS.endJ (((([] : List (List UInt8)) ++ x0.2) ++ ([x1] : List (List UInt8))), a13, c14) h (Es rfl) (Bs rfl rfl) [0] rfl [0] rfl)))))))))))))
    rintro ⟨x16, a17, c18⟩ h
    subst hj42
    obtain ⟨j28, hj41, h⟩ := joinO_some h
    refine JS.seqJ (ι := Int × List (List UInt8) × Option Addr × Nat) ⟨fun z => j28 (z.1, z.2.1) = some r, fun z => [(2, .bp 2 0), (4, .bp 3 0), (6, .bp 16 0)], fun z => (.new 2 50 [.int .i64 x0.1, .slice a3 x0.2.length c4] (.new 3 50 [.int .i64 0, .slice none 0 0] (.new 16 50 [.int .i64 z.1, .slice z.2.2.1 z.2.1.length z.2.2.2] .nil))), fun z => [⟨.str, ⟨a3, x0.2.length, c4⟩, x0.2⟩], fun z => [⟨.str, ⟨z.2.2.1, z.2.1.length, z.2.2.2⟩, z.2.1⟩], fun z => 0⟩ ?_ ?_
    · refine JS.rg0 ttOk 4 [(20, .v (.bool (decide (60 < (x16.length : Int)))))] ⟨⟨rfl, trivial⟩, rfl⟩ rfl rfl ?_
      refine JS.cond rfl (fun ht38 => ?_) (fun ht38 => ?_)
      · have h := condT h ht38
        refine JS.seq (JS.region (JO.reg ttOk 2 [] [] [(22, .v (.slice a17 x16.length c18))] _ rfl ⟨⟨rfl, trivial⟩, rfl⟩ ?_))
        obtain ⟨g20, h⟩ := guardO_some h
        refine JO.sliceO' ttOk rfl rfl rfl rfl rfl rfl rfl rfl [0] rfl (1 : Int) (x16.length : Int) rfl rfl g20 rfl fun a21 c22 => JO.regB ttOk 2 [] [] [] (.new 2 50 [.int .i64 x0.1, .slice a3 x0.2.length c4] (.new 3 50 [.int .i64 0, .slice none 0 0] (.new 16 50 [.int .i64 x0.1, .slice a21 (sub' x16 1 (x16.length : Int)).length c22] .nil))) rfl ⟨trivial, (Bs rfl rfl)⟩ (JO.done rfl (JS.reB ttOk 5 [(W (x0.1 + 1))] [] [] (.new 2 50 [.int .i64 x0.1, .slice a3 x0.2.length c4] (.new 3 50 [.int .i64 0, .slice none 0 0] (.new 16 50 [.int .i64 (W (x0.1 + 1)), .slice a21 (sub' x16 1 (x16.length : Int)).length c22] .nil))) ⟨⟨trivial, rfl⟩, trivial, (Bs rfl rfl)⟩ rfl rfl (JS.endJ ((W (x0.1 + 1)), (sub' x16 1 (x16.length : Int)), a21, c22) h (Es rfl) (Bs rfl rfl) [0] rfl [0] rfl)))
      have h := condF h ht38
      refine JS.skip (JS.endJ (x0.1, x16, a17, c18) h (Es rfl) (Bs rfl rfl) [0] rfl [0] rfl)
    rintro ⟨x24, x25, a26, c27⟩ h
    subst hj41
    refine JS.seq (JS.seq (JS.region (JO.reg ttOk 1 [] [] [(29, .v (.agg #[.int .i64 x0.1, .slice a3 x0.2.length c4]))] _ rfl ⟨⟨rfl, trivial⟩, rfl⟩ ?_)))
    obtain ⟨y30, hy31, h⟩ := bindO_some h
    refine JO.call rfl rfl rfl rfl (ok_s_HistOk x0 a3 c4 x0.2.length rfl _ hy31) rfl [0] rfl rfl fun _ _ => JO.reg ttOk 3 [] [] [(32, .v (.bool (!y30))), (33, .cd [(32, false)] (.v (.agg #[.int .i64 x24, .slice a26 x25.length c27])))] _ rfl ⟨(Es rfl), rfl⟩ ?_
    obtain ⟨y32, hy33, -, h⟩ := callO_some h
    refine JO.callg rfl rfl rfl rfl (fun q39 => ok_s_HistOk (x24, x25) a26 c27 x25.length rfl _ (hy33 q39)) rfl [1] rfl rfl (JO.reg ttOk 2 [] [] [(36, .v (.bool (bif (!y30) then true else (!y32))))] _ rfl ⟨⟨rfl, trivial⟩, rfl⟩ (JO.done rfl ?_))
    refine JS.cond rfl (fun ht40 => ?_) (fun ht40 => ?_)
    · have h := condT h ht40
      refine JS.rgB ttOk 3 [] [] [(5, .v (.bool false))] (.new 3 50 [.int .i64 0, .slice none 0 0] .nil) ⟨⟨rfl, trivial⟩, (Bs rfl rfl)⟩ rfl rfl ?_
      cases h
      refine JS.nilO .str Sl.nil rfl rfl (JS.ret ttOk (none, 0) trivial rfl rfl [0] rfl)
    have h := condF h ht40
    refine JS.skip (JS.rgB ttOk 3 [] [] [(5, .v (.bool true))] (.new 3 50 [.int .i64 x24, .slice a26 x25.length c27] .nil) ⟨⟨rfl, trivial⟩, (Bs rfl rfl)⟩ rfl rfl ?_)
    cases h
    exact JS.ret ttOk (a26, c27) trivial rfl rfl [0] rfl

def M_s_l16Draw_L1 (x0 : List UInt8 × Int × Int) (j59 : (Int × List (List UInt8) × Int × Int) → Option ((Int × List (List UInt8)) × List UInt8 × Int × Int)) (k50 : (Int × Int × List (List UInt8) × Int × Int) → Option ((Int × List (List UInt8)) × List UInt8 × Int × Int)) : (Int × Int × List (List UInt8) × Int × Int) → Option ((Int × List (List UInt8)) × List UInt8 × Int × Int) := fun (x25, x30, x31, x37, x38) =>
  (bif (decide (0 < x25)) then
  (bindO (M_s_l05Text (x0.1, x37, x38)) fun (y39, y40) =>
  (bindO (M_s_HistAdd (x30, x31) y39) fun (y42, y43) =>
  k50 ((W (x25 - 1)), y42.1, y42.2, y40.2.1, y40.2.2)))
  else
  j59 (x30, x31, x37, x38))

def M_s_l16Draw (x0 : List UInt8 × Int × Int) : Option ((Int × List (List UInt8)) × List UInt8 × Int × Int) :=
  (bindO (M_s_l01Below x0 5) fun (y7, y8) =>
  (bindO (M_s_l01Below (x0.1, y8.2.1, y8.2.2) 8) fun (y10, y11) =>
  (joinO (fun ((x20, x21, x22) : Int × Int × Int) =>
  (joinO (fun ((x53, x54, x57, x58) : Int × List (List UInt8) × Int × Int) =>
  some ((x53, x54), (x0.1, x57, x58))) fun j59 =>
  (fixF (M_s_l16Draw_L1 x0 j59) FUEL (x20, (W (1 + y7)), ([] : List (List UInt8)), x21, x22)))) fun j23 =>
  (bindO (M_s_l01Below (x0.1, y11.2.1, y11.2.2) 12) fun (y13, y14) =>
  (bif (decide (y13 = 0)) then
  (bindO (M_s_l01Below (x0.1, y14.2.1, y14.2.2) 4) fun (y16, y17) =>
  j23 ((W (59 + y16)), y17.2.1, y17.2.2))
  else
  j23 (y10, y14.2.1, y14.2.2))))))

theorem ok_s_l16Draw (x0 : List UInt8 × Int × Int) (a2 : Option Addr) (a3 : Option Addr) (c4 : Nat) (l5 : Nat) (hl6 : x0.1.length = l5) (r : (Int × List (List UInt8)) × List UInt8 × Int × Int) (h : M_s_l16Draw x0 = some r) :
    FX Tryz.prog 95 [.pointer a2] [⟨.byte, ⟨a3, l5, c4⟩, x0.1⟩] [⟨(.pair .val (.pair (.int .i64) (.int .i64))), ⟨a2, 1, 1⟩, [((Sl.v ⟨a3, l5, c4⟩), x0.2.1, x0.2.2)]⟩] (fun _ : Option Addr × Nat => True) (fun q => .agg #[.int .i64 r.1.1, .slice q.1 r.1.2.length q.2]) (fun q => [⟨(.pair .val (.pair (.int .i64) (.int .i64))), ⟨a2, 1, 1⟩, [((Sl.v ⟨a3, l5, c4⟩), r.2.2.1, r.2.2.2)]⟩, ⟨.str, ⟨q.1, r.1.2.length, q.2⟩, r.1.2⟩]) :=
  by
    subst hl6
    refine FX.of (T := TTx) Tryz.call95 Tryz.func95 rfl rfl fun w0 L0 => ?_
    unfold M_s_l16Draw at h
    refine JS.ptr 0 a2 rfl ?_
    refine JS.rgB ttOk 1 [] [3] [(2, .bp 3 0)] (.new 3 50 [.int .i64 0, .slice none 0 0] .nil) ⟨⟨rfl, trivial⟩, (Bs rfl rfl)⟩ rfl rfl (JS.seq (JS.region (JO.reg ttOk 1 [] [] [(5, .ep ⟨a2, 1, 1⟩ 0)] _ rfl ⟨⟨rfl, trivial⟩, rfl⟩ ?_)))
    obtain ⟨⟨y7, y8⟩, hy9, h⟩ := bindO_some h
    refine JO.callX rfl rfl rfl rfl (ok_s_l01Below x0 5 a2 a3 c4 x0.1.length rfl _ hy9) rfl [0] rfl [0] rfl rfl fun _ _ => JO.regB ttOk 4 [(W (1 + y7))] [7] [(3, .bp 7 0)] (.new 3 50 [.int .i64 0, .slice none 0 0] (.new 7 50 [.int .i64 (W (1 + y7)), .slice none 0 0] .nil)) rfl ⟨⟨trivial, rfl⟩, ⟨rfl, trivial⟩, (Bs rfl rfl)⟩ (JO.done rfl (JS.seq (JS.region (JO.reg ttOk 1 [] [] [(9, .ep ⟨a2, 1, 1⟩ 0)] _ rfl ⟨⟨rfl, trivial⟩, rfl⟩ ?_))))
    obtain ⟨⟨y10, y11⟩, hy12, h⟩ := bindO_some h
    refine JO.callX rfl rfl rfl rfl (ok_s_l01Below (x0.1, y8.2.1, y8.2.2) 8 a2 a3 c4 x0.1.length rfl _ hy12) rfl [0] rfl [0] rfl rfl fun _ _ => JO.reg ttOk 1 [] [] [(4, .v (.int .i64 y10))] _ rfl ⟨⟨rfl, trivial⟩, rfl⟩ (JO.done rfl ?_)
    obtain ⟨j23, hj66, h⟩ := joinO_some h
    refine JS.seqJ (ι := Int × Int × Int) ⟨fun z => j23 (z.1, z.2.1, z.2.2) = some r, fun z => [(0, .ep ⟨a2, 1, 1⟩ 0), (2, .bp 3 0), (3, .bp 7 0), (4, .v (.int .i64 z.1))], fun z => (.new 3 50 [.int .i64 0, .slice none 0 0] (.new 7 50 [.int .i64 (W (1 + y7)), .slice none 0 0] .nil)), fun z => [⟨.byte, ⟨a3, x0.1.length, c4⟩, x0.1⟩], fun z => [⟨(.pair .val (.pair (.int .i64) (.int .i64))), ⟨a2, 1, 1⟩, [((Sl.v ⟨a3, x0.1.length, c4⟩), z.2.1, z.2.2)]⟩], fun z => 0⟩ ?_ ?_
    · refine JS.seq (JS.region (JO.reg ttOk 1 [] [] [(11, .ep ⟨a2, 1, 1⟩ 0)] _ rfl ⟨⟨rfl, trivial⟩, rfl⟩ ?_))
      obtain ⟨⟨y13, y14⟩, hy15, h⟩ := bindO_some h
      refine JO.callX rfl rfl rfl rfl (ok_s_l01Below (x0.1, y11.2.1, y11.2.2) 12 a2 a3 c4 x0.1.length rfl _ hy15) rfl [0] rfl [0] rfl rfl fun _ _ => JO.reg ttOk 1 [] [] [(13, .v (.bool (decide (y13 = 0))))] _ rfl ⟨⟨rfl, trivial⟩, rfl⟩ (JO.done rfl ?_)
      refine JS.cond rfl (fun ht63 => ?_) (fun ht63 => ?_)
      · have h := condT h ht63
        refine JS.region (JO.reg ttOk 1 [] [] [(14, .ep ⟨a2, 1, 1⟩ 0)] _ rfl ⟨⟨rfl, trivial⟩, rfl⟩ ?_)
        obtain ⟨⟨y16, y17⟩, hy18, h⟩ := bindO_some h
        refine JO.callX rfl rfl rfl rfl (ok_s_l01Below (x0.1, y14.2.1, y14.2.2) 4 a2 a3 c4 x0.1.length rfl _ hy18) rfl [0] rfl [0] rfl rfl fun _ _ => JO.reg ttOk 2 [(W (59 + y16))] [] [(4, .v (.int .i64 (W (59 + y16))))] _ rfl ⟨⟨trivial, rfl⟩, ⟨rfl, trivial⟩, rfl⟩ (JO.done rfl (JS.endJ ((W (59 + y16)), y17.2.1, y17.2.2) h (Es rfl) (Bs rfl rfl) [0] rfl [0] rfl))
      have h := condF h ht63
      refine JS.skip (JS.endJ (y10, y14.2.1, y14.2.2) h (Es rfl) (Bs rfl rfl) [0] rfl [0] rfl)
    rintro ⟨x20, x21, x22⟩ h
    subst hj66
    refine JS.seq ?_
    obtain ⟨j59, hj65, h⟩ := joinO_some h
    refine JS.blockJ (ι := Int × List (List UInt8) × Int × Int × Option Addr × Nat) ⟨fun z => j59 (z.1, z.2.1, z.2.2.1, z.2.2.2.1) = some r, fun z => [(2, .bp 3 0), (3, .bp 7 0)], fun z => (.new 3 50 [.int .i64 0, .slice none 0 0] (.new 7 50 [.int .i64 z.1, .slice z.2.2.2.2.1 z.2.1.length z.2.2.2.2.2] .nil)), fun z => [⟨.byte, ⟨a3, x0.1.length, c4⟩, x0.1⟩], fun z => [⟨.str, ⟨z.2.2.2.2.1, z.2.1.length, z.2.2.2.2.2⟩, z.2.1⟩, ⟨(.pair .val (.pair (.int .i64) (.int .i64))), ⟨a2, 1, 1⟩, [((Sl.v ⟨a3, x0.1.length, c4⟩), z.2.2.1, z.2.2.2.1)]⟩], fun z => 0⟩ ?_ ?_
    · refine JS.nilO .str Sl.nil rfl rfl (JS.loop (ι := Nat × Int × Int × List (List UInt8) × Int × Int × Option Addr × Nat) ⟨fun z => fixF (M_s_l16Draw_L1 x0 j59) z.1 (z.2.1, z.2.2.1, z.2.2.2.1, z.2.2.2.2.1, z.2.2.2.2.2.1) = some r, fun z => [(0, .ep ⟨a2, 1, 1⟩ 0), (2, .bp 3 0), (3, .bp 7 0), (4, .v (.int .i64 z.2.1))], fun z => (.new 3 50 [.int .i64 0, .slice none 0 0] (.new 7 50 [.int .i64 z.2.2.1, .slice z.2.2.2.2.2.2.1 z.2.2.2.1.length z.2.2.2.2.2.2.2] .nil)), fun z => [⟨.byte, ⟨a3, x0.1.length, c4⟩, x0.1⟩], fun z => [⟨.str, ⟨z.2.2.2.2.2.2.1, z.2.2.2.1.length, z.2.2.2.2.2.2.2⟩, z.2.2.2.1⟩, ⟨(.pair .val (.pair (.int .i64) (.int .i64))), ⟨a2, 1, 1⟩, [((Sl.v ⟨a3, x0.1.length, c4⟩), z.2.2.2.2.1, z.2.2.2.2.2.1)]⟩], fun z => z.1⟩ (FUEL, x20, (W (1 + y7)), ([] : List (List UInt8)), x21, x22, none, 0) h (Es rfl) (Bs rfl rfl) [0] rfl [0, 0] rfl ?_)
      rintro ⟨n51, x25, x30, x31, x37, x38, a32, c33⟩ h
      obtain ⟨n51, rfl, h⟩ := fixF_some h
      rw [M_s_l16Draw_L1] at h
      refine JS.seq (JS.rg0 ttOk 2 [(18, .v (.bool (decide (0 < x25))))] ⟨⟨rfl, trivial⟩, rfl⟩ rfl rfl ?_)
      refine JS.cond rfl (fun ht64 => ?_) (fun ht64 => ?_)
      · have h := condT h ht64
        refine JS.skip (JS.seq (JS.block ?_))
        obtain ⟨⟨y39, y40⟩, hy41, h⟩ := bindO_some h
        obtain ⟨⟨y42, y43⟩, hy44, h⟩ := bindO_some h
        refine JS.regionA rfl (.new 7 50 [.int .i64 x30, .slice a32 x31.length c33] .nil) [] [3, 4, 5, 6, 7] ⟨rfl, rfl, rfl, rfl, trivial⟩ rfl (fun be47 => ?_)
        refine JA.reg ttOk panic_cxX true 6 [0, 1] rfl (by kernel_rfl) [] [(22, .v (.agg #[.int .i64 x30, .slice a32 x31.length c33])), (23, .ep ⟨a2, 1, 1⟩ 0)] ⟨rfl, rfl, rfl, rfl, trivial⟩ [] rfl rfl (Es rfl) (JA.one 2 (by kernel_rfl) (JK.callX rfl rfl rfl rfl (ok_s_l05Text (x0.1, x37, x38) a2 a3 c4 x0.1.length rfl _ hy41) rfl [1] rfl [0] rfl rfl fun _ _ => JA.next ⟨rfl, rfl, rfl, rfl, trivial⟩ [] rfl (JA.one 3 (by kernel_rfl) (JK.call rfl rfl rfl rfl (ok_s_HistAdd (x30, x31) y39 a32 c33 x31.length rfl _ hy44) rfl [2] rfl rfl ?_))))
        rintro ⟨a45, c46⟩ -
        refine JA.nextL rfl (JA.regL ttOk panic_cxX 1 [4, 5, 6] rfl (by kernel_rfl) [] [(26, .v (.agg #[.int .i64 y42.1, .slice a45 y42.2.length c46]))] rfl ⟨rfl, trivial⟩ (JA.one 7 (by kernel_rfl) (JK.stBox ttOk rfl rfl rfl rfl rfl rfl rfl rfl (JA.nextL rfl (JA.done (by kernel_rfl) (JS.boxes (B' := (.new 3 50 [.int .i64 0, .slice none 0 0] (.new 7 50 [.int .i64 y42.1, .slice a45 y42.2.length c46] .nil))) (Bs rfl rfl) (JS.endB (JS.re ttOk 3 [(W (x25 - 1))] [] [(4, .v (.int .i64 (W (x25 - 1))))] _ ⟨⟨trivial, rfl⟩, ⟨rfl, trivial⟩, rfl⟩ rfl rfl (JS.endL (n51, (W (x25 - 1)), y42.1, y42.2, y40.2.1, y40.2.2, a45, c46) h (Nat.lt_succ_self _) (Es rfl) (Bs rfl rfl) [0] rfl [0, 0] rfl)))))))))
      have h := condF h ht64
      refine JS.exit rfl (JS.endJ (x30, x31, x37, x38, a32, c33) h (Es rfl) (Bs rfl rfl) [0] rfl [0, 0] rfl)
    rintro ⟨x53, x54, x57, x58, a55, c56⟩ h
    subst hj65
    refine JS.rgB ttOk 2 [] [] [] (.new 3 50 [.int .i64 x53, .slice a55 x54.length c56] .nil) ⟨trivial, (Bs rfl rfl)⟩ rfl rfl ?_
    cases h
    exact JS.retX ttOk (a55, c56) trivial rfl rfl [1, 0] rfl

def M_s_MakeEmacs (x0 : List UInt8) : Option ((Bool × Int × (List Int × Int) × Int × Int × Int × Int × Int × Int × Int × List (List Int) × (List (List Int × Int)) × Int × (List Int × Int) × List Int × Int × List Int × Int) × Int × List (List UInt8)) :=
  (bindO (M_s_l01New x0) fun (y6 : List UInt8 × Int × Int) =>
  (bindO (M_s_EdNew false) fun (y9 : Bool × Int × (List Int × Int) × Int × Int × Int × Int × Int × Int × Int × List (List Int) × (List (List Int × Int)) × Int × (List Int × Int) × List Int × Int × List Int × Int) =>
  (bindO (M_s_l13Draw (x0, y6.2.1, y6.2.2)) fun (y11, y12) =>
  (bindO (M_s_l15Ring (x0, y12.2.1, y12.2.2)) fun (y16, y17) =>
  (bindO (M_s_l01Below (x0, y17.2.1, y17.2.2) 4) fun (y21, y22) =>
  (bindO (M_s_l16Draw (x0, y22.2.1, y22.2.2)) fun (y24, y25) =>
  some ((y9.1, y9.2.1, y11, y9.2.2.2.1, y9.2.2.2.2.1, y9.2.2.2.2.2.1, y9.2.2.2.2.2.2.1, y9.2.2.2.2.2.2.2.1, y9.2.2.2.2.2.2.2.2.1, y21, y16, [], y9.2.2.2.2.2.2.2.2.2.2.2.2.1, ([], y9.2.2.2.2.2.2.2.2.2.2.2.2.2.1.2), [], y9.2.2.2.2.2.2.2.2.2.2.2.2.2.2.2.1, ([], y9.2.2.2.2.2.2.2.2.2.2.2.2.2.2.2.2.2)), y24)))))))

theorem ok_s_MakeEmacs (x0 : List UInt8) (a2 : Option Addr) (c3 : Nat) (l4 : Nat) (hl5 : x0.length = l4) (r : (Bool × Int × (List Int × Int) × Int × Int × Int × Int × Int × Int × Int × List (List Int) × (List (List Int × Int)) × Int × (List Int × Int) × List Int × Int × List Int × Int) × Int × List (List UInt8)) (h : M_s_MakeEmacs x0 = some r) :
    FC Tryz.prog 30 [.slice a2 l4 c3] [⟨.byte, ⟨a2, l4, c3⟩, x0⟩] (fun _ : Option Addr × Nat × Option Addr × Nat × Option Addr × Nat => True) (fun q => .tuple #[.agg (cl46 (r.1.1, r.1.2.1, r.1.2.2.1, r.1.2.2.2.1, r.1.2.2.2.2.1, r.1.2.2.2.2.2.1, r.1.2.2.2.2.2.2.1, r.1.2.2.2.2.2.2.2.1, r.1.2.2.2.2.2.2.2.2.1, r.1.2.2.2.2.2.2.2.2.2.1, r.1.2.2.2.2.2.2.2.2.2.2.1, [], r.1.2.2.2.2.2.2.2.2.2.2.2.2.1, ([], r.1.2.2.2.2.2.2.2.2.2.2.2.2.2.1.2), [], r.1.2.2.2.2.2.2.2.2.2.2.2.2.2.2.2.1, ([], r.1.2.2.2.2.2.2.2.2.2.2.2.2.2.2.2.2.2)) q.1 q.2.1 q.2.2.1 q.2.2.2.1 none 0 none 0 none 0 none 0).toArray, .agg #[.int .i64 r.2.1, .slice q.2.2.2.2.1 r.2.2.length q.2.2.2.2.2]]) (fun q => [⟨(.int .i64), ⟨q.1, r.1.2.2.1.1.length, q.2.1⟩, r.1.2.2.1.1⟩, ⟨(.sl (.int .i64)), ⟨q.2.2.1, r.1.2.2.2.2.2.2.2.2.2.2.1.length, q.2.2.2.1⟩, r.1.2.2.2.2.2.2.2.2.2.2.1⟩, ⟨.str, ⟨q.2.2.2.2.1, r.2.2.length, q.2.2.2.2.2⟩, r.2.2⟩]) :=
  by
    subst hl5
    refine FC.of (T := TTx) Tryz.call30 Tryz.func30 rfl rfl fun w0 => ?_
    unfold M_s_MakeEmacs at h
    refine JS.rgB ttOk 2 [] [2, 3] [(2, .bp 2 0), (3, .bp 3 0)] (.new 2 46 (cl46 (false, 0, ([], 0), 0, 0, 0, 0, 0, 0, 0, [], [], 0, ([], 0), [], 0, ([], 0)) none 0 none 0 none 0 none 0 none 0 none 0) (.new 3 50 [.int .i64 0, .slice none 0 0] .nil)) ⟨(Es rfl), (Bs rfl rfl)⟩ rfl rfl (JS.seq (JS.region (JO.reg ttOk 1 [] [] [(7, .v (.slice a2 x0.length c3))] _ rfl ⟨⟨rfl, trivial⟩, rfl⟩ ?_)))
    obtain ⟨y6, hy7, h⟩ := bindO_some h
    refine JO.call rfl rfl rfl rfl (ok_s_l01New x0 a2 c3 x0.length rfl _ hy7) rfl [0] rfl rfl fun a8 _ => JO.ptr 8 a8 rfl (JO.reg ttOk 1 [] [] [(4, .ep ⟨a8, 1, 1⟩ 0)] _ rfl ⟨⟨rfl, trivial⟩, rfl⟩ (JO.done rfl (JS.seq (JS.region ?_))))
    obtain ⟨y9, hy10, h⟩ := bindO_some h
    refine JO.call rfl rfl rfl rfl (ok_s_EdNew false _ hy10) rfl [] rfl rfl fun _ _ => JO.regB ttOk 2 [] [10] [(5, .bp 10 0)] (.new 2 46 (cl46 (false, 0, ([], 0), 0, 0, 0, 0, 0, 0, 0, [], [], 0, ([], 0), [], 0, ([], 0)) none 0 none 0 none 0 none 0 none 0 none 0) (.new 3 50 [.int .i64 0, .slice none 0 0] (.new 10 46 (cl46 (y9.1, y9.2.1, ([], y9.2.2.1.2), y9.2.2.2.1, y9.2.2.2.2.1, y9.2.2.2.2.2.1, y9.2.2.2.2.2.2.1, y9.2.2.2.2.2.2.2.1, y9.2.2.2.2.2.2.2.2.1, y9.2.2.2.2.2.2.2.2.2.1, [], [], y9.2.2.2.2.2.2.2.2.2.2.2.2.1, ([], y9.2.2.2.2.2.2.2.2.2.2.2.2.2.1.2), [], y9.2.2.2.2.2.2.2.2.2.2.2.2.2.2.2.1, ([], y9.2.2.2.2.2.2.2.2.2.2.2.2.2.2.2.2.2)) none 0 none 0 none 0 none 0 none 0 none 0) .nil))) rfl ⟨⟨rfl, trivial⟩, (Bs rfl rfl)⟩ (JO.done rfl (JS.seq (JS.region (JO.reg ttOk 1 [] [] [(10, .ep ⟨a8, 1, 1⟩ 0)] _ rfl ⟨⟨rfl, trivial⟩, rfl⟩ ?_))))
    obtain ⟨⟨y11, y12⟩, hy13, h⟩ := bindO_some h
    refine JO.callX rfl rfl rfl rfl (ok_s_l13Draw (x0, y6.2.1, y6.2.2) a8 a2 c3 x0.length rfl _ hy13) rfl [0] rfl [0] rfl rfl ?_
    rintro ⟨a14, c15⟩ -
    refine JO.regB ttOk 2 [] [] [] (.new 2 46 (cl46 (false, 0, ([], 0), 0, 0, 0, 0, 0, 0, 0, [], [], 0, ([], 0), [], 0, ([], 0)) none 0 none 0 none 0 none 0 none 0 none 0) (.new 3 50 [.int .i64 0, .slice none 0 0] (.new 10 46 (cl46 (y9.1, y9.2.1, y11, y9.2.2.2.1, y9.2.2.2.2.1, y9.2.2.2.2.2.1, y9.2.2.2.2.2.2.1, y9.2.2.2.2.2.2.2.1, y9.2.2.2.2.2.2.2.2.1, y9.2.2.2.2.2.2.2.2.2.1, [], [], y9.2.2.2.2.2.2.2.2.2.2.2.2.1, ([], y9.2.2.2.2.2.2.2.2.2.2.2.2.2.1.2), [], y9.2.2.2.2.2.2.2.2.2.2.2.2.2.2.2.1, ([], y9.2.2.2.2.2.2.2.2.2.2.2.2.2.2.2.2.2)) a14 c15 none 0 none 0 none 0 none 0 none 0) .nil))) rfl ⟨trivial, (Bs rfl rfl)⟩ (JO.done rfl (JS.seq (JS.region (JO.reg ttOk 1 [] [] [(13, .ep ⟨a8, 1, 1⟩ 0)] _ rfl ⟨⟨rfl, trivial⟩, rfl⟩ ?_))))
    obtain ⟨⟨y16, y17⟩, hy18, h⟩ := bindO_some h
    refine JO.callX rfl rfl rfl rfl (ok_s_l15Ring (x0, y12.2.1, y12.2.2) a8 a2 c3 x0.length rfl _ hy18) rfl [0] rfl [0] rfl rfl ?_
    rintro ⟨a19, c20⟩ -
    refine JO.regB ttOk 2 [] [] [] (.new 2 46 (cl46 (false, 0, ([], 0), 0, 0, 0, 0, 0, 0, 0, [], [], 0, ([], 0), [], 0, ([], 0)) none 0 none 0 none 0 none 0 none 0 none 0) (.new 3 50 [.int .i64 0, .slice none 0 0] (.new 10 46 (cl46 (y9.1, y9.2.1, y11, y9.2.2.2.1, y9.2.2.2.2.1, y9.2.2.2.2.2.1, y9.2.2.2.2.2.2.1, y9.2.2.2.2.2.2.2.1, y9.2.2.2.2.2.2.2.2.1, y9.2.2.2.2.2.2.2.2.2.1, y16, [], y9.2.2.2.2.2.2.2.2.2.2.2.2.1, ([], y9.2.2.2.2.2.2.2.2.2.2.2.2.2.1.2), [], y9.2.2.2.2.2.2.2.2.2.2.2.2.2.2.2.1, ([], y9.2.2.2.2.2.2.2.2.2.2.2.2.2.2.2.2.2)) a14 c15 a19 c20 none 0 none 0 none 0 none 0) .nil))) rfl ⟨trivial, (Bs rfl rfl)⟩ (JO.done rfl (JS.seq (JS.region (JO.reg ttOk 1 [] [] [(16, .ep ⟨a8, 1, 1⟩ 0)] _ rfl ⟨⟨rfl, trivial⟩, rfl⟩ ?_))))
    obtain ⟨⟨y21, y22⟩, hy23, h⟩ := bindO_some h
    refine JO.callX rfl rfl rfl rfl (ok_s_l01Below (x0, y17.2.1, y17.2.2) 4 a8 a2 c3 x0.length rfl _ hy23) rfl [0] rfl [0] rfl rfl fun _ _ => JO.regB ttOk 2 [] [] [] (.new 2 46 (cl46 (false, 0, ([], 0), 0, 0, 0, 0, 0, 0, 0, [], [], 0, ([], 0), [], 0, ([], 0)) none 0 none 0 none 0 none 0 none 0 none 0) (.new 3 50 [.int .i64 0, .slice none 0 0] (.new 10 46 (cl46 (y9.1, y9.2.1, y11, y9.2.2.2.1, y9.2.2.2.2.1, y9.2.2.2.2.2.1, y9.2.2.2.2.2.2.1, y9.2.2.2.2.2.2.2.1, y9.2.2.2.2.2.2.2.2.1, y21, y16, [], y9.2.2.2.2.2.2.2.2.2.2.2.2.1, ([], y9.2.2.2.2.2.2.2.2.2.2.2.2.2.1.2), [], y9.2.2.2.2.2.2.2.2.2.2.2.2.2.2.2.1, ([], y9.2.2.2.2.2.2.2.2.2.2.2.2.2.2.2.2.2)) a14 c15 a19 c20 none 0 none 0 none 0 none 0) .nil))) rfl ⟨trivial, (Bs rfl rfl)⟩ (JO.done rfl (JS.seq (JS.region (JO.reg ttOk 1 [] [] [(19, .ep ⟨a8, 1, 1⟩ 0)] _ rfl ⟨⟨rfl, trivial⟩, rfl⟩ ?_))))
    obtain ⟨⟨y24, y25⟩, hy26, h⟩ := bindO_some h
    refine JO.callX rfl rfl rfl rfl (ok_s_l16Draw (x0, y22.2.1, y22.2.2) a8 a2 c3 x0.length rfl _ hy26) rfl [0] rfl [0] rfl rfl ?_
    rintro ⟨a27, c28⟩ -
    refine JO.regB ttOk 2 [] [32] [(6, .bp 32 0)] (.new 2 46 (cl46 (false, 0, ([], 0), 0, 0, 0, 0, 0, 0, 0, [], [], 0, ([], 0), [], 0, ([], 0)) none 0 none 0 none 0 none 0 none 0 none 0) (.new 3 50 [.int .i64 0, .slice none 0 0] (.new 10 46 (cl46 (y9.1, y9.2.1, y11, y9.2.2.2.1, y9.2.2.2.2.1, y9.2.2.2.2.2.1, y9.2.2.2.2.2.2.1, y9.2.2.2.2.2.2.2.1, y9.2.2.2.2.2.2.2.2.1, y21, y16, [], y9.2.2.2.2.2.2.2.2.2.2.2.2.1, ([], y9.2.2.2.2.2.2.2.2.2.2.2.2.2.1.2), [], y9.2.2.2.2.2.2.2.2.2.2.2.2.2.2.2.1, ([], y9.2.2.2.2.2.2.2.2.2.2.2.2.2.2.2.2.2)) a14 c15 a19 c20 none 0 none 0 none 0 none 0) (.new 32 50 [.int .i64 y24.1, .slice a27 y24.2.length c28] .nil)))) rfl ⟨⟨rfl, trivial⟩, (Bs rfl rfl)⟩ (JO.done rfl (JS.seq ?_))
    refine JS.regionA rfl (.new 10 46 (cl46 (y9.1, y9.2.1, y11, y9.2.2.2.1, y9.2.2.2.2.1, y9.2.2.2.2.2.1, y9.2.2.2.2.2.2.1, y9.2.2.2.2.2.2.2.1, y9.2.2.2.2.2.2.2.2.1, y21, y16, [], y9.2.2.2.2.2.2.2.2.2.2.2.2.1, ([], y9.2.2.2.2.2.2.2.2.2.2.2.2.2.1.2), [], y9.2.2.2.2.2.2.2.2.2.2.2.2.2.2.2.1, ([], y9.2.2.2.2.2.2.2.2.2.2.2.2.2.2.2.2.2)) a14 c15 a19 c20 none 0 none 0 none 0 none 0) (.new 32 50 [.int .i64 y24.1, .slice a27 y24.2.length c28] .nil)) [] [3] ⟨rfl, rfl, rfl, rfl, rfl, rfl, rfl, rfl, trivial⟩ rfl (fun be29 => ?_)
    refine JA.reg ttOk panic_cx true 2 [0, 1] rfl (by kernel_rfl) [] [(21, .v (.agg (cl46 (y9.1, y9.2.1, y11, y9.2.2.2.1, y9.2.2.2.2.1, y9.2.2.2.2.2.1, y9.2.2.2.2.2.2.1, y9.2.2.2.2.2.2.2.1, y9.2.2.2.2.2.2.2.2.1, y21, y16, [], y9.2.2.2.2.2.2.2.2.2.2.2.2.1, ([], y9.2.2.2.2.2.2.2.2.2.2.2.2.2.1.2), [], y9.2.2.2.2.2.2.2.2.2.2.2.2.2.2.2.1, ([], y9.2.2.2.2.2.2.2.2.2.2.2.2.2.2.2.2.2)) a14 c15 a19 c20 none 0 none 0 none 0 none 0).toArray)), (22, .v (.agg #[.int .i64 y24.1, .slice a27 y24.2.length c28]))] ⟨rfl, rfl, rfl, rfl, rfl, rfl, rfl, rfl, trivial⟩ [] rfl rfl (Es rfl) (JA.one 2 (by kernel_rfl) (JK.stBox ttOk rfl rfl rfl rfl rfl rfl rfl rfl (JA.next ⟨rfl, rfl, rfl, rfl, rfl, rfl, rfl, rfl, trivial⟩ [] rfl (JA.one 3 (by kernel_rfl) (JK.stBox ttOk rfl rfl rfl rfl rfl rfl rfl rfl (JA.nextL rfl (JA.done (by kernel_rfl) (JS.boxes (B' := (.new 2 46 (cl46 (y9.1, y9.2.1, y11, y9.2.2.2.1, y9.2.2.2.2.1, y9.2.2.2.2.2.1, y9.2.2.2.2.2.2.1, y9.2.2.2.2.2.2.2.1, y9.2.2.2.2.2.2.2.2.1, y21, y16, [], y9.2.2.2.2.2.2.2.2.2.2.2.2.1, ([], y9.2.2.2.2.2.2.2.2.2.2.2.2.2.1.2), [], y9.2.2.2.2.2.2.2.2.2.2.2.2.2.2.2.1, ([], y9.2.2.2.2.2.2.2.2.2.2.2.2.2.2.2.2.2)) a14 c15 a19 c20 none 0 none 0 none 0 none 0) (.new 3 50 [.int .i64 y24.1, .slice a27 y24.2.length c28] .nil))) (Bs rfl rfl) ?_))))))))
    cases h
    exact JS.ret ttOk (a14, c15, a19, c20, a27, c28) trivial rfl rfl [3, 2, 1] rfl

def M_i_EdNew (x0 : Bool) : Option (Bool × Int × (List Int × Int) × Int × Int × Int × Int × Int × Int × Int × List (List Int) × (List (List Int × Int)) × Int × (List Int × Int) × List Int × Int × List Int × Int) :=
  (bif x0 then
  some (true, 1, ([], 0), 0, 0, 0, 0, 0, 0, 0, [], [], 0, ([], 0), [], 0, ([], 0))
  else
  some (false, 0, ([], 0), 0, 0, 0, 0, 0, 0, 0, [], [], 0, ([], 0), [], 0, ([], 0)))

theorem ok_i_EdNew (x0 : Bool) (r : Bool × Int × (List Int × Int) × Int × Int × Int × Int × Int × Int × Int × List (List Int) × (List (List Int × Int)) × Int × (List Int × Int) × List Int × Int × List Int × Int) (h : M_i_EdNew x0 = some r) :
    FC Tryz.prog 32 [.bool x0] [] (fun _ : Unit => True) (fun _ => .agg (cl46 (r.1, r.2.1, ([], r.2.2.1.2), r.2.2.2.1, r.2.2.2.2.1, r.2.2.2.2.2.1, r.2.2.2.2.2.2.1, r.2.2.2.2.2.2.2.1, r.2.2.2.2.2.2.2.2.1, r.2.2.2.2.2.2.2.2.2.1, [], [], r.2.2.2.2.2.2.2.2.2.2.2.2.1, ([], r.2.2.2.2.2.2.2.2.2.2.2.2.2.1.2), [], r.2.2.2.2.2.2.2.2.2.2.2.2.2.2.2.1, ([], r.2.2.2.2.2.2.2.2.2.2.2.2.2.2.2.2.2)) none 0 none 0 none 0 none 0 none 0 none 0).toArray) (fun _ => []) :=
  by
    refine FC.of (T := TTx) Tryz.call32 Tryz.func32 rfl rfl fun w0 => ?_
    unfold M_i_EdNew at h
    refine JS.rgB ttOk 1 [] [1] [(2, .bp 1 0)] (.new 1 46 (cl46 (false, 0, ([], 0), 0, 0, 0, 0, 0, 0, 0, [], [], 0, ([], 0), [], 0, ([], 0)) none 0 none 0 none 0 none 0 none 0 none 0) .nil) ⟨⟨rfl, trivial⟩, (Bs rfl rfl)⟩ rfl rfl (JS.seq (JS.rg0 ttOk 1 [(3, .v (.bool x0))] ⟨⟨rfl, trivial⟩, rfl⟩ rfl rfl ?_))
    refine JS.cond rfl (fun ht3 => ?_) (fun ht3 => ?_)
    · have h := condT h ht3
      refine JS.rgB ttOk 2 [] [] [] (.new 1 46 (cl46 (true, 1, ([], 0), 0, 0, 0, 0, 0, 0, 0, [], [], 0, ([], 0), [], 0, ([], 0)) none 0 none 0 none 0 none 0 none 0 none 0) .nil) ⟨trivial, (Bs rfl rfl)⟩ rfl rfl ?_
      cases h
      exact JS.ret ttOk () trivial rfl rfl [] rfl
    have h := condF h ht3
    refine JS.skip (JS.rgB ttOk 2 [] [] [] (.new 1 46 (cl46 (false, 0, ([], 0), 0, 0, 0, 0, 0, 0, 0, [], [], 0, ([], 0), [], 0, ([], 0)) none 0 none 0 none 0 none 0 none 0 none 0) .nil) ⟨trivial, (Bs rfl rfl)⟩ rfl rfl ?_)
    cases h
    exact JS.ret ttOk () trivial rfl rfl [] rfl

def M_i_in (x0 : Int) (x1 : Int) (x2 : Int) : Option Bool :=
  some (bif (decide (x1 ≤ x0)) then (decide (x0 ≤ x2)) else false)

theorem ok_i_in (x0 : Int) (x1 : Int) (x2 : Int) (r : Bool) (h : M_i_in x0 x1 x2 = some r) :
    FC Tryz.prog 99 [.int .i64 x0, .int .i64 x1, .int .i64 x2] [] (fun _ : Unit => True) (fun _ => .bool r) (fun _ => []) :=
  by
    refine FC.of (T := TTx) Tryz.call99 Tryz.func99 rfl rfl fun w0 => ?_
    unfold M_i_in at h
    refine JS.rg0 ttOk 1 [] ⟨trivial, rfl⟩ rfl rfl (JS.rg0 ttOk 9 [(6, .v (.bool (bif (decide (x1 ≤ x0)) then (decide (x0 ≤ x2)) else false)))] ⟨⟨rfl, trivial⟩, rfl⟩ rfl rfl ?_)
    cases h
    exact JS.ret ttOk () trivial rfl rfl [] rfl

def M_i_RuneOk (x0 : Int) : Option Bool :=
  (bindO (M_i_in x0 0 1114111) fun (y2 : Bool) =>
  (callO (y2 = true) (M_i_in x0 55296 57343) false fun (y4 : Bool) =>
  some (bif y2 then (!y4) else false)))

theorem ok_i_RuneOk (x0 : Int) (r : Bool) (h : M_i_RuneOk x0 = some r) :
    FC Tryz.prog 141 [.int .i64 x0] [] (fun _ : Unit => True) (fun _ => .bool r) (fun _ => []) :=
  by
    refine FC.of (T := TTx) Tryz.call141 Tryz.func141 rfl rfl fun w0 => ?_
    unfold M_i_RuneOk at h
    refine JS.rg0 ttOk 1 [] ⟨trivial, rfl⟩ rfl rfl (JS.seq (JS.region (JO.reg ttOk 1 [] [] [(3, .v (.int .i64 x0))] _ rfl ⟨⟨rfl, trivial⟩, rfl⟩ ?_)))
    obtain ⟨y2, hy3, h⟩ := bindO_some h
    refine JO.call rfl rfl rfl rfl (ok_i_in x0 0 1114111 _ hy3) rfl [] rfl rfl fun _ _ => JO.reg ttOk 2 [] [] [(5, .v (.bool y2)), (6, .cd [(5, true)] (.v (.int .i64 x0)))] _ rfl ⟨(Es rfl), rfl⟩ ?_
    obtain ⟨y4, hy5, -, h⟩ := callO_some h
    refine JO.callg rfl rfl rfl rfl (fun q7 => ok_i_in x0 55296 57343 _ (hy5 q7)) rfl [] rfl rfl (JO.reg ttOk 3 [] [] [(2, .v (.bool (bif y2 then (!y4) else false)))] _ rfl ⟨⟨rfl, trivial⟩, rfl⟩ (JO.done rfl ?_))
    cases h
    exact JS.ret ttOk () trivial rfl rfl [] rfl

def M_i_Printable (x0 : Int) : Option Bool :=
  (bindO (M_i_RuneOk x0) fun (y2 : Bool) =>
  (callO ((bif y2 then (decide (32 ≤ x0)) else false) = true) (M_i_in x0 127 159) false fun (y4 : Bool) =>
  some (bif (bif y2 then (decide (32 ≤ x0)) else false) then (!y4) else false)))

theorem ok_i_Printable (x0 : Int) (r : Bool) (h : M_i_Printable x0 = some r) :
    FC Tryz.prog 57 [.int .i64 x0] [] (fun _ : Unit => True) (fun _ => .bool r) (fun _ => []) :=
  by
    refine FC.of (T := TTx) Tryz.call57 Tryz.func57 rfl rfl fun w0 => ?_
    unfold M_i_Printable at h
    refine JS.rg0 ttOk 1 [] ⟨trivial, rfl⟩ rfl rfl (JS.seq (JS.region (JO.reg ttOk 1 [] [] [(3, .v (.int .i64 x0))] _ rfl ⟨⟨rfl, trivial⟩, rfl⟩ ?_)))
    obtain ⟨y2, hy3, h⟩ := bindO_some h
    refine JO.call rfl rfl rfl rfl (ok_i_RuneOk x0 _ hy3) rfl [] rfl rfl fun _ _ => JO.reg ttOk 6 [] [] [(9, .v (.bool (bif y2 then (decide (32 ≤ x0)) else false))), (10, .cd [(9, true)] (.v (.int .i64 x0)))] _ rfl ⟨(Es rfl), rfl⟩ ?_
    obtain ⟨y4, hy5, -, h⟩ := callO_some h
    refine JO.callg rfl rfl rfl rfl (fun q7 => ok_i_in x0 127 159 _ (hy5 q7)) rfl [] rfl rfl (JO.reg ttOk 3 [] [] [(2, .v (.bool (bif (bif y2 then (decide (32 ≤ x0)) else false) then (!y4) else false)))] _ rfl ⟨⟨rfl, trivial⟩, rfl⟩ (JO.done rfl ?_))
    cases h
    exact JS.ret ttOk () trivial rfl rfl [] rfl

def M_i_admissible (x0 : Int) : Option Bool :=
  (bindO (M_i_Printable x0) fun (y2 : Bool) =>
  some (bif (bif y2 then true else (decide (x0 = 9))) then true else (decide (x0 = 10))))

theorem ok_i_admissible (x0 : Int) (r : Bool) (h : M_i_admissible x0 = some r) :
    FC Tryz.prog 248 [.int .i64 x0] [] (fun _ : Unit => True) (fun _ => .bool r) (fun _ => []) :=
  by
    refine FC.of (T := TTx) Tryz.call248 Tryz.func248 rfl rfl fun w0 => ?_
    unfold M_i_admissible at h
    refine JS.rg0 ttOk 1 [] ⟨trivial, rfl⟩ rfl rfl (JS.seq (JS.region (JO.reg ttOk 1 [] [] [(3, .v (.int .i64 x0))] _ rfl ⟨⟨rfl, trivial⟩, rfl⟩ ?_)))
    obtain ⟨y2, hy3, h⟩ := bindO_some h
    refine JO.call rfl rfl rfl rfl (ok_i_Printable x0 _ hy3) rfl [] rfl rfl fun _ _ => JO.reg ttOk 9 [] [] [(2, .v (.bool (bif (bif y2 then true else (decide (x0 = 9))) then true else (decide (x0 = 10)))))] _ rfl ⟨⟨rfl, trivial⟩, rfl⟩ (JO.done rfl ?_)
    cases h
    exact JS.ret ttOk () trivial rfl rfl [] rfl

def M_i_areAdmissible_L1 (x0 : List Int) (j20 : Unit → Option Bool) (k14 : Int → Option Bool) : Int → Option Bool := fun x6 =>
  (bif (decide (x6 < (x0.length : Int))) then
  (guardO (0 ≤ x6 ∧ x6 < (x0.length : Int)) <|
  (callO ((decide (400 ≤ x6)) = false) (M_i_admissible (at' x0 x6)) false fun (y9 : Bool) =>
  (bif (bif (decide (400 ≤ x6)) then true else (!y9)) then
  some false
  else
  k14 (W (x6 + 1)))))
  else
  j20 ())

def M_i_areAdmissible (x0 : List Int) : Option Bool :=
  (joinO (fun (_ : Unit) =>
  some true) fun j20 =>
  (fixF (M_i_areAdmissible_L1 x0 j20) FUEL 0))

theorem ok_i_areAdmissible (x0 : List Int) (a2 : Option Addr) (c3 : Nat) (l4 : Nat) (hl5 : x0.length = l4) (r : Bool) (h : M_i_areAdmissible x0 = some r) :
    FC Tryz.prog 179 [.slice a2 l4 c3] [⟨(.int .i64), ⟨a2, l4, c3⟩, x0⟩] (fun _ : Unit => True) (fun _ => .bool r) (fun _ => []) :=
  by
    subst hl5
    refine FC.of (T := TTx) Tryz.call179 Tryz.func179 rfl rfl fun w0 => ?_
    unfold M_i_areAdmissible at h
    refine JS.rg0 ttOk 1 [] ⟨trivial, rfl⟩ rfl rfl (JS.seq (JS.rg0 ttOk 3 [(5, .v (.slice a2 x0.length c3)), (6, .v (.int .i64 (x0.length : Int))), (7, .v (.int .i64 0))] ⟨(Es rfl), rfl⟩ rfl rfl ?_))
    obtain ⟨j20, hj30, h⟩ := joinO_some h
    refine JS.blockJ (ι := Unit) ⟨fun _ => j20 () = some r, fun _ => [], fun _ => .nil, fun _ => [], fun _ => [], fun _ => 0⟩ ?_ ?_
    · refine JS.loop (ι := Nat × Int) ⟨fun z => fixF (M_i_areAdmissible_L1 x0 j20) z.1 z.2 = some r, fun z => [(5, .v (.slice a2 x0.length c3)), (6, .v (.int .i64 (x0.length : Int))), (7, .v (.int .i64 z.2))], fun z => .nil, fun z => [⟨(.int .i64), ⟨a2, x0.length, c3⟩, x0⟩], fun z => [], fun z => z.1⟩ (FUEL, 0) h (Es rfl) trivial [0] rfl [] rfl ?_
      rintro ⟨n15, x6⟩ h
      obtain ⟨n15, rfl, h⟩ := fixF_some h
      rw [M_i_areAdmissible_L1] at h
      refine JS.rg0 ttOk 1 [(8, .v (.bool (decide (x6 < (x0.length : Int)))))] ⟨⟨rfl, trivial⟩, rfl⟩ rfl rfl (JS.seq ?_)
      refine JS.cond rfl (fun ht29 => ?_) (fun ht29 => ?_)
      · have h := condT h ht29
        refine JS.skip (JS.seq (JS.block (JS.seq (JS.region (JO.know 0 rfl fun hs26 => ?_)))))
        obtain ⟨g8, h⟩ := guardO_some h
        refine JO.reg ttOk 2 [] [] [(9, .v (.int .i64 x6)), (10, .ep ⟨a2, x0.length, c3⟩ (Int.toNat x6 * 1))] _ rfl ⟨hs26.ix g8, (Es rfl), rfl⟩ (JO.load ttOk rfl rfl rfl rfl rfl rfl rfl 0 rfl rfl (Int.toNat x6) 0 (at' x0 x6) ⟨at_some g8, rfl⟩ rfl rfl (JO.reg ttOk 2 [] [] [(3, .v (.int .i64 x6)), (4, .v (.int .i64 (at' x0 x6)))] _ rfl ⟨(Es rfl), rfl⟩ (JO.done rfl (JS.seq (JS.region (JO.reg ttOk 4 [] [] [(14, .v (.bool (decide (400 ≤ x6)))), (15, .cd [(14, false)] (.v (.int .i64 (at' x0 x6))))] _ rfl ⟨(Es rfl), rfl⟩ ?_))))))
        obtain ⟨y9, hy10, -, h⟩ := callO_some h
        refine JO.callg rfl rfl rfl rfl (fun q27 => ok_i_admissible (at' x0 x6) _ (hy10 q27)) rfl [] rfl rfl (JO.reg ttOk 2 [] [] [(18, .v (.bool (bif (decide (400 ≤ x6)) then true else (!y9))))] _ rfl ⟨⟨rfl, trivial⟩, rfl⟩ (JO.done rfl ?_))
        refine JS.cond rfl (fun ht28 => ?_) (fun ht28 => ?_)
        · have h := condT h ht28
          refine JS.rg0 ttOk 1 [(2, .v (.bool false))] ⟨⟨rfl, trivial⟩, rfl⟩ rfl rfl ?_
          cases h
          exact JS.ret ttOk () trivial rfl rfl [] rfl
        have h := condF h ht28
        refine JS.skip (JS.endB (JS.re ttOk 2 [(W (x6 + 1))] [] [(7, .v (.int .i64 (W (x6 + 1))))] _ ⟨⟨trivial, rfl⟩, ⟨rfl, trivial⟩, rfl⟩ rfl rfl (JS.endL (n15, (W (x6 + 1))) h (Nat.lt_succ_self _) (Es rfl) trivial [0] rfl [] rfl)))
      have h := condF h ht29
      refine JS.exit rfl (JS.endJ () h trivial trivial [] rfl [] rfl)
    rintro _ h
    subst hj30
    refine JS.rg0 ttOk 1 [(2, .v (.bool true))] ⟨⟨rfl, trivial⟩, rfl⟩ rfl rfl ?_
    cases h
    exact JS.ret ttOk () trivial rfl rfl [] rfl

def M_i_LineOk (x0 : List Int × Int) : Option Bool :=
  (bindO (M_i_areAdmissible x0.1) fun (y6 : Bool) =>
  (callO (y6 = true) (M_i_in x0.2 0 (x0.1.length : Int)) false fun (y8 : Bool) =>
  some (bif y6 then y8 else false)))

theorem ok_i_LineOk (x0 : List Int × Int) (a2 : Option Addr) (c3 : Nat) (l4 : Nat) (hl5 : x0.1.length = l4) (r : Bool) (h : M_i_LineOk x0 = some r) :
    FC Tryz.prog 98 [.agg #[.slice a2 l4 c3, .int .i64 x0.2]] [⟨(.int .i64), ⟨a2, l4, c3⟩, x0.1⟩] (fun _ : Unit => True) (fun _ => .bool r) (fun _ => []) :=
  by
    subst hl5
    refine FC.of (T := TTx) Tryz.call98 Tryz.func98 rfl rfl fun w0 => ?_
    unfold M_i_LineOk at h
    refine JS.rgB ttOk 2 [] [2] [(1, .bp 2 0)] (.new 2 38 [.slice a2 x0.1.length c3, .int .i64 x0.2] .nil) ⟨⟨rfl, trivial⟩, (Bs rfl rfl)⟩ rfl rfl (JS.seq (JS.region (JO.reg ttOk 2 [] [] [(4, .v (.slice a2 x0.1.length c3))] _ rfl ⟨⟨rfl, trivial⟩, rfl⟩ ?_)))
    obtain ⟨y6, hy7, h⟩ := bindO_some h
    refine JO.call rfl rfl rfl rfl (ok_i_areAdmissible x0.1 a2 c3 x0.1.length rfl _ hy7) rfl [0] rfl rfl fun _ _ => JO.reg ttOk 6 [] [] [(6, .v (.bool y6)), (8, .cd [(6, true)] (.v (.int .i64 x0.2))), (11, .cd [(6, true)] (.v (.int .i64 (x0.1.length : Int))))] _ rfl ⟨(Es rfl), rfl⟩ ?_
    obtain ⟨y8, hy9, -, h⟩ := callO_some h
    refine JO.callg rfl rfl rfl rfl (fun q11 => ok_i_in x0.2 0 (x0.1.length : Int) _ (hy9 q11)) rfl [] rfl rfl (JO.reg ttOk 2 [] [] [(2, .v (.bool (bif y6 then y8 else false)))] _ rfl ⟨⟨rfl, trivial⟩, rfl⟩ (JO.done rfl ?_))
    cases h
    exact JS.ret ttOk () trivial rfl rfl [] rfl

def M_i_isAtEnd (x0 : List Int × Int) : Option Bool :=
  some (bif (decide (0 < (x0.1.length : Int))) then (decide (x0.2 = (x0.1.length : Int))) else false)

theorem ok_i_isAtEnd (x0 : List Int × Int) (a2 : Option Addr) (c3 : Nat) (l4 : Nat) (hl5 : x0.1.length = l4) (r : Bool) (h : M_i_isAtEnd x0 = some r) :
    FC Tryz.prog 180 [.agg #[.slice a2 l4 c3, .int .i64 x0.2]] [⟨(.int .i64), ⟨a2, l4, c3⟩, x0.1⟩] (fun _ : Unit => True) (fun _ => .bool r) (fun _ => []) :=
  by
    subst hl5
    refine FC.of (T := TTx) Tryz.call180 Tryz.func180 rfl rfl fun w0 => ?_
    unfold M_i_isAtEnd at h
    refine JS.rgB ttOk 2 [] [2] [(1, .bp 2 0)] (.new 2 38 [.slice a2 x0.1.length c3, .int .i64 x0.2] .nil) ⟨⟨rfl, trivial⟩, (Bs rfl rfl)⟩ rfl rfl (JS.rg0 ttOk 13 [(2, .v (.bool (bif (decide (0 < (x0.1.length : Int))) then (decide (x0.2 = (x0.1.length : Int))) else false)))] ⟨⟨rfl, trivial⟩, rfl⟩ rfl rfl ?_)
    cases h
    exact JS.ret ttOk () trivial rfl rfl [] rfl

def M_i_isAmong_L1 (x0 : Int) (x1 : List UInt8) (j11 : Unit → Option Bool) (k7 : Int → Option Bool) : Int → Option Bool := fun x3 =>
  (bif (decide (x3 < (x1.length : Int))) then
  (guardO (0 ≤ x3 ∧ x3 < (x1.length : Int)) <|
  (bif (decide (((at' x1 x3).toNat : Int) = x0)) then
  some true
  else
  k7 (W (x3 + 1))))
  else
  j11 ())

def M_i_isAmong (x0 : Int) (x1 : List UInt8) : Option Bool :=
  (joinO (fun (_ : Unit) =>
  some false) fun j11 =>
  (fixF (M_i_isAmong_L1 x0 x1 j11) FUEL 0))

theorem ok_i_isAmong (x0 : Int) (x1 : List UInt8) (r : Bool) (h : M_i_isAmong x0 x1 = some r) :
    FC Tryz.prog 181 [.int .i64 x0, .string (bs x1)] [] (fun _ : Unit => True) (fun _ => .bool r) (fun _ => []) :=
  by
    refine FC.of (T := TTx) Tryz.call181 Tryz.func181 rfl rfl fun w0 => ?_
    unfold M_i_isAmong at h
    refine JS.rg0 ttOk 1 [] ⟨trivial, rfl⟩ rfl rfl (JS.seq (JS.rg0 ttOk 1 [(5, .v (.int .i64 0))] ⟨⟨rfl, trivial⟩, rfl⟩ rfl rfl ?_))
    obtain ⟨j11, hj17, h⟩ := joinO_some h
    refine JS.blockJ (ι := Unit) ⟨fun _ => j11 () = some r, fun _ => [], fun _ => .nil, fun _ => [], fun _ => [], fun _ => 0⟩ ?_ ?_
    · refine JS.loop (ι := Nat × Int) ⟨fun z => fixF (M_i_isAmong_L1 x0 x1 j11) z.1 z.2 = some r, fun z => [(0, .v (.int .i64 x0)), (1, .v (.string (bs x1))), (5, .v (.int .i64 z.2))], fun z => .nil, fun z => [], fun z => [], fun z => z.1⟩ (FUEL, 0) h (Es rfl) trivial [] rfl [] rfl ?_
      rintro ⟨n8, x3⟩ h
      obtain ⟨n8, rfl, h⟩ := fixF_some h
      rw [M_i_isAmong_L1] at h
      refine JS.seq (JS.rg0 ttOk 4 [(9, .v (.bool (decide (x3 < (x1.length : Int)))))] ⟨⟨rfl, trivial⟩, rfl⟩ rfl rfl ?_)
      refine JS.cond rfl (fun ht16 => ?_) (fun ht16 => ?_)
      · have h := condT h ht16
        refine JS.skip (JS.seq (JS.block (JS.seq (JS.region ?_))))
        obtain ⟨g4, h⟩ := guardO_some h
        refine JO.reg ttOk 6 [((at' x1 x3).toNat : Int)] [] [(17, .v (.bool (decide (((at' x1 x3).toNat : Int) = x0))))] _ rfl ⟨g4, ⟨trivial, W_byte _⟩, ⟨rfl, trivial⟩, rfl⟩ (JO.done rfl ?_)
        refine JS.cond rfl (fun ht15 => ?_) (fun ht15 => ?_)
        · have h := condT h ht15
          refine JS.rg0 ttOk 1 [(4, .v (.bool true))] ⟨⟨rfl, trivial⟩, rfl⟩ rfl rfl ?_
          cases h
          exact JS.ret ttOk () trivial rfl rfl [] rfl
        have h := condF h ht15
        refine JS.skip (JS.endB (JS.re ttOk 3 [(W (x3 + 1))] [] [(5, .v (.int .i64 (W (x3 + 1))))] _ ⟨⟨trivial, rfl⟩, ⟨rfl, trivial⟩, rfl⟩ rfl rfl (JS.endL (n8, (W (x3 + 1))) h (Nat.lt_succ_self _) (Es rfl) trivial [] rfl [] rfl)))
      have h := condF h ht16
      refine JS.exit rfl (JS.endJ () h trivial trivial [] rfl [] rfl)
    rintro _ h
    subst hj17
    refine JS.rg0 ttOk 1 [(4, .v (.bool false))] ⟨⟨rfl, trivial⟩, rfl⟩ rfl rfl ?_
    cases h
    exact JS.ret ttOk () trivial rfl rfl [] rfl

def M_i_modeOk (x0 : Bool × Int × (List Int × Int) × Int × Int × Int × Int × Int × Int × Int × List (List Int) × (List (List Int × Int)) × Int × (List Int × Int) × List Int × Int × List Int × Int) : Option Bool :=
  (joinO (fun (_ : Unit) =>
  (callO ((decide (x0.2.1 = 2)) = true) (M_i_isAtEnd x0.2.2.1) false fun (y44 : Bool) =>
  (bif (bif (decide (x0.2.1 = 2)) then y44 else false) then
  some false
  else
  (bif (bif (bif (!(decide (x0.2.1 = 2))) then (bif (bif (!(decide (x0.2.2.2.2.1 = 0))) then true else (!(decide (x0.2.2.2.2.2.2.1 = 0)))) then true else (!(decide (x0.2.2.2.2.2.1 = 0)))) else false) then true else (bif (decide (x0.2.2.2.2.1 = 0)) then (!(decide (x0.2.2.2.2.2.1 = 0))) else false)) then
  some false
  else
  (callO ((decide (x0.2.2.2.2.1 = 0)) = false) (M_i_isAmong x0.2.2.2.2.1 ([100, 99, 121] : List UInt8)) false fun (y47 : Bool) =>
  (callO ((decide (x0.2.2.2.2.2.2.1 = 0)) = false ∧ (bif (decide (x0.2.2.2.2.1 = 0)) then true else y47) = true) (M_i_isAmong x0.2.2.2.2.2.2.1 ([102, 70, 116, 84, 114] : List UInt8)) false fun (y50 : Bool) =>
  some (bif (bif (decide (x0.2.2.2.2.1 = 0)) then true else y47) then (bif (decide (x0.2.2.2.2.2.2.1 = 0)) then true else y50) else false))))))) fun j36 =>
  (bif (decide (x0.2.1 = 0)) then
  (bif x0.1 then
  some false
  else
  j36 ())
  else
  (joinO (fun (x28 : Bool) =>
  (bif x28 then
  (bif (!x0.1) then
  some false
  else
  j36 ())
  else
  (bif (decide (x0.2.1 = 3)) then
  j36 ()
  else
  some false))) fun j29 =>
  (bif (decide (x0.2.1 = 1)) then
  j29 (decide (x0.2.1 = 1))
  else
  j29 (decide (x0.2.1 = 2))))))

theorem ok_i_modeOk (x0 : Bool × Int × (List Int × Int) × Int × Int × Int × Int × Int × Int × Int × List (List Int) × (List (List Int × Int)) × Int × (List Int × Int) × List Int × Int × List Int × Int) (a2 : Option Addr) (c3 : Nat) (l4 : Nat) (hl5 : x0.2.2.1.1.length = l4) (a6 : Option Addr) (c7 : Nat) (l8 : Nat) (hl9 : x0.2.2.2.2.2.2.2.2.2.2.1.length = l8) (a10 : Option Addr) (c11 : Nat) (l12 : Nat) (hl13 : x0.2.2.2.2.2.2.2.2.2.2.2.1.length = l12) (a14 : Option Addr) (c15 : Nat) (l16 : Nat) (hl17 : x0.2.2.2.2.2.2.2.2.2.2.2.2.2.1.1.length = l16) (a18 : Option Addr) (c19 : Nat) (l20 : Nat) (hl21 : x0.2.2.2.2.2.2.2.2.2.2.2.2.2.2.1.length = l20) (a22 : Option Addr) (c23 : Nat) (l24 : Nat) (hl25 : x0.2.2.2.2.2.2.2.2.2.2.2.2.2.2.2.2.1.length = l24) (r : Bool) (h : M_i_modeOk x0 = some r) :
    FC Tryz.prog 100 [.agg #[.bool x0.1, .int .i64 x0.2.1, .slice a2 l4 c3, .int .i64 x0.2.2.1.2, .int .i64 x0.2.2.2.1, .int .i64 x0.2.2.2.2.1, .int .i64 x0.2.2.2.2.2.1, .int .i64 x0.2.2.2.2.2.2.1, .int .i64 x0.2.2.2.2.2.2.2.1, .int .i64 x0.2.2.2.2.2.2.2.2.1, .int .i64 x0.2.2.2.2.2.2.2.2.2.1, .slice a6 l8 c7, .slice a10 l12 c11, .int .i64 x0.2.2.2.2.2.2.2.2.2.2.2.2.1, .slice a14 l16 c15, .int .i64 x0.2.2.2.2.2.2.2.2.2.2.2.2.2.1.2, .slice a18 l20 c19, .int .i64 x0.2.2.2.2.2.2.2.2.2.2.2.2.2.2.2.1, .slice a22 l24 c23, .int .i64 x0.2.2.2.2.2.2.2.2.2.2.2.2.2.2.2.2.2]] [⟨(.int .i64), ⟨a2, l4, c3⟩, x0.2.2.1.1⟩, ⟨(.sl (.int .i64)), ⟨a6, l8, c7⟩, x0.2.2.2.2.2.2.2.2.2.2.1⟩, ⟨(.pair (.sl (.int .i64)) (.int .i64)), ⟨a10, l12, c11⟩, x0.2.2.2.2.2.2.2.2.2.2.2.1⟩, ⟨(.int .i64), ⟨a14, l16, c15⟩, x0.2.2.2.2.2.2.2.2.2.2.2.2.2.1.1⟩, ⟨(.int .i64), ⟨a18, l20, c19⟩, x0.2.2.2.2.2.2.2.2.2.2.2.2.2.2.1⟩, ⟨(.int .i64), ⟨a22, l24, c23⟩, x0.2.2.2.2.2.2.2.2.2.2.2.2.2.2.2.2.1⟩] (fun _ : Unit => True) (fun _ => .bool r) (fun _ => []) :=
  by
    subst hl5
    subst hl9
    subst hl13
    subst hl17
    subst hl21
    subst hl25
    refine FC.of (T := TTx) Tryz.call100 Tryz.func100 rfl rfl fun w0 => ?_
    unfold M_i_modeOk at h
    refine JS.rgB ttOk 2 [] [7] [(1, .bp 7 0)] (.new 7 46 (cl46 x0 a2 c3 a6 c7 a10 c11 a14 c15 a18 c19 a22 c23) .nil) ⟨⟨rfl, trivial⟩, (Bs rfl rfl)⟩ rfl rfl (JS.seq (JS.rg0 ttOk 2 [(4, .v (.int .i64 x0.2.1))] ⟨⟨rfl, trivial⟩, rfl⟩ rfl rfl ?_))
    obtain ⟨j36, hj70, h⟩ := joinO_some h
    refine JS.blockJ (ι := Unit) ⟨fun _ => j36 () = some r, fun _ => [(1, .bp 7 0)], fun _ => (.new 7 46 (cl46 x0 a2 c3 a6 c7 a10 c11 a14 c15 a18 c19 a22 c23) .nil), fun _ => [⟨(.int .i64), ⟨a2, x0.2.2.1.1.length, c3⟩, x0.2.2.1.1⟩, ⟨(.sl (.int .i64)), ⟨a6, x0.2.2.2.2.2.2.2.2.2.2.1.length, c7⟩, x0.2.2.2.2.2.2.2.2.2.2.1⟩, ⟨(.pair (.sl (.int .i64)) (.int .i64)), ⟨a10, x0.2.2.2.2.2.2.2.2.2.2.2.1.length, c11⟩, x0.2.2.2.2.2.2.2.2.2.2.2.1⟩, ⟨(.int .i64), ⟨a14, x0.2.2.2.2.2.2.2.2.2.2.2.2.2.1.1.length, c15⟩, x0.2.2.2.2.2.2.2.2.2.2.2.2.2.1.1⟩, ⟨(.int .i64), ⟨a18, x0.2.2.2.2.2.2.2.2.2.2.2.2.2.2.1.length, c19⟩, x0.2.2.2.2.2.2.2.2.2.2.2.2.2.2.1⟩, ⟨(.int .i64), ⟨a22, x0.2.2.2.2.2.2.2.2.2.2.2.2.2.2.2.2.1.length, c23⟩, x0.2.2.2.2.2.2.2.2.2.2.2.2.2.2.2.2.1⟩], fun _ => [], fun _ => 0⟩ ?_ ?_
    · refine JS.rg0 ttOk 2 [(5, .v (.bool (decide (x0.2.1 = 0))))] ⟨⟨rfl, trivial⟩, rfl⟩ rfl rfl ?_
      refine JS.cond rfl (fun ht63 => ?_) (fun ht63 => ?_)
      · have h := condT h ht63
        refine JS.rg0 ttOk 2 [(8, .v (.bool x0.1))] ⟨⟨rfl, trivial⟩, rfl⟩ rfl rfl ?_
        refine JS.cond rfl (fun ht57 => ?_) (fun ht57 => ?_)
        · have h := condT h ht57
          refine JS.rg0 ttOk 1 [(2, .v (.bool false))] ⟨⟨rfl, trivial⟩, rfl⟩ rfl rfl ?_
          cases h
          exact JS.ret ttOk () trivial rfl rfl [] rfl
        have h := condF h ht57
        refine JS.skip (JS.endB (JS.endJ () h ⟨rfl, trivial⟩ (Bs rfl rfl) [0, 1, 2, 3, 4, 5] rfl [] rfl))
      have h := condF h ht63
      obtain ⟨j29, hj62, h⟩ := joinO_some h
      refine JS.seqJ (ι := Bool) ⟨fun z => j29 z = some r, fun z => [(1, .bp 7 0), (4, .v (.int .i64 x0.2.1)), (9, .v (.bool z))], fun z => (.new 7 46 (cl46 x0 a2 c3 a6 c7 a10 c11 a14 c15 a18 c19 a22 c23) .nil), fun z => [⟨(.int .i64), ⟨a2, x0.2.2.1.1.length, c3⟩, x0.2.2.1.1⟩, ⟨(.sl (.int .i64)), ⟨a6, x0.2.2.2.2.2.2.2.2.2.2.1.length, c7⟩, x0.2.2.2.2.2.2.2.2.2.2.1⟩, ⟨(.pair (.sl (.int .i64)) (.int .i64)), ⟨a10, x0.2.2.2.2.2.2.2.2.2.2.2.1.length, c11⟩, x0.2.2.2.2.2.2.2.2.2.2.2.1⟩, ⟨(.int .i64), ⟨a14, x0.2.2.2.2.2.2.2.2.2.2.2.2.2.1.1.length, c15⟩, x0.2.2.2.2.2.2.2.2.2.2.2.2.2.1.1⟩, ⟨(.int .i64), ⟨a18, x0.2.2.2.2.2.2.2.2.2.2.2.2.2.2.1.length, c19⟩, x0.2.2.2.2.2.2.2.2.2.2.2.2.2.2.1⟩, ⟨(.int .i64), ⟨a22, x0.2.2.2.2.2.2.2.2.2.2.2.2.2.2.2.2.1.length, c23⟩, x0.2.2.2.2.2.2.2.2.2.2.2.2.2.2.2.2.1⟩], fun z => [], fun z => 0⟩ ?_ ?_
      · refine JS.rg0 ttOk 2 [(9, .v (.bool (decide (x0.2.1 = 1))))] ⟨⟨rfl, trivial⟩, rfl⟩ rfl rfl ?_
        refine JS.cond rfl (fun ht58 => ?_) (fun ht58 => ?_)
        · have h := condT h ht58
          refine JS.skip (JS.endJ (decide (x0.2.1 = 1)) h (Es rfl) (Bs rfl rfl) [0, 1, 2, 3, 4, 5] rfl [] rfl)
        have h := condF h ht58
        refine JS.re0 ttOk 2 [(9, .v (.bool (decide (x0.2.1 = 2))))] ⟨⟨rfl, trivial⟩, rfl⟩ rfl rfl (JS.endJ (decide (x0.2.1 = 2)) h (Es rfl) (Bs rfl rfl) [0, 1, 2, 3, 4, 5] rfl [] rfl)
      rintro x28 h
      subst hj62
      refine JS.cond rfl (fun ht61 => ?_) (fun ht61 => ?_)
      · have h := condT h ht61
        refine JS.rg0 ttOk 3 [(14, .v (.bool (!x0.1)))] ⟨⟨rfl, trivial⟩, rfl⟩ rfl rfl ?_
        refine JS.cond rfl (fun ht59 => ?_) (fun ht59 => ?_)
        · have h := condT h ht59
          refine JS.rg0 ttOk 1 [(2, .v (.bool false))] ⟨⟨rfl, trivial⟩, rfl⟩ rfl rfl ?_
          cases h
          exact JS.ret ttOk () trivial rfl rfl [] rfl
        have h := condF h ht59
        refine JS.skip (JS.endB (JS.endJ () h ⟨rfl, trivial⟩ (Bs rfl rfl) [0, 1, 2, 3, 4, 5] rfl [] rfl))
      have h := condF h ht61
      refine JS.rg0 ttOk 2 [(15, .v (.bool (decide (x0.2.1 = 3))))] ⟨⟨rfl, trivial⟩, rfl⟩ rfl rfl ?_
      refine JS.cond rfl (fun ht60 => ?_) (fun ht60 => ?_)
      · have h := condT h ht60
        refine JS.skip (JS.endB (JS.endJ () h ⟨rfl, trivial⟩ (Bs rfl rfl) [0, 1, 2, 3, 4, 5] rfl [] rfl))
      have h := condF h ht60
      refine JS.rg0 ttOk 1 [(2, .v (.bool false))] ⟨⟨rfl, trivial⟩, rfl⟩ rfl rfl ?_
      cases h
      exact JS.ret ttOk () trivial rfl rfl [] rfl
    rintro _ h
    subst hj70
    refine JS.seq (JS.seq (JS.region (JO.reg ttOk 6 [] [] [(20, .v (.bool (decide (x0.2.1 = 2)))), (22, .cd [(20, true)] (.v (.agg #[.slice a2 x0.2.2.1.1.length c3, .int .i64 x0.2.2.1.2])))] _ rfl ⟨(Es rfl), rfl⟩ ?_)))
    obtain ⟨y44, hy45, -, h⟩ := callO_some h
    refine JO.callg rfl rfl rfl rfl (fun q64 => ok_i_isAtEnd x0.2.2.1 a2 c3 x0.2.2.1.1.length rfl _ (hy45 q64)) rfl [0] rfl rfl (JO.reg ttOk 1 [] [] [(24, .v (.bool (bif (decide (x0.2.1 = 2)) then y44 else false)))] _ rfl ⟨⟨rfl, trivial⟩, rfl⟩ (JO.done rfl ?_))
    refine JS.cond rfl (fun ht69 => ?_) (fun ht69 => ?_)
    · have h := condT h ht69
      refine JS.rg0 ttOk 1 [(2, .v (.bool false))] ⟨⟨rfl, trivial⟩, rfl⟩ rfl rfl ?_
      cases h
      exact JS.ret ttOk () trivial rfl rfl [] rfl
    have h := condF h ht69
    refine JS.skip (JS.seq (JS.rg0 ttOk 28 [(52, .v (.bool (bif (bif (!(decide (x0.2.1 = 2))) then (bif (bif (!(decide (x0.2.2.2.2.1 = 0))) then true else (!(decide (x0.2.2.2.2.2.2.1 = 0)))) then true else (!(decide (x0.2.2.2.2.2.1 = 0)))) else false) then true else (bif (decide (x0.2.2.2.2.1 = 0)) then (!(decide (x0.2.2.2.2.2.1 = 0))) else false))))] ⟨⟨rfl, trivial⟩, rfl⟩ rfl rfl ?_))
    refine JS.cond rfl (fun ht68 => ?_) (fun ht68 => ?_)
    · have h := condT h ht68
      refine JS.rg0 ttOk 1 [(2, .v (.bool false))] ⟨⟨rfl, trivial⟩, rfl⟩ rfl rfl ?_
      cases h
      exact JS.ret ttOk () trivial rfl rfl [] rfl
    have h := condF h ht68
    refine JS.skip (JS.seq (JS.region (JO.reg ttOk 6 [] [] [(56, .v (.bool (decide (x0.2.2.2.2.1 = 0)))), (58, .cd [(56, false)] (.v (.int .i64 x0.2.2.2.2.1)))] _ rfl ⟨(Es rfl), rfl⟩ ?_)))
    obtain ⟨y47, hy48, -, h⟩ := callO_some h
    refine JO.callg rfl rfl rfl rfl (fun q65 => ok_i_isAmong x0.2.2.2.2.1 ([100, 99, 121] : List UInt8) _ (hy48 q65)) rfl [] rfl rfl (JO.reg ttOk 8 [] [] [(61, .v (.bool (bif (decide (x0.2.2.2.2.1 = 0)) then true else y47))), (65, .cd [(61, true)] (.v (.bool (decide (x0.2.2.2.2.2.2.1 = 0))))), (67, .cd [(65, false), (61, true)] (.v (.int .i64 x0.2.2.2.2.2.2.1)))] _ rfl ⟨(Es rfl), rfl⟩ ?_)
    obtain ⟨y50, hy51, -, h⟩ := callO_some h
    refine JO.callg rfl rfl rfl rfl (fun q66 q67 => ok_i_isAmong x0.2.2.2.2.2.2.1 ([102, 70, 116, 84, 114] : List UInt8) _ (hy51 ⟨q66, q67⟩)) rfl [] rfl rfl (JO.reg ttOk 3 [] [] [(2, .v (.bool (bif (bif (decide (x0.2.2.2.2.1 = 0)) then true else y47) then (bif (decide (x0.2.2.2.2.2.2.1 = 0)) then true else y50) else false)))] _ rfl ⟨⟨rfl, trivial⟩, rfl⟩ (JO.done rfl ?_))
    cases h
    exact JS.ret ttOk () trivial rfl rfl [] rfl

def M_i_RingOk_L1 (x0 : List (List Int)) (j32 : Unit → Option Bool) (k26 : Int → Option Bool) : Int → Option Bool := fun x6 =>
  (bif (decide (x6 < (x0.length : Int))) then
  (guardO (0 ≤ x6 ∧ x6 < (x0.length : Int)) <|
  (callO ((decide (((at' x0 x6).length : Int) = 0)) = false) (M_i_areAdmissible (at' x0 x6)) false fun (y17 : Bool) =>
  (bif (bif (decide (((at' x0 x6).length : Int) = 0)) then true else (!y17)) then
  some false
  else
  k26 (W (x6 + 1)))))
  else
  j32 ())

def M_i_RingOk (x0 : List (List Int)) : Option Bool :=
  (joinO (fun (_ : Unit) =>
  some (decide ((x0.length : Int) ≤ 6))) fun j32 =>
  (fixF (M_i_RingOk_L1 x0 j32) FUEL 0))

theorem ok_i_RingOk (x0 : List (List Int)) (a2 : Option Addr) (c3 : Nat) (l4 : Nat) (hl5 : x0.length = l4) (r : Bool) (h : M_i_RingOk x0 = some r) :
    FC Tryz.prog 101 [.agg #[.slice a2 l4 c3]] [⟨(.sl (.int .i64)), ⟨a2, l4, c3⟩, x0⟩] (fun _ : Unit => True) (fun _ => .bool r) (fun _ => []) :=
  by
    subst hl5
    refine FC.of (T := TTx) Tryz.call101 Tryz.func101 rfl rfl fun w0 => ?_
    unfold M_i_RingOk at h
    refine JS.rgB ttOk 2 [] [2] [(1, .bp 2 0)] (.new 2 41 [.slice a2 x0.length c3] .nil) ⟨⟨rfl, trivial⟩, (Bs rfl rfl)⟩ rfl rfl (JS.seq (JS.rg0 ttOk 4 [(6, .v (.slice a2 x0.length c3)), (7, .v (.int .i64 (x0.length : Int))), (8, .v (.int .i64 0))] ⟨(Es rfl), rfl⟩ rfl rfl ?_))
    obtain ⟨j32, hj42, h⟩ := joinO_some h
    refine JS.blockJ (ι := Unit) ⟨fun _ => j32 () = some r, fun _ => [(1, .bp 2 0)], fun _ => (.new 2 41 [.slice a2 x0.length c3] .nil), fun _ => [⟨(.sl (.int .i64)), ⟨a2, x0.length, c3⟩, x0⟩], fun _ => [], fun _ => 0⟩ ?_ ?_
    · refine JS.loop (ι := Nat × Int) ⟨fun z => fixF (M_i_RingOk_L1 x0 j32) z.1 z.2 = some r, fun z => [(1, .bp 2 0), (6, .v (.slice a2 x0.length c3)), (7, .v (.int .i64 (x0.length : Int))), (8, .v (.int .i64 z.2))], fun z => (.new 2 41 [.slice a2 x0.length c3] .nil), fun z => [⟨(.sl (.int .i64)), ⟨a2, x0.length, c3⟩, x0⟩], fun z => [], fun z => z.1⟩ (FUEL, 0) h (Es rfl) (Bs rfl rfl) [0] rfl [] rfl ?_
      rintro ⟨n27, x6⟩ h
      obtain ⟨n27, rfl, h⟩ := fixF_some h
      rw [M_i_RingOk_L1] at h
      refine JS.rg0 ttOk 1 [(9, .v (.bool (decide (x6 < (x0.length : Int)))))] ⟨⟨rfl, trivial⟩, rfl⟩ rfl rfl (JS.seq ?_)
      refine JS.cond rfl (fun ht41 => ?_) (fun ht41 => ?_)
      · have h := condT h ht41
        refine JS.skip (JS.seq (JS.block (JS.seq (JS.region (JO.know 0 rfl fun hs38 => ?_)))))
        obtain ⟨g11, h⟩ := guardO_some h
        refine JO.reg ttOk 1 [] [] [(10, .ep ⟨a2, x0.length, c3⟩ (Int.toNat x6 * 1))] _ rfl ⟨hs38.ix g11, ⟨rfl, trivial⟩, rfl⟩ (JO.openR 0 rfl (Int.toNat x6) (at' x0 x6) rfl fun a12 c13 ys14 hl15 hy16 => JO.loadV ttOk rfl rfl rfl rfl rfl rfl 0 rfl rfl (Int.toNat x6) 0 (Sl.v ⟨a12, (at' x0 x6).length, c13⟩) ⟨hy16 (ltNat g11), rfl⟩ rfl rfl rfl (JO.regB ttOk 2 [] [16] [(4, .bp 16 0)] (.new 2 41 [.slice a2 x0.length c3] (.new 16 174 [.slice a12 (at' x0 x6).length c13] .nil)) rfl ⟨⟨rfl, trivial⟩, (Bs rfl rfl)⟩ (JO.done rfl (JS.seq (JS.region (JO.reg ttOk 7 [] [] [(16, .v (.bool (decide (((at' x0 x6).length : Int) = 0)))), (18, .cd [(16, false)] (.v (.slice a12 (at' x0 x6).length c13)))] _ rfl ⟨(Es rfl), rfl⟩ ?_))))))
        obtain ⟨y17, hy18, -, h⟩ := callO_some h
        refine JO.callg rfl rfl rfl rfl (fun q39 => ok_i_areAdmissible (at' x0 x6) a12 c13 ((at' x0 x6).length) rfl _ (hy18 q39)) rfl [1] rfl rfl (JO.reg ttOk 2 [] [] [(21, .v (.bool (bif (decide (((at' x0 x6).length : Int) = 0)) then true else (!y17))))] _ rfl ⟨⟨rfl, trivial⟩, rfl⟩ (JO.done rfl ?_))
        refine JS.cond rfl (fun ht40 => ?_) (fun ht40 => ?_)
        · have h := condT h ht40
          refine JS.rg0 ttOk 1 [(2, .v (.bool false))] ⟨⟨rfl, trivial⟩, rfl⟩ rfl rfl ?_
          cases h
          exact JS.ret ttOk () trivial rfl rfl [] rfl
        have h := condF h ht40
        refine JS.skip (JS.endB (JS.re ttOk 2 [(W (x6 + 1))] [] [(8, .v (.int .i64 (W (x6 + 1))))] _ ⟨⟨trivial, rfl⟩, ⟨rfl, trivial⟩, rfl⟩ rfl rfl (JS.endL (n27, (W (x6 + 1))) h (Nat.lt_succ_self _) (Es rfl) (Bs rfl rfl) [2] rfl [] rfl)))
      have h := condF h ht41
      refine JS.exit rfl (JS.endJ () h ⟨rfl, trivial⟩ (Bs rfl rfl) [0] rfl [] rfl)
    rintro _ h
    subst hj42
    refine JS.rg0 ttOk 5 [(2, .v (.bool (decide ((x0.length : Int) ≤ 6))))] ⟨⟨rfl, trivial⟩, rfl⟩ rfl rfl ?_
    cases h
    exact JS.ret ttOk () trivial rfl rfl [] rfl

def M_i_UndoOk_L1 (x0 : List (List Int × Int)) (j29 : Unit → Option Bool) (k24 : Int → Option Bool) : Int → Option Bool := fun x6 =>
  (bif (decide (x6 < (x0.length : Int))) then
  (guardO (0 ≤ x6 ∧ x6 < (x0.length : Int)) <|
  (bindO (M_i_LineOk ((at' x0 x6).1, (at' x0 x6).2)) fun (y17 : Bool) =>
  (bif (!y17) then
  some false
  else
  k24 (W (x6 + 1)))))
  else
  j29 ())

def M_i_UndoOk (x0 : List (List Int × Int)) : Option Bool :=
  (joinO (fun (_ : Unit) =>
  some (decide ((x0.length : Int) ≤ 20))) fun j29 =>
  (fixF (M_i_UndoOk_L1 x0 j29) FUEL 0))

theorem ok_i_UndoOk (x0 : List (List Int × Int)) (a2 : Option Addr) (c3 : Nat) (l4 : Nat) (hl5 : x0.length = l4) (r : Bool) (h : M_i_UndoOk x0 = some r) :
    FC Tryz.prog 102 [.agg #[.slice a2 l4 c3]] [⟨(.pair (.sl (.int .i64)) (.int .i64)), ⟨a2, l4, c3⟩, x0⟩] (fun _ : Unit => True) (fun _ => .bool r) (fun _ => []) :=
  by
    subst hl5
    refine FC.of (T := TTx) Tryz.call102 Tryz.func102 rfl rfl fun w0 => ?_
    unfold M_i_UndoOk at h
    refine JS.rgB ttOk 2 [] [2] [(1, .bp 2 0)] (.new 2 44 [.slice a2 x0.length c3] .nil) ⟨⟨rfl, trivial⟩, (Bs rfl rfl)⟩ rfl rfl (JS.seq (JS.rg0 ttOk 4 [(6, .v (.slice a2 x0.length c3)), (7, .v (.int .i64 (x0.length : Int))), (8, .v (.int .i64 0))] ⟨(Es rfl), rfl⟩ rfl rfl ?_))
    obtain ⟨j29, hj37, h⟩ := joinO_some h
    refine JS.blockJ (ι := Unit) ⟨fun _ => j29 () = some r, fun _ => [(1, .bp 2 0)], fun _ => (.new 2 44 [.slice a2 x0.length c3] .nil), fun _ => [⟨(.pair (.sl (.int .i64)) (.int .i64)), ⟨a2, x0.length, c3⟩, x0⟩], fun _ => [], fun _ => 0⟩ ?_ ?_
    · refine JS.loop (ι := Nat × Int) ⟨fun z => fixF (M_i_UndoOk_L1 x0 j29) z.1 z.2 = some r, fun z => [(1, .bp 2 0), (6, .v (.slice a2 x0.length c3)), (7, .v (.int .i64 (x0.length : Int))), (8, .v (.int .i64 z.2))], fun z => (.new 2 44 [.slice a2 x0.length c3] .nil), fun z => [⟨(.pair (.sl (.int .i64)) (.int .i64)), ⟨a2, x0.length, c3⟩, x0⟩], fun z => [], fun z => z.1⟩ (FUEL, 0) h (Es rfl) (Bs rfl rfl) [0] rfl [] rfl ?_
      rintro ⟨n25, x6⟩ h
      obtain ⟨n25, rfl, h⟩ := fixF_some h
      rw [M_i_UndoOk_L1] at h
      refine JS.rg0 ttOk 1 [(9, .v (.bool (decide (x6 < (x0.length : Int)))))] ⟨⟨rfl, trivial⟩, rfl⟩ rfl rfl (JS.seq ?_)
      refine JS.cond rfl (fun ht36 => ?_) (fun ht36 => ?_)
      · have h := condT h ht36
        refine JS.skip (JS.seq (JS.block (JS.seq (JS.region (JO.know 0 rfl fun hs34 => ?_)))))
        obtain ⟨g11, h⟩ := guardO_some h
        refine JO.reg ttOk 1 [] [] [(10, .ep ⟨a2, x0.length, c3⟩ (Int.toNat x6 * 2))] _ rfl ⟨hs34.ix g11, ⟨rfl, trivial⟩, rfl⟩ (JO.openR 0 rfl (Int.toNat x6) (at' x0 x6) rfl fun a12 c13 ys14 hl15 hy16 => JO.loadV ttOk rfl rfl rfl rfl rfl rfl 0 rfl rfl (Int.toNat x6) 0 ((Sl.v ⟨a12, ((at' x0 x6).1).length, c13⟩), (at' x0 x6).2) ⟨hy16 (ltNat g11), rfl⟩ rfl rfl rfl (JO.regB ttOk 2 [] [16] [(4, .bp 16 0)] (.new 2 44 [.slice a2 x0.length c3] (.new 16 38 [.slice a12 ((at' x0 x6).1).length c13, .int .i64 (at' x0 x6).2] .nil)) rfl ⟨⟨rfl, trivial⟩, (Bs rfl rfl)⟩ (JO.done rfl (JS.seq (JS.region (JO.reg ttOk 1 [] [] [(12, .v (.agg #[.slice a12 ((at' x0 x6).1).length c13, .int .i64 (at' x0 x6).2]))] _ rfl ⟨⟨rfl, trivial⟩, rfl⟩ ?_))))))
        obtain ⟨y17, hy18, h⟩ := bindO_some h
        refine JO.call rfl rfl rfl rfl (ok_i_LineOk ((at' x0 x6).1, (at' x0 x6).2) a12 c13 (((at' x0 x6).1).length) rfl _ hy18) rfl [1] rfl rfl fun _ _ => JO.reg ttOk 1 [] [] [(14, .v (.bool (!y17)))] _ rfl ⟨⟨rfl, trivial⟩, rfl⟩ (JO.done rfl ?_)
        refine JS.cond rfl (fun ht35 => ?_) (fun ht35 => ?_)
        · have h := condT h ht35
          refine JS.rg0 ttOk 1 [(2, .v (.bool false))] ⟨⟨rfl, trivial⟩, rfl⟩ rfl rfl ?_
          cases h
          exact JS.ret ttOk () trivial rfl rfl [] rfl
        have h := condF h ht35
        refine JS.skip (JS.endB (JS.re ttOk 2 [(W (x6 + 1))] [] [(8, .v (.int .i64 (W (x6 + 1))))] _ ⟨⟨trivial, rfl⟩, ⟨rfl, trivial⟩, rfl⟩ rfl rfl (JS.endL (n25, (W (x6 + 1))) h (Nat.lt_succ_self _) (Es rfl) (Bs rfl rfl) [2] rfl [] rfl)))
      have h := condF h ht36
      refine JS.exit rfl (JS.endJ () h ⟨rfl, trivial⟩ (Bs rfl rfl) [0] rfl [] rfl)
    rintro _ h
    subst hj37
    refine JS.rg0 ttOk 5 [(2, .v (.bool (decide ((x0.length : Int) ≤ 20))))] ⟨⟨rfl, trivial⟩, rfl⟩ rfl rfl ?_
    cases h
    exact JS.ret ttOk () trivial rfl rfl [] rfl

def M_i_emptyLine (x0 : List Int × Int) : Option Bool :=
  some (bif (decide ((x0.1.length : Int) = 0)) then (decide (x0.2 = 0)) else false)

theorem ok_i_emptyLine (x0 : List Int × Int) (a2 : Option Addr) (c3 : Nat) (l4 : Nat) (hl5 : x0.1.length = l4) (r : Bool) (h : M_i_emptyLine x0 = some r) :
    FC Tryz.prog 103 [.agg #[.slice a2 l4 c3, .int .i64 x0.2]] [⟨(.int .i64), ⟨a2, l4, c3⟩, x0.1⟩] (fun _ : Unit => True) (fun _ => .bool r) (fun _ => []) :=
  by
    subst hl5
    refine FC.of (T := TTx) Tryz.call103 Tryz.func103 rfl rfl fun w0 => ?_
    unfold M_i_emptyLine at h
    refine JS.rgB ttOk 2 [] [2] [(1, .bp 2 0)] (.new 2 38 [.slice a2 x0.1.length c3, .int .i64 x0.2] .nil) ⟨⟨rfl, trivial⟩, (Bs rfl rfl)⟩ rfl rfl (JS.rg0 ttOk 10 [(2, .v (.bool (bif (decide ((x0.1.length : Int) = 0)) then (decide (x0.2 = 0)) else false)))] ⟨⟨rfl, trivial⟩, rfl⟩ rfl rfl ?_)
    cases h
    exact JS.ret ttOk () trivial rfl rfl [] rfl

def M_i_EdOk_L1 (x0 : Bool × Int × (List Int × Int) × Int × Int × Int × Int × Int × Int × Int × List (List Int) × (List (List Int × Int)) × Int × (List Int × Int) × List Int × Int × List Int × Int) (j116 : Unit → Option Bool) (k111 : Int → Option Bool) : Int → Option Bool := fun x69 =>
  (bif (decide (x69 < (x0.2.2.2.2.2.2.2.2.2.2.2.2.2.2.1.length : Int))) then
  (guardO (0 ≤ x69 ∧ x69 < (x0.2.2.2.2.2.2.2.2.2.2.2.2.2.2.1.length : Int)) <|
  (bindO (M_i_Printable (at' x0.2.2.2.2.2.2.2.2.2.2.2.2.2.2.1 x69)) fun (y104 : Bool) =>
  (bif (!y104) then
  some false
  else
  k111 (W (x69 + 1)))))
  else
  j116 ())

def M_i_EdOk (x0 : Bool × Int × (List Int × Int) × Int × Int × Int × Int × Int × Int × Int × List (List Int) × (List (List Int × Int)) × Int × (List Int × Int) × List Int × Int × List Int × Int) : Option Bool :=
  (bindO (M_i_LineOk x0.2.2.1) fun (y26 : Bool) =>
  (callO ((!y26) = false) (M_i_LineOk x0.2.2.2.2.2.2.2.2.2.2.2.2.2.1) false fun (y28 : Bool) =>
  (callO ((bif (!y26) then true else (!y28)) = false) (M_i_LineOk x0.2.2.2.2.2.2.2.2.2.2.2.2.2.2.2.2) false fun (y31 : Bool) =>
  (callO ((bif (bif (!y26) then true else (!y28)) then true else (!y31)) = false) (M_i_in x0.2.2.2.1 0 999) false fun (y34 : Bool) =>
  (callO ((bif (bif (bif (!y26) then true else (!y28)) then true else (!y31)) then true else (!y34)) = false) (M_i_in x0.2.2.2.2.2.1 0 999) false fun (y37 : Bool) =>
  (callO ((bif (bif (bif (bif (!y26) then true else (!y28)) then true else (!y31)) then true else (!y34)) then true else (!y37)) = false) (M_i_modeOk x0) false fun (y40 : Bool) =>
  (bif (bif (bif (bif (bif (bif (!y26) then true else (!y28)) then true else (!y31)) then true else (!y34)) then true else (!y37)) then true else (!y40)) then
  some false
  else
  (callO ((!(decide (x0.2.2.2.2.2.2.2.1 = 0))) = true ∧ (bif (decide (x0.2.2.2.2.2.2.2.1 = 0)) then (!(decide (x0.2.2.2.2.2.2.2.2.1 = 0))) else false) = false) (M_i_Printable x0.2.2.2.2.2.2.2.1) false fun (y43 : Bool) =>
  (callO ((!y43) = false ∧ (!(decide (x0.2.2.2.2.2.2.2.1 = 0))) = true ∧ (bif (decide (x0.2.2.2.2.2.2.2.1 = 0)) then (!(decide (x0.2.2.2.2.2.2.2.2.1 = 0))) else false) = false) (M_i_in x0.2.2.2.2.2.2.2.2.1 0 3) false fun (y47 : Bool) =>
  (bif (bif (bif (decide (x0.2.2.2.2.2.2.2.1 = 0)) then (!(decide (x0.2.2.2.2.2.2.2.2.1 = 0))) else false) then true else (bif (!(decide (x0.2.2.2.2.2.2.2.1 = 0))) then (bif (!y43) then true else (!y47)) else false)) then
  some false
  else
  (bindO (M_i_in x0.2.2.2.2.2.2.2.2.2.1 0 3) fun (y52 : Bool) =>
  (callO ((!y52) = false) (M_i_RingOk x0.2.2.2.2.2.2.2.2.2.2.1) false fun (y54 : Bool) =>
  (callO ((bif (!y52) then true else (!y54)) = false) (M_i_UndoOk x0.2.2.2.2.2.2.2.2.2.2.2.1) false fun (y57 : Bool) =>
  (callO ((bif (bif (!y52) then true else (!y54)) then true else (!y57)) = false) (M_i_in x0.2.2.2.2.2.2.2.2.2.2.2.2.1 0 1000000060) false fun (y60 : Bool) =>
  (callO ((bif (bif (bif (!y52) then true else (!y54)) then true else (!y57)) then true else (!y60)) = false) (M_i_in x0.2.2.2.2.2.2.2.2.2.2.2.2.2.2.2.1 0 1000000060) false fun (y63 : Bool) =>
  (bif (bif (bif (bif (bif (!y52) then true else (!y54)) then true else (!y57)) then true else (!y60)) then true else (!y63)) then
  some false
  else
  (callO ((decide (x0.2.2.2.2.2.2.2.2.2.2.2.2.1 = 0)) = true) (M_i_emptyLine x0.2.2.2.2.2.2.2.2.2.2.2.2.2.1) false fun (y66 : Bool) =>
  (bif (bif (bif (decide (x0.2.2.2.2.2.2.2.2.2.2.2.2.1 = 0)) then (!y66) else false) then true else (decide (40 < (x0.2.2.2.2.2.2.2.2.2.2.2.2.2.2.1.length : Int)))) then
  some false
  else
  (joinO (fun (_ : Unit) =>
  (callO ((bif (decide ((x0.2.2.2.2.2.2.2.2.2.2.2.2.2.2.1.length : Int) = 0)) then (decide (x0.2.2.2.2.2.2.2.2.2.2.2.2.2.2.2.1 = 0)) else false) = true ∧ (decide (x0.2.1 = 3)) = false) (M_i_emptyLine x0.2.2.2.2.2.2.2.2.2.2.2.2.2.2.2.2) false fun (y120 : Bool) =>
  some (bif (decide (x0.2.1 = 3)) then true else (bif (bif (decide ((x0.2.2.2.2.2.2.2.2.2.2.2.2.2.2.1.length : Int) = 0)) then (decide (x0.2.2.2.2.2.2.2.2.2.2.2.2.2.2.2.1 = 0)) else false) then y120 else false)))) fun j116 =>
  (fixF (M_i_EdOk_L1 x0 j116) FUEL 0))))))))))))))))))))

theorem ok_i_EdOk (x0 : Bool × Int × (List Int × Int) × Int × Int × Int × Int × Int × Int × Int × List (List Int) × (List (List Int × Int)) × Int × (List Int × Int) × List Int × Int × List Int × Int) (a2 : Option Addr) (c3 : Nat) (l4 : Nat) (hl5 : x0.2.2.1.1.length = l4) (a6 : Option Addr) (c7 : Nat) (l8 : Nat) (hl9 : x0.2.2.2.2.2.2.2.2.2.2.1.length = l8) (a10 : Option Addr) (c11 : Nat) (l12 : Nat) (hl13 : x0.2.2.2.2.2.2.2.2.2.2.2.1.length = l12) (a14 : Option Addr) (c15 : Nat) (l16 : Nat) (hl17 : x0.2.2.2.2.2.2.2.2.2.2.2.2.2.1.1.length = l16) (a18 : Option Addr) (c19 : Nat) (l20 : Nat) (hl21 : x0.2.2.2.2.2.2.2.2.2.2.2.2.2.2.1.length = l20) (a22 : Option Addr) (c23 : Nat) (l24 : Nat) (hl25 : x0.2.2.2.2.2.2.2.2.2.2.2.2.2.2.2.2.1.length = l24) (r : Bool) (h : M_i_EdOk x0 = some r) :
    FC Tryz.prog 34 [.agg #[.bool x0.1, .int .i64 x0.2.1, .slice a2 l4 c3, .int .i64 x0.2.2.1.2, .int .i64 x0.2.2.2.1, .int .i64 x0.2.2.2.2.1, .int .i64 x0.2.2.2.2.2.1, .int .i64 x0.2.2.2.2.2.2.1, .int .i64 x0.2.2.2.2.2.2.2.1, .int .i64 x0.2.2.2.2.2.2.2.2.1, .int .i64 x0.2.2.2.2.2.2.2.2.2.1, .slice a6 l8 c7, .slice a10 l12 c11, .int .i64 x0.2.2.2.2.2.2.2.2.2.2.2.2.1, .slice a14 l16 c15, .int .i64 x0.2.2.2.2.2.2.2.2.2.2.2.2.2.1.2, .slice a18 l20 c19, .int .i64 x0.2.2.2.2.2.2.2.2.2.2.2.2.2.2.2.1, .slice a22 l24 c23, .int .i64 x0.2.2.2.2.2.2.2.2.2.2.2.2.2.2.2.2.2]] [⟨(.int .i64), ⟨a2, l4, c3⟩, x0.2.2.1.1⟩, ⟨(.sl (.int .i64)), ⟨a6, l8, c7⟩, x0.2.2.2.2.2.2.2.2.2.2.1⟩, ⟨(.pair (.sl (.int .i64)) (.int .i64)), ⟨a10, l12, c11⟩, x0.2.2.2.2.2.2.2.2.2.2.2.1⟩, ⟨(.int .i64), ⟨a14, l16, c15⟩, x0.2.2.2.2.2.2.2.2.2.2.2.2.2.1.1⟩, ⟨(.int .i64), ⟨a18, l20, c19⟩, x0.2.2.2.2.2.2.2.2.2.2.2.2.2.2.1⟩, ⟨(.int .i64), ⟨a22, l24, c23⟩, x0.2.2.2.2.2.2.2.2.2.2.2.2.2.2.2.2.1⟩] (fun _ : Unit => True) (fun _ => .bool r) (fun _ => []) :=
  by
    subst hl5
    subst hl9
    subst hl13
    subst hl17
    subst hl21
    subst hl25
    refine FC.of (T := TTx) Tryz.call34 Tryz.func34 rfl rfl fun w0 => ?_
    unfold M_i_EdOk at h
    refine JS.rgB ttOk 2 [] [7] [(1, .bp 7 0)] (.new 7 46 (cl46 x0 a2 c3 a6 c7 a10 c11 a14 c15 a18 c19 a22 c23) .nil) ⟨⟨rfl, trivial⟩, (Bs rfl rfl)⟩ rfl rfl (JS.seq (JS.seq (JS.region (JO.reg ttOk 2 [] [] [(6, .v (.agg #[.slice a2 x0.2.2.1.1.length c3, .int .i64 x0.2.2.1.2]))] _ rfl ⟨⟨rfl, trivial⟩, rfl⟩ ?_))))
    obtain ⟨y26, hy27, h⟩ := bindO_some h
    refine JO.call rfl rfl rfl rfl (ok_i_LineOk x0.2.2.1 a2 c3 x0.2.2.1.1.length rfl _ hy27) rfl [0] rfl rfl fun _ _ => JO.reg ttOk 4 [] [] [(9, .v (.bool (!y26))), (11, .cd [(9, false)] (.v (.agg #[.slice a14 x0.2.2.2.2.2.2.2.2.2.2.2.2.2.1.1.length c15, .int .i64 x0.2.2.2.2.2.2.2.2.2.2.2.2.2.1.2])))] _ rfl ⟨(Es rfl), rfl⟩ ?_
    obtain ⟨y28, hy29, -, h⟩ := callO_some h
    refine JO.callg rfl rfl rfl rfl (fun q129 => ok_i_LineOk x0.2.2.2.2.2.2.2.2.2.2.2.2.2.1 a14 c15 x0.2.2.2.2.2.2.2.2.2.2.2.2.2.1.1.length rfl _ (hy29 q129)) rfl [3] rfl rfl (JO.reg ttOk 5 [] [] [(15, .v (.bool (bif (!y26) then true else (!y28)))), (17, .cd [(15, false)] (.v (.agg #[.slice a22 x0.2.2.2.2.2.2.2.2.2.2.2.2.2.2.2.2.1.length c23, .int .i64 x0.2.2.2.2.2.2.2.2.2.2.2.2.2.2.2.2.2])))] _ rfl ⟨(Es rfl), rfl⟩ ?_)
    obtain ⟨y31, hy32, -, h⟩ := callO_some h
    refine JO.callg rfl rfl rfl rfl (fun q130 => ok_i_LineOk x0.2.2.2.2.2.2.2.2.2.2.2.2.2.2.2.2 a22 c23 x0.2.2.2.2.2.2.2.2.2.2.2.2.2.2.2.2.1.length rfl _ (hy32 q130)) rfl [5] rfl rfl (JO.reg ttOk 5 [] [] [(21, .v (.bool (bif (bif (!y26) then true else (!y28)) then true else (!y31)))), (23, .cd [(21, false)] (.v (.int .i64 x0.2.2.2.1)))] _ rfl ⟨(Es rfl), rfl⟩ ?_)
    obtain ⟨y34, hy35, -, h⟩ := callO_some h
    refine JO.callg rfl rfl rfl rfl (fun q131 => ok_i_in x0.2.2.2.1 0 999 _ (hy35 q131)) rfl [] rfl rfl (JO.reg ttOk 5 [] [] [(27, .v (.bool (bif (bif (bif (!y26) then true else (!y28)) then true else (!y31)) then true else (!y34)))), (29, .cd [(27, false)] (.v (.int .i64 x0.2.2.2.2.2.1)))] _ rfl ⟨(Es rfl), rfl⟩ ?_)
    obtain ⟨y37, hy38, -, h⟩ := callO_some h
    refine JO.callg rfl rfl rfl rfl (fun q132 => ok_i_in x0.2.2.2.2.2.1 0 999 _ (hy38 q132)) rfl [] rfl rfl (JO.reg ttOk 4 [] [] [(33, .v (.bool (bif (bif (bif (bif (!y26) then true else (!y28)) then true else (!y31)) then true else (!y34)) then true else (!y37)))), (34, .cd [(33, false)] (.v (.agg (cl46 x0 a2 c3 a6 c7 a10 c11 a14 c15 a18 c19 a22 c23).toArray)))] _ rfl ⟨(Es rfl), rfl⟩ ?_)
    obtain ⟨y40, hy41, -, h⟩ := callO_some h
    refine JO.callg rfl rfl rfl rfl (fun q133 => ok_i_modeOk x0 a2 c3 x0.2.2.1.1.length rfl a6 c7 x0.2.2.2.2.2.2.2.2.2.2.1.length rfl a10 c11 x0.2.2.2.2.2.2.2.2.2.2.2.1.length rfl a14 c15 x0.2.2.2.2.2.2.2.2.2.2.2.2.2.1.1.length rfl a18 c19 x0.2.2.2.2.2.2.2.2.2.2.2.2.2.2.1.length rfl a22 c23 x0.2.2.2.2.2.2.2.2.2.2.2.2.2.2.2.2.1.length rfl _ (hy41 q133)) rfl [0, 1, 2, 3, 4, 5] rfl rfl (JO.reg ttOk 2 [] [] [(37, .v (.bool (bif (bif (bif (bif (bif (!y26) then true else (!y28)) then true else (!y31)) then true else (!y34)) then true else (!y37)) then true else (!y40))))] _ rfl ⟨⟨rfl, trivial⟩, rfl⟩ (JO.done rfl ?_))
    refine JS.cond rfl (fun ht153 => ?_) (fun ht153 => ?_)
    · have h := condT h ht153
      refine JS.rg0 ttOk 1 [(2, .v (.bool false))] ⟨⟨rfl, trivial⟩, rfl⟩ rfl rfl ?_
      cases h
      exact JS.ret ttOk () trivial rfl rfl [] rfl
    have h := condF h ht153
    refine JS.skip (JS.seq (JS.seq (JS.region (JO.reg ttOk 15 [] [] [(46, .v (.bool (bif (decide (x0.2.2.2.2.2.2.2.1 = 0)) then (!(decide (x0.2.2.2.2.2.2.2.2.1 = 0))) else false))), (50, .cd [(46, false)] (.v (.bool (!(decide (x0.2.2.2.2.2.2.2.1 = 0)))))), (52, .cd [(50, true), (46, false)] (.v (.int .i64 x0.2.2.2.2.2.2.2.1)))] _ rfl ⟨(Es rfl), rfl⟩ ?_))))
    obtain ⟨y43, hy44, -, h⟩ := callO_some h
    refine JO.callg rfl rfl rfl rfl (fun q134 q135 => ok_i_Printable x0.2.2.2.2.2.2.2.1 _ (hy44 ⟨q134, q135⟩)) rfl [] rfl rfl (JO.reg ttOk 4 [] [] [(55, .cd [(50, true), (46, false)] (.v (.bool (!y43)))), (57, .cd [(55, false), (50, true), (46, false)] (.v (.int .i64 x0.2.2.2.2.2.2.2.2.1)))] _ rfl ⟨(Es rfl), rfl⟩ ?_)
    obtain ⟨y47, hy48, -, h⟩ := callO_some h
    refine JO.callg rfl rfl rfl rfl (fun q136 q137 q138 => ok_i_in x0.2.2.2.2.2.2.2.2.1 0 3 _ (hy48 ⟨q136, q137, q138⟩)) rfl [] rfl rfl (JO.reg ttOk 4 [] [] [(62, .v (.bool (bif (bif (decide (x0.2.2.2.2.2.2.2.1 = 0)) then (!(decide (x0.2.2.2.2.2.2.2.2.1 = 0))) else false) then true else (bif (!(decide (x0.2.2.2.2.2.2.2.1 = 0))) then (bif (!y43) then true else (!y47)) else false))))] _ rfl ⟨⟨rfl, trivial⟩, rfl⟩ (JO.done rfl ?_))
    refine JS.cond rfl (fun ht152 => ?_) (fun ht152 => ?_)
    · have h := condT h ht152
      refine JS.rg0 ttOk 1 [(2, .v (.bool false))] ⟨⟨rfl, trivial⟩, rfl⟩ rfl rfl ?_
      cases h
      exact JS.ret ttOk () trivial rfl rfl [] rfl
    have h := condF h ht152
    refine JS.skip (JS.seq (JS.seq (JS.region (JO.reg ttOk 2 [] [] [(64, .v (.int .i64 x0.2.2.2.2.2.2.2.2.2.1))] _ rfl ⟨⟨rfl, trivial⟩, rfl⟩ ?_))))
    obtain ⟨y52, hy53, h⟩ := bindO_some h
    refine JO.call rfl rfl rfl rfl (ok_i_in x0.2.2.2.2.2.2.2.2.2.1 0 3 _ hy53) rfl [] rfl rfl fun _ _ => JO.reg ttOk 4 [] [] [(67, .v (.bool (!y52))), (69, .cd [(67, false)] (.v (.agg #[.slice a6 x0.2.2.2.2.2.2.2.2.2.2.1.length c7])))] _ rfl ⟨(Es rfl), rfl⟩ ?_
    obtain ⟨y54, hy55, -, h⟩ := callO_some h
    refine JO.callg rfl rfl rfl rfl (fun q139 => ok_i_RingOk x0.2.2.2.2.2.2.2.2.2.2.1 a6 c7 x0.2.2.2.2.2.2.2.2.2.2.1.length rfl _ (hy55 q139)) rfl [1] rfl rfl (JO.reg ttOk 5 [] [] [(73, .v (.bool (bif (!y52) then true else (!y54)))), (75, .cd [(73, false)] (.v (.agg #[.slice a10 x0.2.2.2.2.2.2.2.2.2.2.2.1.length c11])))] _ rfl ⟨(Es rfl), rfl⟩ ?_)
    obtain ⟨y57, hy58, -, h⟩ := callO_some h
    refine JO.callg rfl rfl rfl rfl (fun q140 => ok_i_UndoOk x0.2.2.2.2.2.2.2.2.2.2.2.1 a10 c11 x0.2.2.2.2.2.2.2.2.2.2.2.1.length rfl _ (hy58 q140)) rfl [2] rfl rfl (JO.reg ttOk 5 [] [] [(79, .v (.bool (bif (bif (!y52) then true else (!y54)) then true else (!y57)))), (81, .cd [(79, false)] (.v (.int .i64 x0.2.2.2.2.2.2.2.2.2.2.2.2.1)))] _ rfl ⟨(Es rfl), rfl⟩ ?_)
    obtain ⟨y60, hy61, -, h⟩ := callO_some h
    refine JO.callg rfl rfl rfl rfl (fun q141 => ok_i_in x0.2.2.2.2.2.2.2.2.2.2.2.2.1 0 1000000060 _ (hy61 q141)) rfl [] rfl rfl (JO.reg ttOk 5 [] [] [(85, .v (.bool (bif (bif (bif (!y52) then true else (!y54)) then true else (!y57)) then true else (!y60)))), (87, .cd [(85, false)] (.v (.int .i64 x0.2.2.2.2.2.2.2.2.2.2.2.2.2.2.2.1)))] _ rfl ⟨(Es rfl), rfl⟩ ?_)
    obtain ⟨y63, hy64, -, h⟩ := callO_some h
    refine JO.callg rfl rfl rfl rfl (fun q142 => ok_i_in x0.2.2.2.2.2.2.2.2.2.2.2.2.2.2.2.1 0 1000000060 _ (hy64 q142)) rfl [] rfl rfl (JO.reg ttOk 2 [] [] [(90, .v (.bool (bif (bif (bif (bif (!y52) then true else (!y54)) then true else (!y57)) then true else (!y60)) then true else (!y63))))] _ rfl ⟨⟨rfl, trivial⟩, rfl⟩ (JO.done rfl ?_))
    refine JS.cond rfl (fun ht151 => ?_) (fun ht151 => ?_)
    · have h := condT h ht151
      refine JS.rg0 ttOk 1 [(2, .v (.bool false))] ⟨⟨rfl, trivial⟩, rfl⟩ rfl rfl ?_
      cases h
      exact JS.ret ttOk () trivial rfl rfl [] rfl
    have h := condF h ht151
    refine JS.skip (JS.seq (JS.seq (JS.region (JO.reg ttOk 6 [] [] [(94, .v (.bool (decide (x0.2.2.2.2.2.2.2.2.2.2.2.2.1 = 0)))), (96, .cd [(94, true)] (.v (.agg #[.slice a14 x0.2.2.2.2.2.2.2.2.2.2.2.2.2.1.1.length c15, .int .i64 x0.2.2.2.2.2.2.2.2.2.2.2.2.2.1.2])))] _ rfl ⟨(Es rfl), rfl⟩ ?_))))
    obtain ⟨y66, hy67, -, h⟩ := callO_some h
    refine JO.callg rfl rfl rfl rfl (fun q143 => ok_i_emptyLine x0.2.2.2.2.2.2.2.2.2.2.2.2.2.1 a14 c15 x0.2.2.2.2.2.2.2.2.2.2.2.2.2.1.1.length rfl _ (hy67 q143)) rfl [3] rfl rfl (JO.reg ttOk 8 [] [] [(105, .v (.bool (bif (bif (decide (x0.2.2.2.2.2.2.2.2.2.2.2.2.1 = 0)) then (!y66) else false) then true else (decide (40 < (x0.2.2.2.2.2.2.2.2.2.2.2.2.2.2.1.length : Int))))))] _ rfl ⟨⟨rfl, trivial⟩, rfl⟩ (JO.done rfl ?_))
    refine JS.cond rfl (fun ht150 => ?_) (fun ht150 => ?_)
    · have h := condT h ht150
      refine JS.rg0 ttOk 1 [(2, .v (.bool false))] ⟨⟨rfl, trivial⟩, rfl⟩ rfl rfl ?_
      cases h
      exact JS.ret ttOk () trivial rfl rfl [] rfl
    have h := condF h ht150
    refine JS.skip (JS.seq (JS.rg0 ttOk 4 [(107, .v (.slice a18 x0.2.2.2.2.2.2.2.2.2.2.2.2.2.2.1.length c19)), (108, .v (.int .i64 (x0.2.2.2.2.2.2.2.2.2.2.2.2.2.2.1.length : Int))), (109, .v (.int .i64 0))] ⟨(Es rfl), rfl⟩ rfl rfl ?_))
    obtain ⟨j116, hj149, h⟩ := joinO_some h
    refine JS.blockJ (ι := Unit) ⟨fun _ => j116 () = some r, fun _ => [(1, .bp 7 0)], fun _ => (.new 7 46 (cl46 x0 a2 c3 a6 c7 a10 c11 a14 c15 a18 c19 a22 c23) .nil), fun _ => [⟨(.int .i64), ⟨a2, x0.2.2.1.1.length, c3⟩, x0.2.2.1.1⟩, ⟨(.sl (.int .i64)), ⟨a6, x0.2.2.2.2.2.2.2.2.2.2.1.length, c7⟩, x0.2.2.2.2.2.2.2.2.2.2.1⟩, ⟨(.pair (.sl (.int .i64)) (.int .i64)), ⟨a10, x0.2.2.2.2.2.2.2.2.2.2.2.1.length, c11⟩, x0.2.2.2.2.2.2.2.2.2.2.2.1⟩, ⟨(.int .i64), ⟨a14, x0.2.2.2.2.2.2.2.2.2.2.2.2.2.1.1.length, c15⟩, x0.2.2.2.2.2.2.2.2.2.2.2.2.2.1.1⟩, ⟨(.int .i64), ⟨a18, x0.2.2.2.2.2.2.2.2.2.2.2.2.2.2.1.length, c19⟩, x0.2.2.2.2.2.2.2.2.2.2.2.2.2.2.1⟩, ⟨(.int .i64), ⟨a22, x0.2.2.2.2.2.2.2.2.2.2.2.2.2.2.2.2.1.length, c23⟩, x0.2.2.2.2.2.2.2.2.2.2.2.2.2.2.2.2.1⟩], fun _ => [], fun _ => 0⟩ ?_ ?_
    · refine JS.loop (ι := Nat × Int) ⟨fun z => fixF (M_i_EdOk_L1 x0 j116) z.1 z.2 = some r, fun z => [(1, .bp 7 0), (107, .v (.slice a18 x0.2.2.2.2.2.2.2.2.2.2.2.2.2.2.1.length c19)), (108, .v (.int .i64 (x0.2.2.2.2.2.2.2.2.2.2.2.2.2.2.1.length : Int))), (109, .v (.int .i64 z.2))], fun z => (.new 7 46 (cl46 x0 a2 c3 a6 c7 a10 c11 a14 c15 a18 c19 a22 c23) .nil), fun z => [⟨(.int .i64), ⟨a18, x0.2.2.2.2.2.2.2.2.2.2.2.2.2.2.1.length, c19⟩, x0.2.2.2.2.2.2.2.2.2.2.2.2.2.2.1⟩, ⟨(.int .i64), ⟨a2, x0.2.2.1.1.length, c3⟩, x0.2.2.1.1⟩, ⟨(.sl (.int .i64)), ⟨a6, x0.2.2.2.2.2.2.2.2.2.2.1.length, c7⟩, x0.2.2.2.2.2.2.2.2.2.2.1⟩, ⟨(.pair (.sl (.int .i64)) (.int .i64)), ⟨a10, x0.2.2.2.2.2.2.2.2.2.2.2.1.length, c11⟩, x0.2.2.2.2.2.2.2.2.2.2.2.1⟩, ⟨(.int .i64), ⟨a14, x0.2.2.2.2.2.2.2.2.2.2.2.2.2.1.1.length, c15⟩, x0.2.2.2.2.2.2.2.2.2.2.2.2.2.1.1⟩, ⟨(.int .i64), ⟨a22, x0.2.2.2.2.2.2.2.2.2.2.2.2.2.2.2.2.1.length, c23⟩, x0.2.2.2.2.2.2.2.2.2.2.2.2.2.2.2.2.1⟩], fun z => [], fun z => z.1⟩ (FUEL, 0) h (Es rfl) (Bs rfl rfl) [4, 0, 1, 2, 3, 5] rfl [] rfl ?_
      rintro ⟨n112, x69⟩ h
      obtain ⟨n112, rfl, h⟩ := fixF_some h
      rw [M_i_EdOk_L1] at h
      refine JS.rg0 ttOk 1 [(110, .v (.bool (decide (x69 < (x0.2.2.2.2.2.2.2.2.2.2.2.2.2.2.1.length : Int)))))] ⟨⟨rfl, trivial⟩, rfl⟩ rfl rfl (JS.seq ?_)
      refine JS.cond rfl (fun ht146 => ?_) (fun ht146 => ?_)
      · have h := condT h ht146
        refine JS.skip (JS.seq (JS.block (JS.seq (JS.region (JO.know 0 rfl fun hs144 => ?_)))))
        obtain ⟨g103, h⟩ := guardO_some h
        refine JO.reg ttOk 1 [] [] [(111, .ep ⟨a18, x0.2.2.2.2.2.2.2.2.2.2.2.2.2.2.1.length, c19⟩ (Int.toNat x69 * 1))] _ rfl ⟨hs144.ix g103, ⟨rfl, trivial⟩, rfl⟩ (JO.load ttOk rfl rfl rfl rfl rfl rfl rfl 0 rfl rfl (Int.toNat x69) 0 (at' x0.2.2.2.2.2.2.2.2.2.2.2.2.2.2.1 x69) ⟨at_some g103, rfl⟩ rfl rfl (JO.reg ttOk 1 [] [] [(4, .v (.int .i64 (at' x0.2.2.2.2.2.2.2.2.2.2.2.2.2.2.1 x69)))] _ rfl ⟨⟨rfl, trivial⟩, rfl⟩ (JO.done rfl (JS.seq (JS.region (JO.reg ttOk 1 [] [] [(113, .v (.int .i64 (at' x0.2.2.2.2.2.2.2.2.2.2.2.2.2.2.1 x69)))] _ rfl ⟨⟨rfl, trivial⟩, rfl⟩ ?_))))))
        obtain ⟨y104, hy105, h⟩ := bindO_some h
        refine JO.call rfl rfl rfl rfl (ok_i_Printable (at' x0.2.2.2.2.2.2.2.2.2.2.2.2.2.2.1 x69) _ hy105) rfl [] rfl rfl fun _ _ => JO.reg ttOk 1 [] [] [(115, .v (.bool (!y104)))] _ rfl ⟨⟨rfl, trivial⟩, rfl⟩ (JO.done rfl ?_)
        refine JS.cond rfl (fun ht145 => ?_) (fun ht145 => ?_)
        · have h := condT h ht145
          refine JS.rg0 ttOk 1 [(2, .v (.bool false))] ⟨⟨rfl, trivial⟩, rfl⟩ rfl rfl ?_
          cases h
          exact JS.ret ttOk () trivial rfl rfl [] rfl
        have h := condF h ht145
        refine JS.skip (JS.endB (JS.re ttOk 2 [(W (x69 + 1))] [] [(109, .v (.int .i64 (W (x69 + 1))))] _ ⟨⟨trivial, rfl⟩, ⟨rfl, trivial⟩, rfl⟩ rfl rfl (JS.endL (n112, (W (x69 + 1))) h (Nat.lt_succ_self _) (Es rfl) (Bs rfl rfl) [0, 1, 2, 3, 4, 5] rfl [] rfl)))
      have h := condF h ht146
      refine JS.exit rfl (JS.endJ () h ⟨rfl, trivial⟩ (Bs rfl rfl) [1, 2, 3, 4, 0, 5] rfl [] rfl)
    rintro _ h
    subst hj149
    refine JS.seq (JS.region (JO.reg ttOk 16 [] [] [(120, .v (.bool (decide (x0.2.1 = 3)))), (130, .cd [(120, false)] (.v (.bool (bif (decide ((x0.2.2.2.2.2.2.2.2.2.2.2.2.2.2.1.length : Int) = 0)) then (decide (x0.2.2.2.2.2.2.2.2.2.2.2.2.2.2.2.1 = 0)) else false)))), (132, .cd [(130, true), (120, false)] (.v (.agg #[.slice a22 x0.2.2.2.2.2.2.2.2.2.2.2.2.2.2.2.2.1.length c23, .int .i64 x0.2.2.2.2.2.2.2.2.2.2.2.2.2.2.2.2.2])))] _ rfl ⟨(Es rfl), rfl⟩ ?_))
    obtain ⟨y120, hy121, -, h⟩ := callO_some h
    refine JO.callg rfl rfl rfl rfl (fun q147 q148 => ok_i_emptyLine x0.2.2.2.2.2.2.2.2.2.2.2.2.2.2.2.2 a22 c23 x0.2.2.2.2.2.2.2.2.2.2.2.2.2.2.2.2.1.length rfl _ (hy121 ⟨q147, q148⟩)) rfl [5] rfl rfl (JO.reg ttOk 3 [] [] [(2, .v (.bool (bif (decide (x0.2.1 = 3)) then true else (bif (bif (decide ((x0.2.2.2.2.2.2.2.2.2.2.2.2.2.2.1.length : Int) = 0)) then (decide (x0.2.2.2.2.2.2.2.2.2.2.2.2.2.2.2.1 = 0)) else false) then y120 else false))))] _ rfl ⟨⟨rfl, trivial⟩, rfl⟩ (JO.done rfl ?_))
    cases h
    exact JS.ret ttOk () trivial rfl rfl [] rfl

def M_i_HistOk_L1 (x0 : Int × List (List UInt8)) (j20 : Unit → Option Bool) (k15 : Int → Option Bool) : Int → Option Bool := fun x8 =>
  (bif (decide (x8 < (x0.2.length : Int))) then
  (guardO (0 ≤ x8 ∧ x8 < (x0.2.length : Int)) <|
  (bindO (M_i_in ((at' x0.2 x8).length : Int) 1 1000) fun (y11 : Bool) =>
  (bif (!y11) then
  some false
  else
  k15 (W (x8 + 1)))))
  else
  j20 ())

def M_i_HistOk (x0 : Int × List (List UInt8)) : Option Bool :=
  (bindO (M_i_in x0.1 1 1000000000) fun (y6 : Bool) =>
  (bif (bif (!y6) then true else (decide (60 < (x0.2.length : Int)))) then
  some false
  else
  (joinO (fun (_ : Unit) =>
  some true) fun j20 =>
  (fixF (M_i_HistOk_L1 x0 j20) FUEL 0))))

theorem ok_i_HistOk (x0 : Int × List (List UInt8)) (a2 : Option Addr) (c3 : Nat) (l4 : Nat) (hl5 : x0.2.length = l4) (r : Bool) (h : M_i_HistOk x0 = some r) :
    FC Tryz.prog 96 [.agg #[.int .i64 x0.1, .slice a2 l4 c3]] [⟨.str, ⟨a2, l4, c3⟩, x0.2⟩] (fun _ : Unit => True) (fun _ => .bool r) (fun _ => []) :=
  by
    subst hl5
    refine FC.of (T := TTx) Tryz.call96 Tryz.func96 rfl rfl fun w0 => ?_
    unfold M_i_HistOk at h
    refine JS.rgB ttOk 2 [] [2] [(1, .bp 2 0)] (.new 2 50 [.int .i64 x0.1, .slice a2 x0.2.length c3] .nil) ⟨⟨rfl, trivial⟩, (Bs rfl rfl)⟩ rfl rfl (JS.seq (JS.seq (JS.region (JO.reg ttOk 2 [] [] [(6, .v (.int .i64 x0.1))] _ rfl ⟨⟨rfl, trivial⟩, rfl⟩ ?_))))
    obtain ⟨y6, hy7, h⟩ := bindO_some h
    refine JO.call rfl rfl rfl rfl (ok_i_in x0.1 1 1000000000 _ hy7) rfl [] rfl rfl fun _ _ => JO.reg ttOk 7 [] [] [(14, .v (.bool (bif (!y6) then true else (decide (60 < (x0.2.length : Int))))))] _ rfl ⟨⟨rfl, trivial⟩, rfl⟩ (JO.done rfl ?_)
    refine JS.cond rfl (fun ht30 => ?_) (fun ht30 => ?_)
    · have h := condT h ht30
      refine JS.rg0 ttOk 1 [(2, .v (.bool false))] ⟨⟨rfl, trivial⟩, rfl⟩ rfl rfl ?_
      cases h
      exact JS.ret ttOk () trivial rfl rfl [] rfl
    have h := condF h ht30
    refine JS.skip (JS.seq (JS.rg0 ttOk 4 [(16, .v (.slice a2 x0.2.length c3)), (17, .v (.int .i64 (x0.2.length : Int))), (18, .v (.int .i64 0))] ⟨(Es rfl), rfl⟩ rfl rfl ?_))
    obtain ⟨j20, hj29, h⟩ := joinO_some h
    refine JS.blockJ (ι := Unit) ⟨fun _ => j20 () = some r, fun _ => [], fun _ => .nil, fun _ => [], fun _ => [], fun _ => 0⟩ ?_ ?_
    · refine JS.loop (ι := Nat × Int) ⟨fun z => fixF (M_i_HistOk_L1 x0 j20) z.1 z.2 = some r, fun z => [(16, .v (.slice a2 x0.2.length c3)), (17, .v (.int .i64 (x0.2.length : Int))), (18, .v (.int .i64 z.2))], fun z => .nil, fun z => [⟨.str, ⟨a2, x0.2.length, c3⟩, x0.2⟩], fun z => [], fun z => z.1⟩ (FUEL, 0) h (Es rfl) trivial [0] rfl [] rfl ?_
      rintro ⟨n16, x8⟩ h
      obtain ⟨n16, rfl, h⟩ := fixF_some h
      rw [M_i_HistOk_L1] at h
      refine JS.rg0 ttOk 1 [(19, .v (.bool (decide (x8 < (x0.2.length : Int)))))] ⟨⟨rfl, trivial⟩, rfl⟩ rfl rfl (JS.seq ?_)
      refine JS.cond rfl (fun ht28 => ?_) (fun ht28 => ?_)
      · have h := condT h ht28
        refine JS.skip (JS.seq (JS.block (JS.seq (JS.region (JO.know 0 rfl fun hs26 => ?_)))))
        obtain ⟨g10, h⟩ := guardO_some h
        refine JO.reg ttOk 1 [] [] [(20, .ep ⟨a2, x0.2.length, c3⟩ (Int.toNat x8 * 1))] _ rfl ⟨hs26.ix g10, ⟨rfl, trivial⟩, rfl⟩ (JO.load ttOk rfl rfl rfl rfl rfl rfl rfl 0 rfl rfl (Int.toNat x8) 0 (at' x0.2 x8) ⟨at_some g10, rfl⟩ rfl rfl (JO.reg ttOk 1 [] [] [(4, .v (.string (bs (at' x0.2 x8))))] _ rfl ⟨⟨rfl, trivial⟩, rfl⟩ (JO.done rfl (JS.seq (JS.region (JO.reg ttOk 2 [] [] [(23, .v (.int .i64 ((at' x0.2 x8).length : Int)))] _ rfl ⟨⟨rfl, trivial⟩, rfl⟩ ?_))))))
        obtain ⟨y11, hy12, h⟩ := bindO_some h
        refine JO.call rfl rfl rfl rfl (ok_i_in ((at' x0.2 x8).length : Int) 1 1000 _ hy12) rfl [] rfl rfl fun _ _ => JO.reg ttOk 1 [] [] [(25, .v (.bool (!y11)))] _ rfl ⟨⟨rfl, trivial⟩, rfl⟩ (JO.done rfl ?_)
        refine JS.cond rfl (fun ht27 => ?_) (fun ht27 => ?_)
        · have h := condT h ht27
          refine JS.rg0 ttOk 1 [(2, .v (.bool false))] ⟨⟨rfl, trivial⟩, rfl⟩ rfl rfl ?_
          cases h
          exact JS.ret ttOk () trivial rfl rfl [] rfl
        have h := condF h ht27
        refine JS.skip (JS.endB (JS.re ttOk 2 [(W (x8 + 1))] [] [(18, .v (.int .i64 (W (x8 + 1))))] _ ⟨⟨trivial, rfl⟩, ⟨rfl, trivial⟩, rfl⟩ rfl rfl (JS.endL (n16, (W (x8 + 1))) h (Nat.lt_succ_self _) (Es rfl) trivial [0] rfl [] rfl)))
      have h := condF h ht28
      refine JS.exit rfl (JS.endJ () h trivial trivial [] rfl [] rfl)
    rintro _ h
    subst hj29
    refine JS.rg0 ttOk 1 [(2, .v (.bool true))] ⟨⟨rfl, trivial⟩, rfl⟩ rfl rfl ?_
    cases h
    exact JS.ret ttOk () trivial rfl rfl [] rfl

def M_i_isLower (x0 : Int) : Option Bool :=
  (bindO (M_i_in x0 97 122) fun (y2 : Bool) =>
  some y2)

theorem ok_i_isLower (x0 : Int) (r : Bool) (h : M_i_isLower x0 = some r) :
    FC Tryz.prog 178 [.int .i64 x0] [] (fun _ : Unit => True) (fun _ => .bool r) (fun _ => []) :=
  by
    refine FC.of (T := TTx) Tryz.call178 Tryz.func178 rfl rfl fun w0 => ?_
    unfold M_i_isLower at h
    refine JS.rg0 ttOk 1 [] ⟨trivial, rfl⟩ rfl rfl (JS.seq (JS.region (JO.reg ttOk 1 [] [] [(3, .v (.int .i64 x0))] _ rfl ⟨⟨rfl, trivial⟩, rfl⟩ ?_)))
    obtain ⟨y2, hy3, h⟩ := bindO_some h
    refine JO.call rfl rfl rfl rfl (ok_i_in x0 97 122 _ hy3) rfl [] rfl rfl fun _ _ => JO.reg ttOk 1 [] [] [(2, .v (.bool y2))] _ rfl ⟨⟨rfl, trivial⟩, rfl⟩ (JO.done rfl ?_)
    cases h
    exact JS.ret ttOk () trivial rfl rfl [] rfl

def M_i_KeyOk (x0 : Int × Int) : Option Bool :=
  (bif (decide (x0.1 = 1)) then
  (bindO (M_i_Printable x0.2) fun (y2 : Bool) =>
  some y2)
  else
  (bif (decide (x0.1 = 2)) then
  (callO ((decide (x0.2 = 95)) = false) (M_i_isLower x0.2) false fun (y4 : Bool) =>
  some (bif (decide (x0.2 = 95)) then true else (bif (bif (bif (bif y4 then (!(decide (x0.2 = 104))) else false) then (!(decide (x0.2 = 105))) else false) then (!(decide (x0.2 = 106))) else false) then (!(decide (x0.2 = 109))) else false)))
  else
  (bif (decide (x0.1 = 3)) then
  (bindO (M_i_in x0.2 33 126) fun (y7 : Bool) =>
  some y7)
  else
  (bindO (M_i_in x0.1 4 16) fun (y9 : Bool) =>
  some (bif y9 then (decide (x0.2 = 0)) else false)))))

theorem ok_i_KeyOk (x0 : Int × Int) (r : Bool) (h : M_i_KeyOk x0 = some r) :
    FC Tryz.prog 97 [.agg #[.int .i64 x0.1, .int .i64 x0.2]] [] (fun _ : Unit => True) (fun _ => .bool r) (fun _ => []) :=
  by
    refine FC.of (T := TTx) Tryz.call97 Tryz.func97 rfl rfl fun w0 => ?_
    unfold M_i_KeyOk at h
    refine JS.rgB ttOk 2 [] [1] [(1, .bp 1 0)] (.new 1 64 [.int .i64 x0.1, .int .i64 x0.2] .nil) ⟨⟨rfl, trivial⟩, (Bs rfl rfl)⟩ rfl rfl (JS.seq (JS.rg0 ttOk 2 [(4, .v (.int .i64 x0.1))] ⟨⟨rfl, trivial⟩, rfl⟩ rfl rfl (JS.block (JS.rg0 ttOk 2 [(5, .v (.bool (decide (x0.1 = 1))))] ⟨⟨rfl, trivial⟩, rfl⟩ rfl rfl ?_))))
    refine JS.cond rfl (fun ht17 => ?_) (fun ht17 => ?_)
    · have h := condT h ht17
      refine JS.seq (JS.region (JO.reg ttOk 2 [] [] [(8, .v (.int .i64 x0.2))] _ rfl ⟨⟨rfl, trivial⟩, rfl⟩ ?_))
      obtain ⟨y2, hy3, h⟩ := bindO_some h
      refine JO.call rfl rfl rfl rfl (ok_i_Printable x0.2 _ hy3) rfl [] rfl rfl fun _ _ => JO.reg ttOk 1 [] [] [(2, .v (.bool y2))] _ rfl ⟨⟨rfl, trivial⟩, rfl⟩ (JO.done rfl ?_)
      cases h
      exact JS.ret ttOk () trivial rfl rfl [] rfl
    have h := condF h ht17
    refine JS.rg0 ttOk 2 [(10, .v (.bool (decide (x0.1 = 2))))] ⟨⟨rfl, trivial⟩, rfl⟩ rfl rfl ?_
    refine JS.cond rfl (fun ht16 => ?_) (fun ht16 => ?_)
    · have h := condT h ht16
      refine JS.seq (JS.region (JO.reg ttOk 6 [] [] [(15, .v (.bool (decide (x0.2 = 95)))), (17, .cd [(15, false)] (.v (.int .i64 x0.2)))] _ rfl ⟨(Es rfl), rfl⟩ ?_))
      obtain ⟨y4, hy5, -, h⟩ := callO_some h
      refine JO.callg rfl rfl rfl rfl (fun q14 => ok_i_isLower x0.2 _ (hy5 q14)) rfl [] rfl rfl (JO.reg ttOk 22 [] [] [(2, .v (.bool (bif (decide (x0.2 = 95)) then true else (bif (bif (bif (bif y4 then (!(decide (x0.2 = 104))) else false) then (!(decide (x0.2 = 105))) else false) then (!(decide (x0.2 = 106))) else false) then (!(decide (x0.2 = 109))) else false))))] _ rfl ⟨⟨rfl, trivial⟩, rfl⟩ (JO.done rfl ?_))
      cases h
      exact JS.ret ttOk () trivial rfl rfl [] rfl
    have h := condF h ht16
    refine JS.rg0 ttOk 2 [(40, .v (.bool (decide (x0.1 = 3))))] ⟨⟨rfl, trivial⟩, rfl⟩ rfl rfl ?_
    refine JS.cond rfl (fun ht15 => ?_) (fun ht15 => ?_)
    · have h := condT h ht15
      refine JS.seq (JS.region (JO.reg ttOk 2 [] [] [(43, .v (.int .i64 x0.2))] _ rfl ⟨⟨rfl, trivial⟩, rfl⟩ ?_))
      obtain ⟨y7, hy8, h⟩ := bindO_some h
      refine JO.call rfl rfl rfl rfl (ok_i_in x0.2 33 126 _ hy8) rfl [] rfl rfl fun _ _ => JO.reg ttOk 1 [] [] [(2, .v (.bool y7))] _ rfl ⟨⟨rfl, trivial⟩, rfl⟩ (JO.done rfl ?_)
      cases h
      exact JS.ret ttOk () trivial rfl rfl [] rfl
    have h := condF h ht15
    refine JS.skip (JS.endB (JS.seq (JS.region (JO.reg ttOk 2 [] [] [(46, .v (.int .i64 x0.1))] _ rfl ⟨⟨rfl, trivial⟩, rfl⟩ ?_))))
    obtain ⟨y9, hy10, h⟩ := bindO_some h
    refine JO.call rfl rfl rfl rfl (ok_i_in x0.1 4 16 _ hy10) rfl [] rfl rfl fun _ _ => JO.reg ttOk 6 [] [] [(2, .v (.bool (bif y9 then (decide (x0.2 = 0)) else false)))] _ rfl ⟨⟨rfl, trivial⟩, rfl⟩ (JO.done rfl ?_)
    cases h
    exact JS.ret ttOk () trivial rfl rfl [] rfl

def M_i_copyInts (x0 : List Int) : Option (List Int) :=
  (guardO (([] : List Int).length + x0.length ≤ 536870912) <|
  some (([] : List Int) ++ x0))

theorem ok_i_copyInts (x0 : List Int) (a2 : Option Addr) (c3 : Nat) (l4 : Nat) (hl5 : x0.length = l4) (r : List Int) (h : M_i_copyInts x0 = some r) :
    FC Tryz.prog 65 [.slice a2 l4 c3] [⟨(.int .i64), ⟨a2, l4, c3⟩, x0⟩] (fun _ : Option Addr × Nat => True) (fun q => .slice q.1 r.length q.2) (fun q => [⟨(.int .i64), ⟨q.1, r.length, q.2⟩, r⟩]) :=
  by
    subst hl5
    refine FC.of (T := TTx) Tryz.call65 Tryz.func65 rfl rfl fun w0 => ?_
    unfold M_i_copyInts at h
    refine JS.rg0 ttOk 1 [] ⟨trivial, rfl⟩ rfl rfl (JS.seq (JS.region (JO.reg ttOk 1 [] [] [(3, .v (.slice a2 x0.length c3))] _ rfl ⟨⟨rfl, trivial⟩, rfl⟩ ?_)))
    obtain ⟨g6, h⟩ := guardO_some h
    refine JO.nilO (.int .i64) Sl.nil rfl rfl (JO.appendR' ttOk rfl rfl rfl rfl ⟨rfl, rfl, rfl, rfl, trivial, rfl, rfl, rfl, rfl⟩ rfl rfl rfl [0] rfl 0 rfl g6 rfl fun a7 c8 => JO.reg ttOk 1 [] [] [(2, .v (.slice a7 (([] : List Int) ++ x0).length c8))] _ rfl ⟨⟨rfl, trivial⟩, rfl⟩ (JO.done rfl ?_))
    cases h
    exact JS.ret ttOk (a7, c8) trivial rfl rfl [0] rfl

def M_i_copyLine (x0 : List Int × Int) : Option (List Int × Int) :=
  (bindO (M_i_copyInts x0.1) fun (y6 : List Int) =>
  some (y6, x0.2))

theorem ok_i_copyLine (x0 : List Int × Int) (a2 : Option Addr) (c3 : Nat) (l4 : Nat) (hl5 : x0.1.length = l4) (r : List Int × Int) (h : M_i_copyLine x0 = some r) :
    FC Tryz.prog 64 [.agg #[.slice a2 l4 c3, .int .i64 x0.2]] [⟨(.int .i64), ⟨a2, l4, c3⟩, x0.1⟩] (fun _ : Option Addr × Nat => True) (fun q => .agg #[.slice q.1 r.1.length q.2, .int .i64 r.2]) (fun q => [⟨(.int .i64), ⟨q.1, r.1.length, q.2⟩, r.1⟩]) :=
  by
    subst hl5
    refine FC.of (T := TTx) Tryz.call64 Tryz.func64 rfl rfl fun w0 => ?_
    unfold M_i_copyLine at h
    refine JS.rgB ttOk 2 [] [2, 3] [(1, .bp 2 0), (2, .bp 3 0)] (.new 2 38 [.slice a2 x0.1.length c3, .int .i64 x0.2] (.new 3 38 [.slice none 0 0, .int .i64 0] .nil)) ⟨(Es rfl), (Bs rfl rfl)⟩ rfl rfl (JS.seq ?_)
    obtain ⟨y6, hy7, h⟩ := bindO_some h
    refine JS.regionA rfl (.new 2 38 [.slice a2 x0.1.length c3, .int .i64 x0.2] .nil) [] [5, 6] ⟨rfl, rfl, rfl, rfl, trivial⟩ rfl (fun be10 => ?_)
    refine JA.reg ttOk panic_cx true 3 [0, 1, 3, 4] rfl (by kernel_rfl) [] [(4, .v (.slice a2 x0.1.length c3)), (7, .v (.int .i64 x0.2))] ⟨rfl, rfl, rfl, rfl, trivial⟩ [] rfl rfl (Es rfl) (JA.one 2 (by kernel_rfl) (JK.call rfl rfl rfl rfl (ok_i_copyInts x0.1 a2 c3 x0.1.length rfl _ hy7) rfl [0] rfl rfl ?_))
    rintro ⟨a8, c9⟩ -
    refine JA.next ⟨rfl, rfl, rfl, rfl, trivial⟩ [] rfl (JA.regL ttOk panic_cx 1 [5] rfl (by kernel_rfl) [] [(8, .v (.agg #[.slice a8 y6.length c9, .int .i64 x0.2]))] rfl ⟨rfl, trivial⟩ (JA.one 6 (by kernel_rfl) (JK.stBox ttOk rfl rfl rfl rfl rfl rfl rfl rfl (JA.nextL rfl (JA.done (by kernel_rfl) (JS.boxes (B' := (.new 3 38 [.slice a8 y6.length c9, .int .i64 x0.2] .nil)) (Bs rfl rfl) ?_))))))
    cases h
    exact JS.ret ttOk (a8, c9) trivial rfl rfl [0] rfl

def M_i_copyRing_L1 (x0 : List (List Int)) (j39 : (List (List Int)) → Option (List (List Int))) (k32 : (Int × List (List Int)) → Option (List (List Int))) : (Int × List (List Int)) → Option (List (List Int)) := fun (x6, x10) =>
  (bif (decide (x6 < (x0.length : Int))) then
  (guardO (0 ≤ x6 ∧ x6 < (x0.length : Int)) <|
  (bindO (M_i_copyInts (at' x0 x6)) fun (y20 : List Int) =>
  (guardO (x10.length + ([y20] : List (List Int)).length ≤ 536870912) <|
  k32 ((W (x6 + 1)), (x10 ++ ([y20] : List (List Int)))))))
  else
  j39 x10)

def M_i_copyRing (x0 : List (List Int)) : Option (List (List Int)) :=
  (joinO (fun (x36 : List (List Int)) =>
  some x36) fun j39 =>
  (fixF (M_i_copyRing_L1 x0 j39) FUEL (0, ([] : List (List Int)))))

theorem ok_i_copyRing (x0 : List (List Int)) (a2 : Option Addr) (c3 : Nat) (l4 : Nat) (hl5 : x0.length = l4) (r : List (List Int)) (h : M_i_copyRing x0 = some r) :
    FC Tryz.prog 145 [.agg #[.slice a2 l4 c3]] [⟨(.sl (.int .i64)), ⟨a2, l4, c3⟩, x0⟩] (fun _ : Option Addr × Nat => True) (fun q => .agg #[.slice q.1 r.length q.2]) (fun q => [⟨(.sl (.int .i64)), ⟨q.1, r.length, q.2⟩, r⟩]) :=
  by
    subst hl5
    refine FC.of (T := TTx) Tryz.call145 Tryz.func145 rfl rfl fun w0 => ?_
    unfold M_i_copyRing at h
    refine JS.rgB ttOk 2 [] [2, 3] [(1, .bp 2 0), (2, .bp 3 0)] (.new 2 41 [.slice a2 x0.length c3] (.new 3 41 [.slice none 0 0] .nil)) ⟨(Es rfl), (Bs rfl rfl)⟩ rfl rfl (JS.rgB ttOk 1 [] [4] [(3, .bp 4 0)] (.new 2 41 [.slice a2 x0.length c3] (.new 3 41 [.slice none 0 0] (.new 4 41 [.slice none 0 0] .nil))) ⟨⟨rfl, trivial⟩, (Bs rfl rfl)⟩ rfl rfl (JS.seq (JS.rg0 ttOk 4 [(7, .v (.slice a2 x0.length c3)), (8, .v (.int .i64 (x0.length : Int))), (9, .v (.int .i64 0))] ⟨(Es rfl), rfl⟩ rfl rfl ?_)))
    obtain ⟨j39, hj45, h⟩ := joinO_some h
    refine JS.blockJ (ι := List (List Int) × Option Addr × Nat) ⟨fun z => j39 z.1 = some r, fun z => [(2, .bp 3 0), (3, .bp 4 0)], fun z => (.new 3 41 [.slice none 0 0] (.new 4 41 [.slice z.2.1 z.1.length z.2.2] .nil)), fun z => [], fun z => [⟨(.sl (.int .i64)), ⟨z.2.1, z.1.length, z.2.2⟩, z.1⟩], fun z => 0⟩ ?_ ?_
    · refine JS.nilO (.sl (.int .i64)) Sl.nil rfl rfl (JS.loop (ι := Nat × Int × List (List Int) × Option Addr × Nat) ⟨fun z => fixF (M_i_copyRing_L1 x0 j39) z.1 (z.2.1, z.2.2.1) = some r, fun z => [(2, .bp 3 0), (3, .bp 4 0), (7, .v (.slice a2 x0.length c3)), (8, .v (.int .i64 (x0.length : Int))), (9, .v (.int .i64 z.2.1))], fun z => (.new 3 41 [.slice none 0 0] (.new 4 41 [.slice z.2.2.2.1 z.2.2.1.length z.2.2.2.2] .nil)), fun z => [⟨(.sl (.int .i64)), ⟨a2, x0.length, c3⟩, x0⟩], fun z => [⟨(.sl (.int .i64)), ⟨z.2.2.2.1, z.2.2.1.length, z.2.2.2.2⟩, z.2.2.1⟩], fun z => z.1⟩ (FUEL, 0, ([] : List (List Int)), none, 0) h (Es rfl) (Bs rfl rfl) [0] rfl [0] rfl ?_)
      rintro ⟨n33, x6, x10, a11, c12⟩ h
      obtain ⟨n33, rfl, h⟩ := fixF_some h
      rw [M_i_copyRing_L1] at h
      refine JS.rg0 ttOk 1 [(10, .v (.bool (decide (x6 < (x0.length : Int)))))] ⟨⟨rfl, trivial⟩, rfl⟩ rfl rfl (JS.seq ?_)
      refine JS.cond rfl (fun ht44 => ?_) (fun ht44 => ?_)
      · have h := condT h ht44
        refine JS.skip (JS.seq (JS.block (JS.seq (JS.region (JO.know 0 rfl fun hs43 => ?_)))))
        obtain ⟨g14, h⟩ := guardO_some h
        refine JO.reg ttOk 1 [] [] [(11, .ep ⟨a2, x0.length, c3⟩ (Int.toNat x6 * 1))] _ rfl ⟨hs43.ix g14, ⟨rfl, trivial⟩, rfl⟩ (JO.openR 0 rfl (Int.toNat x6) (at' x0 x6) rfl fun a15 c16 ys17 hl18 hy19 => JO.loadV ttOk rfl rfl rfl rfl rfl rfl 0 rfl rfl (Int.toNat x6) 0 (Sl.v ⟨a15, (at' x0 x6).length, c16⟩) ⟨hy19 (ltNat g14), rfl⟩ rfl rfl rfl (JO.regB ttOk 2 [] [22] [(5, .bp 22 0)] (.new 3 41 [.slice none 0 0] (.new 4 41 [.slice a11 x10.length c12] (.new 22 174 [.slice a15 (at' x0 x6).length c16] .nil))) rfl ⟨⟨rfl, trivial⟩, (Bs rfl rfl)⟩ (JO.done rfl ?_)))
        obtain ⟨y20, hy21, h⟩ := bindO_some h
        obtain ⟨g25, h⟩ := guardO_some h
        refine JS.regionA rfl (.new 4 41 [.slice a11 x10.length c12] (.new 22 174 [.slice a15 (at' x0 x6).length c16] .nil)) [] [7, 8, 9] ⟨rfl, rfl, rfl, rfl, rfl, rfl, rfl, rfl, trivial⟩ rfl (fun be28 => ?_)
        refine JA.reg ttOk panic_cx true 6 [0, 1, 2, 3] rfl (by kernel_rfl) [] [(14, .v (.slice a11 x10.length c12)), (16, .v (.slice a15 (at' x0 x6).length c16))] ⟨rfl, rfl, rfl, rfl, rfl, rfl, rfl, rfl, trivial⟩ [] rfl rfl (Es rfl) (JA.one 4 (by kernel_rfl) (JK.call rfl rfl rfl rfl (ok_i_copyInts (at' x0 x6) a15 c16 ((at' x0 x6).length) rfl _ hy21) rfl [1] rfl rfl ?_))
        rintro ⟨a22, c23⟩ -
        refine JA.next ⟨rfl, rfl, rfl, rfl, rfl, rfl, rfl, rfl, trivial⟩ [] rfl (JA.reg ttOk panic_cx true 4 [5] rfl (by kernel_rfl) [] [(18, .v (.agg #[.slice a22 y20.length c23]))] ⟨rfl, rfl, rfl, rfl, rfl, rfl, rfl, rfl, trivial⟩ [] rfl rfl ⟨rfl, trivial⟩ (JA.one 6 (by kernel_rfl) (JK.buildSlice ttOk rfl rfl rfl rfl rfl rfl rfl rfl rfl rfl rfl [0] rfl (.sl (.int .i64)) [y20] ⟨rfl, rfl, rfl⟩ rfl rfl fun a24 => JA.next ⟨rfl, rfl, rfl, rfl, rfl, rfl, rfl, rfl, trivial⟩ [] rfl (JA.one 7 (by kernel_rfl) (JK.appendO' ttOk rfl rfl rfl rfl ⟨rfl, rfl, rfl, rfl, trivial, rfl, rfl, rfl, rfl⟩ rfl rfl [1, 0] rfl g25 rfl fun a26 c27 => JA.nextL rfl (JA.regL ttOk panic_cx 1 [8] rfl (by kernel_rfl) [] [(21, .bp 4 0)] rfl ⟨rfl, trivial⟩ (JA.one 9 (by kernel_rfl) (JK.stBox ttOk rfl rfl rfl rfl rfl rfl rfl rfl (JA.nextL rfl (JA.done (by kernel_rfl) (JS.boxes (B' := (.new 3 41 [.slice none 0 0] (.new 4 41 [.slice a26 (x10 ++ ([y20] : List (List Int))).length c27] .nil))) (Bs rfl rfl) (JS.endB (JS.re ttOk 2 [(W (x6 + 1))] [] [(9, .v (.int .i64 (W (x6 + 1))))] _ ⟨⟨trivial, rfl⟩, ⟨rfl, trivial⟩, rfl⟩ rfl rfl (JS.endL (n33, (W (x6 + 1)), (x10 ++ ([y20] : List (List Int))), a26, c27) h (Nat.lt_succ_self _) (Es rfl) (Bs rfl rfl) [2] rfl [0] rfl))))))))))))))
      have h := condF h ht44
      refine JS.exit rfl (JS.endJ (x10, a11, c12) h (Es rfl) (Bs rfl rfl) [] rfl [0] rfl)
    rintro ⟨x36, a37, c38⟩ h
    subst hj45
    refine JS.rgB ttOk 2 [] [] [] (.new 3 41 [.slice a37 x36.length c38] .nil) ⟨trivial, (Bs rfl rfl)⟩ rfl rfl ?_
    cases h
    exact JS.ret ttOk (a37, c38) trivial rfl rfl [0] rfl

def M_i_copyUndo_L1 (x0 : List (List Int × Int)) (j39 : (List (List Int × Int)) → Option (List (List Int × Int))) (k32 : (Int × (List (List Int × Int))) → Option (List (List Int × Int))) : (Int × (List (List Int × Int))) → Option (List (List Int × Int)) := fun (x6, x10) =>
  (bif (decide (x6 < (x0.length : Int))) then
  (guardO (0 ≤ x6 ∧ x6 < (x0.length : Int)) <|
  (bindO (M_i_copyLine ((at' x0 x6).1, (at' x0 x6).2)) fun (y20 : List Int × Int) =>
  (guardO (x10.length + ([y20] : List (List Int × Int)).length ≤ 536870912) <|
  k32 ((W (x6 + 1)), (x10 ++ ([y20] : List (List Int × Int)))))))
  else
  j39 x10)

def M_i_copyUndo (x0 : List (List Int × Int)) : Option (List (List Int × Int)) :=
  (joinO (fun (x36 : List (List Int × Int)) =>
  some x36) fun j39 =>
  (fixF (M_i_copyUndo_L1 x0 j39) FUEL (0, ([] : List (List Int × Int)))))

theorem ok_i_copyUndo (x0 : List (List Int × Int)) (a2 : Option Addr) (c3 : Nat) (l4 : Nat) (hl5 : x0.length = l4) (r : List (List Int × Int)) (h : M_i_copyUndo x0 = some r) :
    FC Tryz.prog 146 [.agg #[.slice a2 l4 c3]] [⟨(.pair (.sl (.int .i64)) (.int .i64)), ⟨a2, l4, c3⟩, x0⟩] (fun _ : Option Addr × Nat => True) (fun q => .agg #[.slice q.1 r.length q.2]) (fun q => [⟨(.pair (.sl (.int .i64)) (.int .i64)), ⟨q.1, r.length, q.2⟩, r⟩]) :=
  by
    subst hl5
    refine FC.of (T := TTx) Tryz.call146 Tryz.func146 rfl rfl fun w0 => ?_
    unfold M_i_copyUndo at h
    refine JS.rgB ttOk 2 [] [2, 3] [(1, .bp 2 0), (2, .bp 3 0)] (.new 2 44 [.slice a2 x0.length c3] (.new 3 44 [.slice none 0 0] .nil)) ⟨(Es rfl), (Bs rfl rfl)⟩ rfl rfl (JS.rgB ttOk 1 [] [4] [(3, .bp 4 0)] (.new 2 44 [.slice a2 x0.length c3] (.new 3 44 [.slice none 0 0] (.new 4 44 [.slice none 0 0] .nil))) ⟨⟨rfl, trivial⟩, (Bs rfl rfl)⟩ rfl rfl (JS.seq (JS.rg0 ttOk 4 [(7, .v (.slice a2 x0.length c3)), (8, .v (.int .i64 (x0.length : Int))), (9, .v (.int .i64 0))] ⟨(Es rfl), rfl⟩ rfl rfl ?_)))
    obtain ⟨j39, hj45, h⟩ := joinO_some h
    refine JS.blockJ (ι := (List (List Int × Int)) × Option Addr × Nat) ⟨fun z => j39 z.1 = some r, fun z => [(2, .bp 3 0), (3, .bp 4 0)], fun z => (.new 3 44 [.slice none 0 0] (.new 4 44 [.slice z.2.1 z.1.length z.2.2] .nil)), fun z => [], fun z => [⟨(.pair (.sl (.int .i64)) (.int .i64)), ⟨z.2.1, z.1.length, z.2.2⟩, z.1⟩], fun z => 0⟩ ?_ ?_
    · refine JS.nilO (.pair (.sl (.int .i64)) (.int .i64)) Sl.nil rfl rfl (JS.loop (ι := Nat × Int × (List (List Int × Int)) × Option Addr × Nat) ⟨fun z => fixF (M_i_copyUndo_L1 x0 j39) z.1 (z.2.1, z.2.2.1) = some r, fun z => [(2, .bp 3 0), (3, .bp 4 0), (7, .v (.slice a2 x0.length c3)), (8, .v (.int .i64 (x0.length : Int))), (9, .v (.int .i64 z.2.1))], fun z => (.new 3 44 [.slice none 0 0] (.new 4 44 [.slice z.2.2.2.1 z.2.2.1.length z.2.2.2.2] .nil)), fun z => [⟨(.pair (.sl (.int .i64)) (.int .i64)), ⟨a2, x0.length, c3⟩, x0⟩], fun z => [⟨(.pair (.sl (.int .i64)) (.int .i64)), ⟨z.2.2.2.1, z.2.2.1.length, z.2.2.2.2⟩, z.2.2.1⟩], fun z => z.1⟩ (FUEL, 0, ([] : List (List Int × Int)), none, 0) h (Es rfl) (Bs rfl rfl) [0] rfl [0] rfl ?_)
      rintro ⟨n33, x6, x10, a11, c12⟩ h
      obtain ⟨n33, rfl, h⟩ := fixF_some h
      rw [M_i_copyUndo_L1] at h
      refine JS.rg0 ttOk 1 [(10, .v (.bool (decide (x6 < (x0.length : Int)))))] ⟨⟨rfl, trivial⟩, rfl⟩ rfl rfl (JS.seq ?_)
      refine JS.cond rfl (fun ht44 => ?_) (fun ht44 => ?_)
      · have h := condT h ht44
        refine JS.skip (JS.seq (JS.block (JS.seq (JS.region (JO.know 0 rfl fun hs43 => ?_)))))
        obtain ⟨g14, h⟩ := guardO_some h
        refine JO.reg ttOk 1 [] [] [(11, .ep ⟨a2, x0.length, c3⟩ (Int.toNat x6 * 2))] _ rfl ⟨hs43.ix g14, ⟨rfl, trivial⟩, rfl⟩ (JO.openR 0 rfl (Int.toNat x6) (at' x0 x6) rfl fun a15 c16 ys17 hl18 hy19 => JO.loadV ttOk rfl rfl rfl rfl rfl rfl 0 rfl rfl (Int.toNat x6) 0 ((Sl.v ⟨a15, ((at' x0 x6).1).length, c16⟩), (at' x0 x6).2) ⟨hy19 (ltNat g14), rfl⟩ rfl rfl rfl (JO.regB ttOk 2 [] [22] [(5, .bp 22 0)] (.new 3 44 [.slice none 0 0] (.new 4 44 [.slice a11 x10.length c12] (.new 22 38 [.slice a15 ((at' x0 x6).1).length c16, .int .i64 (at' x0 x6).2] .nil))) rfl ⟨⟨rfl, trivial⟩, (Bs rfl rfl)⟩ (JO.done rfl ?_)))
        obtain ⟨y20, hy21, h⟩ := bindO_some h
        obtain ⟨g25, h⟩ := guardO_some h
        refine JS.regionA rfl (.new 4 44 [.slice a11 x10.length c12] (.new 22 38 [.slice a15 ((at' x0 x6).1).length c16, .int .i64 (at' x0 x6).2] .nil)) [] [5, 6, 7] ⟨rfl, rfl, rfl, rfl, rfl, rfl, rfl, rfl, trivial⟩ rfl (fun be28 => ?_)
        refine JA.reg ttOk panic_cx true 5 [0, 1, 2] rfl (by kernel_rfl) [] [(14, .v (.slice a11 x10.length c12)), (15, .v (.agg #[.slice a15 ((at' x0 x6).1).length c16, .int .i64 (at' x0 x6).2]))] ⟨rfl, rfl, rfl, rfl, rfl, rfl, rfl, rfl, trivial⟩ [] rfl rfl (Es rfl) (JA.one 3 (by kernel_rfl) (JK.call rfl rfl rfl rfl (ok_i_copyLine ((at' x0 x6).1, (at' x0 x6).2) a15 c16 (((at' x0 x6).1).length) rfl _ hy21) rfl [1] rfl rfl ?_))
        rintro ⟨a22, c23⟩ -
        refine JA.next ⟨rfl, rfl, rfl, rfl, rfl, rfl, rfl, rfl, trivial⟩ [] rfl (JA.one 4 (by kernel_rfl) (JK.buildSlice ttOk rfl rfl rfl rfl rfl rfl rfl rfl rfl rfl rfl [0] rfl (.pair (.sl (.int .i64)) (.int .i64)) [y20] ⟨rfl, rfl, rfl⟩ rfl rfl fun a24 => JA.next ⟨rfl, rfl, rfl, rfl, rfl, rfl, rfl, rfl, trivial⟩ [] rfl (JA.one 5 (by kernel_rfl) (JK.appendO' ttOk rfl rfl rfl rfl ⟨rfl, rfl, rfl, rfl, trivial, rfl, rfl, rfl, rfl⟩ rfl rfl [1, 0] rfl g25 rfl fun a26 c27 => JA.nextL rfl (JA.regL ttOk panic_cx 1 [6] rfl (by kernel_rfl) [] [(19, .bp 4 0)] rfl ⟨rfl, trivial⟩ (JA.one 7 (by kernel_rfl) (JK.stBox ttOk rfl rfl rfl rfl rfl rfl rfl rfl (JA.nextL rfl (JA.done (by kernel_rfl) (JS.boxes (B' := (.new 3 44 [.slice none 0 0] (.new 4 44 [.slice a26 (x10 ++ ([y20] : List (List Int × Int))).length c27] .nil))) (Bs rfl rfl) (JS.endB (JS.re ttOk 2 [(W (x6 + 1))] [] [(9, .v (.int .i64 (W (x6 + 1))))] _ ⟨⟨trivial, rfl⟩, ⟨rfl, trivial⟩, rfl⟩ rfl rfl (JS.endL (n33, (W (x6 + 1)), (x10 ++ ([y20] : List (List Int × Int))), a26, c27) h (Nat.lt_succ_self _) (Es rfl) (Bs rfl rfl) [2] rfl [0] rfl)))))))))))))
      have h := condF h ht44
      refine JS.exit rfl (JS.endJ (x10, a11, c12) h (Es rfl) (Bs rfl rfl) [] rfl [0] rfl)
    rintro ⟨x36, a37, c38⟩ h
    subst hj45
    refine JS.rgB ttOk 2 [] [] [] (.new 3 44 [.slice a37 x36.length c38] .nil) ⟨trivial, (Bs rfl rfl)⟩ rfl rfl ?_
    cases h
    exact JS.ret ttOk (a37, c38) trivial rfl rfl [0] rfl

def M_i_copyEd (x0 : Bool × Int × (List Int × Int) × Int × Int × Int × Int × Int × Int × Int × List (List Int) × (List (List Int × Int)) × Int × (List Int × Int) × List Int × Int × List Int × Int) : Option (Bool × Int × (List Int × Int) × Int × Int × Int × Int × Int × Int × Int × List (List Int) × (List (List Int × Int)) × Int × (List Int × Int) × List Int × Int × List Int × Int) :=
  (bindO (M_i_copyLine x0.2.2.1) fun (y26 : List Int × Int) =>
  (bindO (M_i_copyLine x0.2.2.2.2.2.2.2.2.2.2.2.2.2.1) fun (y30 : List Int × Int) =>
  (bindO (M_i_copyLine x0.2.2.2.2.2.2.2.2.2.2.2.2.2.2.2.2) fun (y34 : List Int × Int) =>
  (bindO (M_i_copyRing x0.2.2.2.2.2.2.2.2.2.2.1) fun (y39 : List (List Int)) =>
  (bindO (M_i_copyUndo x0.2.2.2.2.2.2.2.2.2.2.2.1) fun (y43 : List (List Int × Int)) =>
  (bindO (M_i_copyInts x0.2.2.2.2.2.2.2.2.2.2.2.2.2.2.1) fun (y48 : List Int) =>
  some (x0.1, x0.2.1, y26, x0.2.2.2.1, x0.2.2.2.2.1, x0.2.2.2.2.2.1, x0.2.2.2.2.2.2.1, x0.2.2.2.2.2.2.2.1, x0.2.2.2.2.2.2.2.2.1, x0.2.2.2.2.2.2.2.2.2.1, y39, y43, x0.2.2.2.2.2.2.2.2.2.2.2.2.1, y30, y48, x0.2.2.2.2.2.2.2.2.2.2.2.2.2.2.2.1, y34)))))))

theorem ok_i_copyEd (x0 : Bool × Int × (List Int × Int) × Int × Int × Int × Int × Int × Int × Int × List (List Int) × (List (List Int × Int)) × Int × (List Int × Int) × List Int × Int × List Int × Int) (a2 : Option Addr) (c3 : Nat) (l4 : Nat) (hl5 : x0.2.2.1.1.length = l4) (a6 : Option Addr) (c7 : Nat) (l8 : Nat) (hl9 : x0.2.2.2.2.2.2.2.2.2.2.1.length = l8) (a10 : Option Addr) (c11 : Nat) (l12 : Nat) (hl13 : x0.2.2.2.2.2.2.2.2.2.2.2.1.length = l12) (a14 : Option Addr) (c15 : Nat) (l16 : Nat) (hl17 : x0.2.2.2.2.2.2.2.2.2.2.2.2.2.1.1.length = l16) (a18 : Option Addr) (c19 : Nat) (l20 : Nat) (hl21 : x0.2.2.2.2.2.2.2.2.2.2.2.2.2.2.1.length = l20) (a22 : Option Addr) (c23 : Nat) (l24 : Nat) (hl25 : x0.2.2.2.2.2.2.2.2.2.2.2.2.2.2.2.2.1.length = l24) (r : Bool × Int × (List Int × Int) × Int × Int × Int × Int × Int × Int × Int × List (List Int) × (List (List Int × Int)) × Int × (List Int × Int) × List Int × Int × List Int × Int) (h : M_i_copyEd x0 = some r) :
    FC Tryz.prog 63 [.agg #[.bool x0.1, .int .i64 x0.2.1, .slice a2 l4 c3, .int .i64 x0.2.2.1.2, .int .i64 x0.2.2.2.1, .int .i64 x0.2.2.2.2.1, .int .i64 x0.2.2.2.2.2.1, .int .i64 x0.2.2.2.2.2.2.1, .int .i64 x0.2.2.2.2.2.2.2.1, .int .i64 x0.2.2.2.2.2.2.2.2.1, .int .i64 x0.2.2.2.2.2.2.2.2.2.1, .slice a6 l8 c7, .slice a10 l12 c11, .int .i64 x0.2.2.2.2.2.2.2.2.2.2.2.2.1, .slice a14 l16 c15, .int .i64 x0.2.2.2.2.2.2.2.2.2.2.2.2.2.1.2, .slice a18 l20 c19, .int .i64 x0.2.2.2.2.2.2.2.2.2.2.2.2.2.2.2.1, .slice a22 l24 c23, .int .i64 x0.2.2.2.2.2.2.2.2.2.2.2.2.2.2.2.2.2]] [⟨(.int .i64), ⟨a2, l4, c3⟩, x0.2.2.1.1⟩, ⟨(.sl (.int .i64)), ⟨a6, l8, c7⟩, x0.2.2.2.2.2.2.2.2.2.2.1⟩, ⟨(.pair (.sl (.int .i64)) (.int .i64)), ⟨a10, l12, c11⟩, x0.2.2.2.2.2.2.2.2.2.2.2.1⟩, ⟨(.int .i64), ⟨a14, l16, c15⟩, x0.2.2.2.2.2.2.2.2.2.2.2.2.2.1.1⟩, ⟨(.int .i64), ⟨a18, l20, c19⟩, x0.2.2.2.2.2.2.2.2.2.2.2.2.2.2.1⟩, ⟨(.int .i64), ⟨a22, l24, c23⟩, x0.2.2.2.2.2.2.2.2.2.2.2.2.2.2.2.2.1⟩] (fun _ : Option Addr × Nat × Option Addr × Nat × Option Addr × Nat × Option Addr × Nat × Option Addr × Nat × Option Addr × Nat => True) (fun q => .agg (cl46 r q.1 q.2.1 q.2.2.1 q.2.2.2.1 q.2.2.2.2.1 q.2.2.2.2.2.1 q.2.2.2.2.2.2.1 q.2.2.2.2.2.2.2.1 q.2.2.2.2.2.2.2.2.1 q.2.2.2.2.2.2.2.2.2.1 q.2.2.2.2.2.2.2.2.2.2.1 q.2.2.2.2.2.2.2.2.2.2.2).toArray) (fun q => [⟨(.int .i64), ⟨q.1, r.2.2.1.1.length, q.2.1⟩, r.2.2.1.1⟩, ⟨(.sl (.int .i64)), ⟨q.2.2.1, r.2.2.2.2.2.2.2.2.2.2.1.length, q.2.2.2.1⟩, r.2.2.2.2.2.2.2.2.2.2.1⟩, ⟨(.pair (.sl (.int .i64)) (.int .i64)), ⟨q.2.2.2.2.1, r.2.2.2.2.2.2.2.2.2.2.2.1.length, q.2.2.2.2.2.1⟩, r.2.2.2.2.2.2.2.2.2.2.2.1⟩, ⟨(.int .i64), ⟨q.2.2.2.2.2.2.1, r.2.2.2.2.2.2.2.2.2.2.2.2.2.1.1.length, q.2.2.2.2.2.2.2.1⟩, r.2.2.2.2.2.2.2.2.2.2.2.2.2.1.1⟩, ⟨(.int .i64), ⟨q.2.2.2.2.2.2.2.2.1, r.2.2.2.2.2.2.2.2.2.2.2.2.2.2.1.length, q.2.2.2.2.2.2.2.2.2.1⟩, r.2.2.2.2.2.2.2.2.2.2.2.2.2.2.1⟩, ⟨(.int .i64), ⟨q.2.2.2.2.2.2.2.2.2.2.1, r.2.2.2.2.2.2.2.2.2.2.2.2.2.2.2.2.1.length, q.2.2.2.2.2.2.2.2.2.2.2⟩, r.2.2.2.2.2.2.2.2.2.2.2.2.2.2.2.2.1⟩]) :=
  by
    subst hl5
    subst hl9
    subst hl13
    subst hl17
    subst hl21
    subst hl25
    refine FC.of (T := TTx) Tryz.call63 Tryz.func63 rfl rfl fun w0 => ?_
    unfold M_i_copyEd at h
    refine JS.rgB ttOk 2 [] [7, 8] [(1, .bp 7 0), (2, .bp 8 0)] (.new 7 46 (cl46 x0 a2 c3 a6 c7 a10 c11 a14 c15 a18 c19 a22 c23) (.new 8 46 (cl46 (false, 0, ([], 0), 0, 0, 0, 0, 0, 0, 0, [], [], 0, ([], 0), [], 0, ([], 0)) none 0 none 0 none 0 none 0 none 0 none 0) .nil)) ⟨(Es rfl), (Bs rfl rfl)⟩ rfl rfl (JS.seq ?_)
    obtain ⟨y26, hy27, h⟩ := bindO_some h
    obtain ⟨y30, hy31, h⟩ := bindO_some h
    obtain ⟨y34, hy35, h⟩ := bindO_some h
    refine JS.regionA rfl (.new 7 46 (cl46 x0 a2 c3 a6 c7 a10 c11 a14 c15 a18 c19 a22 c23) .nil) [] [8, 9, 10, 11, 12, 13, 14] ⟨rfl, rfl, rfl, rfl, trivial⟩ rfl (fun be38 => ?_)
    refine JA.reg ttOk panic_cx true 9 [0, 1, 3, 4, 6, 7] rfl (by kernel_rfl) [] [(4, .v (.agg #[.slice a2 x0.2.2.1.1.length c3, .int .i64 x0.2.2.1.2])), (7, .v (.agg #[.slice a14 x0.2.2.2.2.2.2.2.2.2.2.2.2.2.1.1.length c15, .int .i64 x0.2.2.2.2.2.2.2.2.2.2.2.2.2.1.2])), (10, .v (.agg #[.slice a22 x0.2.2.2.2.2.2.2.2.2.2.2.2.2.2.2.2.1.length c23, .int .i64 x0.2.2.2.2.2.2.2.2.2.2.2.2.2.2.2.2.2]))] ⟨rfl, rfl, rfl, rfl, trivial⟩ [] rfl rfl (Es rfl) (JA.one 2 (by kernel_rfl) (JK.call rfl rfl rfl rfl (ok_i_copyLine x0.2.2.1 a2 c3 x0.2.2.1.1.length rfl _ hy27) rfl [0] rfl rfl ?_))
    rintro ⟨a28, c29⟩ -
    refine JA.next ⟨rfl, rfl, rfl, rfl, trivial⟩ [] rfl (JA.regL ttOk panic_cx 7 [9] rfl (by kernel_rfl) [] [(12, .bp 7 2)] rfl ⟨rfl, trivial⟩ (JA.one 5 (by kernel_rfl) (JK.call rfl rfl rfl rfl (ok_i_copyLine x0.2.2.2.2.2.2.2.2.2.2.2.2.2.1 a14 c15 x0.2.2.2.2.2.2.2.2.2.2.2.2.2.1.1.length rfl _ hy31) rfl [3] rfl rfl ?_)))
    rintro ⟨a32, c33⟩ -
    refine JA.next ⟨rfl, rfl, rfl, rfl, trivial⟩ [] rfl (JA.one 8 (by kernel_rfl) (JK.call rfl rfl rfl rfl (ok_i_copyLine x0.2.2.2.2.2.2.2.2.2.2.2.2.2.2.2.2 a22 c23 x0.2.2.2.2.2.2.2.2.2.2.2.2.2.2.2.2.1.length rfl _ hy35) rfl [5] rfl rfl ?_))
    rintro ⟨a36, c37⟩ -
    refine JA.nextL rfl (JA.one 10 (by kernel_rfl) (JK.stBox ttOk rfl rfl rfl rfl rfl rfl rfl rfl (JA.nextL rfl (JA.regL ttOk panic_cx 3 [11] rfl (by kernel_rfl) [] [(13, .bp 7 14)] rfl ⟨rfl, trivial⟩ (JA.one 12 (by kernel_rfl) (JK.stBox ttOk rfl rfl rfl rfl rfl rfl rfl rfl (JA.nextL rfl (JA.regL ttOk panic_cx 1 [13] rfl (by kernel_rfl) [] [(14, .bp 7 18)] rfl ⟨rfl, trivial⟩ (JA.one 14 (by kernel_rfl) (JK.stBox ttOk rfl rfl rfl rfl rfl rfl rfl rfl (JA.nextL rfl (JA.done (by kernel_rfl) (JS.boxes (B' := (.new 7 46 (cl46 (x0.1, x0.2.1, y26, x0.2.2.2.1, x0.2.2.2.2.1, x0.2.2.2.2.2.1, x0.2.2.2.2.2.2.1, x0.2.2.2.2.2.2.2.1, x0.2.2.2.2.2.2.2.2.1, x0.2.2.2.2.2.2.2.2.2.1, x0.2.2.2.2.2.2.2.2.2.2.1, x0.2.2.2.2.2.2.2.2.2.2.2.1, x0.2.2.2.2.2.2.2.2.2.2.2.2.1, y30, x0.2.2.2.2.2.2.2.2.2.2.2.2.2.2.1, x0.2.2.2.2.2.2.2.2.2.2.2.2.2.2.2.1, y34) a28 c29 a6 c7 a10 c11 a32 c33 a18 c19 a36 c37) (.new 8 46 (cl46 (false, 0, ([], 0), 0, 0, 0, 0, 0, 0, 0, [], [], 0, ([], 0), [], 0, ([], 0)) none 0 none 0 none 0 none 0 none 0 none 0) .nil))) (Bs rfl rfl) (JS.seq ?_))))))))))))))
    obtain ⟨y39, hy40, h⟩ := bindO_some h
    obtain ⟨y43, hy44, h⟩ := bindO_some h
    refine JS.regionA rfl (.new 7 46 (cl46 (x0.1, x0.2.1, y26, x0.2.2.2.1, x0.2.2.2.2.1, x0.2.2.2.2.2.1, x0.2.2.2.2.2.2.1, x0.2.2.2.2.2.2.2.1, x0.2.2.2.2.2.2.2.2.1, x0.2.2.2.2.2.2.2.2.2.1, x0.2.2.2.2.2.2.2.2.2.2.1, x0.2.2.2.2.2.2.2.2.2.2.2.1, x0.2.2.2.2.2.2.2.2.2.2.2.2.1, y30, x0.2.2.2.2.2.2.2.2.2.2.2.2.2.2.1, x0.2.2.2.2.2.2.2.2.2.2.2.2.2.2.2.1, y34) a28 c29 a6 c7 a10 c11 a32 c33 a18 c19 a36 c37) .nil) [] [5, 6, 7, 8, 9] ⟨rfl, rfl, rfl, rfl, trivial⟩ rfl (fun be47 => ?_)
    refine JA.reg ttOk panic_cx true 6 [0, 1, 3, 4] rfl (by kernel_rfl) [] [(16, .v (.agg #[.slice a6 x0.2.2.2.2.2.2.2.2.2.2.1.length c7])), (19, .v (.agg #[.slice a10 x0.2.2.2.2.2.2.2.2.2.2.2.1.length c11]))] ⟨rfl, rfl, rfl, rfl, trivial⟩ [] rfl rfl (Es rfl) (JA.one 2 (by kernel_rfl) (JK.call rfl rfl rfl rfl (ok_i_copyRing x0.2.2.2.2.2.2.2.2.2.2.1 a6 c7 x0.2.2.2.2.2.2.2.2.2.2.1.length rfl _ hy40) rfl [1] rfl rfl ?_))
    rintro ⟨a41, c42⟩ -
    refine JA.next ⟨rfl, rfl, rfl, rfl, trivial⟩ [] rfl (JA.regL ttOk panic_cx 4 [6] rfl (by kernel_rfl) [] [(21, .bp 7 11)] rfl ⟨rfl, trivial⟩ (JA.one 5 (by kernel_rfl) (JK.call rfl rfl rfl rfl (ok_i_copyUndo x0.2.2.2.2.2.2.2.2.2.2.2.1 a10 c11 x0.2.2.2.2.2.2.2.2.2.2.2.1.length rfl _ hy44) rfl [2] rfl rfl ?_)))
    rintro ⟨a45, c46⟩ -
    refine JA.nextL rfl (JA.one 7 (by kernel_rfl) (JK.stBox ttOk rfl rfl rfl rfl rfl rfl rfl rfl (JA.nextL rfl (JA.regL ttOk panic_cx 1 [8] rfl (by kernel_rfl) [] [(22, .bp 7 12)] rfl ⟨rfl, trivial⟩ (JA.one 9 (by kernel_rfl) (JK.stBox ttOk rfl rfl rfl rfl rfl rfl rfl rfl (JA.nextL rfl (JA.done (by kernel_rfl) (JS.boxes (B' := (.new 7 46 (cl46 (x0.1, x0.2.1, y26, x0.2.2.2.1, x0.2.2.2.2.1, x0.2.2.2.2.2.1, x0.2.2.2.2.2.2.1, x0.2.2.2.2.2.2.2.1, x0.2.2.2.2.2.2.2.2.1, x0.2.2.2.2.2.2.2.2.2.1, y39, y43, x0.2.2.2.2.2.2.2.2.2.2.2.2.1, y30, x0.2.2.2.2.2.2.2.2.2.2.2.2.2.2.1, x0.2.2.2.2.2.2.2.2.2.2.2.2.2.2.2.1, y34) a28 c29 a41 c42 a45 c46 a32 c33 a18 c19 a36 c37) (.new 8 46 (cl46 (false, 0, ([], 0), 0, 0, 0, 0, 0, 0, 0, [], [], 0, ([], 0), [], 0, ([], 0)) none 0 none 0 none 0 none 0 none 0 none 0) .nil))) (Bs rfl rfl) (JS.seq (JS.region (JO.reg ttOk 2 [] [] [(24, .v (.slice a18 x0.2.2.2.2.2.2.2.2.2.2.2.2.2.2.1.length c19))] _ rfl ⟨⟨rfl, trivial⟩, rfl⟩ ?_))))))))))))
    obtain ⟨y48, hy49, h⟩ := bindO_some h
    refine JO.call rfl rfl rfl rfl (ok_i_copyInts x0.2.2.2.2.2.2.2.2.2.2.2.2.2.2.1 a18 c19 x0.2.2.2.2.2.2.2.2.2.2.2.2.2.2.1.length rfl _ hy49) rfl [4] rfl rfl ?_
    rintro ⟨a50, c51⟩ -
    refine JO.regB ttOk 2 [] [] [] (.new 7 46 (cl46 (x0.1, x0.2.1, y26, x0.2.2.2.1, x0.2.2.2.2.1, x0.2.2.2.2.2.1, x0.2.2.2.2.2.2.1, x0.2.2.2.2.2.2.2.1, x0.2.2.2.2.2.2.2.2.1, x0.2.2.2.2.2.2.2.2.2.1, y39, y43, x0.2.2.2.2.2.2.2.2.2.2.2.2.1, y30, y48, x0.2.2.2.2.2.2.2.2.2.2.2.2.2.2.2.1, y34) a28 c29 a41 c42 a45 c46 a32 c33 a50 c51 a36 c37) (.new 8 46 (cl46 (false, 0, ([], 0), 0, 0, 0, 0, 0, 0, 0, [], [], 0, ([], 0), [], 0, ([], 0)) none 0 none 0 none 0 none 0 none 0 none 0) .nil)) rfl ⟨trivial, (Bs rfl rfl)⟩ (JO.done rfl (JS.rgB ttOk 2 [] [] [] (.new 8 46 (cl46 (x0.1, x0.2.1, y26, x0.2.2.2.1, x0.2.2.2.2.1, x0.2.2.2.2.2.1, x0.2.2.2.2.2.2.1, x0.2.2.2.2.2.2.2.1, x0.2.2.2.2.2.2.2.2.1, x0.2.2.2.2.2.2.2.2.2.1, y39, y43, x0.2.2.2.2.2.2.2.2.2.2.2.2.1, y30, y48, x0.2.2.2.2.2.2.2.2.2.2.2.2.2.2.2.1, y34) a28 c29 a41 c42 a45 c46 a32 c33 a50 c51 a36 c37) .nil) ⟨trivial, (Bs rfl rfl)⟩ rfl rfl ?_))
    cases h
    exact JS.ret ttOk (a28, c29, a41, c42, a45, c46, a32, c33, a50, c51, a36, c37) trivial rfl rfl [5, 2, 1, 2, 0, 0] rfl

def M_i_canKey (x0 : Bool × Int × (List Int × Int) × Int × Int × Int × Int × Int × Int × Int × List (List Int) × (List (List Int × Int)) × Int × (List Int × Int) × List Int × Int × List Int × Int) (x1 : Int × List (List UInt8)) (x2 : Int × Int) : Option Bool :=
  (bindO (M_i_EdOk x0) fun (y32 : Bool) =>
  (callO (y32 = true) (M_i_HistOk x1) false fun (y34 : Bool) =>
  (callO ((bif y32 then y34 else false) = true) (M_i_KeyOk x2) false fun (y37 : Bool) =>
  some (bif (bif y32 then y34 else false) then y37 else false))))

theorem ok_i_canKey (x0 : Bool × Int × (List Int × Int) × Int × Int × Int × Int × Int × Int × Int × List (List Int) × (List (List Int × Int)) × Int × (List Int × Int) × List Int × Int × List Int × Int) (x1 : Int × List (List UInt8)) (x2 : Int × Int) (a4 : Option Addr) (c5 : Nat) (l6 : Nat) (hl7 : x0.2.2.1.1.length = l6) (a8 : Option Addr) (c9 : Nat) (l10 : Nat) (hl11 : x0.2.2.2.2.2.2.2.2.2.2.1.length = l10) (a12 : Option Addr) (c13 : Nat) (l14 : Nat) (hl15 : x0.2.2.2.2.2.2.2.2.2.2.2.1.length = l14) (a16 : Option Addr) (c17 : Nat) (l18 : Nat) (hl19 : x0.2.2.2.2.2.2.2.2.2.2.2.2.2.1.1.length = l18) (a20 : Option Addr) (c21 : Nat) (l22 : Nat) (hl23 : x0.2.2.2.2.2.2.2.2.2.2.2.2.2.2.1.length = l22) (a24 : Option Addr) (c25 : Nat) (l26 : Nat) (hl27 : x0.2.2.2.2.2.2.2.2.2.2.2.2.2.2.2.2.1.length = l26) (a28 : Option Addr) (c29 : Nat) (l30 : Nat) (hl31 : x1.2.length = l30) (r : Bool) (h : M_i_canKey x0 x1 x2 = some r) :
    FC Tryz.prog 84 [.agg #[.bool x0.1, .int .i64 x0.2.1, .slice a4 l6 c5, .int .i64 x0.2.2.1.2, .int .i64 x0.2.2.2.1, .int .i64 x0.2.2.2.2.1, .int .i64 x0.2.2.2.2.2.1, .int .i64 x0.2.2.2.2.2.2.1, .int .i64 x0.2.2.2.2.2.2.2.1, .int .i64 x0.2.2.2.2.2.2.2.2.1, .int .i64 x0.2.2.2.2.2.2.2.2.2.1, .slice a8 l10 c9, .slice a12 l14 c13, .int .i64 x0.2.2.2.2.2.2.2.2.2.2.2.2.1, .slice a16 l18 c17, .int .i64 x0.2.2.2.2.2.2.2.2.2.2.2.2.2.1.2, .slice a20 l22 c21, .int .i64 x0.2.2.2.2.2.2.2.2.2.2.2.2.2.2.2.1, .slice a24 l26 c25, .int .i64 x0.2.2.2.2.2.2.2.2.2.2.2.2.2.2.2.2.2], .agg #[.int .i64 x1.1, .slice a28 l30 c29], .agg #[.int .i64 x2.1, .int .i64 x2.2]] [⟨(.int .i64), ⟨a4, l6, c5⟩, x0.2.2.1.1⟩, ⟨(.sl (.int .i64)), ⟨a8, l10, c9⟩, x0.2.2.2.2.2.2.2.2.2.2.1⟩, ⟨(.pair (.sl (.int .i64)) (.int .i64)), ⟨a12, l14, c13⟩, x0.2.2.2.2.2.2.2.2.2.2.2.1⟩, ⟨(.int .i64), ⟨a16, l18, c17⟩, x0.2.2.2.2.2.2.2.2.2.2.2.2.2.1.1⟩, ⟨(.int .i64), ⟨a20, l22, c21⟩, x0.2.2.2.2.2.2.2.2.2.2.2.2.2.2.1⟩, ⟨(.int .i64), ⟨a24, l26, c25⟩, x0.2.2.2.2.2.2.2.2.2.2.2.2.2.2.2.2.1⟩, ⟨.str, ⟨a28, l30, c29⟩, x1.2⟩] (fun _ : Unit => True) (fun _ => .bool r) (fun _ => []) :=
  by
    subst hl7
    subst hl11
    subst hl15
    subst hl19
    subst hl23
    subst hl27
    subst hl31
    refine FC.of (T := TTx) Tryz.call84 Tryz.func84 rfl rfl fun w0 => ?_
    unfold M_i_canKey at h
    refine JS.rgB ttOk 4 [] [8, 9, 10] [(3, .bp 8 0), (4, .bp 9 0), (5, .bp 10 0)] (.new 8 46 (cl46 x0 a4 c5 a8 c9 a12 c13 a16 c17 a20 c21 a24 c25) (.new 9 50 [.int .i64 x1.1, .slice a28 x1.2.length c29] (.new 10 64 [.int .i64 x2.1, .int .i64 x2.2] .nil))) ⟨(Es rfl), (Bs rfl rfl)⟩ rfl rfl (JS.seq (JS.region (JO.reg ttOk 1 [] [] [(7, .v (.agg (cl46 x0 a4 c5 a8 c9 a12 c13 a16 c17 a20 c21 a24 c25).toArray))] _ rfl ⟨⟨rfl, trivial⟩, rfl⟩ ?_)))
    obtain ⟨y32, hy33, h⟩ := bindO_some h
    refine JO.call rfl rfl rfl rfl (ok_i_EdOk x0 a4 c5 x0.2.2.1.1.length rfl a8 c9 x0.2.2.2.2.2.2.2.2.2.2.1.length rfl a12 c13 x0.2.2.2.2.2.2.2.2.2.2.2.1.length rfl a16 c17 x0.2.2.2.2.2.2.2.2.2.2.2.2.2.1.1.length rfl a20 c21 x0.2.2.2.2.2.2.2.2.2.2.2.2.2.2.1.length rfl a24 c25 x0.2.2.2.2.2.2.2.2.2.2.2.2.2.2.2.2.1.length rfl _ hy33) rfl [0, 1, 2, 3, 4, 5] rfl rfl fun _ _ => JO.reg ttOk 2 [] [] [(9, .v (.bool y32)), (10, .cd [(9, true)] (.v (.agg #[.int .i64 x1.1, .slice a28 x1.2.length c29])))] _ rfl ⟨(Es rfl), rfl⟩ ?_
    obtain ⟨y34, hy35, -, h⟩ := callO_some h
    refine JO.callg rfl rfl rfl rfl (fun q40 => ok_i_HistOk x1 a28 c29 x1.2.length rfl _ (hy35 q40)) rfl [6] rfl rfl (JO.reg ttOk 3 [] [] [(13, .v (.bool (bif y32 then y34 else false))), (14, .cd [(13, true)] (.v (.agg #[.int .i64 x2.1, .int .i64 x2.2])))] _ rfl ⟨(Es rfl), rfl⟩ ?_)
    obtain ⟨y37, hy38, -, h⟩ := callO_some h
    refine JO.callg rfl rfl rfl rfl (fun q41 => ok_i_KeyOk x2 _ (hy38 q41)) rfl [] rfl rfl (JO.reg ttOk 2 [] [] [(6, .v (.bool (bif (bif y32 then y34 else false) then y37 else false)))] _ rfl ⟨⟨rfl, trivial⟩, rfl⟩ (JO.done rfl ?_))
    cases h
    exact JS.ret ttOk () trivial rfl rfl [] rfl

def M_i_times_L1 (x0 : List Int) (x1 : Int) (j21 : (List Int) → Option (List Int)) (k15 : (List Int × Int) → Option (List Int)) : (List Int × Int) → Option (List Int) := fun (x7, x10) =>
  (bif (bif (decide (x10 < x1)) then (decide ((x7.length : Int) ≤ 400)) else false) then
  (guardO (x7.length + x0.length ≤ 536870912) <|
  k15 ((x7 ++ x0), (W (x10 + 1))))
  else
  j21 x7)

def M_i_times (x0 : List Int) (x1 : Int) : Option (List Int) :=
  (joinO (fun (x18 : List Int) =>
  some x18) fun j21 =>
  (fixF (M_i_times_L1 x0 x1 j21) FUEL (([] : List Int), 0)))

theorem ok_i_times (x0 : List Int) (x1 : Int) (a3 : Option Addr) (c4 : Nat) (l5 : Nat) (hl6 : x0.length = l5) (r : List Int) (h : M_i_times x0 x1 = some r) :
    FC Tryz.prog 166 [.slice a3 l5 c4, .int .i64 x1] [⟨(.int .i64), ⟨a3, l5, c4⟩, x0⟩] (fun _ : Option Addr × Nat => True) (fun q => .slice q.1 r.length q.2) (fun q => [⟨(.int .i64), ⟨q.1, r.length, q.2⟩, r⟩]) :=
  by
    subst hl6
    refine FC.of (T := TTx) Tryz.call166 Tryz.func166 rfl rfl fun w0 => ?_
    unfold M_i_times at h
    refine JS.rg0 ttOk 1 [] ⟨trivial, rfl⟩ rfl rfl (JS.rg0 ttOk 1 [(5, .v (.slice none 0 0))] ⟨⟨rfl, trivial⟩, rfl⟩ rfl rfl (JS.seq (JS.rg0 ttOk 1 [(6, .v (.int .i64 0))] ⟨⟨rfl, trivial⟩, rfl⟩ rfl rfl ?_)))
    obtain ⟨j21, hj25, h⟩ := joinO_some h
    refine JS.blockJ (ι := List Int × Option Addr × Nat) ⟨fun z => j21 z.1 = some r, fun z => [(5, .v (.slice z.2.1 z.1.length z.2.2))], fun z => .nil, fun z => [], fun z => [⟨(.int .i64), ⟨z.2.1, z.1.length, z.2.2⟩, z.1⟩], fun z => 0⟩ ?_ ?_
    · refine JS.nilO (.int .i64) Sl.nil rfl rfl (JS.loop (ι := Nat × List Int × Int × Option Addr × Nat) ⟨fun z => fixF (M_i_times_L1 x0 x1 j21) z.1 (z.2.1, z.2.2.1) = some r, fun z => [(0, .v (.slice a3 x0.length c4)), (1, .v (.int .i64 x1)), (5, .v (.slice z.2.2.2.1 z.2.1.length z.2.2.2.2)), (6, .v (.int .i64 z.2.2.1))], fun z => .nil, fun z => [⟨(.int .i64), ⟨a3, x0.length, c4⟩, x0⟩], fun z => [⟨(.int .i64), ⟨z.2.2.2.1, z.2.1.length, z.2.2.2.2⟩, z.2.1⟩], fun z => z.1⟩ (FUEL, ([] : List Int), 0, none, 0) h (Es rfl) trivial [0] rfl [0] rfl ?_)
      rintro ⟨n16, x7, x10, a8, c9⟩ h
      obtain ⟨n16, rfl, h⟩ := fixF_some h
      rw [M_i_times_L1] at h
      refine JS.seq (JS.rg0 ttOk 8 [(14, .v (.bool (bif (decide (x10 < x1)) then (decide ((x7.length : Int) ≤ 400)) else false)))] ⟨⟨rfl, trivial⟩, rfl⟩ rfl rfl ?_)
      refine JS.cond rfl (fun ht24 => ?_) (fun ht24 => ?_)
      · have h := condT h ht24
        refine JS.skip (JS.seq (JS.block (JS.region (JO.reg ttOk 2 [] [] [(17, .v (.slice a8 x7.length c9)), (18, .v (.slice a3 x0.length c4))] _ rfl ⟨(Es rfl), rfl⟩ ?_))))
        obtain ⟨g11, h⟩ := guardO_some h
        refine JO.appendR' ttOk rfl rfl rfl rfl ⟨rfl, rfl, rfl, rfl, trivial, rfl, rfl, rfl, rfl⟩ rfl rfl rfl [0] rfl 0 rfl g11 rfl fun a12 c13 => JO.reg ttOk 1 [] [] [(5, .v (.slice a12 (x7 ++ x0).length c13))] _ rfl ⟨⟨rfl, trivial⟩, rfl⟩ (JO.done rfl (JS.endB (JS.re ttOk 3 [(W (x10 + 1))] [] [(6, .v (.int .i64 (W (x10 + 1))))] _ ⟨⟨trivial, rfl⟩, ⟨rfl, trivial⟩, rfl⟩ rfl rfl (JS.endL (n16, (x7 ++ x0), (W (x10 + 1)), a12, c13) h (Nat.lt_succ_self _) (Es rfl) trivial [0] rfl [0] rfl))))
      have h := condF h ht24
      refine JS.exit rfl (JS.endJ (x7, a8, c9) h ⟨rfl, trivial⟩ trivial [] rfl [0] rfl)
    rintro ⟨x18, a19, c20⟩ h
    subst hj25
    refine JS.rg0 ttOk 2 [(4, .v (.slice a19 x18.length c20))] ⟨⟨rfl, trivial⟩, rfl⟩ rfl rfl ?_
    cases h
    exact JS.ret ttOk (a19, c20) trivial rfl rfl [0] rfl

end
end Go.Eng
