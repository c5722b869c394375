/- The walks of the functions that FnFind reaches: what each computes, as a plain function (M_..), and that the model computes it (ok_..). Condition of each: that the plain function answers. -/
import Derived.Test.YtamjkgjmefknkaaEngB
import Derived.Test.YtamjkgjmefknkaaChecked
set_option linter.unusedVariables false
set_option linter.unusedSimpArgs false
namespace Go.Eng
open Go Go.Proofs
noncomputable section

def TTx : TT := [
  (2, ⟨.int .i64, 1, 8, [.int .i64 0]⟩),
  (3, ⟨.int .i64, 1, 8, [.int .i64 0]⟩),
  (4, ⟨.bool, 1, 1, [.bool false]⟩),
  (5, ⟨.int .u8, 1, 1, [.int .u8 0]⟩),
  (6, ⟨.int .u8, 1, 1, [.int .u8 0]⟩),
  (7, ⟨.struct [(0, 2), (1, 3), (2, 4), (3, 6)], 4, 24, [.int .i64 0, .int .i64 0, .bool false, .int .u8 0]⟩),
  (8, ⟨.struct [(0, 2), (1, 3), (2, 4), (3, 6)], 4, 24, [.int .i64 0, .int .i64 0, .bool false, .int .u8 0]⟩),
  (9, ⟨.str, 1, 16, [.string ByteArray.empty]⟩),
  (10, ⟨.str, 1, 16, [.string ByteArray.empty]⟩),
  (11, ⟨.str, 1, 16, [.string ByteArray.empty]⟩),
  (12, ⟨.int .u64, 1, 8, [.int .u64 0]⟩),
  (13, ⟨.struct [(0, 9), (1, 12)], 2, 24, [.string ByteArray.empty, .int .u64 0]⟩),
  (14, ⟨.struct [(0, 9), (1, 12)], 2, 24, [.string ByteArray.empty, .int .u64 0]⟩),
  (21, ⟨.int .i32, 1, 4, [.int .i32 0]⟩),
  (22, ⟨.slice 5, 1, 24, [.slice none 0 0]⟩),
  (23, ⟨.slice 3, 1, 24, [.slice none 0 0]⟩),
  (24, ⟨.struct [(0, 23), (1, 3)], 2, 32, [.slice none 0 0, .int .i64 0]⟩),
  (25, ⟨.struct [(0, 23), (1, 3)], 2, 32, [.slice none 0 0, .int .i64 0]⟩),
  (40, ⟨.slice 113, 1, 24, [.slice none 0 0]⟩),
  (41, ⟨.struct [(0, 40)], 1, 24, [.slice none 0 0]⟩),
  (42, ⟨.struct [(0, 40)], 1, 24, [.slice none 0 0]⟩),
  (43, ⟨.slice 25, 1, 24, [.slice none 0 0]⟩),
  (44, ⟨.struct [(0, 43)], 1, 24, [.slice none 0 0]⟩),
  (45, ⟨.struct [(0, 43)], 1, 24, [.slice none 0 0]⟩),
  (46, ⟨.struct [(0, 4), (1, 3), (2, 25), (4, 3), (5, 3), (6, 3), (7, 3), (8, 3), (9, 3), (10, 3), (11, 42), (12, 45), (13, 3), (14, 25), (16, 23), (17, 3), (18, 25)], 20, 256, [.bool false, .int .i64 0, .slice none 0 0, .int .i64 0, .int .i64 0, .int .i64 0, .int .i64 0, .int .i64 0, .int .i64 0, .int .i64 0, .int .i64 0, .slice none 0 0, .slice none 0 0, .int .i64 0, .slice none 0 0, .int .i64 0, .slice none 0 0, .int .i64 0, .slice none 0 0, .int .i64 0]⟩),
  (47, ⟨.struct [(0, 4), (1, 3), (2, 25), (4, 3), (5, 3), (6, 3), (7, 3), (8, 3), (9, 3), (10, 3), (11, 42), (12, 45), (13, 3), (14, 25), (16, 23), (17, 3), (18, 25)], 20, 256, [.bool false, .int .i64 0, .slice none 0 0, .int .i64 0, .int .i64 0, .int .i64 0, .int .i64 0, .int .i64 0, .int .i64 0, .int .i64 0, .int .i64 0, .slice none 0 0, .slice none 0 0, .int .i64 0, .slice none 0 0, .int .i64 0, .slice none 0 0, .int .i64 0, .slice none 0 0, .int .i64 0]⟩),
  (52, ⟨.struct [(0, 23), (1, 3)], 2, 32, [.slice none 0 0, .int .i64 0]⟩),
  (53, ⟨.slice 124, 1, 24, [.slice none 0 0]⟩),
  (54, ⟨.struct [(0, 53)], 1, 24, [.slice none 0 0]⟩),
  (55, ⟨.struct [(0, 53)], 1, 24, [.slice none 0 0]⟩),
  (56, ⟨.slice 52, 1, 24, [.slice none 0 0]⟩),
  (57, ⟨.struct [(0, 56)], 1, 24, [.slice none 0 0]⟩),
  (58, ⟨.struct [(0, 56)], 1, 24, [.slice none 0 0]⟩),
  (59, ⟨.struct [(0, 4), (1, 3), (2, 52), (4, 3), (5, 3), (6, 3), (7, 3), (8, 3), (9, 3), (10, 3), (11, 55), (12, 58), (13, 3), (14, 52), (16, 23), (17, 3), (18, 52)], 20, 256, [.bool false, .int .i64 0, .slice none 0 0, .int .i64 0, .int .i64 0, .int .i64 0, .int .i64 0, .int .i64 0, .int .i64 0, .int .i64 0, .int .i64 0, .slice none 0 0, .slice none 0 0, .int .i64 0, .slice none 0 0, .int .i64 0, .slice none 0 0, .int .i64 0, .slice none 0 0, .int .i64 0]⟩),
  (60, ⟨.struct [(0, 4), (1, 3), (2, 52), (4, 3), (5, 3), (6, 3), (7, 3), (8, 3), (9, 3), (10, 3), (11, 55), (12, 58), (13, 3), (14, 52), (16, 23), (17, 3), (18, 52)], 20, 256, [.bool false, .int .i64 0, .slice none 0 0, .int .i64 0, .int .i64 0, .int .i64 0, .int .i64 0, .int .i64 0, .int .i64 0, .int .i64 0, .int .i64 0, .slice none 0 0, .slice none 0 0, .int .i64 0, .slice none 0 0, .int .i64 0, .slice none 0 0, .int .i64 0, .slice none 0 0, .int .i64 0]⟩),
  (101, ⟨.struct [(0, 22), (1, 3), (2, 3)], 3, 40, [.slice none 0 0, .int .i64 0, .int .i64 0]⟩),
  (102, ⟨.struct [(0, 22), (1, 3), (2, 3)], 3, 40, [.slice none 0 0, .int .i64 0, .int .i64 0]⟩),
  (112, ⟨.struct [(0, 23)], 1, 24, [.slice none 0 0]⟩),
  (113, ⟨.struct [(0, 23)], 1, 24, [.slice none 0 0]⟩),
  (120, ⟨.int .u64, 1, 8, [.int .u64 0]⟩),
  (124, ⟨.struct [(0, 23)], 1, 24, [.slice none 0 0]⟩),
  (134, ⟨.int .u32, 1, 4, [.int .u32 0]⟩),
  (135, ⟨.int .u8, 1, 1, [.int .u8 0]⟩),
  (136, ⟨.int .u8, 1, 1, [.int .u8 0]⟩),
  (139, ⟨.int .i32, 1, 4, [.int .i32 0]⟩),
  (140, ⟨.int .i32, 1, 4, [.int .i32 0]⟩)]

set_option maxRecDepth 100000 in
theorem ttOk : TTok Try.prog TTx := TTok.of (by
  simp only [TTx, List.forall_mem_cons]
  exact ⟨⟨⟨_, _, rfl, rfl, rfl, rfl, rfl⟩, rfl⟩, ⟨⟨_, _, rfl, rfl, rfl, rfl, rfl⟩, rfl⟩, ⟨⟨_, _, rfl, rfl, rfl, rfl, rfl⟩, rfl⟩, ⟨⟨_, _, rfl, rfl, rfl, rfl, rfl⟩, rfl⟩, ⟨⟨_, _, rfl, rfl, rfl, rfl, rfl⟩, rfl⟩, ⟨⟨_, _, rfl, rfl, rfl, rfl, rfl⟩, ⟨_, rfl, rfl⟩⟩, ⟨⟨_, _, rfl, rfl, rfl, rfl, rfl⟩, ⟨_, rfl, rfl⟩⟩, ⟨⟨_, _, rfl, rfl, rfl, rfl, rfl⟩, rfl⟩, ⟨⟨_, _, rfl, rfl, rfl, rfl, rfl⟩, rfl⟩, ⟨⟨_, _, rfl, rfl, rfl, rfl, rfl⟩, rfl⟩, ⟨⟨_, _, rfl, rfl, rfl, rfl, rfl⟩, rfl⟩, ⟨⟨_, _, rfl, rfl, rfl, rfl, rfl⟩, ⟨_, rfl, rfl⟩⟩, ⟨⟨_, _, rfl, rfl, rfl, rfl, rfl⟩, ⟨_, rfl, rfl⟩⟩, ⟨⟨_, _, rfl, rfl, rfl, rfl, rfl⟩, rfl⟩, ⟨⟨_, _, rfl, rfl, rfl, rfl, rfl⟩, rfl⟩, ⟨⟨_, _, rfl, rfl, rfl, rfl, rfl⟩, rfl⟩, ⟨⟨_, _, rfl, rfl, rfl, rfl, rfl⟩, ⟨_, rfl, rfl⟩⟩, ⟨⟨_, _, rfl, rfl, rfl, rfl, rfl⟩, ⟨_, rfl, rfl⟩⟩, ⟨⟨_, _, rfl, rfl, rfl, rfl, rfl⟩, rfl⟩, ⟨⟨_, _, rfl, rfl, rfl, rfl, rfl⟩, ⟨_, rfl, rfl⟩⟩, ⟨⟨_, _, rfl, rfl, rfl, rfl, rfl⟩, ⟨_, rfl, rfl⟩⟩, ⟨⟨_, _, rfl, rfl, rfl, rfl, rfl⟩, rfl⟩, ⟨⟨_, _, rfl, rfl, rfl, rfl, rfl⟩, ⟨_, rfl, rfl⟩⟩, ⟨⟨_, _, rfl, rfl, rfl, rfl, rfl⟩, ⟨_, rfl, rfl⟩⟩, ⟨⟨_, _, rfl, rfl, rfl, rfl, rfl⟩, ⟨_, rfl, rfl⟩⟩, ⟨⟨_, _, rfl, rfl, rfl, rfl, rfl⟩, ⟨_, rfl, rfl⟩⟩, ⟨⟨_, _, rfl, rfl, rfl, rfl, rfl⟩, ⟨_, rfl, rfl⟩⟩, ⟨⟨_, _, rfl, rfl, rfl, rfl, rfl⟩, rfl⟩, ⟨⟨_, _, rfl, rfl, rfl, rfl, rfl⟩, ⟨_, rfl, rfl⟩⟩, ⟨⟨_, _, rfl, rfl, rfl, rfl, rfl⟩, ⟨_, rfl, rfl⟩⟩, ⟨⟨_, _, rfl, rfl, rfl, rfl, rfl⟩, rfl⟩, ⟨⟨_, _, rfl, rfl, rfl, rfl, rfl⟩, ⟨_, rfl, rfl⟩⟩, ⟨⟨_, _, rfl, rfl, rfl, rfl, rfl⟩, ⟨_, rfl, rfl⟩⟩, ⟨⟨_, _, rfl, rfl, rfl, rfl, rfl⟩, ⟨_, rfl, rfl⟩⟩, ⟨⟨_, _, rfl, rfl, rfl, rfl, rfl⟩, ⟨_, rfl, rfl⟩⟩, ⟨⟨_, _, rfl, rfl, rfl, rfl, rfl⟩, ⟨_, rfl, rfl⟩⟩, ⟨⟨_, _, rfl, rfl, rfl, rfl, rfl⟩, ⟨_, rfl, rfl⟩⟩, ⟨⟨_, _, rfl, rfl, rfl, rfl, rfl⟩, ⟨_, rfl, rfl⟩⟩, ⟨⟨_, _, rfl, rfl, rfl, rfl, rfl⟩, ⟨_, rfl, rfl⟩⟩, ⟨⟨_, _, rfl, rfl, rfl, rfl, rfl⟩, rfl⟩, ⟨⟨_, _, rfl, rfl, rfl, rfl, rfl⟩, ⟨_, rfl, rfl⟩⟩, ⟨⟨_, _, rfl, rfl, rfl, rfl, rfl⟩, rfl⟩, ⟨⟨_, _, rfl, rfl, rfl, rfl, rfl⟩, rfl⟩, ⟨⟨_, _, rfl, rfl, rfl, rfl, rfl⟩, rfl⟩, ⟨⟨_, _, rfl, rfl, rfl, rfl, rfl⟩, rfl⟩, ⟨⟨_, _, rfl, rfl, rfl, rfl, rfl⟩, rfl⟩, by simp⟩)

def M_s_l01New_L1 (x0 : List UInt8) (j16 : Int → Option (List UInt8 × Int × Int)) (k11 : (Int × Int) → Option (List UInt8 × Int × Int)) : (Int × Int) → Option (List UInt8 × Int × Int) := fun (x6, x7) =>
  (bif (bif (decide (x7 < (x0.length : Int))) then (decide (x7 < 4000)) else false) then
  (guardO (0 ≤ x7 ∧ x7 < (x0.length : Int)) <|
  k11 ((W (((BitVec.ofInt (IntKind.bits .i64) (W ((W ((W (x6 * 137)) + ((at' x0 x7).toNat : Int))) + 7)) &&& BitVec.ofInt (IntKind.bits .i64) 1073741823).toNat : Int))), (W (x7 + 1))))
  else
  j16 x6)

def M_s_l01New (x0 : List UInt8) : Option (List UInt8 × Int × Int) :=
  (joinO (fun (x15 : Int) =>
  some (x0, 0, x15)) fun j16 =>
  (fixF (M_s_l01New_L1 x0 j16) FUEL ((W (600128 + (x0.length : Int))), 0)))

theorem ok_s_l01New (x0 : List UInt8) (a2 : Option Addr) (c3 : Nat) (l4 : Nat) (hl5 : x0.length = l4) (r : List UInt8 × Int × Int) (h : M_s_l01New x0 = some r) :
    FC Try.prog 39 [.slice a2 l4 c3] [⟨.byte, ⟨a2, l4, c3⟩, x0⟩] (fun _ : Option Addr => True) (fun q => .pointer q) (fun q => [⟨(.pair .val (.pair (.int .i64) (.int .i64))), ⟨q, 1, 1⟩, [((Sl.v ⟨a2, l4, c3⟩), r.2.1, r.2.2)]⟩]) :=
  by
    subst hl5
    refine FC.of (T := TTx) Try.call39 Try.func39 rfl rfl fun w0 => ?_
    unfold M_s_l01New at h
    refine JS.seq ?_
    refine JS.region ?_
    refine JO.reg ttOk 1 [] [] [] _ rfl ⟨trivial, rfl⟩ ?_
    refine JO.done rfl ?_
    refine JS.seq ?_
    refine JS.region ?_
    refine JO.reg ttOk 4 [(W (600128 + (x0.length : Int)))] [] [(3, .v (.int .i64 (W (600128 + (x0.length : Int)))))] _ rfl ⟨⟨trivial, rfl⟩, ⟨rfl, trivial⟩, rfl⟩ ?_
    refine JO.done rfl ?_
    refine JS.seq ?_
    refine JS.seq ?_
    refine JS.region ?_
    refine JO.reg ttOk 1 [] [] [(4, .v (.int .i64 0))] _ rfl ⟨⟨rfl, trivial⟩, rfl⟩ ?_
    refine JO.done rfl ?_
    obtain ⟨j16, hj23, h⟩ := joinO_some h
    refine JS.blockJ (ι := Int) ⟨fun z => j16 z = some r, fun z => [(0, .v (.slice a2 x0.length c3)), (3, .v (.int .i64 z))], fun z => .nil, fun z => [⟨.byte, ⟨a2, x0.length, c3⟩, x0⟩], fun z => [], fun z => 0⟩ ?_ ?_
    · refine JS.loop (ι := Nat × Int × Int) ⟨fun z => fixF (M_s_l01New_L1 x0 j16) z.1 (z.2.1, z.2.2) = some r, fun z => [(0, .v (.slice a2 x0.length c3)), (3, .v (.int .i64 z.2.1)), (4, .v (.int .i64 z.2.2))], fun z => .nil, fun z => [⟨.byte, ⟨a2, x0.length, c3⟩, x0⟩], fun z => [], fun z => z.1⟩ (FUEL, (W (600128 + (x0.length : Int))), 0) h ⟨rfl, rfl, rfl, trivial⟩ trivial [0] rfl [] rfl ?_
      rintro ⟨n12, x6, x7⟩ h
      obtain ⟨n12, rfl, h⟩ := fixF_some h
      rw [M_s_l01New_L1] at h
      refine JS.seq ?_
      refine JS.seq ?_
      refine JS.region ?_
      refine JO.reg ttOk 8 [] [] [(15, .v (.bool (bif (decide (x7 < (x0.length : Int))) then (decide (x7 < 4000)) else false)))] _ rfl ⟨⟨rfl, trivial⟩, rfl⟩ ?_
      refine JO.done rfl ?_
      refine JS.cond rfl (fun ht22 => ?_) (fun ht22 => ?_)
      · have h := condT h ht22
        refine JS.skip ?_
        refine JS.seq ?_
        refine JS.block ?_
        refine JS.region ?_
        refine JO.know 0 rfl fun hs21 => ?_
        obtain ⟨g9, h⟩ := guardO_some h
        refine JO.reg ttOk 5 [(W (x6 * 137))] [] [(19, .v (.int .i64 (W (x6 * 137)))), (22, .ep ⟨a2, x0.length, c3⟩ (Int.toNat x7 * 1))] _ rfl ⟨⟨trivial, rfl⟩, hs21.ix g9, ⟨rfl, rfl, trivial⟩, rfl⟩ ?_
        refine JO.load ttOk rfl rfl rfl rfl rfl rfl rfl 0 rfl rfl (Int.toNat x7) 0 (at' x0 x7) ⟨at_some g9, rfl⟩ rfl rfl ?_
        refine JO.reg ttOk 5 [((at' x0 x7).toNat : Int), (W ((W (x6 * 137)) + ((at' x0 x7).toNat : Int))), (W ((W ((W (x6 * 137)) + ((at' x0 x7).toNat : Int))) + 7)), (W (((BitVec.ofInt (IntKind.bits .i64) (W ((W ((W (x6 * 137)) + ((at' x0 x7).toNat : Int))) + 7)) &&& BitVec.ofInt (IntKind.bits .i64) 1073741823).toNat : Int)))] [] [(3, .v (.int .i64 (W (((BitVec.ofInt (IntKind.bits .i64) (W ((W ((W (x6 * 137)) + ((at' x0 x7).toNat : Int))) + 7)) &&& BitVec.ofInt (IntKind.bits .i64) 1073741823).toNat : Int)))))] _ rfl ⟨⟨trivial, W_byte _⟩, ⟨trivial, rfl⟩, ⟨trivial, rfl⟩, ⟨trivial, rfl⟩, ⟨rfl, trivial⟩, rfl⟩ ?_
        refine JO.done rfl ?_
        refine JS.endB ?_
        refine JS.region ?_
        refine JO.reg ttOk 3 [(W (x7 + 1))] [] [(4, .v (.int .i64 (W (x7 + 1))))] _ rfl ⟨⟨trivial, rfl⟩, ⟨rfl, trivial⟩, rfl⟩ ?_
        refine JO.done rfl ?_
        exact JS.endL (n12, (W (((BitVec.ofInt (IntKind.bits .i64) (W ((W ((W (x6 * 137)) + ((at' x0 x7).toNat : Int))) + 7)) &&& BitVec.ofInt (IntKind.bits .i64) 1073741823).toNat : Int))), (W (x7 + 1))) h (Nat.lt_succ_self _) ⟨rfl, rfl, rfl, trivial⟩ trivial [0] rfl [] rfl
      · have h := condF h ht22
        refine JS.exit rfl ?_
        exact JS.endJ x6 h ⟨rfl, rfl, trivial⟩ trivial [0] rfl [] rfl
    · rintro x15 h
      subst hj23
      refine JS.seq ?_
      refine JS.region ?_
      refine JO.regB ttOk 5 [] [9] [(2, .bp 9 0), (31, .bp 9 0)] (.new 9 102 [.slice a2 x0.length c3, .int .i64 0, .int .i64 x15] .nil) rfl ⟨⟨rfl, rfl, trivial⟩, ⟨rfl, rfl, rfl, rfl, trivial⟩⟩ ?_
      refine JO.done rfl ?_
      refine JS.unbox 9 rfl (B' := .nil) trivial rfl (.pair .val (.pair (.int .i64) (.int .i64))) ((Sl.v ⟨a2, x0.length, c3⟩), 0, x15) ⟨rfl, rfl, rfl⟩ (fun a19 => [(0, .v (.slice a2 x0.length c3)), (2, .ep ⟨a19, 1, 1⟩ 0), (3, .v (.int .i64 x15)), (31, .ep ⟨a19, 1, 1⟩ 0)]) (fun _ => ⟨rfl, rfl, rfl, rfl, trivial⟩) fun a19 => ?_
      cases h
      exact JS.ret ttOk a19 trivial rfl rfl [0] rfl

def M_s_l01Byte (x0 : List UInt8 × Int × Int) : Option (Int × List UInt8 × Int × Int) :=
  (joinO (fun ((x14, x15) : Int × Int) =>
  some (x14, (x0.1, x15, (W ((W (x0.2.2 * 6364136223846793005)) + 1442695040888963407))))) fun j16 =>
  (bif (decide (x0.2.1 < (x0.1.length : Int))) then
  (guardO (0 ≤ x0.2.1 ∧ x0.2.1 < (x0.1.length : Int)) <|
  j16 ((W (((BitVec.ofInt (IntKind.bits .i64) (W ((W (((BitVec.ofInt (IntKind.bits .i64) (W (((BitVec.ofInt (IntKind.bits .i64) (Int.fdiv (W ((W (x0.2.2 * 6364136223846793005)) + 1442695040888963407)) (2 ^ (min (Int.toNat 33) (IntKind.bits .i64)))) ^^^ BitVec.ofInt (IntKind.bits .i64) (Int.fdiv (W ((W (x0.2.2 * 6364136223846793005)) + 1442695040888963407)) (2 ^ (min (Int.toNat 45) (IntKind.bits .i64))))).toNat : Int))) &&& BitVec.ofInt (IntKind.bits .i64) 255).toNat : Int))) + ((at' x0.1 x0.2.1).toNat : Int))) &&& BitVec.ofInt (IntKind.bits .i64) 255).toNat : Int))), (W (x0.2.1 + 1))))
  else
  j16 ((W (((BitVec.ofInt (IntKind.bits .i64) (W (((BitVec.ofInt (IntKind.bits .i64) (Int.fdiv (W ((W (x0.2.2 * 6364136223846793005)) + 1442695040888963407)) (2 ^ (min (Int.toNat 33) (IntKind.bits .i64)))) ^^^ BitVec.ofInt (IntKind.bits .i64) (Int.fdiv (W ((W (x0.2.2 * 6364136223846793005)) + 1442695040888963407)) (2 ^ (min (Int.toNat 45) (IntKind.bits .i64))))).toNat : Int))) &&& BitVec.ofInt (IntKind.bits .i64) 255).toNat : Int))), x0.2.1)))

theorem ok_s_l01Byte (x0 : List UInt8 × Int × Int) (a2 : Option Addr) (a3 : Option Addr) (c4 : Nat) (l5 : Nat) (hl6 : x0.1.length = l5) (r : Int × List UInt8 × Int × Int) (h : M_s_l01Byte x0 = some r) :
    FX Try.prog 94 [.pointer a2] [⟨.byte, ⟨a3, l5, c4⟩, x0.1⟩] [⟨(.pair .val (.pair (.int .i64) (.int .i64))), ⟨a2, 1, 1⟩, [((Sl.v ⟨a3, l5, c4⟩), x0.2.1, x0.2.2)]⟩] (fun _ : Unit => True) (fun _ => .int .i64 r.1) (fun _ => [⟨(.pair .val (.pair (.int .i64) (.int .i64))), ⟨a2, 1, 1⟩, [((Sl.v ⟨a3, l5, c4⟩), r.2.2.1, r.2.2.2)]⟩]) :=
  by
    subst hl6
    refine FX.of (T := TTx) Try.call94 Try.func94 rfl rfl fun w0 L0 => ?_
    unfold M_s_l01Byte at h
    refine JS.ptr 0 a2 rfl ?_
    refine JS.seq ?_
    refine JS.region ?_
    refine JO.reg ttOk 1 [] [] [] _ rfl ⟨trivial, rfl⟩ ?_
    refine JO.done rfl ?_
    refine JS.seq ?_
    refine JS.region ?_
    refine JO.know 1 rfl fun hs21 => ?_
    refine JO.reg ttOk 4 [] [] [(4, .ep ⟨a2, 1, 1⟩ 0), (7, .ep ⟨a2, 1, 1⟩ 2)] _ rfl ⟨(hs21.fa ptr0).1, hs21.fa ptr0, ⟨rfl, rfl, trivial⟩, rfl⟩ ?_
    refine JO.loadV ttOk rfl rfl rfl rfl rfl rfl 1 rfl rfl 0 2 ((Sl.v ⟨a3, x0.1.length, c4⟩), x0.2.1, x0.2.2) ⟨rfl, rfl⟩ rfl rfl rfl ?_
    refine JO.reg ttOk 4 [(W (x0.2.2 * 6364136223846793005)), (W ((W (x0.2.2 * 6364136223846793005)) + 1442695040888963407))] [] [(10, .v (.int .i64 (W ((W (x0.2.2 * 6364136223846793005)) + 1442695040888963407)))), (12, .ep ⟨a2, 1, 1⟩ 2)] _ rfl ⟨⟨trivial, rfl⟩, ⟨trivial, rfl⟩, (hs21.fa ptr0).1, hs21.fa ptr0, ⟨rfl, rfl, trivial⟩, rfl⟩ ?_
    refine JO.storeE ttOk rfl rfl rfl rfl rfl rfl rfl rfl rfl [0] (fs := []) rfl 0 2 ((Sl.v ⟨a3, x0.1.length, c4⟩), x0.2.1, x0.2.2) ((Sl.v ⟨a3, x0.1.length, c4⟩), x0.2.1, (W ((W (x0.2.2 * 6364136223846793005)) + 1442695040888963407))) ⟨rfl, rfl⟩ ⟨⟨⟨rfl, rfl, rfl⟩, rfl⟩, rfl⟩ ?_
    refine JO.done rfl ?_
    refine JS.seq ?_
    have g8 : (0 : Int) ≤ 33 := by decide
    have g9 : (0 : Int) ≤ 45 := by decide
    refine JS.regionQ rfl (by kernel_rfl) ?_
    refine JQ.reg ttOk 3 [] [(15, .ep ⟨a2, 1, 1⟩ 2)] rfl ⟨(hs21.fa ptr0).1, hs21.fa ptr0, ⟨rfl, trivial⟩⟩ ?_
    refine JQ.loadV ttOk rfl rfl rfl rfl rfl rfl 1 rfl rfl 0 2 ((Sl.v ⟨a3, x0.1.length, c4⟩), x0.2.1, (W ((W (x0.2.2 * 6364136223846793005)) + 1442695040888963407))) ⟨rfl, rfl⟩ rfl rfl rfl ?_
    refine JQ.reg ttOk 4 [] [(17, .v (.int .i64 (Int.fdiv (W ((W (x0.2.2 * 6364136223846793005)) + 1442695040888963407)) (2 ^ (min (Int.toNat 33) (IntKind.bits .i64)))))), (20, .ep ⟨a2, 1, 1⟩ 2)] rfl ⟨g8, (hs21.fa ptr0).1, hs21.fa ptr0, ⟨rfl, rfl, trivial⟩⟩ ?_
    refine JQ.loadV ttOk rfl rfl rfl rfl rfl rfl 1 rfl rfl 0 2 ((Sl.v ⟨a3, x0.1.length, c4⟩), x0.2.1, (W ((W (x0.2.2 * 6364136223846793005)) + 1442695040888963407))) ⟨rfl, rfl⟩ rfl rfl rfl ?_
    refine JQ.reg ttOk 4 [(W (((BitVec.ofInt (IntKind.bits .i64) (Int.fdiv (W ((W (x0.2.2 * 6364136223846793005)) + 1442695040888963407)) (2 ^ (min (Int.toNat 33) (IntKind.bits .i64)))) ^^^ BitVec.ofInt (IntKind.bits .i64) (Int.fdiv (W ((W (x0.2.2 * 6364136223846793005)) + 1442695040888963407)) (2 ^ (min (Int.toNat 45) (IntKind.bits .i64))))).toNat : Int))), (W (((BitVec.ofInt (IntKind.bits .i64) (W (((BitVec.ofInt (IntKind.bits .i64) (Int.fdiv (W ((W (x0.2.2 * 6364136223846793005)) + 1442695040888963407)) (2 ^ (min (Int.toNat 33) (IntKind.bits .i64)))) ^^^ BitVec.ofInt (IntKind.bits .i64) (Int.fdiv (W ((W (x0.2.2 * 6364136223846793005)) + 1442695040888963407)) (2 ^ (min (Int.toNat 45) (IntKind.bits .i64))))).toNat : Int))) &&& BitVec.ofInt (IntKind.bits .i64) 255).toNat : Int)))] [(3, .v (.int .i64 (W (((BitVec.ofInt (IntKind.bits .i64) (W (((BitVec.ofInt (IntKind.bits .i64) (Int.fdiv (W ((W (x0.2.2 * 6364136223846793005)) + 1442695040888963407)) (2 ^ (min (Int.toNat 33) (IntKind.bits .i64)))) ^^^ BitVec.ofInt (IntKind.bits .i64) (Int.fdiv (W ((W (x0.2.2 * 6364136223846793005)) + 1442695040888963407)) (2 ^ (min (Int.toNat 45) (IntKind.bits .i64))))).toNat : Int))) &&& BitVec.ofInt (IntKind.bits .i64) 255).toNat : Int)))))] rfl ⟨g9, ⟨trivial, rfl⟩, ⟨trivial, rfl⟩, ⟨rfl, trivial⟩⟩ ?_
    refine JQ.done rfl ?_
    obtain ⟨j16, hj25, h⟩ := joinO_some h
    refine JS.seqJ (ι := Int × Int) ⟨fun z => j16 (z.1, z.2) = some r, fun z => [(3, .v (.int .i64 z.1))], fun z => .nil, fun z => [⟨.byte, ⟨a3, x0.1.length, c4⟩, x0.1⟩], fun z => [⟨(.pair .val (.pair (.int .i64) (.int .i64))), ⟨a2, 1, 1⟩, [((Sl.v ⟨a3, x0.1.length, c4⟩), z.2, (W ((W (x0.2.2 * 6364136223846793005)) + 1442695040888963407)))]⟩], fun z => 0⟩ ?_ ?_
    · refine JS.seq ?_
      refine JS.regionQ rfl (by kernel_rfl) ?_
      refine JQ.reg ttOk 3 [] [(27, .ep ⟨a2, 1, 1⟩ 1)] rfl ⟨(hs21.fa ptr0).1, hs21.fa ptr0, ⟨rfl, trivial⟩⟩ ?_
      refine JQ.loadV ttOk rfl rfl rfl rfl rfl rfl 1 rfl rfl 0 1 ((Sl.v ⟨a3, x0.1.length, c4⟩), x0.2.1, (W ((W (x0.2.2 * 6364136223846793005)) + 1442695040888963407))) ⟨rfl, rfl⟩ rfl rfl rfl ?_
      refine JQ.reg ttOk 3 [] [(31, .ep ⟨a2, 1, 1⟩ 0)] rfl ⟨(hs21.fa ptr0).1, hs21.fa ptr0, ⟨rfl, trivial⟩⟩ ?_
      refine JQ.loadV ttOk rfl rfl rfl rfl rfl rfl 1 rfl rfl 0 0 ((Sl.v ⟨a3, x0.1.length, c4⟩), x0.2.1, (W ((W (x0.2.2 * 6364136223846793005)) + 1442695040888963407))) ⟨rfl, rfl⟩ rfl rfl rfl ?_
      refine JQ.reg ttOk 2 [] [(34, .v (.bool (decide (x0.2.1 < (x0.1.length : Int)))))] rfl ⟨rfl, trivial⟩ ?_
      refine JQ.done rfl ?_
      refine JS.cond rfl (fun ht24 => ?_) (fun ht24 => ?_)
      · have h := condT h ht24
        refine JS.seq ?_
        obtain ⟨g11, h⟩ := guardO_some h
        refine JS.know 0 rfl fun hs23 => ?_
        refine JS.regionQ rfl (by kernel_rfl) ?_
        refine JQ.reg ttOk 4 [] [(35, .v (.int .i64 (W (((BitVec.ofInt (IntKind.bits .i64) (W (((BitVec.ofInt (IntKind.bits .i64) (Int.fdiv (W ((W (x0.2.2 * 6364136223846793005)) + 1442695040888963407)) (2 ^ (min (Int.toNat 33) (IntKind.bits .i64)))) ^^^ BitVec.ofInt (IntKind.bits .i64) (Int.fdiv (W ((W (x0.2.2 * 6364136223846793005)) + 1442695040888963407)) (2 ^ (min (Int.toNat 45) (IntKind.bits .i64))))).toNat : Int))) &&& BitVec.ofInt (IntKind.bits .i64) 255).toNat : Int))))), (38, .ep ⟨a2, 1, 1⟩ 0)] rfl ⟨(hs21.fa ptr0).1, hs21.fa ptr0, ⟨rfl, rfl, trivial⟩⟩ ?_
        refine JQ.loadV ttOk rfl rfl rfl rfl rfl rfl 1 rfl rfl 0 0 ((Sl.v ⟨a3, x0.1.length, c4⟩), x0.2.1, (W ((W (x0.2.2 * 6364136223846793005)) + 1442695040888963407))) ⟨rfl, rfl⟩ rfl rfl rfl ?_
        refine JQ.reg ttOk 3 [] [(42, .ep ⟨a2, 1, 1⟩ 1)] rfl ⟨(hs21.fa ptr0).1, hs21.fa ptr0, ⟨rfl, trivial⟩⟩ ?_
        refine JQ.loadV ttOk rfl rfl rfl rfl rfl rfl 1 rfl rfl 0 1 ((Sl.v ⟨a3, x0.1.length, c4⟩), x0.2.1, (W ((W (x0.2.2 * 6364136223846793005)) + 1442695040888963407))) ⟨rfl, rfl⟩ rfl rfl rfl ?_
        refine JQ.reg ttOk 1 [] [(44, .ep ⟨a3, x0.1.length, c4⟩ (Int.toNat x0.2.1 * 1))] rfl ⟨hs23.ix g11, ⟨rfl, trivial⟩⟩ ?_
        refine JQ.load ttOk rfl rfl rfl rfl rfl rfl rfl 0 rfl rfl (Int.toNat x0.2.1) 0 (at' x0.1 x0.2.1) ⟨at_some g11, rfl⟩ rfl rfl ?_
        refine JQ.reg ttOk 4 [((at' x0.1 x0.2.1).toNat : Int), (W ((W (((BitVec.ofInt (IntKind.bits .i64) (W (((BitVec.ofInt (IntKind.bits .i64) (Int.fdiv (W ((W (x0.2.2 * 6364136223846793005)) + 1442695040888963407)) (2 ^ (min (Int.toNat 33) (IntKind.bits .i64)))) ^^^ BitVec.ofInt (IntKind.bits .i64) (Int.fdiv (W ((W (x0.2.2 * 6364136223846793005)) + 1442695040888963407)) (2 ^ (min (Int.toNat 45) (IntKind.bits .i64))))).toNat : Int))) &&& BitVec.ofInt (IntKind.bits .i64) 255).toNat : Int))) + ((at' x0.1 x0.2.1).toNat : Int))), (W (((BitVec.ofInt (IntKind.bits .i64) (W ((W (((BitVec.ofInt (IntKind.bits .i64) (W (((BitVec.ofInt (IntKind.bits .i64) (Int.fdiv (W ((W (x0.2.2 * 6364136223846793005)) + 1442695040888963407)) (2 ^ (min (Int.toNat 33) (IntKind.bits .i64)))) ^^^ BitVec.ofInt (IntKind.bits .i64) (Int.fdiv (W ((W (x0.2.2 * 6364136223846793005)) + 1442695040888963407)) (2 ^ (min (Int.toNat 45) (IntKind.bits .i64))))).toNat : Int))) &&& BitVec.ofInt (IntKind.bits .i64) 255).toNat : Int))) + ((at' x0.1 x0.2.1).toNat : Int))) &&& BitVec.ofInt (IntKind.bits .i64) 255).toNat : Int)))] [(3, .v (.int .i64 (W (((BitVec.ofInt (IntKind.bits .i64) (W ((W (((BitVec.ofInt (IntKind.bits .i64) (W (((BitVec.ofInt (IntKind.bits .i64) (Int.fdiv (W ((W (x0.2.2 * 6364136223846793005)) + 1442695040888963407)) (2 ^ (min (Int.toNat 33) (IntKind.bits .i64)))) ^^^ BitVec.ofInt (IntKind.bits .i64) (Int.fdiv (W ((W (x0.2.2 * 6364136223846793005)) + 1442695040888963407)) (2 ^ (min (Int.toNat 45) (IntKind.bits .i64))))).toNat : Int))) &&& BitVec.ofInt (IntKind.bits .i64) 255).toNat : Int))) + ((at' x0.1 x0.2.1).toNat : Int))) &&& BitVec.ofInt (IntKind.bits .i64) 255).toNat : Int)))))] rfl ⟨⟨trivial, W_byte _⟩, ⟨trivial, rfl⟩, ⟨trivial, rfl⟩, ⟨rfl, trivial⟩⟩ ?_
        refine JQ.done rfl ?_
        refine JS.region ?_
        refine JO.reg ttOk 4 [] [] [(49, .ep ⟨a2, 1, 1⟩ 0), (52, .ep ⟨a2, 1, 1⟩ 1)] _ rfl ⟨(hs21.fa ptr0).1, hs21.fa ptr0, ⟨rfl, rfl, trivial⟩, rfl⟩ ?_
        refine JO.loadV ttOk rfl rfl rfl rfl rfl rfl 1 rfl rfl 0 1 ((Sl.v ⟨a3, x0.1.length, c4⟩), x0.2.1, (W ((W (x0.2.2 * 6364136223846793005)) + 1442695040888963407))) ⟨rfl, rfl⟩ rfl rfl rfl ?_
        refine JO.reg ttOk 3 [(W (x0.2.1 + 1))] [] [(54, .v (.int .i64 (W (x0.2.1 + 1)))), (56, .ep ⟨a2, 1, 1⟩ 1)] _ rfl ⟨⟨trivial, rfl⟩, (hs21.fa ptr0).1, hs21.fa ptr0, ⟨rfl, rfl, trivial⟩, rfl⟩ ?_
        refine JO.storeE ttOk rfl rfl rfl rfl rfl rfl rfl rfl rfl [0] (fs := []) rfl 0 1 ((Sl.v ⟨a3, x0.1.length, c4⟩), x0.2.1, (W ((W (x0.2.2 * 6364136223846793005)) + 1442695040888963407))) ((Sl.v ⟨a3, x0.1.length, c4⟩), (W (x0.2.1 + 1)), (W ((W (x0.2.2 * 6364136223846793005)) + 1442695040888963407))) ⟨rfl, rfl⟩ ⟨⟨⟨rfl, rfl, rfl⟩, rfl⟩, rfl⟩ ?_
        refine JO.done rfl ?_
        exact JS.endJ ((W (((BitVec.ofInt (IntKind.bits .i64) (W ((W (((BitVec.ofInt (IntKind.bits .i64) (W (((BitVec.ofInt (IntKind.bits .i64) (Int.fdiv (W ((W (x0.2.2 * 6364136223846793005)) + 1442695040888963407)) (2 ^ (min (Int.toNat 33) (IntKind.bits .i64)))) ^^^ BitVec.ofInt (IntKind.bits .i64) (Int.fdiv (W ((W (x0.2.2 * 6364136223846793005)) + 1442695040888963407)) (2 ^ (min (Int.toNat 45) (IntKind.bits .i64))))).toNat : Int))) &&& BitVec.ofInt (IntKind.bits .i64) 255).toNat : Int))) + ((at' x0.1 x0.2.1).toNat : Int))) &&& BitVec.ofInt (IntKind.bits .i64) 255).toNat : Int))), (W (x0.2.1 + 1))) h ⟨rfl, trivial⟩ trivial [0] rfl [0] rfl
      · have h := condF h ht24
        refine JS.skip ?_
        exact JS.endJ ((W (((BitVec.ofInt (IntKind.bits .i64) (W (((BitVec.ofInt (IntKind.bits .i64) (Int.fdiv (W ((W (x0.2.2 * 6364136223846793005)) + 1442695040888963407)) (2 ^ (min (Int.toNat 33) (IntKind.bits .i64)))) ^^^ BitVec.ofInt (IntKind.bits .i64) (Int.fdiv (W ((W (x0.2.2 * 6364136223846793005)) + 1442695040888963407)) (2 ^ (min (Int.toNat 45) (IntKind.bits .i64))))).toNat : Int))) &&& BitVec.ofInt (IntKind.bits .i64) 255).toNat : Int))), x0.2.1) h ⟨rfl, trivial⟩ trivial [0] rfl [0] rfl
    · rintro ⟨x14, x15⟩ h
      subst hj25
      refine JS.seq ?_
      refine JS.region ?_
      refine JO.reg ttOk 2 [] [] [(2, .v (.int .i64 x14))] _ rfl ⟨⟨rfl, trivial⟩, rfl⟩ ?_
      refine JO.done rfl ?_
      cases h
      exact JS.retX ttOk () trivial rfl rfl [0] rfl

def M_s_l01Below (x0 : List UInt8 × Int × Int) (x1 : Int) : Option (Int × List UInt8 × Int × Int) :=
  (bif (decide (x1 ≤ 0)) then
  some (0, (x0.1, x0.2.1, x0.2.2))
  else
  (bif (decide (x1 ≤ 256)) then
  (bindO (M_s_l01Byte (x0.1, x0.2.1, x0.2.2)) fun (y8, y9) =>
  (guardO (x1 ≠ 0) <|
  some ((Int.tmod y8 x1), (x0.1, y9.2.1, y9.2.2))))
  else
  (bindO (M_s_l01Byte (x0.1, x0.2.1, x0.2.2)) fun (y12, y13) =>
  (bindO (M_s_l01Byte (x0.1, y13.2.1, y13.2.2)) fun (y15, y16) =>
  (bindO (M_s_l01Byte (x0.1, y16.2.1, y16.2.2)) fun (y18, y19) =>
  (bindO (M_s_l01Byte (x0.1, y19.2.1, y19.2.2)) fun (y21, y22) =>
  (guardO (x1 ≠ 0) <|
  some ((Int.tmod (W ((W ((W ((W (y12 * 16777216)) + (W (y15 * 65536)))) + (W (y18 * 256)))) + y21)) x1), (x0.1, y22.2.1, y22.2.2)))))))))

theorem ok_s_l01Below (x0 : List UInt8 × Int × Int) (x1 : Int) (a3 : Option Addr) (a4 : Option Addr) (c5 : Nat) (l6 : Nat) (hl7 : x0.1.length = l6) (r : Int × List UInt8 × Int × Int) (h : M_s_l01Below x0 x1 = some r) :
    FX Try.prog 41 [.pointer a3, .int .i64 x1] [⟨.byte, ⟨a4, l6, c5⟩, x0.1⟩] [⟨(.pair .val (.pair (.int .i64) (.int .i64))), ⟨a3, 1, 1⟩, [((Sl.v ⟨a4, l6, c5⟩), x0.2.1, x0.2.2)]⟩] (fun _ : Unit => True) (fun _ => .int .i64 r.1) (fun _ => [⟨(.pair .val (.pair (.int .i64) (.int .i64))), ⟨a3, 1, 1⟩, [((Sl.v ⟨a4, l6, c5⟩), r.2.2.1, r.2.2.2)]⟩]) :=
  by
    subst hl7
    refine FX.of (T := TTx) Try.call41 Try.func41 rfl rfl fun w0 L0 => ?_
    unfold M_s_l01Below at h
    refine JS.ptr 0 a3 rfl ?_
    refine JS.seq ?_
    refine JS.region ?_
    refine JO.reg ttOk 1 [] [] [] _ rfl ⟨trivial, rfl⟩ ?_
    refine JO.done rfl ?_
    refine JS.seq ?_
    refine JS.seq ?_
    refine JS.region ?_
    refine JO.reg ttOk 2 [] [] [(10, .v (.bool (decide (x1 ≤ 0))))] _ rfl ⟨⟨rfl, trivial⟩, rfl⟩ ?_
    refine JO.done rfl ?_
    refine JS.cond rfl (fun ht28 => ?_) (fun ht28 => ?_)
    · have h := condT h ht28
      refine JS.seq ?_
      refine JS.region ?_
      refine JO.reg ttOk 1 [] [] [(4, .v (.int .i64 0))] _ rfl ⟨⟨rfl, trivial⟩, rfl⟩ ?_
      refine JO.done rfl ?_
      cases h
      exact JS.retX ttOk () trivial rfl rfl [0] rfl
    · have h := condF h ht28
      refine JS.skip ?_
      refine JS.seq ?_
      refine JS.seq ?_
      refine JS.region ?_
      refine JO.reg ttOk 2 [] [] [(12, .v (.bool (decide (x1 ≤ 256))))] _ rfl ⟨⟨rfl, trivial⟩, rfl⟩ ?_
      refine JO.done rfl ?_
      refine JS.cond rfl (fun ht27 => ?_) (fun ht27 => ?_)
      · have h := condT h ht27
        refine JS.seq ?_
        refine JS.region ?_
        refine JO.reg ttOk 1 [] [] [(13, .ep ⟨a3, 1, 1⟩ 0)] _ rfl ⟨⟨rfl, trivial⟩, rfl⟩ ?_
        obtain ⟨⟨y8, y9⟩, hy10, h⟩ := bindO_some h
        refine JO.callX rfl rfl rfl rfl (ok_s_l01Byte (x0.1, x0.2.1, x0.2.2) a3 a4 c5 x0.1.length rfl _ hy10) rfl [0] rfl [0] rfl rfl ?_
        intro _ _
        obtain ⟨g11, h⟩ := guardO_some h
        refine JO.reg ttOk 3 [] [] [(4, .v (.int .i64 (Int.tmod y8 x1)))] _ rfl ⟨g11, ⟨rfl, trivial⟩, rfl⟩ ?_
        refine JO.done rfl ?_
        cases h
        exact JS.retX ttOk () trivial rfl rfl [0] rfl
      · have h := condF h ht27
        refine JS.skip ?_
        refine JS.seq ?_
        refine JS.region ?_
        refine JO.reg ttOk 1 [] [] [(17, .ep ⟨a3, 1, 1⟩ 0)] _ rfl ⟨⟨rfl, trivial⟩, rfl⟩ ?_
        obtain ⟨⟨y12, y13⟩, hy14, h⟩ := bindO_some h
        refine JO.callX rfl rfl rfl rfl (ok_s_l01Byte (x0.1, x0.2.1, x0.2.2) a3 a4 c5 x0.1.length rfl _ hy14) rfl [0] rfl [0] rfl rfl ?_
        intro _ _
        refine JO.reg ttOk 1 [] [] [(5, .v (.int .i64 y12))] _ rfl ⟨⟨rfl, trivial⟩, rfl⟩ ?_
        refine JO.done rfl ?_
        refine JS.seq ?_
        refine JS.region ?_
        refine JO.reg ttOk 1 [] [] [(19, .ep ⟨a3, 1, 1⟩ 0)] _ rfl ⟨⟨rfl, trivial⟩, rfl⟩ ?_
        obtain ⟨⟨y15, y16⟩, hy17, h⟩ := bindO_some h
        refine JO.callX rfl rfl rfl rfl (ok_s_l01Byte (x0.1, y13.2.1, y13.2.2) a3 a4 c5 x0.1.length rfl _ hy17) rfl [0] rfl [0] rfl rfl ?_
        intro _ _
        refine JO.reg ttOk 1 [] [] [(6, .v (.int .i64 y15))] _ rfl ⟨⟨rfl, trivial⟩, rfl⟩ ?_
        refine JO.done rfl ?_
        refine JS.seq ?_
        refine JS.region ?_
        refine JO.reg ttOk 1 [] [] [(21, .ep ⟨a3, 1, 1⟩ 0)] _ rfl ⟨⟨rfl, trivial⟩, rfl⟩ ?_
        obtain ⟨⟨y18, y19⟩, hy20, h⟩ := bindO_some h
        refine JO.callX rfl rfl rfl rfl (ok_s_l01Byte (x0.1, y16.2.1, y16.2.2) a3 a4 c5 x0.1.length rfl _ hy20) rfl [0] rfl [0] rfl rfl ?_
        intro _ _
        refine JO.reg ttOk 1 [] [] [(7, .v (.int .i64 y18))] _ rfl ⟨⟨rfl, trivial⟩, rfl⟩ ?_
        refine JO.done rfl ?_
        refine JS.seq ?_
        refine JS.region ?_
        refine JO.reg ttOk 1 [] [] [(23, .ep ⟨a3, 1, 1⟩ 0)] _ rfl ⟨⟨rfl, trivial⟩, rfl⟩ ?_
        obtain ⟨⟨y21, y22⟩, hy23, h⟩ := bindO_some h
        refine JO.callX rfl rfl rfl rfl (ok_s_l01Byte (x0.1, y19.2.1, y19.2.2) a3 a4 c5 x0.1.length rfl _ hy23) rfl [0] rfl [0] rfl rfl ?_
        intro _ _
        refine JO.reg ttOk 1 [] [] [(8, .v (.int .i64 y21))] _ rfl ⟨⟨rfl, trivial⟩, rfl⟩ ?_
        refine JO.done rfl ?_
        refine JS.seq ?_
        refine JS.region ?_
        obtain ⟨g24, h⟩ := guardO_some h
        refine JO.reg ttOk 13 [(W (y12 * 16777216)), (W (y15 * 65536)), (W ((W (y12 * 16777216)) + (W (y15 * 65536)))), (W (y18 * 256)), (W ((W ((W (y12 * 16777216)) + (W (y15 * 65536)))) + (W (y18 * 256)))), (W ((W ((W ((W (y12 * 16777216)) + (W (y15 * 65536)))) + (W (y18 * 256)))) + y21))] [] [(4, .v (.int .i64 (Int.tmod (W ((W ((W ((W (y12 * 16777216)) + (W (y15 * 65536)))) + (W (y18 * 256)))) + y21)) x1)))] _ rfl ⟨⟨trivial, rfl⟩, ⟨trivial, rfl⟩, ⟨trivial, rfl⟩, ⟨trivial, rfl⟩, ⟨trivial, rfl⟩, ⟨trivial, rfl⟩, g24, ⟨rfl, trivial⟩, rfl⟩ ?_
        refine JO.done rfl ?_
        cases h
        exact JS.retX ttOk () trivial rfl rfl [0] rfl

def M_s_l02Rune (x0 : List UInt8 × Int × Int) : Option (Int × List UInt8 × Int × Int) :=
  (bindO (M_s_l01Below (x0.1, x0.2.1, x0.2.2) 12) fun (y7, y8) =>
  (bif (decide (y7 < 9)) then
  (bindO (M_s_l01Below (x0.1, y8.2.1, y8.2.2) 16) fun (y11, y12) =>
  (guardO (0 ≤ y11 ∧ y11 < (([97, 98, 99, 120, 49, 50, 32, 32, 46, 45, 95, 233, 4352, 20013, 128512, 47] : List Int).length : Int)) <|
  some ((at' ([97, 98, 99, 120, 49, 50, 32, 32, 46, 45, 95, 233, 4352, 20013, 128512, 47] : List Int) y11), (x0.1, y12.2.1, y12.2.2))))
  else
  (bif (decide (y7 = 9)) then
  (bindO (M_s_l01Below (x0.1, y8.2.1, y8.2.2) 94) fun (y16, y17) =>
  some ((W (33 + y16)), (x0.1, y17.2.1, y17.2.2)))
  else
  (bif (decide (y7 = 10)) then
  (bindO (M_s_l01Below (x0.1, y8.2.1, y8.2.2) 300) fun (y19, y20) =>
  some ((W (160 + y19)), (x0.1, y20.2.1, y20.2.2)))
  else
  (bindO (M_s_l01Below (x0.1, y8.2.1, y8.2.2) 2000) fun (y22, y23) =>
  some ((W (19968 + y22)), (x0.1, y23.2.1, y23.2.2)))))))

theorem ok_s_l02Rune (x0 : List UInt8 × Int × Int) (a2 : Option Addr) (a3 : Option Addr) (c4 : Nat) (l5 : Nat) (hl6 : x0.1.length = l5) (r : Int × List UInt8 × Int × Int) (h : M_s_l02Rune x0 = some r) :
    FX Try.prog 129 [.pointer a2] [⟨.byte, ⟨a3, l5, c4⟩, x0.1⟩] [⟨(.pair .val (.pair (.int .i64) (.int .i64))), ⟨a2, 1, 1⟩, [((Sl.v ⟨a3, l5, c4⟩), x0.2.1, x0.2.2)]⟩] (fun _ : Unit => True) (fun _ => .int .i64 r.1) (fun _ => [⟨(.pair .val (.pair (.int .i64) (.int .i64))), ⟨a2, 1, 1⟩, [((Sl.v ⟨a3, l5, c4⟩), r.2.2.1, r.2.2.2)]⟩]) :=
  by
    subst hl6
    refine FX.of (T := TTx) Try.call129 Try.func129 rfl rfl fun w0 L0 => ?_
    unfold M_s_l02Rune at h
    refine JS.ptr 0 a2 rfl ?_
    refine JS.seq ?_
    refine JS.region ?_
    refine JO.reg ttOk 1 [] [] [] _ rfl ⟨trivial, rfl⟩ ?_
    refine JO.done rfl ?_
    refine JS.seq ?_
    refine JS.region ?_
    refine JO.reg ttOk 1 [] [] [(4, .ep ⟨a2, 1, 1⟩ 0)] _ rfl ⟨⟨rfl, trivial⟩, rfl⟩ ?_
    obtain ⟨⟨y7, y8⟩, hy9, h⟩ := bindO_some h
    refine JO.callX rfl rfl rfl rfl (ok_s_l01Below (x0.1, x0.2.1, x0.2.2) 12 a2 a3 c4 x0.1.length rfl _ hy9) rfl [0] rfl [0] rfl rfl ?_
    intro _ _
    refine JO.reg ttOk 1 [] [] [(3, .v (.int .i64 y7))] _ rfl ⟨⟨rfl, trivial⟩, rfl⟩ ?_
    refine JO.done rfl ?_
    refine JS.seq ?_
    refine JS.seq ?_
    refine JS.region ?_
    refine JO.reg ttOk 2 [] [] [(7, .v (.bool (decide (y7 < 9))))] _ rfl ⟨⟨rfl, trivial⟩, rfl⟩ ?_
    refine JO.done rfl ?_
    refine JS.cond rfl (fun ht31 => ?_) (fun ht31 => ?_)
    · have h := condT h ht31
      refine JS.seq ?_
      refine JS.region ?_
      refine JO.ofK rfl (JK.buildSlice ttOk rfl rfl rfl rfl rfl rfl rfl rfl rfl rfl rfl [] rfl (.int .i64) [97, 98, 99, 120, 49, 50, 32, 32, 46, 45, 95, 233, 4352, 20013, 128512, 47] ⟨rfl, rfl⟩ rfl rfl fun a10 => JO.toK ?_)
      refine JO.reg ttOk 1 [] [] [(9, .ep ⟨a2, 1, 1⟩ 0)] _ rfl ⟨⟨rfl, trivial⟩, rfl⟩ ?_
      obtain ⟨⟨y11, y12⟩, hy13, h⟩ := bindO_some h
      refine JO.callX rfl rfl rfl rfl (ok_s_l01Below (x0.1, y8.2.1, y8.2.2) 16 a2 a3 c4 x0.1.length rfl _ hy13) rfl [1] rfl [0] rfl rfl ?_
      intro _ _
      refine JO.know 2 rfl fun hs28 => ?_
      obtain ⟨g15, h⟩ := guardO_some h
      refine JO.reg ttOk 1 [] [] [(11, .ep ⟨a10, ([97, 98, 99, 120, 49, 50, 32, 32, 46, 45, 95, 233, 4352, 20013, 128512, 47] : List Int).length, ([97, 98, 99, 120, 49, 50, 32, 32, 46, 45, 95, 233, 4352, 20013, 128512, 47] : List Int).length⟩ (Int.toNat y11 * 1))] _ rfl ⟨hs28.ix g15, ⟨rfl, trivial⟩, rfl⟩ ?_
      refine JO.load ttOk rfl rfl rfl rfl rfl rfl rfl 2 rfl rfl (Int.toNat y11) 0 (at' ([97, 98, 99, 120, 49, 50, 32, 32, 46, 45, 95, 233, 4352, 20013, 128512, 47] : List Int) y11) ⟨at_some g15, rfl⟩ rfl rfl ?_
      refine JO.reg ttOk 1 [] [] [(2, .v (.int .i64 (at' ([97, 98, 99, 120, 49, 50, 32, 32, 46, 45, 95, 233, 4352, 20013, 128512, 47] : List Int) y11)))] _ rfl ⟨⟨rfl, trivial⟩, rfl⟩ ?_
      refine JO.done rfl ?_
      cases h
      exact JS.retX ttOk () trivial rfl rfl [0] rfl
    · have h := condF h ht31
      refine JS.skip ?_
      refine JS.seq ?_
      refine JS.seq ?_
      refine JS.region ?_
      refine JO.reg ttOk 2 [] [] [(14, .v (.bool (decide (y7 = 9))))] _ rfl ⟨⟨rfl, trivial⟩, rfl⟩ ?_
      refine JO.done rfl ?_
      refine JS.cond rfl (fun ht30 => ?_) (fun ht30 => ?_)
      · have h := condT h ht30
        refine JS.seq ?_
        refine JS.region ?_
        refine JO.reg ttOk 1 [] [] [(15, .ep ⟨a2, 1, 1⟩ 0)] _ rfl ⟨⟨rfl, trivial⟩, rfl⟩ ?_
        obtain ⟨⟨y16, y17⟩, hy18, h⟩ := bindO_some h
        refine JO.callX rfl rfl rfl rfl (ok_s_l01Below (x0.1, y8.2.1, y8.2.2) 94 a2 a3 c4 x0.1.length rfl _ hy18) rfl [0] rfl [0] rfl rfl ?_
        intro _ _
        refine JO.reg ttOk 2 [(W (33 + y16))] [] [(2, .v (.int .i64 (W (33 + y16))))] _ rfl ⟨⟨trivial, rfl⟩, ⟨rfl, trivial⟩, rfl⟩ ?_
        refine JO.done rfl ?_
        cases h
        exact JS.retX ttOk () trivial rfl rfl [0] rfl
      · have h := condF h ht30
        refine JS.skip ?_
        refine JS.seq ?_
        refine JS.seq ?_
        refine JS.region ?_
        refine JO.reg ttOk 2 [] [] [(19, .v (.bool (decide (y7 = 10))))] _ rfl ⟨⟨rfl, trivial⟩, rfl⟩ ?_
        refine JO.done rfl ?_
        refine JS.cond rfl (fun ht29 => ?_) (fun ht29 => ?_)
        · have h := condT h ht29
          refine JS.seq ?_
          refine JS.region ?_
          refine JO.reg ttOk 1 [] [] [(20, .ep ⟨a2, 1, 1⟩ 0)] _ rfl ⟨⟨rfl, trivial⟩, rfl⟩ ?_
          obtain ⟨⟨y19, y20⟩, hy21, h⟩ := bindO_some h
          refine JO.callX rfl rfl rfl rfl (ok_s_l01Below (x0.1, y8.2.1, y8.2.2) 300 a2 a3 c4 x0.1.length rfl _ hy21) rfl [0] rfl [0] rfl rfl ?_
          intro _ _
          refine JO.reg ttOk 2 [(W (160 + y19))] [] [(2, .v (.int .i64 (W (160 + y19))))] _ rfl ⟨⟨trivial, rfl⟩, ⟨rfl, trivial⟩, rfl⟩ ?_
          refine JO.done rfl ?_
          cases h
          exact JS.retX ttOk () trivial rfl rfl [0] rfl
        · have h := condF h ht29
          refine JS.skip ?_
          refine JS.seq ?_
          refine JS.region ?_
          refine JO.reg ttOk 1 [] [] [(23, .ep ⟨a2, 1, 1⟩ 0)] _ rfl ⟨⟨rfl, trivial⟩, rfl⟩ ?_
          obtain ⟨⟨y22, y23⟩, hy24, h⟩ := bindO_some h
          refine JO.callX rfl rfl rfl rfl (ok_s_l01Below (x0.1, y8.2.1, y8.2.2) 2000 a2 a3 c4 x0.1.length rfl _ hy24) rfl [0] rfl [0] rfl rfl ?_
          intro _ _
          refine JO.reg ttOk 2 [(W (19968 + y22))] [] [(2, .v (.int .i64 (W (19968 + y22))))] _ rfl ⟨⟨trivial, rfl⟩, ⟨rfl, trivial⟩, rfl⟩ ?_
          refine JO.done rfl ?_
          cases h
          exact JS.retX ttOk () trivial rfl rfl [0] rfl

def M_s_l02Runes_L1 (x0 : List UInt8 × Int × Int) (j38 : (List Int × Int × Int) → Option (List Int × List UInt8 × Int × Int)) (k30 : (List Int × Int × Int × Int) → Option (List Int × List UInt8 × Int × Int)) : (List Int × Int × Int × Int) → Option (List Int × List UInt8 × Int × Int) := fun (x12, x15, x19, x20) =>
  (bif (decide (0 < x15)) then
  (bindO (M_s_l02Rune (x0.1, x19, x20)) fun (y21, y22) =>
  (guardO (x12.length + ([y21] : List Int).length ≤ 536870912) <|
  k30 ((x12 ++ ([y21] : List Int)), (W (x15 - 1)), y22.2.1, y22.2.2)))
  else
  j38 (x12, x19, x20))

def M_s_l02Runes (x0 : List UInt8 × Int × Int) (x1 : Int) : Option (List Int × List UInt8 × Int × Int) :=
  (bindO (M_s_l01Below (x0.1, x0.2.1, x0.2.2) (W (x1 + 1))) fun (y9, y10) =>
  (joinO (fun ((x33, x36, x37) : List Int × Int × Int) =>
  some (x33, (x0.1, x36, x37))) fun j38 =>
  (fixF (M_s_l02Runes_L1 x0 j38) FUEL (([] : List Int), y9, y10.2.1, y10.2.2))))

theorem ok_s_l02Runes (x0 : List UInt8 × Int × Int) (x1 : Int) (a3 : Option Addr) (a4 : Option Addr) (c5 : Nat) (l6 : Nat) (hl7 : x0.1.length = l6) (r : List Int × List UInt8 × Int × Int) (h : M_s_l02Runes x0 x1 = some r) :
    FX Try.prog 95 [.pointer a3, .int .i64 x1] [⟨.byte, ⟨a4, l6, c5⟩, x0.1⟩] [⟨(.pair .val (.pair (.int .i64) (.int .i64))), ⟨a3, 1, 1⟩, [((Sl.v ⟨a4, l6, c5⟩), x0.2.1, x0.2.2)]⟩] (fun _ : Option Addr × Nat => True) (fun q => .slice q.1 r.1.length q.2) (fun q => [⟨(.pair .val (.pair (.int .i64) (.int .i64))), ⟨a3, 1, 1⟩, [((Sl.v ⟨a4, l6, c5⟩), r.2.2.1, r.2.2.2)]⟩, ⟨(.int .i64), ⟨q.1, r.1.length, q.2⟩, r.1⟩]) :=
  by
    subst hl7
    refine FX.of (T := TTx) Try.call95 Try.func95 rfl rfl fun w0 L0 => ?_
    unfold M_s_l02Runes at h
    refine JS.ptr 0 a3 rfl ?_
    refine JS.seq ?_
    refine JS.region ?_
    refine JO.reg ttOk 1 [] [] [] _ rfl ⟨trivial, rfl⟩ ?_
    refine JO.done rfl ?_
    refine JS.seq ?_
    refine JS.region ?_
    refine JO.ofK rfl (JK.buildSlice ttOk rfl rfl rfl rfl rfl rfl rfl rfl rfl rfl rfl [] rfl (.int .i64) [] ⟨rfl, rfl⟩ rfl rfl fun a8 => JO.toK ?_)
    refine JO.reg ttOk 1 [] [] [(5, .v (.slice a8 ([] : List Int).length ([] : List Int).length))] _ rfl ⟨⟨rfl, trivial⟩, rfl⟩ ?_
    refine JO.done rfl ?_
    refine JS.seq ?_
    refine JS.seq ?_
    refine JS.region ?_
    refine JO.reg ttOk 3 [(W (x1 + 1))] [] [(8, .ep ⟨a3, 1, 1⟩ 0), (10, .v (.int .i64 (W (x1 + 1))))] _ rfl ⟨⟨trivial, rfl⟩, ⟨rfl, rfl, trivial⟩, rfl⟩ ?_
    obtain ⟨⟨y9, y10⟩, hy11, h⟩ := bindO_some h
    refine JO.callX rfl rfl rfl rfl (ok_s_l01Below (x0.1, x0.2.1, x0.2.2) (W (x1 + 1)) a3 a4 c5 x0.1.length rfl _ hy11) rfl [1] rfl [0] rfl rfl ?_
    intro _ _
    refine JO.reg ttOk 1 [] [] [(6, .v (.int .i64 y9))] _ rfl ⟨⟨rfl, trivial⟩, rfl⟩ ?_
    refine JO.done rfl ?_
    obtain ⟨j38, hj42, h⟩ := joinO_some h
    refine JS.blockJ (ι := List Int × Int × Int × Option Addr × Nat) ⟨fun z => j38 (z.1, z.2.1, z.2.2.1) = some r, fun z => [(5, .v (.slice z.2.2.2.1 z.1.length z.2.2.2.2))], fun z => .nil, fun z => [⟨.byte, ⟨a4, x0.1.length, c5⟩, x0.1⟩], fun z => [⟨(.int .i64), ⟨z.2.2.2.1, z.1.length, z.2.2.2.2⟩, z.1⟩, ⟨(.pair .val (.pair (.int .i64) (.int .i64))), ⟨a3, 1, 1⟩, [((Sl.v ⟨a4, x0.1.length, c5⟩), z.2.1, z.2.2.1)]⟩], fun z => 0⟩ ?_ ?_
    · refine JS.loop (ι := Nat × List Int × Int × Int × Int × Option Addr × Nat) ⟨fun z => fixF (M_s_l02Runes_L1 x0 j38) z.1 (z.2.1, z.2.2.1, z.2.2.2.1, z.2.2.2.2.1) = some r, fun z => [(0, .ep ⟨a3, 1, 1⟩ 0), (5, .v (.slice z.2.2.2.2.2.1 z.2.1.length z.2.2.2.2.2.2)), (6, .v (.int .i64 z.2.2.1))], fun z => .nil, fun z => [⟨.byte, ⟨a4, x0.1.length, c5⟩, x0.1⟩], fun z => [⟨(.int .i64), ⟨z.2.2.2.2.2.1, z.2.1.length, z.2.2.2.2.2.2⟩, z.2.1⟩, ⟨(.pair .val (.pair (.int .i64) (.int .i64))), ⟨a3, 1, 1⟩, [((Sl.v ⟨a4, x0.1.length, c5⟩), z.2.2.2.1, z.2.2.2.2.1)]⟩], fun z => z.1⟩ (FUEL, ([] : List Int), y9, y10.2.1, y10.2.2, a8, ([] : List Int).length) h ⟨rfl, rfl, rfl, trivial⟩ trivial [0] rfl [1, 0] rfl ?_
      rintro ⟨n31, x12, x15, x19, x20, a13, c14⟩ h
      obtain ⟨n31, rfl, h⟩ := fixF_some h
      rw [M_s_l02Runes_L1] at h
      refine JS.seq ?_
      refine JS.seq ?_
      refine JS.region ?_
      refine JO.reg ttOk 2 [] [] [(13, .v (.bool (decide (0 < x15))))] _ rfl ⟨⟨rfl, trivial⟩, rfl⟩ ?_
      refine JO.done rfl ?_
      refine JS.cond rfl (fun ht41 => ?_) (fun ht41 => ?_)
      · have h := condT h ht41
        refine JS.skip ?_
        refine JS.seq ?_
        refine JS.block ?_
        refine JS.region ?_
        refine JO.reg ttOk 2 [] [] [(16, .v (.slice a13 x12.length c14)), (17, .ep ⟨a3, 1, 1⟩ 0)] _ rfl ⟨⟨rfl, rfl, trivial⟩, rfl⟩ ?_
        obtain ⟨⟨y21, y22⟩, hy23, h⟩ := bindO_some h
        refine JO.callX rfl rfl rfl rfl (ok_s_l02Rune (x0.1, x19, x20) a3 a4 c5 x0.1.length rfl _ hy23) rfl [1] rfl [0] rfl rfl ?_
        intro _ _
        refine JO.ofK rfl (JK.buildSlice ttOk rfl rfl rfl rfl rfl rfl rfl rfl rfl rfl rfl [] rfl (.int .i64) [y21] ⟨rfl, rfl⟩ rfl rfl fun a24 => JO.toK ?_)
        obtain ⟨g25, h⟩ := guardO_some h
        refine JO.appendR' ttOk rfl rfl rfl rfl ⟨rfl, rfl, rfl, rfl, trivial, rfl, rfl, rfl, rfl⟩ rfl rfl rfl [2] rfl 1 rfl g25 rfl ?_
        intro a26 c27
        refine JO.reg ttOk 1 [] [] [(5, .v (.slice a26 (x12 ++ ([y21] : List Int)).length c27))] _ rfl ⟨⟨rfl, trivial⟩, rfl⟩ ?_
        refine JO.done rfl ?_
        refine JS.endB ?_
        refine JS.region ?_
        refine JO.reg ttOk 3 [(W (x15 - 1))] [] [(6, .v (.int .i64 (W (x15 - 1))))] _ rfl ⟨⟨trivial, rfl⟩, ⟨rfl, trivial⟩, rfl⟩ ?_
        refine JO.done rfl ?_
        exact JS.endL (n31, (x12 ++ ([y21] : List Int)), (W (x15 - 1)), y22.2.1, y22.2.2, a26, c27) h (Nat.lt_succ_self _) ⟨rfl, rfl, rfl, trivial⟩ trivial [0] rfl [0, 1] rfl
      · have h := condF h ht41
        refine JS.exit rfl ?_
        exact JS.endJ (x12, x19, x20, a13, c14) h ⟨rfl, trivial⟩ trivial [0] rfl [0, 0] rfl
    · rintro ⟨x33, x36, x37, a34, c35⟩ h
      subst hj42
      refine JS.seq ?_
      refine JS.region ?_
      refine JO.reg ttOk 2 [] [] [(4, .v (.slice a34 x33.length c35))] _ rfl ⟨⟨rfl, trivial⟩, rfl⟩ ?_
      refine JO.done rfl ?_
      cases h
      exact JS.retX ttOk (a34, c35) trivial rfl rfl [1, 0] rfl

def M_s_l13Runes_L1 (x0 : List UInt8 × Int × Int) (y8 : List Int) (j106 : (List Int × Int × Int) → Option (List Int × List UInt8 × Int × Int)) (k89 : (List Int × Int × Int × Int) → Option (List Int × List UInt8 × Int × Int)) : (List Int × Int × Int × Int) → Option (List Int × List UInt8 × Int × Int) := fun (x13, x16, x20, x21) =>
  (bif (decide (x16 < (y8.length : Int))) then
  (joinO (fun ((x51, x54, x55) : List Int × Int × Int) =>
  k89 (x51, (W (x16 + 1)), x54, x55)) fun j56 =>
  (bindO (M_s_l01Below (x0.1, x20, x21) 14) fun (y22, y23) =>
  (joinO (fun (x28 : List Int) =>
  (joinO (fun (x37 : List Int) =>
  (bif (decide (y22 = 2)) then
  (bindO (M_s_l01Below (x0.1, y23.2.1, y23.2.2) 26) fun (y43, y44) =>
  (guardO (0 ≤ x16 ∧ x16 < (x37.length : Int)) <|
  j56 ((List.set x37 (Int.toNat x16) (W (65 + y43))), y44.2.1, y44.2.2)))
  else
  j56 (x37, y23.2.1, y23.2.2))) fun j40 =>
  (bif (decide (y22 = 1)) then
  (guardO (0 ≤ x16 ∧ x16 < (x28.length : Int)) <|
  j40 (List.set x28 (Int.toNat x16) 10))
  else
  j40 x28))) fun j31 =>
  (bif (decide (y22 = 0)) then
  (guardO (0 ≤ x16 ∧ x16 < (x13.length : Int)) <|
  j31 (List.set x13 (Int.toNat x16) 9))
  else
  j31 x13))))
  else
  j106 (x13, x20, x21))

def M_s_l13Runes (x0 : List UInt8 × Int × Int) (x1 : Int) : Option (List Int × List UInt8 × Int × Int) :=
  (bindO (M_s_l02Runes (x0.1, x0.2.1, x0.2.2) x1) fun (y8, y9) =>
  (joinO (fun ((x101, x104, x105) : List Int × Int × Int) =>
  some (x101, (x0.1, x104, x105))) fun j106 =>
  (fixF (M_s_l13Runes_L1 x0 y8 j106) FUEL (y8, 0, y9.2.1, y9.2.2))))

theorem ok_s_l13Runes (x0 : List UInt8 × Int × Int) (x1 : Int) (a3 : Option Addr) (a4 : Option Addr) (c5 : Nat) (l6 : Nat) (hl7 : x0.1.length = l6) (r : List Int × List UInt8 × Int × Int) (h : M_s_l13Runes x0 x1 = some r) :
    FX Try.prog 42 [.pointer a3, .int .i64 x1] [⟨.byte, ⟨a4, l6, c5⟩, x0.1⟩] [⟨(.pair .val (.pair (.int .i64) (.int .i64))), ⟨a3, 1, 1⟩, [((Sl.v ⟨a4, l6, c5⟩), x0.2.1, x0.2.2)]⟩] (fun _ : Option Addr × Nat => True) (fun q => .slice q.1 r.1.length q.2) (fun q => [⟨(.pair .val (.pair (.int .i64) (.int .i64))), ⟨a3, 1, 1⟩, [((Sl.v ⟨a4, l6, c5⟩), r.2.2.1, r.2.2.2)]⟩, ⟨(.int .i64), ⟨q.1, r.1.length, q.2⟩, r.1⟩]) :=
  by
    subst hl7
    refine FX.of (T := TTx) Try.call42 Try.func42 rfl rfl fun w0 L0 => ?_
    unfold M_s_l13Runes at h
    refine JS.ptr 0 a3 rfl ?_
    refine JS.seq ?_
    refine JS.region ?_
    refine JO.reg ttOk 1 [] [] [] _ rfl ⟨trivial, rfl⟩ ?_
    refine JO.done rfl ?_
    refine JS.seq ?_
    refine JS.region ?_
    refine JO.reg ttOk 2 [] [] [(8, .ep ⟨a3, 1, 1⟩ 0), (9, .v (.int .i64 x1))] _ rfl ⟨⟨rfl, rfl, trivial⟩, rfl⟩ ?_
    obtain ⟨⟨y8, y9⟩, hy10, h⟩ := bindO_some h
    refine JO.callX rfl rfl rfl rfl (ok_s_l02Runes (x0.1, x0.2.1, x0.2.2) x1 a3 a4 c5 x0.1.length rfl _ hy10) rfl [0] rfl [0] rfl rfl ?_
    rintro ⟨a11, c12⟩ -
    refine JO.reg ttOk 1 [] [] [(5, .v (.slice a11 y8.length c12))] _ rfl ⟨⟨rfl, trivial⟩, rfl⟩ ?_
    refine JO.done rfl ?_
    refine JS.seq ?_
    refine JS.seq ?_
    refine JS.region ?_
    refine JO.reg ttOk 3 [] [] [(12, .v (.int .i64 (y8.length : Int))), (13, .v (.int .i64 0))] _ rfl ⟨⟨rfl, rfl, trivial⟩, rfl⟩ ?_
    refine JO.done rfl ?_
    obtain ⟨j106, hj128, h⟩ := joinO_some h
    refine JS.blockJ (ι := List Int × Int × Int × Option Addr × Nat) ⟨fun z => j106 (z.1, z.2.1, z.2.2.1) = some r, fun z => [(5, .v (.slice z.2.2.2.1 z.1.length z.2.2.2.2))], fun z => .nil, fun z => [⟨.byte, ⟨a4, x0.1.length, c5⟩, x0.1⟩], fun z => [⟨(.int .i64), ⟨z.2.2.2.1, z.1.length, z.2.2.2.2⟩, z.1⟩, ⟨(.pair .val (.pair (.int .i64) (.int .i64))), ⟨a3, 1, 1⟩, [((Sl.v ⟨a4, x0.1.length, c5⟩), z.2.1, z.2.2.1)]⟩], fun z => 0⟩ ?_ ?_
    · refine JS.loop (ι := Nat × List Int × Int × Int × Int × Option Addr × Nat) ⟨fun z => fixF (M_s_l13Runes_L1 x0 y8 j106) z.1 (z.2.1, z.2.2.1, z.2.2.2.1, z.2.2.2.2.1) = some r, fun z => [(0, .ep ⟨a3, 1, 1⟩ 0), (5, .v (.slice z.2.2.2.2.2.1 z.2.1.length z.2.2.2.2.2.2)), (12, .v (.int .i64 (y8.length : Int))), (13, .v (.int .i64 z.2.2.1))], fun z => .nil, fun z => [⟨.byte, ⟨a4, x0.1.length, c5⟩, x0.1⟩], fun z => [⟨(.int .i64), ⟨z.2.2.2.2.2.1, z.2.1.length, z.2.2.2.2.2.2⟩, z.2.1⟩, ⟨(.pair .val (.pair (.int .i64) (.int .i64))), ⟨a3, 1, 1⟩, [((Sl.v ⟨a4, x0.1.length, c5⟩), z.2.2.2.1, z.2.2.2.2.1)]⟩], fun z => z.1⟩ (FUEL, y8, 0, y9.2.1, y9.2.2, a11, c12) h ⟨rfl, rfl, rfl, rfl, trivial⟩ trivial [0] rfl [1, 0] rfl ?_
      rintro ⟨n90, x13, x16, x20, x21, a14, c15⟩ h
      obtain ⟨n90, rfl, h⟩ := fixF_some h
      rw [M_s_l13Runes_L1] at h
      refine JS.seq ?_
      refine JS.region ?_
      refine JO.reg ttOk 1 [] [] [(14, .v (.bool (decide (x16 < (y8.length : Int)))))] _ rfl ⟨⟨rfl, trivial⟩, rfl⟩ ?_
      refine JO.done rfl ?_
      refine JS.seq ?_
      refine JS.cond rfl (fun ht127 => ?_) (fun ht127 => ?_)
      · have h := condT h ht127
        refine JS.skip ?_
        refine JS.seq ?_
        obtain ⟨j56, hj126, h⟩ := joinO_some h
        refine JS.blockJ (ι := List Int × Int × Int × Option Addr × Nat) ⟨fun z => j56 (z.1, z.2.1, z.2.2.1) = some r, fun z => [(0, .ep ⟨a3, 1, 1⟩ 0), (5, .v (.slice z.2.2.2.1 z.1.length z.2.2.2.2)), (12, .v (.int .i64 (y8.length : Int))), (13, .v (.int .i64 x16))], fun z => .nil, fun z => [⟨.byte, ⟨a4, x0.1.length, c5⟩, x0.1⟩], fun z => [⟨(.int .i64), ⟨z.2.2.2.1, z.1.length, z.2.2.2.2⟩, z.1⟩, ⟨(.pair .val (.pair (.int .i64) (.int .i64))), ⟨a3, 1, 1⟩, [((Sl.v ⟨a4, x0.1.length, c5⟩), z.2.1, z.2.2.1)]⟩], fun z => 0⟩ ?_ ?_
        · refine JS.seq ?_
          refine JS.region ?_
          refine JO.reg ttOk 2 [] [] [(6, .v (.int .i64 x16))] _ rfl ⟨⟨rfl, trivial⟩, rfl⟩ ?_
          refine JO.done rfl ?_
          refine JS.seq ?_
          refine JS.region ?_
          refine JO.reg ttOk 1 [] [] [(16, .ep ⟨a3, 1, 1⟩ 0)] _ rfl ⟨⟨rfl, trivial⟩, rfl⟩ ?_
          obtain ⟨⟨y22, y23⟩, hy24, h⟩ := bindO_some h
          refine JO.callX rfl rfl rfl rfl (ok_s_l01Below (x0.1, x20, x21) 14 a3 a4 c5 x0.1.length rfl _ hy24) rfl [1] rfl [0] rfl rfl ?_
          intro _ _
          refine JO.reg ttOk 1 [] [] [(7, .v (.int .i64 y22))] _ rfl ⟨⟨rfl, trivial⟩, rfl⟩ ?_
          refine JO.done rfl ?_
          obtain ⟨j31, hj125, h⟩ := joinO_some h
          refine JS.seqJ (ι := List Int × Option Addr × Nat) ⟨fun z => j31 z.1 = some r, fun z => [(0, .ep ⟨a3, 1, 1⟩ 0), (5, .v (.slice z.2.1 z.1.length z.2.2)), (6, .v (.int .i64 x16)), (7, .v (.int .i64 y22)), (12, .v (.int .i64 (y8.length : Int))), (13, .v (.int .i64 x16))], fun z => .nil, fun z => [⟨.byte, ⟨a4, x0.1.length, c5⟩, x0.1⟩], fun z => [⟨(.int .i64), ⟨z.2.1, z.1.length, z.2.2⟩, z.1⟩, ⟨(.pair .val (.pair (.int .i64) (.int .i64))), ⟨a3, 1, 1⟩, [((Sl.v ⟨a4, x0.1.length, c5⟩), y23.2.1, y23.2.2)]⟩], fun z => 0⟩ ?_ ?_
          · refine JS.seq ?_
            refine JS.region ?_
            refine JO.reg ttOk 2 [] [] [(19, .v (.bool (decide (y22 = 0))))] _ rfl ⟨⟨rfl, trivial⟩, rfl⟩ ?_
            refine JO.done rfl ?_
            refine JS.cond rfl (fun ht119 => ?_) (fun ht119 => ?_)
            · have h := condT h ht119
              refine JS.region ?_
              refine JO.know 2 rfl fun hs118 => ?_
              obtain ⟨g26, h⟩ := guardO_some h
              refine JO.reg ttOk 3 [] [] [(22, .ep ⟨a14, x13.length, c15⟩ (Int.toNat x16 * 1))] _ rfl ⟨hs118.ix g26, ⟨rfl, trivial⟩, rfl⟩ ?_
              refine JO.storeE ttOk rfl rfl rfl rfl rfl rfl rfl rfl rfl [1] (fs := []) rfl (Int.toNat x16) 0 (at' x13 x16) 9 ⟨at_some g26, rfl⟩ ⟨rfl, rfl, rfl⟩ ?_
              refine JO.done rfl ?_
              exact JS.endJ ((List.set x13 (Int.toNat x16) 9), a14, c15) h ⟨rfl, (by simp only [List.length_set, List.length_replicate, pickO, getF]; rfl), rfl, rfl, rfl, rfl, trivial⟩ trivial [0] rfl [0, 0] (by simp only [List.length_set, List.length_replicate, pickO, getF]; rfl)
            · have h := condF h ht119
              refine JS.skip ?_
              exact JS.endJ (x13, a14, c15) h ⟨rfl, rfl, rfl, rfl, rfl, rfl, trivial⟩ trivial [0] rfl [1, 0] rfl
          · rintro ⟨x28, a29, c30⟩ h
            subst hj125
            obtain ⟨j40, hj124, h⟩ := joinO_some h
            refine JS.seqJ (ι := List Int × Option Addr × Nat) ⟨fun z => j40 z.1 = some r, fun z => [(0, .ep ⟨a3, 1, 1⟩ 0), (5, .v (.slice z.2.1 z.1.length z.2.2)), (6, .v (.int .i64 x16)), (7, .v (.int .i64 y22)), (12, .v (.int .i64 (y8.length : Int))), (13, .v (.int .i64 x16))], fun z => .nil, fun z => [⟨.byte, ⟨a4, x0.1.length, c5⟩, x0.1⟩], fun z => [⟨(.int .i64), ⟨z.2.1, z.1.length, z.2.2⟩, z.1⟩, ⟨(.pair .val (.pair (.int .i64) (.int .i64))), ⟨a3, 1, 1⟩, [((Sl.v ⟨a4, x0.1.length, c5⟩), y23.2.1, y23.2.2)]⟩], fun z => 0⟩ ?_ ?_
            · refine JS.seq ?_
              refine JS.region ?_
              refine JO.reg ttOk 2 [] [] [(24, .v (.bool (decide (y22 = 1))))] _ rfl ⟨⟨rfl, trivial⟩, rfl⟩ ?_
              refine JO.done rfl ?_
              refine JS.cond rfl (fun ht121 => ?_) (fun ht121 => ?_)
              · have h := condT h ht121
                refine JS.region ?_
                refine JO.know 1 rfl fun hs120 => ?_
                obtain ⟨g35, h⟩ := guardO_some h
                refine JO.reg ttOk 3 [] [] [(27, .ep ⟨a29, x28.length, c30⟩ (Int.toNat x16 * 1))] _ rfl ⟨hs120.ix g35, ⟨rfl, trivial⟩, rfl⟩ ?_
                refine JO.storeE ttOk rfl rfl rfl rfl rfl rfl rfl rfl rfl [0] (fs := []) rfl (Int.toNat x16) 0 (at' x28 x16) 10 ⟨at_some g35, rfl⟩ ⟨rfl, rfl, rfl⟩ ?_
                refine JO.done rfl ?_
                exact JS.endJ ((List.set x28 (Int.toNat x16) 10), a29, c30) h ⟨rfl, (by simp only [List.length_set, List.length_replicate, pickO, getF]; rfl), rfl, rfl, rfl, rfl, trivial⟩ trivial [0] rfl [0, 0] (by simp only [List.length_set, List.length_replicate, pickO, getF]; rfl)
              · have h := condF h ht121
                refine JS.skip ?_
                exact JS.endJ (x28, a29, c30) h ⟨rfl, rfl, rfl, rfl, rfl, rfl, trivial⟩ trivial [0] rfl [0, 0] rfl
            · rintro ⟨x37, a38, c39⟩ h
              subst hj124
              refine JS.seq ?_
              refine JS.region ?_
              refine JO.reg ttOk 2 [] [] [(29, .v (.bool (decide (y22 = 2))))] _ rfl ⟨⟨rfl, trivial⟩, rfl⟩ ?_
              refine JO.done rfl ?_
              refine JS.cond rfl (fun ht123 => ?_) (fun ht123 => ?_)
              · have h := condT h ht123
                refine JS.region ?_
                refine JO.reg ttOk 3 [] [] [(30, .v (.slice a38 x37.length c39)), (31, .v (.int .i64 x16)), (32, .ep ⟨a3, 1, 1⟩ 0)] _ rfl ⟨⟨rfl, rfl, rfl, trivial⟩, rfl⟩ ?_
                obtain ⟨⟨y43, y44⟩, hy45, h⟩ := bindO_some h
                refine JO.callX rfl rfl rfl rfl (ok_s_l01Below (x0.1, y23.2.1, y23.2.2) 26 a3 a4 c5 x0.1.length rfl _ hy45) rfl [1] rfl [0] rfl rfl ?_
                intro _ _
                refine JO.know 2 rfl fun hs122 => ?_
                obtain ⟨g47, h⟩ := guardO_some h
                refine JO.reg ttOk 2 [(W (65 + y43))] [] [(34, .v (.int .i64 (W (65 + y43)))), (35, .ep ⟨a38, x37.length, c39⟩ (Int.toNat x16 * 1))] _ rfl ⟨⟨trivial, rfl⟩, hs122.ix g47, ⟨rfl, rfl, trivial⟩, rfl⟩ ?_
                refine JO.storeE ttOk rfl rfl rfl rfl rfl rfl rfl rfl rfl [1] (fs := []) rfl (Int.toNat x16) 0 (at' x37 x16) (W (65 + y43)) ⟨at_some g47, rfl⟩ ⟨rfl, rfl, rfl⟩ ?_
                refine JO.done rfl ?_
                refine JS.endB ?_
                exact JS.endJ ((List.set x37 (Int.toNat x16) (W (65 + y43))), y44.2.1, y44.2.2, a38, c39) h ⟨rfl, (by simp only [List.length_set, List.length_replicate, pickO, getF]; rfl), rfl, rfl, trivial⟩ trivial [0] rfl [0, 0] (by simp only [List.length_set, List.length_replicate, pickO, getF]; rfl)
              · have h := condF h ht123
                refine JS.skip ?_
                refine JS.endB ?_
                exact JS.endJ (x37, y23.2.1, y23.2.2, a38, c39) h ⟨rfl, rfl, rfl, rfl, trivial⟩ trivial [0] rfl [0, 0] rfl
        · rintro ⟨x51, x54, x55, a52, c53⟩ h
          subst hj126
          refine JS.region ?_
          refine JO.reg ttOk 2 [(W (x16 + 1))] [] [(13, .v (.int .i64 (W (x16 + 1))))] _ rfl ⟨⟨trivial, rfl⟩, ⟨rfl, trivial⟩, rfl⟩ ?_
          refine JO.done rfl ?_
          exact JS.endL (n90, x51, (W (x16 + 1)), x54, x55, a52, c53) h (Nat.lt_succ_self _) ⟨rfl, rfl, rfl, rfl, trivial⟩ trivial [0] rfl [0, 0] rfl
      · have h := condF h ht127
        refine JS.exit rfl ?_
        exact JS.endJ (x13, x20, x21, a14, c15) h ⟨rfl, trivial⟩ trivial [0] rfl [0, 0] rfl
    · rintro ⟨x101, x104, x105, a102, c103⟩ h
      subst hj128
      refine JS.seq ?_
      refine JS.region ?_
      refine JO.reg ttOk 2 [] [] [(4, .v (.slice a102 x101.length c103))] _ rfl ⟨⟨rfl, trivial⟩, rfl⟩ ?_
      refine JO.done rfl ?_
      cases h
      exact JS.retX ttOk (a102, c103) trivial rfl rfl [1, 0] rfl

def M_s_l13Draw (x0 : List UInt8 × Int × Int) : Option ((List Int × Int) × List UInt8 × Int × Int) :=
  (bindO (M_s_l13Runes (x0.1, x0.2.1, x0.2.2) 16) fun (y7, y8) =>
  (bindO (M_s_l01Below (x0.1, y8.2.1, y8.2.2) (W ((y7.length : Int) + 1))) fun (y12, y13) =>
  some ((y7, y12), (x0.1, y13.2.1, y13.2.2))))

theorem ok_s_l13Draw (x0 : List UInt8 × Int × Int) (a2 : Option Addr) (a3 : Option Addr) (c4 : Nat) (l5 : Nat) (hl6 : x0.1.length = l5) (r : (List Int × Int) × List UInt8 × Int × Int) (h : M_s_l13Draw x0 = some r) :
    FX Try.prog 40 [.pointer a2] [⟨.byte, ⟨a3, l5, c4⟩, x0.1⟩] [⟨(.pair .val (.pair (.int .i64) (.int .i64))), ⟨a2, 1, 1⟩, [((Sl.v ⟨a3, l5, c4⟩), x0.2.1, x0.2.2)]⟩] (fun _ : Option Addr × Nat => True) (fun q => .agg #[.slice q.1 r.1.1.length q.2, .int .i64 r.1.2]) (fun q => [⟨(.pair .val (.pair (.int .i64) (.int .i64))), ⟨a2, 1, 1⟩, [((Sl.v ⟨a3, l5, c4⟩), r.2.2.1, r.2.2.2)]⟩, ⟨(.int .i64), ⟨q.1, r.1.1.length, q.2⟩, r.1.1⟩]) :=
  by
    subst hl6
    refine FX.of (T := TTx) Try.call40 Try.func40 rfl rfl fun w0 L0 => ?_
    unfold M_s_l13Draw at h
    refine JS.ptr 0 a2 rfl ?_
    refine JS.seq ?_
    refine JS.region ?_
    refine JO.regB ttOk 1 [] [3] [(2, .bp 3 0)] (.new 3 25 [.slice none 0 0, .int .i64 0] .nil) rfl ⟨⟨rfl, trivial⟩, ⟨rfl, rfl, rfl, rfl, trivial⟩⟩ ?_
    refine JO.done rfl ?_
    refine JS.seq ?_
    refine JS.region ?_
    refine JO.reg ttOk 1 [] [] [(4, .ep ⟨a2, 1, 1⟩ 0)] _ rfl ⟨⟨rfl, trivial⟩, rfl⟩ ?_
    obtain ⟨⟨y7, y8⟩, hy9, h⟩ := bindO_some h
    refine JO.callX rfl rfl rfl rfl (ok_s_l13Runes (x0.1, x0.2.1, x0.2.2) 16 a2 a3 c4 x0.1.length rfl _ hy9) rfl [0] rfl [0] rfl rfl ?_
    rintro ⟨a10, c11⟩ -
    refine JO.reg ttOk 1 [] [] [(3, .v (.slice a10 y7.length c11))] _ rfl ⟨⟨rfl, trivial⟩, rfl⟩ ?_
    refine JO.done rfl ?_
    refine JS.seq ?_
    refine JS.region ?_
    refine JO.reg ttOk 5 [(W ((y7.length : Int) + 1))] [] [(6, .v (.slice a10 y7.length c11)), (7, .ep ⟨a2, 1, 1⟩ 0), (10, .v (.int .i64 (W ((y7.length : Int) + 1))))] _ rfl ⟨⟨trivial, rfl⟩, ⟨rfl, rfl, rfl, trivial⟩, rfl⟩ ?_
    obtain ⟨⟨y12, y13⟩, hy14, h⟩ := bindO_some h
    refine JO.callX rfl rfl rfl rfl (ok_s_l01Below (x0.1, y8.2.1, y8.2.2) (W ((y7.length : Int) + 1)) a2 a3 c4 x0.1.length rfl _ hy14) rfl [0] rfl [0] rfl rfl ?_
    intro _ _
    refine JO.regB ttOk 2 [] [] [] (.new 3 25 [.slice a10 y7.length c11, .int .i64 y12] .nil) rfl ⟨trivial, ⟨rfl, rfl, rfl, rfl, trivial⟩⟩ ?_
    refine JO.done rfl ?_
    cases h
    exact JS.retX ttOk (a10, c11) trivial rfl rfl [0, 0] rfl

def M_s_MakeLine (x0 : List UInt8) : Option ((List Int × Int) × List Int × Int × Int) :=
  (bindO (M_s_l01New x0) fun (y6 : List UInt8 × Int × Int) =>
  (bindO (M_s_l13Draw (x0, y6.2.1, y6.2.2)) fun (y9, y10) =>
  (bindO (M_s_l01Below (x0, y10.2.1, y10.2.2) (W ((y9.1.length : Int) + 1))) fun (y14, y15) =>
  (bindO (M_s_l01Below (x0, y15.2.1, y15.2.2) (W ((W ((y9.1.length : Int) - y14)) + 1))) fun (y17, y18) =>
  (bindO (M_s_l13Runes (x0, y18.2.1, y18.2.2) 5) fun (y20, y21) =>
  some (y9, y20, y14, (W (y14 + y17))))))))

theorem ok_s_MakeLine (x0 : List UInt8) (a2 : Option Addr) (c3 : Nat) (l4 : Nat) (hl5 : x0.length = l4) (r : (List Int × Int) × List Int × Int × Int) (h : M_s_MakeLine x0 = some r) :
    FC Try.prog 11 [.slice a2 l4 c3] [⟨.byte, ⟨a2, l4, c3⟩, x0⟩] (fun _ : Option Addr × Nat × Option Addr × Nat => True) (fun q => .tuple #[.agg #[.slice q.1 r.1.1.length q.2.1, .int .i64 r.1.2], .slice q.2.2.1 r.2.1.length q.2.2.2, .int .i64 r.2.2.1, .int .i64 r.2.2.2]) (fun q => [⟨(.int .i64), ⟨q.1, r.1.1.length, q.2.1⟩, r.1.1⟩, ⟨(.int .i64), ⟨q.2.2.1, r.2.1.length, q.2.2.2⟩, r.2.1⟩]) :=
  by
    subst hl5
    refine FC.of (T := TTx) Try.call11 Try.func11 rfl rfl fun w0 => ?_
    unfold M_s_MakeLine at h
    refine JS.seq ?_
    refine JS.region ?_
    refine JO.regB ttOk 4 [] [2] [(2, .bp 2 0)] (.new 2 25 [.slice none 0 0, .int .i64 0] .nil) rfl ⟨⟨rfl, trivial⟩, ⟨rfl, rfl, rfl, rfl, trivial⟩⟩ ?_
    refine JO.done rfl ?_
    refine JS.seq ?_
    refine JS.region ?_
    refine JO.reg ttOk 1 [] [] [(10, .v (.slice a2 x0.length c3))] _ rfl ⟨⟨rfl, trivial⟩, rfl⟩ ?_
    obtain ⟨y6, hy7, h⟩ := bindO_some h
    refine JO.call rfl rfl rfl rfl (ok_s_l01New x0 a2 c3 x0.length rfl _ hy7) rfl [0] rfl rfl ?_
    intro a8 _
    refine JO.ptr 11 a8 rfl ?_
    refine JO.reg ttOk 1 [] [] [(6, .ep ⟨a8, 1, 1⟩ 0)] _ rfl ⟨⟨rfl, trivial⟩, rfl⟩ ?_
    refine JO.done rfl ?_
    refine JS.seq ?_
    refine JS.region ?_
    refine JO.reg ttOk 1 [] [] [(12, .ep ⟨a8, 1, 1⟩ 0)] _ rfl ⟨⟨rfl, trivial⟩, rfl⟩ ?_
    obtain ⟨⟨y9, y10⟩, hy11, h⟩ := bindO_some h
    refine JO.callX rfl rfl rfl rfl (ok_s_l13Draw (x0, y6.2.1, y6.2.2) a8 a2 c3 x0.length rfl _ hy11) rfl [0] rfl [0] rfl rfl ?_
    rintro ⟨a12, c13⟩ -
    refine JO.regB ttOk 2 [] [13] [(7, .bp 13 0)] (.new 2 25 [.slice none 0 0, .int .i64 0] (.new 13 25 [.slice a12 y9.1.length c13, .int .i64 y9.2] .nil)) rfl ⟨⟨rfl, trivial⟩, ⟨rfl, rfl, rfl, rfl, rfl, rfl, rfl, rfl, trivial⟩⟩ ?_
    refine JO.done rfl ?_
    refine JS.seq ?_
    refine JS.region ?_
    refine JO.reg ttOk 5 [(W ((y9.1.length : Int) + 1))] [] [(14, .ep ⟨a8, 1, 1⟩ 0), (18, .v (.int .i64 (W ((y9.1.length : Int) + 1))))] _ rfl ⟨⟨trivial, rfl⟩, ⟨rfl, rfl, trivial⟩, rfl⟩ ?_
    obtain ⟨⟨y14, y15⟩, hy16, h⟩ := bindO_some h
    refine JO.callX rfl rfl rfl rfl (ok_s_l01Below (x0, y10.2.1, y10.2.2) (W ((y9.1.length : Int) + 1)) a8 a2 c3 x0.length rfl _ hy16) rfl [0] rfl [0] rfl rfl ?_
    intro _ _
    refine JO.reg ttOk 1 [] [] [(8, .v (.int .i64 y14))] _ rfl ⟨⟨rfl, trivial⟩, rfl⟩ ?_
    refine JO.done rfl ?_
    refine JS.seq ?_
    refine JS.region ?_
    refine JO.reg ttOk 8 [(W ((y9.1.length : Int) - y14)), (W ((W ((y9.1.length : Int) - y14)) + 1))] [] [(20, .v (.int .i64 y14)), (21, .ep ⟨a8, 1, 1⟩ 0), (27, .v (.int .i64 (W ((W ((y9.1.length : Int) - y14)) + 1))))] _ rfl ⟨⟨trivial, rfl⟩, ⟨trivial, rfl⟩, ⟨rfl, rfl, rfl, trivial⟩, rfl⟩ ?_
    obtain ⟨⟨y17, y18⟩, hy19, h⟩ := bindO_some h
    refine JO.callX rfl rfl rfl rfl (ok_s_l01Below (x0, y15.2.1, y15.2.2) (W ((W ((y9.1.length : Int) - y14)) + 1)) a8 a2 c3 x0.length rfl _ hy19) rfl [0] rfl [0] rfl rfl ?_
    intro _ _
    refine JO.reg ttOk 2 [(W (y14 + y17))] [] [(9, .v (.int .i64 (W (y14 + y17))))] _ rfl ⟨⟨trivial, rfl⟩, ⟨rfl, trivial⟩, rfl⟩ ?_
    refine JO.done rfl ?_
    refine JS.seq ?_
    obtain ⟨⟨y20, y21⟩, hy22, h⟩ := bindO_some h
    refine JS.regionA rfl (.new 13 25 [.slice a12 y9.1.length c13, .int .i64 y9.2] .nil) [] [5, 6, 7, 8] ⟨rfl, rfl, rfl, rfl, trivial⟩ rfl (fun be25 => ?_)
    refine JA.reg ttOk panic_cx true 8 [0] rfl (by kernel_rfl) [] [(30, .v (.agg #[.slice a12 y9.1.length c13, .int .i64 y9.2]))] ⟨rfl, rfl, rfl, rfl, trivial⟩ [] rfl rfl ⟨rfl, trivial⟩ ?_
    refine JA.regL ttOk panic_cx 5 [1, 3, 4] rfl (by kernel_rfl) [] [(30, .v (.agg #[.slice a12 y9.1.length c13, .int .i64 y9.2])), (31, .ep ⟨a8, 1, 1⟩ 0), (33, .v (.int .i64 y14)), (34, .v (.int .i64 (W (y14 + y17))))] rfl ⟨rfl, rfl, rfl, rfl, trivial⟩ ?_
    refine JA.one 2 (by kernel_rfl) ?_
    refine JK.callX rfl rfl rfl rfl (ok_s_l13Runes (x0, y18.2.1, y18.2.2) 5 a8 a2 c3 x0.length rfl _ hy22) rfl [0] rfl [0] rfl rfl ?_
    rintro ⟨a23, c24⟩ -
    refine JA.next ⟨rfl, rfl, rfl, rfl, trivial⟩ [] rfl ?_
    refine JA.one 5 (by kernel_rfl) ?_
    refine JK.stBox ttOk rfl rfl rfl rfl rfl rfl rfl rfl ?_
    refine JK.boxes (B' := (.new 2 25 [.slice a12 y9.1.length c13, .int .i64 y9.2] (.new 13 25 [.slice a12 y9.1.length c13, .int .i64 y9.2] .nil))) ⟨rfl, rfl, rfl, rfl, rfl, rfl, rfl, rfl, trivial⟩ ?_
    refine JA.nextL rfl ?_
    refine JA.regL ttOk panic_cx 0 [6, 7, 8] rfl (by kernel_rfl) [] [(3, .v (.slice a23 y20.length c24)), (4, .v (.int .i64 y14)), (5, .v (.int .i64 (W (y14 + y17)))), (30, .v (.agg #[.slice a12 y9.1.length c13, .int .i64 y9.2])), (31, .ep ⟨a8, 1, 1⟩ 0), (32, .v (.slice a23 y20.length c24)), (33, .v (.int .i64 y14)), (34, .v (.int .i64 (W (y14 + y17))))] rfl ⟨rfl, rfl, rfl, rfl, rfl, rfl, rfl, rfl, trivial⟩ ?_
    refine JA.done (by kernel_rfl) ?_
    refine JS.boxes (B' := (.new 2 25 [.slice a12 y9.1.length c13, .int .i64 y9.2] .nil)) ⟨rfl, rfl, rfl, rfl, trivial⟩ ?_
    cases h
    exact JS.ret ttOk (a12, c13, a23, c24) trivial rfl rfl [2, 1] rfl

def M_i_within (x0 : Int) (x1 : Int) : Option Int :=
  some (max (0 : Int) (min x0 x1))

theorem ok_i_within (x0 : Int) (x1 : Int) (r : Int) (h : M_i_within x0 x1 = some r) :
    FC Try.prog 43 [.int .i64 x0, .int .i64 x1] [] (fun _ : Unit => True) (fun _ => .int .i64 r) (fun _ => []) :=
  by
    refine FC.of (T := TTx) Try.call43 Try.func43 rfl rfl fun w0 => ?_
    unfold M_i_within at h
    refine JS.seq ?_
    refine JS.region ?_
    refine JO.reg ttOk 1 [] [] [] _ rfl ⟨trivial, rfl⟩ ?_
    refine JO.done rfl ?_
    refine JS.seq ?_
    refine JS.region ?_
    refine JO.reg ttOk 5 [] [] [(4, .v (.int .i64 (max (0 : Int) (min x0 x1))))] _ rfl ⟨⟨rfl, trivial⟩, rfl⟩ ?_
    refine JO.done rfl ?_
    cases h
    exact JS.ret ttOk () trivial rfl rfl [] rfl

def M_i_FindRune_L1 (x0 : List Int) (x2 : Int) (j21 : Unit → Option Int) (k16 : Int → Option Int) : Int → Option Int := fun x11 =>
  (bif (decide (x11 < (x0.length : Int))) then
  (guardO (0 ≤ x11 ∧ x11 < (x0.length : Int)) <|
  (bif (decide ((at' x0 x11) = x2)) then
  some x11
  else
  k16 (W (x11 + 1))))
  else
  j21 ())

def M_i_FindRune_L2 (x0 : List Int) (x2 : Int) (j36 : Unit → Option Int) (k31 : Int → Option Int) : Int → Option Int := fun x26 =>
  (bif (decide (0 ≤ x26)) then
  (guardO (0 ≤ x26 ∧ x26 < (x0.length : Int)) <|
  (bif (decide ((at' x0 x26) = x2)) then
  some x26
  else
  k31 (W (x26 - 1))))
  else
  j36 ())

def M_i_FindRune_L3 (x0 : List Int) (x2 : Int) (j51 : Unit → Option Int) (k46 : Int → Option Int) : Int → Option Int := fun x41 =>
  (bif (decide ((W (x41 + 1)) < (x0.length : Int))) then
  (guardO (0 ≤ (W (x41 + 1)) ∧ (W (x41 + 1)) < (x0.length : Int)) <|
  (bif (decide ((at' x0 (W (x41 + 1))) = x2)) then
  some x41
  else
  k46 (W (x41 + 1))))
  else
  j51 ())

def M_i_FindRune_L4 (x0 : List Int) (x2 : Int) (j66 : Unit → Option Int) (k61 : Int → Option Int) : Int → Option Int := fun x56 =>
  (bif (decide (1 ≤ x56)) then
  (guardO (0 ≤ (W (x56 - 1)) ∧ (W (x56 - 1)) < (x0.length : Int)) <|
  (bif (decide ((at' x0 (W (x56 - 1))) = x2)) then
  some x56
  else
  k61 (W (x56 - 1))))
  else
  j66 ())

def M_i_FindRune (x0 : List Int) (x1 : Int) (x2 : Int) (x3 : Int) : Option Int :=
  (bindO (M_i_within x1 (x0.length : Int)) fun (y9 : Int) =>
  (joinO (fun (_ : Unit) =>
  some (-1)) fun j75 =>
  (bif (decide (x3 = 0)) then
  (joinO (fun (_ : Unit) =>
  j75 ()) fun j21 =>
  (fixF (M_i_FindRune_L1 x0 x2 j21) FUEL (W (y9 + 1))))
  else
  (bif (decide (x3 = 1)) then
  (joinO (fun (_ : Unit) =>
  j75 ()) fun j36 =>
  (fixF (M_i_FindRune_L2 x0 x2 j36) FUEL (W (y9 - 1))))
  else
  (bif (decide (x3 = 2)) then
  (joinO (fun (_ : Unit) =>
  j75 ()) fun j51 =>
  (fixF (M_i_FindRune_L3 x0 x2 j51) FUEL (W (y9 + 1))))
  else
  (bif (decide (x3 = 3)) then
  (joinO (fun (_ : Unit) =>
  j75 ()) fun j66 =>
  (fixF (M_i_FindRune_L4 x0 x2 j66) FUEL (W (y9 - 1))))
  else
  j75 ()))))))

theorem ok_i_FindRune (x0 : List Int) (x1 : Int) (x2 : Int) (x3 : Int) (a5 : Option Addr) (c6 : Nat) (l7 : Nat) (hl8 : x0.length = l7) (r : Int) (h : M_i_FindRune x0 x1 x2 x3 = some r) :
    FC Try.prog 12 [.slice a5 l7 c6, .int .i64 x1, .int .i64 x2, .int .i64 x3] [⟨(.int .i64), ⟨a5, l7, c6⟩, x0⟩] (fun _ : Unit => True) (fun _ => .int .i64 r) (fun _ => []) :=
  by
    subst hl8
    refine FC.of (T := TTx) Try.call12 Try.func12 rfl rfl fun w0 => ?_
    unfold M_i_FindRune at h
    refine JS.seq ?_
    refine JS.region ?_
    refine JO.reg ttOk 1 [] [] [] _ rfl ⟨trivial, rfl⟩ ?_
    refine JO.done rfl ?_
    refine JS.seq ?_
    refine JS.region ?_
    refine JO.reg ttOk 3 [] [] [(9, .v (.int .i64 (x0.length : Int)))] _ rfl ⟨⟨rfl, trivial⟩, rfl⟩ ?_
    refine JO.done rfl ?_
    refine JS.seq ?_
    refine JS.region ?_
    refine JO.reg ttOk 2 [] [] [(16, .v (.int .i64 x1)), (17, .v (.int .i64 (x0.length : Int)))] _ rfl ⟨⟨rfl, rfl, trivial⟩, rfl⟩ ?_
    obtain ⟨y9, hy10, h⟩ := bindO_some h
    refine JO.call rfl rfl rfl rfl (ok_i_within x1 (x0.length : Int) _ hy10) rfl [] rfl rfl ?_
    intro _ _
    refine JO.reg ttOk 1 [] [] [(1, .v (.int .i64 y9))] _ rfl ⟨⟨rfl, trivial⟩, rfl⟩ ?_
    refine JO.done rfl ?_
    refine JS.seq ?_
    refine JS.seq ?_
    refine JS.region ?_
    refine JO.reg ttOk 1 [] [] [(19, .v (.int .i64 x3))] _ rfl ⟨⟨rfl, trivial⟩, rfl⟩ ?_
    refine JO.done rfl ?_
    obtain ⟨j75, hj117, h⟩ := joinO_some h
    refine JS.blockJ (ι := Unit) ⟨fun _ => j75 () = some r, fun _ => [], fun _ => .nil, fun _ => [], fun _ => [], fun _ => 0⟩ ?_ ?_
    · refine JS.seq ?_
      refine JS.region ?_
      refine JO.reg ttOk 2 [] [] [(20, .v (.bool (decide (x3 = 0))))] _ rfl ⟨⟨rfl, trivial⟩, rfl⟩ ?_
      refine JO.done rfl ?_
      refine JS.cond rfl (fun ht116 => ?_) (fun ht116 => ?_)
      · have h := condT h ht116
        refine JS.seq ?_
        refine JS.region ?_
        refine JO.reg ttOk 3 [(W (y9 + 1))] [] [(10, .v (.int .i64 (W (y9 + 1))))] _ rfl ⟨⟨trivial, rfl⟩, ⟨rfl, trivial⟩, rfl⟩ ?_
        refine JO.done rfl ?_
        obtain ⟨j21, hj100, h⟩ := joinO_some h
        refine JS.blockJ (ι := Unit) ⟨fun _ => j21 () = some r, fun _ => [], fun _ => .nil, fun _ => [], fun _ => [], fun _ => 0⟩ ?_ ?_
        · refine JS.loop (ι := Nat × Int) ⟨fun z => fixF (M_i_FindRune_L1 x0 x2 j21) z.1 z.2 = some r, fun z => [(0, .v (.slice a5 x0.length c6)), (2, .v (.int .i64 x2)), (9, .v (.int .i64 (x0.length : Int))), (10, .v (.int .i64 z.2))], fun z => .nil, fun z => [⟨(.int .i64), ⟨a5, x0.length, c6⟩, x0⟩], fun z => [], fun z => z.1⟩ (FUEL, (W (y9 + 1))) h ⟨rfl, rfl, rfl, rfl, trivial⟩ trivial [0] rfl [] rfl ?_
          rintro ⟨n17, x11⟩ h
          obtain ⟨n17, rfl, h⟩ := fixF_some h
          rw [M_i_FindRune_L1] at h
          refine JS.seq ?_
          refine JS.seq ?_
          refine JS.region ?_
          refine JO.reg ttOk 3 [] [] [(26, .v (.bool (decide (x11 < (x0.length : Int)))))] _ rfl ⟨⟨rfl, trivial⟩, rfl⟩ ?_
          refine JO.done rfl ?_
          refine JS.cond rfl (fun ht99 => ?_) (fun ht99 => ?_)
          · have h := condT h ht99
            refine JS.skip ?_
            refine JS.seq ?_
            refine JS.block ?_
            refine JS.seq ?_
            refine JS.region ?_
            refine JO.know 0 rfl fun hs97 => ?_
            obtain ⟨g13, h⟩ := guardO_some h
            refine JO.reg ttOk 3 [] [] [(31, .ep ⟨a5, x0.length, c6⟩ (Int.toNat x11 * 1))] _ rfl ⟨hs97.ix g13, ⟨rfl, trivial⟩, rfl⟩ ?_
            refine JO.load ttOk rfl rfl rfl rfl rfl rfl rfl 0 rfl rfl (Int.toNat x11) 0 (at' x0 x11) ⟨at_some g13, rfl⟩ rfl rfl ?_
            refine JO.reg ttOk 2 [] [] [(34, .v (.bool (decide ((at' x0 x11) = x2))))] _ rfl ⟨⟨rfl, trivial⟩, rfl⟩ ?_
            refine JO.done rfl ?_
            refine JS.cond rfl (fun ht98 => ?_) (fun ht98 => ?_)
            · have h := condT h ht98
              refine JS.seq ?_
              refine JS.region ?_
              refine JO.reg ttOk 2 [] [] [(8, .v (.int .i64 x11))] _ rfl ⟨⟨rfl, trivial⟩, rfl⟩ ?_
              refine JO.done rfl ?_
              cases h
              exact JS.ret ttOk () trivial rfl rfl [] rfl
            · have h := condF h ht98
              refine JS.skip ?_
              refine JS.endB ?_
              refine JS.region ?_
              refine JO.reg ttOk 3 [(W (x11 + 1))] [] [(10, .v (.int .i64 (W (x11 + 1))))] _ rfl ⟨⟨trivial, rfl⟩, ⟨rfl, trivial⟩, rfl⟩ ?_
              refine JO.done rfl ?_
              exact JS.endL (n17, (W (x11 + 1))) h (Nat.lt_succ_self _) ⟨rfl, rfl, rfl, rfl, trivial⟩ trivial [0] rfl [] rfl
          · have h := condF h ht99
            refine JS.exit rfl ?_
            exact JS.endJ () h trivial trivial [] rfl [] rfl
        · rintro _ h
          subst hj100
          refine JS.endB ?_
          exact JS.endJ () h trivial trivial [] rfl [] rfl
      · have h := condF h ht116
        refine JS.seq ?_
        refine JS.region ?_
        refine JO.reg ttOk 2 [] [] [(36, .v (.bool (decide (x3 = 1))))] _ rfl ⟨⟨rfl, trivial⟩, rfl⟩ ?_
        refine JO.done rfl ?_
        refine JS.cond rfl (fun ht115 => ?_) (fun ht115 => ?_)
        · have h := condT h ht115
          refine JS.seq ?_
          refine JS.region ?_
          refine JO.reg ttOk 3 [(W (y9 - 1))] [] [(11, .v (.int .i64 (W (y9 - 1))))] _ rfl ⟨⟨trivial, rfl⟩, ⟨rfl, trivial⟩, rfl⟩ ?_
          refine JO.done rfl ?_
          obtain ⟨j36, hj104, h⟩ := joinO_some h
          refine JS.blockJ (ι := Unit) ⟨fun _ => j36 () = some r, fun _ => [], fun _ => .nil, fun _ => [], fun _ => [], fun _ => 0⟩ ?_ ?_
          · refine JS.loop (ι := Nat × Int) ⟨fun z => fixF (M_i_FindRune_L2 x0 x2 j36) z.1 z.2 = some r, fun z => [(0, .v (.slice a5 x0.length c6)), (2, .v (.int .i64 x2)), (11, .v (.int .i64 z.2))], fun z => .nil, fun z => [⟨(.int .i64), ⟨a5, x0.length, c6⟩, x0⟩], fun z => [], fun z => z.1⟩ (FUEL, (W (y9 - 1))) h ⟨rfl, rfl, rfl, trivial⟩ trivial [0] rfl [] rfl ?_
            rintro ⟨n32, x26⟩ h
            obtain ⟨n32, rfl, h⟩ := fixF_some h
            rw [M_i_FindRune_L2] at h
            refine JS.seq ?_
            refine JS.seq ?_
            refine JS.region ?_
            refine JO.reg ttOk 2 [] [] [(41, .v (.bool (decide (0 ≤ x26))))] _ rfl ⟨⟨rfl, trivial⟩, rfl⟩ ?_
            refine JO.done rfl ?_
            refine JS.cond rfl (fun ht103 => ?_) (fun ht103 => ?_)
            · have h := condT h ht103
              refine JS.skip ?_
              refine JS.seq ?_
              refine JS.block ?_
              refine JS.seq ?_
              refine JS.region ?_
              refine JO.know 0 rfl fun hs101 => ?_
              obtain ⟨g28, h⟩ := guardO_some h
              refine JO.reg ttOk 3 [] [] [(46, .ep ⟨a5, x0.length, c6⟩ (Int.toNat x26 * 1))] _ rfl ⟨hs101.ix g28, ⟨rfl, trivial⟩, rfl⟩ ?_
              refine JO.load ttOk rfl rfl rfl rfl rfl rfl rfl 0 rfl rfl (Int.toNat x26) 0 (at' x0 x26) ⟨at_some g28, rfl⟩ rfl rfl ?_
              refine JO.reg ttOk 2 [] [] [(49, .v (.bool (decide ((at' x0 x26) = x2))))] _ rfl ⟨⟨rfl, trivial⟩, rfl⟩ ?_
              refine JO.done rfl ?_
              refine JS.cond rfl (fun ht102 => ?_) (fun ht102 => ?_)
              · have h := condT h ht102
                refine JS.seq ?_
                refine JS.region ?_
                refine JO.reg ttOk 2 [] [] [(8, .v (.int .i64 x26))] _ rfl ⟨⟨rfl, trivial⟩, rfl⟩ ?_
                refine JO.done rfl ?_
                cases h
                exact JS.ret ttOk () trivial rfl rfl [] rfl
              · have h := condF h ht102
                refine JS.skip ?_
                refine JS.endB ?_
                refine JS.region ?_
                refine JO.reg ttOk 3 [(W (x26 - 1))] [] [(11, .v (.int .i64 (W (x26 - 1))))] _ rfl ⟨⟨trivial, rfl⟩, ⟨rfl, trivial⟩, rfl⟩ ?_
                refine JO.done rfl ?_
                exact JS.endL (n32, (W (x26 - 1))) h (Nat.lt_succ_self _) ⟨rfl, rfl, rfl, trivial⟩ trivial [0] rfl [] rfl
            · have h := condF h ht103
              refine JS.exit rfl ?_
              exact JS.endJ () h trivial trivial [] rfl [] rfl
          · rintro _ h
            subst hj104
            refine JS.endB ?_
            exact JS.endJ () h trivial trivial [] rfl [] rfl
        · have h := condF h ht115
          refine JS.seq ?_
          refine JS.region ?_
          refine JO.reg ttOk 2 [] [] [(51, .v (.bool (decide (x3 = 2))))] _ rfl ⟨⟨rfl, trivial⟩, rfl⟩ ?_
          refine JO.done rfl ?_
          refine JS.cond rfl (fun ht114 => ?_) (fun ht114 => ?_)
          · have h := condT h ht114
            refine JS.seq ?_
            refine JS.region ?_
            refine JO.reg ttOk 3 [(W (y9 + 1))] [] [(12, .v (.int .i64 (W (y9 + 1))))] _ rfl ⟨⟨trivial, rfl⟩, ⟨rfl, trivial⟩, rfl⟩ ?_
            refine JO.done rfl ?_
            obtain ⟨j51, hj108, h⟩ := joinO_some h
            refine JS.blockJ (ι := Unit) ⟨fun _ => j51 () = some r, fun _ => [], fun _ => .nil, fun _ => [], fun _ => [], fun _ => 0⟩ ?_ ?_
            · refine JS.loop (ι := Nat × Int) ⟨fun z => fixF (M_i_FindRune_L3 x0 x2 j51) z.1 z.2 = some r, fun z => [(0, .v (.slice a5 x0.length c6)), (2, .v (.int .i64 x2)), (9, .v (.int .i64 (x0.length : Int))), (12, .v (.int .i64 z.2))], fun z => .nil, fun z => [⟨(.int .i64), ⟨a5, x0.length, c6⟩, x0⟩], fun z => [], fun z => z.1⟩ (FUEL, (W (y9 + 1))) h ⟨rfl, rfl, rfl, rfl, trivial⟩ trivial [0] rfl [] rfl ?_
              rintro ⟨n47, x41⟩ h
              obtain ⟨n47, rfl, h⟩ := fixF_some h
              rw [M_i_FindRune_L3] at h
              refine JS.seq ?_
              refine JS.seq ?_
              refine JS.region ?_
              refine JO.reg ttOk 4 [(W (x41 + 1))] [] [(58, .v (.bool (decide ((W (x41 + 1)) < (x0.length : Int)))))] _ rfl ⟨⟨trivial, rfl⟩, ⟨rfl, trivial⟩, rfl⟩ ?_
              refine JO.done rfl ?_
              refine JS.cond rfl (fun ht107 => ?_) (fun ht107 => ?_)
              · have h := condT h ht107
                refine JS.skip ?_
                refine JS.seq ?_
                refine JS.block ?_
                refine JS.seq ?_
                refine JS.region ?_
                refine JO.know 0 rfl fun hs105 => ?_
                obtain ⟨g43, h⟩ := guardO_some h
                refine JO.reg ttOk 4 [(W (x41 + 1))] [] [(64, .ep ⟨a5, x0.length, c6⟩ (Int.toNat (W (x41 + 1)) * 1))] _ rfl ⟨⟨trivial, rfl⟩, hs105.ix g43, ⟨rfl, trivial⟩, rfl⟩ ?_
                refine JO.load ttOk rfl rfl rfl rfl rfl rfl rfl 0 rfl rfl (Int.toNat (W (x41 + 1))) 0 (at' x0 (W (x41 + 1))) ⟨at_some g43, rfl⟩ rfl rfl ?_
                refine JO.reg ttOk 2 [] [] [(67, .v (.bool (decide ((at' x0 (W (x41 + 1))) = x2))))] _ rfl ⟨⟨rfl, trivial⟩, rfl⟩ ?_
                refine JO.done rfl ?_
                refine JS.cond rfl (fun ht106 => ?_) (fun ht106 => ?_)
                · have h := condT h ht106
                  refine JS.seq ?_
                  refine JS.region ?_
                  refine JO.reg ttOk 2 [] [] [(8, .v (.int .i64 x41))] _ rfl ⟨⟨rfl, trivial⟩, rfl⟩ ?_
                  refine JO.done rfl ?_
                  cases h
                  exact JS.ret ttOk () trivial rfl rfl [] rfl
                · have h := condF h ht106
                  refine JS.skip ?_
                  refine JS.endB ?_
                  refine JS.region ?_
                  refine JO.reg ttOk 3 [(W (x41 + 1))] [] [(12, .v (.int .i64 (W (x41 + 1))))] _ rfl ⟨⟨trivial, rfl⟩, ⟨rfl, trivial⟩, rfl⟩ ?_
                  refine JO.done rfl ?_
                  exact JS.endL (n47, (W (x41 + 1))) h (Nat.lt_succ_self _) ⟨rfl, rfl, rfl, rfl, trivial⟩ trivial [0] rfl [] rfl
              · have h := condF h ht107
                refine JS.exit rfl ?_
                exact JS.endJ () h trivial trivial [] rfl [] rfl
            · rintro _ h
              subst hj108
              refine JS.endB ?_
              exact JS.endJ () h trivial trivial [] rfl [] rfl
          · have h := condF h ht114
            refine JS.seq ?_
            refine JS.region ?_
            refine JO.reg ttOk 2 [] [] [(69, .v (.bool (decide (x3 = 3))))] _ rfl ⟨⟨rfl, trivial⟩, rfl⟩ ?_
            refine JO.done rfl ?_
            refine JS.cond rfl (fun ht113 => ?_) (fun ht113 => ?_)
            · have h := condT h ht113
              refine JS.seq ?_
              refine JS.region ?_
              refine JO.reg ttOk 3 [(W (y9 - 1))] [] [(13, .v (.int .i64 (W (y9 - 1))))] _ rfl ⟨⟨trivial, rfl⟩, ⟨rfl, trivial⟩, rfl⟩ ?_
              refine JO.done rfl ?_
              obtain ⟨j66, hj112, h⟩ := joinO_some h
              refine JS.blockJ (ι := Unit) ⟨fun _ => j66 () = some r, fun _ => [], fun _ => .nil, fun _ => [], fun _ => [], fun _ => 0⟩ ?_ ?_
              · refine JS.loop (ι := Nat × Int) ⟨fun z => fixF (M_i_FindRune_L4 x0 x2 j66) z.1 z.2 = some r, fun z => [(0, .v (.slice a5 x0.length c6)), (2, .v (.int .i64 x2)), (13, .v (.int .i64 z.2))], fun z => .nil, fun z => [⟨(.int .i64), ⟨a5, x0.length, c6⟩, x0⟩], fun z => [], fun z => z.1⟩ (FUEL, (W (y9 - 1))) h ⟨rfl, rfl, rfl, trivial⟩ trivial [0] rfl [] rfl ?_
                rintro ⟨n62, x56⟩ h
                obtain ⟨n62, rfl, h⟩ := fixF_some h
                rw [M_i_FindRune_L4] at h
                refine JS.seq ?_
                refine JS.seq ?_
                refine JS.region ?_
                refine JO.reg ttOk 2 [] [] [(74, .v (.bool (decide (1 ≤ x56))))] _ rfl ⟨⟨rfl, trivial⟩, rfl⟩ ?_
                refine JO.done rfl ?_
                refine JS.cond rfl (fun ht111 => ?_) (fun ht111 => ?_)
                · have h := condT h ht111
                  refine JS.skip ?_
                  refine JS.seq ?_
                  refine JS.block ?_
                  refine JS.seq ?_
                  refine JS.region ?_
                  refine JO.know 0 rfl fun hs109 => ?_
                  obtain ⟨g58, h⟩ := guardO_some h
                  refine JO.reg ttOk 4 [(W (x56 - 1))] [] [(80, .ep ⟨a5, x0.length, c6⟩ (Int.toNat (W (x56 - 1)) * 1))] _ rfl ⟨⟨trivial, rfl⟩, hs109.ix g58, ⟨rfl, trivial⟩, rfl⟩ ?_
                  refine JO.load ttOk rfl rfl rfl rfl rfl rfl rfl 0 rfl rfl (Int.toNat (W (x56 - 1))) 0 (at' x0 (W (x56 - 1))) ⟨at_some g58, rfl⟩ rfl rfl ?_
                  refine JO.reg ttOk 2 [] [] [(83, .v (.bool (decide ((at' x0 (W (x56 - 1))) = x2))))] _ rfl ⟨⟨rfl, trivial⟩, rfl⟩ ?_
                  refine JO.done rfl ?_
                  refine JS.cond rfl (fun ht110 => ?_) (fun ht110 => ?_)
                  · have h := condT h ht110
                    refine JS.seq ?_
                    refine JS.region ?_
                    refine JO.reg ttOk 2 [] [] [(8, .v (.int .i64 x56))] _ rfl ⟨⟨rfl, trivial⟩, rfl⟩ ?_
                    refine JO.done rfl ?_
                    cases h
                    exact JS.ret ttOk () trivial rfl rfl [] rfl
                  · have h := condF h ht110
                    refine JS.skip ?_
                    refine JS.endB ?_
                    refine JS.region ?_
                    refine JO.reg ttOk 3 [(W (x56 - 1))] [] [(13, .v (.int .i64 (W (x56 - 1))))] _ rfl ⟨⟨trivial, rfl⟩, ⟨rfl, trivial⟩, rfl⟩ ?_
                    refine JO.done rfl ?_
                    exact JS.endL (n62, (W (x56 - 1))) h (Nat.lt_succ_self _) ⟨rfl, rfl, rfl, trivial⟩ trivial [0] rfl [] rfl
                · have h := condF h ht111
                  refine JS.exit rfl ?_
                  exact JS.endJ () h trivial trivial [] rfl [] rfl
              · rintro _ h
                subst hj112
                refine JS.endB ?_
                exact JS.endJ () h trivial trivial [] rfl [] rfl
            · have h := condF h ht113
              refine JS.skip ?_
              refine JS.endB ?_
              exact JS.endJ () h trivial trivial [] rfl [] rfl
    · rintro _ h
      subst hj117
      refine JS.seq ?_
      refine JS.region ?_
      refine JO.reg ttOk 1 [] [] [(8, .v (.int .i64 (-1)))] _ rfl ⟨⟨rfl, trivial⟩, rfl⟩ ?_
      refine JO.done rfl ?_
      cases h
      exact JS.ret ttOk () trivial rfl rfl [] rfl

def M_i_HowOf (x0 : Int) : Option Int :=
  (bif (decide (x0 = 102)) then
  some 0
  else
  (bif (decide (x0 = 70)) then
  some 1
  else
  (bif (decide (x0 = 116)) then
  some 2
  else
  (bif (decide (x0 = 84)) then
  some 3
  else
  some (-1)))))

theorem ok_i_HowOf (x0 : Int) (r : Int) (h : M_i_HowOf x0 = some r) :
    FC Try.prog 13 [.int .i64 x0] [] (fun _ : Unit => True) (fun _ => .int .i64 r) (fun _ => []) :=
  by
    refine FC.of (T := TTx) Try.call13 Try.func13 rfl rfl fun w0 => ?_
    unfold M_i_HowOf at h
    refine JS.seq ?_
    refine JS.region ?_
    refine JO.reg ttOk 1 [] [] [] _ rfl ⟨trivial, rfl⟩ ?_
    refine JO.done rfl ?_
    refine JS.seq ?_
    refine JS.seq ?_
    refine JS.region ?_
    refine JO.reg ttOk 1 [] [] [(3, .v (.int .i64 x0))] _ rfl ⟨⟨rfl, trivial⟩, rfl⟩ ?_
    refine JO.done rfl ?_
    refine JS.block ?_
    refine JS.seq ?_
    refine JS.region ?_
    refine JO.reg ttOk 2 [] [] [(4, .v (.bool (decide (x0 = 102))))] _ rfl ⟨⟨rfl, trivial⟩, rfl⟩ ?_
    refine JO.done rfl ?_
    refine JS.cond rfl (fun ht9 => ?_) (fun ht9 => ?_)
    · have h := condT h ht9
      refine JS.seq ?_
      refine JS.region ?_
      refine JO.reg ttOk 1 [] [] [(2, .v (.int .i64 0))] _ rfl ⟨⟨rfl, trivial⟩, rfl⟩ ?_
      refine JO.done rfl ?_
      cases h
      exact JS.ret ttOk () trivial rfl rfl [] rfl
    · have h := condF h ht9
      refine JS.seq ?_
      refine JS.region ?_
      refine JO.reg ttOk 2 [] [] [(6, .v (.bool (decide (x0 = 70))))] _ rfl ⟨⟨rfl, trivial⟩, rfl⟩ ?_
      refine JO.done rfl ?_
      refine JS.cond rfl (fun ht8 => ?_) (fun ht8 => ?_)
      · have h := condT h ht8
        refine JS.seq ?_
        refine JS.region ?_
        refine JO.reg ttOk 1 [] [] [(2, .v (.int .i64 1))] _ rfl ⟨⟨rfl, trivial⟩, rfl⟩ ?_
        refine JO.done rfl ?_
        cases h
        exact JS.ret ttOk () trivial rfl rfl [] rfl
      · have h := condF h ht8
        refine JS.seq ?_
        refine JS.region ?_
        refine JO.reg ttOk 2 [] [] [(8, .v (.bool (decide (x0 = 116))))] _ rfl ⟨⟨rfl, trivial⟩, rfl⟩ ?_
        refine JO.done rfl ?_
        refine JS.cond rfl (fun ht7 => ?_) (fun ht7 => ?_)
        · have h := condT h ht7
          refine JS.seq ?_
          refine JS.region ?_
          refine JO.reg ttOk 1 [] [] [(2, .v (.int .i64 2))] _ rfl ⟨⟨rfl, trivial⟩, rfl⟩ ?_
          refine JO.done rfl ?_
          cases h
          exact JS.ret ttOk () trivial rfl rfl [] rfl
        · have h := condF h ht7
          refine JS.seq ?_
          refine JS.region ?_
          refine JO.reg ttOk 2 [] [] [(10, .v (.bool (decide (x0 = 84))))] _ rfl ⟨⟨rfl, trivial⟩, rfl⟩ ?_
          refine JO.done rfl ?_
          refine JS.cond rfl (fun ht6 => ?_) (fun ht6 => ?_)
          · have h := condT h ht6
            refine JS.seq ?_
            refine JS.region ?_
            refine JO.reg ttOk 1 [] [] [(2, .v (.int .i64 3))] _ rfl ⟨⟨rfl, trivial⟩, rfl⟩ ?_
            refine JO.done rfl ?_
            cases h
            exact JS.ret ttOk () trivial rfl rfl [] rfl
          · have h := condF h ht6
            refine JS.skip ?_
            refine JS.endB ?_
            refine JS.seq ?_
            refine JS.region ?_
            refine JO.reg ttOk 1 [] [] [(2, .v (.int .i64 (-1)))] _ rfl ⟨⟨rfl, trivial⟩, rfl⟩ ?_
            refine JO.done rfl ?_
            cases h
            exact JS.ret ttOk () trivial rfl rfl [] rfl

def M_i_FindTo_L1 (x0 : List Int) (x2 : Int) (x3 : Int) (x4 : Int) (j23 : Int → Option (Int × Bool)) (k18 : (Int × Int) → Option (Int × Bool)) : (Int × Int) → Option (Int × Bool) := fun (x12, x13) =>
  (bif (decide (x13 < (max (1 : Int) (min x4 999)))) then
  (bindO (M_i_FindRune x0 x12 x2 x3) fun (y14 : Int) =>
  (bif (decide (y14 < 0)) then
  some ((-1), false)
  else
  k18 (y14, (W (x13 + 1)))))
  else
  j23 x12)

def M_i_FindTo (x0 : List Int) (x1 : Int) (x2 : Int) (x3 : Int) (x4 : Int) : Option (Int × Bool) :=
  (bindO (M_i_within x1 (x0.length : Int)) fun (y10 : Int) =>
  (joinO (fun (x22 : Int) =>
  some (x22, true)) fun j23 =>
  (fixF (M_i_FindTo_L1 x0 x2 x3 x4 j23) FUEL (y10, 0))))

theorem ok_i_FindTo (x0 : List Int) (x1 : Int) (x2 : Int) (x3 : Int) (x4 : Int) (a6 : Option Addr) (c7 : Nat) (l8 : Nat) (hl9 : x0.length = l8) (r : Int × Bool) (h : M_i_FindTo x0 x1 x2 x3 x4 = some r) :
    FC Try.prog 14 [.slice a6 l8 c7, .int .i64 x1, .int .i64 x2, .int .i64 x3, .int .i64 x4] [⟨(.int .i64), ⟨a6, l8, c7⟩, x0⟩] (fun _ : Unit => True) (fun _ => .tuple #[.int .i64 r.1, .bool r.2]) (fun _ => []) :=
  by
    subst hl9
    refine FC.of (T := TTx) Try.call14 Try.func14 rfl rfl fun w0 => ?_
    unfold M_i_FindTo at h
    refine JS.seq ?_
    refine JS.region ?_
    refine JO.reg ttOk 2 [] [] [] _ rfl ⟨trivial, rfl⟩ ?_
    refine JO.done rfl ?_
    refine JS.seq ?_
    refine JS.region ?_
    refine JO.reg ttOk 3 [] [] [(12, .v (.int .i64 x1)), (14, .v (.int .i64 (x0.length : Int)))] _ rfl ⟨⟨rfl, rfl, trivial⟩, rfl⟩ ?_
    obtain ⟨y10, hy11, h⟩ := bindO_some h
    refine JO.call rfl rfl rfl rfl (ok_i_within x1 (x0.length : Int) _ hy11) rfl [] rfl rfl ?_
    intro _ _
    refine JO.reg ttOk 1 [] [] [(1, .v (.int .i64 y10))] _ rfl ⟨⟨rfl, trivial⟩, rfl⟩ ?_
    refine JO.done rfl ?_
    refine JS.seq ?_
    refine JS.seq ?_
    refine JS.region ?_
    refine JO.reg ttOk 4 [] [] [(18, .v (.int .i64 (max (1 : Int) (min x4 999)))), (19, .v (.int .i64 0))] _ rfl ⟨⟨rfl, rfl, trivial⟩, rfl⟩ ?_
    refine JO.done rfl ?_
    obtain ⟨j23, hj29, h⟩ := joinO_some h
    refine JS.blockJ (ι := Int) ⟨fun z => j23 z = some r, fun z => [(1, .v (.int .i64 z))], fun z => .nil, fun z => [], fun z => [], fun z => 0⟩ ?_ ?_
    · refine JS.loop (ι := Nat × Int × Int) ⟨fun z => fixF (M_i_FindTo_L1 x0 x2 x3 x4 j23) z.1 (z.2.1, z.2.2) = some r, fun z => [(0, .v (.slice a6 x0.length c7)), (1, .v (.int .i64 z.2.1)), (2, .v (.int .i64 x2)), (3, .v (.int .i64 x3)), (18, .v (.int .i64 (max (1 : Int) (min x4 999)))), (19, .v (.int .i64 z.2.2))], fun z => .nil, fun z => [⟨(.int .i64), ⟨a6, x0.length, c7⟩, x0⟩], fun z => [], fun z => z.1⟩ (FUEL, y10, 0) h ⟨rfl, rfl, rfl, rfl, rfl, rfl, trivial⟩ trivial [0] rfl [] rfl ?_
      rintro ⟨n19, x12, x13⟩ h
      obtain ⟨n19, rfl, h⟩ := fixF_some h
      rw [M_i_FindTo_L1] at h
      refine JS.seq ?_
      refine JS.region ?_
      refine JO.reg ttOk 1 [] [] [(20, .v (.bool (decide (x13 < (max (1 : Int) (min x4 999))))))] _ rfl ⟨⟨rfl, trivial⟩, rfl⟩ ?_
      refine JO.done rfl ?_
      refine JS.seq ?_
      refine JS.cond rfl (fun ht28 => ?_) (fun ht28 => ?_)
      · have h := condT h ht28
        refine JS.skip ?_
        refine JS.seq ?_
        refine JS.block ?_
        refine JS.seq ?_
        refine JS.region ?_
        refine JO.reg ttOk 4 [] [] [(21, .v (.slice a6 x0.length c7)), (22, .v (.int .i64 x12)), (23, .v (.int .i64 x2)), (24, .v (.int .i64 x3))] _ rfl ⟨⟨rfl, rfl, rfl, rfl, trivial⟩, rfl⟩ ?_
        obtain ⟨y14, hy15, h⟩ := bindO_some h
        refine JO.call rfl rfl rfl rfl (ok_i_FindRune x0 x12 x2 x3 a6 c7 x0.length rfl _ hy15) rfl [0] rfl rfl ?_
        intro _ _
        refine JO.reg ttOk 1 [] [] [(1, .v (.int .i64 y14))] _ rfl ⟨⟨rfl, trivial⟩, rfl⟩ ?_
        refine JO.done rfl ?_
        refine JS.seq ?_
        refine JS.region ?_
        refine JO.reg ttOk 2 [] [] [(27, .v (.bool (decide (y14 < 0))))] _ rfl ⟨⟨rfl, trivial⟩, rfl⟩ ?_
        refine JO.done rfl ?_
        refine JS.cond rfl (fun ht27 => ?_) (fun ht27 => ?_)
        · have h := condT h ht27
          refine JS.seq ?_
          refine JS.region ?_
          refine JO.reg ttOk 2 [] [] [(10, .v (.int .i64 (-1))), (11, .v (.bool false))] _ rfl ⟨⟨rfl, rfl, trivial⟩, rfl⟩ ?_
          refine JO.done rfl ?_
          cases h
          exact JS.ret ttOk () trivial rfl rfl [] rfl
        · have h := condF h ht27
          refine JS.skip ?_
          refine JS.endB ?_
          refine JS.region ?_
          refine JO.reg ttOk 2 [(W (x13 + 1))] [] [(19, .v (.int .i64 (W (x13 + 1))))] _ rfl ⟨⟨trivial, rfl⟩, ⟨rfl, trivial⟩, rfl⟩ ?_
          refine JO.done rfl ?_
          exact JS.endL (n19, y14, (W (x13 + 1))) h (Nat.lt_succ_self _) ⟨rfl, rfl, rfl, rfl, rfl, rfl, trivial⟩ trivial [0] rfl [] rfl
      · have h := condF h ht28
        refine JS.exit rfl ?_
        exact JS.endJ x12 h ⟨rfl, trivial⟩ trivial [] rfl [] rfl
    · rintro x22 h
      subst hj29
      refine JS.seq ?_
      refine JS.region ?_
      refine JO.reg ttOk 3 [] [] [(10, .v (.int .i64 x22)), (11, .v (.bool true))] _ rfl ⟨⟨rfl, rfl, trivial⟩, rfl⟩ ?_
      refine JO.done rfl ?_
      cases h
      exact JS.ret ttOk () trivial rfl rfl [] rfl

def M_l_FnFind_L1 (y6 : List Int × Int) (y8 : Int) (y9 : Int) (y26 : Int) (y28 : Int) (j46 : Unit → Option Bool) (k41 : Int → Option Bool) : Int → Option Bool := fun x33 =>
  (bif (decide (x33 < (y6.1.length : Int))) then
  (guardO (0 ≤ x33 ∧ x33 < (y6.1.length : Int)) <|
  (bif (bif (decide ((at' y6.1 x33) = (at' y6.1 (Int.tmod y9 (y6.1.length : Int))))) then (bif (bif (decide (y8 < x33)) then (bif (decide (y26 < 0)) then true else (decide (x33 < y26))) else false) then true else (bif (decide (x33 < y8)) then (decide (y28 < x33)) else false)) else false) then
  some false
  else
  k41 (W (x33 + 1))))
  else
  j46 ())

def M_l_FnFind (x0 : List UInt8) : Option Bool :=
  (bif (decide (1048576 < (x0.length : Int))) then
  some true
  else
  (bindO (M_s_MakeLine x0) fun (y6, y7, y8, y9) =>
  (bif (decide ((y6.1.length : Int) = 0)) then
  (bindO (M_i_FindRune y6.1 y8 120 0) fun (y15 : Int) =>
  (callO ((decide (y15 = (-1))) = true) (M_i_HowOf 102) (0 : Int) fun (y17 : Int) =>
  (callO ((bif (decide (y15 = (-1))) then (decide (y17 = 0)) else false) = true) (M_i_HowOf 84) (0 : Int) fun (y20 : Int) =>
  some (bif (bif (decide (y15 = (-1))) then (decide (y17 = 0)) else false) then (decide (y20 = 3)) else false))))
  else
  (guardO ((y6.1.length : Int) ≠ 0) <|
  (guardO (0 ≤ (Int.tmod y9 (y6.1.length : Int)) ∧ (Int.tmod y9 (y6.1.length : Int)) < (y6.1.length : Int)) <|
  (bindO (M_i_FindRune y6.1 y8 (at' y6.1 (Int.tmod y9 (y6.1.length : Int))) 0) fun (y26 : Int) =>
  (bindO (M_i_FindRune y6.1 y8 (at' y6.1 (Int.tmod y9 (y6.1.length : Int))) 1) fun (y28 : Int) =>
  (joinO (fun (_ : Unit) =>
  (guardO (((decide (y26 ≤ y8)) = false) → ((decide (0 ≤ y26)) = true) → 0 ≤ y26 ∧ y26 < (y6.1.length : Int)) <|
  (guardO (((decide (y8 ≤ y28)) = false) → ((decide (0 ≤ y28)) = true) → ((bif (decide (0 ≤ y26)) then (bif (decide (y26 ≤ y8)) then true else (!(decide ((at' y6.1 y26) = (at' y6.1 (Int.tmod y9 (y6.1.length : Int))))))) else false) = false) → 0 ≤ y28 ∧ y28 < (y6.1.length : Int)) <|
  (bif (bif (bif (decide (0 ≤ y26)) then (bif (decide (y26 ≤ y8)) then true else (!(decide ((at' y6.1 y26) = (at' y6.1 (Int.tmod y9 (y6.1.length : Int))))))) else false) then true else (bif (decide (0 ≤ y28)) then (bif (decide (y8 ≤ y28)) then true else (!(decide ((at' y6.1 y28) = (at' y6.1 (Int.tmod y9 (y6.1.length : Int))))))) else false)) then
  some false
  else
  (bindO (M_i_FindRune y6.1 y8 (at' y6.1 (Int.tmod y9 (y6.1.length : Int))) 2) fun (y63 : Int) =>
  (guardO (((decide (y63 ≤ y8)) = false) → ((decide (0 ≤ y63)) = true) → 0 ≤ (W (y63 + 1)) ∧ (W (y63 + 1)) < (y6.1.length : Int)) <|
  (bif (bif (decide (0 ≤ y63)) then (bif (decide (y63 ≤ y8)) then true else (!(decide ((at' y6.1 (W (y63 + 1))) = (at' y6.1 (Int.tmod y9 (y6.1.length : Int))))))) else false) then
  some false
  else
  (bindO (M_i_FindTo y6.1 y8 (at' y6.1 (Int.tmod y9 (y6.1.length : Int))) 0 1) fun (y72, y73) =>
  (guardO (((decide (y8 < (y6.1.length : Int))) = true) → ((bif (decide (0 ≤ y26)) then true else (decide (0 ≤ y28))) = false) → ((bif (y73 == (decide (0 ≤ y26))) then (bif (!y73) then true else (decide (y72 = y26))) else false) = true) → 0 ≤ y8 ∧ y8 < (y6.1.length : Int)) <|
  some (bif (bif (y73 == (decide (0 ≤ y26))) then (bif (!y73) then true else (decide (y72 = y26))) else false) then (bif (bif (decide (0 ≤ y26)) then true else (decide (0 ≤ y28))) then true else (bif (decide (y8 < (y6.1.length : Int))) then (decide ((at' y6.1 y8) = (at' y6.1 (Int.tmod y9 (y6.1.length : Int))))) else false)) else false)))))))))) fun j46 =>
  (fixF (M_l_FnFind_L1 y6 y8 y9 y26 y28 j46) FUEL 0)))))))))

theorem ok_l_FnFind (x0 : List UInt8) (a2 : Option Addr) (c3 : Nat) (l4 : Nat) (hl5 : x0.length = l4) (r : Bool) (h : M_l_FnFind x0 = some r) :
    FC Try.prog 3 [.slice a2 l4 c3] [⟨.byte, ⟨a2, l4, c3⟩, x0⟩] (fun _ : Unit => True) (fun _ => .bool r) (fun _ => []) :=
  by
    subst hl5
    refine FC.of (T := TTx) Try.call3 Try.func3 rfl rfl fun w0 => ?_
    unfold M_l_FnFind at h
    refine JS.seq ?_
    refine JS.region ?_
    refine JO.reg ttOk 1 [] [] [] _ rfl ⟨trivial, rfl⟩ ?_
    refine JO.done rfl ?_
    refine JS.seq ?_
    refine JS.seq ?_
    refine JS.region ?_
    refine JO.reg ttOk 3 [] [] [(17, .v (.bool (decide (1048576 < (x0.length : Int)))))] _ rfl ⟨⟨rfl, trivial⟩, rfl⟩ ?_
    refine JO.done rfl ?_
    refine JS.cond rfl (fun ht120 => ?_) (fun ht120 => ?_)
    · have h := condT h ht120
      refine JS.seq ?_
      refine JS.region ?_
      refine JO.reg ttOk 1 [] [] [(2, .v (.bool true))] _ rfl ⟨⟨rfl, trivial⟩, rfl⟩ ?_
      refine JO.done rfl ?_
      cases h
      exact JS.ret ttOk () trivial rfl rfl [] rfl
    · have h := condF h ht120
      refine JS.skip ?_
      refine JS.seq ?_
      refine JS.region ?_
      refine JO.reg ttOk 1 [] [] [(19, .v (.slice a2 x0.length c3))] _ rfl ⟨⟨rfl, trivial⟩, rfl⟩ ?_
      obtain ⟨⟨y6, y7, y8, y9⟩, hy10, h⟩ := bindO_some h
      refine JO.call rfl rfl rfl rfl (ok_s_MakeLine x0 a2 c3 x0.length rfl _ hy10) rfl [0] rfl rfl ?_
      rintro ⟨a11, c12, a13, c14⟩ -
      refine JO.regB ttOk 10 [] [13] [(3, .bp 13 0), (5, .v (.int .i64 y8)), (6, .v (.int .i64 y9))] (.new 13 25 [.slice a11 y6.1.length c12, .int .i64 y6.2] .nil) rfl ⟨⟨rfl, rfl, rfl, trivial⟩, ⟨rfl, rfl, rfl, rfl, trivial⟩⟩ ?_
      refine JO.done rfl ?_
      refine JS.seq ?_
      refine JS.region ?_
      refine JO.reg ttOk 3 [] [] [(7, .v (.slice a11 y6.1.length c12))] _ rfl ⟨⟨rfl, trivial⟩, rfl⟩ ?_
      refine JO.done rfl ?_
      refine JS.seq ?_
      refine JS.seq ?_
      refine JS.region ?_
      refine JO.reg ttOk 3 [] [] [(29, .v (.bool (decide ((y6.1.length : Int) = 0))))] _ rfl ⟨⟨rfl, trivial⟩, rfl⟩ ?_
      refine JO.done rfl ?_
      refine JS.cond rfl (fun ht119 => ?_) (fun ht119 => ?_)
      · have h := condT h ht119
        refine JS.seq ?_
        refine JS.region ?_
        refine JO.reg ttOk 2 [] [] [(30, .v (.slice a11 y6.1.length c12)), (31, .v (.int .i64 y8))] _ rfl ⟨⟨rfl, rfl, trivial⟩, rfl⟩ ?_
        obtain ⟨y15, hy16, h⟩ := bindO_some h
        refine JO.call rfl rfl rfl rfl (ok_i_FindRune y6.1 y8 120 0 a11 c12 y6.1.length rfl _ hy16) rfl [1] rfl rfl ?_
        intro _ _
        refine JO.reg ttOk 2 [] [] [(34, .v (.bool (decide (y15 = (-1)))))] _ rfl ⟨⟨rfl, trivial⟩, rfl⟩ ?_
        obtain ⟨y17, hy18, -, h⟩ := callO_some h
        refine JO.callg rfl rfl rfl rfl (fun q87 => ok_i_HowOf 102 _ (hy18 q87)) rfl [] rfl rfl ?_
        refine JO.reg ttOk 3 [] [] [(38, .v (.bool (bif (decide (y15 = (-1))) then (decide (y17 = 0)) else false)))] _ rfl ⟨⟨rfl, trivial⟩, rfl⟩ ?_
        obtain ⟨y20, hy21, -, h⟩ := callO_some h
        refine JO.callg rfl rfl rfl rfl (fun q88 => ok_i_HowOf 84 _ (hy21 q88)) rfl [] rfl rfl ?_
        refine JO.reg ttOk 3 [] [] [(2, .v (.bool (bif (bif (decide (y15 = (-1))) then (decide (y17 = 0)) else false) then (decide (y20 = 3)) else false)))] _ rfl ⟨⟨rfl, trivial⟩, rfl⟩ ?_
        refine JO.done rfl ?_
        cases h
        exact JS.ret ttOk () trivial rfl rfl [] rfl
      · have h := condF h ht119
        refine JS.skip ?_
        refine JS.seq ?_
        refine JS.region ?_
        obtain ⟨g23, h⟩ := guardO_some h
        refine JO.know 1 rfl fun hs89 => ?_
        obtain ⟨g25, h⟩ := guardO_some h
        refine JO.reg ttOk 6 [] [] [(47, .ep ⟨a11, y6.1.length, c12⟩ (Int.toNat (Int.tmod y9 (y6.1.length : Int)) * 1))] _ rfl ⟨g23, hs89.ix g25, ⟨rfl, trivial⟩, rfl⟩ ?_
        refine JO.load ttOk rfl rfl rfl rfl rfl rfl rfl 1 rfl rfl (Int.toNat (Int.tmod y9 (y6.1.length : Int))) 0 (at' y6.1 (Int.tmod y9 (y6.1.length : Int))) ⟨at_some g25, rfl⟩ rfl rfl ?_
        refine JO.reg ttOk 1 [] [] [(8, .v (.int .i64 (at' y6.1 (Int.tmod y9 (y6.1.length : Int)))))] _ rfl ⟨⟨rfl, trivial⟩, rfl⟩ ?_
        refine JO.done rfl ?_
        refine JS.seq ?_
        refine JS.region ?_
        refine JO.reg ttOk 3 [] [] [(49, .v (.slice a11 y6.1.length c12)), (50, .v (.int .i64 y8)), (51, .v (.int .i64 (at' y6.1 (Int.tmod y9 (y6.1.length : Int)))))] _ rfl ⟨⟨rfl, rfl, rfl, trivial⟩, rfl⟩ ?_
        obtain ⟨y26, hy27, h⟩ := bindO_some h
        refine JO.call rfl rfl rfl rfl (ok_i_FindRune y6.1 y8 (at' y6.1 (Int.tmod y9 (y6.1.length : Int))) 0 a11 c12 y6.1.length rfl _ hy27) rfl [1] rfl rfl ?_
        intro _ _
        refine JO.reg ttOk 1 [] [] [(9, .v (.int .i64 y26))] _ rfl ⟨⟨rfl, trivial⟩, rfl⟩ ?_
        refine JO.done rfl ?_
        refine JS.seq ?_
        refine JS.region ?_
        refine JO.reg ttOk 3 [] [] [(53, .v (.slice a11 y6.1.length c12)), (54, .v (.int .i64 y8)), (55, .v (.int .i64 (at' y6.1 (Int.tmod y9 (y6.1.length : Int)))))] _ rfl ⟨⟨rfl, rfl, rfl, trivial⟩, rfl⟩ ?_
        obtain ⟨y28, hy29, h⟩ := bindO_some h
        refine JO.call rfl rfl rfl rfl (ok_i_FindRune y6.1 y8 (at' y6.1 (Int.tmod y9 (y6.1.length : Int))) 1 a11 c12 y6.1.length rfl _ hy29) rfl [1] rfl rfl ?_
        intro _ _
        refine JO.reg ttOk 1 [] [] [(10, .v (.int .i64 y28))] _ rfl ⟨⟨rfl, trivial⟩, rfl⟩ ?_
        refine JO.done rfl ?_
        refine JS.seq ?_
        refine JS.seq ?_
        refine JS.region ?_
        refine JO.reg ttOk 3 [] [] [(58, .v (.int .i64 (y6.1.length : Int))), (59, .v (.int .i64 0))] _ rfl ⟨⟨rfl, rfl, trivial⟩, rfl⟩ ?_
        refine JO.done rfl ?_
        obtain ⟨j46, hj118, h⟩ := joinO_some h
        refine JS.blockJ (ι := Unit) ⟨fun _ => j46 () = some r, fun _ => [(5, .v (.int .i64 y8)), (7, .v (.slice a11 y6.1.length c12)), (8, .v (.int .i64 (at' y6.1 (Int.tmod y9 (y6.1.length : Int))))), (9, .v (.int .i64 y26)), (10, .v (.int .i64 y28))], fun _ => .nil, fun _ => [], fun _ => [⟨(.int .i64), ⟨a11, y6.1.length, c12⟩, y6.1⟩], fun _ => 0⟩ ?_ ?_
        · refine JS.loop (ι := Nat × Int) ⟨fun z => fixF (M_l_FnFind_L1 y6 y8 y9 y26 y28 j46) z.1 z.2 = some r, fun z => [(5, .v (.int .i64 y8)), (7, .v (.slice a11 y6.1.length c12)), (8, .v (.int .i64 (at' y6.1 (Int.tmod y9 (y6.1.length : Int))))), (9, .v (.int .i64 y26)), (10, .v (.int .i64 y28)), (58, .v (.int .i64 (y6.1.length : Int))), (59, .v (.int .i64 z.2))], fun z => .nil, fun z => [], fun z => [⟨(.int .i64), ⟨a11, y6.1.length, c12⟩, y6.1⟩], fun z => z.1⟩ (FUEL, 0) h ⟨rfl, rfl, rfl, rfl, rfl, rfl, rfl, trivial⟩ trivial [] rfl [0] rfl ?_
          rintro ⟨n42, x33⟩ h
          obtain ⟨n42, rfl, h⟩ := fixF_some h
          rw [M_l_FnFind_L1] at h
          refine JS.seq ?_
          refine JS.region ?_
          refine JO.reg ttOk 1 [] [] [(60, .v (.bool (decide (x33 < (y6.1.length : Int)))))] _ rfl ⟨⟨rfl, trivial⟩, rfl⟩ ?_
          refine JO.done rfl ?_
          refine JS.seq ?_
          refine JS.cond rfl (fun ht92 => ?_) (fun ht92 => ?_)
          · have h := condT h ht92
            refine JS.skip ?_
            refine JS.seq ?_
            refine JS.block ?_
            refine JS.seq ?_
            refine JS.region ?_
            refine JO.reg ttOk 2 [] [] [(11, .v (.int .i64 x33))] _ rfl ⟨⟨rfl, trivial⟩, rfl⟩ ?_
            refine JO.done rfl ?_
            refine JS.seq ?_
            refine JS.region ?_
            refine JO.know 0 rfl fun hs90 => ?_
            obtain ⟨g35, h⟩ := guardO_some h
            refine JO.reg ttOk 3 [] [] [(64, .ep ⟨a11, y6.1.length, c12⟩ (Int.toNat x33 * 1))] _ rfl ⟨hs90.ix g35, ⟨rfl, trivial⟩, rfl⟩ ?_
            refine JO.load ttOk rfl rfl rfl rfl rfl rfl rfl 0 rfl rfl (Int.toNat x33) 0 (at' y6.1 x33) ⟨at_some g35, rfl⟩ rfl rfl ?_
            refine JO.reg ttOk 26 [] [] [(91, .v (.bool (bif (decide ((at' y6.1 x33) = (at' y6.1 (Int.tmod y9 (y6.1.length : Int))))) then (bif (bif (decide (y8 < x33)) then (bif (decide (y26 < 0)) then true else (decide (x33 < y26))) else false) then true else (bif (decide (x33 < y8)) then (decide (y28 < x33)) else false)) else false)))] _ rfl ⟨⟨rfl, trivial⟩, rfl⟩ ?_
            refine JO.done rfl ?_
            refine JS.cond rfl (fun ht91 => ?_) (fun ht91 => ?_)
            · have h := condT h ht91
              refine JS.seq ?_
              refine JS.region ?_
              refine JO.reg ttOk 1 [] [] [(2, .v (.bool false))] _ rfl ⟨⟨rfl, trivial⟩, rfl⟩ ?_
              refine JO.done rfl ?_
              cases h
              exact JS.ret ttOk () trivial rfl rfl [] rfl
            · have h := condF h ht91
              refine JS.skip ?_
              refine JS.endB ?_
              refine JS.region ?_
              refine JO.reg ttOk 2 [(W (x33 + 1))] [] [(59, .v (.int .i64 (W (x33 + 1))))] _ rfl ⟨⟨trivial, rfl⟩, ⟨rfl, trivial⟩, rfl⟩ ?_
              refine JO.done rfl ?_
              exact JS.endL (n42, (W (x33 + 1))) h (Nat.lt_succ_self _) ⟨rfl, rfl, rfl, rfl, rfl, rfl, rfl, trivial⟩ trivial [] rfl [0] rfl
          · have h := condF h ht92
            refine JS.exit rfl ?_
            exact JS.endJ () h ⟨rfl, rfl, rfl, rfl, rfl, trivial⟩ trivial [] rfl [0] rfl
        · rintro _ h
          subst hj118
          refine JS.seq ?_
          refine JS.seq ?_
          refine JS.region ?_
          refine JO.know 0 rfl fun hs93 => ?_
          obtain ⟨g51, h⟩ := guardO_some h
          refine JO.reg ttOk 10 [] [] [(95, .v (.bool (decide (0 ≤ y26)))), (99, .cd [(95, true)] (.v (.bool (decide (y26 ≤ y8))))), (102, .cd [(99, false), (95, true)] (.ep ⟨a11, y6.1.length, c12⟩ (Int.toNat y26 * 1)))] _ rfl ⟨(fun q94 q95 => hs93.ix (g51 q94 q95)), ⟨rfl, rfl, rfl, trivial⟩, rfl⟩ ?_
          refine JO.load ttOk rfl rfl rfl rfl rfl rfl rfl 0 rfl rfl (Int.toNat y26) 0 (at' y6.1 y26) (fun q96 q97 => ⟨at_some (g51 q96 q97), rfl⟩) rfl rfl ?_
          obtain ⟨g56, h⟩ := guardO_some h
          refine JO.reg ttOk 15 [] [] [(108, .v (.bool (bif (decide (0 ≤ y26)) then (bif (decide (y26 ≤ y8)) then true else (!(decide ((at' y6.1 y26) = (at' y6.1 (Int.tmod y9 (y6.1.length : Int))))))) else false))), (111, .cd [(108, false)] (.v (.bool (decide (0 ≤ y28))))), (115, .cd [(111, true), (108, false)] (.v (.bool (decide (y8 ≤ y28))))), (118, .cd [(115, false), (111, true), (108, false)] (.ep ⟨a11, y6.1.length, c12⟩ (Int.toNat y28 * 1)))] _ rfl ⟨(fun q98 q99 q100 => hs93.ix (g56 q98 q99 q100)), ⟨rfl, rfl, rfl, rfl, trivial⟩, rfl⟩ ?_
          refine JO.load ttOk rfl rfl rfl rfl rfl rfl rfl 0 rfl rfl (Int.toNat y28) 0 (at' y6.1 y28) (fun q101 q102 q103 => ⟨at_some (g56 q101 q102 q103), rfl⟩) rfl rfl ?_
          refine JO.reg ttOk 5 [] [] [(124, .v (.bool (bif (bif (decide (0 ≤ y26)) then (bif (decide (y26 ≤ y8)) then true else (!(decide ((at' y6.1 y26) = (at' y6.1 (Int.tmod y9 (y6.1.length : Int))))))) else false) then true else (bif (decide (0 ≤ y28)) then (bif (decide (y8 ≤ y28)) then true else (!(decide ((at' y6.1 y28) = (at' y6.1 (Int.tmod y9 (y6.1.length : Int))))))) else false))))] _ rfl ⟨⟨rfl, trivial⟩, rfl⟩ ?_
          refine JO.done rfl ?_
          refine JS.cond rfl (fun ht117 => ?_) (fun ht117 => ?_)
          · have h := condT h ht117
            refine JS.seq ?_
            refine JS.region ?_
            refine JO.reg ttOk 1 [] [] [(2, .v (.bool false))] _ rfl ⟨⟨rfl, trivial⟩, rfl⟩ ?_
            refine JO.done rfl ?_
            cases h
            exact JS.ret ttOk () trivial rfl rfl [] rfl
          · have h := condF h ht117
            refine JS.skip ?_
            refine JS.seq ?_
            refine JS.region ?_
            refine JO.reg ttOk 3 [] [] [(125, .v (.slice a11 y6.1.length c12)), (126, .v (.int .i64 y8)), (127, .v (.int .i64 (at' y6.1 (Int.tmod y9 (y6.1.length : Int)))))] _ rfl ⟨⟨rfl, rfl, rfl, trivial⟩, rfl⟩ ?_
            obtain ⟨y63, hy64, h⟩ := bindO_some h
            refine JO.call rfl rfl rfl rfl (ok_i_FindRune y6.1 y8 (at' y6.1 (Int.tmod y9 (y6.1.length : Int))) 2 a11 c12 y6.1.length rfl _ hy64) rfl [0] rfl rfl ?_
            intro _ _
            refine JO.reg ttOk 1 [] [] [(12, .v (.int .i64 y63))] _ rfl ⟨⟨rfl, trivial⟩, rfl⟩ ?_
            refine JO.done rfl ?_
            refine JS.seq ?_
            refine JS.seq ?_
            refine JS.region ?_
            obtain ⟨g67, h⟩ := guardO_some h
            refine JO.reg ttOk 11 [(W (y63 + 1))] [] [(131, .v (.bool (decide (0 ≤ y63)))), (135, .cd [(131, true)] (.v (.bool (decide (y63 ≤ y8))))), (139, .cd [(135, false), (131, true)] (.ep ⟨a11, y6.1.length, c12⟩ (Int.toNat (W (y63 + 1)) * 1)))] _ rfl ⟨(fun q104 q105 => ⟨trivial, rfl⟩), (fun q106 q107 => hs93.ix (g67 q106 q107)), ⟨rfl, rfl, rfl, trivial⟩, rfl⟩ ?_
            refine JO.load ttOk rfl rfl rfl rfl rfl rfl rfl 0 rfl rfl (Int.toNat (W (y63 + 1))) 0 (at' y6.1 (W (y63 + 1))) (fun q108 q109 => ⟨at_some (g67 q108 q109), rfl⟩) rfl rfl ?_
            refine JO.reg ttOk 4 [] [] [(144, .v (.bool (bif (decide (0 ≤ y63)) then (bif (decide (y63 ≤ y8)) then true else (!(decide ((at' y6.1 (W (y63 + 1))) = (at' y6.1 (Int.tmod y9 (y6.1.length : Int))))))) else false)))] _ rfl ⟨⟨rfl, trivial⟩, rfl⟩ ?_
            refine JO.done rfl ?_
            refine JS.cond rfl (fun ht116 => ?_) (fun ht116 => ?_)
            · have h := condT h ht116
              refine JS.seq ?_
              refine JS.region ?_
              refine JO.reg ttOk 1 [] [] [(2, .v (.bool false))] _ rfl ⟨⟨rfl, trivial⟩, rfl⟩ ?_
              refine JO.done rfl ?_
              cases h
              exact JS.ret ttOk () trivial rfl rfl [] rfl
            · have h := condF h ht116
              refine JS.skip ?_
              refine JS.seq ?_
              refine JS.region ?_
              refine JO.reg ttOk 3 [] [] [(146, .v (.slice a11 y6.1.length c12)), (147, .v (.int .i64 y8)), (148, .v (.int .i64 (at' y6.1 (Int.tmod y9 (y6.1.length : Int)))))] _ rfl ⟨⟨rfl, rfl, rfl, trivial⟩, rfl⟩ ?_
              obtain ⟨⟨y72, y73⟩, hy74, h⟩ := bindO_some h
              refine JO.call rfl rfl rfl rfl (ok_i_FindTo y6.1 y8 (at' y6.1 (Int.tmod y9 (y6.1.length : Int))) 0 1 a11 c12 y6.1.length rfl _ hy74) rfl [0] rfl rfl ?_
              intro _ _
              refine JO.reg ttOk 5 [] [] [(13, .v (.int .i64 y72)), (14, .v (.bool y73))] _ rfl ⟨⟨rfl, rfl, trivial⟩, rfl⟩ ?_
              refine JO.done rfl ?_
              refine JS.seq ?_
              refine JS.region ?_
              obtain ⟨g75, h⟩ := guardO_some h
              refine JO.reg ttOk 29 [] [] [(165, .v (.bool (bif (y73 == (decide (0 ≤ y26))) then (bif (!y73) then true else (decide (y72 = y26))) else false))), (172, .cd [(165, true)] (.v (.bool (bif (decide (0 ≤ y26)) then true else (decide (0 ≤ y28)))))), (177, .cd [(172, false), (165, true)] (.v (.bool (decide (y8 < (y6.1.length : Int)))))), (180, .cd [(177, true), (172, false), (165, true)] (.ep ⟨a11, y6.1.length, c12⟩ (Int.toNat y8 * 1)))] _ rfl ⟨(fun q110 q111 q112 => hs93.ix (g75 q110 q111 q112)), ⟨rfl, rfl, rfl, rfl, trivial⟩, rfl⟩ ?_
              refine JO.load ttOk rfl rfl rfl rfl rfl rfl rfl 0 rfl rfl (Int.toNat y8) 0 (at' y6.1 y8) (fun q113 q114 q115 => ⟨at_some (g75 q113 q114 q115), rfl⟩) rfl rfl ?_
              refine JO.reg ttOk 6 [] [] [(2, .v (.bool (bif (bif (y73 == (decide (0 ≤ y26))) then (bif (!y73) then true else (decide (y72 = y26))) else false) then (bif (bif (decide (0 ≤ y26)) then true else (decide (0 ≤ y28))) then true else (bif (decide (y8 < (y6.1.length : Int))) then (decide ((at' y6.1 y8) = (at' y6.1 (Int.tmod y9 (y6.1.length : Int))))) else false)) else false)))] _ rfl ⟨⟨rfl, trivial⟩, rfl⟩ ?_
              refine JO.done rfl ?_
              cases h
              exact JS.ret ttOk () trivial rfl rfl [] rfl

end
end Go.Eng
