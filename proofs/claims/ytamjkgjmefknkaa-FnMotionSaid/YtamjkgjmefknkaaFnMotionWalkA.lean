/- The walks of the functions that FnMotion reaches: what each computes, as a plain function (M_..), and that the model computes it (ok_..). Condition of each: that the plain function answers. -/
import Derived.Test.YtamjkgjmefknkaaEngB
import Derived.Test.YtamjkgjmefknkaaChecked
set_option linter.unusedVariables false
set_option linter.unusedSimpArgs false
namespace Go.Eng
open Go Go.Proofs
noncomputable section

def TTx : TT := [
  (2, ⟨.int .i64, 1, 8, [.int .i64 0]⟩),
  (3, ⟨.int .i64, 1, 8, [.int .i64 0]⟩),
  (4, ⟨.bool, 1, 1, [.bool false]⟩),
  (5, ⟨.int .u8, 1, 1, [.int .u8 0]⟩),
  (6, ⟨.int .u8, 1, 1, [.int .u8 0]⟩),
  (7, ⟨.struct [(0, 2), (1, 3), (2, 4), (3, 6)], 4, 24, [.int .i64 0, .int .i64 0, .bool false, .int .u8 0]⟩),
  (8, ⟨.struct [(0, 2), (1, 3), (2, 4), (3, 6)], 4, 24, [.int .i64 0, .int .i64 0, .bool false, .int .u8 0]⟩),
  (9, ⟨.str, 1, 16, [.string ByteArray.empty]⟩),
  (10, ⟨.str, 1, 16, [.string ByteArray.empty]⟩),
  (11, ⟨.str, 1, 16, [.string ByteArray.empty]⟩),
  (12, ⟨.int .u64, 1, 8, [.int .u64 0]⟩),
  (13, ⟨.struct [(0, 9), (1, 12)], 2, 24, [.string ByteArray.empty, .int .u64 0]⟩),
  (14, ⟨.struct [(0, 9), (1, 12)], 2, 24, [.string ByteArray.empty, .int .u64 0]⟩),
  (21, ⟨.int .i32, 1, 4, [.int .i32 0]⟩),
  (22, ⟨.slice 5, 1, 24, [.slice none 0 0]⟩),
  (23, ⟨.slice 3, 1, 24, [.slice none 0 0]⟩),
  (24, ⟨.struct [(0, 23), (1, 3)], 2, 32, [.slice none 0 0, .int .i64 0]⟩),
  (25, ⟨.struct [(0, 23), (1, 3)], 2, 32, [.slice none 0 0, .int .i64 0]⟩),
  (40, ⟨.slice 113, 1, 24, [.slice none 0 0]⟩),
  (41, ⟨.struct [(0, 40)], 1, 24, [.slice none 0 0]⟩),
  (42, ⟨.struct [(0, 40)], 1, 24, [.slice none 0 0]⟩),
  (43, ⟨.slice 25, 1, 24, [.slice none 0 0]⟩),
  (44, ⟨.struct [(0, 43)], 1, 24, [.slice none 0 0]⟩),
  (45, ⟨.struct [(0, 43)], 1, 24, [.slice none 0 0]⟩),
  (46, ⟨.struct [(0, 4), (1, 3), (2, 25), (4, 3), (5, 3), (6, 3), (7, 3), (8, 3), (9, 3), (10, 3), (11, 42), (12, 45), (13, 3), (14, 25), (16, 23), (17, 3), (18, 25)], 20, 256, [.bool false, .int .i64 0, .slice none 0 0, .int .i64 0, .int .i64 0, .int .i64 0, .int .i64 0, .int .i64 0, .int .i64 0, .int .i64 0, .int .i64 0, .slice none 0 0, .slice none 0 0, .int .i64 0, .slice none 0 0, .int .i64 0, .slice none 0 0, .int .i64 0, .slice none 0 0, .int .i64 0]⟩),
  (47, ⟨.struct [(0, 4), (1, 3), (2, 25), (4, 3), (5, 3), (6, 3), (7, 3), (8, 3), (9, 3), (10, 3), (11, 42), (12, 45), (13, 3), (14, 25), (16, 23), (17, 3), (18, 25)], 20, 256, [.bool false, .int .i64 0, .slice none 0 0, .int .i64 0, .int .i64 0, .int .i64 0, .int .i64 0, .int .i64 0, .int .i64 0, .int .i64 0, .int .i64 0, .slice none 0 0, .slice none 0 0, .int .i64 0, .slice none 0 0, .int .i64 0, .slice none 0 0, .int .i64 0, .slice none 0 0, .int .i64 0]⟩),
  (52, ⟨.struct [(0, 23), (1, 3)], 2, 32, [.slice none 0 0, .int .i64 0]⟩),
  (53, ⟨.slice 124, 1, 24, [.slice none 0 0]⟩),
  (54, ⟨.struct [(0, 53)], 1, 24, [.slice none 0 0]⟩),
  (55, ⟨.struct [(0, 53)], 1, 24, [.slice none 0 0]⟩),
  (56, ⟨.slice 52, 1, 24, [.slice none 0 0]⟩),
  (57, ⟨.struct [(0, 56)], 1, 24, [.slice none 0 0]⟩),
  (58, ⟨.struct [(0, 56)], 1, 24, [.slice none 0 0]⟩),
  (59, ⟨.struct [(0, 4), (1, 3), (2, 52), (4, 3), (5, 3), (6, 3), (7, 3), (8, 3), (9, 3), (10, 3), (11, 55), (12, 58), (13, 3), (14, 52), (16, 23), (17, 3), (18, 52)], 20, 256, [.bool false, .int .i64 0, .slice none 0 0, .int .i64 0, .int .i64 0, .int .i64 0, .int .i64 0, .int .i64 0, .int .i64 0, .int .i64 0, .int .i64 0, .slice none 0 0, .slice none 0 0, .int .i64 0, .slice none 0 0, .int .i64 0, .slice none 0 0, .int .i64 0, .slice none 0 0, .int .i64 0]⟩),
  (60, ⟨.struct [(0, 4), (1, 3), (2, 52), (4, 3), (5, 3), (6, 3), (7, 3), (8, 3), (9, 3), (10, 3), (11, 55), (12, 58), (13, 3), (14, 52), (16, 23), (17, 3), (18, 52)], 20, 256, [.bool false, .int .i64 0, .slice none 0 0, .int .i64 0, .int .i64 0, .int .i64 0, .int .i64 0, .int .i64 0, .int .i64 0, .int .i64 0, .int .i64 0, .slice none 0 0, .slice none 0 0, .int .i64 0, .slice none 0 0, .int .i64 0, .slice none 0 0, .int .i64 0, .slice none 0 0, .int .i64 0]⟩),
  (101, ⟨.struct [(0, 22), (1, 3), (2, 3)], 3, 40, [.slice none 0 0, .int .i64 0, .int .i64 0]⟩),
  (102, ⟨.struct [(0, 22), (1, 3), (2, 3)], 3, 40, [.slice none 0 0, .int .i64 0, .int .i64 0]⟩),
  (112, ⟨.struct [(0, 23)], 1, 24, [.slice none 0 0]⟩),
  (113, ⟨.struct [(0, 23)], 1, 24, [.slice none 0 0]⟩),
  (120, ⟨.int .u64, 1, 8, [.int .u64 0]⟩),
  (124, ⟨.struct [(0, 23)], 1, 24, [.slice none 0 0]⟩),
  (134, ⟨.int .u32, 1, 4, [.int .u32 0]⟩),
  (135, ⟨.int .u8, 1, 1, [.int .u8 0]⟩),
  (136, ⟨.int .u8, 1, 1, [.int .u8 0]⟩),
  (139, ⟨.int .i32, 1, 4, [.int .i32 0]⟩),
  (140, ⟨.int .i32, 1, 4, [.int .i32 0]⟩)]

set_option maxRecDepth 100000 in
theorem ttOk : TTok Try.prog TTx := TTok.of (by
  simp only [TTx, List.forall_mem_cons]
  exact ⟨⟨⟨_, _, rfl, rfl, rfl, rfl, rfl⟩, rfl⟩, ⟨⟨_, _, rfl, rfl, rfl, rfl, rfl⟩, rfl⟩, ⟨⟨_, _, rfl, rfl, rfl, rfl, rfl⟩, rfl⟩, ⟨⟨_, _, rfl, rfl, rfl, rfl, rfl⟩, rfl⟩, ⟨⟨_, _, rfl, rfl, rfl, rfl, rfl⟩, rfl⟩, ⟨⟨_, _, rfl, rfl, rfl, rfl, rfl⟩, ⟨_, rfl, rfl⟩⟩, ⟨⟨_, _, rfl, rfl, rfl, rfl, rfl⟩, ⟨_, rfl, rfl⟩⟩, ⟨⟨_, _, rfl, rfl, rfl, rfl, rfl⟩, rfl⟩, ⟨⟨_, _, rfl, rfl, rfl, rfl, rfl⟩, rfl⟩, ⟨⟨_, _, rfl, rfl, rfl, rfl, rfl⟩, rfl⟩, ⟨⟨_, _, rfl, rfl, rfl, rfl, rfl⟩, rfl⟩, ⟨⟨_, _, rfl, rfl, rfl, rfl, rfl⟩, ⟨_, rfl, rfl⟩⟩, ⟨⟨_, _, rfl, rfl, rfl, rfl, rfl⟩, ⟨_, rfl, rfl⟩⟩, ⟨⟨_, _, rfl, rfl, rfl, rfl, rfl⟩, rfl⟩, ⟨⟨_, _, rfl, rfl, rfl, rfl, rfl⟩, rfl⟩, ⟨⟨_, _, rfl, rfl, rfl, rfl, rfl⟩, rfl⟩, ⟨⟨_, _, rfl, rfl, rfl, rfl, rfl⟩, ⟨_, rfl, rfl⟩⟩, ⟨⟨_, _, rfl, rfl, rfl, rfl, rfl⟩, ⟨_, rfl, rfl⟩⟩, ⟨⟨_, _, rfl, rfl, rfl, rfl, rfl⟩, rfl⟩, ⟨⟨_, _, rfl, rfl, rfl, rfl, rfl⟩, ⟨_, rfl, rfl⟩⟩, ⟨⟨_, _, rfl, rfl, rfl, rfl, rfl⟩, ⟨_, rfl, rfl⟩⟩, ⟨⟨_, _, rfl, rfl, rfl, rfl, rfl⟩, rfl⟩, ⟨⟨_, _, rfl, rfl, rfl, rfl, rfl⟩, ⟨_, rfl, rfl⟩⟩, ⟨⟨_, _, rfl, rfl, rfl, rfl, rfl⟩, ⟨_, rfl, rfl⟩⟩, ⟨⟨_, _, rfl, rfl, rfl, rfl, rfl⟩, ⟨_, rfl, rfl⟩⟩, ⟨⟨_, _, rfl, rfl, rfl, rfl, rfl⟩, ⟨_, rfl, rfl⟩⟩, ⟨⟨_, _, rfl, rfl, rfl, rfl, rfl⟩, ⟨_, rfl, rfl⟩⟩, ⟨⟨_, _, rfl, rfl, rfl, rfl, rfl⟩, rfl⟩, ⟨⟨_, _, rfl, rfl, rfl, rfl, rfl⟩, ⟨_, rfl, rfl⟩⟩, ⟨⟨_, _, rfl, rfl, rfl, rfl, rfl⟩, ⟨_, rfl, rfl⟩⟩, ⟨⟨_, _, rfl, rfl, rfl, rfl, rfl⟩, rfl⟩, ⟨⟨_, _, rfl, rfl, rfl, rfl, rfl⟩, ⟨_, rfl, rfl⟩⟩, ⟨⟨_, _, rfl, rfl, rfl, rfl, rfl⟩, ⟨_, rfl, rfl⟩⟩, ⟨⟨_, _, rfl, rfl, rfl, rfl, rfl⟩, ⟨_, rfl, rfl⟩⟩, ⟨⟨_, _, rfl, rfl, rfl, rfl, rfl⟩, ⟨_, rfl, rfl⟩⟩, ⟨⟨_, _, rfl, rfl, rfl, rfl, rfl⟩, ⟨_, rfl, rfl⟩⟩, ⟨⟨_, _, rfl, rfl, rfl, rfl, rfl⟩, ⟨_, rfl, rfl⟩⟩, ⟨⟨_, _, rfl, rfl, rfl, rfl, rfl⟩, ⟨_, rfl, rfl⟩⟩, ⟨⟨_, _, rfl, rfl, rfl, rfl, rfl⟩, ⟨_, rfl, rfl⟩⟩, ⟨⟨_, _, rfl, rfl, rfl, rfl, rfl⟩, rfl⟩, ⟨⟨_, _, rfl, rfl, rfl, rfl, rfl⟩, ⟨_, rfl, rfl⟩⟩, ⟨⟨_, _, rfl, rfl, rfl, rfl, rfl⟩, rfl⟩, ⟨⟨_, _, rfl, rfl, rfl, rfl, rfl⟩, rfl⟩, ⟨⟨_, _, rfl, rfl, rfl, rfl, rfl⟩, rfl⟩, ⟨⟨_, _, rfl, rfl, rfl, rfl, rfl⟩, rfl⟩, ⟨⟨_, _, rfl, rfl, rfl, rfl, rfl⟩, rfl⟩, by simp⟩)

def M_s_l01New_L1 (x0 : List UInt8) (j16 : Int → Option (List UInt8 × Int × Int)) (k11 : (Int × Int) → Option (List UInt8 × Int × Int)) : (Int × Int) → Option (List UInt8 × Int × Int) := fun (x6, x7) =>
  (bif (bif (decide (x7 < (x0.length : Int))) then (decide (x7 < 4000)) else false) then
  (guardO (0 ≤ x7 ∧ x7 < (x0.length : Int)) <|
  k11 ((W (((BitVec.ofInt (IntKind.bits .i64) (W ((W ((W (x6 * 137)) + ((at' x0 x7).toNat : Int))) + 7)) &&& BitVec.ofInt (IntKind.bits .i64) 1073741823).toNat : Int))), (W (x7 + 1))))
  else
  j16 x6)

def M_s_l01New (x0 : List UInt8) : Option (List UInt8 × Int × Int) :=
  (joinO (fun (x15 : Int) =>
  some (x0, 0, x15)) fun j16 =>
  (fixF (M_s_l01New_L1 x0 j16) FUEL ((W (600128 + (x0.length : Int))), 0)))

theorem ok_s_l01New (x0 : List UInt8) (a2 : Option Addr) (c3 : Nat) (l4 : Nat) (hl5 : x0.length = l4) (r : List UInt8 × Int × Int) (h : M_s_l01New x0 = some r) :
    FC Try.prog 39 [.slice a2 l4 c3] [⟨.byte, ⟨a2, l4, c3⟩, x0⟩] (fun _ : Option Addr => True) (fun q => .pointer q) (fun q => [⟨(.pair .val (.pair (.int .i64) (.int .i64))), ⟨q, 1, 1⟩, [((Sl.v ⟨a2, l4, c3⟩), r.2.1, r.2.2)]⟩]) :=
  by
    subst hl5
    refine FC.of (T := TTx) Try.call39 Try.func39 rfl rfl fun w0 => ?_
    unfold M_s_l01New at h
    refine JS.seq ?_
    refine JS.region ?_
    refine JO.reg ttOk 1 [] [] [] _ rfl ⟨trivial, rfl⟩ ?_
    refine JO.done rfl ?_
    refine JS.seq ?_
    refine JS.region ?_
    refine JO.reg ttOk 4 [(W (600128 + (x0.length : Int)))] [] [(3, .v (.int .i64 (W (600128 + (x0.length : Int)))))] _ rfl ⟨⟨trivial, rfl⟩, ⟨rfl, trivial⟩, rfl⟩ ?_
    refine JO.done rfl ?_
    refine JS.seq ?_
    refine JS.seq ?_
    refine JS.region ?_
    refine JO.reg ttOk 1 [] [] [(4, .v (.int .i64 0))] _ rfl ⟨⟨rfl, trivial⟩, rfl⟩ ?_
    refine JO.done rfl ?_
    obtain ⟨j16, hj23, h⟩ := joinO_some h
    refine JS.blockJ (ι := Int) ⟨fun z => j16 z = some r, fun z => [(0, .v (.slice a2 x0.length c3)), (3, .v (.int .i64 z))], fun z => .nil, fun z => [⟨.byte, ⟨a2, x0.length, c3⟩, x0⟩], fun z => [], fun z => 0⟩ ?_ ?_
    · refine JS.loop (ι := Nat × Int × Int) ⟨fun z => fixF (M_s_l01New_L1 x0 j16) z.1 (z.2.1, z.2.2) = some r, fun z => [(0, .v (.slice a2 x0.length c3)), (3, .v (.int .i64 z.2.1)), (4, .v (.int .i64 z.2.2))], fun z => .nil, fun z => [⟨.byte, ⟨a2, x0.length, c3⟩, x0⟩], fun z => [], fun z => z.1⟩ (FUEL, (W (600128 + (x0.length : Int))), 0) h ⟨rfl, rfl, rfl, trivial⟩ trivial [0] rfl [] rfl ?_
      rintro ⟨n12, x6, x7⟩ h
      obtain ⟨n12, rfl, h⟩ := fixF_some h
      rw [M_s_l01New_L1] at h
      refine JS.seq ?_
      refine JS.seq ?_
      refine JS.region ?_
      refine JO.reg ttOk 8 [] [] [(15, .v (.bool (bif (decide (x7 < (x0.length : Int))) then (decide (x7 < 4000)) else false)))] _ rfl ⟨⟨rfl, trivial⟩, rfl⟩ ?_
      refine JO.done rfl ?_
      refine JS.cond rfl (fun ht22 => ?_) (fun ht22 => ?_)
      · have h := condT h ht22
        refine JS.skip ?_
        refine JS.seq ?_
        refine JS.block ?_
        refine JS.region ?_
        refine JO.know 0 rfl fun hs21 => ?_
        obtain ⟨g9, h⟩ := guardO_some h
        refine JO.reg ttOk 5 [(W (x6 * 137))] [] [(19, .v (.int .i64 (W (x6 * 137)))), (22, .ep ⟨a2, x0.length, c3⟩ (Int.toNat x7 * 1))] _ rfl ⟨⟨trivial, rfl⟩, hs21.ix g9, ⟨rfl, rfl, trivial⟩, rfl⟩ ?_
        refine JO.load ttOk rfl rfl rfl rfl rfl rfl rfl 0 rfl rfl (Int.toNat x7) 0 (at' x0 x7) ⟨at_some g9, rfl⟩ rfl rfl ?_
        refine JO.reg ttOk 5 [((at' x0 x7).toNat : Int), (W ((W (x6 * 137)) + ((at' x0 x7).toNat : Int))), (W ((W ((W (x6 * 137)) + ((at' x0 x7).toNat : Int))) + 7)), (W (((BitVec.ofInt (IntKind.bits .i64) (W ((W ((W (x6 * 137)) + ((at' x0 x7).toNat : Int))) + 7)) &&& BitVec.ofInt (IntKind.bits .i64) 1073741823).toNat : Int)))] [] [(3, .v (.int .i64 (W (((BitVec.ofInt (IntKind.bits .i64) (W ((W ((W (x6 * 137)) + ((at' x0 x7).toNat : Int))) + 7)) &&& BitVec.ofInt (IntKind.bits .i64) 1073741823).toNat : Int)))))] _ rfl ⟨⟨trivial, W_byte _⟩, ⟨trivial, rfl⟩, ⟨trivial, rfl⟩, ⟨trivial, rfl⟩, ⟨rfl, trivial⟩, rfl⟩ ?_
        refine JO.done rfl ?_
        refine JS.endB ?_
        refine JS.region ?_
        refine JO.reg ttOk 3 [(W (x7 + 1))] [] [(4, .v (.int .i64 (W (x7 + 1))))] _ rfl ⟨⟨trivial, rfl⟩, ⟨rfl, trivial⟩, rfl⟩ ?_
        refine JO.done rfl ?_
        exact JS.endL (n12, (W (((BitVec.ofInt (IntKind.bits .i64) (W ((W ((W (x6 * 137)) + ((at' x0 x7).toNat : Int))) + 7)) &&& BitVec.ofInt (IntKind.bits .i64) 1073741823).toNat : Int))), (W (x7 + 1))) h (Nat.lt_succ_self _) ⟨rfl, rfl, rfl, trivial⟩ trivial [0] rfl [] rfl
      · have h := condF h ht22
        refine JS.exit rfl ?_
        exact JS.endJ x6 h ⟨rfl, rfl, trivial⟩ trivial [0] rfl [] rfl
    · rintro x15 h
      subst hj23
      refine JS.seq ?_
      refine JS.region ?_
      refine JO.regB ttOk 5 [] [9] [(2, .bp 9 0), (31, .bp 9 0)] (.new 9 102 [.slice a2 x0.length c3, .int .i64 0, .int .i64 x15] .nil) rfl ⟨⟨rfl, rfl, trivial⟩, ⟨rfl, rfl, rfl, rfl, trivial⟩⟩ ?_
      refine JO.done rfl ?_
      refine JS.unbox 9 rfl (B' := .nil) trivial rfl (.pair .val (.pair (.int .i64) (.int .i64))) ((Sl.v ⟨a2, x0.length, c3⟩), 0, x15) ⟨rfl, rfl, rfl⟩ (fun a19 => [(0, .v (.slice a2 x0.length c3)), (2, .ep ⟨a19, 1, 1⟩ 0), (3, .v (.int .i64 x15)), (31, .ep ⟨a19, 1, 1⟩ 0)]) (fun _ => ⟨rfl, rfl, rfl, rfl, trivial⟩) fun a19 => ?_
      cases h
      exact JS.ret ttOk a19 trivial rfl rfl [0] rfl

def M_s_l01Byte (x0 : List UInt8 × Int × Int) : Option (Int × List UInt8 × Int × Int) :=
  (joinO (fun ((x14, x15) : Int × Int) =>
  some (x14, (x0.1, x15, (W ((W (x0.2.2 * 6364136223846793005)) + 1442695040888963407))))) fun j16 =>
  (bif (decide (x0.2.1 < (x0.1.length : Int))) then
  (guardO (0 ≤ x0.2.1 ∧ x0.2.1 < (x0.1.length : Int)) <|
  j16 ((W (((BitVec.ofInt (IntKind.bits .i64) (W ((W (((BitVec.ofInt (IntKind.bits .i64) (W (((BitVec.ofInt (IntKind.bits .i64) (Int.fdiv (W ((W (x0.2.2 * 6364136223846793005)) + 1442695040888963407)) (2 ^ (min (Int.toNat 33) (IntKind.bits .i64)))) ^^^ BitVec.ofInt (IntKind.bits .i64) (Int.fdiv (W ((W (x0.2.2 * 6364136223846793005)) + 1442695040888963407)) (2 ^ (min (Int.toNat 45) (IntKind.bits .i64))))).toNat : Int))) &&& BitVec.ofInt (IntKind.bits .i64) 255).toNat : Int))) + ((at' x0.1 x0.2.1).toNat : Int))) &&& BitVec.ofInt (IntKind.bits .i64) 255).toNat : Int))), (W (x0.2.1 + 1))))
  else
  j16 ((W (((BitVec.ofInt (IntKind.bits .i64) (W (((BitVec.ofInt (IntKind.bits .i64) (Int.fdiv (W ((W (x0.2.2 * 6364136223846793005)) + 1442695040888963407)) (2 ^ (min (Int.toNat 33) (IntKind.bits .i64)))) ^^^ BitVec.ofInt (IntKind.bits .i64) (Int.fdiv (W ((W (x0.2.2 * 6364136223846793005)) + 1442695040888963407)) (2 ^ (min (Int.toNat 45) (IntKind.bits .i64))))).toNat : Int))) &&& BitVec.ofInt (IntKind.bits .i64) 255).toNat : Int))), x0.2.1)))

theorem ok_s_l01Byte (x0 : List UInt8 × Int × Int) (a2 : Option Addr) (a3 : Option Addr) (c4 : Nat) (l5 : Nat) (hl6 : x0.1.length = l5) (r : Int × List UInt8 × Int × Int) (h : M_s_l01Byte x0 = some r) :
    FX Try.prog 94 [.pointer a2] [⟨.byte, ⟨a3, l5, c4⟩, x0.1⟩] [⟨(.pair .val (.pair (.int .i64) (.int .i64))), ⟨a2, 1, 1⟩, [((Sl.v ⟨a3, l5, c4⟩), x0.2.1, x0.2.2)]⟩] (fun _ : Unit => True) (fun _ => .int .i64 r.1) (fun _ => [⟨(.pair .val (.pair (.int .i64) (.int .i64))), ⟨a2, 1, 1⟩, [((Sl.v ⟨a3, l5, c4⟩), r.2.2.1, r.2.2.2)]⟩]) :=
  by
    subst hl6
    refine FX.of (T := TTx) Try.call94 Try.func94 rfl rfl fun w0 L0 => ?_
    unfold M_s_l01Byte at h
    refine JS.ptr 0 a2 rfl ?_
    refine JS.seq ?_
    refine JS.region ?_
    refine JO.reg ttOk 1 [] [] [] _ rfl ⟨trivial, rfl⟩ ?_
    refine JO.done rfl ?_
    refine JS.seq ?_
    refine JS.region ?_
    refine JO.know 1 rfl fun hs21 => ?_
    refine JO.reg ttOk 4 [] [] [(4, .ep ⟨a2, 1, 1⟩ 0), (7, .ep ⟨a2, 1, 1⟩ 2)] _ rfl ⟨(hs21.fa ptr0).1, hs21.fa ptr0, ⟨rfl, rfl, trivial⟩, rfl⟩ ?_
    refine JO.loadV ttOk rfl rfl rfl rfl rfl rfl 1 rfl rfl 0 2 ((Sl.v ⟨a3, x0.1.length, c4⟩), x0.2.1, x0.2.2) ⟨rfl, rfl⟩ rfl rfl rfl ?_
    refine JO.reg ttOk 4 [(W (x0.2.2 * 6364136223846793005)), (W ((W (x0.2.2 * 6364136223846793005)) + 1442695040888963407))] [] [(10, .v (.int .i64 (W ((W (x0.2.2 * 6364136223846793005)) + 1442695040888963407)))), (12, .ep ⟨a2, 1, 1⟩ 2)] _ rfl ⟨⟨trivial, rfl⟩, ⟨trivial, rfl⟩, (hs21.fa ptr0).1, hs21.fa ptr0, ⟨rfl, rfl, trivial⟩, rfl⟩ ?_
    refine JO.storeE ttOk rfl rfl rfl rfl rfl rfl rfl rfl rfl [0] (fs := []) rfl 0 2 ((Sl.v ⟨a3, x0.1.length, c4⟩), x0.2.1, x0.2.2) ((Sl.v ⟨a3, x0.1.length, c4⟩), x0.2.1, (W ((W (x0.2.2 * 6364136223846793005)) + 1442695040888963407))) ⟨rfl, rfl⟩ ⟨⟨⟨rfl, rfl, rfl⟩, rfl⟩, rfl⟩ ?_
    refine JO.done rfl ?_
    refine JS.seq ?_
    have g8 : (0 : Int) ≤ 33 := by decide
    have g9 : (0 : Int) ≤ 45 := by decide
    refine JS.regionQ rfl (by kernel_rfl) ?_
    refine JQ.reg ttOk 3 [] [(15, .ep ⟨a2, 1, 1⟩ 2)] rfl ⟨(hs21.fa ptr0).1, hs21.fa ptr0, ⟨rfl, trivial⟩⟩ ?_
    refine JQ.loadV ttOk rfl rfl rfl rfl rfl rfl 1 rfl rfl 0 2 ((Sl.v ⟨a3, x0.1.length, c4⟩), x0.2.1, (W ((W (x0.2.2 * 6364136223846793005)) + 1442695040888963407))) ⟨rfl, rfl⟩ rfl rfl rfl ?_
    refine JQ.reg ttOk 4 [] [(17, .v (.int .i64 (Int.fdiv (W ((W (x0.2.2 * 6364136223846793005)) + 1442695040888963407)) (2 ^ (min (Int.toNat 33) (IntKind.bits .i64)))))), (20, .ep ⟨a2, 1, 1⟩ 2)] rfl ⟨g8, (hs21.fa ptr0).1, hs21.fa ptr0, ⟨rfl, rfl, trivial⟩⟩ ?_
    refine JQ.loadV ttOk rfl rfl rfl rfl rfl rfl 1 rfl rfl 0 2 ((Sl.v ⟨a3, x0.1.length, c4⟩), x0.2.1, (W ((W (x0.2.2 * 6364136223846793005)) + 1442695040888963407))) ⟨rfl, rfl⟩ rfl rfl rfl ?_
    refine JQ.reg ttOk 4 [(W (((BitVec.ofInt (IntKind.bits .i64) (Int.fdiv (W ((W (x0.2.2 * 6364136223846793005)) + 1442695040888963407)) (2 ^ (min (Int.toNat 33) (IntKind.bits .i64)))) ^^^ BitVec.ofInt (IntKind.bits .i64) (Int.fdiv (W ((W (x0.2.2 * 6364136223846793005)) + 1442695040888963407)) (2 ^ (min (Int.toNat 45) (IntKind.bits .i64))))).toNat : Int))), (W (((BitVec.ofInt (IntKind.bits .i64) (W (((BitVec.ofInt (IntKind.bits .i64) (Int.fdiv (W ((W (x0.2.2 * 6364136223846793005)) + 1442695040888963407)) (2 ^ (min (Int.toNat 33) (IntKind.bits .i64)))) ^^^ BitVec.ofInt (IntKind.bits .i64) (Int.fdiv (W ((W (x0.2.2 * 6364136223846793005)) + 1442695040888963407)) (2 ^ (min (Int.toNat 45) (IntKind.bits .i64))))).toNat : Int))) &&& BitVec.ofInt (IntKind.bits .i64) 255).toNat : Int)))] [(3, .v (.int .i64 (W (((BitVec.ofInt (IntKind.bits .i64) (W (((BitVec.ofInt (IntKind.bits .i64) (Int.fdiv (W ((W (x0.2.2 * 6364136223846793005)) + 1442695040888963407)) (2 ^ (min (Int.toNat 33) (IntKind.bits .i64)))) ^^^ BitVec.ofInt (IntKind.bits .i64) (Int.fdiv (W ((W (x0.2.2 * 6364136223846793005)) + 1442695040888963407)) (2 ^ (min (Int.toNat 45) (IntKind.bits .i64))))).toNat : Int))) &&& BitVec.ofInt (IntKind.bits .i64) 255).toNat : Int)))))] rfl ⟨g9, ⟨trivial, rfl⟩, ⟨trivial, rfl⟩, ⟨rfl, trivial⟩⟩ ?_
    refine JQ.done rfl ?_
    obtain ⟨j16, hj25, h⟩ := joinO_some h
    refine JS.seqJ (ι := Int × Int) ⟨fun z => j16 (z.1, z.2) = some r, fun z => [(3, .v (.int .i64 z.1))], fun z => .nil, fun z => [⟨.byte, ⟨a3, x0.1.length, c4⟩, x0.1⟩], fun z => [⟨(.pair .val (.pair (.int .i64) (.int .i64))), ⟨a2, 1, 1⟩, [((Sl.v ⟨a3, x0.1.length, c4⟩), z.2, (W ((W (x0.2.2 * 6364136223846793005)) + 1442695040888963407)))]⟩], fun z => 0⟩ ?_ ?_
    · refine JS.seq ?_
      refine JS.regionQ rfl (by kernel_rfl) ?_
      refine JQ.reg ttOk 3 [] [(27, .ep ⟨a2, 1, 1⟩ 1)] rfl ⟨(hs21.fa ptr0).1, hs21.fa ptr0, ⟨rfl, trivial⟩⟩ ?_
      refine JQ.loadV ttOk rfl rfl rfl rfl rfl rfl 1 rfl rfl 0 1 ((Sl.v ⟨a3, x0.1.length, c4⟩), x0.2.1, (W ((W (x0.2.2 * 6364136223846793005)) + 1442695040888963407))) ⟨rfl, rfl⟩ rfl rfl rfl ?_
      refine JQ.reg ttOk 3 [] [(31, .ep ⟨a2, 1, 1⟩ 0)] rfl ⟨(hs21.fa ptr0).1, hs21.fa ptr0, ⟨rfl, trivial⟩⟩ ?_
      refine JQ.loadV ttOk rfl rfl rfl rfl rfl rfl 1 rfl rfl 0 0 ((Sl.v ⟨a3, x0.1.length, c4⟩), x0.2.1, (W ((W (x0.2.2 * 6364136223846793005)) + 1442695040888963407))) ⟨rfl, rfl⟩ rfl rfl rfl ?_
      refine JQ.reg ttOk 2 [] [(34, .v (.bool (decide (x0.2.1 < (x0.1.length : Int)))))] rfl ⟨rfl, trivial⟩ ?_
      refine JQ.done rfl ?_
      refine JS.cond rfl (fun ht24 => ?_) (fun ht24 => ?_)
      · have h := condT h ht24
        refine JS.seq ?_
        obtain ⟨g11, h⟩ := guardO_some h
        refine JS.know 0 rfl fun hs23 => ?_
        refine JS.regionQ rfl (by kernel_rfl) ?_
        refine JQ.reg ttOk 4 [] [(35, .v (.int .i64 (W (((BitVec.ofInt (IntKind.bits .i64) (W (((BitVec.ofInt (IntKind.bits .i64) (Int.fdiv (W ((W (x0.2.2 * 6364136223846793005)) + 1442695040888963407)) (2 ^ (min (Int.toNat 33) (IntKind.bits .i64)))) ^^^ BitVec.ofInt (IntKind.bits .i64) (Int.fdiv (W ((W (x0.2.2 * 6364136223846793005)) + 1442695040888963407)) (2 ^ (min (Int.toNat 45) (IntKind.bits .i64))))).toNat : Int))) &&& BitVec.ofInt (IntKind.bits .i64) 255).toNat : Int))))), (38, .ep ⟨a2, 1, 1⟩ 0)] rfl ⟨(hs21.fa ptr0).1, hs21.fa ptr0, ⟨rfl, rfl, trivial⟩⟩ ?_
        refine JQ.loadV ttOk rfl rfl rfl rfl rfl rfl 1 rfl rfl 0 0 ((Sl.v ⟨a3, x0.1.length, c4⟩), x0.2.1, (W ((W (x0.2.2 * 6364136223846793005)) + 1442695040888963407))) ⟨rfl, rfl⟩ rfl rfl rfl ?_
        refine JQ.reg ttOk 3 [] [(42, .ep ⟨a2, 1, 1⟩ 1)] rfl ⟨(hs21.fa ptr0).1, hs21.fa ptr0, ⟨rfl, trivial⟩⟩ ?_
        refine JQ.loadV ttOk rfl rfl rfl rfl rfl rfl 1 rfl rfl 0 1 ((Sl.v ⟨a3, x0.1.length, c4⟩), x0.2.1, (W ((W (x0.2.2 * 6364136223846793005)) + 1442695040888963407))) ⟨rfl, rfl⟩ rfl rfl rfl ?_
        refine JQ.reg ttOk 1 [] [(44, .ep ⟨a3, x0.1.length, c4⟩ (Int.toNat x0.2.1 * 1))] rfl ⟨hs23.ix g11, ⟨rfl, trivial⟩⟩ ?_
        refine JQ.load ttOk rfl rfl rfl rfl rfl rfl rfl 0 rfl rfl (Int.toNat x0.2.1) 0 (at' x0.1 x0.2.1) ⟨at_some g11, rfl⟩ rfl rfl ?_
        refine JQ.reg ttOk 4 [((at' x0.1 x0.2.1).toNat : Int), (W ((W (((BitVec.ofInt (IntKind.bits .i64) (W (((BitVec.ofInt (IntKind.bits .i64) (Int.fdiv (W ((W (x0.2.2 * 6364136223846793005)) + 1442695040888963407)) (2 ^ (min (Int.toNat 33) (IntKind.bits .i64)))) ^^^ BitVec.ofInt (IntKind.bits .i64) (Int.fdiv (W ((W (x0.2.2 * 6364136223846793005)) + 1442695040888963407)) (2 ^ (min (Int.toNat 45) (IntKind.bits .i64))))).toNat : Int))) &&& BitVec.ofInt (IntKind.bits .i64) 255).toNat : Int))) + ((at' x0.1 x0.2.1).toNat : Int))), (W (((BitVec.ofInt (IntKind.bits .i64) (W ((W (((BitVec.ofInt (IntKind.bits .i64) (W (((BitVec.ofInt (IntKind.bits .i64) (Int.fdiv (W ((W (x0.2.2 * 6364136223846793005)) + 1442695040888963407)) (2 ^ (min (Int.toNat 33) (IntKind.bits .i64)))) ^^^ BitVec.ofInt (IntKind.bits .i64) (Int.fdiv (W ((W (x0.2.2 * 6364136223846793005)) + 1442695040888963407)) (2 ^ (min (Int.toNat 45) (IntKind.bits .i64))))).toNat : Int))) &&& BitVec.ofInt (IntKind.bits .i64) 255).toNat : Int))) + ((at' x0.1 x0.2.1).toNat : Int))) &&& BitVec.ofInt (IntKind.bits .i64) 255).toNat : Int)))] [(3, .v (.int .i64 (W (((BitVec.ofInt (IntKind.bits .i64) (W ((W (((BitVec.ofInt (IntKind.bits .i64) (W (((BitVec.ofInt (IntKind.bits .i64) (Int.fdiv (W ((W (x0.2.2 * 6364136223846793005)) + 1442695040888963407)) (2 ^ (min (Int.toNat 33) (IntKind.bits .i64)))) ^^^ BitVec.ofInt (IntKind.bits .i64) (Int.fdiv (W ((W (x0.2.2 * 6364136223846793005)) + 1442695040888963407)) (2 ^ (min (Int.toNat 45) (IntKind.bits .i64))))).toNat : Int))) &&& BitVec.ofInt (IntKind.bits .i64) 255).toNat : Int))) + ((at' x0.1 x0.2.1).toNat : Int))) &&& BitVec.ofInt (IntKind.bits .i64) 255).toNat : Int)))))] rfl ⟨⟨trivial, W_byte _⟩, ⟨trivial, rfl⟩, ⟨trivial, rfl⟩, ⟨rfl, trivial⟩⟩ ?_
        refine JQ.done rfl ?_
        refine JS.region ?_
        refine JO.reg ttOk 4 [] [] [(49, .ep ⟨a2, 1, 1⟩ 0), (52, .ep ⟨a2, 1, 1⟩ 1)] _ rfl ⟨(hs21.fa ptr0).1, hs21.fa ptr0, ⟨rfl, rfl, trivial⟩, rfl⟩ ?_
        refine JO.loadV ttOk rfl rfl rfl rfl rfl rfl 1 rfl rfl 0 1 ((Sl.v ⟨a3, x0.1.length, c4⟩), x0.2.1, (W ((W (x0.2.2 * 6364136223846793005)) + 1442695040888963407))) ⟨rfl, rfl⟩ rfl rfl rfl ?_
        refine JO.reg ttOk 3 [(W (x0.2.1 + 1))] [] [(54, .v (.int .i64 (W (x0.2.1 + 1)))), (56, .ep ⟨a2, 1, 1⟩ 1)] _ rfl ⟨⟨trivial, rfl⟩, (hs21.fa ptr0).1, hs21.fa ptr0, ⟨rfl, rfl, trivial⟩, rfl⟩ ?_
        refine JO.storeE ttOk rfl rfl rfl rfl rfl rfl rfl rfl rfl [0] (fs := []) rfl 0 1 ((Sl.v ⟨a3, x0.1.length, c4⟩), x0.2.1, (W ((W (x0.2.2 * 6364136223846793005)) + 1442695040888963407))) ((Sl.v ⟨a3, x0.1.length, c4⟩), (W (x0.2.1 + 1)), (W ((W (x0.2.2 * 6364136223846793005)) + 1442695040888963407))) ⟨rfl, rfl⟩ ⟨⟨⟨rfl, rfl, rfl⟩, rfl⟩, rfl⟩ ?_
        refine JO.done rfl ?_
        exact JS.endJ ((W (((BitVec.ofInt (IntKind.bits .i64) (W ((W (((BitVec.ofInt (IntKind.bits .i64) (W (((BitVec.ofInt (IntKind.bits .i64) (Int.fdiv (W ((W (x0.2.2 * 6364136223846793005)) + 1442695040888963407)) (2 ^ (min (Int.toNat 33) (IntKind.bits .i64)))) ^^^ BitVec.ofInt (IntKind.bits .i64) (Int.fdiv (W ((W (x0.2.2 * 6364136223846793005)) + 1442695040888963407)) (2 ^ (min (Int.toNat 45) (IntKind.bits .i64))))).toNat : Int))) &&& BitVec.ofInt (IntKind.bits .i64) 255).toNat : Int))) + ((at' x0.1 x0.2.1).toNat : Int))) &&& BitVec.ofInt (IntKind.bits .i64) 255).toNat : Int))), (W (x0.2.1 + 1))) h ⟨rfl, trivial⟩ trivial [0] rfl [0] rfl
      · have h := condF h ht24
        refine JS.skip ?_
        exact JS.endJ ((W (((BitVec.ofInt (IntKind.bits .i64) (W (((BitVec.ofInt (IntKind.bits .i64) (Int.fdiv (W ((W (x0.2.2 * 6364136223846793005)) + 1442695040888963407)) (2 ^ (min (Int.toNat 33) (IntKind.bits .i64)))) ^^^ BitVec.ofInt (IntKind.bits .i64) (Int.fdiv (W ((W (x0.2.2 * 6364136223846793005)) + 1442695040888963407)) (2 ^ (min (Int.toNat 45) (IntKind.bits .i64))))).toNat : Int))) &&& BitVec.ofInt (IntKind.bits .i64) 255).toNat : Int))), x0.2.1) h ⟨rfl, trivial⟩ trivial [0] rfl [0] rfl
    · rintro ⟨x14, x15⟩ h
      subst hj25
      refine JS.seq ?_
      refine JS.region ?_
      refine JO.reg ttOk 2 [] [] [(2, .v (.int .i64 x14))] _ rfl ⟨⟨rfl, trivial⟩, rfl⟩ ?_
      refine JO.done rfl ?_
      cases h
      exact JS.retX ttOk () trivial rfl rfl [0] rfl

def M_s_l01Below (x0 : List UInt8 × Int × Int) (x1 : Int) : Option (Int × List UInt8 × Int × Int) :=
  (bif (decide (x1 ≤ 0)) then
  some (0, (x0.1, x0.2.1, x0.2.2))
  else
  (bif (decide (x1 ≤ 256)) then
  (bindO (M_s_l01Byte (x0.1, x0.2.1, x0.2.2)) fun (y8, y9) =>
  (guardO (x1 ≠ 0) <|
  some ((Int.tmod y8 x1), (x0.1, y9.2.1, y9.2.2))))
  else
  (bindO (M_s_l01Byte (x0.1, x0.2.1, x0.2.2)) fun (y12, y13) =>
  (bindO (M_s_l01Byte (x0.1, y13.2.1, y13.2.2)) fun (y15, y16) =>
  (bindO (M_s_l01Byte (x0.1, y16.2.1, y16.2.2)) fun (y18, y19) =>
  (bindO (M_s_l01Byte (x0.1, y19.2.1, y19.2.2)) fun (y21, y22) =>
  (guardO (x1 ≠ 0) <|
  some ((Int.tmod (W ((W ((W ((W (y12 * 16777216)) + (W (y15 * 65536)))) + (W (y18 * 256)))) + y21)) x1), (x0.1, y22.2.1, y22.2.2)))))))))

theorem ok_s_l01Below (x0 : List UInt8 × Int × Int) (x1 : Int) (a3 : Option Addr) (a4 : Option Addr) (c5 : Nat) (l6 : Nat) (hl7 : x0.1.length = l6) (r : Int × List UInt8 × Int × Int) (h : M_s_l01Below x0 x1 = some r) :
    FX Try.prog 41 [.pointer a3, .int .i64 x1] [⟨.byte, ⟨a4, l6, c5⟩, x0.1⟩] [⟨(.pair .val (.pair (.int .i64) (.int .i64))), ⟨a3, 1, 1⟩, [((Sl.v ⟨a4, l6, c5⟩), x0.2.1, x0.2.2)]⟩] (fun _ : Unit => True) (fun _ => .int .i64 r.1) (fun _ => [⟨(.pair .val (.pair (.int .i64) (.int .i64))), ⟨a3, 1, 1⟩, [((Sl.v ⟨a4, l6, c5⟩), r.2.2.1, r.2.2.2)]⟩]) :=
  by
    subst hl7
    refine FX.of (T := TTx) Try.call41 Try.func41 rfl rfl fun w0 L0 => ?_
    unfold M_s_l01Below at h
    refine JS.ptr 0 a3 rfl ?_
    refine JS.seq ?_
    refine JS.region ?_
    refine JO.reg ttOk 1 [] [] [] _ rfl ⟨trivial, rfl⟩ ?_
    refine JO.done rfl ?_
    refine JS.seq ?_
    refine JS.seq ?_
    refine JS.region ?_
    refine JO.reg ttOk 2 [] [] [(10, .v (.bool (decide (x1 ≤ 0))))] _ rfl ⟨⟨rfl, trivial⟩, rfl⟩ ?_
    refine JO.done rfl ?_
    refine JS.cond rfl (fun ht28 => ?_) (fun ht28 => ?_)
    · have h := condT h ht28
      refine JS.seq ?_
      refine JS.region ?_
      refine JO.reg ttOk 1 [] [] [(4, .v (.int .i64 0))] _ rfl ⟨⟨rfl, trivial⟩, rfl⟩ ?_
      refine JO.done rfl ?_
      cases h
      exact JS.retX ttOk () trivial rfl rfl [0] rfl
    · have h := condF h ht28
      refine JS.skip ?_
      refine JS.seq ?_
      refine JS.seq ?_
      refine JS.region ?_
      refine JO.reg ttOk 2 [] [] [(12, .v (.bool (decide (x1 ≤ 256))))] _ rfl ⟨⟨rfl, trivial⟩, rfl⟩ ?_
      refine JO.done rfl ?_
      refine JS.cond rfl (fun ht27 => ?_) (fun ht27 => ?_)
      · have h := condT h ht27
        refine JS.seq ?_
        refine JS.region ?_
        refine JO.reg ttOk 1 [] [] [(13, .ep ⟨a3, 1, 1⟩ 0)] _ rfl ⟨⟨rfl, trivial⟩, rfl⟩ ?_
        obtain ⟨⟨y8, y9⟩, hy10, h⟩ := bindO_some h
        refine JO.callX rfl rfl rfl rfl (ok_s_l01Byte (x0.1, x0.2.1, x0.2.2) a3 a4 c5 x0.1.length rfl _ hy10) rfl [0] rfl [0] rfl rfl ?_
        intro _ _
        obtain ⟨g11, h⟩ := guardO_some h
        refine JO.reg ttOk 3 [] [] [(4, .v (.int .i64 (Int.tmod y8 x1)))] _ rfl ⟨g11, ⟨rfl, trivial⟩, rfl⟩ ?_
        refine JO.done rfl ?_
        cases h
        exact JS.retX ttOk () trivial rfl rfl [0] rfl
      · have h := condF h ht27
        refine JS.skip ?_
        refine JS.seq ?_
        refine JS.region ?_
        refine JO.reg ttOk 1 [] [] [(17, .ep ⟨a3, 1, 1⟩ 0)] _ rfl ⟨⟨rfl, trivial⟩, rfl⟩ ?_
        obtain ⟨⟨y12, y13⟩, hy14, h⟩ := bindO_some h
        refine JO.callX rfl rfl rfl rfl (ok_s_l01Byte (x0.1, x0.2.1, x0.2.2) a3 a4 c5 x0.1.length rfl _ hy14) rfl [0] rfl [0] rfl rfl ?_
        intro _ _
        refine JO.reg ttOk 1 [] [] [(5, .v (.int .i64 y12))] _ rfl ⟨⟨rfl, trivial⟩, rfl⟩ ?_
        refine JO.done rfl ?_
        refine JS.seq ?_
        refine JS.region ?_
        refine JO.reg ttOk 1 [] [] [(19, .ep ⟨a3, 1, 1⟩ 0)] _ rfl ⟨⟨rfl, trivial⟩, rfl⟩ ?_
        obtain ⟨⟨y15, y16⟩, hy17, h⟩ := bindO_some h
        refine JO.callX rfl rfl rfl rfl (ok_s_l01Byte (x0.1, y13.2.1, y13.2.2) a3 a4 c5 x0.1.length rfl _ hy17) rfl [0] rfl [0] rfl rfl ?_
        intro _ _
        refine JO.reg ttOk 1 [] [] [(6, .v (.int .i64 y15))] _ rfl ⟨⟨rfl, trivial⟩, rfl⟩ ?_
        refine JO.done rfl ?_
        refine JS.seq ?_
        refine JS.region ?_
        refine JO.reg ttOk 1 [] [] [(21, .ep ⟨a3, 1, 1⟩ 0)] _ rfl ⟨⟨rfl, trivial⟩, rfl⟩ ?_
        obtain ⟨⟨y18, y19⟩, hy20, h⟩ := bindO_some h
        refine JO.callX rfl rfl rfl rfl (ok_s_l01Byte (x0.1, y16.2.1, y16.2.2) a3 a4 c5 x0.1.length rfl _ hy20) rfl [0] rfl [0] rfl rfl ?_
        intro _ _
        refine JO.reg ttOk 1 [] [] [(7, .v (.int .i64 y18))] _ rfl ⟨⟨rfl, trivial⟩, rfl⟩ ?_
        refine JO.done rfl ?_
        refine JS.seq ?_
        refine JS.region ?_
        refine JO.reg ttOk 1 [] [] [(23, .ep ⟨a3, 1, 1⟩ 0)] _ rfl ⟨⟨rfl, trivial⟩, rfl⟩ ?_
        obtain ⟨⟨y21, y22⟩, hy23, h⟩ := bindO_some h
        refine JO.callX rfl rfl rfl rfl (ok_s_l01Byte (x0.1, y19.2.1, y19.2.2) a3 a4 c5 x0.1.length rfl _ hy23) rfl [0] rfl [0] rfl rfl ?_
        intro _ _
        refine JO.reg ttOk 1 [] [] [(8, .v (.int .i64 y21))] _ rfl ⟨⟨rfl, trivial⟩, rfl⟩ ?_
        refine JO.done rfl ?_
        refine JS.seq ?_
        refine JS.region ?_
        obtain ⟨g24, h⟩ := guardO_some h
        refine JO.reg ttOk 13 [(W (y12 * 16777216)), (W (y15 * 65536)), (W ((W (y12 * 16777216)) + (W (y15 * 65536)))), (W (y18 * 256)), (W ((W ((W (y12 * 16777216)) + (W (y15 * 65536)))) + (W (y18 * 256)))), (W ((W ((W ((W (y12 * 16777216)) + (W (y15 * 65536)))) + (W (y18 * 256)))) + y21))] [] [(4, .v (.int .i64 (Int.tmod (W ((W ((W ((W (y12 * 16777216)) + (W (y15 * 65536)))) + (W (y18 * 256)))) + y21)) x1)))] _ rfl ⟨⟨trivial, rfl⟩, ⟨trivial, rfl⟩, ⟨trivial, rfl⟩, ⟨trivial, rfl⟩, ⟨trivial, rfl⟩, ⟨trivial, rfl⟩, g24, ⟨rfl, trivial⟩, rfl⟩ ?_
        refine JO.done rfl ?_
        cases h
        exact JS.retX ttOk () trivial rfl rfl [0] rfl

def M_s_l02Rune (x0 : List UInt8 × Int × Int) : Option (Int × List UInt8 × Int × Int) :=
  (bindO (M_s_l01Below (x0.1, x0.2.1, x0.2.2) 12) fun (y7, y8) =>
  (bif (decide (y7 < 9)) then
  (bindO (M_s_l01Below (x0.1, y8.2.1, y8.2.2) 16) fun (y11, y12) =>
  (guardO (0 ≤ y11 ∧ y11 < (([97, 98, 99, 120, 49, 50, 32, 32, 46, 45, 95, 233, 4352, 20013, 128512, 47] : List Int).length : Int)) <|
  some ((at' ([97, 98, 99, 120, 49, 50, 32, 32, 46, 45, 95, 233, 4352, 20013, 128512, 47] : List Int) y11), (x0.1, y12.2.1, y12.2.2))))
  else
  (bif (decide (y7 = 9)) then
  (bindO (M_s_l01Below (x0.1, y8.2.1, y8.2.2) 94) fun (y16, y17) =>
  some ((W (33 + y16)), (x0.1, y17.2.1, y17.2.2)))
  else
  (bif (decide (y7 = 10)) then
  (bindO (M_s_l01Below (x0.1, y8.2.1, y8.2.2) 300) fun (y19, y20) =>
  some ((W (160 + y19)), (x0.1, y20.2.1, y20.2.2)))
  else
  (bindO (M_s_l01Below (x0.1, y8.2.1, y8.2.2) 2000) fun (y22, y23) =>
  some ((W (19968 + y22)), (x0.1, y23.2.1, y23.2.2)))))))

theorem ok_s_l02Rune (x0 : List UInt8 × Int × Int) (a2 : Option Addr) (a3 : Option Addr) (c4 : Nat) (l5 : Nat) (hl6 : x0.1.length = l5) (r : Int × List UInt8 × Int × Int) (h : M_s_l02Rune x0 = some r) :
    FX Try.prog 129 [.pointer a2] [⟨.byte, ⟨a3, l5, c4⟩, x0.1⟩] [⟨(.pair .val (.pair (.int .i64) (.int .i64))), ⟨a2, 1, 1⟩, [((Sl.v ⟨a3, l5, c4⟩), x0.2.1, x0.2.2)]⟩] (fun _ : Unit => True) (fun _ => .int .i64 r.1) (fun _ => [⟨(.pair .val (.pair (.int .i64) (.int .i64))), ⟨a2, 1, 1⟩, [((Sl.v ⟨a3, l5, c4⟩), r.2.2.1, r.2.2.2)]⟩]) :=
  by
    subst hl6
    refine FX.of (T := TTx) Try.call129 Try.func129 rfl rfl fun w0 L0 => ?_
    unfold M_s_l02Rune at h
    refine JS.ptr 0 a2 rfl ?_
    refine JS.seq ?_
    refine JS.region ?_
    refine JO.reg ttOk 1 [] [] [] _ rfl ⟨trivial, rfl⟩ ?_
    refine JO.done rfl ?_
    refine JS.seq ?_
    refine JS.region ?_
    refine JO.reg ttOk 1 [] [] [(4, .ep ⟨a2, 1, 1⟩ 0)] _ rfl ⟨⟨rfl, trivial⟩, rfl⟩ ?_
    obtain ⟨⟨y7, y8⟩, hy9, h⟩ := bindO_some h
    refine JO.callX rfl rfl rfl rfl (ok_s_l01Below (x0.1, x0.2.1, x0.2.2) 12 a2 a3 c4 x0.1.length rfl _ hy9) rfl [0] rfl [0] rfl rfl ?_
    intro _ _
    refine JO.reg ttOk 1 [] [] [(3, .v (.int .i64 y7))] _ rfl ⟨⟨rfl, trivial⟩, rfl⟩ ?_
    refine JO.done rfl ?_
    refine JS.seq ?_
    refine JS.seq ?_
    refine JS.region ?_
    refine JO.reg ttOk 2 [] [] [(7, .v (.bool (decide (y7 < 9))))] _ rfl ⟨⟨rfl, trivial⟩, rfl⟩ ?_
    refine JO.done rfl ?_
    refine JS.cond rfl (fun ht31 => ?_) (fun ht31 => ?_)
    · have h := condT h ht31
      refine JS.seq ?_
      refine JS.region ?_
      refine JO.ofK rfl (JK.buildSlice ttOk rfl rfl rfl rfl rfl rfl rfl rfl rfl rfl rfl [] rfl (.int .i64) [97, 98, 99, 120, 49, 50, 32, 32, 46, 45, 95, 233, 4352, 20013, 128512, 47] ⟨rfl, rfl⟩ rfl rfl fun a10 => JO.toK ?_)
      refine JO.reg ttOk 1 [] [] [(9, .ep ⟨a2, 1, 1⟩ 0)] _ rfl ⟨⟨rfl, trivial⟩, rfl⟩ ?_
      obtain ⟨⟨y11, y12⟩, hy13, h⟩ := bindO_some h
      refine JO.callX rfl rfl rfl rfl (ok_s_l01Below (x0.1, y8.2.1, y8.2.2) 16 a2 a3 c4 x0.1.length rfl _ hy13) rfl [1] rfl [0] rfl rfl ?_
      intro _ _
      refine JO.know 2 rfl fun hs28 => ?_
      obtain ⟨g15, h⟩ := guardO_some h
      refine JO.reg ttOk 1 [] [] [(11, .ep ⟨a10, ([97, 98, 99, 120, 49, 50, 32, 32, 46, 45, 95, 233, 4352, 20013, 128512, 47] : List Int).length, ([97, 98, 99, 120, 49, 50, 32, 32, 46, 45, 95, 233, 4352, 20013, 128512, 47] : List Int).length⟩ (Int.toNat y11 * 1))] _ rfl ⟨hs28.ix g15, ⟨rfl, trivial⟩, rfl⟩ ?_
      refine JO.load ttOk rfl rfl rfl rfl rfl rfl rfl 2 rfl rfl (Int.toNat y11) 0 (at' ([97, 98, 99, 120, 49, 50, 32, 32, 46, 45, 95, 233, 4352, 20013, 128512, 47] : List Int) y11) ⟨at_some g15, rfl⟩ rfl rfl ?_
      refine JO.reg ttOk 1 [] [] [(2, .v (.int .i64 (at' ([97, 98, 99, 120, 49, 50, 32, 32, 46, 45, 95, 233, 4352, 20013, 128512, 47] : List Int) y11)))] _ rfl ⟨⟨rfl, trivial⟩, rfl⟩ ?_
      refine JO.done rfl ?_
      cases h
      exact JS.retX ttOk () trivial rfl rfl [0] rfl
    · have h := condF h ht31
      refine JS.skip ?_
      refine JS.seq ?_
      refine JS.seq ?_
      refine JS.region ?_
      refine JO.reg ttOk 2 [] [] [(14, .v (.bool (decide (y7 = 9))))] _ rfl ⟨⟨rfl, trivial⟩, rfl⟩ ?_
      refine JO.done rfl ?_
      refine JS.cond rfl (fun ht30 => ?_) (fun ht30 => ?_)
      · have h := condT h ht30
        refine JS.seq ?_
        refine JS.region ?_
        refine JO.reg ttOk 1 [] [] [(15, .ep ⟨a2, 1, 1⟩ 0)] _ rfl ⟨⟨rfl, trivial⟩, rfl⟩ ?_
        obtain ⟨⟨y16, y17⟩, hy18, h⟩ := bindO_some h
        refine JO.callX rfl rfl rfl rfl (ok_s_l01Below (x0.1, y8.2.1, y8.2.2) 94 a2 a3 c4 x0.1.length rfl _ hy18) rfl [0] rfl [0] rfl rfl ?_
        intro _ _
        refine JO.reg ttOk 2 [(W (33 + y16))] [] [(2, .v (.int .i64 (W (33 + y16))))] _ rfl ⟨⟨trivial, rfl⟩, ⟨rfl, trivial⟩, rfl⟩ ?_
        refine JO.done rfl ?_
        cases h
        exact JS.retX ttOk () trivial rfl rfl [0] rfl
      · have h := condF h ht30
        refine JS.skip ?_
        refine JS.seq ?_
        refine JS.seq ?_
        refine JS.region ?_
        refine JO.reg ttOk 2 [] [] [(19, .v (.bool (decide (y7 = 10))))] _ rfl ⟨⟨rfl, trivial⟩, rfl⟩ ?_
        refine JO.done rfl ?_
        refine JS.cond rfl (fun ht29 => ?_) (fun ht29 => ?_)
        · have h := condT h ht29
          refine JS.seq ?_
          refine JS.region ?_
          refine JO.reg ttOk 1 [] [] [(20, .ep ⟨a2, 1, 1⟩ 0)] _ rfl ⟨⟨rfl, trivial⟩, rfl⟩ ?_
          obtain ⟨⟨y19, y20⟩, hy21, h⟩ := bindO_some h
          refine JO.callX rfl rfl rfl rfl (ok_s_l01Below (x0.1, y8.2.1, y8.2.2) 300 a2 a3 c4 x0.1.length rfl _ hy21) rfl [0] rfl [0] rfl rfl ?_
          intro _ _
          refine JO.reg ttOk 2 [(W (160 + y19))] [] [(2, .v (.int .i64 (W (160 + y19))))] _ rfl ⟨⟨trivial, rfl⟩, ⟨rfl, trivial⟩, rfl⟩ ?_
          refine JO.done rfl ?_
          cases h
          exact JS.retX ttOk () trivial rfl rfl [0] rfl
        · have h := condF h ht29
          refine JS.skip ?_
          refine JS.seq ?_
          refine JS.region ?_
          refine JO.reg ttOk 1 [] [] [(23, .ep ⟨a2, 1, 1⟩ 0)] _ rfl ⟨⟨rfl, trivial⟩, rfl⟩ ?_
          obtain ⟨⟨y22, y23⟩, hy24, h⟩ := bindO_some h
          refine JO.callX rfl rfl rfl rfl (ok_s_l01Below (x0.1, y8.2.1, y8.2.2) 2000 a2 a3 c4 x0.1.length rfl _ hy24) rfl [0] rfl [0] rfl rfl ?_
          intro _ _
          refine JO.reg ttOk 2 [(W (19968 + y22))] [] [(2, .v (.int .i64 (W (19968 + y22))))] _ rfl ⟨⟨trivial, rfl⟩, ⟨rfl, trivial⟩, rfl⟩ ?_
          refine JO.done rfl ?_
          cases h
          exact JS.retX ttOk () trivial rfl rfl [0] rfl

def M_s_l02Runes_L1 (x0 : List UInt8 × Int × Int) (j38 : (List Int × Int × Int) → Option (List Int × List UInt8 × Int × Int)) (k30 : (List Int × Int × Int × Int) → Option (List Int × List UInt8 × Int × Int)) : (List Int × Int × Int × Int) → Option (List Int × List UInt8 × Int × Int) := fun (x12, x15, x19, x20) =>
  (bif (decide (0 < x15)) then
  (bindO (M_s_l02Rune (x0.1, x19, x20)) fun (y21, y22) =>
  (guardO (x12.length + ([y21] : List Int).length ≤ 536870912) <|
  k30 ((x12 ++ ([y21] : List Int)), (W (x15 - 1)), y22.2.1, y22.2.2)))
  else
  j38 (x12, x19, x20))

def M_s_l02Runes (x0 : List UInt8 × Int × Int) (x1 : Int) : Option (List Int × List UInt8 × Int × Int) :=
  (bindO (M_s_l01Below (x0.1, x0.2.1, x0.2.2) (W (x1 + 1))) fun (y9, y10) =>
  (joinO (fun ((x33, x36, x37) : List Int × Int × Int) =>
  some (x33, (x0.1, x36, x37))) fun j38 =>
  (fixF (M_s_l02Runes_L1 x0 j38) FUEL (([] : List Int), y9, y10.2.1, y10.2.2))))

theorem ok_s_l02Runes (x0 : List UInt8 × Int × Int) (x1 : Int) (a3 : Option Addr) (a4 : Option Addr) (c5 : Nat) (l6 : Nat) (hl7 : x0.1.length = l6) (r : List Int × List UInt8 × Int × Int) (h : M_s_l02Runes x0 x1 = some r) :
    FX Try.prog 95 [.pointer a3, .int .i64 x1] [⟨.byte, ⟨a4, l6, c5⟩, x0.1⟩] [⟨(.pair .val (.pair (.int .i64) (.int .i64))), ⟨a3, 1, 1⟩, [((Sl.v ⟨a4, l6, c5⟩), x0.2.1, x0.2.2)]⟩] (fun _ : Option Addr × Nat => True) (fun q => .slice q.1 r.1.length q.2) (fun q => [⟨(.pair .val (.pair (.int .i64) (.int .i64))), ⟨a3, 1, 1⟩, [((Sl.v ⟨a4, l6, c5⟩), r.2.2.1, r.2.2.2)]⟩, ⟨(.int .i64), ⟨q.1, r.1.length, q.2⟩, r.1⟩]) :=
  by
    subst hl7
    refine FX.of (T := TTx) Try.call95 Try.func95 rfl rfl fun w0 L0 => ?_
    unfold M_s_l02Runes at h
    refine JS.ptr 0 a3 rfl ?_
    refine JS.seq ?_
    refine JS.region ?_
    refine JO.reg ttOk 1 [] [] [] _ rfl ⟨trivial, rfl⟩ ?_
    refine JO.done rfl ?_
    refine JS.seq ?_
    refine JS.region ?_
    refine JO.ofK rfl (JK.buildSlice ttOk rfl rfl rfl rfl rfl rfl rfl rfl rfl rfl rfl [] rfl (.int .i64) [] ⟨rfl, rfl⟩ rfl rfl fun a8 => JO.toK ?_)
    refine JO.reg ttOk 1 [] [] [(5, .v (.slice a8 ([] : List Int).length ([] : List Int).length))] _ rfl ⟨⟨rfl, trivial⟩, rfl⟩ ?_
    refine JO.done rfl ?_
    refine JS.seq ?_
    refine JS.seq ?_
    refine JS.region ?_
    refine JO.reg ttOk 3 [(W (x1 + 1))] [] [(8, .ep ⟨a3, 1, 1⟩ 0), (10, .v (.int .i64 (W (x1 + 1))))] _ rfl ⟨⟨trivial, rfl⟩, ⟨rfl, rfl, trivial⟩, rfl⟩ ?_
    obtain ⟨⟨y9, y10⟩, hy11, h⟩ := bindO_some h
    refine JO.callX rfl rfl rfl rfl (ok_s_l01Below (x0.1, x0.2.1, x0.2.2) (W (x1 + 1)) a3 a4 c5 x0.1.length rfl _ hy11) rfl [1] rfl [0] rfl rfl ?_
    intro _ _
    refine JO.reg ttOk 1 [] [] [(6, .v (.int .i64 y9))] _ rfl ⟨⟨rfl, trivial⟩, rfl⟩ ?_
    refine JO.done rfl ?_
    obtain ⟨j38, hj42, h⟩ := joinO_some h
    refine JS.blockJ (ι := List Int × Int × Int × Option Addr × Nat) ⟨fun z => j38 (z.1, z.2.1, z.2.2.1) = some r, fun z => [(5, .v (.slice z.2.2.2.1 z.1.length z.2.2.2.2))], fun z => .nil, fun z => [⟨.byte, ⟨a4, x0.1.length, c5⟩, x0.1⟩], fun z => [⟨(.int .i64), ⟨z.2.2.2.1, z.1.length, z.2.2.2.2⟩, z.1⟩, ⟨(.pair .val (.pair (.int .i64) (.int .i64))), ⟨a3, 1, 1⟩, [((Sl.v ⟨a4, x0.1.length, c5⟩), z.2.1, z.2.2.1)]⟩], fun z => 0⟩ ?_ ?_
    · refine JS.loop (ι := Nat × List Int × Int × Int × Int × Option Addr × Nat) ⟨fun z => fixF (M_s_l02Runes_L1 x0 j38) z.1 (z.2.1, z.2.2.1, z.2.2.2.1, z.2.2.2.2.1) = some r, fun z => [(0, .ep ⟨a3, 1, 1⟩ 0), (5, .v (.slice z.2.2.2.2.2.1 z.2.1.length z.2.2.2.2.2.2)), (6, .v (.int .i64 z.2.2.1))], fun z => .nil, fun z => [⟨.byte, ⟨a4, x0.1.length, c5⟩, x0.1⟩], fun z => [⟨(.int .i64), ⟨z.2.2.2.2.2.1, z.2.1.length, z.2.2.2.2.2.2⟩, z.2.1⟩, ⟨(.pair .val (.pair (.int .i64) (.int .i64))), ⟨a3, 1, 1⟩, [((Sl.v ⟨a4, x0.1.length, c5⟩), z.2.2.2.1, z.2.2.2.2.1)]⟩], fun z => z.1⟩ (FUEL, ([] : List Int), y9, y10.2.1, y10.2.2, a8, ([] : List Int).length) h ⟨rfl, rfl, rfl, trivial⟩ trivial [0] rfl [1, 0] rfl ?_
      rintro ⟨n31, x12, x15, x19, x20, a13, c14⟩ h
      obtain ⟨n31, rfl, h⟩ := fixF_some h
      rw [M_s_l02Runes_L1] at h
      refine JS.seq ?_
      refine JS.seq ?_
      refine JS.region ?_
      refine JO.reg ttOk 2 [] [] [(13, .v (.bool (decide (0 < x15))))] _ rfl ⟨⟨rfl, trivial⟩, rfl⟩ ?_
      refine JO.done rfl ?_
      refine JS.cond rfl (fun ht41 => ?_) (fun ht41 => ?_)
      · have h := condT h ht41
        refine JS.skip ?_
        refine JS.seq ?_
        refine JS.block ?_
        refine JS.region ?_
        refine JO.reg ttOk 2 [] [] [(16, .v (.slice a13 x12.length c14)), (17, .ep ⟨a3, 1, 1⟩ 0)] _ rfl ⟨⟨rfl, rfl, trivial⟩, rfl⟩ ?_
        obtain ⟨⟨y21, y22⟩, hy23, h⟩ := bindO_some h
        refine JO.callX rfl rfl rfl rfl (ok_s_l02Rune (x0.1, x19, x20) a3 a4 c5 x0.1.length rfl _ hy23) rfl [1] rfl [0] rfl rfl ?_
        intro _ _
        refine JO.ofK rfl (JK.buildSlice ttOk rfl rfl rfl rfl rfl rfl rfl rfl rfl rfl rfl [] rfl (.int .i64) [y21] ⟨rfl, rfl⟩ rfl rfl fun a24 => JO.toK ?_)
        obtain ⟨g25, h⟩ := guardO_some h
        refine JO.appendR' ttOk rfl rfl rfl rfl ⟨rfl, rfl, rfl, rfl, trivial, rfl, rfl, rfl, rfl⟩ rfl rfl rfl [2] rfl 1 rfl g25 rfl ?_
        intro a26 c27
        refine JO.reg ttOk 1 [] [] [(5, .v (.slice a26 (x12 ++ ([y21] : List Int)).length c27))] _ rfl ⟨⟨rfl, trivial⟩, rfl⟩ ?_
        refine JO.done rfl ?_
        refine JS.endB ?_
        refine JS.region ?_
        refine JO.reg ttOk 3 [(W (x15 - 1))] [] [(6, .v (.int .i64 (W (x15 - 1))))] _ rfl ⟨⟨trivial, rfl⟩, ⟨rfl, trivial⟩, rfl⟩ ?_
        refine JO.done rfl ?_
        exact JS.endL (n31, (x12 ++ ([y21] : List Int)), (W (x15 - 1)), y22.2.1, y22.2.2, a26, c27) h (Nat.lt_succ_self _) ⟨rfl, rfl, rfl, trivial⟩ trivial [0] rfl [0, 1] rfl
      · have h := condF h ht41
        refine JS.exit rfl ?_
        exact JS.endJ (x12, x19, x20, a13, c14) h ⟨rfl, trivial⟩ trivial [0] rfl [0, 0] rfl
    · rintro ⟨x33, x36, x37, a34, c35⟩ h
      subst hj42
      refine JS.seq ?_
      refine JS.region ?_
      refine JO.reg ttOk 2 [] [] [(4, .v (.slice a34 x33.length c35))] _ rfl ⟨⟨rfl, trivial⟩, rfl⟩ ?_
      refine JO.done rfl ?_
      cases h
      exact JS.retX ttOk (a34, c35) trivial rfl rfl [1, 0] rfl

def M_s_l13Runes_L1 (x0 : List UInt8 × Int × Int) (y8 : List Int) (j106 : (List Int × Int × Int) → Option (List Int × List UInt8 × Int × Int)) (k89 : (List Int × Int × Int × Int) → Option (List Int × List UInt8 × Int × Int)) : (List Int × Int × Int × Int) → Option (List Int × List UInt8 × Int × Int) := fun (x13, x16, x20, x21) =>
  (bif (decide (x16 < (y8.length : Int))) then
  (joinO (fun ((x51, x54, x55) : List Int × Int × Int) =>
  k89 (x51, (W (x16 + 1)), x54, x55)) fun j56 =>
  (bindO (M_s_l01Below (x0.1, x20, x21) 14) fun (y22, y23) =>
  (joinO (fun (x28 : List Int) =>
  (joinO (fun (x37 : List Int) =>
  (bif (decide (y22 = 2)) then
  (bindO (M_s_l01Below (x0.1, y23.2.1, y23.2.2) 26) fun (y43, y44) =>
  (guardO (0 ≤ x16 ∧ x16 < (x37.length : Int)) <|
  j56 ((List.set x37 (Int.toNat x16) (W (65 + y43))), y44.2.1, y44.2.2)))
  else
  j56 (x37, y23.2.1, y23.2.2))) fun j40 =>
  (bif (decide (y22 = 1)) then
  (guardO (0 ≤ x16 ∧ x16 < (x28.length : Int)) <|
  j40 (List.set x28 (Int.toNat x16) 10))
  else
  j40 x28))) fun j31 =>
  (bif (decide (y22 = 0)) then
  (guardO (0 ≤ x16 ∧ x16 < (x13.length : Int)) <|
  j31 (List.set x13 (Int.toNat x16) 9))
  else
  j31 x13))))
  else
  j106 (x13, x20, x21))

def M_s_l13Runes (x0 : List UInt8 × Int × Int) (x1 : Int) : Option (List Int × List UInt8 × Int × Int) :=
  (bindO (M_s_l02Runes (x0.1, x0.2.1, x0.2.2) x1) fun (y8, y9) =>
  (joinO (fun ((x101, x104, x105) : List Int × Int × Int) =>
  some (x101, (x0.1, x104, x105))) fun j106 =>
  (fixF (M_s_l13Runes_L1 x0 y8 j106) FUEL (y8, 0, y9.2.1, y9.2.2))))

theorem ok_s_l13Runes (x0 : List UInt8 × Int × Int) (x1 : Int) (a3 : Option Addr) (a4 : Option Addr) (c5 : Nat) (l6 : Nat) (hl7 : x0.1.length = l6) (r : List Int × List UInt8 × Int × Int) (h : M_s_l13Runes x0 x1 = some r) :
    FX Try.prog 42 [.pointer a3, .int .i64 x1] [⟨.byte, ⟨a4, l6, c5⟩, x0.1⟩] [⟨(.pair .val (.pair (.int .i64) (.int .i64))), ⟨a3, 1, 1⟩, [((Sl.v ⟨a4, l6, c5⟩), x0.2.1, x0.2.2)]⟩] (fun _ : Option Addr × Nat => True) (fun q => .slice q.1 r.1.length q.2) (fun q => [⟨(.pair .val (.pair (.int .i64) (.int .i64))), ⟨a3, 1, 1⟩, [((Sl.v ⟨a4, l6, c5⟩), r.2.2.1, r.2.2.2)]⟩, ⟨(.int .i64), ⟨q.1, r.1.length, q.2⟩, r.1⟩]) :=
  by
    subst hl7
    refine FX.of (T := TTx) Try.call42 Try.func42 rfl rfl fun w0 L0 => ?_
    unfold M_s_l13Runes at h
    refine JS.ptr 0 a3 rfl ?_
    refine JS.seq ?_
    refine JS.region ?_
    refine JO.reg ttOk 1 [] [] [] _ rfl ⟨trivial, rfl⟩ ?_
    refine JO.done rfl ?_
    refine JS.seq ?_
    refine JS.region ?_
    refine JO.reg ttOk 2 [] [] [(8, .ep ⟨a3, 1, 1⟩ 0), (9, .v (.int .i64 x1))] _ rfl ⟨⟨rfl, rfl, trivial⟩, rfl⟩ ?_
    obtain ⟨⟨y8, y9⟩, hy10, h⟩ := bindO_some h
    refine JO.callX rfl rfl rfl rfl (ok_s_l02Runes (x0.1, x0.2.1, x0.2.2) x1 a3 a4 c5 x0.1.length rfl _ hy10) rfl [0] rfl [0] rfl rfl ?_
    rintro ⟨a11, c12⟩ -
    refine JO.reg ttOk 1 [] [] [(5, .v (.slice a11 y8.length c12))] _ rfl ⟨⟨rfl, trivial⟩, rfl⟩ ?_
    refine JO.done rfl ?_
    refine JS.seq ?_
    refine JS.seq ?_
    refine JS.region ?_
    refine JO.reg ttOk 3 [] [] [(12, .v (.int .i64 (y8.length : Int))), (13, .v (.int .i64 0))] _ rfl ⟨⟨rfl, rfl, trivial⟩, rfl⟩ ?_
    refine JO.done rfl ?_
    obtain ⟨j106, hj128, h⟩ := joinO_some h
    refine JS.blockJ (ι := List Int × Int × Int × Option Addr × Nat) ⟨fun z => j106 (z.1, z.2.1, z.2.2.1) = some r, fun z => [(5, .v (.slice z.2.2.2.1 z.1.length z.2.2.2.2))], fun z => .nil, fun z => [⟨.byte, ⟨a4, x0.1.length, c5⟩, x0.1⟩], fun z => [⟨(.int .i64), ⟨z.2.2.2.1, z.1.length, z.2.2.2.2⟩, z.1⟩, ⟨(.pair .val (.pair (.int .i64) (.int .i64))), ⟨a3, 1, 1⟩, [((Sl.v ⟨a4, x0.1.length, c5⟩), z.2.1, z.2.2.1)]⟩], fun z => 0⟩ ?_ ?_
    · refine JS.loop (ι := Nat × List Int × Int × Int × Int × Option Addr × Nat) ⟨fun z => fixF (M_s_l13Runes_L1 x0 y8 j106) z.1 (z.2.1, z.2.2.1, z.2.2.2.1, z.2.2.2.2.1) = some r, fun z => [(0, .ep ⟨a3, 1, 1⟩ 0), (5, .v (.slice z.2.2.2.2.2.1 z.2.1.length z.2.2.2.2.2.2)), (12, .v (.int .i64 (y8.length : Int))), (13, .v (.int .i64 z.2.2.1))], fun z => .nil, fun z => [⟨.byte, ⟨a4, x0.1.length, c5⟩, x0.1⟩], fun z => [⟨(.int .i64), ⟨z.2.2.2.2.2.1, z.2.1.length, z.2.2.2.2.2.2⟩, z.2.1⟩, ⟨(.pair .val (.pair (.int .i64) (.int .i64))), ⟨a3, 1, 1⟩, [((Sl.v ⟨a4, x0.1.length, c5⟩), z.2.2.2.1, z.2.2.2.2.1)]⟩], fun z => z.1⟩ (FUEL, y8, 0, y9.2.1, y9.2.2, a11, c12) h ⟨rfl, rfl, rfl, rfl, trivial⟩ trivial [0] rfl [1, 0] rfl ?_
      rintro ⟨n90, x13, x16, x20, x21, a14, c15⟩ h
      obtain ⟨n90, rfl, h⟩ := fixF_some h
      rw [M_s_l13Runes_L1] at h
      refine JS.seq ?_
      refine JS.region ?_
      refine JO.reg ttOk 1 [] [] [(14, .v (.bool (decide (x16 < (y8.length : Int)))))] _ rfl ⟨⟨rfl, trivial⟩, rfl⟩ ?_
      refine JO.done rfl ?_
      refine JS.seq ?_
      refine JS.cond rfl (fun ht127 => ?_) (fun ht127 => ?_)
      · have h := condT h ht127
        refine JS.skip ?_
        refine JS.seq ?_
        obtain ⟨j56, hj126, h⟩ := joinO_some h
        refine JS.blockJ (ι := List Int × Int × Int × Option Addr × Nat) ⟨fun z => j56 (z.1, z.2.1, z.2.2.1) = some r, fun z => [(0, .ep ⟨a3, 1, 1⟩ 0), (5, .v (.slice z.2.2.2.1 z.1.length z.2.2.2.2)), (12, .v (.int .i64 (y8.length : Int))), (13, .v (.int .i64 x16))], fun z => .nil, fun z => [⟨.byte, ⟨a4, x0.1.length, c5⟩, x0.1⟩], fun z => [⟨(.int .i64), ⟨z.2.2.2.1, z.1.length, z.2.2.2.2⟩, z.1⟩, ⟨(.pair .val (.pair (.int .i64) (.int .i64))), ⟨a3, 1, 1⟩, [((Sl.v ⟨a4, x0.1.length, c5⟩), z.2.1, z.2.2.1)]⟩], fun z => 0⟩ ?_ ?_
        · refine JS.seq ?_
          refine JS.region ?_
          refine JO.reg ttOk 2 [] [] [(6, .v (.int .i64 x16))] _ rfl ⟨⟨rfl, trivial⟩, rfl⟩ ?_
          refine JO.done rfl ?_
          refine JS.seq ?_
          refine JS.region ?_
          refine JO.reg ttOk 1 [] [] [(16, .ep ⟨a3, 1, 1⟩ 0)] _ rfl ⟨⟨rfl, trivial⟩, rfl⟩ ?_
          obtain ⟨⟨y22, y23⟩, hy24, h⟩ := bindO_some h
          refine JO.callX rfl rfl rfl rfl (ok_s_l01Below (x0.1, x20, x21) 14 a3 a4 c5 x0.1.length rfl _ hy24) rfl [1] rfl [0] rfl rfl ?_
          intro _ _
          refine JO.reg ttOk 1 [] [] [(7, .v (.int .i64 y22))] _ rfl ⟨⟨rfl, trivial⟩, rfl⟩ ?_
          refine JO.done rfl ?_
          obtain ⟨j31, hj125, h⟩ := joinO_some h
          refine JS.seqJ (ι := List Int × Option Addr × Nat) ⟨fun z => j31 z.1 = some r, fun z => [(0, .ep ⟨a3, 1, 1⟩ 0), (5, .v (.slice z.2.1 z.1.length z.2.2)), (6, .v (.int .i64 x16)), (7, .v (.int .i64 y22)), (12, .v (.int .i64 (y8.length : Int))), (13, .v (.int .i64 x16))], fun z => .nil, fun z => [⟨.byte, ⟨a4, x0.1.length, c5⟩, x0.1⟩], fun z => [⟨(.int .i64), ⟨z.2.1, z.1.length, z.2.2⟩, z.1⟩, ⟨(.pair .val (.pair (.int .i64) (.int .i64))), ⟨a3, 1, 1⟩, [((Sl.v ⟨a4, x0.1.length, c5⟩), y23.2.1, y23.2.2)]⟩], fun z => 0⟩ ?_ ?_
          · refine JS.seq ?_
            refine JS.region ?_
            refine JO.reg ttOk 2 [] [] [(19, .v (.bool (decide (y22 = 0))))] _ rfl ⟨⟨rfl, trivial⟩, rfl⟩ ?_
            refine JO.done rfl ?_
            refine JS.cond rfl (fun ht119 => ?_) (fun ht119 => ?_)
            · have h := condT h ht119
              refine JS.region ?_
              refine JO.know 2 rfl fun hs118 => ?_
              obtain ⟨g26, h⟩ := guardO_some h
              refine JO.reg ttOk 3 [] [] [(22, .ep ⟨a14, x13.length, c15⟩ (Int.toNat x16 * 1))] _ rfl ⟨hs118.ix g26, ⟨rfl, trivial⟩, rfl⟩ ?_
              refine JO.storeE ttOk rfl rfl rfl rfl rfl rfl rfl rfl rfl [1] (fs := []) rfl (Int.toNat x16) 0 (at' x13 x16) 9 ⟨at_some g26, rfl⟩ ⟨rfl, rfl, rfl⟩ ?_
              refine JO.done rfl ?_
              exact JS.endJ ((List.set x13 (Int.toNat x16) 9), a14, c15) h ⟨rfl, (by simp only [List.length_set, List.length_replicate, pickO, getF]; rfl), rfl, rfl, rfl, rfl, trivial⟩ trivial [0] rfl [0, 0] (by simp only [List.length_set, List.length_replicate, pickO, getF]; rfl)
            · have h := condF h ht119
              refine JS.skip ?_
              exact JS.endJ (x13, a14, c15) h ⟨rfl, rfl, rfl, rfl, rfl, rfl, trivial⟩ trivial [0] rfl [1, 0] rfl
          · rintro ⟨x28, a29, c30⟩ h
            subst hj125
            obtain ⟨j40, hj124, h⟩ := joinO_some h
            refine JS.seqJ (ι := List Int × Option Addr × Nat) ⟨fun z => j40 z.1 = some r, fun z => [(0, .ep ⟨a3, 1, 1⟩ 0), (5, .v (.slice z.2.1 z.1.length z.2.2)), (6, .v (.int .i64 x16)), (7, .v (.int .i64 y22)), (12, .v (.int .i64 (y8.length : Int))), (13, .v (.int .i64 x16))], fun z => .nil, fun z => [⟨.byte, ⟨a4, x0.1.length, c5⟩, x0.1⟩], fun z => [⟨(.int .i64), ⟨z.2.1, z.1.length, z.2.2⟩, z.1⟩, ⟨(.pair .val (.pair (.int .i64) (.int .i64))), ⟨a3, 1, 1⟩, [((Sl.v ⟨a4, x0.1.length, c5⟩), y23.2.1, y23.2.2)]⟩], fun z => 0⟩ ?_ ?_
            · refine JS.seq ?_
              refine JS.region ?_
              refine JO.reg ttOk 2 [] [] [(24, .v (.bool (decide (y22 = 1))))] _ rfl ⟨⟨rfl, trivial⟩, rfl⟩ ?_
              refine JO.done rfl ?_
              refine JS.cond rfl (fun ht121 => ?_) (fun ht121 => ?_)
              · have h := condT h ht121
                refine JS.region ?_
                refine JO.know 1 rfl fun hs120 => ?_
                obtain ⟨g35, h⟩ := guardO_some h
                refine JO.reg ttOk 3 [] [] [(27, .ep ⟨a29, x28.length, c30⟩ (Int.toNat x16 * 1))] _ rfl ⟨hs120.ix g35, ⟨rfl, trivial⟩, rfl⟩ ?_
                refine JO.storeE ttOk rfl rfl rfl rfl rfl rfl rfl rfl rfl [0] (fs := []) rfl (Int.toNat x16) 0 (at' x28 x16) 10 ⟨at_some g35, rfl⟩ ⟨rfl, rfl, rfl⟩ ?_
                refine JO.done rfl ?_
                exact JS.endJ ((List.set x28 (Int.toNat x16) 10), a29, c30) h ⟨rfl, (by simp only [List.length_set, List.length_replicate, pickO, getF]; rfl), rfl, rfl, rfl, rfl, trivial⟩ trivial [0] rfl [0, 0] (by simp only [List.length_set, List.length_replicate, pickO, getF]; rfl)
              · have h := condF h ht121
                refine JS.skip ?_
                exact JS.endJ (x28, a29, c30) h ⟨rfl, rfl, rfl, rfl, rfl, rfl, trivial⟩ trivial [0] rfl [0, 0] rfl
            · rintro ⟨x37, a38, c39⟩ h
              subst hj124
              refine JS.seq ?_
              refine JS.region ?_
              refine JO.reg ttOk 2 [] [] [(29, .v (.bool (decide (y22 = 2))))] _ rfl ⟨⟨rfl, trivial⟩, rfl⟩ ?_
              refine JO.done rfl ?_
              refine JS.cond rfl (fun ht123 => ?_) (fun ht123 => ?_)
              · have h := condT h ht123
                refine JS.region ?_
                refine JO.reg ttOk 3 [] [] [(30, .v (.slice a38 x37.length c39)), (31, .v (.int .i64 x16)), (32, .ep ⟨a3, 1, 1⟩ 0)] _ rfl ⟨⟨rfl, rfl, rfl, trivial⟩, rfl⟩ ?_
                obtain ⟨⟨y43, y44⟩, hy45, h⟩ := bindO_some h
                refine JO.callX rfl rfl rfl rfl (ok_s_l01Below (x0.1, y23.2.1, y23.2.2) 26 a3 a4 c5 x0.1.length rfl _ hy45) rfl [1] rfl [0] rfl rfl ?_
                intro _ _
                refine JO.know 2 rfl fun hs122 => ?_
                obtain ⟨g47, h⟩ := guardO_some h
                refine JO.reg ttOk 2 [(W (65 + y43))] [] [(34, .v (.int .i64 (W (65 + y43)))), (35, .ep ⟨a38, x37.length, c39⟩ (Int.toNat x16 * 1))] _ rfl ⟨⟨trivial, rfl⟩, hs122.ix g47, ⟨rfl, rfl, trivial⟩, rfl⟩ ?_
                refine JO.storeE ttOk rfl rfl rfl rfl rfl rfl rfl rfl rfl [1] (fs := []) rfl (Int.toNat x16) 0 (at' x37 x16) (W (65 + y43)) ⟨at_some g47, rfl⟩ ⟨rfl, rfl, rfl⟩ ?_
                refine JO.done rfl ?_
                refine JS.endB ?_
                exact JS.endJ ((List.set x37 (Int.toNat x16) (W (65 + y43))), y44.2.1, y44.2.2, a38, c39) h ⟨rfl, (by simp only [List.length_set, List.length_replicate, pickO, getF]; rfl), rfl, rfl, trivial⟩ trivial [0] rfl [0, 0] (by simp only [List.length_set, List.length_replicate, pickO, getF]; rfl)
              · have h := condF h ht123
                refine JS.skip ?_
                refine JS.endB ?_
                exact JS.endJ (x37, y23.2.1, y23.2.2, a38, c39) h ⟨rfl, rfl, rfl, rfl, trivial⟩ trivial [0] rfl [0, 0] rfl
        · rintro ⟨x51, x54, x55, a52, c53⟩ h
          subst hj126
          refine JS.region ?_
          refine JO.reg ttOk 2 [(W (x16 + 1))] [] [(13, .v (.int .i64 (W (x16 + 1))))] _ rfl ⟨⟨trivial, rfl⟩, ⟨rfl, trivial⟩, rfl⟩ ?_
          refine JO.done rfl ?_
          exact JS.endL (n90, x51, (W (x16 + 1)), x54, x55, a52, c53) h (Nat.lt_succ_self _) ⟨rfl, rfl, rfl, rfl, trivial⟩ trivial [0] rfl [0, 0] rfl
      · have h := condF h ht127
        refine JS.exit rfl ?_
        exact JS.endJ (x13, x20, x21, a14, c15) h ⟨rfl, trivial⟩ trivial [0] rfl [0, 0] rfl
    · rintro ⟨x101, x104, x105, a102, c103⟩ h
      subst hj128
      refine JS.seq ?_
      refine JS.region ?_
      refine JO.reg ttOk 2 [] [] [(4, .v (.slice a102 x101.length c103))] _ rfl ⟨⟨rfl, trivial⟩, rfl⟩ ?_
      refine JO.done rfl ?_
      cases h
      exact JS.retX ttOk (a102, c103) trivial rfl rfl [1, 0] rfl

def M_s_l13Draw (x0 : List UInt8 × Int × Int) : Option ((List Int × Int) × List UInt8 × Int × Int) :=
  (bindO (M_s_l13Runes (x0.1, x0.2.1, x0.2.2) 16) fun (y7, y8) =>
  (bindO (M_s_l01Below (x0.1, y8.2.1, y8.2.2) (W ((y7.length : Int) + 1))) fun (y12, y13) =>
  some ((y7, y12), (x0.1, y13.2.1, y13.2.2))))

theorem ok_s_l13Draw (x0 : List UInt8 × Int × Int) (a2 : Option Addr) (a3 : Option Addr) (c4 : Nat) (l5 : Nat) (hl6 : x0.1.length = l5) (r : (List Int × Int) × List UInt8 × Int × Int) (h : M_s_l13Draw x0 = some r) :
    FX Try.prog 40 [.pointer a2] [⟨.byte, ⟨a3, l5, c4⟩, x0.1⟩] [⟨(.pair .val (.pair (.int .i64) (.int .i64))), ⟨a2, 1, 1⟩, [((Sl.v ⟨a3, l5, c4⟩), x0.2.1, x0.2.2)]⟩] (fun _ : Option Addr × Nat => True) (fun q => .agg #[.slice q.1 r.1.1.length q.2, .int .i64 r.1.2]) (fun q => [⟨(.pair .val (.pair (.int .i64) (.int .i64))), ⟨a2, 1, 1⟩, [((Sl.v ⟨a3, l5, c4⟩), r.2.2.1, r.2.2.2)]⟩, ⟨(.int .i64), ⟨q.1, r.1.1.length, q.2⟩, r.1.1⟩]) :=
  by
    subst hl6
    refine FX.of (T := TTx) Try.call40 Try.func40 rfl rfl fun w0 L0 => ?_
    unfold M_s_l13Draw at h
    refine JS.ptr 0 a2 rfl ?_
    refine JS.seq ?_
    refine JS.region ?_
    refine JO.regB ttOk 1 [] [3] [(2, .bp 3 0)] (.new 3 25 [.slice none 0 0, .int .i64 0] .nil) rfl ⟨⟨rfl, trivial⟩, ⟨rfl, rfl, rfl, rfl, trivial⟩⟩ ?_
    refine JO.done rfl ?_
    refine JS.seq ?_
    refine JS.region ?_
    refine JO.reg ttOk 1 [] [] [(4, .ep ⟨a2, 1, 1⟩ 0)] _ rfl ⟨⟨rfl, trivial⟩, rfl⟩ ?_
    obtain ⟨⟨y7, y8⟩, hy9, h⟩ := bindO_some h
    refine JO.callX rfl rfl rfl rfl (ok_s_l13Runes (x0.1, x0.2.1, x0.2.2) 16 a2 a3 c4 x0.1.length rfl _ hy9) rfl [0] rfl [0] rfl rfl ?_
    rintro ⟨a10, c11⟩ -
    refine JO.reg ttOk 1 [] [] [(3, .v (.slice a10 y7.length c11))] _ rfl ⟨⟨rfl, trivial⟩, rfl⟩ ?_
    refine JO.done rfl ?_
    refine JS.seq ?_
    refine JS.region ?_
    refine JO.reg ttOk 5 [(W ((y7.length : Int) + 1))] [] [(6, .v (.slice a10 y7.length c11)), (7, .ep ⟨a2, 1, 1⟩ 0), (10, .v (.int .i64 (W ((y7.length : Int) + 1))))] _ rfl ⟨⟨trivial, rfl⟩, ⟨rfl, rfl, rfl, trivial⟩, rfl⟩ ?_
    obtain ⟨⟨y12, y13⟩, hy14, h⟩ := bindO_some h
    refine JO.callX rfl rfl rfl rfl (ok_s_l01Below (x0.1, y8.2.1, y8.2.2) (W ((y7.length : Int) + 1)) a2 a3 c4 x0.1.length rfl _ hy14) rfl [0] rfl [0] rfl rfl ?_
    intro _ _
    refine JO.regB ttOk 2 [] [] [] (.new 3 25 [.slice a10 y7.length c11, .int .i64 y12] .nil) rfl ⟨trivial, ⟨rfl, rfl, rfl, rfl, trivial⟩⟩ ?_
    refine JO.done rfl ?_
    cases h
    exact JS.retX ttOk (a10, c11) trivial rfl rfl [0, 0] rfl

def M_s_MakeLine (x0 : List UInt8) : Option ((List Int × Int) × List Int × Int × Int) :=
  (bindO (M_s_l01New x0) fun (y6 : List UInt8 × Int × Int) =>
  (bindO (M_s_l13Draw (x0, y6.2.1, y6.2.2)) fun (y9, y10) =>
  (bindO (M_s_l01Below (x0, y10.2.1, y10.2.2) (W ((y9.1.length : Int) + 1))) fun (y14, y15) =>
  (bindO (M_s_l01Below (x0, y15.2.1, y15.2.2) (W ((W ((y9.1.length : Int) - y14)) + 1))) fun (y17, y18) =>
  (bindO (M_s_l13Runes (x0, y18.2.1, y18.2.2) 5) fun (y20, y21) =>
  some (y9, y20, y14, (W (y14 + y17))))))))

theorem ok_s_MakeLine (x0 : List UInt8) (a2 : Option Addr) (c3 : Nat) (l4 : Nat) (hl5 : x0.length = l4) (r : (List Int × Int) × List Int × Int × Int) (h : M_s_MakeLine x0 = some r) :
    FC Try.prog 11 [.slice a2 l4 c3] [⟨.byte, ⟨a2, l4, c3⟩, x0⟩] (fun _ : Option Addr × Nat × Option Addr × Nat => True) (fun q => .tuple #[.agg #[.slice q.1 r.1.1.length q.2.1, .int .i64 r.1.2], .slice q.2.2.1 r.2.1.length q.2.2.2, .int .i64 r.2.2.1, .int .i64 r.2.2.2]) (fun q => [⟨(.int .i64), ⟨q.1, r.1.1.length, q.2.1⟩, r.1.1⟩, ⟨(.int .i64), ⟨q.2.2.1, r.2.1.length, q.2.2.2⟩, r.2.1⟩]) :=
  by
    subst hl5
    refine FC.of (T := TTx) Try.call11 Try.func11 rfl rfl fun w0 => ?_
    unfold M_s_MakeLine at h
    refine JS.seq ?_
    refine JS.region ?_
    refine JO.regB ttOk 4 [] [2] [(2, .bp 2 0)] (.new 2 25 [.slice none 0 0, .int .i64 0] .nil) rfl ⟨⟨rfl, trivial⟩, ⟨rfl, rfl, rfl, rfl, trivial⟩⟩ ?_
    refine JO.done rfl ?_
    refine JS.seq ?_
    refine JS.region ?_
    refine JO.reg ttOk 1 [] [] [(10, .v (.slice a2 x0.length c3))] _ rfl ⟨⟨rfl, trivial⟩, rfl⟩ ?_
    obtain ⟨y6, hy7, h⟩ := bindO_some h
    refine JO.call rfl rfl rfl rfl (ok_s_l01New x0 a2 c3 x0.length rfl _ hy7) rfl [0] rfl rfl ?_
    intro a8 _
    refine JO.ptr 11 a8 rfl ?_
    refine JO.reg ttOk 1 [] [] [(6, .ep ⟨a8, 1, 1⟩ 0)] _ rfl ⟨⟨rfl, trivial⟩, rfl⟩ ?_
    refine JO.done rfl ?_
    refine JS.seq ?_
    refine JS.region ?_
    refine JO.reg ttOk 1 [] [] [(12, .ep ⟨a8, 1, 1⟩ 0)] _ rfl ⟨⟨rfl, trivial⟩, rfl⟩ ?_
    obtain ⟨⟨y9, y10⟩, hy11, h⟩ := bindO_some h
    refine JO.callX rfl rfl rfl rfl (ok_s_l13Draw (x0, y6.2.1, y6.2.2) a8 a2 c3 x0.length rfl _ hy11) rfl [0] rfl [0] rfl rfl ?_
    rintro ⟨a12, c13⟩ -
    refine JO.regB ttOk 2 [] [13] [(7, .bp 13 0)] (.new 2 25 [.slice none 0 0, .int .i64 0] (.new 13 25 [.slice a12 y9.1.length c13, .int .i64 y9.2] .nil)) rfl ⟨⟨rfl, trivial⟩, ⟨rfl, rfl, rfl, rfl, rfl, rfl, rfl, rfl, trivial⟩⟩ ?_
    refine JO.done rfl ?_
    refine JS.seq ?_
    refine JS.region ?_
    refine JO.reg ttOk 5 [(W ((y9.1.length : Int) + 1))] [] [(14, .ep ⟨a8, 1, 1⟩ 0), (18, .v (.int .i64 (W ((y9.1.length : Int) + 1))))] _ rfl ⟨⟨trivial, rfl⟩, ⟨rfl, rfl, trivial⟩, rfl⟩ ?_
    obtain ⟨⟨y14, y15⟩, hy16, h⟩ := bindO_some h
    refine JO.callX rfl rfl rfl rfl (ok_s_l01Below (x0, y10.2.1, y10.2.2) (W ((y9.1.length : Int) + 1)) a8 a2 c3 x0.length rfl _ hy16) rfl [0] rfl [0] rfl rfl ?_
    intro _ _
    refine JO.reg ttOk 1 [] [] [(8, .v (.int .i64 y14))] _ rfl ⟨⟨rfl, trivial⟩, rfl⟩ ?_
    refine JO.done rfl ?_
    refine JS.seq ?_
    refine JS.region ?_
    refine JO.reg ttOk 8 [(W ((y9.1.length : Int) - y14)), (W ((W ((y9.1.length : Int) - y14)) + 1))] [] [(20, .v (.int .i64 y14)), (21, .ep ⟨a8, 1, 1⟩ 0), (27, .v (.int .i64 (W ((W ((y9.1.length : Int) - y14)) + 1))))] _ rfl ⟨⟨trivial, rfl⟩, ⟨trivial, rfl⟩, ⟨rfl, rfl, rfl, trivial⟩, rfl⟩ ?_
    obtain ⟨⟨y17, y18⟩, hy19, h⟩ := bindO_some h
    refine JO.callX rfl rfl rfl rfl (ok_s_l01Below (x0, y15.2.1, y15.2.2) (W ((W ((y9.1.length : Int) - y14)) + 1)) a8 a2 c3 x0.length rfl _ hy19) rfl [0] rfl [0] rfl rfl ?_
    intro _ _
    refine JO.reg ttOk 2 [(W (y14 + y17))] [] [(9, .v (.int .i64 (W (y14 + y17))))] _ rfl ⟨⟨trivial, rfl⟩, ⟨rfl, trivial⟩, rfl⟩ ?_
    refine JO.done rfl ?_
    refine JS.seq ?_
    obtain ⟨⟨y20, y21⟩, hy22, h⟩ := bindO_some h
    refine JS.regionA rfl (.new 13 25 [.slice a12 y9.1.length c13, .int .i64 y9.2] .nil) [] [5, 6, 7, 8] ⟨rfl, rfl, rfl, rfl, trivial⟩ rfl (fun be25 => ?_)
    refine JA.reg ttOk panic_cx true 8 [0] rfl (by kernel_rfl) [] [(30, .v (.agg #[.slice a12 y9.1.length c13, .int .i64 y9.2]))] ⟨rfl, rfl, rfl, rfl, trivial⟩ [] rfl rfl ⟨rfl, trivial⟩ ?_
    refine JA.regL ttOk panic_cx 5 [1, 3, 4] rfl (by kernel_rfl) [] [(30, .v (.agg #[.slice a12 y9.1.length c13, .int .i64 y9.2])), (31, .ep ⟨a8, 1, 1⟩ 0), (33, .v (.int .i64 y14)), (34, .v (.int .i64 (W (y14 + y17))))] rfl ⟨rfl, rfl, rfl, rfl, trivial⟩ ?_
    refine JA.one 2 (by kernel_rfl) ?_
    refine JK.callX rfl rfl rfl rfl (ok_s_l13Runes (x0, y18.2.1, y18.2.2) 5 a8 a2 c3 x0.length rfl _ hy22) rfl [0] rfl [0] rfl rfl ?_
    rintro ⟨a23, c24⟩ -
    refine JA.next ⟨rfl, rfl, rfl, rfl, trivial⟩ [] rfl ?_
    refine JA.one 5 (by kernel_rfl) ?_
    refine JK.stBox ttOk rfl rfl rfl rfl rfl rfl rfl rfl ?_
    refine JK.boxes (B' := (.new 2 25 [.slice a12 y9.1.length c13, .int .i64 y9.2] (.new 13 25 [.slice a12 y9.1.length c13, .int .i64 y9.2] .nil))) ⟨rfl, rfl, rfl, rfl, rfl, rfl, rfl, rfl, trivial⟩ ?_
    refine JA.nextL rfl ?_
    refine JA.regL ttOk panic_cx 0 [6, 7, 8] rfl (by kernel_rfl) [] [(3, .v (.slice a23 y20.length c24)), (4, .v (.int .i64 y14)), (5, .v (.int .i64 (W (y14 + y17)))), (30, .v (.agg #[.slice a12 y9.1.length c13, .int .i64 y9.2])), (31, .ep ⟨a8, 1, 1⟩ 0), (32, .v (.slice a23 y20.length c24)), (33, .v (.int .i64 y14)), (34, .v (.int .i64 (W (y14 + y17))))] rfl ⟨rfl, rfl, rfl, rfl, rfl, rfl, rfl, rfl, trivial⟩ ?_
    refine JA.done (by kernel_rfl) ?_
    refine JS.boxes (B' := (.new 2 25 [.slice a12 y9.1.length c13, .int .i64 y9.2] .nil)) ⟨rfl, rfl, rfl, rfl, trivial⟩ ?_
    cases h
    exact JS.ret ttOk (a12, c13, a23, c24) trivial rfl rfl [2, 1] rfl

def M_i_within (x0 : Int) (x1 : Int) : Option Int :=
  some (max (0 : Int) (min x0 x1))

theorem ok_i_within (x0 : Int) (x1 : Int) (r : Int) (h : M_i_within x0 x1 = some r) :
    FC Try.prog 43 [.int .i64 x0, .int .i64 x1] [] (fun _ : Unit => True) (fun _ => .int .i64 r) (fun _ => []) :=
  by
    refine FC.of (T := TTx) Try.call43 Try.func43 rfl rfl fun w0 => ?_
    unfold M_i_within at h
    refine JS.seq ?_
    refine JS.region ?_
    refine JO.reg ttOk 1 [] [] [] _ rfl ⟨trivial, rfl⟩ ?_
    refine JO.done rfl ?_
    refine JS.seq ?_
    refine JS.region ?_
    refine JO.reg ttOk 5 [] [] [(4, .v (.int .i64 (max (0 : Int) (min x0 x1))))] _ rfl ⟨⟨rfl, trivial⟩, rfl⟩ ?_
    refine JO.done rfl ?_
    cases h
    exact JS.ret ttOk () trivial rfl rfl [] rfl

def M_i_in (x0 : Int) (x1 : Int) (x2 : Int) : Option Bool :=
  some (bif (decide (x1 ≤ x0)) then (decide (x0 ≤ x2)) else false)

theorem ok_i_in (x0 : Int) (x1 : Int) (x2 : Int) (r : Bool) (h : M_i_in x0 x1 x2 = some r) :
    FC Try.prog 78 [.int .i64 x0, .int .i64 x1, .int .i64 x2] [] (fun _ : Unit => True) (fun _ => .bool r) (fun _ => []) :=
  by
    refine FC.of (T := TTx) Try.call78 Try.func78 rfl rfl fun w0 => ?_
    unfold M_i_in at h
    refine JS.seq ?_
    refine JS.region ?_
    refine JO.reg ttOk 1 [] [] [] _ rfl ⟨trivial, rfl⟩ ?_
    refine JO.done rfl ?_
    refine JS.seq ?_
    refine JS.region ?_
    refine JO.reg ttOk 9 [] [] [(6, .v (.bool (bif (decide (x1 ≤ x0)) then (decide (x0 ≤ x2)) else false)))] _ rfl ⟨⟨rfl, trivial⟩, rfl⟩ ?_
    refine JO.done rfl ?_
    cases h
    exact JS.ret ttOk () trivial rfl rfl [] rfl

def M_i_isUpper (x0 : Int) : Option Bool :=
  (bindO (M_i_in x0 65 90) fun (y2 : Bool) =>
  some y2)

theorem ok_i_isUpper (x0 : Int) (r : Bool) (h : M_i_isUpper x0 = some r) :
    FC Try.prog 44 [.int .i64 x0] [] (fun _ : Unit => True) (fun _ => .bool r) (fun _ => []) :=
  by
    refine FC.of (T := TTx) Try.call44 Try.func44 rfl rfl fun w0 => ?_
    unfold M_i_isUpper at h
    refine JS.seq ?_
    refine JS.region ?_
    refine JO.reg ttOk 1 [] [] [] _ rfl ⟨trivial, rfl⟩ ?_
    refine JO.done rfl ?_
    refine JS.seq ?_
    refine JS.region ?_
    refine JO.reg ttOk 1 [] [] [(3, .v (.int .i64 x0))] _ rfl ⟨⟨rfl, trivial⟩, rfl⟩ ?_
    obtain ⟨y2, hy3, h⟩ := bindO_some h
    refine JO.call rfl rfl rfl rfl (ok_i_in x0 65 90 _ hy3) rfl [] rfl rfl ?_
    intro _ _
    refine JO.reg ttOk 1 [] [] [(2, .v (.bool y2))] _ rfl ⟨⟨rfl, trivial⟩, rfl⟩ ?_
    refine JO.done rfl ?_
    cases h
    exact JS.ret ttOk () trivial rfl rfl [] rfl

def M_i_isLower (x0 : Int) : Option Bool :=
  (bindO (M_i_in x0 97 122) fun (y2 : Bool) =>
  some y2)

theorem ok_i_isLower (x0 : Int) (r : Bool) (h : M_i_isLower x0 = some r) :
    FC Try.prog 98 [.int .i64 x0] [] (fun _ : Unit => True) (fun _ => .bool r) (fun _ => []) :=
  by
    refine FC.of (T := TTx) Try.call98 Try.func98 rfl rfl fun w0 => ?_
    unfold M_i_isLower at h
    refine JS.seq ?_
    refine JS.region ?_
    refine JO.reg ttOk 1 [] [] [] _ rfl ⟨trivial, rfl⟩ ?_
    refine JO.done rfl ?_
    refine JS.seq ?_
    refine JS.region ?_
    refine JO.reg ttOk 1 [] [] [(3, .v (.int .i64 x0))] _ rfl ⟨⟨rfl, trivial⟩, rfl⟩ ?_
    obtain ⟨y2, hy3, h⟩ := bindO_some h
    refine JO.call rfl rfl rfl rfl (ok_i_in x0 97 122 _ hy3) rfl [] rfl rfl ?_
    intro _ _
    refine JO.reg ttOk 1 [] [] [(2, .v (.bool y2))] _ rfl ⟨⟨rfl, trivial⟩, rfl⟩ ?_
    refine JO.done rfl ?_
    cases h
    exact JS.ret ttOk () trivial rfl rfl [] rfl

def M_i_isDigit (x0 : Int) : Option Bool :=
  (bindO (M_i_in x0 48 57) fun (y2 : Bool) =>
  some y2)

theorem ok_i_isDigit (x0 : Int) (r : Bool) (h : M_i_isDigit x0 = some r) :
    FC Try.prog 99 [.int .i64 x0] [] (fun _ : Unit => True) (fun _ => .bool r) (fun _ => []) :=
  by
    refine FC.of (T := TTx) Try.call99 Try.func99 rfl rfl fun w0 => ?_
    unfold M_i_isDigit at h
    refine JS.seq ?_
    refine JS.region ?_
    refine JO.reg ttOk 1 [] [] [] _ rfl ⟨trivial, rfl⟩ ?_
    refine JO.done rfl ?_
    refine JS.seq ?_
    refine JS.region ?_
    refine JO.reg ttOk 1 [] [] [(3, .v (.int .i64 x0))] _ rfl ⟨⟨rfl, trivial⟩, rfl⟩ ?_
    obtain ⟨y2, hy3, h⟩ := bindO_some h
    refine JO.call rfl rfl rfl rfl (ok_i_in x0 48 57 _ hy3) rfl [] rfl rfl ?_
    intro _ _
    refine JO.reg ttOk 1 [] [] [(2, .v (.bool y2))] _ rfl ⟨⟨rfl, trivial⟩, rfl⟩ ?_
    refine JO.done rfl ?_
    cases h
    exact JS.ret ttOk () trivial rfl rfl [] rfl

def M_i_RuneOk (x0 : Int) : Option Bool :=
  (bindO (M_i_in x0 0 1114111) fun (y2 : Bool) =>
  (callO (y2 = true) (M_i_in x0 55296 57343) false fun (y4 : Bool) =>
  some (bif y2 then (!y4) else false)))

theorem ok_i_RuneOk (x0 : Int) (r : Bool) (h : M_i_RuneOk x0 = some r) :
    FC Try.prog 120 [.int .i64 x0] [] (fun _ : Unit => True) (fun _ => .bool r) (fun _ => []) :=
  by
    refine FC.of (T := TTx) Try.call120 Try.func120 rfl rfl fun w0 => ?_
    unfold M_i_RuneOk at h
    refine JS.seq ?_
    refine JS.region ?_
    refine JO.reg ttOk 1 [] [] [] _ rfl ⟨trivial, rfl⟩ ?_
    refine JO.done rfl ?_
    refine JS.seq ?_
    refine JS.region ?_
    refine JO.reg ttOk 1 [] [] [(3, .v (.int .i64 x0))] _ rfl ⟨⟨rfl, trivial⟩, rfl⟩ ?_
    obtain ⟨y2, hy3, h⟩ := bindO_some h
    refine JO.call rfl rfl rfl rfl (ok_i_in x0 0 1114111 _ hy3) rfl [] rfl rfl ?_
    intro _ _
    refine JO.reg ttOk 2 [] [] [(5, .v (.bool y2)), (6, .cd [(5, true)] (.v (.int .i64 x0)))] _ rfl ⟨⟨rfl, rfl, trivial⟩, rfl⟩ ?_
    obtain ⟨y4, hy5, -, h⟩ := callO_some h
    refine JO.callg rfl rfl rfl rfl (fun q7 => ok_i_in x0 55296 57343 _ (hy5 q7)) rfl [] rfl rfl ?_
    refine JO.reg ttOk 3 [] [] [(2, .v (.bool (bif y2 then (!y4) else false)))] _ rfl ⟨⟨rfl, trivial⟩, rfl⟩ ?_
    refine JO.done rfl ?_
    cases h
    exact JS.ret ttOk () trivial rfl rfl [] rfl

def M_i_Printable (x0 : Int) : Option Bool :=
  (bindO (M_i_RuneOk x0) fun (y2 : Bool) =>
  (callO ((bif y2 then (decide (32 ≤ x0)) else false) = true) (M_i_in x0 127 159) false fun (y4 : Bool) =>
  some (bif (bif y2 then (decide (32 ≤ x0)) else false) then (!y4) else false)))

theorem ok_i_Printable (x0 : Int) (r : Bool) (h : M_i_Printable x0 = some r) :
    FC Try.prog 80 [.int .i64 x0] [] (fun _ : Unit => True) (fun _ => .bool r) (fun _ => []) :=
  by
    refine FC.of (T := TTx) Try.call80 Try.func80 rfl rfl fun w0 => ?_
    unfold M_i_Printable at h
    refine JS.seq ?_
    refine JS.region ?_
    refine JO.reg ttOk 1 [] [] [] _ rfl ⟨trivial, rfl⟩ ?_
    refine JO.done rfl ?_
    refine JS.seq ?_
    refine JS.region ?_
    refine JO.reg ttOk 1 [] [] [(3, .v (.int .i64 x0))] _ rfl ⟨⟨rfl, trivial⟩, rfl⟩ ?_
    obtain ⟨y2, hy3, h⟩ := bindO_some h
    refine JO.call rfl rfl rfl rfl (ok_i_RuneOk x0 _ hy3) rfl [] rfl rfl ?_
    intro _ _
    refine JO.reg ttOk 6 [] [] [(9, .v (.bool (bif y2 then (decide (32 ≤ x0)) else false))), (10, .cd [(9, true)] (.v (.int .i64 x0)))] _ rfl ⟨⟨rfl, rfl, trivial⟩, rfl⟩ ?_
    obtain ⟨y4, hy5, -, h⟩ := callO_some h
    refine JO.callg rfl rfl rfl rfl (fun q7 => ok_i_in x0 127 159 _ (hy5 q7)) rfl [] rfl rfl ?_
    refine JO.reg ttOk 3 [] [] [(2, .v (.bool (bif (bif y2 then (decide (32 ≤ x0)) else false) then (!y4) else false)))] _ rfl ⟨⟨rfl, trivial⟩, rfl⟩ ?_
    refine JO.done rfl ?_
    cases h
    exact JS.ret ttOk () trivial rfl rfl [] rfl

def M_i_ClassOf (x0 : Int) : Option Int :=
  (bif (bif (bif (decide (x0 = 9)) then true else (decide (x0 = 10))) then true else (decide (x0 = 32))) then
  some 0
  else
  (bindO (M_i_isLower x0) fun (y2 : Bool) =>
  (callO (y2 = false) (M_i_isUpper x0) false fun (y4 : Bool) =>
  (callO ((bif y2 then true else y4) = false) (M_i_isDigit x0) false fun (y7 : Bool) =>
  (callO ((decide (159 < x0)) = true ∧ (bif (bif (bif y2 then true else y4) then true else y7) then true else (decide (x0 = 95))) = false) (M_i_Printable x0) false fun (y10 : Bool) =>
  (bif (bif (bif (bif (bif y2 then true else y4) then true else y7) then true else (decide (x0 = 95))) then true else (bif (decide (159 < x0)) then y10 else false)) then
  some 1
  else
  some 2))))))

theorem ok_i_ClassOf (x0 : Int) (r : Int) (h : M_i_ClassOf x0 = some r) :
    FC Try.prog 52 [.int .i64 x0] [] (fun _ : Unit => True) (fun _ => .int .i64 r) (fun _ => []) :=
  by
    refine FC.of (T := TTx) Try.call52 Try.func52 rfl rfl fun w0 => ?_
    unfold M_i_ClassOf at h
    refine JS.seq ?_
    refine JS.region ?_
    refine JO.reg ttOk 1 [] [] [] _ rfl ⟨trivial, rfl⟩ ?_
    refine JO.done rfl ?_
    refine JS.seq ?_
    refine JS.block ?_
    refine JS.seq ?_
    refine JS.region ?_
    refine JO.reg ttOk 11 [] [] [(3, .v (.bool (bif (bif (decide (x0 = 9)) then true else (decide (x0 = 10))) then true else (decide (x0 = 32)))))] _ rfl ⟨⟨rfl, trivial⟩, rfl⟩ ?_
    refine JO.done rfl ?_
    refine JS.cond rfl (fun ht21 => ?_) (fun ht21 => ?_)
    · have h := condT h ht21
      refine JS.seq ?_
      refine JS.region ?_
      refine JO.reg ttOk 1 [] [] [(2, .v (.int .i64 0))] _ rfl ⟨⟨rfl, trivial⟩, rfl⟩ ?_
      refine JO.done rfl ?_
      cases h
      exact JS.ret ttOk () trivial rfl rfl [] rfl
    · have h := condF h ht21
      refine JS.seq ?_
      refine JS.region ?_
      refine JO.reg ttOk 1 [] [] [(15, .v (.int .i64 x0))] _ rfl ⟨⟨rfl, trivial⟩, rfl⟩ ?_
      obtain ⟨y2, hy3, h⟩ := bindO_some h
      refine JO.call rfl rfl rfl rfl (ok_i_isLower x0 _ hy3) rfl [] rfl rfl ?_
      intro _ _
      refine JO.reg ttOk 2 [] [] [(17, .v (.bool y2)), (18, .cd [(17, false)] (.v (.int .i64 x0)))] _ rfl ⟨⟨rfl, rfl, trivial⟩, rfl⟩ ?_
      obtain ⟨y4, hy5, -, h⟩ := callO_some h
      refine JO.callg rfl rfl rfl rfl (fun q16 => ok_i_isUpper x0 _ (hy5 q16)) rfl [] rfl rfl ?_
      refine JO.reg ttOk 3 [] [] [(21, .v (.bool (bif y2 then true else y4))), (22, .cd [(21, false)] (.v (.int .i64 x0)))] _ rfl ⟨⟨rfl, rfl, trivial⟩, rfl⟩ ?_
      obtain ⟨y7, hy8, -, h⟩ := callO_some h
      refine JO.callg rfl rfl rfl rfl (fun q17 => ok_i_isDigit x0 _ (hy8 q17)) rfl [] rfl rfl ?_
      refine JO.reg ttOk 10 [] [] [(29, .v (.bool (bif (bif (bif y2 then true else y4) then true else y7) then true else (decide (x0 = 95))))), (32, .cd [(29, false)] (.v (.bool (decide (159 < x0))))), (33, .cd [(32, true), (29, false)] (.v (.int .i64 x0)))] _ rfl ⟨⟨rfl, rfl, rfl, trivial⟩, rfl⟩ ?_
      obtain ⟨y10, hy11, -, h⟩ := callO_some h
      refine JO.callg rfl rfl rfl rfl (fun q18 q19 => ok_i_Printable x0 _ (hy11 ⟨q18, q19⟩)) rfl [] rfl rfl ?_
      refine JO.reg ttOk 3 [] [] [(14, .v (.bool (bif (bif (bif (bif y2 then true else y4) then true else y7) then true else (decide (x0 = 95))) then true else (bif (decide (159 < x0)) then y10 else false))))] _ rfl ⟨⟨rfl, trivial⟩, rfl⟩ ?_
      refine JO.done rfl ?_
      refine JS.cond rfl (fun ht20 => ?_) (fun ht20 => ?_)
      · have h := condT h ht20
        refine JS.seq ?_
        refine JS.region ?_
        refine JO.reg ttOk 1 [] [] [(2, .v (.int .i64 1))] _ rfl ⟨⟨rfl, trivial⟩, rfl⟩ ?_
        refine JO.done rfl ?_
        cases h
        exact JS.ret ttOk () trivial rfl rfl [] rfl
      · have h := condF h ht20
        refine JS.skip ?_
        refine JS.endB ?_
        refine JS.seq ?_
        refine JS.region ?_
        refine JO.reg ttOk 1 [] [] [(2, .v (.int .i64 2))] _ rfl ⟨⟨rfl, trivial⟩, rfl⟩ ?_
        refine JO.done rfl ?_
        cases h
        exact JS.ret ttOk () trivial rfl rfl [] rfl

def M_i_classAt (x0 : List Int) (x1 : Int) (x2 : Bool) : Option Int :=
  (guardO (0 ≤ x1 ∧ x1 < (x0.length : Int)) <|
  (bindO (M_i_ClassOf (at' x0 x1)) fun (y10 : Int) =>
  (bif (bif x2 then (decide (y10 = 2)) else false) then
  some 1
  else
  some y10)))

theorem ok_i_classAt (x0 : List Int) (x1 : Int) (x2 : Bool) (a4 : Option Addr) (c5 : Nat) (l6 : Nat) (hl7 : x0.length = l6) (r : Int) (h : M_i_classAt x0 x1 x2 = some r) :
    FC Try.prog 96 [.slice a4 l6 c5, .int .i64 x1, .bool x2] [⟨(.int .i64), ⟨a4, l6, c5⟩, x0⟩] (fun _ : Unit => True) (fun _ => .int .i64 r) (fun _ => []) :=
  by
    subst hl7
    refine FC.of (T := TTx) Try.call96 Try.func96 rfl rfl fun w0 => ?_
    unfold M_i_classAt at h
    refine JS.seq ?_
    refine JS.region ?_
    refine JO.reg ttOk 1 [] [] [] _ rfl ⟨trivial, rfl⟩ ?_
    refine JO.done rfl ?_
    refine JS.seq ?_
    refine JS.region ?_
    refine JO.know 0 rfl fun hs13 => ?_
    obtain ⟨g9, h⟩ := guardO_some h
    refine JO.reg ttOk 3 [] [] [(10, .ep ⟨a4, x0.length, c5⟩ (Int.toNat x1 * 1))] _ rfl ⟨hs13.ix g9, ⟨rfl, trivial⟩, rfl⟩ ?_
    refine JO.load ttOk rfl rfl rfl rfl rfl rfl rfl 0 rfl rfl (Int.toNat x1) 0 (at' x0 x1) ⟨at_some g9, rfl⟩ rfl rfl ?_
    obtain ⟨y10, hy11, h⟩ := bindO_some h
    refine JO.call rfl rfl rfl rfl (ok_i_ClassOf (at' x0 x1) _ hy11) rfl [] rfl rfl ?_
    intro _ _
    refine JO.reg ttOk 1 [] [] [(7, .v (.int .i64 y10))] _ rfl ⟨⟨rfl, trivial⟩, rfl⟩ ?_
    refine JO.done rfl ?_
    refine JS.seq ?_
    refine JS.seq ?_
    refine JS.region ?_
    refine JO.reg ttOk 5 [] [] [(17, .v (.bool (bif x2 then (decide (y10 = 2)) else false)))] _ rfl ⟨⟨rfl, trivial⟩, rfl⟩ ?_
    refine JO.done rfl ?_
    refine JS.cond rfl (fun ht14 => ?_) (fun ht14 => ?_)
    · have h := condT h ht14
      refine JS.seq ?_
      refine JS.region ?_
      refine JO.reg ttOk 1 [] [] [(6, .v (.int .i64 1))] _ rfl ⟨⟨rfl, trivial⟩, rfl⟩ ?_
      refine JO.done rfl ?_
      cases h
      exact JS.ret ttOk () trivial rfl rfl [] rfl
    · have h := condF h ht14
      refine JS.skip ?_
      refine JS.seq ?_
      refine JS.region ?_
      refine JO.reg ttOk 2 [] [] [(6, .v (.int .i64 y10))] _ rfl ⟨⟨rfl, trivial⟩, rfl⟩ ?_
      refine JO.done rfl ?_
      cases h
      exact JS.ret ttOk () trivial rfl rfl [] rfl

def M_i_runEnd_L1 (x0 : List Int) (x2 : Bool) (y8 : Int) (j20 : Int → Option Int) (k15 : Int → Option Int) : Int → Option Int := fun x10 =>
  (callO ((decide (x10 < (x0.length : Int))) = true) (M_i_classAt x0 x10 x2) (0 : Int) fun (y11 : Int) =>
  (bif (bif (decide (x10 < (x0.length : Int))) then (decide (y11 = y8)) else false) then
  k15 (W (x10 + 1))
  else
  j20 x10))

def M_i_runEnd (x0 : List Int) (x1 : Int) (x2 : Bool) : Option Int :=
  (bindO (M_i_classAt x0 x1 x2) fun (y8 : Int) =>
  (joinO (fun (x19 : Int) =>
  some x19) fun j20 =>
  (fixF (M_i_runEnd_L1 x0 x2 y8 j20) FUEL x1)))

theorem ok_i_runEnd (x0 : List Int) (x1 : Int) (x2 : Bool) (a4 : Option Addr) (c5 : Nat) (l6 : Nat) (hl7 : x0.length = l6) (r : Int) (h : M_i_runEnd x0 x1 x2 = some r) :
    FC Try.prog 97 [.slice a4 l6 c5, .int .i64 x1, .bool x2] [⟨(.int .i64), ⟨a4, l6, c5⟩, x0⟩] (fun _ : Unit => True) (fun _ => .int .i64 r) (fun _ => []) :=
  by
    subst hl7
    refine FC.of (T := TTx) Try.call97 Try.func97 rfl rfl fun w0 => ?_
    unfold M_i_runEnd at h
    refine JS.seq ?_
    refine JS.region ?_
    refine JO.reg ttOk 1 [] [] [] _ rfl ⟨trivial, rfl⟩ ?_
    refine JO.done rfl ?_
    refine JS.seq ?_
    refine JS.region ?_
    refine JO.reg ttOk 3 [] [] [(8, .v (.slice a4 x0.length c5)), (9, .v (.int .i64 x1)), (10, .v (.bool x2))] _ rfl ⟨⟨rfl, rfl, rfl, trivial⟩, rfl⟩ ?_
    obtain ⟨y8, hy9, h⟩ := bindO_some h
    refine JO.call rfl rfl rfl rfl (ok_i_classAt x0 x1 x2 a4 c5 x0.length rfl _ hy9) rfl [0] rfl rfl ?_
    intro _ _
    refine JO.reg ttOk 1 [] [] [(7, .v (.int .i64 y8))] _ rfl ⟨⟨rfl, trivial⟩, rfl⟩ ?_
    refine JO.done rfl ?_
    refine JS.seq ?_
    obtain ⟨j20, hj26, h⟩ := joinO_some h
    refine JS.blockJ (ι := Int) ⟨fun z => j20 z = some r, fun z => [(1, .v (.int .i64 z))], fun z => .nil, fun z => [], fun z => [], fun z => 0⟩ ?_ ?_
    · refine JS.loop (ι := Nat × Int) ⟨fun z => fixF (M_i_runEnd_L1 x0 x2 y8 j20) z.1 z.2 = some r, fun z => [(0, .v (.slice a4 x0.length c5)), (1, .v (.int .i64 z.2)), (2, .v (.bool x2)), (7, .v (.int .i64 y8))], fun z => .nil, fun z => [⟨(.int .i64), ⟨a4, x0.length, c5⟩, x0⟩], fun z => [], fun z => z.1⟩ (FUEL, x1) h ⟨rfl, rfl, rfl, rfl, trivial⟩ trivial [0] rfl [] rfl ?_
      rintro ⟨n16, x10⟩ h
      obtain ⟨n16, rfl, h⟩ := fixF_some h
      rw [M_i_runEnd_L1] at h
      refine JS.seq ?_
      refine JS.seq ?_
      refine JS.region ?_
      refine JO.reg ttOk 8 [] [] [(16, .v (.bool (decide (x10 < (x0.length : Int))))), (17, .cd [(16, true)] (.v (.slice a4 x0.length c5))), (18, .cd [(16, true)] (.v (.int .i64 x10))), (19, .cd [(16, true)] (.v (.bool x2)))] _ rfl ⟨⟨rfl, rfl, rfl, rfl, trivial⟩, rfl⟩ ?_
      obtain ⟨y11, hy12, -, h⟩ := callO_some h
      refine JO.callg rfl rfl rfl rfl (fun q24 => ok_i_classAt x0 x10 x2 a4 c5 x0.length rfl _ (hy12 q24)) rfl [0] rfl rfl ?_
      refine JO.reg ttOk 3 [] [] [(23, .v (.bool (bif (decide (x10 < (x0.length : Int))) then (decide (y11 = y8)) else false)))] _ rfl ⟨⟨rfl, trivial⟩, rfl⟩ ?_
      refine JO.done rfl ?_
      refine JS.cond rfl (fun ht25 => ?_) (fun ht25 => ?_)
      · have h := condT h ht25
        refine JS.skip ?_
        refine JS.block ?_
        refine JS.region ?_
        refine JO.reg ttOk 3 [(W (x10 + 1))] [] [(1, .v (.int .i64 (W (x10 + 1))))] _ rfl ⟨⟨trivial, rfl⟩, ⟨rfl, trivial⟩, rfl⟩ ?_
        refine JO.done rfl ?_
        refine JS.endB ?_
        exact JS.endL (n16, (W (x10 + 1))) h (Nat.lt_succ_self _) ⟨rfl, rfl, rfl, rfl, trivial⟩ trivial [0] rfl [] rfl
      · have h := condF h ht25
        refine JS.exit rfl ?_
        exact JS.endJ x10 h ⟨rfl, trivial⟩ trivial [] rfl [] rfl
    · rintro x19 h
      subst hj26
      refine JS.seq ?_
      refine JS.region ?_
      refine JO.reg ttOk 2 [] [] [(6, .v (.int .i64 x19))] _ rfl ⟨⟨rfl, trivial⟩, rfl⟩ ?_
      refine JO.done rfl ?_
      cases h
      exact JS.ret ttOk () trivial rfl rfl [] rfl

def M_i_ViWordEnd_L1 (x0 : List Int) (x2 : Bool) (j20 : Int → Option Int) (k15 : Int → Option Int) : Int → Option Int := fun x10 =>
  (callO ((decide (x10 < (x0.length : Int))) = true) (M_i_classAt x0 x10 x2) (0 : Int) fun (y11 : Int) =>
  (bif (bif (decide (x10 < (x0.length : Int))) then (decide (y11 = 0)) else false) then
  k15 (W (x10 + 1))
  else
  j20 x10))

def M_i_ViWordEnd (x0 : List Int) (x1 : Int) (x2 : Bool) : Option Int :=
  (bif (decide ((x0.length : Int) = 0)) then
  some 0
  else
  (bindO (M_i_within x1 (x0.length : Int)) fun (y8 : Int) =>
  (joinO (fun (x19 : Int) =>
  (bif (decide ((x0.length : Int) ≤ x19)) then
  some (W ((x0.length : Int) - 1))
  else
  (bindO (M_i_runEnd x0 x19 x2) fun (y23 : Int) =>
  some (W (y23 - 1))))) fun j20 =>
  (fixF (M_i_ViWordEnd_L1 x0 x2 j20) FUEL (W (y8 + 1))))))

theorem ok_i_ViWordEnd (x0 : List Int) (x1 : Int) (x2 : Bool) (a4 : Option Addr) (c5 : Nat) (l6 : Nat) (hl7 : x0.length = l6) (r : Int) (h : M_i_ViWordEnd x0 x1 x2 = some r) :
    FC Try.prog 51 [.slice a4 l6 c5, .int .i64 x1, .bool x2] [⟨(.int .i64), ⟨a4, l6, c5⟩, x0⟩] (fun _ : Unit => True) (fun _ => .int .i64 r) (fun _ => []) :=
  by
    subst hl7
    refine FC.of (T := TTx) Try.call51 Try.func51 rfl rfl fun w0 => ?_
    unfold M_i_ViWordEnd at h
    refine JS.seq ?_
    refine JS.region ?_
    refine JO.reg ttOk 1 [] [] [] _ rfl ⟨trivial, rfl⟩ ?_
    refine JO.done rfl ?_
    refine JS.seq ?_
    refine JS.region ?_
    refine JO.reg ttOk 3 [] [] [(7, .v (.int .i64 (x0.length : Int)))] _ rfl ⟨⟨rfl, trivial⟩, rfl⟩ ?_
    refine JO.done rfl ?_
    refine JS.seq ?_
    refine JS.seq ?_
    refine JS.region ?_
    refine JO.reg ttOk 2 [] [] [(11, .v (.bool (decide ((x0.length : Int) = 0))))] _ rfl ⟨⟨rfl, trivial⟩, rfl⟩ ?_
    refine JO.done rfl ?_
    refine JS.cond rfl (fun ht32 => ?_) (fun ht32 => ?_)
    · have h := condT h ht32
      refine JS.seq ?_
      refine JS.region ?_
      refine JO.reg ttOk 1 [] [] [(6, .v (.int .i64 0))] _ rfl ⟨⟨rfl, trivial⟩, rfl⟩ ?_
      refine JO.done rfl ?_
      cases h
      exact JS.ret ttOk () trivial rfl rfl [] rfl
    · have h := condF h ht32
      refine JS.skip ?_
      refine JS.seq ?_
      refine JS.region ?_
      refine JO.reg ttOk 2 [] [] [(12, .v (.int .i64 x1)), (13, .v (.int .i64 (x0.length : Int)))] _ rfl ⟨⟨rfl, rfl, trivial⟩, rfl⟩ ?_
      obtain ⟨y8, hy9, h⟩ := bindO_some h
      refine JO.call rfl rfl rfl rfl (ok_i_within x1 (x0.length : Int) _ hy9) rfl [] rfl rfl ?_
      intro _ _
      refine JO.reg ttOk 2 [(W (y8 + 1))] [] [(1, .v (.int .i64 (W (y8 + 1))))] _ rfl ⟨⟨trivial, rfl⟩, ⟨rfl, trivial⟩, rfl⟩ ?_
      refine JO.done rfl ?_
      refine JS.seq ?_
      obtain ⟨j20, hj31, h⟩ := joinO_some h
      refine JS.blockJ (ι := Int) ⟨fun z => j20 z = some r, fun z => [(0, .v (.slice a4 x0.length c5)), (1, .v (.int .i64 z)), (2, .v (.bool x2)), (7, .v (.int .i64 (x0.length : Int)))], fun z => .nil, fun z => [⟨(.int .i64), ⟨a4, x0.length, c5⟩, x0⟩], fun z => [], fun z => 0⟩ ?_ ?_
      · refine JS.loop (ι := Nat × Int) ⟨fun z => fixF (M_i_ViWordEnd_L1 x0 x2 j20) z.1 z.2 = some r, fun z => [(0, .v (.slice a4 x0.length c5)), (1, .v (.int .i64 z.2)), (2, .v (.bool x2)), (7, .v (.int .i64 (x0.length : Int)))], fun z => .nil, fun z => [⟨(.int .i64), ⟨a4, x0.length, c5⟩, x0⟩], fun z => [], fun z => z.1⟩ (FUEL, (W (y8 + 1))) h ⟨rfl, rfl, rfl, rfl, trivial⟩ trivial [0] rfl [] rfl ?_
        rintro ⟨n16, x10⟩ h
        obtain ⟨n16, rfl, h⟩ := fixF_some h
        rw [M_i_ViWordEnd_L1] at h
        refine JS.seq ?_
        refine JS.seq ?_
        refine JS.region ?_
        refine JO.reg ttOk 7 [] [] [(19, .v (.bool (decide (x10 < (x0.length : Int))))), (20, .cd [(19, true)] (.v (.slice a4 x0.length c5))), (21, .cd [(19, true)] (.v (.int .i64 x10))), (22, .cd [(19, true)] (.v (.bool x2)))] _ rfl ⟨⟨rfl, rfl, rfl, rfl, trivial⟩, rfl⟩ ?_
        obtain ⟨y11, hy12, -, h⟩ := callO_some h
        refine JO.callg rfl rfl rfl rfl (fun q28 => ok_i_classAt x0 x10 x2 a4 c5 x0.length rfl _ (hy12 q28)) rfl [0] rfl rfl ?_
        refine JO.reg ttOk 2 [] [] [(25, .v (.bool (bif (decide (x10 < (x0.length : Int))) then (decide (y11 = 0)) else false)))] _ rfl ⟨⟨rfl, trivial⟩, rfl⟩ ?_
        refine JO.done rfl ?_
        refine JS.cond rfl (fun ht29 => ?_) (fun ht29 => ?_)
        · have h := condT h ht29
          refine JS.skip ?_
          refine JS.block ?_
          refine JS.region ?_
          refine JO.reg ttOk 3 [(W (x10 + 1))] [] [(1, .v (.int .i64 (W (x10 + 1))))] _ rfl ⟨⟨trivial, rfl⟩, ⟨rfl, trivial⟩, rfl⟩ ?_
          refine JO.done rfl ?_
          refine JS.endB ?_
          exact JS.endL (n16, (W (x10 + 1))) h (Nat.lt_succ_self _) ⟨rfl, rfl, rfl, rfl, trivial⟩ trivial [0] rfl [] rfl
        · have h := condF h ht29
          refine JS.exit rfl ?_
          exact JS.endJ x10 h ⟨rfl, rfl, rfl, rfl, trivial⟩ trivial [0] rfl [] rfl
      · rintro x19 h
        subst hj31
        refine JS.seq ?_
        refine JS.seq ?_
        refine JS.region ?_
        refine JO.reg ttOk 3 [] [] [(30, .v (.bool (decide ((x0.length : Int) ≤ x19))))] _ rfl ⟨⟨rfl, trivial⟩, rfl⟩ ?_
        refine JO.done rfl ?_
        refine JS.cond rfl (fun ht30 => ?_) (fun ht30 => ?_)
        · have h := condT h ht30
          refine JS.seq ?_
          refine JS.region ?_
          refine JO.reg ttOk 3 [(W ((x0.length : Int) - 1))] [] [(6, .v (.int .i64 (W ((x0.length : Int) - 1))))] _ rfl ⟨⟨trivial, rfl⟩, ⟨rfl, trivial⟩, rfl⟩ ?_
          refine JO.done rfl ?_
          cases h
          exact JS.ret ttOk () trivial rfl rfl [] rfl
        · have h := condF h ht30
          refine JS.skip ?_
          refine JS.seq ?_
          refine JS.region ?_
          refine JO.reg ttOk 3 [] [] [(33, .v (.slice a4 x0.length c5)), (34, .v (.int .i64 x19)), (35, .v (.bool x2))] _ rfl ⟨⟨rfl, rfl, rfl, trivial⟩, rfl⟩ ?_
          obtain ⟨y23, hy24, h⟩ := bindO_some h
          refine JO.call rfl rfl rfl rfl (ok_i_runEnd x0 x19 x2 a4 c5 x0.length rfl _ hy24) rfl [0] rfl rfl ?_
          intro _ _
          refine JO.reg ttOk 2 [(W (y23 - 1))] [] [(6, .v (.int .i64 (W (y23 - 1))))] _ rfl ⟨⟨trivial, rfl⟩, ⟨rfl, trivial⟩, rfl⟩ ?_
          refine JO.done rfl ?_
          cases h
          exact JS.ret ttOk () trivial rfl rfl [] rfl

def M_i_ViWordBack_L1 (x0 : List Int) (x2 : Bool) (j22 : Int → Option Int) (k16 : Int → Option Int) : Int → Option Int := fun x10 =>
  (callO ((decide (0 < x10)) = true) (M_i_classAt x0 (W (x10 - 1)) x2) (0 : Int) fun (y12 : Int) =>
  (bif (bif (decide (0 < x10)) then (decide (y12 = 0)) else false) then
  k16 (W (x10 - 1))
  else
  j22 x10))

def M_i_ViWordBack_L2 (x0 : List Int) (x2 : Bool) (y26 : Int) (j40 : Int → Option Int) (k34 : Int → Option Int) : Int → Option Int := fun x28 =>
  (callO ((decide (0 < x28)) = true) (M_i_classAt x0 (W (x28 - 1)) x2) (0 : Int) fun (y30 : Int) =>
  (bif (bif (decide (0 < x28)) then (decide (y30 = y26)) else false) then
  k34 (W (x28 - 1))
  else
  j40 x28))

def M_i_ViWordBack (x0 : List Int) (x1 : Int) (x2 : Bool) : Option Int :=
  (bindO (M_i_within x1 (x0.length : Int)) fun (y8 : Int) =>
  (joinO (fun (x21 : Int) =>
  (bif (decide (x21 = 0)) then
  some 0
  else
  (bindO (M_i_classAt x0 (W (x21 - 1)) x2) fun (y26 : Int) =>
  (joinO (fun (x39 : Int) =>
  some x39) fun j40 =>
  (fixF (M_i_ViWordBack_L2 x0 x2 y26 j40) FUEL x21))))) fun j22 =>
  (fixF (M_i_ViWordBack_L1 x0 x2 j22) FUEL y8)))

theorem ok_i_ViWordBack (x0 : List Int) (x1 : Int) (x2 : Bool) (a4 : Option Addr) (c5 : Nat) (l6 : Nat) (hl7 : x0.length = l6) (r : Int) (h : M_i_ViWordBack x0 x1 x2 = some r) :
    FC Try.prog 49 [.slice a4 l6 c5, .int .i64 x1, .bool x2] [⟨(.int .i64), ⟨a4, l6, c5⟩, x0⟩] (fun _ : Unit => True) (fun _ => .int .i64 r) (fun _ => []) :=
  by
    subst hl7
    refine FC.of (T := TTx) Try.call49 Try.func49 rfl rfl fun w0 => ?_
    unfold M_i_ViWordBack at h
    refine JS.seq ?_
    refine JS.region ?_
    refine JO.reg ttOk 1 [] [] [] _ rfl ⟨trivial, rfl⟩ ?_
    refine JO.done rfl ?_
    refine JS.seq ?_
    refine JS.region ?_
    refine JO.reg ttOk 3 [] [] [(8, .v (.int .i64 x1)), (10, .v (.int .i64 (x0.length : Int)))] _ rfl ⟨⟨rfl, rfl, trivial⟩, rfl⟩ ?_
    obtain ⟨y8, hy9, h⟩ := bindO_some h
    refine JO.call rfl rfl rfl rfl (ok_i_within x1 (x0.length : Int) _ hy9) rfl [] rfl rfl ?_
    intro _ _
    refine JO.reg ttOk 1 [] [] [(1, .v (.int .i64 y8))] _ rfl ⟨⟨rfl, trivial⟩, rfl⟩ ?_
    refine JO.done rfl ?_
    refine JS.seq ?_
    obtain ⟨j22, hj55, h⟩ := joinO_some h
    refine JS.blockJ (ι := Int) ⟨fun z => j22 z = some r, fun z => [(0, .v (.slice a4 x0.length c5)), (1, .v (.int .i64 z)), (2, .v (.bool x2))], fun z => .nil, fun z => [⟨(.int .i64), ⟨a4, x0.length, c5⟩, x0⟩], fun z => [], fun z => 0⟩ ?_ ?_
    · refine JS.loop (ι := Nat × Int) ⟨fun z => fixF (M_i_ViWordBack_L1 x0 x2 j22) z.1 z.2 = some r, fun z => [(0, .v (.slice a4 x0.length c5)), (1, .v (.int .i64 z.2)), (2, .v (.bool x2))], fun z => .nil, fun z => [⟨(.int .i64), ⟨a4, x0.length, c5⟩, x0⟩], fun z => [], fun z => z.1⟩ (FUEL, y8) h ⟨rfl, rfl, rfl, trivial⟩ trivial [0] rfl [] rfl ?_
      rintro ⟨n17, x10⟩ h
      obtain ⟨n17, rfl, h⟩ := fixF_some h
      rw [M_i_ViWordBack_L1] at h
      refine JS.seq ?_
      refine JS.seq ?_
      refine JS.region ?_
      refine JO.reg ttOk 7 [(W (x10 - 1))] [] [(14, .v (.bool (decide (0 < x10)))), (15, .cd [(14, true)] (.v (.slice a4 x0.length c5))), (17, .cd [(14, true)] (.v (.int .i64 (W (x10 - 1))))), (18, .cd [(14, true)] (.v (.bool x2)))] _ rfl ⟨(fun q47 => ⟨trivial, rfl⟩), ⟨rfl, rfl, rfl, rfl, trivial⟩, rfl⟩ ?_
      obtain ⟨y12, hy13, -, h⟩ := callO_some h
      refine JO.callg rfl rfl rfl rfl (fun q48 => ok_i_classAt x0 (W (x10 - 1)) x2 a4 c5 x0.length rfl _ (hy13 q48)) rfl [0] rfl rfl ?_
      refine JO.reg ttOk 2 [] [] [(21, .v (.bool (bif (decide (0 < x10)) then (decide (y12 = 0)) else false)))] _ rfl ⟨⟨rfl, trivial⟩, rfl⟩ ?_
      refine JO.done rfl ?_
      refine JS.cond rfl (fun ht49 => ?_) (fun ht49 => ?_)
      · have h := condT h ht49
        refine JS.skip ?_
        refine JS.block ?_
        refine JS.region ?_
        refine JO.reg ttOk 3 [(W (x10 - 1))] [] [(1, .v (.int .i64 (W (x10 - 1))))] _ rfl ⟨⟨trivial, rfl⟩, ⟨rfl, trivial⟩, rfl⟩ ?_
        refine JO.done rfl ?_
        refine JS.endB ?_
        exact JS.endL (n17, (W (x10 - 1))) h (Nat.lt_succ_self _) ⟨rfl, rfl, rfl, trivial⟩ trivial [0] rfl [] rfl
      · have h := condF h ht49
        refine JS.exit rfl ?_
        exact JS.endJ x10 h ⟨rfl, rfl, rfl, trivial⟩ trivial [0] rfl [] rfl
    · rintro x21 h
      subst hj55
      refine JS.seq ?_
      refine JS.seq ?_
      refine JS.region ?_
      refine JO.reg ttOk 2 [] [] [(25, .v (.bool (decide (x21 = 0))))] _ rfl ⟨⟨rfl, trivial⟩, rfl⟩ ?_
      refine JO.done rfl ?_
      refine JS.cond rfl (fun ht54 => ?_) (fun ht54 => ?_)
      · have h := condT h ht54
        refine JS.seq ?_
        refine JS.region ?_
        refine JO.reg ttOk 1 [] [] [(6, .v (.int .i64 0))] _ rfl ⟨⟨rfl, trivial⟩, rfl⟩ ?_
        refine JO.done rfl ?_
        cases h
        exact JS.ret ttOk () trivial rfl rfl [] rfl
      · have h := condF h ht54
        refine JS.skip ?_
        refine JS.seq ?_
        refine JS.region ?_
        refine JO.reg ttOk 4 [(W (x21 - 1))] [] [(26, .v (.slice a4 x0.length c5)), (28, .v (.int .i64 (W (x21 - 1)))), (29, .v (.bool x2))] _ rfl ⟨⟨trivial, rfl⟩, ⟨rfl, rfl, rfl, trivial⟩, rfl⟩ ?_
        obtain ⟨y26, hy27, h⟩ := bindO_some h
        refine JO.call rfl rfl rfl rfl (ok_i_classAt x0 (W (x21 - 1)) x2 a4 c5 x0.length rfl _ hy27) rfl [0] rfl rfl ?_
        intro _ _
        refine JO.reg ttOk 1 [] [] [(7, .v (.int .i64 y26))] _ rfl ⟨⟨rfl, trivial⟩, rfl⟩ ?_
        refine JO.done rfl ?_
        refine JS.seq ?_
        obtain ⟨j40, hj53, h⟩ := joinO_some h
        refine JS.blockJ (ι := Int) ⟨fun z => j40 z = some r, fun z => [(1, .v (.int .i64 z))], fun z => .nil, fun z => [], fun z => [], fun z => 0⟩ ?_ ?_
        · refine JS.loop (ι := Nat × Int) ⟨fun z => fixF (M_i_ViWordBack_L2 x0 x2 y26 j40) z.1 z.2 = some r, fun z => [(0, .v (.slice a4 x0.length c5)), (1, .v (.int .i64 z.2)), (2, .v (.bool x2)), (7, .v (.int .i64 y26))], fun z => .nil, fun z => [⟨(.int .i64), ⟨a4, x0.length, c5⟩, x0⟩], fun z => [], fun z => z.1⟩ (FUEL, x21) h ⟨rfl, rfl, rfl, rfl, trivial⟩ trivial [0] rfl [] rfl ?_
          rintro ⟨n35, x28⟩ h
          obtain ⟨n35, rfl, h⟩ := fixF_some h
          rw [M_i_ViWordBack_L2] at h
          refine JS.seq ?_
          refine JS.seq ?_
          refine JS.region ?_
          refine JO.reg ttOk 7 [(W (x28 - 1))] [] [(33, .v (.bool (decide (0 < x28)))), (34, .cd [(33, true)] (.v (.slice a4 x0.length c5))), (36, .cd [(33, true)] (.v (.int .i64 (W (x28 - 1))))), (37, .cd [(33, true)] (.v (.bool x2)))] _ rfl ⟨(fun q50 => ⟨trivial, rfl⟩), ⟨rfl, rfl, rfl, rfl, trivial⟩, rfl⟩ ?_
          obtain ⟨y30, hy31, -, h⟩ := callO_some h
          refine JO.callg rfl rfl rfl rfl (fun q51 => ok_i_classAt x0 (W (x28 - 1)) x2 a4 c5 x0.length rfl _ (hy31 q51)) rfl [0] rfl rfl ?_
          refine JO.reg ttOk 3 [] [] [(41, .v (.bool (bif (decide (0 < x28)) then (decide (y30 = y26)) else false)))] _ rfl ⟨⟨rfl, trivial⟩, rfl⟩ ?_
          refine JO.done rfl ?_
          refine JS.cond rfl (fun ht52 => ?_) (fun ht52 => ?_)
          · have h := condT h ht52
            refine JS.skip ?_
            refine JS.block ?_
            refine JS.region ?_
            refine JO.reg ttOk 3 [(W (x28 - 1))] [] [(1, .v (.int .i64 (W (x28 - 1))))] _ rfl ⟨⟨trivial, rfl⟩, ⟨rfl, trivial⟩, rfl⟩ ?_
            refine JO.done rfl ?_
            refine JS.endB ?_
            exact JS.endL (n35, (W (x28 - 1))) h (Nat.lt_succ_self _) ⟨rfl, rfl, rfl, rfl, trivial⟩ trivial [0] rfl [] rfl
          · have h := condF h ht52
            refine JS.exit rfl ?_
            exact JS.endJ x28 h ⟨rfl, trivial⟩ trivial [] rfl [] rfl
        · rintro x39 h
          subst hj53
          refine JS.seq ?_
          refine JS.region ?_
          refine JO.reg ttOk 2 [] [] [(6, .v (.int .i64 x39))] _ rfl ⟨⟨rfl, trivial⟩, rfl⟩ ?_
          refine JO.done rfl ?_
          cases h
          exact JS.ret ttOk () trivial rfl rfl [] rfl

def M_i_ViWordOn_L1 (x0 : List Int) (x2 : Bool) (j30 : Int → Option Int) (k25 : Int → Option Int) : Int → Option Int := fun x20 =>
  (callO ((decide (x20 < (x0.length : Int))) = true) (M_i_classAt x0 x20 x2) (0 : Int) fun (y21 : Int) =>
  (bif (bif (decide (x20 < (x0.length : Int))) then (decide (y21 = 0)) else false) then
  k25 (W (x20 + 1))
  else
  j30 x20))

def M_i_ViWordOn (x0 : List Int) (x1 : Int) (x2 : Bool) : Option Int :=
  (bindO (M_i_within x1 (x0.length : Int)) fun (y8 : Int) =>
  (joinO (fun (x16 : Int) =>
  (joinO (fun (x29 : Int) =>
  some x29) fun j30 =>
  (fixF (M_i_ViWordOn_L1 x0 x2 j30) FUEL x16))) fun j17 =>
  (callO ((decide (y8 < (x0.length : Int))) = true) (M_i_classAt x0 y8 x2) (0 : Int) fun (y10 : Int) =>
  (bif (bif (decide (y8 < (x0.length : Int))) then (!(decide (y10 = 0))) else false) then
  (bindO (M_i_runEnd x0 y8 x2) fun (y13 : Int) =>
  j17 y13)
  else
  j17 y8))))

theorem ok_i_ViWordOn (x0 : List Int) (x1 : Int) (x2 : Bool) (a4 : Option Addr) (c5 : Nat) (l6 : Nat) (hl7 : x0.length = l6) (r : Int) (h : M_i_ViWordOn x0 x1 x2 = some r) :
    FC Try.prog 47 [.slice a4 l6 c5, .int .i64 x1, .bool x2] [⟨(.int .i64), ⟨a4, l6, c5⟩, x0⟩] (fun _ : Unit => True) (fun _ => .int .i64 r) (fun _ => []) :=
  by
    subst hl7
    refine FC.of (T := TTx) Try.call47 Try.func47 rfl rfl fun w0 => ?_
    unfold M_i_ViWordOn at h
    refine JS.seq ?_
    refine JS.region ?_
    refine JO.reg ttOk 1 [] [] [] _ rfl ⟨trivial, rfl⟩ ?_
    refine JO.done rfl ?_
    refine JS.seq ?_
    refine JS.region ?_
    refine JO.reg ttOk 3 [] [] [(7, .v (.int .i64 x1)), (9, .v (.int .i64 (x0.length : Int)))] _ rfl ⟨⟨rfl, rfl, trivial⟩, rfl⟩ ?_
    obtain ⟨y8, hy9, h⟩ := bindO_some h
    refine JO.call rfl rfl rfl rfl (ok_i_within x1 (x0.length : Int) _ hy9) rfl [] rfl rfl ?_
    intro _ _
    refine JO.reg ttOk 1 [] [] [(1, .v (.int .i64 y8))] _ rfl ⟨⟨rfl, trivial⟩, rfl⟩ ?_
    refine JO.done rfl ?_
    obtain ⟨j17, hj40, h⟩ := joinO_some h
    refine JS.seqJ (ι := Int) ⟨fun z => j17 z = some r, fun z => [(0, .v (.slice a4 x0.length c5)), (1, .v (.int .i64 z)), (2, .v (.bool x2))], fun z => .nil, fun z => [⟨(.int .i64), ⟨a4, x0.length, c5⟩, x0⟩], fun z => [], fun z => 0⟩ ?_ ?_
    · refine JS.seq ?_
      refine JS.region ?_
      refine JO.reg ttOk 8 [] [] [(15, .v (.bool (decide (y8 < (x0.length : Int))))), (16, .cd [(15, true)] (.v (.slice a4 x0.length c5))), (17, .cd [(15, true)] (.v (.int .i64 y8))), (18, .cd [(15, true)] (.v (.bool x2)))] _ rfl ⟨⟨rfl, rfl, rfl, rfl, trivial⟩, rfl⟩ ?_
      obtain ⟨y10, hy11, -, h⟩ := callO_some h
      refine JO.callg rfl rfl rfl rfl (fun q35 => ok_i_classAt x0 y8 x2 a4 c5 x0.length rfl _ (hy11 q35)) rfl [0] rfl rfl ?_
      refine JO.reg ttOk 2 [] [] [(21, .v (.bool (bif (decide (y8 < (x0.length : Int))) then (!(decide (y10 = 0))) else false)))] _ rfl ⟨⟨rfl, trivial⟩, rfl⟩ ?_
      refine JO.done rfl ?_
      refine JS.cond rfl (fun ht36 => ?_) (fun ht36 => ?_)
      · have h := condT h ht36
        refine JS.region ?_
        refine JO.reg ttOk 3 [] [] [(22, .v (.slice a4 x0.length c5)), (23, .v (.int .i64 y8)), (24, .v (.bool x2))] _ rfl ⟨⟨rfl, rfl, rfl, trivial⟩, rfl⟩ ?_
        obtain ⟨y13, hy14, h⟩ := bindO_some h
        refine JO.call rfl rfl rfl rfl (ok_i_runEnd x0 y8 x2 a4 c5 x0.length rfl _ hy14) rfl [0] rfl rfl ?_
        intro _ _
        refine JO.reg ttOk 1 [] [] [(1, .v (.int .i64 y13))] _ rfl ⟨⟨rfl, trivial⟩, rfl⟩ ?_
        refine JO.done rfl ?_
        exact JS.endJ y13 h ⟨rfl, rfl, rfl, trivial⟩ trivial [0] rfl [] rfl
      · have h := condF h ht36
        refine JS.skip ?_
        exact JS.endJ y8 h ⟨rfl, rfl, rfl, trivial⟩ trivial [0] rfl [] rfl
    · rintro x16 h
      subst hj40
      refine JS.seq ?_
      obtain ⟨j30, hj39, h⟩ := joinO_some h
      refine JS.blockJ (ι := Int) ⟨fun z => j30 z = some r, fun z => [(1, .v (.int .i64 z))], fun z => .nil, fun z => [], fun z => [], fun z => 0⟩ ?_ ?_
      · refine JS.loop (ι := Nat × Int) ⟨fun z => fixF (M_i_ViWordOn_L1 x0 x2 j30) z.1 z.2 = some r, fun z => [(0, .v (.slice a4 x0.length c5)), (1, .v (.int .i64 z.2)), (2, .v (.bool x2))], fun z => .nil, fun z => [⟨(.int .i64), ⟨a4, x0.length, c5⟩, x0⟩], fun z => [], fun z => z.1⟩ (FUEL, x16) h ⟨rfl, rfl, rfl, trivial⟩ trivial [0] rfl [] rfl ?_
        rintro ⟨n26, x20⟩ h
        obtain ⟨n26, rfl, h⟩ := fixF_some h
        rw [M_i_ViWordOn_L1] at h
        refine JS.seq ?_
        refine JS.seq ?_
        refine JS.region ?_
        refine JO.reg ttOk 8 [] [] [(30, .v (.bool (decide (x20 < (x0.length : Int))))), (31, .cd [(30, true)] (.v (.slice a4 x0.length c5))), (32, .cd [(30, true)] (.v (.int .i64 x20))), (33, .cd [(30, true)] (.v (.bool x2)))] _ rfl ⟨⟨rfl, rfl, rfl, rfl, trivial⟩, rfl⟩ ?_
        obtain ⟨y21, hy22, -, h⟩ := callO_some h
        refine JO.callg rfl rfl rfl rfl (fun q37 => ok_i_classAt x0 x20 x2 a4 c5 x0.length rfl _ (hy22 q37)) rfl [0] rfl rfl ?_
        refine JO.reg ttOk 2 [] [] [(36, .v (.bool (bif (decide (x20 < (x0.length : Int))) then (decide (y21 = 0)) else false)))] _ rfl ⟨⟨rfl, trivial⟩, rfl⟩ ?_
        refine JO.done rfl ?_
        refine JS.cond rfl (fun ht38 => ?_) (fun ht38 => ?_)
        · have h := condT h ht38
          refine JS.skip ?_
          refine JS.block ?_
          refine JS.region ?_
          refine JO.reg ttOk 3 [(W (x20 + 1))] [] [(1, .v (.int .i64 (W (x20 + 1))))] _ rfl ⟨⟨trivial, rfl⟩, ⟨rfl, trivial⟩, rfl⟩ ?_
          refine JO.done rfl ?_
          refine JS.endB ?_
          exact JS.endL (n26, (W (x20 + 1))) h (Nat.lt_succ_self _) ⟨rfl, rfl, rfl, trivial⟩ trivial [0] rfl [] rfl
        · have h := condF h ht38
          refine JS.exit rfl ?_
          exact JS.endJ x20 h ⟨rfl, trivial⟩ trivial [] rfl [] rfl
      · rintro x29 h
        subst hj39
        refine JS.seq ?_
        refine JS.region ?_
        refine JO.reg ttOk 2 [] [] [(6, .v (.int .i64 x29))] _ rfl ⟨⟨rfl, trivial⟩, rfl⟩ ?_
        refine JO.done rfl ?_
        cases h
        exact JS.ret ttOk () trivial rfl rfl [] rfl

def M_i_MotionTo1 (x0 : Int) (x1 : List Int) (x2 : Bool) : Option (Int × List Int × Bool) :=
  (bindO (M_i_ViWordOn x1 x0 x2) fun (y10 : Int) =>
  some (y10, x1, x2))

theorem ok_i_MotionTo1 (x0 : Int) (x1 : List Int) (x2 : Bool) (a4 : Option Addr) (a5 : Option Addr) (c6 : Nat) (l7 : Nat) (hl8 : x1.length = l7) (a9 : Option Addr) (r : Int × List Int × Bool) (h : M_i_MotionTo1 x0 x1 x2 = some r) :
    FX Try.prog 46 [.int .i64 x0, .pointer a4, .pointer a9] [⟨(.int .i64), ⟨a5, l7, c6⟩, x1⟩] [⟨.val, ⟨a4, 1, 1⟩, [(Sl.v ⟨a5, l7, c6⟩)]⟩, ⟨.bool, ⟨a9, 1, 1⟩, [x2]⟩] (fun _ : Unit => True) (fun _ => .int .i64 r.1) (fun _ => [⟨.val, ⟨a4, 1, 1⟩, [(Sl.v ⟨a5, l7, c6⟩)]⟩, ⟨.bool, ⟨a9, 1, 1⟩, [r.2.2]⟩]) :=
  by
    subst hl8
    refine FX.of (T := TTx) Try.call46 Try.func46 rfl rfl fun w0 L0 => ?_
    unfold M_i_MotionTo1 at h
    refine JS.ptr 1 a4 rfl ?_
    refine JS.ptr 2 a9 rfl ?_
    refine JS.seq ?_
    refine JS.region ?_
    refine JO.reg ttOk 1 [] [] [] _ rfl ⟨trivial, rfl⟩ ?_
    refine JO.done rfl ?_
    refine JS.seq ?_
    refine JS.region ?_
    refine JO.loadV ttOk rfl rfl rfl rfl rfl rfl 1 rfl rfl 0 0 (Sl.v ⟨a5, x1.length, c6⟩) ⟨rfl, rfl⟩ rfl rfl rfl ?_
    refine JO.reg ttOk 1 [] [] [(6, .v (.int .i64 x0))] _ rfl ⟨⟨rfl, trivial⟩, rfl⟩ ?_
    refine JO.loadV ttOk rfl rfl rfl rfl rfl rfl 2 rfl rfl 0 0 x2 ⟨rfl, rfl⟩ rfl rfl rfl ?_
    obtain ⟨y10, hy11, h⟩ := bindO_some h
    refine JO.call rfl rfl rfl rfl (ok_i_ViWordOn x1 x0 x2 a5 c6 x1.length rfl _ hy11) rfl [0] rfl rfl ?_
    intro _ _
    refine JO.reg ttOk 1 [] [] [(4, .v (.int .i64 y10))] _ rfl ⟨⟨rfl, trivial⟩, rfl⟩ ?_
    refine JO.done rfl ?_
    cases h
    exact JS.retX ttOk () trivial rfl rfl [0, 0] rfl

def M_i_repeated_f46_L1 (x1 : Int) (x2 : (List Int) × Bool) (j27 : (Int × Bool) → Option (Int × List Int × Bool)) (k22 : (Int × Int × Bool) → Option (Int × List Int × Bool)) : (Int × Int × Bool) → Option (Int × List Int × Bool) := fun (x10, x11, x15) =>
  (bif (decide (x11 < x1)) then
  (bindO (M_i_MotionTo1 x10 x2.1 x15) fun (y16, y17, y18) =>
  k22 (y16, (W (x11 + 1)), y18))
  else
  j27 (x10, x15))

def M_i_repeated_f46 (x0 : Int) (x1 : Int) (x2 : (List Int) × Bool) : Option (Int × List Int × Bool) :=
  (joinO (fun ((x25, x26) : Int × Bool) =>
  some (x25, x2.1, x26)) fun j27 =>
  (fixF (M_i_repeated_f46_L1 x1 x2 j27) FUEL (x0, 0, x2.2)))

theorem ok_i_repeated_f46 (x0 : Int) (x1 : Int) (x2 : (List Int) × Bool) (a4 : Option Addr) (a5 : Option Addr) (c6 : Nat) (l7 : Nat) (hl8 : x2.1.length = l7) (a9 : Option Addr) (r : Int × List Int × Bool) (h : M_i_repeated_f46 x0 x1 x2 = some r) :
    FX Try.prog 45 [.int .i64 x0, .int .i64 x1, .func (.func 46) #[] #[.pointer a4, .pointer a9]] [⟨(.int .i64), ⟨a5, l7, c6⟩, x2.1⟩] [⟨.val, ⟨a4, 1, 1⟩, [(Sl.v ⟨a5, l7, c6⟩)]⟩, ⟨.bool, ⟨a9, 1, 1⟩, [x2.2]⟩] (fun _ : Unit => True) (fun _ => .int .i64 r.1) (fun _ => [⟨.val, ⟨a4, 1, 1⟩, [(Sl.v ⟨a5, l7, c6⟩)]⟩, ⟨.bool, ⟨a9, 1, 1⟩, [r.2.2]⟩]) :=
  by
    subst hl8
    refine FX.of (T := TTx) Try.call45 Try.func45 rfl rfl fun w0 L0 => ?_
    unfold M_i_repeated_f46 at h
    refine JS.seq ?_
    refine JS.region ?_
    refine JO.reg ttOk 1 [] [] [] _ rfl ⟨trivial, rfl⟩ ?_
    refine JO.done rfl ?_
    refine JS.seq ?_
    refine JS.seq ?_
    refine JS.region ?_
    refine JO.reg ttOk 2 [] [] [(7, .v (.int .i64 x1)), (8, .v (.int .i64 0))] _ rfl ⟨⟨rfl, rfl, trivial⟩, rfl⟩ ?_
    refine JO.done rfl ?_
    obtain ⟨j27, hj31, h⟩ := joinO_some h
    refine JS.blockJ (ι := Int × Bool) ⟨fun z => j27 (z.1, z.2) = some r, fun z => [(0, .v (.int .i64 z.1))], fun z => .nil, fun z => [⟨(.int .i64), ⟨a5, x2.1.length, c6⟩, x2.1⟩], fun z => [⟨.val, ⟨a4, 1, 1⟩, [(Sl.v ⟨a5, x2.1.length, c6⟩)]⟩, ⟨.bool, ⟨a9, 1, 1⟩, [z.2]⟩], fun z => 0⟩ ?_ ?_
    · refine JS.loop (ι := Nat × Int × Int × Bool) ⟨fun z => fixF (M_i_repeated_f46_L1 x1 x2 j27) z.1 (z.2.1, z.2.2.1, z.2.2.2) = some r, fun z => [(0, .v (.int .i64 z.2.1)), (2, .v (.func (.func 46) #[] #[.pointer a4, .pointer a9])), (7, .v (.int .i64 x1)), (8, .v (.int .i64 z.2.2.1))], fun z => .nil, fun z => [⟨(.int .i64), ⟨a5, x2.1.length, c6⟩, x2.1⟩], fun z => [⟨.val, ⟨a4, 1, 1⟩, [(Sl.v ⟨a5, x2.1.length, c6⟩)]⟩, ⟨.bool, ⟨a9, 1, 1⟩, [z.2.2.2]⟩], fun z => z.1⟩ (FUEL, x0, 0, x2.2) h ⟨rfl, rfl, rfl, rfl, trivial⟩ trivial [0] rfl [0, 0] rfl ?_
      rintro ⟨n23, x10, x11, x15⟩ h
      obtain ⟨n23, rfl, h⟩ := fixF_some h
      rw [M_i_repeated_f46_L1] at h
      refine JS.seq ?_
      refine JS.region ?_
      refine JO.reg ttOk 1 [] [] [(9, .v (.bool (decide (x11 < x1))))] _ rfl ⟨⟨rfl, trivial⟩, rfl⟩ ?_
      refine JO.done rfl ?_
      refine JS.seq ?_
      refine JS.cond rfl (fun ht30 => ?_) (fun ht30 => ?_)
      · have h := condT h ht30
        refine JS.skip ?_
        refine JS.seq ?_
        refine JS.block ?_
        refine JS.region ?_
        refine JO.reg ttOk 2 [] [] [(10, .v (.func (.func 46) #[] #[.pointer a4, .pointer a9])), (11, .v (.int .i64 x10))] _ rfl ⟨⟨rfl, rfl, trivial⟩, rfl⟩ ?_
        obtain ⟨⟨y16, y17, y18⟩, hy19, h⟩ := bindO_some h
        refine JO.callXV (vs0 := [.int .i64 x10]) (caps := [.pointer a4, .pointer a9]) rfl rfl rfl rfl rfl (ok_i_MotionTo1 x10 x2.1 x15 a4 a5 c6 x2.1.length rfl a9 _ hy19) rfl [0, 0] rfl [0] rfl rfl ?_
        intro _ _
        refine JO.reg ttOk 1 [] [] [(0, .v (.int .i64 y16))] _ rfl ⟨⟨rfl, trivial⟩, rfl⟩ ?_
        refine JO.done rfl ?_
        refine JS.endB ?_
        refine JS.region ?_
        refine JO.reg ttOk 2 [(W (x11 + 1))] [] [(8, .v (.int .i64 (W (x11 + 1))))] _ rfl ⟨⟨trivial, rfl⟩, ⟨rfl, trivial⟩, rfl⟩ ?_
        refine JO.done rfl ?_
        exact JS.endL (n23, y16, (W (x11 + 1)), y18) h (Nat.lt_succ_self _) ⟨rfl, rfl, rfl, rfl, trivial⟩ trivial [0] rfl [0, 0] rfl
      · have h := condF h ht30
        refine JS.exit rfl ?_
        exact JS.endJ (x10, x15) h ⟨rfl, trivial⟩ trivial [0] rfl [0, 0] rfl
    · rintro ⟨x25, x26⟩ h
      subst hj31
      refine JS.seq ?_
      refine JS.region ?_
      refine JO.reg ttOk 2 [] [] [(6, .v (.int .i64 x25))] _ rfl ⟨⟨rfl, trivial⟩, rfl⟩ ?_
      refine JO.done rfl ?_
      cases h
      exact JS.retX ttOk () trivial rfl rfl [0, 0] rfl

def M_i_MotionTo2 (x0 : Int) (x1 : List Int) (x2 : Bool) : Option (Int × List Int × Bool) :=
  (bindO (M_i_ViWordBack x1 x0 x2) fun (y10 : Int) =>
  some (y10, x1, x2))

theorem ok_i_MotionTo2 (x0 : Int) (x1 : List Int) (x2 : Bool) (a4 : Option Addr) (a5 : Option Addr) (c6 : Nat) (l7 : Nat) (hl8 : x1.length = l7) (a9 : Option Addr) (r : Int × List Int × Bool) (h : M_i_MotionTo2 x0 x1 x2 = some r) :
    FX Try.prog 48 [.int .i64 x0, .pointer a4, .pointer a9] [⟨(.int .i64), ⟨a5, l7, c6⟩, x1⟩] [⟨.val, ⟨a4, 1, 1⟩, [(Sl.v ⟨a5, l7, c6⟩)]⟩, ⟨.bool, ⟨a9, 1, 1⟩, [x2]⟩] (fun _ : Unit => True) (fun _ => .int .i64 r.1) (fun _ => [⟨.val, ⟨a4, 1, 1⟩, [(Sl.v ⟨a5, l7, c6⟩)]⟩, ⟨.bool, ⟨a9, 1, 1⟩, [r.2.2]⟩]) :=
  by
    subst hl8
    refine FX.of (T := TTx) Try.call48 Try.func48 rfl rfl fun w0 L0 => ?_
    unfold M_i_MotionTo2 at h
    refine JS.ptr 1 a4 rfl ?_
    refine JS.ptr 2 a9 rfl ?_
    refine JS.seq ?_
    refine JS.region ?_
    refine JO.reg ttOk 1 [] [] [] _ rfl ⟨trivial, rfl⟩ ?_
    refine JO.done rfl ?_
    refine JS.seq ?_
    refine JS.region ?_
    refine JO.loadV ttOk rfl rfl rfl rfl rfl rfl 1 rfl rfl 0 0 (Sl.v ⟨a5, x1.length, c6⟩) ⟨rfl, rfl⟩ rfl rfl rfl ?_
    refine JO.reg ttOk 1 [] [] [(6, .v (.int .i64 x0))] _ rfl ⟨⟨rfl, trivial⟩, rfl⟩ ?_
    refine JO.loadV ttOk rfl rfl rfl rfl rfl rfl 2 rfl rfl 0 0 x2 ⟨rfl, rfl⟩ rfl rfl rfl ?_
    obtain ⟨y10, hy11, h⟩ := bindO_some h
    refine JO.call rfl rfl rfl rfl (ok_i_ViWordBack x1 x0 x2 a5 c6 x1.length rfl _ hy11) rfl [0] rfl rfl ?_
    intro _ _
    refine JO.reg ttOk 1 [] [] [(4, .v (.int .i64 y10))] _ rfl ⟨⟨rfl, trivial⟩, rfl⟩ ?_
    refine JO.done rfl ?_
    cases h
    exact JS.retX ttOk () trivial rfl rfl [0, 0] rfl

def M_i_repeated_f48_L1 (x1 : Int) (x2 : (List Int) × Bool) (j27 : (Int × Bool) → Option (Int × List Int × Bool)) (k22 : (Int × Int × Bool) → Option (Int × List Int × Bool)) : (Int × Int × Bool) → Option (Int × List Int × Bool) := fun (x10, x11, x15) =>
  (bif (decide (x11 < x1)) then
  (bindO (M_i_MotionTo2 x10 x2.1 x15) fun (y16, y17, y18) =>
  k22 (y16, (W (x11 + 1)), y18))
  else
  j27 (x10, x15))

def M_i_repeated_f48 (x0 : Int) (x1 : Int) (x2 : (List Int) × Bool) : Option (Int × List Int × Bool) :=
  (joinO (fun ((x25, x26) : Int × Bool) =>
  some (x25, x2.1, x26)) fun j27 =>
  (fixF (M_i_repeated_f48_L1 x1 x2 j27) FUEL (x0, 0, x2.2)))

theorem ok_i_repeated_f48 (x0 : Int) (x1 : Int) (x2 : (List Int) × Bool) (a4 : Option Addr) (a5 : Option Addr) (c6 : Nat) (l7 : Nat) (hl8 : x2.1.length = l7) (a9 : Option Addr) (r : Int × List Int × Bool) (h : M_i_repeated_f48 x0 x1 x2 = some r) :
    FX Try.prog 45 [.int .i64 x0, .int .i64 x1, .func (.func 48) #[] #[.pointer a4, .pointer a9]] [⟨(.int .i64), ⟨a5, l7, c6⟩, x2.1⟩] [⟨.val, ⟨a4, 1, 1⟩, [(Sl.v ⟨a5, l7, c6⟩)]⟩, ⟨.bool, ⟨a9, 1, 1⟩, [x2.2]⟩] (fun _ : Unit => True) (fun _ => .int .i64 r.1) (fun _ => [⟨.val, ⟨a4, 1, 1⟩, [(Sl.v ⟨a5, l7, c6⟩)]⟩, ⟨.bool, ⟨a9, 1, 1⟩, [r.2.2]⟩]) :=
  by
    subst hl8
    refine FX.of (T := TTx) Try.call45 Try.func45 rfl rfl fun w0 L0 => ?_
    unfold M_i_repeated_f48 at h
    refine JS.seq ?_
    refine JS.region ?_
    refine JO.reg ttOk 1 [] [] [] _ rfl ⟨trivial, rfl⟩ ?_
    refine JO.done rfl ?_
    refine JS.seq ?_
    refine JS.seq ?_
    refine JS.region ?_
    refine JO.reg ttOk 2 [] [] [(7, .v (.int .i64 x1)), (8, .v (.int .i64 0))] _ rfl ⟨⟨rfl, rfl, trivial⟩, rfl⟩ ?_
    refine JO.done rfl ?_
    obtain ⟨j27, hj31, h⟩ := joinO_some h
    refine JS.blockJ (ι := Int × Bool) ⟨fun z => j27 (z.1, z.2) = some r, fun z => [(0, .v (.int .i64 z.1))], fun z => .nil, fun z => [⟨(.int .i64), ⟨a5, x2.1.length, c6⟩, x2.1⟩], fun z => [⟨.val, ⟨a4, 1, 1⟩, [(Sl.v ⟨a5, x2.1.length, c6⟩)]⟩, ⟨.bool, ⟨a9, 1, 1⟩, [z.2]⟩], fun z => 0⟩ ?_ ?_
    · refine JS.loop (ι := Nat × Int × Int × Bool) ⟨fun z => fixF (M_i_repeated_f48_L1 x1 x2 j27) z.1 (z.2.1, z.2.2.1, z.2.2.2) = some r, fun z => [(0, .v (.int .i64 z.2.1)), (2, .v (.func (.func 48) #[] #[.pointer a4, .pointer a9])), (7, .v (.int .i64 x1)), (8, .v (.int .i64 z.2.2.1))], fun z => .nil, fun z => [⟨(.int .i64), ⟨a5, x2.1.length, c6⟩, x2.1⟩], fun z => [⟨.val, ⟨a4, 1, 1⟩, [(Sl.v ⟨a5, x2.1.length, c6⟩)]⟩, ⟨.bool, ⟨a9, 1, 1⟩, [z.2.2.2]⟩], fun z => z.1⟩ (FUEL, x0, 0, x2.2) h ⟨rfl, rfl, rfl, rfl, trivial⟩ trivial [0] rfl [0, 0] rfl ?_
      rintro ⟨n23, x10, x11, x15⟩ h
      obtain ⟨n23, rfl, h⟩ := fixF_some h
      rw [M_i_repeated_f48_L1] at h
      refine JS.seq ?_
      refine JS.region ?_
      refine JO.reg ttOk 1 [] [] [(9, .v (.bool (decide (x11 < x1))))] _ rfl ⟨⟨rfl, trivial⟩, rfl⟩ ?_
      refine JO.done rfl ?_
      refine JS.seq ?_
      refine JS.cond rfl (fun ht30 => ?_) (fun ht30 => ?_)
      · have h := condT h ht30
        refine JS.skip ?_
        refine JS.seq ?_
        refine JS.block ?_
        refine JS.region ?_
        refine JO.reg ttOk 2 [] [] [(10, .v (.func (.func 48) #[] #[.pointer a4, .pointer a9])), (11, .v (.int .i64 x10))] _ rfl ⟨⟨rfl, rfl, trivial⟩, rfl⟩ ?_
        obtain ⟨⟨y16, y17, y18⟩, hy19, h⟩ := bindO_some h
        refine JO.callXV (vs0 := [.int .i64 x10]) (caps := [.pointer a4, .pointer a9]) rfl rfl rfl rfl rfl (ok_i_MotionTo2 x10 x2.1 x15 a4 a5 c6 x2.1.length rfl a9 _ hy19) rfl [0, 0] rfl [0] rfl rfl ?_
        intro _ _
        refine JO.reg ttOk 1 [] [] [(0, .v (.int .i64 y16))] _ rfl ⟨⟨rfl, trivial⟩, rfl⟩ ?_
        refine JO.done rfl ?_
        refine JS.endB ?_
        refine JS.region ?_
        refine JO.reg ttOk 2 [(W (x11 + 1))] [] [(8, .v (.int .i64 (W (x11 + 1))))] _ rfl ⟨⟨trivial, rfl⟩, ⟨rfl, trivial⟩, rfl⟩ ?_
        refine JO.done rfl ?_
        exact JS.endL (n23, y16, (W (x11 + 1)), y18) h (Nat.lt_succ_self _) ⟨rfl, rfl, rfl, rfl, trivial⟩ trivial [0] rfl [0, 0] rfl
      · have h := condF h ht30
        refine JS.exit rfl ?_
        exact JS.endJ (x10, x15) h ⟨rfl, trivial⟩ trivial [0] rfl [0, 0] rfl
    · rintro ⟨x25, x26⟩ h
      subst hj31
      refine JS.seq ?_
      refine JS.region ?_
      refine JO.reg ttOk 2 [] [] [(6, .v (.int .i64 x25))] _ rfl ⟨⟨rfl, trivial⟩, rfl⟩ ?_
      refine JO.done rfl ?_
      cases h
      exact JS.retX ttOk () trivial rfl rfl [0, 0] rfl

def M_i_MotionTo3 (x0 : Int) (x1 : List Int) (x2 : Bool) : Option (Int × List Int × Bool) :=
  (bindO (M_i_ViWordEnd x1 x0 x2) fun (y10 : Int) =>
  some (y10, x1, x2))

theorem ok_i_MotionTo3 (x0 : Int) (x1 : List Int) (x2 : Bool) (a4 : Option Addr) (a5 : Option Addr) (c6 : Nat) (l7 : Nat) (hl8 : x1.length = l7) (a9 : Option Addr) (r : Int × List Int × Bool) (h : M_i_MotionTo3 x0 x1 x2 = some r) :
    FX Try.prog 50 [.int .i64 x0, .pointer a4, .pointer a9] [⟨(.int .i64), ⟨a5, l7, c6⟩, x1⟩] [⟨.val, ⟨a4, 1, 1⟩, [(Sl.v ⟨a5, l7, c6⟩)]⟩, ⟨.bool, ⟨a9, 1, 1⟩, [x2]⟩] (fun _ : Unit => True) (fun _ => .int .i64 r.1) (fun _ => [⟨.val, ⟨a4, 1, 1⟩, [(Sl.v ⟨a5, l7, c6⟩)]⟩, ⟨.bool, ⟨a9, 1, 1⟩, [r.2.2]⟩]) :=
  by
    subst hl8
    refine FX.of (T := TTx) Try.call50 Try.func50 rfl rfl fun w0 L0 => ?_
    unfold M_i_MotionTo3 at h
    refine JS.ptr 1 a4 rfl ?_
    refine JS.ptr 2 a9 rfl ?_
    refine JS.seq ?_
    refine JS.region ?_
    refine JO.reg ttOk 1 [] [] [] _ rfl ⟨trivial, rfl⟩ ?_
    refine JO.done rfl ?_
    refine JS.seq ?_
    refine JS.region ?_
    refine JO.loadV ttOk rfl rfl rfl rfl rfl rfl 1 rfl rfl 0 0 (Sl.v ⟨a5, x1.length, c6⟩) ⟨rfl, rfl⟩ rfl rfl rfl ?_
    refine JO.reg ttOk 1 [] [] [(6, .v (.int .i64 x0))] _ rfl ⟨⟨rfl, trivial⟩, rfl⟩ ?_
    refine JO.loadV ttOk rfl rfl rfl rfl rfl rfl 2 rfl rfl 0 0 x2 ⟨rfl, rfl⟩ rfl rfl rfl ?_
    obtain ⟨y10, hy11, h⟩ := bindO_some h
    refine JO.call rfl rfl rfl rfl (ok_i_ViWordEnd x1 x0 x2 a5 c6 x1.length rfl _ hy11) rfl [0] rfl rfl ?_
    intro _ _
    refine JO.reg ttOk 1 [] [] [(4, .v (.int .i64 y10))] _ rfl ⟨⟨rfl, trivial⟩, rfl⟩ ?_
    refine JO.done rfl ?_
    cases h
    exact JS.retX ttOk () trivial rfl rfl [0, 0] rfl

def M_i_repeated_f50_L1 (x1 : Int) (x2 : (List Int) × Bool) (j27 : (Int × Bool) → Option (Int × List Int × Bool)) (k22 : (Int × Int × Bool) → Option (Int × List Int × Bool)) : (Int × Int × Bool) → Option (Int × List Int × Bool) := fun (x10, x11, x15) =>
  (bif (decide (x11 < x1)) then
  (bindO (M_i_MotionTo3 x10 x2.1 x15) fun (y16, y17, y18) =>
  k22 (y16, (W (x11 + 1)), y18))
  else
  j27 (x10, x15))

def M_i_repeated_f50 (x0 : Int) (x1 : Int) (x2 : (List Int) × Bool) : Option (Int × List Int × Bool) :=
  (joinO (fun ((x25, x26) : Int × Bool) =>
  some (x25, x2.1, x26)) fun j27 =>
  (fixF (M_i_repeated_f50_L1 x1 x2 j27) FUEL (x0, 0, x2.2)))

theorem ok_i_repeated_f50 (x0 : Int) (x1 : Int) (x2 : (List Int) × Bool) (a4 : Option Addr) (a5 : Option Addr) (c6 : Nat) (l7 : Nat) (hl8 : x2.1.length = l7) (a9 : Option Addr) (r : Int × List Int × Bool) (h : M_i_repeated_f50 x0 x1 x2 = some r) :
    FX Try.prog 45 [.int .i64 x0, .int .i64 x1, .func (.func 50) #[] #[.pointer a4, .pointer a9]] [⟨(.int .i64), ⟨a5, l7, c6⟩, x2.1⟩] [⟨.val, ⟨a4, 1, 1⟩, [(Sl.v ⟨a5, l7, c6⟩)]⟩, ⟨.bool, ⟨a9, 1, 1⟩, [x2.2]⟩] (fun _ : Unit => True) (fun _ => .int .i64 r.1) (fun _ => [⟨.val, ⟨a4, 1, 1⟩, [(Sl.v ⟨a5, l7, c6⟩)]⟩, ⟨.bool, ⟨a9, 1, 1⟩, [r.2.2]⟩]) :=
  by
    subst hl8
    refine FX.of (T := TTx) Try.call45 Try.func45 rfl rfl fun w0 L0 => ?_
    unfold M_i_repeated_f50 at h
    refine JS.seq ?_
    refine JS.region ?_
    refine JO.reg ttOk 1 [] [] [] _ rfl ⟨trivial, rfl⟩ ?_
    refine JO.done rfl ?_
    refine JS.seq ?_
    refine JS.seq ?_
    refine JS.region ?_
    refine JO.reg ttOk 2 [] [] [(7, .v (.int .i64 x1)), (8, .v (.int .i64 0))] _ rfl ⟨⟨rfl, rfl, trivial⟩, rfl⟩ ?_
    refine JO.done rfl ?_
    obtain ⟨j27, hj31, h⟩ := joinO_some h
    refine JS.blockJ (ι := Int × Bool) ⟨fun z => j27 (z.1, z.2) = some r, fun z => [(0, .v (.int .i64 z.1))], fun z => .nil, fun z => [⟨(.int .i64), ⟨a5, x2.1.length, c6⟩, x2.1⟩], fun z => [⟨.val, ⟨a4, 1, 1⟩, [(Sl.v ⟨a5, x2.1.length, c6⟩)]⟩, ⟨.bool, ⟨a9, 1, 1⟩, [z.2]⟩], fun z => 0⟩ ?_ ?_
    · refine JS.loop (ι := Nat × Int × Int × Bool) ⟨fun z => fixF (M_i_repeated_f50_L1 x1 x2 j27) z.1 (z.2.1, z.2.2.1, z.2.2.2) = some r, fun z => [(0, .v (.int .i64 z.2.1)), (2, .v (.func (.func 50) #[] #[.pointer a4, .pointer a9])), (7, .v (.int .i64 x1)), (8, .v (.int .i64 z.2.2.1))], fun z => .nil, fun z => [⟨(.int .i64), ⟨a5, x2.1.length, c6⟩, x2.1⟩], fun z => [⟨.val, ⟨a4, 1, 1⟩, [(Sl.v ⟨a5, x2.1.length, c6⟩)]⟩, ⟨.bool, ⟨a9, 1, 1⟩, [z.2.2.2]⟩], fun z => z.1⟩ (FUEL, x0, 0, x2.2) h ⟨rfl, rfl, rfl, rfl, trivial⟩ trivial [0] rfl [0, 0] rfl ?_
      rintro ⟨n23, x10, x11, x15⟩ h
      obtain ⟨n23, rfl, h⟩ := fixF_some h
      rw [M_i_repeated_f50_L1] at h
      refine JS.seq ?_
      refine JS.region ?_
      refine JO.reg ttOk 1 [] [] [(9, .v (.bool (decide (x11 < x1))))] _ rfl ⟨⟨rfl, trivial⟩, rfl⟩ ?_
      refine JO.done rfl ?_
      refine JS.seq ?_
      refine JS.cond rfl (fun ht30 => ?_) (fun ht30 => ?_)
      · have h := condT h ht30
        refine JS.skip ?_
        refine JS.seq ?_
        refine JS.block ?_
        refine JS.region ?_
        refine JO.reg ttOk 2 [] [] [(10, .v (.func (.func 50) #[] #[.pointer a4, .pointer a9])), (11, .v (.int .i64 x10))] _ rfl ⟨⟨rfl, rfl, trivial⟩, rfl⟩ ?_
        obtain ⟨⟨y16, y17, y18⟩, hy19, h⟩ := bindO_some h
        refine JO.callXV (vs0 := [.int .i64 x10]) (caps := [.pointer a4, .pointer a9]) rfl rfl rfl rfl rfl (ok_i_MotionTo3 x10 x2.1 x15 a4 a5 c6 x2.1.length rfl a9 _ hy19) rfl [0, 0] rfl [0] rfl rfl ?_
        intro _ _
        refine JO.reg ttOk 1 [] [] [(0, .v (.int .i64 y16))] _ rfl ⟨⟨rfl, trivial⟩, rfl⟩ ?_
        refine JO.done rfl ?_
        refine JS.endB ?_
        refine JS.region ?_
        refine JO.reg ttOk 2 [(W (x11 + 1))] [] [(8, .v (.int .i64 (W (x11 + 1))))] _ rfl ⟨⟨trivial, rfl⟩, ⟨rfl, trivial⟩, rfl⟩ ?_
        refine JO.done rfl ?_
        exact JS.endL (n23, y16, (W (x11 + 1)), y18) h (Nat.lt_succ_self _) ⟨rfl, rfl, rfl, rfl, trivial⟩ trivial [0] rfl [0, 0] rfl
      · have h := condF h ht30
        refine JS.exit rfl ?_
        exact JS.endJ (x10, x15) h ⟨rfl, trivial⟩ trivial [0] rfl [0, 0] rfl
    · rintro ⟨x25, x26⟩ h
      subst hj31
      refine JS.seq ?_
      refine JS.region ?_
      refine JO.reg ttOk 2 [] [] [(6, .v (.int .i64 x25))] _ rfl ⟨⟨rfl, trivial⟩, rfl⟩ ?_
      refine JO.done rfl ?_
      cases h
      exact JS.retX ttOk () trivial rfl rfl [0, 0] rfl

def M_i_MotionTo_L1 (x0 : List Int) (j68 : Int → Option (Int × Bool × Bool)) (k60 : Int → Option (Int × Bool × Bool)) : Int → Option (Int × Bool × Bool) := fun x43 =>
  (guardO (((decide (x43 < (x0.length : Int))) = true) → 0 ≤ x43 ∧ x43 < (x0.length : Int)) <|
  (callO ((decide (x43 < (x0.length : Int))) = true) (M_i_ClassOf (at' x0 x43)) (0 : Int) fun (y51 : Int) =>
  (bif (bif (decide (x43 < (x0.length : Int))) then (decide (y51 = 0)) else false) then
  k60 (W (x43 + 1))
  else
  j68 x43)))

def M_i_MotionTo (x0 : List Int) (x1 : Int) (x2 : Int) (x3 : Int) : Option (Int × Bool × Bool) :=
  (bindO (M_i_within x1 (x0.length : Int)) fun (y9 : Int) =>
  (bindO (M_i_isUpper x2) fun (y11 : Bool) =>
  (joinO (fun (_ : Unit) =>
  some (0, false, false)) fun j88 =>
  (bif (decide (x2 = 104)) then
  some ((max (W (y9 - (max (1 : Int) (min x3 999)))) 0), false, true)
  else
  (joinO (fun (x14 : Bool) =>
  (bif x14 then
  some ((min (W (y9 + (max (1 : Int) (min x3 999)))) (x0.length : Int)), false, true)
  else
  (joinO (fun (x18 : Bool) =>
  (bif x18 then
  (bindO (M_i_repeated_f46 y9 (max (1 : Int) (min x3 999)) (x0, y11)) fun (y23, y24, y25) =>
  some (y23, false, true))
  else
  (joinO (fun (x28 : Bool) =>
  (bif x28 then
  (bindO (M_i_repeated_f48 y9 (max (1 : Int) (min x3 999)) (x0, y11)) fun (y31, y32, y33) =>
  some (y31, false, true))
  else
  (joinO (fun (x36 : Bool) =>
  (bif x36 then
  (bindO (M_i_repeated_f50 y9 (max (1 : Int) (min x3 999)) (x0, y11)) fun (y39, y40, y41) =>
  some (y39, (decide (0 < (x0.length : Int))), true))
  else
  (bif (decide (x2 = 48)) then
  some (0, false, true)
  else
  (bif (decide (x2 = 94)) then
  (joinO (fun (x67 : Int) =>
  some (x67, false, true)) fun j68 =>
  (fixF (M_i_MotionTo_L1 x0 j68) FUEL 0))
  else
  (bif (decide (x2 = 36)) then
  some ((max (W ((x0.length : Int) - 1)) 0), (decide (0 < (x0.length : Int))), true)
  else
  (bif (decide (x2 = 124)) then
  some ((min (W ((max (1 : Int) (min x3 999)) - 1)) (x0.length : Int)), false, true)
  else
  j88 ())))))) fun j37 =>
  (bif (decide (x2 = 101)) then
  j37 (decide (x2 = 101))
  else
  j37 (decide (x2 = 69)))))) fun j29 =>
  (bif (decide (x2 = 98)) then
  j29 (decide (x2 = 98))
  else
  j29 (decide (x2 = 66)))))) fun j19 =>
  (bif (decide (x2 = 119)) then
  j19 (decide (x2 = 119))
  else
  j19 (decide (x2 = 87)))))) fun j15 =>
  (bif (decide (x2 = 108)) then
  j15 (decide (x2 = 108))
  else
  j15 (decide (x2 = 32))))))))

theorem ok_i_MotionTo (x0 : List Int) (x1 : Int) (x2 : Int) (x3 : Int) (a5 : Option Addr) (c6 : Nat) (l7 : Nat) (hl8 : x0.length = l7) (r : Int × Bool × Bool) (h : M_i_MotionTo x0 x1 x2 x3 = some r) :
    FC Try.prog 15 [.slice a5 l7 c6, .int .i64 x1, .int .i64 x2, .int .i64 x3] [⟨(.int .i64), ⟨a5, l7, c6⟩, x0⟩] (fun _ : Unit => True) (fun _ => .tuple #[.int .i64 r.1, .bool r.2.1, .bool r.2.2]) (fun _ => []) :=
  by
    subst hl8
    refine FC.of (T := TTx) Try.call15 Try.func15 rfl rfl fun w0 => ?_
    unfold M_i_MotionTo at h
    refine JS.seq ?_
    refine JS.region ?_
    refine JO.regB ttOk 4 [] [2] [(4, .bp 2 0)] (.new 2 23 [.slice a5 x0.length c6] .nil) rfl ⟨⟨rfl, trivial⟩, ⟨rfl, rfl, rfl, rfl, trivial⟩⟩ ?_
    refine JO.done rfl ?_
    refine JS.seq ?_
    refine JS.region ?_
    refine JO.reg ttOk 3 [] [] [(11, .v (.int .i64 (x0.length : Int)))] _ rfl ⟨⟨rfl, trivial⟩, rfl⟩ ?_
    refine JO.done rfl ?_
    refine JS.seq ?_
    refine JS.region ?_
    refine JO.reg ttOk 2 [] [] [(16, .v (.int .i64 x1)), (17, .v (.int .i64 (x0.length : Int)))] _ rfl ⟨⟨rfl, rfl, trivial⟩, rfl⟩ ?_
    obtain ⟨y9, hy10, h⟩ := bindO_some h
    refine JO.call rfl rfl rfl rfl (ok_i_within x1 (x0.length : Int) _ hy10) rfl [] rfl rfl ?_
    intro _ _
    refine JO.reg ttOk 5 [] [] [(1, .v (.int .i64 y9)), (3, .v (.int .i64 (max (1 : Int) (min x3 999))))] _ rfl ⟨⟨rfl, rfl, trivial⟩, rfl⟩ ?_
    refine JO.done rfl ?_
    refine JS.seq ?_
    refine JS.region ?_
    refine JO.reg ttOk 1 [] [] [(22, .v (.int .i64 x2))] _ rfl ⟨⟨rfl, trivial⟩, rfl⟩ ?_
    obtain ⟨y11, hy12, h⟩ := bindO_some h
    refine JO.call rfl rfl rfl rfl (ok_i_isUpper x2 _ hy12) rfl [] rfl rfl ?_
    intro _ _
    refine JO.regB ttOk 2 [] [7] [(12, .bp 7 0)] (.new 2 23 [.slice a5 x0.length c6] (.new 7 4 [.bool y11] .nil)) rfl ⟨⟨rfl, trivial⟩, ⟨rfl, rfl, rfl, rfl, rfl, rfl, rfl, rfl, trivial⟩⟩ ?_
    refine JO.done rfl ?_
    refine JS.seq ?_
    refine JS.seq ?_
    refine JS.region ?_
    refine JO.reg ttOk 1 [] [] [(24, .v (.int .i64 x2))] _ rfl ⟨⟨rfl, trivial⟩, rfl⟩ ?_
    refine JO.done rfl ?_
    obtain ⟨j88, hj136, h⟩ := joinO_some h
    refine JS.blockJ (ι := Unit) ⟨fun _ => j88 () = some r, fun _ => [], fun _ => .nil, fun _ => [], fun _ => [], fun _ => 0⟩ ?_ ?_
    · refine JS.seq ?_
      refine JS.region ?_
      refine JO.reg ttOk 2 [] [] [(25, .v (.bool (decide (x2 = 104))))] _ rfl ⟨⟨rfl, trivial⟩, rfl⟩ ?_
      refine JO.done rfl ?_
      refine JS.cond rfl (fun ht135 => ?_) (fun ht135 => ?_)
      · have h := condT h ht135
        refine JS.seq ?_
        refine JS.region ?_
        refine JO.reg ttOk 7 [(W (y9 - (max (1 : Int) (min x3 999))))] [] [(8, .v (.int .i64 (max (W (y9 - (max (1 : Int) (min x3 999)))) 0))), (9, .v (.bool false)), (10, .v (.bool true))] _ rfl ⟨⟨trivial, rfl⟩, ⟨rfl, rfl, rfl, trivial⟩, rfl⟩ ?_
        refine JO.done rfl ?_
        cases h
        exact JS.ret ttOk () trivial rfl rfl [] rfl
      · have h := condF h ht135
        obtain ⟨j15, hj134, h⟩ := joinO_some h
        refine JS.seqJ (ι := Bool) ⟨fun z => j15 z = some r, fun z => [(1, .v (.int .i64 y9)), (3, .v (.int .i64 (max (1 : Int) (min x3 999)))), (4, .bp 2 0), (11, .v (.int .i64 (x0.length : Int))), (12, .bp 7 0), (24, .v (.int .i64 x2)), (31, .v (.bool z))], fun z => (.new 2 23 [.slice a5 x0.length c6] (.new 7 4 [.bool y11] .nil)), fun z => [⟨(.int .i64), ⟨a5, x0.length, c6⟩, x0⟩], fun z => [], fun z => 0⟩ ?_ ?_
        · refine JS.seq ?_
          refine JS.region ?_
          refine JO.reg ttOk 2 [] [] [(31, .v (.bool (decide (x2 = 108))))] _ rfl ⟨⟨rfl, trivial⟩, rfl⟩ ?_
          refine JO.done rfl ?_
          refine JS.cond rfl (fun ht113 => ?_) (fun ht113 => ?_)
          · have h := condT h ht113
            refine JS.skip ?_
            exact JS.endJ (decide (x2 = 108)) h ⟨rfl, rfl, rfl, rfl, rfl, rfl, rfl, trivial⟩ ⟨rfl, rfl, rfl, rfl, rfl, rfl, rfl, rfl, trivial⟩ [0] rfl [] rfl
          · have h := condF h ht113
            refine JS.region ?_
            refine JO.reg ttOk 2 [] [] [(31, .v (.bool (decide (x2 = 32))))] _ rfl ⟨⟨rfl, trivial⟩, rfl⟩ ?_
            refine JO.done rfl ?_
            exact JS.endJ (decide (x2 = 32)) h ⟨rfl, rfl, rfl, rfl, rfl, rfl, rfl, trivial⟩ ⟨rfl, rfl, rfl, rfl, rfl, rfl, rfl, rfl, trivial⟩ [0] rfl [] rfl
        · rintro x14 h
          subst hj134
          refine JS.cond rfl (fun ht133 => ?_) (fun ht133 => ?_)
          · have h := condT h ht133
            refine JS.seq ?_
            refine JS.region ?_
            refine JO.reg ttOk 8 [(W (y9 + (max (1 : Int) (min x3 999))))] [] [(8, .v (.int .i64 (min (W (y9 + (max (1 : Int) (min x3 999)))) (x0.length : Int)))), (9, .v (.bool false)), (10, .v (.bool true))] _ rfl ⟨⟨trivial, rfl⟩, ⟨rfl, rfl, rfl, trivial⟩, rfl⟩ ?_
            refine JO.done rfl ?_
            cases h
            exact JS.ret ttOk () trivial rfl rfl [] rfl
          · have h := condF h ht133
            obtain ⟨j19, hj132, h⟩ := joinO_some h
            refine JS.seqJ (ι := Bool) ⟨fun z => j19 z = some r, fun z => [(1, .v (.int .i64 y9)), (3, .v (.int .i64 (max (1 : Int) (min x3 999)))), (4, .bp 2 0), (11, .v (.int .i64 (x0.length : Int))), (12, .bp 7 0), (24, .v (.int .i64 x2)), (39, .v (.bool z))], fun z => (.new 2 23 [.slice a5 x0.length c6] (.new 7 4 [.bool y11] .nil)), fun z => [⟨(.int .i64), ⟨a5, x0.length, c6⟩, x0⟩], fun z => [], fun z => 0⟩ ?_ ?_
            · refine JS.seq ?_
              refine JS.region ?_
              refine JO.reg ttOk 2 [] [] [(39, .v (.bool (decide (x2 = 119))))] _ rfl ⟨⟨rfl, trivial⟩, rfl⟩ ?_
              refine JO.done rfl ?_
              refine JS.cond rfl (fun ht114 => ?_) (fun ht114 => ?_)
              · have h := condT h ht114
                refine JS.skip ?_
                exact JS.endJ (decide (x2 = 119)) h ⟨rfl, rfl, rfl, rfl, rfl, rfl, rfl, trivial⟩ ⟨rfl, rfl, rfl, rfl, rfl, rfl, rfl, rfl, trivial⟩ [0] rfl [] rfl
              · have h := condF h ht114
                refine JS.region ?_
                refine JO.reg ttOk 2 [] [] [(39, .v (.bool (decide (x2 = 87))))] _ rfl ⟨⟨rfl, trivial⟩, rfl⟩ ?_
                refine JO.done rfl ?_
                exact JS.endJ (decide (x2 = 87)) h ⟨rfl, rfl, rfl, rfl, rfl, rfl, rfl, trivial⟩ ⟨rfl, rfl, rfl, rfl, rfl, rfl, rfl, rfl, trivial⟩ [0] rfl [] rfl
            · rintro x18 h
              subst hj132
              refine JS.cond rfl (fun ht131 => ?_) (fun ht131 => ?_)
              · have h := condT h ht131
                refine JS.seq ?_
                refine JS.region ?_
                refine JO.reg ttOk 2 [] [] [(42, .v (.int .i64 y9)), (43, .v (.int .i64 (max (1 : Int) (min x3 999))))] _ rfl ⟨⟨rfl, rfl, trivial⟩, rfl⟩ ?_
                refine JO.unbox 2 rfl (B' := (.new 7 4 [.bool y11] .nil)) ⟨rfl, rfl, rfl, rfl, trivial⟩ rfl .val (Sl.v ⟨a5, x0.length, c6⟩) ⟨rfl, rfl, rfl⟩ (fun a21 => [(1, .v (.int .i64 y9)), (3, .v (.int .i64 (max (1 : Int) (min x3 999)))), (4, .ep ⟨a21, 1, 1⟩ 0), (11, .v (.int .i64 (x0.length : Int))), (12, .bp 7 0), (24, .v (.int .i64 x2)), (39, .v (.bool x18)), (42, .v (.int .i64 y9)), (43, .v (.int .i64 (max (1 : Int) (min x3 999))))]) (fun _ => ⟨rfl, rfl, rfl, rfl, rfl, rfl, rfl, rfl, rfl, trivial⟩) fun a21 => ?_
                refine JO.unbox 7 rfl (B' := .nil) trivial rfl .bool y11 ⟨rfl, rfl⟩ (fun a22 => [(1, .v (.int .i64 y9)), (3, .v (.int .i64 (max (1 : Int) (min x3 999)))), (4, .ep ⟨a21, 1, 1⟩ 0), (11, .v (.int .i64 (x0.length : Int))), (12, .ep ⟨a22, 1, 1⟩ 0), (24, .v (.int .i64 x2)), (39, .v (.bool x18)), (42, .v (.int .i64 y9)), (43, .v (.int .i64 (max (1 : Int) (min x3 999))))]) (fun _ => ⟨rfl, rfl, rfl, rfl, rfl, rfl, rfl, rfl, rfl, trivial⟩) fun a22 => ?_
                refine JO.mkFunc rfl rfl rfl rfl rfl rfl ?_
                obtain ⟨⟨y23, y24, y25⟩, hy26, h⟩ := bindO_some h
                refine JO.callX rfl rfl rfl rfl (ok_i_repeated_f46 y9 (max (1 : Int) (min x3 999)) (x0, y11) a21 a5 c6 x0.length rfl a22 _ hy26) rfl [1, 0] rfl [0] rfl rfl ?_
                intro _ _
                refine JO.reg ttOk 3 [] [] [(8, .v (.int .i64 y23)), (9, .v (.bool false)), (10, .v (.bool true))] _ rfl ⟨⟨rfl, rfl, rfl, trivial⟩, rfl⟩ ?_
                refine JO.done rfl ?_
                cases h
                exact JS.ret ttOk () trivial rfl rfl [] rfl
              · have h := condF h ht131
                obtain ⟨j29, hj130, h⟩ := joinO_some h
                refine JS.seqJ (ι := Bool) ⟨fun z => j29 z = some r, fun z => [(1, .v (.int .i64 y9)), (3, .v (.int .i64 (max (1 : Int) (min x3 999)))), (4, .bp 2 0), (11, .v (.int .i64 (x0.length : Int))), (12, .bp 7 0), (24, .v (.int .i64 x2)), (46, .v (.bool z))], fun z => (.new 2 23 [.slice a5 x0.length c6] (.new 7 4 [.bool y11] .nil)), fun z => [⟨(.int .i64), ⟨a5, x0.length, c6⟩, x0⟩], fun z => [], fun z => 0⟩ ?_ ?_
                · refine JS.seq ?_
                  refine JS.region ?_
                  refine JO.reg ttOk 2 [] [] [(46, .v (.bool (decide (x2 = 98))))] _ rfl ⟨⟨rfl, trivial⟩, rfl⟩ ?_
                  refine JO.done rfl ?_
                  refine JS.cond rfl (fun ht115 => ?_) (fun ht115 => ?_)
                  · have h := condT h ht115
                    refine JS.skip ?_
                    exact JS.endJ (decide (x2 = 98)) h ⟨rfl, rfl, rfl, rfl, rfl, rfl, rfl, trivial⟩ ⟨rfl, rfl, rfl, rfl, rfl, rfl, rfl, rfl, trivial⟩ [0] rfl [] rfl
                  · have h := condF h ht115
                    refine JS.region ?_
                    refine JO.reg ttOk 2 [] [] [(46, .v (.bool (decide (x2 = 66))))] _ rfl ⟨⟨rfl, trivial⟩, rfl⟩ ?_
                    refine JO.done rfl ?_
                    exact JS.endJ (decide (x2 = 66)) h ⟨rfl, rfl, rfl, rfl, rfl, rfl, rfl, trivial⟩ ⟨rfl, rfl, rfl, rfl, rfl, rfl, rfl, rfl, trivial⟩ [0] rfl [] rfl
                · rintro x28 h
                  subst hj130
                  refine JS.cond rfl (fun ht129 => ?_) (fun ht129 => ?_)
                  · have h := condT h ht129
                    refine JS.seq ?_
                    refine JS.region ?_
                    refine JO.reg ttOk 2 [] [] [(49, .v (.int .i64 y9)), (50, .v (.int .i64 (max (1 : Int) (min x3 999))))] _ rfl ⟨⟨rfl, rfl, trivial⟩, rfl⟩ ?_
                    refine JO.unbox 2 rfl (B' := (.new 7 4 [.bool y11] .nil)) ⟨rfl, rfl, rfl, rfl, trivial⟩ rfl .val (Sl.v ⟨a5, x0.length, c6⟩) ⟨rfl, rfl, rfl⟩ (fun a21 => [(1, .v (.int .i64 y9)), (3, .v (.int .i64 (max (1 : Int) (min x3 999)))), (4, .ep ⟨a21, 1, 1⟩ 0), (11, .v (.int .i64 (x0.length : Int))), (12, .bp 7 0), (24, .v (.int .i64 x2)), (46, .v (.bool x28)), (49, .v (.int .i64 y9)), (50, .v (.int .i64 (max (1 : Int) (min x3 999))))]) (fun _ => ⟨rfl, rfl, rfl, rfl, rfl, rfl, rfl, rfl, rfl, trivial⟩) fun a21 => ?_
                    refine JO.unbox 7 rfl (B' := .nil) trivial rfl .bool y11 ⟨rfl, rfl⟩ (fun a22 => [(1, .v (.int .i64 y9)), (3, .v (.int .i64 (max (1 : Int) (min x3 999)))), (4, .ep ⟨a21, 1, 1⟩ 0), (11, .v (.int .i64 (x0.length : Int))), (12, .ep ⟨a22, 1, 1⟩ 0), (24, .v (.int .i64 x2)), (46, .v (.bool x28)), (49, .v (.int .i64 y9)), (50, .v (.int .i64 (max (1 : Int) (min x3 999))))]) (fun _ => ⟨rfl, rfl, rfl, rfl, rfl, rfl, rfl, rfl, rfl, trivial⟩) fun a22 => ?_
                    refine JO.mkFunc rfl rfl rfl rfl rfl rfl ?_
                    obtain ⟨⟨y31, y32, y33⟩, hy34, h⟩ := bindO_some h
                    refine JO.callX rfl rfl rfl rfl (ok_i_repeated_f48 y9 (max (1 : Int) (min x3 999)) (x0, y11) a21 a5 c6 x0.length rfl a22 _ hy34) rfl [1, 0] rfl [0] rfl rfl ?_
                    intro _ _
                    refine JO.reg ttOk 3 [] [] [(8, .v (.int .i64 y31)), (9, .v (.bool false)), (10, .v (.bool true))] _ rfl ⟨⟨rfl, rfl, rfl, trivial⟩, rfl⟩ ?_
                    refine JO.done rfl ?_
                    cases h
                    exact JS.ret ttOk () trivial rfl rfl [] rfl
                  · have h := condF h ht129
                    obtain ⟨j37, hj128, h⟩ := joinO_some h
                    refine JS.seqJ (ι := Bool) ⟨fun z => j37 z = some r, fun z => [(1, .v (.int .i64 y9)), (3, .v (.int .i64 (max (1 : Int) (min x3 999)))), (4, .bp 2 0), (11, .v (.int .i64 (x0.length : Int))), (12, .bp 7 0), (24, .v (.int .i64 x2)), (53, .v (.bool z))], fun z => (.new 2 23 [.slice a5 x0.length c6] (.new 7 4 [.bool y11] .nil)), fun z => [⟨(.int .i64), ⟨a5, x0.length, c6⟩, x0⟩], fun z => [], fun z => 0⟩ ?_ ?_
                    · refine JS.seq ?_
                      refine JS.region ?_
                      refine JO.reg ttOk 2 [] [] [(53, .v (.bool (decide (x2 = 101))))] _ rfl ⟨⟨rfl, trivial⟩, rfl⟩ ?_
                      refine JO.done rfl ?_
                      refine JS.cond rfl (fun ht116 => ?_) (fun ht116 => ?_)
                      · have h := condT h ht116
                        refine JS.skip ?_
                        exact JS.endJ (decide (x2 = 101)) h ⟨rfl, rfl, rfl, rfl, rfl, rfl, rfl, trivial⟩ ⟨rfl, rfl, rfl, rfl, rfl, rfl, rfl, rfl, trivial⟩ [0] rfl [] rfl
                      · have h := condF h ht116
                        refine JS.region ?_
                        refine JO.reg ttOk 2 [] [] [(53, .v (.bool (decide (x2 = 69))))] _ rfl ⟨⟨rfl, trivial⟩, rfl⟩ ?_
                        refine JO.done rfl ?_
                        exact JS.endJ (decide (x2 = 69)) h ⟨rfl, rfl, rfl, rfl, rfl, rfl, rfl, trivial⟩ ⟨rfl, rfl, rfl, rfl, rfl, rfl, rfl, rfl, trivial⟩ [0] rfl [] rfl
                    · rintro x36 h
                      subst hj128
                      refine JS.cond rfl (fun ht127 => ?_) (fun ht127 => ?_)
                      · have h := condT h ht127
                        refine JS.seq ?_
                        refine JS.region ?_
                        refine JO.reg ttOk 2 [] [] [(56, .v (.int .i64 y9)), (57, .v (.int .i64 (max (1 : Int) (min x3 999))))] _ rfl ⟨⟨rfl, rfl, trivial⟩, rfl⟩ ?_
                        refine JO.unbox 2 rfl (B' := (.new 7 4 [.bool y11] .nil)) ⟨rfl, rfl, rfl, rfl, trivial⟩ rfl .val (Sl.v ⟨a5, x0.length, c6⟩) ⟨rfl, rfl, rfl⟩ (fun a21 => [(1, .v (.int .i64 y9)), (3, .v (.int .i64 (max (1 : Int) (min x3 999)))), (4, .ep ⟨a21, 1, 1⟩ 0), (11, .v (.int .i64 (x0.length : Int))), (12, .bp 7 0), (24, .v (.int .i64 x2)), (53, .v (.bool x36)), (56, .v (.int .i64 y9)), (57, .v (.int .i64 (max (1 : Int) (min x3 999))))]) (fun _ => ⟨rfl, rfl, rfl, rfl, rfl, rfl, rfl, rfl, rfl, trivial⟩) fun a21 => ?_
                        refine JO.unbox 7 rfl (B' := .nil) trivial rfl .bool y11 ⟨rfl, rfl⟩ (fun a22 => [(1, .v (.int .i64 y9)), (3, .v (.int .i64 (max (1 : Int) (min x3 999)))), (4, .ep ⟨a21, 1, 1⟩ 0), (11, .v (.int .i64 (x0.length : Int))), (12, .ep ⟨a22, 1, 1⟩ 0), (24, .v (.int .i64 x2)), (53, .v (.bool x36)), (56, .v (.int .i64 y9)), (57, .v (.int .i64 (max (1 : Int) (min x3 999))))]) (fun _ => ⟨rfl, rfl, rfl, rfl, rfl, rfl, rfl, rfl, rfl, trivial⟩) fun a22 => ?_
                        refine JO.mkFunc rfl rfl rfl rfl rfl rfl ?_
                        obtain ⟨⟨y39, y40, y41⟩, hy42, h⟩ := bindO_some h
                        refine JO.callX rfl rfl rfl rfl (ok_i_repeated_f50 y9 (max (1 : Int) (min x3 999)) (x0, y11) a21 a5 c6 x0.length rfl a22 _ hy42) rfl [1, 0] rfl [0] rfl rfl ?_
                        intro _ _
                        refine JO.reg ttOk 5 [] [] [(8, .v (.int .i64 y39)), (9, .v (.bool (decide (0 < (x0.length : Int))))), (10, .v (.bool true))] _ rfl ⟨⟨rfl, rfl, rfl, trivial⟩, rfl⟩ ?_
                        refine JO.done rfl ?_
                        cases h
                        exact JS.ret ttOk () trivial rfl rfl [] rfl
                      · have h := condF h ht127
                        refine JS.seq ?_
                        refine JS.region ?_
                        refine JO.reg ttOk 2 [] [] [(62, .v (.bool (decide (x2 = 48))))] _ rfl ⟨⟨rfl, trivial⟩, rfl⟩ ?_
                        refine JO.done rfl ?_
                        refine JS.cond rfl (fun ht126 => ?_) (fun ht126 => ?_)
                        · have h := condT h ht126
                          refine JS.seq ?_
                          refine JS.region ?_
                          refine JO.reg ttOk 3 [] [] [(8, .v (.int .i64 0)), (9, .v (.bool false)), (10, .v (.bool true))] _ rfl ⟨⟨rfl, rfl, rfl, trivial⟩, rfl⟩ ?_
                          refine JO.done rfl ?_
                          cases h
                          exact JS.ret ttOk () trivial rfl rfl [] rfl
                        · have h := condF h ht126
                          refine JS.seq ?_
                          refine JS.region ?_
                          refine JO.reg ttOk 2 [] [] [(64, .v (.bool (decide (x2 = 94))))] _ rfl ⟨⟨rfl, trivial⟩, rfl⟩ ?_
                          refine JO.done rfl ?_
                          refine JS.cond rfl (fun ht125 => ?_) (fun ht125 => ?_)
                          · have h := condT h ht125
                            refine JS.seq ?_
                            refine JS.region ?_
                            refine JO.reg ttOk 1 [] [] [(13, .v (.int .i64 0))] _ rfl ⟨⟨rfl, trivial⟩, rfl⟩ ?_
                            refine JO.done rfl ?_
                            refine JS.seq ?_
                            obtain ⟨j68, hj122, h⟩ := joinO_some h
                            refine JS.blockJ (ι := Int) ⟨fun z => j68 z = some r, fun z => [(13, .v (.int .i64 z))], fun z => .nil, fun z => [], fun z => [], fun z => 0⟩ ?_ ?_
                            · refine JS.loop (ι := Nat × Int) ⟨fun z => fixF (M_i_MotionTo_L1 x0 j68) z.1 z.2 = some r, fun z => [(4, .bp 2 0), (11, .v (.int .i64 (x0.length : Int))), (13, .v (.int .i64 z.2))], fun z => (.new 2 23 [.slice a5 x0.length c6] .nil), fun z => [⟨(.int .i64), ⟨a5, x0.length, c6⟩, x0⟩], fun z => [], fun z => z.1⟩ (FUEL, 0) h ⟨rfl, rfl, rfl, trivial⟩ ⟨rfl, rfl, rfl, rfl, trivial⟩ [0] rfl [] rfl ?_
                              rintro ⟨n61, x43⟩ h
                              obtain ⟨n61, rfl, h⟩ := fixF_some h
                              rw [M_i_MotionTo_L1] at h
                              refine JS.seq ?_
                              refine JS.seq ?_
                              refine JS.region ?_
                              refine JO.know 0 rfl fun hs117 => ?_
                              obtain ⟨g48, h⟩ := guardO_some h
                              refine JO.reg ttOk 7 [] [] [(69, .v (.bool (decide (x43 < (x0.length : Int))))), (72, .cd [(69, true)] (.ep ⟨a5, x0.length, c6⟩ (Int.toNat x43 * 1)))] _ rfl ⟨(fun q118 => hs117.ix (g48 q118)), ⟨rfl, rfl, trivial⟩, rfl⟩ ?_
                              refine JO.load ttOk rfl rfl rfl rfl rfl rfl rfl 0 rfl rfl (Int.toNat x43) 0 (at' x0 x43) (fun q119 => ⟨at_some (g48 q119), rfl⟩) rfl rfl ?_
                              obtain ⟨y51, hy52, -, h⟩ := callO_some h
                              refine JO.callg rfl rfl rfl rfl (fun q120 => ok_i_ClassOf (at' x0 x43) _ (hy52 q120)) rfl [] rfl rfl ?_
                              refine JO.reg ttOk 2 [] [] [(76, .v (.bool (bif (decide (x43 < (x0.length : Int))) then (decide (y51 = 0)) else false)))] _ rfl ⟨⟨rfl, trivial⟩, rfl⟩ ?_
                              refine JO.done rfl ?_
                              refine JS.cond rfl (fun ht121 => ?_) (fun ht121 => ?_)
                              · have h := condT h ht121
                                refine JS.skip ?_
                                refine JS.block ?_
                                refine JS.region ?_
                                refine JO.reg ttOk 3 [(W (x43 + 1))] [] [(13, .v (.int .i64 (W (x43 + 1))))] _ rfl ⟨⟨trivial, rfl⟩, ⟨rfl, trivial⟩, rfl⟩ ?_
                                refine JO.done rfl ?_
                                refine JS.endB ?_
                                exact JS.endL (n61, (W (x43 + 1))) h (Nat.lt_succ_self _) ⟨rfl, rfl, rfl, trivial⟩ ⟨rfl, rfl, rfl, rfl, trivial⟩ [0] rfl [] rfl
                              · have h := condF h ht121
                                refine JS.exit rfl ?_
                                exact JS.endJ x43 h ⟨rfl, trivial⟩ trivial [] rfl [] rfl
                            · rintro x67 h
                              subst hj122
                              refine JS.seq ?_
                              refine JS.region ?_
                              refine JO.reg ttOk 4 [] [] [(8, .v (.int .i64 x67)), (9, .v (.bool false)), (10, .v (.bool true))] _ rfl ⟨⟨rfl, rfl, rfl, trivial⟩, rfl⟩ ?_
                              refine JO.done rfl ?_
                              cases h
                              exact JS.ret ttOk () trivial rfl rfl [] rfl
                          · have h := condF h ht125
                            refine JS.seq ?_
                            refine JS.region ?_
                            refine JO.reg ttOk 2 [] [] [(80, .v (.bool (decide (x2 = 36))))] _ rfl ⟨⟨rfl, trivial⟩, rfl⟩ ?_
                            refine JO.done rfl ?_
                            refine JS.cond rfl (fun ht124 => ?_) (fun ht124 => ?_)
                            · have h := condT h ht124
                              refine JS.seq ?_
                              refine JS.region ?_
                              refine JO.reg ttOk 8 [(W ((x0.length : Int) - 1))] [] [(8, .v (.int .i64 (max (W ((x0.length : Int) - 1)) 0))), (9, .v (.bool (decide (0 < (x0.length : Int))))), (10, .v (.bool true))] _ rfl ⟨⟨trivial, rfl⟩, ⟨rfl, rfl, rfl, trivial⟩, rfl⟩ ?_
                              refine JO.done rfl ?_
                              cases h
                              exact JS.ret ttOk () trivial rfl rfl [] rfl
                            · have h := condF h ht124
                              refine JS.seq ?_
                              refine JS.region ?_
                              refine JO.reg ttOk 2 [] [] [(87, .v (.bool (decide (x2 = 124))))] _ rfl ⟨⟨rfl, trivial⟩, rfl⟩ ?_
                              refine JO.done rfl ?_
                              refine JS.cond rfl (fun ht123 => ?_) (fun ht123 => ?_)
                              · have h := condT h ht123
                                refine JS.seq ?_
                                refine JS.region ?_
                                refine JO.reg ttOk 7 [(W ((max (1 : Int) (min x3 999)) - 1))] [] [(8, .v (.int .i64 (min (W ((max (1 : Int) (min x3 999)) - 1)) (x0.length : Int)))), (9, .v (.bool false)), (10, .v (.bool true))] _ rfl ⟨⟨trivial, rfl⟩, ⟨rfl, rfl, rfl, trivial⟩, rfl⟩ ?_
                                refine JO.done rfl ?_
                                cases h
                                exact JS.ret ttOk () trivial rfl rfl [] rfl
                              · have h := condF h ht123
                                refine JS.skip ?_
                                refine JS.endB ?_
                                exact JS.endJ () h trivial trivial [] rfl [] rfl
    · rintro _ h
      subst hj136
      refine JS.seq ?_
      refine JS.region ?_
      refine JO.reg ttOk 3 [] [] [(8, .v (.int .i64 0)), (9, .v (.bool false)), (10, .v (.bool false))] _ rfl ⟨⟨rfl, rfl, rfl, trivial⟩, rfl⟩ ?_
      refine JO.done rfl ?_
      cases h
      exact JS.ret ttOk () trivial rfl rfl [] rfl

def M_i_Span (x0 : List Int) (x1 : Int) (x2 : Int) (x3 : Bool) : Option (Int × Int) :=
  (bindO (M_i_within x1 (x0.length : Int)) fun (y9 : Int) =>
  (bindO (M_i_within x2 (x0.length : Int)) fun (y11 : Int) =>
  (joinO (fun (x14 : Int) =>
  some ((min y9 y11), x14)) fun j15 =>
  (bif (bif x3 then (decide ((max y9 y11) < (x0.length : Int))) else false) then
  j15 (W ((max y9 y11) + 1))
  else
  j15 (max y9 y11)))))

theorem ok_i_Span (x0 : List Int) (x1 : Int) (x2 : Int) (x3 : Bool) (a5 : Option Addr) (c6 : Nat) (l7 : Nat) (hl8 : x0.length = l7) (r : Int × Int) (h : M_i_Span x0 x1 x2 x3 = some r) :
    FC Try.prog 16 [.slice a5 l7 c6, .int .i64 x1, .int .i64 x2, .bool x3] [⟨(.int .i64), ⟨a5, l7, c6⟩, x0⟩] (fun _ : Unit => True) (fun _ => .tuple #[.int .i64 r.1, .int .i64 r.2]) (fun _ => []) :=
  by
    subst hl8
    refine FC.of (T := TTx) Try.call16 Try.func16 rfl rfl fun w0 => ?_
    unfold M_i_Span at h
    refine JS.seq ?_
    refine JS.region ?_
    refine JO.reg ttOk 2 [] [] [] _ rfl ⟨trivial, rfl⟩ ?_
    refine JO.done rfl ?_
    refine JS.seq ?_
    refine JS.region ?_
    refine JO.reg ttOk 3 [] [] [(10, .v (.int .i64 (x0.length : Int)))] _ rfl ⟨⟨rfl, trivial⟩, rfl⟩ ?_
    refine JO.done rfl ?_
    refine JS.seq ?_
    refine JS.region ?_
    refine JO.reg ttOk 2 [] [] [(15, .v (.int .i64 x1)), (16, .v (.int .i64 (x0.length : Int)))] _ rfl ⟨⟨rfl, rfl, trivial⟩, rfl⟩ ?_
    obtain ⟨y9, hy10, h⟩ := bindO_some h
    refine JO.call rfl rfl rfl rfl (ok_i_within x1 (x0.length : Int) _ hy10) rfl [] rfl rfl ?_
    intro _ _
    refine JO.reg ttOk 2 [] [] [(18, .v (.int .i64 x2)), (19, .v (.int .i64 (x0.length : Int)))] _ rfl ⟨⟨rfl, rfl, trivial⟩, rfl⟩ ?_
    obtain ⟨y11, hy12, h⟩ := bindO_some h
    refine JO.call rfl rfl rfl rfl (ok_i_within x2 (x0.length : Int) _ hy12) rfl [] rfl rfl ?_
    intro _ _
    refine JO.reg ttOk 2 [] [] [(1, .v (.int .i64 y9)), (2, .v (.int .i64 y11))] _ rfl ⟨⟨rfl, rfl, trivial⟩, rfl⟩ ?_
    refine JO.done rfl ?_
    refine JS.seq ?_
    refine JS.region ?_
    refine JO.reg ttOk 8 [] [] [(11, .v (.int .i64 (min y9 y11))), (12, .v (.int .i64 (max y9 y11)))] _ rfl ⟨⟨rfl, rfl, trivial⟩, rfl⟩ ?_
    refine JO.done rfl ?_
    obtain ⟨j15, hj19, h⟩ := joinO_some h
    refine JS.seqJ (ι := Int) ⟨fun z => j15 z = some r, fun z => [(11, .v (.int .i64 (min y9 y11))), (12, .v (.int .i64 z))], fun z => .nil, fun z => [], fun z => [], fun z => 0⟩ ?_ ?_
    · refine JS.seq ?_
      refine JS.region ?_
      refine JO.reg ttOk 6 [] [] [(32, .v (.bool (bif x3 then (decide ((max y9 y11) < (x0.length : Int))) else false)))] _ rfl ⟨⟨rfl, trivial⟩, rfl⟩ ?_
      refine JO.done rfl ?_
      refine JS.cond rfl (fun ht18 => ?_) (fun ht18 => ?_)
      · have h := condT h ht18
        refine JS.region ?_
        refine JO.reg ttOk 3 [(W ((max y9 y11) + 1))] [] [(12, .v (.int .i64 (W ((max y9 y11) + 1))))] _ rfl ⟨⟨trivial, rfl⟩, ⟨rfl, trivial⟩, rfl⟩ ?_
        refine JO.done rfl ?_
        exact JS.endJ (W ((max y9 y11) + 1)) h ⟨rfl, rfl, trivial⟩ trivial [] rfl [] rfl
      · have h := condF h ht18
        refine JS.skip ?_
        exact JS.endJ (max y9 y11) h ⟨rfl, rfl, trivial⟩ trivial [] rfl [] rfl
    · rintro x14 h
      subst hj19
      refine JS.seq ?_
      refine JS.region ?_
      refine JO.reg ttOk 4 [] [] [(8, .v (.int .i64 (min y9 y11))), (9, .v (.int .i64 x14))] _ rfl ⟨⟨rfl, rfl, trivial⟩, rfl⟩ ?_
      refine JO.done rfl ?_
      cases h
      exact JS.ret ttOk () trivial rfl rfl [] rfl

def M_l_FnMotion_L1 (y6 : List Int × Int) (y8 : Int) (j44 : Int → Option Bool) (k38 : (Int × Int) → Option Bool) : (Int × Int) → Option Bool := fun (x19, x23) =>
  (bif (decide (x23 < (([104, 108, 119, 87, 98, 66, 101, 69, 48, 94, 36, 124] : List Int).length : Int))) then
  (guardO (0 ≤ x23 ∧ x23 < (([104, 108, 119, 87, 98, 66, 101, 69, 48, 94, 36, 124] : List Int).length : Int)) <|
  (bindO (M_i_MotionTo y6.1 y8 (at' ([104, 108, 119, 87, 98, 66, 101, 69, 48, 94, 36, 124] : List Int) x23) 2) fun (y26, y27, y28) =>
  (bindO (M_i_Span y6.1 y8 y26 y27) fun (y30, y31) =>
  (bif (bif (bif (bif (bif (bif (bif (bif (!y28) then true else (decide (y26 < 0))) then true else (decide ((y6.1.length : Int) < y26))) then true else (decide (y31 < y30))) then true else (decide (y8 < y30))) then true else (decide (y31 < y8))) then true else (decide ((y6.1.length : Int) < y31))) then true else (bif y27 then (decide ((y6.1.length : Int) = 0)) else false)) then
  some false
  else
  k38 ((W ((W (x19 + y31)) - y30)), (W (x23 + 1)))))))
  else
  j44 x19)

def M_l_FnMotion (x0 : List UInt8) : Option Bool :=
  (bif (decide (1048576 < (x0.length : Int))) then
  some true
  else
  (bindO (M_s_MakeLine x0) fun (y6, y7, y8, y9) =>
  (joinO (fun (x43 : Int) =>
  (bindO (M_i_MotionTo y6.1 y8 113 1) fun (y48, y49, y50) =>
  (bindO (M_i_MotionTo y6.1 y8 119 1) fun (y52, y53, y54) =>
  (bindO (M_i_MotionTo y6.1 y52 119 1) fun (y56, y57, y58) =>
  (bindO (M_i_MotionTo y6.1 y8 119 2) fun (y60, y61, y62) =>
  some (bif (bif (!y50) then (decide (y56 = y60)) else false) then (decide (0 ≤ x43)) else false)))))) fun j44 =>
  (fixF (M_l_FnMotion_L1 y6 y8 j44) FUEL (0, 0)))))

theorem ok_l_FnMotion (x0 : List UInt8) (a2 : Option Addr) (c3 : Nat) (l4 : Nat) (hl5 : x0.length = l4) (r : Bool) (h : M_l_FnMotion x0 = some r) :
    FC Try.prog 4 [.slice a2 l4 c3] [⟨.byte, ⟨a2, l4, c3⟩, x0⟩] (fun _ : Unit => True) (fun _ => .bool r) (fun _ => []) :=
  by
    subst hl5
    refine FC.of (T := TTx) Try.call4 Try.func4 rfl rfl fun w0 => ?_
    unfold M_l_FnMotion at h
    refine JS.seq ?_
    refine JS.region ?_
    refine JO.reg ttOk 1 [] [] [] _ rfl ⟨trivial, rfl⟩ ?_
    refine JO.done rfl ?_
    refine JS.seq ?_
    refine JS.seq ?_
    refine JS.region ?_
    refine JO.reg ttOk 3 [] [] [(30, .v (.bool (decide (1048576 < (x0.length : Int)))))] _ rfl ⟨⟨rfl, trivial⟩, rfl⟩ ?_
    refine JO.done rfl ?_
    refine JS.cond rfl (fun ht70 => ?_) (fun ht70 => ?_)
    · have h := condT h ht70
      refine JS.seq ?_
      refine JS.region ?_
      refine JO.reg ttOk 1 [] [] [(2, .v (.bool true))] _ rfl ⟨⟨rfl, trivial⟩, rfl⟩ ?_
      refine JO.done rfl ?_
      cases h
      exact JS.ret ttOk () trivial rfl rfl [] rfl
    · have h := condF h ht70
      refine JS.skip ?_
      refine JS.seq ?_
      refine JS.region ?_
      refine JO.reg ttOk 1 [] [] [(32, .v (.slice a2 x0.length c3))] _ rfl ⟨⟨rfl, trivial⟩, rfl⟩ ?_
      obtain ⟨⟨y6, y7, y8, y9⟩, hy10, h⟩ := bindO_some h
      refine JO.call rfl rfl rfl rfl (ok_s_MakeLine x0 a2 c3 x0.length rfl _ hy10) rfl [0] rfl rfl ?_
      rintro ⟨a11, c12, a13, c14⟩ -
      refine JO.regB ttOk 10 [] [13] [(3, .bp 13 0), (5, .v (.int .i64 y8))] (.new 13 25 [.slice a11 y6.1.length c12, .int .i64 y6.2] .nil) rfl ⟨⟨rfl, rfl, trivial⟩, ⟨rfl, rfl, rfl, rfl, trivial⟩⟩ ?_
      refine JO.done rfl ?_
      refine JS.seq ?_
      refine JS.region ?_
      refine JO.reg ttOk 3 [] [] [(7, .v (.slice a11 y6.1.length c12))] _ rfl ⟨⟨rfl, trivial⟩, rfl⟩ ?_
      refine JO.done rfl ?_
      refine JS.seq ?_
      refine JS.region ?_
      refine JO.reg ttOk 1 [] [] [(8, .v (.int .i64 0))] _ rfl ⟨⟨rfl, trivial⟩, rfl⟩ ?_
      refine JO.done rfl ?_
      refine JS.seq ?_
      refine JS.seq ?_
      refine JS.region ?_
      refine JO.ofK rfl (JK.buildSlice ttOk rfl rfl rfl rfl rfl rfl rfl rfl rfl rfl rfl [] rfl (.int .i64) [104, 108, 119, 87, 98, 66, 101, 69, 48, 94, 36, 124] ⟨rfl, rfl⟩ rfl rfl fun a15 => JO.toK ?_)
      refine JO.reg ttOk 2 [] [] [(41, .v (.int .i64 (([104, 108, 119, 87, 98, 66, 101, 69, 48, 94, 36, 124] : List Int).length : Int))), (42, .v (.int .i64 0))] _ rfl ⟨⟨rfl, rfl, trivial⟩, rfl⟩ ?_
      refine JO.done rfl ?_
      obtain ⟨j44, hj69, h⟩ := joinO_some h
      refine JS.blockJ (ι := Int) ⟨fun z => j44 z = some r, fun z => [(5, .v (.int .i64 y8)), (7, .v (.slice a11 y6.1.length c12)), (8, .v (.int .i64 z))], fun z => .nil, fun z => [], fun z => [⟨(.int .i64), ⟨a11, y6.1.length, c12⟩, y6.1⟩], fun z => 0⟩ ?_ ?_
      · refine JS.loop (ι := Nat × Int × Int) ⟨fun z => fixF (M_l_FnMotion_L1 y6 y8 j44) z.1 (z.2.1, z.2.2) = some r, fun z => [(5, .v (.int .i64 y8)), (7, .v (.slice a11 y6.1.length c12)), (8, .v (.int .i64 z.2.1)), (40, .v (.slice a15 ([104, 108, 119, 87, 98, 66, 101, 69, 48, 94, 36, 124] : List Int).length ([104, 108, 119, 87, 98, 66, 101, 69, 48, 94, 36, 124] : List Int).length)), (41, .v (.int .i64 (([104, 108, 119, 87, 98, 66, 101, 69, 48, 94, 36, 124] : List Int).length : Int))), (42, .v (.int .i64 z.2.2))], fun z => .nil, fun z => [], fun z => [⟨(.int .i64), ⟨a11, y6.1.length, c12⟩, y6.1⟩, ⟨(.int .i64), ⟨a15, ([104, 108, 119, 87, 98, 66, 101, 69, 48, 94, 36, 124] : List Int).length, ([104, 108, 119, 87, 98, 66, 101, 69, 48, 94, 36, 124] : List Int).length⟩, ([104, 108, 119, 87, 98, 66, 101, 69, 48, 94, 36, 124] : List Int)⟩], fun z => z.1⟩ (FUEL, 0, 0) h ⟨rfl, rfl, rfl, rfl, rfl, rfl, trivial⟩ trivial [] rfl [1, 0] rfl ?_
        rintro ⟨n39, x19, x23⟩ h
        obtain ⟨n39, rfl, h⟩ := fixF_some h
        rw [M_l_FnMotion_L1] at h
        refine JS.seq ?_
        refine JS.region ?_
        refine JO.reg ttOk 1 [] [] [(43, .v (.bool (decide (x23 < (([104, 108, 119, 87, 98, 66, 101, 69, 48, 94, 36, 124] : List Int).length : Int)))))] _ rfl ⟨⟨rfl, trivial⟩, rfl⟩ ?_
        refine JO.done rfl ?_
        refine JS.seq ?_
        refine JS.cond rfl (fun ht68 => ?_) (fun ht68 => ?_)
        · have h := condT h ht68
          refine JS.skip ?_
          refine JS.seq ?_
          refine JS.block ?_
          refine JS.seq ?_
          refine JS.region ?_
          refine JO.know 1 rfl fun hs66 => ?_
          obtain ⟨g25, h⟩ := guardO_some h
          refine JO.reg ttOk 1 [] [] [(44, .ep ⟨a15, ([104, 108, 119, 87, 98, 66, 101, 69, 48, 94, 36, 124] : List Int).length, ([104, 108, 119, 87, 98, 66, 101, 69, 48, 94, 36, 124] : List Int).length⟩ (Int.toNat x23 * 1))] _ rfl ⟨hs66.ix g25, ⟨rfl, trivial⟩, rfl⟩ ?_
          refine JO.load ttOk rfl rfl rfl rfl rfl rfl rfl 1 rfl rfl (Int.toNat x23) 0 (at' ([104, 108, 119, 87, 98, 66, 101, 69, 48, 94, 36, 124] : List Int) x23) ⟨at_some g25, rfl⟩ rfl rfl ?_
          refine JO.reg ttOk 1 [] [] [(10, .v (.int .i64 (at' ([104, 108, 119, 87, 98, 66, 101, 69, 48, 94, 36, 124] : List Int) x23)))] _ rfl ⟨⟨rfl, trivial⟩, rfl⟩ ?_
          refine JO.done rfl ?_
          refine JS.seq ?_
          refine JS.region ?_
          refine JO.reg ttOk 3 [] [] [(47, .v (.slice a11 y6.1.length c12)), (48, .v (.int .i64 y8)), (49, .v (.int .i64 (at' ([104, 108, 119, 87, 98, 66, 101, 69, 48, 94, 36, 124] : List Int) x23)))] _ rfl ⟨⟨rfl, rfl, rfl, trivial⟩, rfl⟩ ?_
          obtain ⟨⟨y26, y27, y28⟩, hy29, h⟩ := bindO_some h
          refine JO.call rfl rfl rfl rfl (ok_i_MotionTo y6.1 y8 (at' ([104, 108, 119, 87, 98, 66, 101, 69, 48, 94, 36, 124] : List Int) x23) 2 a11 c12 y6.1.length rfl _ hy29) rfl [0] rfl rfl ?_
          intro _ _
          refine JO.reg ttOk 7 [] [] [(11, .v (.int .i64 y26)), (12, .v (.bool y27)), (13, .v (.bool y28))] _ rfl ⟨⟨rfl, rfl, rfl, trivial⟩, rfl⟩ ?_
          refine JO.done rfl ?_
          refine JS.seq ?_
          refine JS.region ?_
          refine JO.reg ttOk 4 [] [] [(55, .v (.slice a11 y6.1.length c12)), (56, .v (.int .i64 y8)), (57, .v (.int .i64 y26)), (58, .v (.bool y27))] _ rfl ⟨⟨rfl, rfl, rfl, rfl, trivial⟩, rfl⟩ ?_
          obtain ⟨⟨y30, y31⟩, hy32, h⟩ := bindO_some h
          refine JO.call rfl rfl rfl rfl (ok_i_Span y6.1 y8 y26 y27 a11 c12 y6.1.length rfl _ hy32) rfl [0] rfl rfl ?_
          intro _ _
          refine JO.reg ttOk 5 [] [] [(14, .v (.int .i64 y30)), (15, .v (.int .i64 y31))] _ rfl ⟨⟨rfl, rfl, trivial⟩, rfl⟩ ?_
          refine JO.done rfl ?_
          refine JS.seq ?_
          refine JS.seq ?_
          refine JS.region ?_
          refine JO.reg ttOk 41 [] [] [(102, .v (.bool (bif (bif (bif (bif (bif (bif (bif (!y28) then true else (decide (y26 < 0))) then true else (decide ((y6.1.length : Int) < y26))) then true else (decide (y31 < y30))) then true else (decide (y8 < y30))) then true else (decide (y31 < y8))) then true else (decide ((y6.1.length : Int) < y31))) then true else (bif y27 then (decide ((y6.1.length : Int) = 0)) else false))))] _ rfl ⟨⟨rfl, trivial⟩, rfl⟩ ?_
          refine JO.done rfl ?_
          refine JS.cond rfl (fun ht67 => ?_) (fun ht67 => ?_)
          · have h := condT h ht67
            refine JS.seq ?_
            refine JS.region ?_
            refine JO.reg ttOk 1 [] [] [(2, .v (.bool false))] _ rfl ⟨⟨rfl, trivial⟩, rfl⟩ ?_
            refine JO.done rfl ?_
            cases h
            exact JS.ret ttOk () trivial rfl rfl [] rfl
          · have h := condF h ht67
            refine JS.skip ?_
            refine JS.region ?_
            refine JO.reg ttOk 6 [(W (x19 + y31)), (W ((W (x19 + y31)) - y30))] [] [(8, .v (.int .i64 (W ((W (x19 + y31)) - y30))))] _ rfl ⟨⟨trivial, rfl⟩, ⟨trivial, rfl⟩, ⟨rfl, trivial⟩, rfl⟩ ?_
            refine JO.done rfl ?_
            refine JS.endB ?_
            refine JS.region ?_
            refine JO.reg ttOk 2 [(W (x23 + 1))] [] [(42, .v (.int .i64 (W (x23 + 1))))] _ rfl ⟨⟨trivial, rfl⟩, ⟨rfl, trivial⟩, rfl⟩ ?_
            refine JO.done rfl ?_
            exact JS.endL (n39, (W ((W (x19 + y31)) - y30)), (W (x23 + 1))) h (Nat.lt_succ_self _) ⟨rfl, rfl, rfl, rfl, rfl, rfl, trivial⟩ trivial [] rfl [0, 0] rfl
        · have h := condF h ht68
          refine JS.exit rfl ?_
          exact JS.endJ x19 h ⟨rfl, rfl, rfl, trivial⟩ trivial [] rfl [0] rfl
      · rintro x43 h
        subst hj69
        refine JS.seq ?_
        refine JS.region ?_
        refine JO.reg ttOk 2 [] [] [(110, .v (.slice a11 y6.1.length c12)), (111, .v (.int .i64 y8))] _ rfl ⟨⟨rfl, rfl, trivial⟩, rfl⟩ ?_
        obtain ⟨⟨y48, y49, y50⟩, hy51, h⟩ := bindO_some h
        refine JO.call rfl rfl rfl rfl (ok_i_MotionTo y6.1 y8 113 1 a11 c12 y6.1.length rfl _ hy51) rfl [0] rfl rfl ?_
        intro _ _
        refine JO.reg ttOk 7 [] [] [(18, .v (.bool y50))] _ rfl ⟨⟨rfl, trivial⟩, rfl⟩ ?_
        refine JO.done rfl ?_
        refine JS.seq ?_
        refine JS.region ?_
        refine JO.reg ttOk 2 [] [] [(117, .v (.slice a11 y6.1.length c12)), (118, .v (.int .i64 y8))] _ rfl ⟨⟨rfl, rfl, trivial⟩, rfl⟩ ?_
        obtain ⟨⟨y52, y53, y54⟩, hy55, h⟩ := bindO_some h
        refine JO.call rfl rfl rfl rfl (ok_i_MotionTo y6.1 y8 119 1 a11 c12 y6.1.length rfl _ hy55) rfl [0] rfl rfl ?_
        intro _ _
        refine JO.reg ttOk 7 [] [] [(19, .v (.int .i64 y52))] _ rfl ⟨⟨rfl, trivial⟩, rfl⟩ ?_
        refine JO.done rfl ?_
        refine JS.seq ?_
        refine JS.region ?_
        refine JO.reg ttOk 2 [] [] [(124, .v (.slice a11 y6.1.length c12)), (125, .v (.int .i64 y52))] _ rfl ⟨⟨rfl, rfl, trivial⟩, rfl⟩ ?_
        obtain ⟨⟨y56, y57, y58⟩, hy59, h⟩ := bindO_some h
        refine JO.call rfl rfl rfl rfl (ok_i_MotionTo y6.1 y52 119 1 a11 c12 y6.1.length rfl _ hy59) rfl [0] rfl rfl ?_
        intro _ _
        refine JO.reg ttOk 7 [] [] [(22, .v (.int .i64 y56))] _ rfl ⟨⟨rfl, trivial⟩, rfl⟩ ?_
        refine JO.done rfl ?_
        refine JS.seq ?_
        refine JS.region ?_
        refine JO.reg ttOk 2 [] [] [(131, .v (.slice a11 y6.1.length c12)), (132, .v (.int .i64 y8))] _ rfl ⟨⟨rfl, rfl, trivial⟩, rfl⟩ ?_
        obtain ⟨⟨y60, y61, y62⟩, hy63, h⟩ := bindO_some h
        refine JO.call rfl rfl rfl rfl (ok_i_MotionTo y6.1 y8 119 2 a11 c12 y6.1.length rfl _ hy63) rfl [0] rfl rfl ?_
        intro _ _
        refine JO.reg ttOk 7 [] [] [(25, .v (.int .i64 y60))] _ rfl ⟨⟨rfl, trivial⟩, rfl⟩ ?_
        refine JO.done rfl ?_
        refine JS.seq ?_
        refine JS.region ?_
        refine JO.reg ttOk 12 [] [] [(2, .v (.bool (bif (bif (!y50) then (decide (y56 = y60)) else false) then (decide (0 ≤ x43)) else false)))] _ rfl ⟨⟨rfl, trivial⟩, rfl⟩ ?_
        refine JO.done rfl ?_
        cases h
        exact JS.ret ttOk () trivial rfl rfl [] rfl

end
end Go.Eng
