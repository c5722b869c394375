/- The walks of the functions that FnPutRune reaches: what each computes, as a plain function (M_..), and that the model computes it (ok_..). Condition of each: that the plain function answers. -/
import Derived.Test.YtokbomfmkllghaaEngB
import Derived.Test.YtokbomfmkllghaaChecked
set_option linter.unusedVariables false
set_option linter.unusedSimpArgs false
namespace Go.Eng
open Go Go.Proofs
noncomputable section

@[reducible] def cl26 (x : Int × Int × List Int × Int × Int × Bool) (a1 : Option Addr) (c1 : Nat) : List Value := [.int .i64 x.1, .int .i64 x.2.1, .slice a1 x.2.2.1.length c1, .int .i64 x.2.2.2.1, .int .i64 x.2.2.2.2.1, .bool x.2.2.2.2.2]
@[reducible] def cl45 (x : (Int × Int × List Int × Int × Int × Bool) × Int × List Int × List UInt8 × Int) (a1 : Option Addr) (c1 : Nat) (a2 : Option Addr) (c2 : Nat) (a3 : Option Addr) (c3 : Nat) : List Value := [.int .i64 x.1.1, .int .i64 x.1.2.1, .slice a1 x.1.2.2.1.length c1, .int .i64 x.1.2.2.2.1, .int .i64 x.1.2.2.2.2.1, .bool x.1.2.2.2.2.2, .int .i64 x.2.1, .slice a2 x.2.2.1.length c2, .slice a3 x.2.2.2.1.length c3, .int .i64 x.2.2.2.2]
def TTx : TT := [
  (2, ⟨.int .i64, 1, 8, [.int .i64 0]⟩),
  (3, ⟨.int .i64, 1, 8, [.int .i64 0]⟩),
  (4, ⟨.bool, 1, 1, [.bool false]⟩),
  (5, ⟨.int .u8, 1, 1, [.int .u8 0]⟩),
  (6, ⟨.int .u8, 1, 1, [.int .u8 0]⟩),
  (7, ⟨.struct [(0, 2), (1, 3), (2, 4), (3, 6)], 4, 24, [.int .i64 0, .int .i64 0, .bool false, .int .u8 0]⟩),
  (8, ⟨.struct [(0, 2), (1, 3), (2, 4), (3, 6)], 4, 24, [.int .i64 0, .int .i64 0, .bool false, .int .u8 0]⟩),
  (9, ⟨.str, 1, 16, [.string ByteArray.empty]⟩),
  (10, ⟨.str, 1, 16, [.string ByteArray.empty]⟩),
  (11, ⟨.str, 1, 16, [.string ByteArray.empty]⟩),
  (12, ⟨.int .u64, 1, 8, [.int .u64 0]⟩),
  (13, ⟨.struct [(0, 9), (1, 12)], 2, 24, [.string ByteArray.empty, .int .u64 0]⟩),
  (14, ⟨.struct [(0, 9), (1, 12)], 2, 24, [.string ByteArray.empty, .int .u64 0]⟩),
  (21, ⟨.int .i32, 1, 4, [.int .i32 0]⟩),
  (22, ⟨.slice 3, 1, 24, [.slice none 0 0]⟩),
  (23, ⟨.struct [(0, 3), (1, 3), (2, 22), (3, 3), (4, 3), (5, 4)], 6, 64, [.int .i64 0, .int .i64 0, .slice none 0 0, .int .i64 0, .int .i64 0, .bool false]⟩),
  (24, ⟨.struct [(0, 3), (1, 3), (2, 22), (3, 3), (4, 3), (5, 4)], 6, 64, [.int .i64 0, .int .i64 0, .slice none 0 0, .int .i64 0, .int .i64 0, .bool false]⟩),
  (26, ⟨.struct [(0, 3), (1, 3), (2, 22), (3, 3), (4, 3), (5, 4)], 6, 64, [.int .i64 0, .int .i64 0, .slice none 0 0, .int .i64 0, .int .i64 0, .bool false]⟩),
  (32, ⟨.slice 5, 1, 24, [.slice none 0 0]⟩),
  (44, ⟨.struct [(0, 26), (6, 3), (7, 22), (8, 32), (9, 3)], 10, 128, [.int .i64 0, .int .i64 0, .slice none 0 0, .int .i64 0, .int .i64 0, .bool false, .int .i64 0, .slice none 0 0, .slice none 0 0, .int .i64 0]⟩),
  (45, ⟨.struct [(0, 26), (6, 3), (7, 22), (8, 32), (9, 3)], 10, 128, [.int .i64 0, .int .i64 0, .slice none 0 0, .int .i64 0, .int .i64 0, .bool false, .int .i64 0, .slice none 0 0, .slice none 0 0, .int .i64 0]⟩),
  (53, ⟨.struct [(0, 24), (6, 3), (7, 22), (8, 32), (9, 3)], 10, 128, [.int .i64 0, .int .i64 0, .slice none 0 0, .int .i64 0, .int .i64 0, .bool false, .int .i64 0, .slice none 0 0, .slice none 0 0, .int .i64 0]⟩),
  (54, ⟨.struct [(0, 24), (6, 3), (7, 22), (8, 32), (9, 3)], 10, 128, [.int .i64 0, .int .i64 0, .slice none 0 0, .int .i64 0, .int .i64 0, .bool false, .int .i64 0, .slice none 0 0, .slice none 0 0, .int .i64 0]⟩),
  (75, ⟨.array 2 3, 2, 16, [.int .i64 0, .int .i64 0]⟩),
  (76, ⟨.slice 75, 1, 24, [.slice none 0 0]⟩),
  (78, ⟨.struct [(0, 32), (1, 3), (2, 3)], 3, 40, [.slice none 0 0, .int .i64 0, .int .i64 0]⟩),
  (79, ⟨.struct [(0, 32), (1, 3), (2, 3)], 3, 40, [.slice none 0 0, .int .i64 0, .int .i64 0]⟩),
  (91, ⟨.int .u64, 1, 8, [.int .u64 0]⟩),
  (92, ⟨.slice 9, 1, 24, [.slice none 0 0]⟩),
  (104, ⟨.int .u32, 1, 4, [.int .u32 0]⟩),
  (105, ⟨.int .u8, 1, 1, [.int .u8 0]⟩),
  (106, ⟨.int .u8, 1, 1, [.int .u8 0]⟩),
  (109, ⟨.int .i32, 1, 4, [.int .i32 0]⟩),
  (110, ⟨.int .i32, 1, 4, [.int .i32 0]⟩)]

set_option maxRecDepth 100000 in
theorem ttOk : TTok Try.prog TTx := TTok.of (by
  simp only [TTx, List.forall_mem_cons]
  exact ⟨⟨⟨_, _, rfl, rfl, rfl, rfl, rfl⟩, rfl⟩, ⟨⟨_, _, rfl, rfl, rfl, rfl, rfl⟩, rfl⟩, ⟨⟨_, _, rfl, rfl, rfl, rfl, rfl⟩, rfl⟩, ⟨⟨_, _, rfl, rfl, rfl, rfl, rfl⟩, rfl⟩, ⟨⟨_, _, rfl, rfl, rfl, rfl, rfl⟩, rfl⟩, ⟨⟨_, _, rfl, rfl, rfl, rfl, rfl⟩, ⟨_, rfl, rfl⟩⟩, ⟨⟨_, _, rfl, rfl, rfl, rfl, rfl⟩, ⟨_, rfl, rfl⟩⟩, ⟨⟨_, _, rfl, rfl, rfl, rfl, rfl⟩, rfl⟩, ⟨⟨_, _, rfl, rfl, rfl, rfl, rfl⟩, rfl⟩, ⟨⟨_, _, rfl, rfl, rfl, rfl, rfl⟩, rfl⟩, ⟨⟨_, _, rfl, rfl, rfl, rfl, rfl⟩, rfl⟩, ⟨⟨_, _, rfl, rfl, rfl, rfl, rfl⟩, ⟨_, rfl, rfl⟩⟩, ⟨⟨_, _, rfl, rfl, rfl, rfl, rfl⟩, ⟨_, rfl, rfl⟩⟩, ⟨⟨_, _, rfl, rfl, rfl, rfl, rfl⟩, rfl⟩, ⟨⟨_, _, rfl, rfl, rfl, rfl, rfl⟩, rfl⟩, ⟨⟨_, _, rfl, rfl, rfl, rfl, rfl⟩, ⟨_, rfl, rfl⟩⟩, ⟨⟨_, _, rfl, rfl, rfl, rfl, rfl⟩, ⟨_, rfl, rfl⟩⟩, ⟨⟨_, _, rfl, rfl, rfl, rfl, rfl⟩, ⟨_, rfl, rfl⟩⟩, ⟨⟨_, _, rfl, rfl, rfl, rfl, rfl⟩, rfl⟩, ⟨⟨_, _, rfl, rfl, rfl, rfl, rfl⟩, ⟨_, rfl, rfl⟩⟩, ⟨⟨_, _, rfl, rfl, rfl, rfl, rfl⟩, ⟨_, rfl, rfl⟩⟩, ⟨⟨_, _, rfl, rfl, rfl, rfl, rfl⟩, ⟨_, rfl, rfl⟩⟩, ⟨⟨_, _, rfl, rfl, rfl, rfl, rfl⟩, ⟨_, rfl, rfl⟩⟩, ⟨⟨_, _, rfl, rfl, rfl, rfl, rfl⟩, rfl⟩, ⟨⟨_, _, rfl, rfl, rfl, rfl, rfl⟩, rfl⟩, ⟨⟨_, _, rfl, rfl, rfl, rfl, rfl⟩, ⟨_, rfl, rfl⟩⟩, ⟨⟨_, _, rfl, rfl, rfl, rfl, rfl⟩, ⟨_, rfl, rfl⟩⟩, ⟨⟨_, _, rfl, rfl, rfl, rfl, rfl⟩, rfl⟩, ⟨⟨_, _, rfl, rfl, rfl, rfl, rfl⟩, rfl⟩, ⟨⟨_, _, rfl, rfl, rfl, rfl, rfl⟩, rfl⟩, ⟨⟨_, _, rfl, rfl, rfl, rfl, rfl⟩, rfl⟩, ⟨⟨_, _, rfl, rfl, rfl, rfl, rfl⟩, rfl⟩, ⟨⟨_, _, rfl, rfl, rfl, rfl, rfl⟩, rfl⟩, ⟨⟨_, _, rfl, rfl, rfl, rfl, rfl⟩, rfl⟩, by simp⟩)

def M_s_l01New_L1 (x0 : List UInt8) (j16 : Int → Option (List UInt8 × Int × Int)) (k11 : (Int × Int) → Option (List UInt8 × Int × Int)) : (Int × Int) → Option (List UInt8 × Int × Int) := fun (x6, x7) =>
  (bif (bif (decide (x7 < (x0.length : Int))) then (decide (x7 < 4000)) else false) then
  (guardO (0 ≤ x7 ∧ x7 < (x0.length : Int)) <|
  k11 ((W (((BitVec.ofInt (IntKind.bits .i64) (W ((W ((W (x6 * 137)) + ((at' x0 x7).toNat : Int))) + 7)) &&& BitVec.ofInt (IntKind.bits .i64) 1073741823).toNat : Int))), (W (x7 + 1))))
  else
  j16 x6)

def M_s_l01New (x0 : List UInt8) : Option (List UInt8 × Int × Int) :=
  (joinO (fun (x15 : Int) =>
  some (x0, 0, x15)) fun j16 =>
  (fixF (M_s_l01New_L1 x0 j16) FUEL ((W (600128 + (x0.length : Int))), 0)))

theorem ok_s_l01New (x0 : List UInt8) (a2 : Option Addr) (c3 : Nat) (l4 : Nat) (hl5 : x0.length = l4) (r : List UInt8 × Int × Int) (h : M_s_l01New x0 = some r) :
    FC Try.prog 57 [.slice a2 l4 c3] [⟨.byte, ⟨a2, l4, c3⟩, x0⟩] (fun _ : Option Addr => True) (fun q => .pointer q) (fun q => [⟨(.pair .val (.pair (.int .i64) (.int .i64))), ⟨q, 1, 1⟩, [((Sl.v ⟨a2, l4, c3⟩), r.2.1, r.2.2)]⟩]) :=
  by
    subst hl5
    refine FC.of (T := TTx) Try.call57 Try.func57 rfl rfl fun w0 => ?_
    unfold M_s_l01New at h
    refine JS.seq (JS.region (JO.reg ttOk 1 [] [] [] _ rfl ⟨trivial, rfl⟩ (JO.done rfl (JS.seq (JS.region (JO.reg ttOk 4 [(W (600128 + (x0.length : Int)))] [] [(3, .v (.int .i64 (W (600128 + (x0.length : Int)))))] _ rfl ⟨⟨trivial, rfl⟩, ⟨rfl, trivial⟩, rfl⟩ (JO.done rfl (JS.seq (JS.seq (JS.region (JO.reg ttOk 1 [] [] [(4, .v (.int .i64 0))] _ rfl ⟨⟨rfl, trivial⟩, rfl⟩ (JO.done rfl ?_))))))))))))
    obtain ⟨j16, hj23, h⟩ := joinO_some h
    refine JS.blockJ (ι := Int) ⟨fun z => j16 z = some r, fun z => [(0, .v (.slice a2 x0.length c3)), (3, .v (.int .i64 z))], fun z => .nil, fun z => [⟨.byte, ⟨a2, x0.length, c3⟩, x0⟩], fun z => [], fun z => 0⟩ ?_ ?_
    · refine JS.loop (ι := Nat × Int × Int) ⟨fun z => fixF (M_s_l01New_L1 x0 j16) z.1 (z.2.1, z.2.2) = some r, fun z => [(0, .v (.slice a2 x0.length c3)), (3, .v (.int .i64 z.2.1)), (4, .v (.int .i64 z.2.2))], fun z => .nil, fun z => [⟨.byte, ⟨a2, x0.length, c3⟩, x0⟩], fun z => [], fun z => z.1⟩ (FUEL, (W (600128 + (x0.length : Int))), 0) h ⟨rfl, rfl, rfl, trivial⟩ trivial [0] rfl [] rfl ?_
      rintro ⟨n12, x6, x7⟩ h
      obtain ⟨n12, rfl, h⟩ := fixF_some h
      rw [M_s_l01New_L1] at h
      refine JS.seq (JS.seq (JS.region (JO.reg ttOk 8 [] [] [(15, .v (.bool (bif (decide (x7 < (x0.length : Int))) then (decide (x7 < 4000)) else false)))] _ rfl ⟨⟨rfl, trivial⟩, rfl⟩ (JO.done rfl ?_))))
      refine JS.cond rfl (fun ht22 => ?_) (fun ht22 => ?_)
      · have h := condT h ht22
        refine JS.skip (JS.seq (JS.block (JS.region (JO.know 0 rfl fun hs21 => ?_))))
        obtain ⟨g9, h⟩ := guardO_some h
        refine JO.reg ttOk 5 [(W (x6 * 137))] [] [(19, .v (.int .i64 (W (x6 * 137)))), (22, .ep ⟨a2, x0.length, c3⟩ (Int.toNat x7 * 1))] _ rfl ⟨⟨trivial, rfl⟩, hs21.ix g9, ⟨rfl, rfl, trivial⟩, rfl⟩ (JO.load ttOk rfl rfl rfl rfl rfl rfl rfl 0 rfl rfl (Int.toNat x7) 0 (at' x0 x7) ⟨at_some g9, rfl⟩ rfl rfl (JO.reg ttOk 5 [((at' x0 x7).toNat : Int), (W ((W (x6 * 137)) + ((at' x0 x7).toNat : Int))), (W ((W ((W (x6 * 137)) + ((at' x0 x7).toNat : Int))) + 7)), (W (((BitVec.ofInt (IntKind.bits .i64) (W ((W ((W (x6 * 137)) + ((at' x0 x7).toNat : Int))) + 7)) &&& BitVec.ofInt (IntKind.bits .i64) 1073741823).toNat : Int)))] [] [(3, .v (.int .i64 (W (((BitVec.ofInt (IntKind.bits .i64) (W ((W ((W (x6 * 137)) + ((at' x0 x7).toNat : Int))) + 7)) &&& BitVec.ofInt (IntKind.bits .i64) 1073741823).toNat : Int)))))] _ rfl ⟨⟨trivial, W_byte _⟩, ⟨trivial, rfl⟩, ⟨trivial, rfl⟩, ⟨trivial, rfl⟩, ⟨rfl, trivial⟩, rfl⟩ (JO.done rfl (JS.endB (JS.region (JO.reg ttOk 3 [(W (x7 + 1))] [] [(4, .v (.int .i64 (W (x7 + 1))))] _ rfl ⟨⟨trivial, rfl⟩, ⟨rfl, trivial⟩, rfl⟩ (JO.done rfl (JS.endL (n12, (W (((BitVec.ofInt (IntKind.bits .i64) (W ((W ((W (x6 * 137)) + ((at' x0 x7).toNat : Int))) + 7)) &&& BitVec.ofInt (IntKind.bits .i64) 1073741823).toNat : Int))), (W (x7 + 1))) h (Nat.lt_succ_self _) ⟨rfl, rfl, rfl, trivial⟩ trivial [0] rfl [] rfl))))))))
      have h := condF h ht22
      refine JS.exit rfl (JS.endJ x6 h ⟨rfl, rfl, trivial⟩ trivial [0] rfl [] rfl)
    rintro x15 h
    subst hj23
    refine JS.seq (JS.region (JO.regB ttOk 5 [] [9] [(2, .bp 9 0), (31, .bp 9 0)] (.new 9 79 [.slice a2 x0.length c3, .int .i64 0, .int .i64 x15] .nil) rfl ⟨⟨rfl, rfl, trivial⟩, ⟨rfl, rfl, rfl, rfl, trivial⟩⟩ (JO.done rfl (JS.unbox 9 rfl (B' := .nil) trivial rfl (.pair .val (.pair (.int .i64) (.int .i64))) ((Sl.v ⟨a2, x0.length, c3⟩), 0, x15) ⟨rfl, rfl, rfl⟩ (fun a19 => [(0, .v (.slice a2 x0.length c3)), (2, .ep ⟨a19, 1, 1⟩ 0), (3, .v (.int .i64 x15)), (31, .ep ⟨a19, 1, 1⟩ 0)]) (fun _ => ⟨rfl, rfl, rfl, rfl, trivial⟩) fun a19 => ?_))))
    cases h
    exact JS.ret ttOk a19 trivial rfl rfl [0] rfl

def M_s_l01Byte (x0 : List UInt8 × Int × Int) : Option (Int × List UInt8 × Int × Int) :=
  (joinO (fun ((x14, x15) : Int × Int) =>
  some (x14, (x0.1, x15, (W ((W (x0.2.2 * 6364136223846793005)) + 1442695040888963407))))) fun j16 =>
  (bif (decide (x0.2.1 < (x0.1.length : Int))) then
  (guardO (0 ≤ x0.2.1 ∧ x0.2.1 < (x0.1.length : Int)) <|
  j16 ((W (((BitVec.ofInt (IntKind.bits .i64) (W ((W (((BitVec.ofInt (IntKind.bits .i64) (W (((BitVec.ofInt (IntKind.bits .i64) (Int.fdiv (W ((W (x0.2.2 * 6364136223846793005)) + 1442695040888963407)) (2 ^ (min (Int.toNat 33) (IntKind.bits .i64)))) ^^^ BitVec.ofInt (IntKind.bits .i64) (Int.fdiv (W ((W (x0.2.2 * 6364136223846793005)) + 1442695040888963407)) (2 ^ (min (Int.toNat 45) (IntKind.bits .i64))))).toNat : Int))) &&& BitVec.ofInt (IntKind.bits .i64) 255).toNat : Int))) + ((at' x0.1 x0.2.1).toNat : Int))) &&& BitVec.ofInt (IntKind.bits .i64) 255).toNat : Int))), (W (x0.2.1 + 1))))
  else
  j16 ((W (((BitVec.ofInt (IntKind.bits .i64) (W (((BitVec.ofInt (IntKind.bits .i64) (Int.fdiv (W ((W (x0.2.2 * 6364136223846793005)) + 1442695040888963407)) (2 ^ (min (Int.toNat 33) (IntKind.bits .i64)))) ^^^ BitVec.ofInt (IntKind.bits .i64) (Int.fdiv (W ((W (x0.2.2 * 6364136223846793005)) + 1442695040888963407)) (2 ^ (min (Int.toNat 45) (IntKind.bits .i64))))).toNat : Int))) &&& BitVec.ofInt (IntKind.bits .i64) 255).toNat : Int))), x0.2.1)))

theorem ok_s_l01Byte (x0 : List UInt8 × Int × Int) (a2 : Option Addr) (a3 : Option Addr) (c4 : Nat) (l5 : Nat) (hl6 : x0.1.length = l5) (r : Int × List UInt8 × Int × Int) (h : M_s_l01Byte x0 = some r) :
    FX Try.prog 87 [.pointer a2] [⟨.byte, ⟨a3, l5, c4⟩, x0.1⟩] [⟨(.pair .val (.pair (.int .i64) (.int .i64))), ⟨a2, 1, 1⟩, [((Sl.v ⟨a3, l5, c4⟩), x0.2.1, x0.2.2)]⟩] (fun _ : Unit => True) (fun _ => .int .i64 r.1) (fun _ => [⟨(.pair .val (.pair (.int .i64) (.int .i64))), ⟨a2, 1, 1⟩, [((Sl.v ⟨a3, l5, c4⟩), r.2.2.1, r.2.2.2)]⟩]) :=
  by
    subst hl6
    refine FX.of (T := TTx) Try.call87 Try.func87 rfl rfl fun w0 L0 => ?_
    unfold M_s_l01Byte at h
    refine JS.ptr 0 a2 rfl ?_
    refine JS.seq (JS.region (JO.reg ttOk 1 [] [] [] _ rfl ⟨trivial, rfl⟩ (JO.done rfl (JS.seq (JS.region (JO.know 1 rfl fun hs21 => JO.reg ttOk 4 [] [] [(4, .ep ⟨a2, 1, 1⟩ 0), (7, .ep ⟨a2, 1, 1⟩ 2)] _ rfl ⟨(hs21.fa ptr0).1, hs21.fa ptr0, ⟨rfl, rfl, trivial⟩, rfl⟩ (JO.loadV ttOk rfl rfl rfl rfl rfl rfl 1 rfl rfl 0 2 ((Sl.v ⟨a3, x0.1.length, c4⟩), x0.2.1, x0.2.2) ⟨rfl, rfl⟩ rfl rfl rfl (JO.reg ttOk 4 [(W (x0.2.2 * 6364136223846793005)), (W ((W (x0.2.2 * 6364136223846793005)) + 1442695040888963407))] [] [(10, .v (.int .i64 (W ((W (x0.2.2 * 6364136223846793005)) + 1442695040888963407)))), (12, .ep ⟨a2, 1, 1⟩ 2)] _ rfl ⟨⟨trivial, rfl⟩, ⟨trivial, rfl⟩, (hs21.fa ptr0).1, hs21.fa ptr0, ⟨rfl, rfl, trivial⟩, rfl⟩ (JO.storeE ttOk rfl rfl rfl rfl rfl rfl rfl rfl rfl [0] (fs := []) rfl 0 2 ((Sl.v ⟨a3, x0.1.length, c4⟩), x0.2.1, x0.2.2) ((Sl.v ⟨a3, x0.1.length, c4⟩), x0.2.1, (W ((W (x0.2.2 * 6364136223846793005)) + 1442695040888963407))) ⟨rfl, rfl⟩ ⟨⟨⟨rfl, rfl, rfl⟩, rfl⟩, rfl⟩ (JO.done rfl (JS.seq ?_)))))))))))
    have g8 : (0 : Int) ≤ 33 := by decide
    have g9 : (0 : Int) ≤ 45 := by decide
    refine JS.regionQ rfl (by kernel_rfl) (JQ.reg ttOk 3 [] [(15, .ep ⟨a2, 1, 1⟩ 2)] rfl ⟨(hs21.fa ptr0).1, hs21.fa ptr0, ⟨rfl, trivial⟩⟩ (JQ.loadV ttOk rfl rfl rfl rfl rfl rfl 1 rfl rfl 0 2 ((Sl.v ⟨a3, x0.1.length, c4⟩), x0.2.1, (W ((W (x0.2.2 * 6364136223846793005)) + 1442695040888963407))) ⟨rfl, rfl⟩ rfl rfl rfl (JQ.reg ttOk 4 [] [(17, .v (.int .i64 (Int.fdiv (W ((W (x0.2.2 * 6364136223846793005)) + 1442695040888963407)) (2 ^ (min (Int.toNat 33) (IntKind.bits .i64)))))), (20, .ep ⟨a2, 1, 1⟩ 2)] rfl ⟨g8, (hs21.fa ptr0).1, hs21.fa ptr0, ⟨rfl, rfl, trivial⟩⟩ (JQ.loadV ttOk rfl rfl rfl rfl rfl rfl 1 rfl rfl 0 2 ((Sl.v ⟨a3, x0.1.length, c4⟩), x0.2.1, (W ((W (x0.2.2 * 6364136223846793005)) + 1442695040888963407))) ⟨rfl, rfl⟩ rfl rfl rfl (JQ.reg ttOk 4 [(W (((BitVec.ofInt (IntKind.bits .i64) (Int.fdiv (W ((W (x0.2.2 * 6364136223846793005)) + 1442695040888963407)) (2 ^ (min (Int.toNat 33) (IntKind.bits .i64)))) ^^^ BitVec.ofInt (IntKind.bits .i64) (Int.fdiv (W ((W (x0.2.2 * 6364136223846793005)) + 1442695040888963407)) (2 ^ (min (Int.toNat 45) (IntKind.bits .i64))))).toNat : Int))), (W (((BitVec.ofInt (IntKind.bits .i64) (W (((BitVec.ofInt (IntKind.bits .i64) (Int.fdiv (W ((W (x0.2.2 * 6364136223846793005)) + 1442695040888963407)) (2 ^ (min (Int.toNat 33) (IntKind.bits .i64)))) ^^^ BitVec.ofInt (IntKind.bits .i64) (Int.fdiv (W ((W (x0.2.2 * 6364136223846793005)) + 1442695040888963407)) (2 ^ (min (Int.toNat 45) (IntKind.bits .i64))))).toNat : Int))) &&& BitVec.ofInt (IntKind.bits .i64) 255).toNat : Int)))] [(3, .v (.int .i64 (W (((BitVec.ofInt (IntKind.bits .i64) (W (((BitVec.ofInt (IntKind.bits .i64) (Int.fdiv (W ((W (x0.2.2 * 6364136223846793005)) + 1442695040888963407)) (2 ^ (min (Int.toNat 33) (IntKind.bits .i64)))) ^^^ BitVec.ofInt (IntKind.bits .i64) (Int.fdiv (W ((W (x0.2.2 * 6364136223846793005)) + 1442695040888963407)) (2 ^ (min (Int.toNat 45) (IntKind.bits .i64))))).toNat : Int))) &&& BitVec.ofInt (IntKind.bits .i64) 255).toNat : Int)))))] rfl ⟨g9, ⟨trivial, rfl⟩, ⟨trivial, rfl⟩, ⟨rfl, trivial⟩⟩ (JQ.done rfl ?_))))))
    obtain ⟨j16, hj25, h⟩ := joinO_some h
    refine JS.seqJ (ι := Int × Int) ⟨fun z => j16 (z.1, z.2) = some r, fun z => [(3, .v (.int .i64 z.1))], fun z => .nil, fun z => [⟨.byte, ⟨a3, x0.1.length, c4⟩, x0.1⟩], fun z => [⟨(.pair .val (.pair (.int .i64) (.int .i64))), ⟨a2, 1, 1⟩, [((Sl.v ⟨a3, x0.1.length, c4⟩), z.2, (W ((W (x0.2.2 * 6364136223846793005)) + 1442695040888963407)))]⟩], fun z => 0⟩ ?_ ?_
    · refine JS.seq (JS.regionQ rfl (by kernel_rfl) (JQ.reg ttOk 3 [] [(27, .ep ⟨a2, 1, 1⟩ 1)] rfl ⟨(hs21.fa ptr0).1, hs21.fa ptr0, ⟨rfl, trivial⟩⟩ (JQ.loadV ttOk rfl rfl rfl rfl rfl rfl 1 rfl rfl 0 1 ((Sl.v ⟨a3, x0.1.length, c4⟩), x0.2.1, (W ((W (x0.2.2 * 6364136223846793005)) + 1442695040888963407))) ⟨rfl, rfl⟩ rfl rfl rfl (JQ.reg ttOk 3 [] [(31, .ep ⟨a2, 1, 1⟩ 0)] rfl ⟨(hs21.fa ptr0).1, hs21.fa ptr0, ⟨rfl, trivial⟩⟩ (JQ.loadV ttOk rfl rfl rfl rfl rfl rfl 1 rfl rfl 0 0 ((Sl.v ⟨a3, x0.1.length, c4⟩), x0.2.1, (W ((W (x0.2.2 * 6364136223846793005)) + 1442695040888963407))) ⟨rfl, rfl⟩ rfl rfl rfl (JQ.reg ttOk 2 [] [(34, .v (.bool (decide (x0.2.1 < (x0.1.length : Int)))))] rfl ⟨rfl, trivial⟩ (JQ.done rfl ?_)))))))
      refine JS.cond rfl (fun ht24 => ?_) (fun ht24 => ?_)
      · have h := condT h ht24
        refine JS.seq ?_
        obtain ⟨g11, h⟩ := guardO_some h
        refine JS.know 0 rfl fun hs23 => JS.regionQ rfl (by kernel_rfl) (JQ.reg ttOk 4 [] [(35, .v (.int .i64 (W (((BitVec.ofInt (IntKind.bits .i64) (W (((BitVec.ofInt (IntKind.bits .i64) (Int.fdiv (W ((W (x0.2.2 * 6364136223846793005)) + 1442695040888963407)) (2 ^ (min (Int.toNat 33) (IntKind.bits .i64)))) ^^^ BitVec.ofInt (IntKind.bits .i64) (Int.fdiv (W ((W (x0.2.2 * 6364136223846793005)) + 1442695040888963407)) (2 ^ (min (Int.toNat 45) (IntKind.bits .i64))))).toNat : Int))) &&& BitVec.ofInt (IntKind.bits .i64) 255).toNat : Int))))), (38, .ep ⟨a2, 1, 1⟩ 0)] rfl ⟨(hs21.fa ptr0).1, hs21.fa ptr0, ⟨rfl, rfl, trivial⟩⟩ (JQ.loadV ttOk rfl rfl rfl rfl rfl rfl 1 rfl rfl 0 0 ((Sl.v ⟨a3, x0.1.length, c4⟩), x0.2.1, (W ((W (x0.2.2 * 6364136223846793005)) + 1442695040888963407))) ⟨rfl, rfl⟩ rfl rfl rfl (JQ.reg ttOk 3 [] [(42, .ep ⟨a2, 1, 1⟩ 1)] rfl ⟨(hs21.fa ptr0).1, hs21.fa ptr0, ⟨rfl, trivial⟩⟩ (JQ.loadV ttOk rfl rfl rfl rfl rfl rfl 1 rfl rfl 0 1 ((Sl.v ⟨a3, x0.1.length, c4⟩), x0.2.1, (W ((W (x0.2.2 * 6364136223846793005)) + 1442695040888963407))) ⟨rfl, rfl⟩ rfl rfl rfl (JQ.reg ttOk 1 [] [(44, .ep ⟨a3, x0.1.length, c4⟩ (Int.toNat x0.2.1 * 1))] rfl ⟨hs23.ix g11, ⟨rfl, trivial⟩⟩ (JQ.load ttOk rfl rfl rfl rfl rfl rfl rfl 0 rfl rfl (Int.toNat x0.2.1) 0 (at' x0.1 x0.2.1) ⟨at_some g11, rfl⟩ rfl rfl (JQ.reg ttOk 4 [((at' x0.1 x0.2.1).toNat : Int), (W ((W (((BitVec.ofInt (IntKind.bits .i64) (W (((BitVec.ofInt (IntKind.bits .i64) (Int.fdiv (W ((W (x0.2.2 * 6364136223846793005)) + 1442695040888963407)) (2 ^ (min (Int.toNat 33) (IntKind.bits .i64)))) ^^^ BitVec.ofInt (IntKind.bits .i64) (Int.fdiv (W ((W (x0.2.2 * 6364136223846793005)) + 1442695040888963407)) (2 ^ (min (Int.toNat 45) (IntKind.bits .i64))))).toNat : Int))) &&& BitVec.ofInt (IntKind.bits .i64) 255).toNat : Int))) + ((at' x0.1 x0.2.1).toNat : Int))), (W (((BitVec.ofInt (IntKind.bits .i64) (W ((W (((BitVec.ofInt (IntKind.bits .i64) (W (((BitVec.ofInt (IntKind.bits .i64) (Int.fdiv (W ((W (x0.2.2 * 6364136223846793005)) + 1442695040888963407)) (2 ^ (min (Int.toNat 33) (IntKind.bits .i64)))) ^^^ BitVec.ofInt (IntKind.bits .i64) (Int.fdiv (W ((W (x0.2.2 * 6364136223846793005)) + 1442695040888963407)) (2 ^ (min (Int.toNat 45) (IntKind.bits .i64))))).toNat : Int))) &&& BitVec.ofInt (IntKind.bits .i64) 255).toNat : Int))) + ((at' x0.1 x0.2.1).toNat : Int))) &&& BitVec.ofInt (IntKind.bits .i64) 255).toNat : Int)))] [(3, .v (.int .i64 (W (((BitVec.ofInt (IntKind.bits .i64) (W ((W (((BitVec.ofInt (IntKind.bits .i64) (W (((BitVec.ofInt (IntKind.bits .i64) (Int.fdiv (W ((W (x0.2.2 * 6364136223846793005)) + 1442695040888963407)) (2 ^ (min (Int.toNat 33) (IntKind.bits .i64)))) ^^^ BitVec.ofInt (IntKind.bits .i64) (Int.fdiv (W ((W (x0.2.2 * 6364136223846793005)) + 1442695040888963407)) (2 ^ (min (Int.toNat 45) (IntKind.bits .i64))))).toNat : Int))) &&& BitVec.ofInt (IntKind.bits .i64) 255).toNat : Int))) + ((at' x0.1 x0.2.1).toNat : Int))) &&& BitVec.ofInt (IntKind.bits .i64) 255).toNat : Int)))))] rfl ⟨⟨trivial, W_byte _⟩, ⟨trivial, rfl⟩, ⟨trivial, rfl⟩, ⟨rfl, trivial⟩⟩ (JQ.done rfl (JS.region (JO.reg ttOk 4 [] [] [(49, .ep ⟨a2, 1, 1⟩ 0), (52, .ep ⟨a2, 1, 1⟩ 1)] _ rfl ⟨(hs21.fa ptr0).1, hs21.fa ptr0, ⟨rfl, rfl, trivial⟩, rfl⟩ (JO.loadV ttOk rfl rfl rfl rfl rfl rfl 1 rfl rfl 0 1 ((Sl.v ⟨a3, x0.1.length, c4⟩), x0.2.1, (W ((W (x0.2.2 * 6364136223846793005)) + 1442695040888963407))) ⟨rfl, rfl⟩ rfl rfl rfl (JO.reg ttOk 3 [(W (x0.2.1 + 1))] [] [(54, .v (.int .i64 (W (x0.2.1 + 1)))), (56, .ep ⟨a2, 1, 1⟩ 1)] _ rfl ⟨⟨trivial, rfl⟩, (hs21.fa ptr0).1, hs21.fa ptr0, ⟨rfl, rfl, trivial⟩, rfl⟩ (JO.storeE ttOk rfl rfl rfl rfl rfl rfl rfl rfl rfl [0] (fs := []) rfl 0 1 ((Sl.v ⟨a3, x0.1.length, c4⟩), x0.2.1, (W ((W (x0.2.2 * 6364136223846793005)) + 1442695040888963407))) ((Sl.v ⟨a3, x0.1.length, c4⟩), (W (x0.2.1 + 1)), (W ((W (x0.2.2 * 6364136223846793005)) + 1442695040888963407))) ⟨rfl, rfl⟩ ⟨⟨⟨rfl, rfl, rfl⟩, rfl⟩, rfl⟩ (JO.done rfl (JS.endJ ((W (((BitVec.ofInt (IntKind.bits .i64) (W ((W (((BitVec.ofInt (IntKind.bits .i64) (W (((BitVec.ofInt (IntKind.bits .i64) (Int.fdiv (W ((W (x0.2.2 * 6364136223846793005)) + 1442695040888963407)) (2 ^ (min (Int.toNat 33) (IntKind.bits .i64)))) ^^^ BitVec.ofInt (IntKind.bits .i64) (Int.fdiv (W ((W (x0.2.2 * 6364136223846793005)) + 1442695040888963407)) (2 ^ (min (Int.toNat 45) (IntKind.bits .i64))))).toNat : Int))) &&& BitVec.ofInt (IntKind.bits .i64) 255).toNat : Int))) + ((at' x0.1 x0.2.1).toNat : Int))) &&& BitVec.ofInt (IntKind.bits .i64) 255).toNat : Int))), (W (x0.2.1 + 1))) h ⟨rfl, trivial⟩ trivial [0] rfl [0] rfl)))))))))))))))
      have h := condF h ht24
      refine JS.skip (JS.endJ ((W (((BitVec.ofInt (IntKind.bits .i64) (W (((BitVec.ofInt (IntKind.bits .i64) (Int.fdiv (W ((W (x0.2.2 * 6364136223846793005)) + 1442695040888963407)) (2 ^ (min (Int.toNat 33) (IntKind.bits .i64)))) ^^^ BitVec.ofInt (IntKind.bits .i64) (Int.fdiv (W ((W (x0.2.2 * 6364136223846793005)) + 1442695040888963407)) (2 ^ (min (Int.toNat 45) (IntKind.bits .i64))))).toNat : Int))) &&& BitVec.ofInt (IntKind.bits .i64) 255).toNat : Int))), x0.2.1) h ⟨rfl, trivial⟩ trivial [0] rfl [0] rfl)
    rintro ⟨x14, x15⟩ h
    subst hj25
    refine JS.seq (JS.region (JO.reg ttOk 2 [] [] [(2, .v (.int .i64 x14))] _ rfl ⟨⟨rfl, trivial⟩, rfl⟩ (JO.done rfl ?_)))
    cases h
    exact JS.retX ttOk () trivial rfl rfl [0] rfl

def M_s_l01Below (x0 : List UInt8 × Int × Int) (x1 : Int) : Option (Int × List UInt8 × Int × Int) :=
  (bif (decide (x1 ≤ 0)) then
  some (0, x0)
  else
  (bif (decide (x1 ≤ 256)) then
  (bindO (M_s_l01Byte x0) fun (y8, y9) =>
  (guardO (x1 ≠ 0) <|
  some ((Int.tmod y8 x1), (x0.1, y9.2.1, y9.2.2))))
  else
  (bindO (M_s_l01Byte x0) fun (y12, y13) =>
  (bindO (M_s_l01Byte (x0.1, y13.2.1, y13.2.2)) fun (y15, y16) =>
  (bindO (M_s_l01Byte (x0.1, y16.2.1, y16.2.2)) fun (y18, y19) =>
  (bindO (M_s_l01Byte (x0.1, y19.2.1, y19.2.2)) fun (y21, y22) =>
  (guardO (x1 ≠ 0) <|
  some ((Int.tmod (W ((W ((W ((W (y12 * 16777216)) + (W (y15 * 65536)))) + (W (y18 * 256)))) + y21)) x1), (x0.1, y22.2.1, y22.2.2)))))))))

theorem ok_s_l01Below (x0 : List UInt8 × Int × Int) (x1 : Int) (a3 : Option Addr) (a4 : Option Addr) (c5 : Nat) (l6 : Nat) (hl7 : x0.1.length = l6) (r : Int × List UInt8 × Int × Int) (h : M_s_l01Below x0 x1 = some r) :
    FX Try.prog 59 [.pointer a3, .int .i64 x1] [⟨.byte, ⟨a4, l6, c5⟩, x0.1⟩] [⟨(.pair .val (.pair (.int .i64) (.int .i64))), ⟨a3, 1, 1⟩, [((Sl.v ⟨a4, l6, c5⟩), x0.2.1, x0.2.2)]⟩] (fun _ : Unit => True) (fun _ => .int .i64 r.1) (fun _ => [⟨(.pair .val (.pair (.int .i64) (.int .i64))), ⟨a3, 1, 1⟩, [((Sl.v ⟨a4, l6, c5⟩), r.2.2.1, r.2.2.2)]⟩]) :=
  by
    subst hl7
    refine FX.of (T := TTx) Try.call59 Try.func59 rfl rfl fun w0 L0 => ?_
    unfold M_s_l01Below at h
    refine JS.ptr 0 a3 rfl ?_
    refine JS.seq (JS.region (JO.reg ttOk 1 [] [] [] _ rfl ⟨trivial, rfl⟩ (JO.done rfl (JS.seq (JS.seq (JS.region (JO.reg ttOk 2 [] [] [(10, .v (.bool (decide (x1 ≤ 0))))] _ rfl ⟨⟨rfl, trivial⟩, rfl⟩ (JO.done rfl ?_))))))))
    refine JS.cond rfl (fun ht28 => ?_) (fun ht28 => ?_)
    · have h := condT h ht28
      refine JS.seq (JS.region (JO.reg ttOk 1 [] [] [(4, .v (.int .i64 0))] _ rfl ⟨⟨rfl, trivial⟩, rfl⟩ (JO.done rfl ?_)))
      cases h
      exact JS.retX ttOk () trivial rfl rfl [0] rfl
    have h := condF h ht28
    refine JS.skip (JS.seq (JS.seq (JS.region (JO.reg ttOk 2 [] [] [(12, .v (.bool (decide (x1 ≤ 256))))] _ rfl ⟨⟨rfl, trivial⟩, rfl⟩ (JO.done rfl ?_)))))
    refine JS.cond rfl (fun ht27 => ?_) (fun ht27 => ?_)
    · have h := condT h ht27
      refine JS.seq (JS.region (JO.reg ttOk 1 [] [] [(13, .ep ⟨a3, 1, 1⟩ 0)] _ rfl ⟨⟨rfl, trivial⟩, rfl⟩ ?_))
      obtain ⟨⟨y8, y9⟩, hy10, h⟩ := bindO_some h
      refine JO.callX rfl rfl rfl rfl (ok_s_l01Byte x0 a3 a4 c5 x0.1.length rfl _ hy10) rfl [0] rfl [0] rfl rfl fun _ _ => ?_
      obtain ⟨g11, h⟩ := guardO_some h
      refine JO.reg ttOk 3 [] [] [(4, .v (.int .i64 (Int.tmod y8 x1)))] _ rfl ⟨g11, ⟨rfl, trivial⟩, rfl⟩ (JO.done rfl ?_)
      cases h
      exact JS.retX ttOk () trivial rfl rfl [0] rfl
    have h := condF h ht27
    refine JS.skip (JS.seq (JS.region (JO.reg ttOk 1 [] [] [(17, .ep ⟨a3, 1, 1⟩ 0)] _ rfl ⟨⟨rfl, trivial⟩, rfl⟩ ?_)))
    obtain ⟨⟨y12, y13⟩, hy14, h⟩ := bindO_some h
    refine JO.callX rfl rfl rfl rfl (ok_s_l01Byte x0 a3 a4 c5 x0.1.length rfl _ hy14) rfl [0] rfl [0] rfl rfl fun _ _ => JO.reg ttOk 1 [] [] [(5, .v (.int .i64 y12))] _ rfl ⟨⟨rfl, trivial⟩, rfl⟩ (JO.done rfl (JS.seq (JS.region (JO.reg ttOk 1 [] [] [(19, .ep ⟨a3, 1, 1⟩ 0)] _ rfl ⟨⟨rfl, trivial⟩, rfl⟩ ?_))))
    obtain ⟨⟨y15, y16⟩, hy17, h⟩ := bindO_some h
    refine JO.callX rfl rfl rfl rfl (ok_s_l01Byte (x0.1, y13.2.1, y13.2.2) a3 a4 c5 x0.1.length rfl _ hy17) rfl [0] rfl [0] rfl rfl fun _ _ => JO.reg ttOk 1 [] [] [(6, .v (.int .i64 y15))] _ rfl ⟨⟨rfl, trivial⟩, rfl⟩ (JO.done rfl (JS.seq (JS.region (JO.reg ttOk 1 [] [] [(21, .ep ⟨a3, 1, 1⟩ 0)] _ rfl ⟨⟨rfl, trivial⟩, rfl⟩ ?_))))
    obtain ⟨⟨y18, y19⟩, hy20, h⟩ := bindO_some h
    refine JO.callX rfl rfl rfl rfl (ok_s_l01Byte (x0.1, y16.2.1, y16.2.2) a3 a4 c5 x0.1.length rfl _ hy20) rfl [0] rfl [0] rfl rfl fun _ _ => JO.reg ttOk 1 [] [] [(7, .v (.int .i64 y18))] _ rfl ⟨⟨rfl, trivial⟩, rfl⟩ (JO.done rfl (JS.seq (JS.region (JO.reg ttOk 1 [] [] [(23, .ep ⟨a3, 1, 1⟩ 0)] _ rfl ⟨⟨rfl, trivial⟩, rfl⟩ ?_))))
    obtain ⟨⟨y21, y22⟩, hy23, h⟩ := bindO_some h
    refine JO.callX rfl rfl rfl rfl (ok_s_l01Byte (x0.1, y19.2.1, y19.2.2) a3 a4 c5 x0.1.length rfl _ hy23) rfl [0] rfl [0] rfl rfl fun _ _ => JO.reg ttOk 1 [] [] [(8, .v (.int .i64 y21))] _ rfl ⟨⟨rfl, trivial⟩, rfl⟩ (JO.done rfl (JS.seq (JS.region ?_)))
    obtain ⟨g24, h⟩ := guardO_some h
    refine JO.reg ttOk 13 [(W (y12 * 16777216)), (W (y15 * 65536)), (W ((W (y12 * 16777216)) + (W (y15 * 65536)))), (W (y18 * 256)), (W ((W ((W (y12 * 16777216)) + (W (y15 * 65536)))) + (W (y18 * 256)))), (W ((W ((W ((W (y12 * 16777216)) + (W (y15 * 65536)))) + (W (y18 * 256)))) + y21))] [] [(4, .v (.int .i64 (Int.tmod (W ((W ((W ((W (y12 * 16777216)) + (W (y15 * 65536)))) + (W (y18 * 256)))) + y21)) x1)))] _ rfl ⟨⟨trivial, rfl⟩, ⟨trivial, rfl⟩, ⟨trivial, rfl⟩, ⟨trivial, rfl⟩, ⟨trivial, rfl⟩, ⟨trivial, rfl⟩, g24, ⟨rfl, trivial⟩, rfl⟩ (JO.done rfl ?_)
    cases h
    exact JS.retX ttOk () trivial rfl rfl [0] rfl

def M_s_GridNew_L1 (x0 : Int) (x1 : Int) (j33 : (List Int) → Option ((Int × Int × List Int × Int × Int × Bool) × Bool)) (k27 : (Int × List Int) → Option ((Int × Int × List Int × Int × Int × Bool) × Bool)) : (Int × List Int) → Option ((Int × Int × List Int × Int × Int × Bool) × Bool) := fun (x4, x15) =>
  (bif (decide (x4 < (W (x0 * x1)))) then
  (guardO (x15.length + ([32] : List Int).length ≤ 536870912) <|
  k27 ((W (x4 + 1)), (x15 ++ ([32] : List Int))))
  else
  j33 x15)

def M_s_GridNew (x0 : Int) (x1 : Int) : Option ((Int × Int × List Int × Int × Int × Bool) × Bool) :=
  (bif (bif (bif (bif (bif (decide (x0 < 2)) then true else (decide (200 < x0))) then true else (decide (x1 < 1))) then true else (decide (200 < x1))) then true else (decide (8000 < (W (x0 * x1))))) then
  some ((0, 0, [], 0, 0, false), false)
  else
  (joinO (fun (x30 : List Int) =>
  some ((x0, x1, x30, 0, 0, false), true)) fun j33 =>
  (fixF (M_s_GridNew_L1 x0 x1 j33) FUEL (0, ([] : List Int)))))

theorem ok_s_GridNew (x0 : Int) (x1 : Int) (r : (Int × Int × List Int × Int × Int × Bool) × Bool) (h : M_s_GridNew x0 x1 = some r) :
    FC Try.prog 60 [.int .i64 x0, .int .i64 x1] [] (fun _ : Option Addr × Nat => True) (fun q => .tuple #[.agg (cl26 r.1 q.1 q.2).toArray, .bool r.2]) (fun q => [⟨(.int .i64), ⟨q.1, r.1.2.2.1.length, q.2⟩, r.1.2.2.1⟩]) :=
  by
    refine FC.of (T := TTx) Try.call60 Try.func60 rfl rfl fun w0 => ?_
    unfold M_s_GridNew at h
    refine JS.seq (JS.region (JO.regB ttOk 2 [] [1] [(4, .bp 1 0)] (.new 1 26 (cl26 (0, 0, [], 0, 0, false) none 0) .nil) rfl ⟨⟨rfl, trivial⟩, ⟨rfl, rfl, rfl, rfl, trivial⟩⟩ (JO.done rfl (JS.seq (JS.seq (JS.region (JO.reg ttOk 20 [(W (x0 * x1))] [] [(27, .v (.bool (bif (bif (bif (bif (decide (x0 < 2)) then true else (decide (200 < x0))) then true else (decide (x1 < 1))) then true else (decide (200 < x1))) then true else (decide (8000 < (W (x0 * x1)))))))] _ rfl ⟨(fun q37 => ⟨trivial, rfl⟩), ⟨rfl, trivial⟩, rfl⟩ (JO.done rfl ?_))))))))
    refine JS.cond rfl (fun ht40 => ?_) (fun ht40 => ?_)
    · have h := condT h ht40
      refine JS.seq (JS.region (JO.regB ttOk 3 [] [] [(5, .v (.bool false))] (.new 1 26 (cl26 (0, 0, [], 0, 0, false) none 0) .nil) rfl ⟨⟨rfl, trivial⟩, ⟨rfl, rfl, rfl, rfl, trivial⟩⟩ (JO.done rfl ?_)))
      cases h
      refine JS.nilO (.int .i64) Sl.nil rfl rfl (JS.ret ttOk (none, 0) trivial rfl rfl [0] rfl)
    have h := condF h ht40
    refine JS.skip (JS.seq (JS.region (JO.regB ttOk 5 [] [2] [(6, .bp 2 0)] (.new 1 26 (cl26 (0, 0, [], 0, 0, false) none 0) (.new 2 26 (cl26 (x0, x1, [], 0, 0, false) none 0) .nil)) rfl ⟨⟨rfl, trivial⟩, ⟨rfl, rfl, rfl, rfl, rfl, rfl, rfl, rfl, trivial⟩⟩ (JO.done rfl (JS.seq (JS.seq (JS.region (JO.reg ttOk 1 [] [] [(7, .v (.int .i64 0))] _ rfl ⟨⟨rfl, trivial⟩, rfl⟩ (JO.done rfl ?_)))))))))
    obtain ⟨j33, hj39, h⟩ := joinO_some h
    refine JS.blockJ (ι := List Int × Option Addr × Nat) ⟨fun z => j33 z.1 = some r, fun z => [(4, .bp 1 0), (6, .bp 2 0)], fun z => (.new 1 26 (cl26 (0, 0, [], 0, 0, false) none 0) (.new 2 26 (cl26 (x0, x1, z.1, 0, 0, false) z.2.1 z.2.2) .nil)), fun z => [], fun z => [⟨(.int .i64), ⟨z.2.1, z.1.length, z.2.2⟩, z.1⟩], fun z => 0⟩ ?_ ?_
    · refine JS.nilO (.int .i64) Sl.nil rfl rfl (JS.loop (ι := Nat × Int × List Int × Option Addr × Nat) ⟨fun z => fixF (M_s_GridNew_L1 x0 x1 j33) z.1 (z.2.1, z.2.2.1) = some r, fun z => [(0, .v (.int .i64 x0)), (1, .v (.int .i64 x1)), (4, .bp 1 0), (6, .bp 2 0), (7, .v (.int .i64 z.2.1))], fun z => (.new 1 26 (cl26 (0, 0, [], 0, 0, false) none 0) (.new 2 26 (cl26 (x0, x1, z.2.2.1, 0, 0, false) z.2.2.2.1 z.2.2.2.2) .nil)), fun z => [], fun z => [⟨(.int .i64), ⟨z.2.2.2.1, z.2.2.1.length, z.2.2.2.2⟩, z.2.2.1⟩], fun z => z.1⟩ (FUEL, 0, ([] : List Int), none, 0) h ⟨rfl, rfl, rfl, rfl, rfl, trivial⟩ ⟨rfl, rfl, rfl, rfl, rfl, rfl, rfl, rfl, trivial⟩ [] rfl [0] rfl ?_)
      rintro ⟨n28, x4, x15, a16, c17⟩ h
      obtain ⟨n28, rfl, h⟩ := fixF_some h
      rw [M_s_GridNew_L1] at h
      refine JS.seq (JS.seq (JS.region (JO.reg ttOk 5 [(W (x0 * x1))] [] [(36, .v (.bool (decide (x4 < (W (x0 * x1))))))] _ rfl ⟨⟨trivial, rfl⟩, ⟨rfl, trivial⟩, rfl⟩ (JO.done rfl ?_))))
      refine JS.cond rfl (fun ht38 => ?_) (fun ht38 => ?_)
      · have h := condT h ht38
        refine JS.skip (JS.seq (JS.block (JS.region (JO.reg ttOk 2 [] [] [(40, .v (.slice a16 x15.length c17))] _ rfl ⟨⟨rfl, trivial⟩, rfl⟩ ?_))))
        refine JO.ofK rfl (JK.buildSlice ttOk rfl rfl rfl rfl rfl rfl rfl rfl rfl rfl rfl [] rfl (.int .i64) [32] ⟨rfl, rfl⟩ rfl rfl fun a21 => JO.toK ?_)
        obtain ⟨g22, h⟩ := guardO_some h
        refine JO.appendR' ttOk rfl rfl rfl rfl ⟨rfl, rfl, rfl, rfl, trivial, rfl, rfl, rfl, rfl⟩ rfl rfl rfl [1] rfl 0 rfl g22 rfl fun a23 c24 => JO.regB ttOk 2 [] [] [] (.new 1 26 (cl26 (0, 0, [], 0, 0, false) none 0) (.new 2 26 (cl26 (x0, x1, (x15 ++ ([32] : List Int)), 0, 0, false) a23 c24) .nil)) rfl ⟨trivial, ⟨rfl, rfl, rfl, rfl, rfl, rfl, rfl, rfl, trivial⟩⟩ (JO.done rfl (JS.endB (JS.region (JO.reg ttOk 3 [(W (x4 + 1))] [] [(7, .v (.int .i64 (W (x4 + 1))))] _ rfl ⟨⟨trivial, rfl⟩, ⟨rfl, trivial⟩, rfl⟩ (JO.done rfl (JS.endL (n28, (W (x4 + 1)), (x15 ++ ([32] : List Int)), a23, c24) h (Nat.lt_succ_self _) ⟨rfl, rfl, rfl, rfl, rfl, trivial⟩ ⟨rfl, rfl, rfl, rfl, rfl, rfl, rfl, rfl, trivial⟩ [] rfl [0] rfl))))))
      have h := condF h ht38
      refine JS.exit rfl (JS.endJ (x15, a16, c17) h ⟨rfl, rfl, trivial⟩ ⟨rfl, rfl, rfl, rfl, rfl, rfl, rfl, rfl, trivial⟩ [] rfl [0] rfl)
    rintro ⟨x30, a31, c32⟩ h
    subst hj39
    refine JS.seq (JS.region (JO.regB ttOk 3 [] [] [(5, .v (.bool true))] (.new 1 26 (cl26 (x0, x1, x30, 0, 0, false) a31 c32) .nil) rfl ⟨⟨rfl, trivial⟩, ⟨rfl, rfl, rfl, rfl, trivial⟩⟩ (JO.done rfl ?_)))
    cases h
    exact JS.ret ttOk (a31, c32) trivial rfl rfl [0] rfl

def M_s_l08Sized (x0 : List UInt8 × Int × Int) : Option ((Int × Int × List Int × Int × Int × Bool) × List UInt8 × Int × Int) :=
  (bindO (M_s_l01Below x0 9) fun (y7, y8) =>
  (bindO (M_s_l01Below (x0.1, y8.2.1, y8.2.2) 4) fun (y10, y11) =>
  (bindO (M_s_GridNew (W (2 + y7)) (W (1 + y10))) fun (y13, y14) =>
  some (y13, (x0.1, y11.2.1, y11.2.2)))))

theorem ok_s_l08Sized (x0 : List UInt8 × Int × Int) (a2 : Option Addr) (a3 : Option Addr) (c4 : Nat) (l5 : Nat) (hl6 : x0.1.length = l5) (r : (Int × Int × List Int × Int × Int × Bool) × List UInt8 × Int × Int) (h : M_s_l08Sized x0 = some r) :
    FX Try.prog 86 [.pointer a2] [⟨.byte, ⟨a3, l5, c4⟩, x0.1⟩] [⟨(.pair .val (.pair (.int .i64) (.int .i64))), ⟨a2, 1, 1⟩, [((Sl.v ⟨a3, l5, c4⟩), x0.2.1, x0.2.2)]⟩] (fun _ : Option Addr × Nat => True) (fun q => .agg (cl26 r.1 q.1 q.2).toArray) (fun q => [⟨(.pair .val (.pair (.int .i64) (.int .i64))), ⟨a2, 1, 1⟩, [((Sl.v ⟨a3, l5, c4⟩), r.2.2.1, r.2.2.2)]⟩, ⟨(.int .i64), ⟨q.1, r.1.2.2.1.length, q.2⟩, r.1.2.2.1⟩]) :=
  by
    subst hl6
    refine FX.of (T := TTx) Try.call86 Try.func86 rfl rfl fun w0 L0 => ?_
    unfold M_s_l08Sized at h
    refine JS.ptr 0 a2 rfl ?_
    refine JS.seq (JS.region (JO.regB ttOk 1 [] [3] [(2, .bp 3 0)] (.new 3 26 (cl26 (0, 0, [], 0, 0, false) none 0) .nil) rfl ⟨⟨rfl, trivial⟩, ⟨rfl, rfl, rfl, rfl, trivial⟩⟩ (JO.done rfl (JS.seq (JS.region (JO.reg ttOk 1 [] [] [(6, .ep ⟨a2, 1, 1⟩ 0)] _ rfl ⟨⟨rfl, trivial⟩, rfl⟩ ?_))))))
    obtain ⟨⟨y7, y8⟩, hy9, h⟩ := bindO_some h
    refine JO.callX rfl rfl rfl rfl (ok_s_l01Below x0 9 a2 a3 c4 x0.1.length rfl _ hy9) rfl [0] rfl [0] rfl rfl fun _ _ => JO.reg ttOk 2 [(W (2 + y7))] [] [(8, .v (.int .i64 (W (2 + y7)))), (9, .ep ⟨a2, 1, 1⟩ 0)] _ rfl ⟨⟨trivial, rfl⟩, ⟨rfl, rfl, trivial⟩, rfl⟩ ?_
    obtain ⟨⟨y10, y11⟩, hy12, h⟩ := bindO_some h
    refine JO.callX rfl rfl rfl rfl (ok_s_l01Below (x0.1, y8.2.1, y8.2.2) 4 a2 a3 c4 x0.1.length rfl _ hy12) rfl [0] rfl [0] rfl rfl fun _ _ => JO.reg ttOk 1 [(W (1 + y10))] [] [(11, .v (.int .i64 (W (1 + y10))))] _ rfl ⟨⟨trivial, rfl⟩, ⟨rfl, trivial⟩, rfl⟩ ?_
    obtain ⟨⟨y13, y14⟩, hy15, h⟩ := bindO_some h
    refine JO.call rfl rfl rfl rfl (ok_s_GridNew (W (2 + y7)) (W (1 + y10)) _ hy15) rfl [] rfl rfl ?_
    rintro ⟨a16, c17⟩ -
    refine JO.regB ttOk 6 [] [16] [(3, .bp 16 0)] (.new 3 26 (cl26 (0, 0, [], 0, 0, false) none 0) (.new 16 26 (cl26 y13 a16 c17) .nil)) rfl ⟨⟨rfl, trivial⟩, ⟨rfl, rfl, rfl, rfl, rfl, rfl, rfl, rfl, trivial⟩⟩ (JO.done rfl (JS.seq (JS.region (JO.regB ttOk 2 [] [] [] (.new 3 26 (cl26 y13 a16 c17) .nil) rfl ⟨trivial, ⟨rfl, rfl, rfl, rfl, trivial⟩⟩ (JO.done rfl ?_)))))
    cases h
    exact JS.retX ttOk (a16, c17) trivial rfl rfl [1, 0] rfl

def M_s_l02Rune (x0 : List UInt8 × Int × Int) : Option (Int × List UInt8 × Int × Int) :=
  (bindO (M_s_l01Below x0 12) fun (y7, y8) =>
  (bif (decide (y7 < 9)) then
  (bindO (M_s_l01Below (x0.1, y8.2.1, y8.2.2) 16) fun (y11, y12) =>
  (guardO (0 ≤ y11 ∧ y11 < (([97, 98, 99, 120, 49, 50, 32, 32, 46, 45, 95, 233, 4352, 20013, 128512, 47] : List Int).length : Int)) <|
  some ((at' ([97, 98, 99, 120, 49, 50, 32, 32, 46, 45, 95, 233, 4352, 20013, 128512, 47] : List Int) y11), (x0.1, y12.2.1, y12.2.2))))
  else
  (bif (decide (y7 = 9)) then
  (bindO (M_s_l01Below (x0.1, y8.2.1, y8.2.2) 94) fun (y16, y17) =>
  some ((W (33 + y16)), (x0.1, y17.2.1, y17.2.2)))
  else
  (bif (decide (y7 = 10)) then
  (bindO (M_s_l01Below (x0.1, y8.2.1, y8.2.2) 300) fun (y19, y20) =>
  some ((W (160 + y19)), (x0.1, y20.2.1, y20.2.2)))
  else
  (bindO (M_s_l01Below (x0.1, y8.2.1, y8.2.2) 2000) fun (y22, y23) =>
  some ((W (19968 + y22)), (x0.1, y23.2.1, y23.2.2)))))))

theorem ok_s_l02Rune (x0 : List UInt8 × Int × Int) (a2 : Option Addr) (a3 : Option Addr) (c4 : Nat) (l5 : Nat) (hl6 : x0.1.length = l5) (r : Int × List UInt8 × Int × Int) (h : M_s_l02Rune x0 = some r) :
    FX Try.prog 62 [.pointer a2] [⟨.byte, ⟨a3, l5, c4⟩, x0.1⟩] [⟨(.pair .val (.pair (.int .i64) (.int .i64))), ⟨a2, 1, 1⟩, [((Sl.v ⟨a3, l5, c4⟩), x0.2.1, x0.2.2)]⟩] (fun _ : Unit => True) (fun _ => .int .i64 r.1) (fun _ => [⟨(.pair .val (.pair (.int .i64) (.int .i64))), ⟨a2, 1, 1⟩, [((Sl.v ⟨a3, l5, c4⟩), r.2.2.1, r.2.2.2)]⟩]) :=
  by
    subst hl6
    refine FX.of (T := TTx) Try.call62 Try.func62 rfl rfl fun w0 L0 => ?_
    unfold M_s_l02Rune at h
    refine JS.ptr 0 a2 rfl ?_
    refine JS.seq (JS.region (JO.reg ttOk 1 [] [] [] _ rfl ⟨trivial, rfl⟩ (JO.done rfl (JS.seq (JS.region (JO.reg ttOk 1 [] [] [(4, .ep ⟨a2, 1, 1⟩ 0)] _ rfl ⟨⟨rfl, trivial⟩, rfl⟩ ?_))))))
    obtain ⟨⟨y7, y8⟩, hy9, h⟩ := bindO_some h
    refine JO.callX rfl rfl rfl rfl (ok_s_l01Below x0 12 a2 a3 c4 x0.1.length rfl _ hy9) rfl [0] rfl [0] rfl rfl fun _ _ => JO.reg ttOk 1 [] [] [(3, .v (.int .i64 y7))] _ rfl ⟨⟨rfl, trivial⟩, rfl⟩ (JO.done rfl (JS.seq (JS.seq (JS.region (JO.reg ttOk 2 [] [] [(7, .v (.bool (decide (y7 < 9))))] _ rfl ⟨⟨rfl, trivial⟩, rfl⟩ (JO.done rfl ?_))))))
    refine JS.cond rfl (fun ht31 => ?_) (fun ht31 => ?_)
    · have h := condT h ht31
      refine JS.seq (JS.region ?_)
      refine JO.ofK rfl (JK.buildSlice ttOk rfl rfl rfl rfl rfl rfl rfl rfl rfl rfl rfl [] rfl (.int .i64) [97, 98, 99, 120, 49, 50, 32, 32, 46, 45, 95, 233, 4352, 20013, 128512, 47] ⟨rfl, rfl⟩ rfl rfl fun a10 => JO.toK ?_)
      refine JO.reg ttOk 1 [] [] [(9, .ep ⟨a2, 1, 1⟩ 0)] _ rfl ⟨⟨rfl, trivial⟩, rfl⟩ ?_
      obtain ⟨⟨y11, y12⟩, hy13, h⟩ := bindO_some h
      refine JO.callX rfl rfl rfl rfl (ok_s_l01Below (x0.1, y8.2.1, y8.2.2) 16 a2 a3 c4 x0.1.length rfl _ hy13) rfl [1] rfl [0] rfl rfl fun _ _ => JO.know 2 rfl fun hs28 => ?_
      obtain ⟨g15, h⟩ := guardO_some h
      refine JO.reg ttOk 1 [] [] [(11, .ep ⟨a10, ([97, 98, 99, 120, 49, 50, 32, 32, 46, 45, 95, 233, 4352, 20013, 128512, 47] : List Int).length, ([97, 98, 99, 120, 49, 50, 32, 32, 46, 45, 95, 233, 4352, 20013, 128512, 47] : List Int).length⟩ (Int.toNat y11 * 1))] _ rfl ⟨hs28.ix g15, ⟨rfl, trivial⟩, rfl⟩ (JO.load ttOk rfl rfl rfl rfl rfl rfl rfl 2 rfl rfl (Int.toNat y11) 0 (at' ([97, 98, 99, 120, 49, 50, 32, 32, 46, 45, 95, 233, 4352, 20013, 128512, 47] : List Int) y11) ⟨at_some g15, rfl⟩ rfl rfl (JO.reg ttOk 1 [] [] [(2, .v (.int .i64 (at' ([97, 98, 99, 120, 49, 50, 32, 32, 46, 45, 95, 233, 4352, 20013, 128512, 47] : List Int) y11)))] _ rfl ⟨⟨rfl, trivial⟩, rfl⟩ (JO.done rfl ?_)))
      cases h
      exact JS.retX ttOk () trivial rfl rfl [0] rfl
    have h := condF h ht31
    refine JS.skip (JS.seq (JS.seq (JS.region (JO.reg ttOk 2 [] [] [(14, .v (.bool (decide (y7 = 9))))] _ rfl ⟨⟨rfl, trivial⟩, rfl⟩ (JO.done rfl ?_)))))
    refine JS.cond rfl (fun ht30 => ?_) (fun ht30 => ?_)
    · have h := condT h ht30
      refine JS.seq (JS.region (JO.reg ttOk 1 [] [] [(15, .ep ⟨a2, 1, 1⟩ 0)] _ rfl ⟨⟨rfl, trivial⟩, rfl⟩ ?_))
      obtain ⟨⟨y16, y17⟩, hy18, h⟩ := bindO_some h
      refine JO.callX rfl rfl rfl rfl (ok_s_l01Below (x0.1, y8.2.1, y8.2.2) 94 a2 a3 c4 x0.1.length rfl _ hy18) rfl [0] rfl [0] rfl rfl fun _ _ => JO.reg ttOk 2 [(W (33 + y16))] [] [(2, .v (.int .i64 (W (33 + y16))))] _ rfl ⟨⟨trivial, rfl⟩, ⟨rfl, trivial⟩, rfl⟩ (JO.done rfl ?_)
      cases h
      exact JS.retX ttOk () trivial rfl rfl [0] rfl
    have h := condF h ht30
    refine JS.skip (JS.seq (JS.seq (JS.region (JO.reg ttOk 2 [] [] [(19, .v (.bool (decide (y7 = 10))))] _ rfl ⟨⟨rfl, trivial⟩, rfl⟩ (JO.done rfl ?_)))))
    refine JS.cond rfl (fun ht29 => ?_) (fun ht29 => ?_)
    · have h := condT h ht29
      refine JS.seq (JS.region (JO.reg ttOk 1 [] [] [(20, .ep ⟨a2, 1, 1⟩ 0)] _ rfl ⟨⟨rfl, trivial⟩, rfl⟩ ?_))
      obtain ⟨⟨y19, y20⟩, hy21, h⟩ := bindO_some h
      refine JO.callX rfl rfl rfl rfl (ok_s_l01Below (x0.1, y8.2.1, y8.2.2) 300 a2 a3 c4 x0.1.length rfl _ hy21) rfl [0] rfl [0] rfl rfl fun _ _ => JO.reg ttOk 2 [(W (160 + y19))] [] [(2, .v (.int .i64 (W (160 + y19))))] _ rfl ⟨⟨trivial, rfl⟩, ⟨rfl, trivial⟩, rfl⟩ (JO.done rfl ?_)
      cases h
      exact JS.retX ttOk () trivial rfl rfl [0] rfl
    have h := condF h ht29
    refine JS.skip (JS.seq (JS.region (JO.reg ttOk 1 [] [] [(23, .ep ⟨a2, 1, 1⟩ 0)] _ rfl ⟨⟨rfl, trivial⟩, rfl⟩ ?_)))
    obtain ⟨⟨y22, y23⟩, hy24, h⟩ := bindO_some h
    refine JO.callX rfl rfl rfl rfl (ok_s_l01Below (x0.1, y8.2.1, y8.2.2) 2000 a2 a3 c4 x0.1.length rfl _ hy24) rfl [0] rfl [0] rfl rfl fun _ _ => JO.reg ttOk 2 [(W (19968 + y22))] [] [(2, .v (.int .i64 (W (19968 + y22))))] _ rfl ⟨⟨trivial, rfl⟩, ⟨rfl, trivial⟩, rfl⟩ (JO.done rfl ?_)
    cases h
    exact JS.retX ttOk () trivial rfl rfl [0] rfl

def M_s_RuneOk (x0 : Int) : Option Bool :=
  some (bif (bif (decide (0 ≤ x0)) then (decide (x0 ≤ 1114111)) else false) then (bif (decide (x0 < 55296)) then true else (decide (57343 < x0))) else false)

theorem ok_s_RuneOk (x0 : Int) (r : Bool) (h : M_s_RuneOk x0 = some r) :
    FC Try.prog 96 [.int .i64 x0] [] (fun _ : Unit => True) (fun _ => .bool r) (fun _ => []) :=
  by
    refine FC.of (T := TTx) Try.call96 Try.func96 rfl rfl fun w0 => ?_
    unfold M_s_RuneOk at h
    refine JS.seq (JS.region (JO.reg ttOk 1 [] [] [] _ rfl ⟨trivial, rfl⟩ (JO.done rfl (JS.seq (JS.region (JO.reg ttOk 15 [] [] [(2, .v (.bool (bif (bif (decide (0 ≤ x0)) then (decide (x0 ≤ 1114111)) else false) then (bif (decide (x0 < 55296)) then true else (decide (57343 < x0))) else false)))] _ rfl ⟨⟨rfl, trivial⟩, rfl⟩ (JO.done rfl ?_)))))))
    cases h
    exact JS.ret ttOk () trivial rfl rfl [] rfl

def M_s_Printable (x0 : Int) : Option Bool :=
  (bindO (M_s_RuneOk x0) fun (y2 : Bool) =>
  some (bif (bif y2 then (decide (32 ≤ x0)) else false) then (bif (decide (x0 < 127)) then true else (decide (159 < x0))) else false))

theorem ok_s_Printable (x0 : Int) (r : Bool) (h : M_s_Printable x0 = some r) :
    FC Try.prog 82 [.int .i64 x0] [] (fun _ : Unit => True) (fun _ => .bool r) (fun _ => []) :=
  by
    refine FC.of (T := TTx) Try.call82 Try.func82 rfl rfl fun w0 => ?_
    unfold M_s_Printable at h
    refine JS.seq (JS.region (JO.reg ttOk 1 [] [] [] _ rfl ⟨trivial, rfl⟩ (JO.done rfl (JS.seq (JS.region (JO.reg ttOk 1 [] [] [(3, .v (.int .i64 x0))] _ rfl ⟨⟨rfl, trivial⟩, rfl⟩ ?_))))))
    obtain ⟨y2, hy3, h⟩ := bindO_some h
    refine JO.call rfl rfl rfl rfl (ok_s_RuneOk x0 _ hy3) rfl [] rfl rfl fun _ _ => JO.reg ttOk 13 [] [] [(2, .v (.bool (bif (bif y2 then (decide (32 ≤ x0)) else false) then (bif (decide (x0 < 127)) then true else (decide (159 < x0))) else false)))] _ rfl ⟨⟨rfl, trivial⟩, rfl⟩ (JO.done rfl ?_)
    cases h
    exact JS.ret ttOk () trivial rfl rfl [] rfl

def M_s_l02Wide : Option (List Int) :=
  some ([4352, 4447, 11904, 42191, 44032, 55203, 63744, 64255, 65280, 65376, 65504, 65510, 127744, 129791, 131072, 262141] : List Int)

theorem ok_s_l02Wide (r : List Int) (h : M_s_l02Wide = some r) :
    FC Try.prog 83 [] [] (fun _ : Option Addr × Nat => True) (fun q => .slice q.1 r.length q.2) (fun q => [⟨(.int .i64), ⟨q.1, r.length, q.2⟩, r⟩]) :=
  by
    refine FC.of (T := TTx) Try.call83 Try.func83 rfl rfl fun w0 => ?_
    unfold M_s_l02Wide at h
    refine JS.seq (JS.region (JO.reg ttOk 1 [] [] [] _ rfl ⟨trivial, rfl⟩ (JO.done rfl (JS.seq (JS.region ?_)))))
    refine JO.ofK rfl (JK.buildSlice ttOk rfl rfl rfl rfl rfl rfl rfl rfl rfl rfl rfl [] rfl (.int .i64) [4352, 4447, 11904, 42191, 44032, 55203, 63744, 64255, 65280, 65376, 65504, 65510, 127744, 129791, 131072, 262141] ⟨rfl, rfl⟩ rfl rfl fun a1 => JO.toK ?_)
    refine JO.reg ttOk 1 [] [] [(0, .v (.slice a1 ([4352, 4447, 11904, 42191, 44032, 55203, 63744, 64255, 65280, 65376, 65504, 65510, 127744, 129791, 131072, 262141] : List Int).length ([4352, 4447, 11904, 42191, 44032, 55203, 63744, 64255, 65280, 65376, 65504, 65510, 127744, 129791, 131072, 262141] : List Int).length))] _ rfl ⟨⟨rfl, trivial⟩, rfl⟩ (JO.done rfl ?_)
    cases h
    exact JS.ret ttOk (a1, ([4352, 4447, 11904, 42191, 44032, 55203, 63744, 64255, 65280, 65376, 65504, 65510, 127744, 129791, 131072, 262141] : List Int).length) trivial rfl rfl [0] rfl

def M_s_Width_L1 (x0 : Int) (y4 : List Int) (j34 : Unit → Option Int) (k26 : Int → Option Int) : Int → Option Int := fun x11 =>
  (bif (decide (x11 < (y4.length : Int))) then
  (guardO (0 ≤ x11 ∧ x11 < (y4.length : Int)) <|
  (guardO (((decide ((at' y4 x11) ≤ x0)) = true) → 0 ≤ (W (x11 + 1)) ∧ (W (x11 + 1)) < (y4.length : Int)) <|
  (bif (bif (decide ((at' y4 x11) ≤ x0)) then (decide (x0 ≤ (at' y4 (W (x11 + 1))))) else false) then
  some 2
  else
  k26 (W (x11 + 2)))))
  else
  j34 ())

def M_s_Width (x0 : Int) : Option Int :=
  (bindO (M_s_Printable x0) fun (y2 : Bool) =>
  (bif (!y2) then
  some 0
  else
  (bindO (M_s_l02Wide ) fun (y4 : List Int) =>
  (joinO (fun (_ : Unit) =>
  some 1) fun j34 =>
  (fixF (M_s_Width_L1 x0 y4 j34) FUEL 0)))))

theorem ok_s_Width (x0 : Int) (r : Int) (h : M_s_Width x0 = some r) :
    FC Try.prog 46 [.int .i64 x0] [] (fun _ : Unit => True) (fun _ => .int .i64 r) (fun _ => []) :=
  by
    refine FC.of (T := TTx) Try.call46 Try.func46 rfl rfl fun w0 => ?_
    unfold M_s_Width at h
    refine JS.seq (JS.region (JO.reg ttOk 1 [] [] [] _ rfl ⟨trivial, rfl⟩ (JO.done rfl (JS.seq (JS.seq (JS.region (JO.reg ttOk 1 [] [] [(5, .v (.int .i64 x0))] _ rfl ⟨⟨rfl, trivial⟩, rfl⟩ ?_)))))))
    obtain ⟨y2, hy3, h⟩ := bindO_some h
    refine JO.call rfl rfl rfl rfl (ok_s_Printable x0 _ hy3) rfl [] rfl rfl fun _ _ => JO.reg ttOk 1 [] [] [(7, .v (.bool (!y2)))] _ rfl ⟨⟨rfl, trivial⟩, rfl⟩ (JO.done rfl ?_)
    refine JS.cond rfl (fun ht50 => ?_) (fun ht50 => ?_)
    · have h := condT h ht50
      refine JS.seq (JS.region (JO.reg ttOk 1 [] [] [(2, .v (.int .i64 0))] _ rfl ⟨⟨rfl, trivial⟩, rfl⟩ (JO.done rfl ?_)))
      cases h
      exact JS.ret ttOk () trivial rfl rfl [] rfl
    have h := condF h ht50
    refine JS.skip (JS.seq (JS.region ?_))
    obtain ⟨y4, hy5, h⟩ := bindO_some h
    refine JO.call rfl rfl rfl rfl (ok_s_l02Wide  _ hy5) rfl [] rfl rfl ?_
    rintro ⟨a6, c7⟩ -
    refine JO.reg ttOk 1 [] [] [(3, .v (.slice a6 y4.length c7))] _ rfl ⟨⟨rfl, trivial⟩, rfl⟩ (JO.done rfl (JS.seq (JS.seq (JS.region (JO.reg ttOk 1 [] [] [(4, .v (.int .i64 0))] _ rfl ⟨⟨rfl, trivial⟩, rfl⟩ (JO.done rfl ?_))))))
    obtain ⟨j34, hj49, h⟩ := joinO_some h
    refine JS.blockJ (ι := Unit) ⟨fun _ => j34 () = some r, fun _ => [], fun _ => .nil, fun _ => [], fun _ => [], fun _ => 0⟩ ?_ ?_
    · refine JS.loop (ι := Nat × Int) ⟨fun z => fixF (M_s_Width_L1 x0 y4 j34) z.1 z.2 = some r, fun z => [(0, .v (.int .i64 x0)), (3, .v (.slice a6 y4.length c7)), (4, .v (.int .i64 z.2))], fun z => .nil, fun z => [], fun z => [⟨(.int .i64), ⟨a6, y4.length, c7⟩, y4⟩], fun z => z.1⟩ (FUEL, 0) h ⟨rfl, rfl, rfl, trivial⟩ trivial [] rfl [0] rfl ?_
      rintro ⟨n27, x11⟩ h
      obtain ⟨n27, rfl, h⟩ := fixF_some h
      rw [M_s_Width_L1] at h
      refine JS.seq (JS.seq (JS.region (JO.reg ttOk 4 [] [] [(12, .v (.bool (decide (x11 < (y4.length : Int)))))] _ rfl ⟨⟨rfl, trivial⟩, rfl⟩ (JO.done rfl ?_))))
      refine JS.cond rfl (fun ht48 => ?_) (fun ht48 => ?_)
      · have h := condT h ht48
        refine JS.skip (JS.seq (JS.block (JS.seq (JS.region (JO.know 0 rfl fun hs43 => ?_)))))
        obtain ⟨g13, h⟩ := guardO_some h
        refine JO.reg ttOk 4 [] [] [(15, .v (.int .i64 x0)), (18, .ep ⟨a6, y4.length, c7⟩ (Int.toNat x11 * 1))] _ rfl ⟨hs43.ix g13, ⟨rfl, rfl, trivial⟩, rfl⟩ (JO.load ttOk rfl rfl rfl rfl rfl rfl rfl 0 rfl rfl (Int.toNat x11) 0 (at' y4 x11) ⟨at_some g13, rfl⟩ rfl rfl ?_)
        obtain ⟨g15, h⟩ := guardO_some h
        refine JO.reg ttOk 7 [(W (x11 + 1))] [] [(21, .v (.bool (decide ((at' y4 x11) ≤ x0)))), (22, .cd [(21, true)] (.v (.int .i64 x0))), (26, .cd [(21, true)] (.ep ⟨a6, y4.length, c7⟩ (Int.toNat (W (x11 + 1)) * 1)))] _ rfl ⟨(fun q44 => ⟨trivial, rfl⟩), (fun q45 => hs43.ix (g15 q45)), ⟨rfl, rfl, rfl, trivial⟩, rfl⟩ (JO.load ttOk rfl rfl rfl rfl rfl rfl rfl 0 rfl rfl (Int.toNat (W (x11 + 1))) 0 (at' y4 (W (x11 + 1))) (fun q46 => ⟨at_some (g15 q46), rfl⟩) rfl rfl (JO.reg ttOk 2 [] [] [(29, .v (.bool (bif (decide ((at' y4 x11) ≤ x0)) then (decide (x0 ≤ (at' y4 (W (x11 + 1))))) else false)))] _ rfl ⟨⟨rfl, trivial⟩, rfl⟩ (JO.done rfl ?_)))
        refine JS.cond rfl (fun ht47 => ?_) (fun ht47 => ?_)
        · have h := condT h ht47
          refine JS.seq (JS.region (JO.reg ttOk 1 [] [] [(2, .v (.int .i64 2))] _ rfl ⟨⟨rfl, trivial⟩, rfl⟩ (JO.done rfl ?_)))
          cases h
          exact JS.ret ttOk () trivial rfl rfl [] rfl
        have h := condF h ht47
        refine JS.skip (JS.endB (JS.region (JO.reg ttOk 3 [(W (x11 + 2))] [] [(4, .v (.int .i64 (W (x11 + 2))))] _ rfl ⟨⟨trivial, rfl⟩, ⟨rfl, trivial⟩, rfl⟩ (JO.done rfl (JS.endL (n27, (W (x11 + 2))) h (Nat.lt_succ_self _) ⟨rfl, rfl, rfl, trivial⟩ trivial [] rfl [0] rfl)))))
      have h := condF h ht48
      refine JS.exit rfl (JS.endJ () h trivial trivial [] rfl [] rfl)
    rintro _ h
    subst hj49
    refine JS.seq (JS.region (JO.reg ttOk 1 [] [] [(2, .v (.int .i64 1))] _ rfl ⟨⟨rfl, trivial⟩, rfl⟩ (JO.done rfl ?_)))
    cases h
    exact JS.ret ttOk () trivial rfl rfl [] rfl

def M_s_GridOk_L1 (x0 : Int × Int × List Int × Int × Int × Bool) (j124 : Unit → Option Bool) (k103 : Int → Option Bool) : Int → Option Bool := fun x8 =>
  (bif (decide (x8 < (x0.2.2.1.length : Int))) then
  (joinO (fun (_ : Unit) =>
  k103 (W (x8 + 1))) fun j45 =>
  (guardO (0 ≤ x8 ∧ x8 < (x0.2.2.1.length : Int)) <|
  (guardO (x0.1 ≠ 0) <|
  (bif (decide ((at' x0.2.2.1 x8) = (-1))) then
  (guardO (x0.1 ≠ 0) <|
  (guardO (((decide ((Int.tmod x8 x0.1) = 0)) = false) → 0 ≤ (W (x8 - 1)) ∧ (W (x8 - 1)) < (x0.2.2.1.length : Int)) <|
  (callO ((decide ((Int.tmod x8 x0.1) = 0)) = false) (M_s_Width (at' x0.2.2.1 (W (x8 - 1)))) (0 : Int) fun (y26 : Int) =>
  (bif (bif (decide ((Int.tmod x8 x0.1) = 0)) then true else (!(decide (y26 = 2)))) then
  some false
  else
  j45 ()))))
  else
  (bindO (M_s_Width (at' x0.2.2.1 x8)) fun (y30 : Int) =>
  (guardO (((decide ((Int.tmod x8 x0.1) = (W (x0.1 - 1)))) = false) → ((decide (y30 = 2)) = true) → ((decide (y30 = 0)) = false) → 0 ≤ (W (x8 + 1)) ∧ (W (x8 + 1)) < (x0.2.2.1.length : Int)) <|
  (bif (bif (decide (y30 = 0)) then true else (bif (decide (y30 = 2)) then (bif (decide ((Int.tmod x8 x0.1) = (W (x0.1 - 1)))) then true else (!(decide ((at' x0.2.2.1 (W (x8 + 1))) = (-1))))) else false)) then
  some false
  else
  j45 ())))))))
  else
  j124 ())

def M_s_GridOk (x0 : Int × Int × List Int × Int × Int × Bool) : Option Bool :=
  (bif (bif (bif (bif (bif (bif (decide (x0.1 < 2)) then true else (decide (200 < x0.1))) then true else (decide (x0.2.1 < 1))) then true else (decide (200 < x0.2.1))) then true else (decide (8000 < (W (x0.1 * x0.2.1))))) then true else (!(decide ((x0.2.2.1.length : Int) = (W (x0.1 * x0.2.1)))))) then
  some false
  else
  (joinO (fun (_ : Unit) =>
  some (bif (bif (bif (bif (decide (0 ≤ x0.2.2.2.1)) then (decide (x0.2.2.2.1 < x0.1)) else false) then (decide (0 ≤ x0.2.2.2.2.1)) else false) then (decide (x0.2.2.2.2.1 < x0.2.1)) else false) then (bif (!x0.2.2.2.2.2) then true else (decide (x0.2.2.2.1 = (W (x0.1 - 1))))) else false)) fun j124 =>
  (fixF (M_s_GridOk_L1 x0 j124) FUEL 0)))

theorem ok_s_GridOk (x0 : Int × Int × List Int × Int × Int × Bool) (a2 : Option Addr) (c3 : Nat) (l4 : Nat) (hl5 : x0.2.2.1.length = l4) (r : Bool) (h : M_s_GridOk x0 = some r) :
    FC Try.prog 45 [.agg #[.int .i64 x0.1, .int .i64 x0.2.1, .slice a2 l4 c3, .int .i64 x0.2.2.2.1, .int .i64 x0.2.2.2.2.1, .bool x0.2.2.2.2.2]] [⟨(.int .i64), ⟨a2, l4, c3⟩, x0.2.2.1⟩] (fun _ : Unit => True) (fun _ => .bool r) (fun _ => []) :=
  by
    subst hl5
    refine FC.of (T := TTx) Try.call45 Try.func45 rfl rfl fun w0 => ?_
    unfold M_s_GridOk at h
    refine JS.seq (JS.region (JO.regB ttOk 2 [] [2] [(1, .bp 2 0)] (.new 2 26 (cl26 x0 a2 c3) .nil) rfl ⟨⟨rfl, trivial⟩, ⟨rfl, rfl, rfl, rfl, trivial⟩⟩ (JO.done rfl (JS.seq (JS.seq (JS.region (JO.reg ttOk 37 [(W (x0.1 * x0.2.1)), (W (x0.1 * x0.2.1))] [] [(43, .v (.bool (bif (bif (bif (bif (bif (decide (x0.1 < 2)) then true else (decide (200 < x0.1))) then true else (decide (x0.2.1 < 1))) then true else (decide (200 < x0.2.1))) then true else (decide (8000 < (W (x0.1 * x0.2.1))))) then true else (!(decide ((x0.2.2.1.length : Int) = (W (x0.1 * x0.2.1))))))))] _ rfl ⟨(fun q148 => ⟨trivial, rfl⟩), (fun q149 => ⟨trivial, rfl⟩), ⟨rfl, trivial⟩, rfl⟩ (JO.done rfl ?_))))))))
    refine JS.cond rfl (fun ht172 => ?_) (fun ht172 => ?_)
    · have h := condT h ht172
      refine JS.seq (JS.region (JO.reg ttOk 1 [] [] [(2, .v (.bool false))] _ rfl ⟨⟨rfl, trivial⟩, rfl⟩ (JO.done rfl ?_)))
      cases h
      exact JS.ret ttOk () trivial rfl rfl [] rfl
    have h := condF h ht172
    refine JS.skip (JS.seq (JS.seq (JS.region (JO.reg ttOk 4 [] [] [(45, .v (.slice a2 x0.2.2.1.length c3)), (46, .v (.int .i64 (x0.2.2.1.length : Int))), (47, .v (.int .i64 0))] _ rfl ⟨⟨rfl, rfl, rfl, trivial⟩, rfl⟩ (JO.done rfl ?_)))))
    obtain ⟨j124, hj171, h⟩ := joinO_some h
    refine JS.blockJ (ι := Unit) ⟨fun _ => j124 () = some r, fun _ => [(1, .bp 2 0)], fun _ => (.new 2 26 (cl26 x0 a2 c3) .nil), fun _ => [⟨(.int .i64), ⟨a2, x0.2.2.1.length, c3⟩, x0.2.2.1⟩], fun _ => [], fun _ => 0⟩ ?_ ?_
    · refine JS.loop (ι := Nat × Int) ⟨fun z => fixF (M_s_GridOk_L1 x0 j124) z.1 z.2 = some r, fun z => [(1, .bp 2 0), (45, .v (.slice a2 x0.2.2.1.length c3)), (46, .v (.int .i64 (x0.2.2.1.length : Int))), (47, .v (.int .i64 z.2))], fun z => (.new 2 26 (cl26 x0 a2 c3) .nil), fun z => [⟨(.int .i64), ⟨a2, x0.2.2.1.length, c3⟩, x0.2.2.1⟩], fun z => [], fun z => z.1⟩ (FUEL, 0) h ⟨rfl, rfl, rfl, rfl, trivial⟩ ⟨rfl, rfl, rfl, rfl, trivial⟩ [0] rfl [] rfl ?_
      rintro ⟨n104, x8⟩ h
      obtain ⟨n104, rfl, h⟩ := fixF_some h
      rw [M_s_GridOk_L1] at h
      refine JS.seq (JS.region (JO.reg ttOk 1 [] [] [(48, .v (.bool (decide (x8 < (x0.2.2.1.length : Int)))))] _ rfl ⟨⟨rfl, trivial⟩, rfl⟩ (JO.done rfl (JS.seq ?_))))
      refine JS.cond rfl (fun ht168 => ?_) (fun ht168 => ?_)
      · have h := condT h ht168
        refine JS.skip (JS.seq ?_)
        obtain ⟨j45, hj167, h⟩ := joinO_some h
        refine JS.blockJ (ι := Unit) ⟨fun _ => j45 () = some r, fun _ => [(1, .bp 2 0), (45, .v (.slice a2 x0.2.2.1.length c3)), (46, .v (.int .i64 (x0.2.2.1.length : Int))), (47, .v (.int .i64 x8))], fun _ => (.new 2 26 (cl26 x0 a2 c3) .nil), fun _ => [⟨(.int .i64), ⟨a2, x0.2.2.1.length, c3⟩, x0.2.2.1⟩], fun _ => [], fun _ => 0⟩ ?_ ?_
        · refine JS.seq (JS.region (JO.know 0 rfl fun hs150 => ?_))
          obtain ⟨g18, h⟩ := guardO_some h
          refine JO.reg ttOk 2 [] [] [(49, .v (.int .i64 x8)), (50, .ep ⟨a2, x0.2.2.1.length, c3⟩ (Int.toNat x8 * 1))] _ rfl ⟨hs150.ix g18, ⟨rfl, rfl, trivial⟩, rfl⟩ (JO.load ttOk rfl rfl rfl rfl rfl rfl rfl 0 rfl rfl (Int.toNat x8) 0 (at' x0.2.2.1 x8) ⟨at_some g18, rfl⟩ rfl rfl (JO.reg ttOk 2 [] [] [(3, .v (.int .i64 x8)), (4, .v (.int .i64 (at' x0.2.2.1 x8)))] _ rfl ⟨⟨rfl, rfl, trivial⟩, rfl⟩ (JO.done rfl (JS.seq ?_))))
          obtain ⟨g19, h⟩ := guardO_some h
          refine JS.regionQ rfl (by kernel_rfl) (JQ.reg ttOk 9 [(W (x0.1 - 1))] [(5, .v (.bool (decide ((Int.tmod x8 x0.1) = (W (x0.1 - 1))))))] rfl ⟨g19, ⟨trivial, rfl⟩, ⟨rfl, trivial⟩⟩ (JQ.done rfl (JS.seq (JS.seq (JS.region (JO.reg ttOk 2 [] [] [(61, .v (.bool (decide ((at' x0.2.2.1 x8) = (-1)))))] _ rfl ⟨⟨rfl, trivial⟩, rfl⟩ (JO.done rfl ?_)))))))
          refine JS.cond rfl (fun ht166 => ?_) (fun ht166 => ?_)
          · have h := condT h ht166
            refine JS.seq (JS.seq (JS.region ?_))
            obtain ⟨g20, h⟩ := guardO_some h
            obtain ⟨g23, h⟩ := guardO_some h
            refine JO.reg ttOk 11 [(W (x8 - 1))] [] [(67, .v (.bool (decide ((Int.tmod x8 x0.1) = 0)))), (72, .cd [(67, false)] (.ep ⟨a2, x0.2.2.1.length, c3⟩ (Int.toNat (W (x8 - 1)) * 1)))] _ rfl ⟨g20, (fun q151 => ⟨trivial, rfl⟩), (fun q152 => hs150.ix (g23 q152)), ⟨rfl, rfl, trivial⟩, rfl⟩ (JO.load ttOk rfl rfl rfl rfl rfl rfl rfl 0 rfl rfl (Int.toNat (W (x8 - 1))) 0 (at' x0.2.2.1 (W (x8 - 1))) (fun q153 => ⟨at_some (g23 q153), rfl⟩) rfl rfl ?_)
            obtain ⟨y26, hy27, -, h⟩ := callO_some h
            refine JO.callg rfl rfl rfl rfl (fun q154 => ok_s_Width (at' x0.2.2.1 (W (x8 - 1))) _ (hy27 q154)) rfl [] rfl rfl (JO.reg ttOk 2 [] [] [(76, .v (.bool (bif (decide ((Int.tmod x8 x0.1) = 0)) then true else (!(decide (y26 = 2))))))] _ rfl ⟨⟨rfl, trivial⟩, rfl⟩ (JO.done rfl ?_))
            refine JS.cond rfl (fun ht155 => ?_) (fun ht155 => ?_)
            · have h := condT h ht155
              refine JS.seq (JS.region (JO.reg ttOk 1 [] [] [(2, .v (.bool false))] _ rfl ⟨⟨rfl, trivial⟩, rfl⟩ (JO.done rfl ?_)))
              cases h
              exact JS.ret ttOk () trivial rfl rfl [] rfl
            have h := condF h ht155
            refine JS.skip (JS.exit rfl (JS.endJ () h ⟨rfl, rfl, rfl, rfl, trivial⟩ ⟨rfl, rfl, rfl, rfl, trivial⟩ [0] rfl [] rfl))
          have h := condF h ht166
          refine JS.skip (JS.seq (JS.region (JO.reg ttOk 1 [] [] [(77, .v (.int .i64 (at' x0.2.2.1 x8)))] _ rfl ⟨⟨rfl, trivial⟩, rfl⟩ ?_)))
          obtain ⟨y30, hy31, h⟩ := bindO_some h
          refine JO.call rfl rfl rfl rfl (ok_s_Width (at' x0.2.2.1 x8) _ hy31) rfl [] rfl rfl fun _ _ => JO.reg ttOk 1 [] [] [(6, .v (.int .i64 y30))] _ rfl ⟨⟨rfl, trivial⟩, rfl⟩ (JO.done rfl (JS.seq (JS.region ?_)))
          obtain ⟨g36, h⟩ := guardO_some h
          refine JO.reg ttOk 13 [(W (x8 + 1))] [] [(81, .v (.bool (decide (y30 = 0)))), (84, .cd [(81, false)] (.v (.bool (decide (y30 = 2))))), (86, .cd [(84, true), (81, false)] (.v (.bool (decide ((Int.tmod x8 x0.1) = (W (x0.1 - 1))))))), (91, .cd [(86, false), (84, true), (81, false)] (.ep ⟨a2, x0.2.2.1.length, c3⟩ (Int.toNat (W (x8 + 1)) * 1)))] _ rfl ⟨(fun q156 q157 q158 => ⟨trivial, rfl⟩), (fun q159 q160 q161 => hs150.ix (g36 q159 q160 q161)), ⟨rfl, rfl, rfl, rfl, trivial⟩, rfl⟩ (JO.load ttOk rfl rfl rfl rfl rfl rfl rfl 0 rfl rfl (Int.toNat (W (x8 + 1))) 0 (at' x0.2.2.1 (W (x8 + 1))) (fun q162 q163 q164 => ⟨at_some (g36 q162 q163 q164), rfl⟩) rfl rfl (JO.reg ttOk 4 [] [] [(96, .v (.bool (bif (decide (y30 = 0)) then true else (bif (decide (y30 = 2)) then (bif (decide ((Int.tmod x8 x0.1) = (W (x0.1 - 1)))) then true else (!(decide ((at' x0.2.2.1 (W (x8 + 1))) = (-1))))) else false))))] _ rfl ⟨⟨rfl, trivial⟩, rfl⟩ (JO.done rfl ?_)))
          refine JS.cond rfl (fun ht165 => ?_) (fun ht165 => ?_)
          · have h := condT h ht165
            refine JS.seq (JS.region (JO.reg ttOk 1 [] [] [(2, .v (.bool false))] _ rfl ⟨⟨rfl, trivial⟩, rfl⟩ (JO.done rfl ?_)))
            cases h
            exact JS.ret ttOk () trivial rfl rfl [] rfl
          have h := condF h ht165
          refine JS.skip (JS.endB (JS.endJ () h ⟨rfl, rfl, rfl, rfl, trivial⟩ ⟨rfl, rfl, rfl, rfl, trivial⟩ [0] rfl [] rfl))
        rintro _ h
        subst hj167
        refine JS.region (JO.reg ttOk 2 [(W (x8 + 1))] [] [(47, .v (.int .i64 (W (x8 + 1))))] _ rfl ⟨⟨trivial, rfl⟩, ⟨rfl, trivial⟩, rfl⟩ (JO.done rfl (JS.endL (n104, (W (x8 + 1))) h (Nat.lt_succ_self _) ⟨rfl, rfl, rfl, rfl, trivial⟩ ⟨rfl, rfl, rfl, rfl, trivial⟩ [0] rfl [] rfl)))
      have h := condF h ht168
      refine JS.exit rfl (JS.endJ () h ⟨rfl, trivial⟩ ⟨rfl, rfl, rfl, rfl, trivial⟩ [0] rfl [] rfl)
    rintro _ h
    subst hj171
    refine JS.seq (JS.region (JO.reg ttOk 36 [(W (x0.1 - 1))] [] [(2, .v (.bool (bif (bif (bif (bif (decide (0 ≤ x0.2.2.2.1)) then (decide (x0.2.2.2.1 < x0.1)) else false) then (decide (0 ≤ x0.2.2.2.2.1)) else false) then (decide (x0.2.2.2.2.1 < x0.2.1)) else false) then (bif (!x0.2.2.2.2.2) then true else (decide (x0.2.2.2.1 = (W (x0.1 - 1))))) else false)))] _ rfl ⟨(fun q169 q170 => ⟨trivial, rfl⟩), ⟨rfl, trivial⟩, rfl⟩ (JO.done rfl ?_)))
    cases h
    exact JS.ret ttOk () trivial rfl rfl [] rfl

def M_s_l08Copy (x0 : Int × Int × List Int × Int × Int × Bool) : Option (Int × Int × List Int × Int × Int × Bool) :=
  (guardO (([] : List Int).length + x0.2.2.1.length ≤ 536870912) <|
  some (x0.1, x0.2.1, (([] : List Int) ++ x0.2.2.1), x0.2.2.2.1, x0.2.2.2.2.1, x0.2.2.2.2.2))

theorem ok_s_l08Copy (x0 : Int × Int × List Int × Int × Int × Bool) (a2 : Option Addr) (c3 : Nat) (l4 : Nat) (hl5 : x0.2.2.1.length = l4) (r : Int × Int × List Int × Int × Int × Bool) (h : M_s_l08Copy x0 = some r) :
    FC Try.prog 47 [.agg #[.int .i64 x0.1, .int .i64 x0.2.1, .slice a2 l4 c3, .int .i64 x0.2.2.2.1, .int .i64 x0.2.2.2.2.1, .bool x0.2.2.2.2.2]] [⟨(.int .i64), ⟨a2, l4, c3⟩, x0.2.2.1⟩] (fun _ : Option Addr × Nat => True) (fun q => .agg (cl26 r q.1 q.2).toArray) (fun q => [⟨(.int .i64), ⟨q.1, r.2.2.1.length, q.2⟩, r.2.2.1⟩]) :=
  by
    subst hl5
    refine FC.of (T := TTx) Try.call47 Try.func47 rfl rfl fun w0 => ?_
    unfold M_s_l08Copy at h
    refine JS.seq (JS.region (JO.regB ttOk 2 [] [2, 3] [(1, .bp 2 0), (2, .bp 3 0)] (.new 2 26 (cl26 x0 a2 c3) (.new 3 26 (cl26 (0, 0, [], 0, 0, false) none 0) .nil)) rfl ⟨⟨rfl, rfl, trivial⟩, ⟨rfl, rfl, rfl, rfl, rfl, rfl, rfl, rfl, trivial⟩⟩ (JO.done rfl (JS.seq (JS.region ?_)))))
    refine JO.ofK rfl (JK.buildSlice ttOk rfl rfl rfl rfl rfl rfl rfl rfl rfl rfl rfl [] rfl (.int .i64) [] ⟨rfl, rfl⟩ rfl rfl fun a6 => JO.toK ?_)
    refine JO.reg ttOk 2 [] [] [(5, .v (.slice a2 x0.2.2.1.length c3))] _ rfl ⟨⟨rfl, trivial⟩, rfl⟩ ?_
    obtain ⟨g7, h⟩ := guardO_some h
    refine JO.appendR' ttOk rfl rfl rfl rfl ⟨rfl, rfl, rfl, rfl, trivial, rfl, rfl, rfl, rfl⟩ rfl rfl rfl [0] rfl 0 rfl g7 rfl fun a8 c9 => JO.regB ttOk 2 [] [] [] (.new 2 26 (cl26 (x0.1, x0.2.1, (([] : List Int) ++ x0.2.2.1), x0.2.2.2.1, x0.2.2.2.2.1, x0.2.2.2.2.2) a8 c9) (.new 3 26 (cl26 (0, 0, [], 0, 0, false) none 0) .nil)) rfl ⟨trivial, ⟨rfl, rfl, rfl, rfl, rfl, rfl, rfl, rfl, trivial⟩⟩ (JO.done rfl (JS.seq (JS.region (JO.regB ttOk 2 [] [] [] (.new 3 26 (cl26 (x0.1, x0.2.1, (([] : List Int) ++ x0.2.2.1), x0.2.2.2.1, x0.2.2.2.2.1, x0.2.2.2.2.2) a8 c9) .nil) rfl ⟨trivial, ⟨rfl, rfl, rfl, rfl, trivial⟩⟩ (JO.done rfl ?_)))))
    cases h
    exact JS.ret ttOk (a8, c9) trivial rfl rfl [0] rfl

def M_s_GridScroll_L1 (x0 : Int × Int × List Int × Int × Int × Bool) (y8 : Int × Int × List Int × Int × Int × Bool) (j76 : (List Int) → Option (Int × Int × List Int × Int × Int × Bool)) (k65 : (Int × List Int) → Option (Int × Int × List Int × Int × Int × Bool)) : (Int × List Int) → Option (Int × Int × List Int × Int × Int × Bool) := fun (x12, x31) =>
  (bif (decide (x12 < (y8.2.2.1.length : Int))) then
  (joinO (fun (x45 : List Int) =>
  k65 ((W (x12 + 1)), x45)) fun j48 =>
  (guardO (0 ≤ x12 ∧ x12 < (x31.length : Int)) <|
  (bif (decide ((W (x12 + x0.1)) < (x0.2.2.1.length : Int))) then
  (guardO (0 ≤ (W (x12 + x0.1)) ∧ (W (x12 + x0.1)) < (x0.2.2.1.length : Int)) <|
  (guardO (0 ≤ x12 ∧ x12 < (x31.length : Int)) <|
  j48 (List.set (List.set x31 (Int.toNat x12) 32) (Int.toNat x12) (at' x0.2.2.1 (W (x12 + x0.1))))))
  else
  j48 (List.set x31 (Int.toNat x12) 32))))
  else
  j76 x31)

def M_s_GridScroll (x0 : Int × Int × List Int × Int × Int × Bool) : Option (Int × Int × List Int × Int × Int × Bool) :=
  (bindO (M_s_GridOk x0) fun (y6 : Bool) =>
  (bif (!y6) then
  some (0, 0, [], 0, 0, false)
  else
  (bindO (M_s_l08Copy x0) fun (y8 : Int × Int × List Int × Int × Int × Bool) =>
  (joinO (fun (x73 : List Int) =>
  some (y8.1, y8.2.1, x73, y8.2.2.2.1, y8.2.2.2.2.1, y8.2.2.2.2.2)) fun j76 =>
  (fixF (M_s_GridScroll_L1 x0 y8 j76) FUEL (0, y8.2.2.1))))))

theorem ok_s_GridScroll (x0 : Int × Int × List Int × Int × Int × Bool) (a2 : Option Addr) (c3 : Nat) (l4 : Nat) (hl5 : x0.2.2.1.length = l4) (r : Int × Int × List Int × Int × Int × Bool) (h : M_s_GridScroll x0 = some r) :
    FC Try.prog 48 [.agg #[.int .i64 x0.1, .int .i64 x0.2.1, .slice a2 l4 c3, .int .i64 x0.2.2.2.1, .int .i64 x0.2.2.2.2.1, .bool x0.2.2.2.2.2]] [⟨(.int .i64), ⟨a2, l4, c3⟩, x0.2.2.1⟩] (fun _ : Option Addr × Nat => True) (fun q => .agg (cl26 r q.1 q.2).toArray) (fun q => [⟨(.int .i64), ⟨q.1, r.2.2.1.length, q.2⟩, r.2.2.1⟩]) :=
  by
    subst hl5
    refine FC.of (T := TTx) Try.call48 Try.func48 rfl rfl fun w0 => ?_
    unfold M_s_GridScroll at h
    refine JS.seq (JS.region (JO.regB ttOk 2 [] [2, 3] [(1, .bp 2 0), (2, .bp 3 0)] (.new 2 26 (cl26 x0 a2 c3) (.new 3 26 (cl26 (0, 0, [], 0, 0, false) none 0) .nil)) rfl ⟨⟨rfl, rfl, trivial⟩, ⟨rfl, rfl, rfl, rfl, rfl, rfl, rfl, rfl, trivial⟩⟩ (JO.done rfl (JS.seq (JS.seq (JS.region (JO.reg ttOk 1 [] [] [(5, .v (.agg (cl26 x0 a2 c3).toArray))] _ rfl ⟨⟨rfl, trivial⟩, rfl⟩ ?_)))))))
    obtain ⟨y6, hy7, h⟩ := bindO_some h
    refine JO.call rfl rfl rfl rfl (ok_s_GridOk x0 a2 c3 x0.2.2.1.length rfl _ hy7) rfl [0] rfl rfl fun _ _ => JO.reg ttOk 1 [] [] [(7, .v (.bool (!y6)))] _ rfl ⟨⟨rfl, trivial⟩, rfl⟩ (JO.done rfl ?_)
    refine JS.cond rfl (fun ht92 => ?_) (fun ht92 => ?_)
    · have h := condT h ht92
      refine JS.seq (JS.region (JO.regB ttOk 2 [] [] [] (.new 3 26 (cl26 (0, 0, [], 0, 0, false) none 0) .nil) rfl ⟨trivial, ⟨rfl, rfl, rfl, rfl, trivial⟩⟩ (JO.done rfl ?_)))
      cases h
      refine JS.nilO (.int .i64) Sl.nil rfl rfl (JS.ret ttOk (none, 0) trivial rfl rfl [0] rfl)
    have h := condF h ht92
    refine JS.skip (JS.seq (JS.region (JO.reg ttOk 1 [] [] [(9, .v (.agg (cl26 x0 a2 c3).toArray))] _ rfl ⟨⟨rfl, trivial⟩, rfl⟩ ?_)))
    obtain ⟨y8, hy9, h⟩ := bindO_some h
    refine JO.call rfl rfl rfl rfl (ok_s_l08Copy x0 a2 c3 x0.2.2.1.length rfl _ hy9) rfl [0] rfl rfl ?_
    rintro ⟨a10, c11⟩ -
    refine JO.regB ttOk 2 [] [11] [(3, .bp 11 0)] (.new 2 26 (cl26 x0 a2 c3) (.new 3 26 (cl26 (0, 0, [], 0, 0, false) none 0) (.new 11 26 (cl26 y8 a10 c11) .nil))) rfl ⟨⟨rfl, trivial⟩, ⟨rfl, rfl, rfl, rfl, rfl, rfl, rfl, rfl, rfl, rfl, rfl, rfl, trivial⟩⟩ (JO.done rfl (JS.seq (JS.seq (JS.region (JO.reg ttOk 4 [] [] [(13, .v (.int .i64 (y8.2.2.1.length : Int))), (14, .v (.int .i64 0))] _ rfl ⟨⟨rfl, rfl, trivial⟩, rfl⟩ (JO.done rfl ?_))))))
    obtain ⟨j76, hj91, h⟩ := joinO_some h
    refine JS.blockJ (ι := List Int × Option Addr × Nat) ⟨fun z => j76 z.1 = some r, fun z => [(2, .bp 3 0), (3, .bp 11 0)], fun z => (.new 3 26 (cl26 (0, 0, [], 0, 0, false) none 0) (.new 11 26 (cl26 (y8.1, y8.2.1, z.1, y8.2.2.2.1, y8.2.2.2.2.1, y8.2.2.2.2.2) z.2.1 z.2.2) .nil)), fun z => [], fun z => [⟨(.int .i64), ⟨z.2.1, z.1.length, z.2.2⟩, z.1⟩], fun z => 0⟩ ?_ ?_
    · refine JS.loop (ι := Nat × Int × List Int × Option Addr × Nat) ⟨fun z => fixF (M_s_GridScroll_L1 x0 y8 j76) z.1 (z.2.1, z.2.2.1) = some r, fun z => [(1, .bp 2 0), (2, .bp 3 0), (3, .bp 11 0), (13, .v (.int .i64 (y8.2.2.1.length : Int))), (14, .v (.int .i64 z.2.1))], fun z => (.new 2 26 (cl26 x0 a2 c3) (.new 3 26 (cl26 (0, 0, [], 0, 0, false) none 0) (.new 11 26 (cl26 (y8.1, y8.2.1, z.2.2.1, y8.2.2.2.1, y8.2.2.2.2.1, y8.2.2.2.2.2) z.2.2.2.1 z.2.2.2.2) .nil))), fun z => [⟨(.int .i64), ⟨a2, x0.2.2.1.length, c3⟩, x0.2.2.1⟩], fun z => [⟨(.int .i64), ⟨z.2.2.2.1, z.2.2.1.length, z.2.2.2.2⟩, z.2.2.1⟩], fun z => z.1⟩ (FUEL, 0, y8.2.2.1, a10, c11) h ⟨rfl, rfl, rfl, rfl, rfl, trivial⟩ ⟨rfl, rfl, rfl, rfl, rfl, rfl, rfl, rfl, rfl, rfl, rfl, rfl, trivial⟩ [0] rfl [0] rfl ?_
      rintro ⟨n66, x12, x31, a32, c33⟩ h
      obtain ⟨n66, rfl, h⟩ := fixF_some h
      rw [M_s_GridScroll_L1] at h
      refine JS.seq (JS.region (JO.reg ttOk 1 [] [] [(15, .v (.bool (decide (x12 < (y8.2.2.1.length : Int)))))] _ rfl ⟨⟨rfl, trivial⟩, rfl⟩ (JO.done rfl (JS.seq ?_))))
      refine JS.cond rfl (fun ht90 => ?_) (fun ht90 => ?_)
      · have h := condT h ht90
        refine JS.skip (JS.seq ?_)
        obtain ⟨j48, hj89, h⟩ := joinO_some h
        refine JS.blockJ (ι := List Int × Option Addr × Nat) ⟨fun z => j48 z.1 = some r, fun z => [(1, .bp 2 0), (2, .bp 3 0), (3, .bp 11 0), (13, .v (.int .i64 (y8.2.2.1.length : Int))), (14, .v (.int .i64 x12))], fun z => (.new 2 26 (cl26 x0 a2 c3) (.new 3 26 (cl26 (0, 0, [], 0, 0, false) none 0) (.new 11 26 (cl26 (y8.1, y8.2.1, z.1, y8.2.2.2.1, y8.2.2.2.2.1, y8.2.2.2.2.2) z.2.1 z.2.2) .nil))), fun z => [⟨(.int .i64), ⟨a2, x0.2.2.1.length, c3⟩, x0.2.2.1⟩], fun z => [⟨(.int .i64), ⟨z.2.1, z.1.length, z.2.2⟩, z.1⟩], fun z => 0⟩ ?_ ?_
        · refine JS.seq (JS.region (JO.reg ttOk 2 [] [] [(4, .v (.int .i64 x12))] _ rfl ⟨⟨rfl, trivial⟩, rfl⟩ (JO.done rfl (JS.seq (JS.region (JO.know 1 rfl fun hs85 => ?_))))))
          obtain ⟨g38, h⟩ := guardO_some h
          refine JO.reg ttOk 4 [] [] [(20, .ep ⟨a32, x31.length, c33⟩ (Int.toNat x12 * 1))] _ rfl ⟨hs85.ix g38, ⟨rfl, trivial⟩, rfl⟩ (JO.storeE ttOk rfl rfl rfl rfl rfl rfl rfl rfl rfl [0] (fs := []) rfl (Int.toNat x12) 0 (at' x31 x12) 32 ⟨at_some g38, rfl⟩ ⟨rfl, rfl, rfl⟩ (JO.done rfl (JS.seq (JS.region (JO.reg ttOk 8 [(W (x12 + x0.1))] [] [(28, .v (.bool (decide ((W (x12 + x0.1)) < (x0.2.2.1.length : Int)))))] _ rfl ⟨⟨trivial, rfl⟩, ⟨rfl, trivial⟩, rfl⟩ (JO.done rfl ?_))))))
          refine JS.cond rfl (fun ht88 => ?_) (fun ht88 => ?_)
          · have h := condT h ht88
            obtain ⟨g40, h⟩ := guardO_some h
            obtain ⟨g41, h⟩ := guardO_some h
            refine JS.know 0 rfl fun hs87 => ?_
            refine JS.regionA rfl (.new 2 26 (cl26 x0 a2 c3) (.new 11 26 (cl26 (y8.1, y8.2.1, x31, y8.2.2.2.1, y8.2.2.2.2.1, y8.2.2.2.2.2) a32 c33) .nil)) [0] [11, 12] ⟨rfl, rfl, rfl, rfl, rfl, rfl, rfl, rfl, trivial⟩ rfl (fun be43 => ?_)
            refine JA.reg ttOk panic_cx true 3 [0, 1, 2, 3, 4, 5, 6, 7, 8, 9] rfl (by kernel_rfl) [(W (x12 + x0.1))] [(30, .v (.slice a32 x31.length c33)), (31, .v (.int .i64 x12)), (38, .ep ⟨a2, x0.2.2.1.length, c3⟩ (Int.toNat (W (x12 + x0.1)) * 1))] ⟨rfl, rfl, rfl, rfl, rfl, rfl, rfl, rfl, trivial⟩ [0] rfl rfl ⟨⟨trivial, rfl⟩, hs87.ix g40, ⟨rfl, rfl, rfl, trivial⟩⟩ (JA.load ttOk panic_cx 10 rfl (by kernel_rfl) rfl rfl rfl rfl rfl rfl 0 rfl rfl (Int.toNat (W (x12 + x0.1))) 0 (at' x0.2.2.1 (W (x12 + x0.1))) ⟨at_some g40, rfl⟩ rfl rfl ⟨rfl, rfl, rfl, rfl, rfl, rfl, rfl, rfl, trivial⟩ [0] rfl (JA.regL ttOk panic_cx 1 [11] rfl (by kernel_rfl) [] [(40, .ep ⟨a32, x31.length, c33⟩ (Int.toNat x12 * 1))] rfl ⟨hs85.ix g41, ⟨rfl, trivial⟩⟩ (JA.one 12 (by kernel_rfl) (JK.storeE ttOk rfl rfl rfl rfl rfl rfl rfl rfl rfl [0] (fs := []) rfl (Int.toNat x12) 0 (at' (List.set x31 (Int.toNat x12) 32) x12) (at' x0.2.2.1 (W (x12 + x0.1))) ⟨at_someL (List.length_set.trans rfl) g41, rfl⟩ ⟨rfl, rfl, rfl⟩ (JA.nextL rfl (JA.done (by kernel_rfl) (JS.boxes (B' := (.new 2 26 (cl26 x0 a2 c3) (.new 3 26 (cl26 (0, 0, [], 0, 0, false) none 0) (.new 11 26 (cl26 (y8.1, y8.2.1, x31, y8.2.2.2.1, y8.2.2.2.2.1, y8.2.2.2.2.2) a32 c33) .nil)))) ⟨rfl, rfl, rfl, rfl, rfl, rfl, rfl, rfl, rfl, rfl, rfl, rfl, trivial⟩ (JS.endB (JS.endJ ((List.set (List.set x31 (Int.toNat x12) 32) (Int.toNat x12) (at' x0.2.2.1 (W (x12 + x0.1)))), a32, c33) h ⟨rfl, rfl, rfl, rfl, rfl, trivial⟩ ⟨rfl, rfl, rfl, rfl, rfl, rfl, rfl, rfl, rfl, (congrArg (fun n => ([.int .i64 y8.1, .int .i64 y8.2.1, .slice a32 n c33, .int .i64 y8.2.2.2.1, .int .i64 y8.2.2.2.2.1, .bool y8.2.2.2.2.2] : List Value)) (List.length_set.trans (List.length_set.trans rfl))), rfl, rfl, trivial⟩ [0] rfl [0] (by simp only [List.length_set, List.length_replicate, pickO, getF, cl26, cl45]; rfl))))))))))
          have h := condF h ht88
          refine JS.skip (JS.endB (JS.endJ ((List.set x31 (Int.toNat x12) 32), a32, c33) h ⟨rfl, rfl, rfl, rfl, rfl, trivial⟩ ⟨rfl, rfl, rfl, rfl, rfl, rfl, rfl, rfl, rfl, (congrArg (fun n => ([.int .i64 y8.1, .int .i64 y8.2.1, .slice a32 n c33, .int .i64 y8.2.2.2.1, .int .i64 y8.2.2.2.2.1, .bool y8.2.2.2.2.2] : List Value)) (List.length_set.trans rfl)), rfl, rfl, trivial⟩ [0] rfl [0] (by simp only [List.length_set, List.length_replicate, pickO, getF, cl26, cl45]; rfl)))
        rintro ⟨x45, a46, c47⟩ h
        subst hj89
        refine JS.region (JO.reg ttOk 2 [(W (x12 + 1))] [] [(14, .v (.int .i64 (W (x12 + 1))))] _ rfl ⟨⟨trivial, rfl⟩, ⟨rfl, trivial⟩, rfl⟩ (JO.done rfl (JS.endL (n66, (W (x12 + 1)), x45, a46, c47) h (Nat.lt_succ_self _) ⟨rfl, rfl, rfl, rfl, rfl, trivial⟩ ⟨rfl, rfl, rfl, rfl, rfl, rfl, rfl, rfl, rfl, rfl, rfl, rfl, trivial⟩ [0] rfl [0] rfl)))
      have h := condF h ht90
      refine JS.exit rfl (JS.endJ (x31, a32, c33) h ⟨rfl, rfl, trivial⟩ ⟨rfl, rfl, rfl, rfl, rfl, rfl, rfl, rfl, trivial⟩ [] rfl [0] rfl)
    rintro ⟨x73, a74, c75⟩ h
    subst hj91
    refine JS.seq (JS.region (JO.regB ttOk 2 [] [] [] (.new 3 26 (cl26 (y8.1, y8.2.1, x73, y8.2.2.2.1, y8.2.2.2.2.1, y8.2.2.2.2.2) a74 c75) .nil) rfl ⟨trivial, ⟨rfl, rfl, rfl, rfl, trivial⟩⟩ (JO.done rfl ?_)))
    cases h
    exact JS.ret ttOk (a74, c75) trivial rfl rfl [0] rfl

def M_s_l08Clamp (x0 : Int) (x1 : Int) : Option Int :=
  (bif (decide (x0 < 0)) then
  some 0
  else
  (bif (decide (x1 < x0)) then
  some x1
  else
  some x0))

theorem ok_s_l08Clamp (x0 : Int) (x1 : Int) (r : Int) (h : M_s_l08Clamp x0 x1 = some r) :
    FC Try.prog 84 [.int .i64 x0, .int .i64 x1] [] (fun _ : Unit => True) (fun _ => .int .i64 r) (fun _ => []) :=
  by
    refine FC.of (T := TTx) Try.call84 Try.func84 rfl rfl fun w0 => ?_
    unfold M_s_l08Clamp at h
    refine JS.seq (JS.region (JO.reg ttOk 1 [] [] [] _ rfl ⟨trivial, rfl⟩ (JO.done rfl (JS.seq (JS.seq (JS.region (JO.reg ttOk 2 [] [] [(6, .v (.bool (decide (x0 < 0))))] _ rfl ⟨⟨rfl, trivial⟩, rfl⟩ (JO.done rfl ?_))))))))
    refine JS.cond rfl (fun ht6 => ?_) (fun ht6 => ?_)
    · have h := condT h ht6
      refine JS.seq (JS.region (JO.reg ttOk 1 [] [] [(4, .v (.int .i64 0))] _ rfl ⟨⟨rfl, trivial⟩, rfl⟩ (JO.done rfl ?_)))
      cases h
      exact JS.ret ttOk () trivial rfl rfl [] rfl
    have h := condF h ht6
    refine JS.skip (JS.seq (JS.seq (JS.region (JO.reg ttOk 3 [] [] [(9, .v (.bool (decide (x1 < x0))))] _ rfl ⟨⟨rfl, trivial⟩, rfl⟩ (JO.done rfl ?_)))))
    refine JS.cond rfl (fun ht5 => ?_) (fun ht5 => ?_)
    · have h := condT h ht5
      refine JS.seq (JS.region (JO.reg ttOk 2 [] [] [(4, .v (.int .i64 x1))] _ rfl ⟨⟨rfl, trivial⟩, rfl⟩ (JO.done rfl ?_)))
      cases h
      exact JS.ret ttOk () trivial rfl rfl [] rfl
    have h := condF h ht5
    refine JS.skip (JS.seq (JS.region (JO.reg ttOk 2 [] [] [(4, .v (.int .i64 x0))] _ rfl ⟨⟨rfl, trivial⟩, rfl⟩ (JO.done rfl ?_))))
    cases h
    exact JS.ret ttOk () trivial rfl rfl [] rfl

def M_s_GridGo (x0 : Int × Int × List Int × Int × Int × Bool) (x1 : Int) (x2 : Int) : Option (Int × Int × List Int × Int × Int × Bool) :=
  (bindO (M_s_GridOk x0) fun (y8 : Bool) =>
  (bif (!y8) then
  some (0, 0, [], 0, 0, false)
  else
  (bindO (M_s_l08Copy x0) fun (y10 : Int × Int × List Int × Int × Int × Bool) =>
  (bindO (M_s_l08Clamp x1 (W (x0.1 - 1))) fun (y14 : Int) =>
  (bindO (M_s_l08Clamp x2 (W (x0.2.1 - 1))) fun (y16 : Int) =>
  some (y10.1, y10.2.1, y10.2.2.1, y14, y16, false))))))

theorem ok_s_GridGo (x0 : Int × Int × List Int × Int × Int × Bool) (x1 : Int) (x2 : Int) (a4 : Option Addr) (c5 : Nat) (l6 : Nat) (hl7 : x0.2.2.1.length = l6) (r : Int × Int × List Int × Int × Int × Bool) (h : M_s_GridGo x0 x1 x2 = some r) :
    FC Try.prog 49 [.agg #[.int .i64 x0.1, .int .i64 x0.2.1, .slice a4 l6 c5, .int .i64 x0.2.2.2.1, .int .i64 x0.2.2.2.2.1, .bool x0.2.2.2.2.2], .int .i64 x1, .int .i64 x2] [⟨(.int .i64), ⟨a4, l6, c5⟩, x0.2.2.1⟩] (fun _ : Option Addr × Nat => True) (fun q => .agg (cl26 r q.1 q.2).toArray) (fun q => [⟨(.int .i64), ⟨q.1, r.2.2.1.length, q.2⟩, r.2.2.1⟩]) :=
  by
    subst hl7
    refine FC.of (T := TTx) Try.call49 Try.func49 rfl rfl fun w0 => ?_
    unfold M_s_GridGo at h
    refine JS.seq (JS.region (JO.regB ttOk 2 [] [2, 3] [(3, .bp 2 0), (6, .bp 3 0)] (.new 2 26 (cl26 x0 a4 c5) (.new 3 26 (cl26 (0, 0, [], 0, 0, false) none 0) .nil)) rfl ⟨⟨rfl, rfl, trivial⟩, ⟨rfl, rfl, rfl, rfl, rfl, rfl, rfl, rfl, trivial⟩⟩ (JO.done rfl (JS.seq (JS.seq (JS.region (JO.reg ttOk 1 [] [] [(8, .v (.agg (cl26 x0 a4 c5).toArray))] _ rfl ⟨⟨rfl, trivial⟩, rfl⟩ ?_)))))))
    obtain ⟨y8, hy9, h⟩ := bindO_some h
    refine JO.call rfl rfl rfl rfl (ok_s_GridOk x0 a4 c5 x0.2.2.1.length rfl _ hy9) rfl [0] rfl rfl fun _ _ => JO.reg ttOk 1 [] [] [(10, .v (.bool (!y8)))] _ rfl ⟨⟨rfl, trivial⟩, rfl⟩ (JO.done rfl ?_)
    refine JS.cond rfl (fun ht19 => ?_) (fun ht19 => ?_)
    · have h := condT h ht19
      refine JS.seq (JS.region (JO.regB ttOk 2 [] [] [] (.new 3 26 (cl26 (0, 0, [], 0, 0, false) none 0) .nil) rfl ⟨trivial, ⟨rfl, rfl, rfl, rfl, trivial⟩⟩ (JO.done rfl ?_)))
      cases h
      refine JS.nilO (.int .i64) Sl.nil rfl rfl (JS.ret ttOk (none, 0) trivial rfl rfl [0] rfl)
    have h := condF h ht19
    refine JS.skip (JS.seq (JS.region (JO.reg ttOk 1 [] [] [(12, .v (.agg (cl26 x0 a4 c5).toArray))] _ rfl ⟨⟨rfl, trivial⟩, rfl⟩ ?_)))
    obtain ⟨y10, hy11, h⟩ := bindO_some h
    refine JO.call rfl rfl rfl rfl (ok_s_l08Copy x0 a4 c5 x0.2.2.1.length rfl _ hy11) rfl [0] rfl rfl ?_
    rintro ⟨a12, c13⟩ -
    refine JO.regB ttOk 2 [] [11] [(7, .bp 11 0)] (.new 2 26 (cl26 x0 a4 c5) (.new 3 26 (cl26 (0, 0, [], 0, 0, false) none 0) (.new 11 26 (cl26 y10 a12 c13) .nil))) rfl ⟨⟨rfl, trivial⟩, ⟨rfl, rfl, rfl, rfl, rfl, rfl, rfl, rfl, rfl, rfl, rfl, rfl, trivial⟩⟩ (JO.done rfl (JS.seq (JS.region (JO.reg ttOk 4 [(W (x0.1 - 1))] [] [(14, .v (.int .i64 x1)), (17, .v (.int .i64 (W (x0.1 - 1))))] _ rfl ⟨⟨trivial, rfl⟩, ⟨rfl, rfl, trivial⟩, rfl⟩ ?_))))
    obtain ⟨y14, hy15, h⟩ := bindO_some h
    refine JO.call rfl rfl rfl rfl (ok_s_l08Clamp x1 (W (x0.1 - 1)) _ hy15) rfl [] rfl rfl fun _ _ => JO.regB ttOk 2 [] [] [] (.new 2 26 (cl26 x0 a4 c5) (.new 3 26 (cl26 (0, 0, [], 0, 0, false) none 0) (.new 11 26 (cl26 (y10.1, y10.2.1, y10.2.2.1, y14, y10.2.2.2.2.1, y10.2.2.2.2.2) a12 c13) .nil))) rfl ⟨trivial, ⟨rfl, rfl, rfl, rfl, rfl, rfl, rfl, rfl, rfl, rfl, rfl, rfl, trivial⟩⟩ (JO.done rfl (JS.seq (JS.region (JO.reg ttOk 4 [(W (x0.2.1 - 1))] [] [(20, .v (.int .i64 x2)), (23, .v (.int .i64 (W (x0.2.1 - 1))))] _ rfl ⟨⟨trivial, rfl⟩, ⟨rfl, rfl, trivial⟩, rfl⟩ ?_))))
    obtain ⟨y16, hy17, h⟩ := bindO_some h
    refine JO.call rfl rfl rfl rfl (ok_s_l08Clamp x2 (W (x0.2.1 - 1)) _ hy17) rfl [] rfl rfl fun _ _ => JO.regB ttOk 2 [] [] [] (.new 3 26 (cl26 (0, 0, [], 0, 0, false) none 0) (.new 11 26 (cl26 (y10.1, y10.2.1, y10.2.2.1, y14, y16, y10.2.2.2.2.2) a12 c13) .nil)) rfl ⟨trivial, ⟨rfl, rfl, rfl, rfl, rfl, rfl, rfl, rfl, trivial⟩⟩ (JO.done rfl (JS.seq (JS.region (JO.regB ttOk 2 [] [] [] (.new 3 26 (cl26 (0, 0, [], 0, 0, false) none 0) (.new 11 26 (cl26 (y10.1, y10.2.1, y10.2.2.1, y14, y16, false) a12 c13) .nil)) rfl ⟨trivial, ⟨rfl, rfl, rfl, rfl, rfl, rfl, rfl, rfl, trivial⟩⟩ (JO.done rfl (JS.seq (JS.region (JO.regB ttOk 2 [] [] [] (.new 3 26 (cl26 (y10.1, y10.2.1, y10.2.2.1, y14, y16, false) a12 c13) .nil) rfl ⟨trivial, ⟨rfl, rfl, rfl, rfl, trivial⟩⟩ (JO.done rfl ?_)))))))))
    cases h
    exact JS.ret ttOk (a12, c13) trivial rfl rfl [0] rfl

def M_s_GridClear_L1 (x0 : Int × Int × List Int × Int × Int × Bool) (x1 : Int) (x2 : Int) (j93 : (List Int) → Option (Int × Int × List Int × Int × Int × Bool)) (k79 : (Int × List Int) → Option (Int × Int × List Int × Int × Int × Bool)) : (Int × List Int) → Option (Int × Int × List Int × Int × Int × Bool) := fun (x14, x25) =>
  (bif (decide (x14 < (x0.2.2.1.length : Int))) then
  (joinO (fun (x48 : List Int) =>
  k79 ((W (x14 + 1)), x48)) fun j51 =>
  (guardO (0 ≤ x14 ∧ x14 < (x0.2.2.1.length : Int)) <|
  (joinO (fun (x34 : Int) =>
  (joinO (fun (x40 : Int) =>
  (bif (bif (bif (decide (x1 ≤ x14)) then (decide (x14 < x2)) else false) then true else (bif (decide (x1 ≤ x40)) then (decide (x40 < x2)) else false)) then
  (guardO (0 ≤ x14 ∧ x14 < (x25.length : Int)) <|
  j51 (List.set x25 (Int.toNat x14) 32))
  else
  j51 x25)) fun j41 =>
  (bindO (M_s_Width (at' x0.2.2.1 x14)) fun (y37 : Int) =>
  (bif (decide (y37 = 2)) then
  j41 (W (x14 + 1))
  else
  j41 x34)))) fun j35 =>
  (bif (decide ((at' x0.2.2.1 x14) = (-1))) then
  j35 (W (x14 - 1))
  else
  j35 x14))))
  else
  j93 x25)

def M_s_GridClear (x0 : Int × Int × List Int × Int × Int × Bool) (x1 : Int) (x2 : Int) : Option (Int × Int × List Int × Int × Int × Bool) :=
  (bindO (M_s_GridOk x0) fun (y8 : Bool) =>
  (bif (!y8) then
  some (0, 0, [], 0, 0, false)
  else
  (bindO (M_s_l08Copy x0) fun (y10 : Int × Int × List Int × Int × Int × Bool) =>
  (joinO (fun (x90 : List Int) =>
  some (y10.1, y10.2.1, x90, y10.2.2.2.1, y10.2.2.2.2.1, y10.2.2.2.2.2)) fun j93 =>
  (fixF (M_s_GridClear_L1 x0 x1 x2 j93) FUEL (0, y10.2.2.1))))))

theorem ok_s_GridClear (x0 : Int × Int × List Int × Int × Int × Bool) (x1 : Int) (x2 : Int) (a4 : Option Addr) (c5 : Nat) (l6 : Nat) (hl7 : x0.2.2.1.length = l6) (r : Int × Int × List Int × Int × Int × Bool) (h : M_s_GridClear x0 x1 x2 = some r) :
    FC Try.prog 50 [.agg #[.int .i64 x0.1, .int .i64 x0.2.1, .slice a4 l6 c5, .int .i64 x0.2.2.2.1, .int .i64 x0.2.2.2.2.1, .bool x0.2.2.2.2.2], .int .i64 x1, .int .i64 x2] [⟨(.int .i64), ⟨a4, l6, c5⟩, x0.2.2.1⟩] (fun _ : Option Addr × Nat => True) (fun q => .agg (cl26 r q.1 q.2).toArray) (fun q => [⟨(.int .i64), ⟨q.1, r.2.2.1.length, q.2⟩, r.2.2.1⟩]) :=
  by
    subst hl7
    refine FC.of (T := TTx) Try.call50 Try.func50 rfl rfl fun w0 => ?_
    unfold M_s_GridClear at h
    refine JS.seq (JS.region (JO.regB ttOk 2 [] [2, 3] [(3, .bp 2 0), (6, .bp 3 0)] (.new 2 26 (cl26 x0 a4 c5) (.new 3 26 (cl26 (0, 0, [], 0, 0, false) none 0) .nil)) rfl ⟨⟨rfl, rfl, trivial⟩, ⟨rfl, rfl, rfl, rfl, rfl, rfl, rfl, rfl, trivial⟩⟩ (JO.done rfl (JS.seq (JS.seq (JS.region (JO.reg ttOk 1 [] [] [(11, .v (.agg (cl26 x0 a4 c5).toArray))] _ rfl ⟨⟨rfl, trivial⟩, rfl⟩ ?_)))))))
    obtain ⟨y8, hy9, h⟩ := bindO_some h
    refine JO.call rfl rfl rfl rfl (ok_s_GridOk x0 a4 c5 x0.2.2.1.length rfl _ hy9) rfl [0] rfl rfl fun _ _ => JO.reg ttOk 1 [] [] [(13, .v (.bool (!y8)))] _ rfl ⟨⟨rfl, trivial⟩, rfl⟩ (JO.done rfl ?_)
    refine JS.cond rfl (fun ht115 => ?_) (fun ht115 => ?_)
    · have h := condT h ht115
      refine JS.seq (JS.region (JO.regB ttOk 2 [] [] [] (.new 3 26 (cl26 (0, 0, [], 0, 0, false) none 0) .nil) rfl ⟨trivial, ⟨rfl, rfl, rfl, rfl, trivial⟩⟩ (JO.done rfl ?_)))
      cases h
      refine JS.nilO (.int .i64) Sl.nil rfl rfl (JS.ret ttOk (none, 0) trivial rfl rfl [0] rfl)
    have h := condF h ht115
    refine JS.skip (JS.seq (JS.region (JO.reg ttOk 1 [] [] [(15, .v (.agg (cl26 x0 a4 c5).toArray))] _ rfl ⟨⟨rfl, trivial⟩, rfl⟩ ?_)))
    obtain ⟨y10, hy11, h⟩ := bindO_some h
    refine JO.call rfl rfl rfl rfl (ok_s_l08Copy x0 a4 c5 x0.2.2.1.length rfl _ hy11) rfl [0] rfl rfl ?_
    rintro ⟨a12, c13⟩ -
    refine JO.regB ttOk 2 [] [11] [(7, .bp 11 0)] (.new 2 26 (cl26 x0 a4 c5) (.new 3 26 (cl26 (0, 0, [], 0, 0, false) none 0) (.new 11 26 (cl26 y10 a12 c13) .nil))) rfl ⟨⟨rfl, trivial⟩, ⟨rfl, rfl, rfl, rfl, rfl, rfl, rfl, rfl, rfl, rfl, rfl, rfl, trivial⟩⟩ (JO.done rfl (JS.seq (JS.seq (JS.region (JO.reg ttOk 4 [] [] [(18, .v (.slice a4 x0.2.2.1.length c5)), (19, .v (.int .i64 (x0.2.2.1.length : Int))), (20, .v (.int .i64 0))] _ rfl ⟨⟨rfl, rfl, rfl, trivial⟩, rfl⟩ (JO.done rfl ?_))))))
    obtain ⟨j93, hj114, h⟩ := joinO_some h
    refine JS.blockJ (ι := List Int × Option Addr × Nat) ⟨fun z => j93 z.1 = some r, fun z => [(6, .bp 3 0), (7, .bp 11 0)], fun z => (.new 3 26 (cl26 (0, 0, [], 0, 0, false) none 0) (.new 11 26 (cl26 (y10.1, y10.2.1, z.1, y10.2.2.2.1, y10.2.2.2.2.1, y10.2.2.2.2.2) z.2.1 z.2.2) .nil)), fun z => [], fun z => [⟨(.int .i64), ⟨z.2.1, z.1.length, z.2.2⟩, z.1⟩], fun z => 0⟩ ?_ ?_
    · refine JS.loop (ι := Nat × Int × List Int × Option Addr × Nat) ⟨fun z => fixF (M_s_GridClear_L1 x0 x1 x2 j93) z.1 (z.2.1, z.2.2.1) = some r, fun z => [(1, .v (.int .i64 x1)), (2, .v (.int .i64 x2)), (6, .bp 3 0), (7, .bp 11 0), (18, .v (.slice a4 x0.2.2.1.length c5)), (19, .v (.int .i64 (x0.2.2.1.length : Int))), (20, .v (.int .i64 z.2.1))], fun z => (.new 3 26 (cl26 (0, 0, [], 0, 0, false) none 0) (.new 11 26 (cl26 (y10.1, y10.2.1, z.2.2.1, y10.2.2.2.1, y10.2.2.2.2.1, y10.2.2.2.2.2) z.2.2.2.1 z.2.2.2.2) .nil)), fun z => [⟨(.int .i64), ⟨a4, x0.2.2.1.length, c5⟩, x0.2.2.1⟩], fun z => [⟨(.int .i64), ⟨z.2.2.2.1, z.2.2.1.length, z.2.2.2.2⟩, z.2.2.1⟩], fun z => z.1⟩ (FUEL, 0, y10.2.2.1, a12, c13) h ⟨rfl, rfl, rfl, rfl, rfl, rfl, rfl, trivial⟩ ⟨rfl, rfl, rfl, rfl, rfl, rfl, rfl, rfl, trivial⟩ [0] rfl [0] rfl ?_
      rintro ⟨n80, x14, x25, a26, c27⟩ h
      obtain ⟨n80, rfl, h⟩ := fixF_some h
      rw [M_s_GridClear_L1] at h
      refine JS.seq (JS.region (JO.reg ttOk 1 [] [] [(21, .v (.bool (decide (x14 < (x0.2.2.1.length : Int)))))] _ rfl ⟨⟨rfl, trivial⟩, rfl⟩ (JO.done rfl (JS.seq ?_))))
      refine JS.cond rfl (fun ht113 => ?_) (fun ht113 => ?_)
      · have h := condT h ht113
        refine JS.skip (JS.seq ?_)
        obtain ⟨j51, hj112, h⟩ := joinO_some h
        refine JS.blockJ (ι := List Int × Option Addr × Nat) ⟨fun z => j51 z.1 = some r, fun z => [(1, .v (.int .i64 x1)), (2, .v (.int .i64 x2)), (6, .bp 3 0), (7, .bp 11 0), (18, .v (.slice a4 x0.2.2.1.length c5)), (19, .v (.int .i64 (x0.2.2.1.length : Int))), (20, .v (.int .i64 x14))], fun z => (.new 3 26 (cl26 (0, 0, [], 0, 0, false) none 0) (.new 11 26 (cl26 (y10.1, y10.2.1, z.1, y10.2.2.2.1, y10.2.2.2.2.1, y10.2.2.2.2.2) z.2.1 z.2.2) .nil)), fun z => [⟨(.int .i64), ⟨a4, x0.2.2.1.length, c5⟩, x0.2.2.1⟩], fun z => [⟨(.int .i64), ⟨z.2.1, z.1.length, z.2.2⟩, z.1⟩], fun z => 0⟩ ?_ ?_
        · refine JS.seq (JS.region (JO.know 0 rfl fun hs105 => ?_))
          obtain ⟨g32, h⟩ := guardO_some h
          refine JO.reg ttOk 2 [] [] [(22, .v (.int .i64 x14)), (23, .ep ⟨a4, x0.2.2.1.length, c5⟩ (Int.toNat x14 * 1))] _ rfl ⟨hs105.ix g32, ⟨rfl, rfl, trivial⟩, rfl⟩ (JO.load ttOk rfl rfl rfl rfl rfl rfl rfl 0 rfl rfl (Int.toNat x14) 0 (at' x0.2.2.1 x14) ⟨at_some g32, rfl⟩ rfl rfl (JO.reg ttOk 2 [] [] [(8, .v (.int .i64 x14)), (9, .v (.int .i64 (at' x0.2.2.1 x14)))] _ rfl ⟨⟨rfl, rfl, trivial⟩, rfl⟩ (JO.done rfl (JS.seq (JS.region (JO.reg ttOk 2 [] [] [(10, .v (.int .i64 x14))] _ rfl ⟨⟨rfl, trivial⟩, rfl⟩ (JO.done rfl ?_)))))))
          obtain ⟨j35, hj111, h⟩ := joinO_some h
          refine JS.seqJ (ι := Int) ⟨fun z => j35 z = some r, fun z => [(1, .v (.int .i64 x1)), (2, .v (.int .i64 x2)), (6, .bp 3 0), (7, .bp 11 0), (8, .v (.int .i64 x14)), (9, .v (.int .i64 (at' x0.2.2.1 x14))), (10, .v (.int .i64 z)), (18, .v (.slice a4 x0.2.2.1.length c5)), (19, .v (.int .i64 (x0.2.2.1.length : Int))), (20, .v (.int .i64 x14))], fun z => (.new 3 26 (cl26 (0, 0, [], 0, 0, false) none 0) (.new 11 26 (cl26 (y10.1, y10.2.1, x25, y10.2.2.2.1, y10.2.2.2.2.1, y10.2.2.2.2.2) a26 c27) .nil)), fun z => [⟨(.int .i64), ⟨a4, x0.2.2.1.length, c5⟩, x0.2.2.1⟩], fun z => [⟨(.int .i64), ⟨a26, x25.length, c27⟩, x25⟩], fun z => 0⟩ ?_ ?_
          · refine JS.seq (JS.region (JO.reg ttOk 2 [] [] [(27, .v (.bool (decide ((at' x0.2.2.1 x14) = (-1)))))] _ rfl ⟨⟨rfl, trivial⟩, rfl⟩ (JO.done rfl ?_)))
            refine JS.cond rfl (fun ht106 => ?_) (fun ht106 => ?_)
            · have h := condT h ht106
              refine JS.region (JO.reg ttOk 3 [(W (x14 - 1))] [] [(10, .v (.int .i64 (W (x14 - 1))))] _ rfl ⟨⟨trivial, rfl⟩, ⟨rfl, trivial⟩, rfl⟩ (JO.done rfl (JS.endJ (W (x14 - 1)) h ⟨rfl, rfl, rfl, rfl, rfl, rfl, rfl, rfl, rfl, rfl, trivial⟩ ⟨rfl, rfl, rfl, rfl, rfl, rfl, rfl, rfl, trivial⟩ [0] rfl [0] rfl)))
            have h := condF h ht106
            refine JS.skip (JS.endJ x14 h ⟨rfl, rfl, rfl, rfl, rfl, rfl, rfl, rfl, rfl, rfl, trivial⟩ ⟨rfl, rfl, rfl, rfl, rfl, rfl, rfl, rfl, trivial⟩ [0] rfl [0] rfl)
          rintro x34 h
          subst hj111
          obtain ⟨j41, hj110, h⟩ := joinO_some h
          refine JS.seqJ (ι := Int) ⟨fun z => j41 z = some r, fun z => [(1, .v (.int .i64 x1)), (2, .v (.int .i64 x2)), (6, .bp 3 0), (7, .bp 11 0), (8, .v (.int .i64 x14)), (10, .v (.int .i64 z)), (18, .v (.slice a4 x0.2.2.1.length c5)), (19, .v (.int .i64 (x0.2.2.1.length : Int))), (20, .v (.int .i64 x14))], fun z => (.new 3 26 (cl26 (0, 0, [], 0, 0, false) none 0) (.new 11 26 (cl26 (y10.1, y10.2.1, x25, y10.2.2.2.1, y10.2.2.2.2.1, y10.2.2.2.2.2) a26 c27) .nil)), fun z => [⟨(.int .i64), ⟨a4, x0.2.2.1.length, c5⟩, x0.2.2.1⟩], fun z => [⟨(.int .i64), ⟨a26, x25.length, c27⟩, x25⟩], fun z => 0⟩ ?_ ?_
          · refine JS.seq (JS.region (JO.reg ttOk 1 [] [] [(30, .v (.int .i64 (at' x0.2.2.1 x14)))] _ rfl ⟨⟨rfl, trivial⟩, rfl⟩ ?_))
            obtain ⟨y37, hy38, h⟩ := bindO_some h
            refine JO.call rfl rfl rfl rfl (ok_s_Width (at' x0.2.2.1 x14) _ hy38) rfl [] rfl rfl fun _ _ => JO.reg ttOk 1 [] [] [(32, .v (.bool (decide (y37 = 2))))] _ rfl ⟨⟨rfl, trivial⟩, rfl⟩ (JO.done rfl ?_)
            refine JS.cond rfl (fun ht107 => ?_) (fun ht107 => ?_)
            · have h := condT h ht107
              refine JS.region (JO.reg ttOk 3 [(W (x14 + 1))] [] [(10, .v (.int .i64 (W (x14 + 1))))] _ rfl ⟨⟨trivial, rfl⟩, ⟨rfl, trivial⟩, rfl⟩ (JO.done rfl (JS.endJ (W (x14 + 1)) h ⟨rfl, rfl, rfl, rfl, rfl, rfl, rfl, rfl, rfl, trivial⟩ ⟨rfl, rfl, rfl, rfl, rfl, rfl, rfl, rfl, trivial⟩ [0] rfl [0] rfl)))
            have h := condF h ht107
            refine JS.skip (JS.endJ x34 h ⟨rfl, rfl, rfl, rfl, rfl, rfl, rfl, rfl, rfl, trivial⟩ ⟨rfl, rfl, rfl, rfl, rfl, rfl, rfl, rfl, trivial⟩ [0] rfl [0] rfl)
          rintro x40 h
          subst hj110
          refine JS.seq (JS.region (JO.reg ttOk 18 [] [] [(52, .v (.bool (bif (bif (decide (x1 ≤ x14)) then (decide (x14 < x2)) else false) then true else (bif (decide (x1 ≤ x40)) then (decide (x40 < x2)) else false))))] _ rfl ⟨⟨rfl, trivial⟩, rfl⟩ (JO.done rfl ?_)))
          refine JS.cond rfl (fun ht109 => ?_) (fun ht109 => ?_)
          · have h := condT h ht109
            refine JS.region (JO.know 1 rfl fun hs108 => ?_)
            obtain ⟨g44, h⟩ := guardO_some h
            refine JO.reg ttOk 4 [] [] [(56, .ep ⟨a26, x25.length, c27⟩ (Int.toNat x14 * 1))] _ rfl ⟨hs108.ix g44, ⟨rfl, trivial⟩, rfl⟩ (JO.storeE ttOk rfl rfl rfl rfl rfl rfl rfl rfl rfl [0] (fs := []) rfl (Int.toNat x14) 0 (at' x25 x14) 32 ⟨at_some g44, rfl⟩ ⟨rfl, rfl, rfl⟩ (JO.done rfl (JS.endB (JS.endJ ((List.set x25 (Int.toNat x14) 32), a26, c27) h ⟨rfl, rfl, rfl, rfl, rfl, rfl, rfl, trivial⟩ ⟨rfl, rfl, rfl, rfl, rfl, (congrArg (fun n => ([.int .i64 y10.1, .int .i64 y10.2.1, .slice a26 n c27, .int .i64 y10.2.2.2.1, .int .i64 y10.2.2.2.2.1, .bool y10.2.2.2.2.2] : List Value)) (List.length_set.trans rfl)), rfl, rfl, trivial⟩ [0] rfl [0] (by simp only [List.length_set, List.length_replicate, pickO, getF, cl26, cl45]; rfl)))))
          have h := condF h ht109
          refine JS.skip (JS.endB (JS.endJ (x25, a26, c27) h ⟨rfl, rfl, rfl, rfl, rfl, rfl, rfl, trivial⟩ ⟨rfl, rfl, rfl, rfl, rfl, rfl, rfl, rfl, trivial⟩ [0] rfl [0] rfl))
        rintro ⟨x48, a49, c50⟩ h
        subst hj112
        refine JS.region (JO.reg ttOk 2 [(W (x14 + 1))] [] [(20, .v (.int .i64 (W (x14 + 1))))] _ rfl ⟨⟨trivial, rfl⟩, ⟨rfl, trivial⟩, rfl⟩ (JO.done rfl (JS.endL (n80, (W (x14 + 1)), x48, a49, c50) h (Nat.lt_succ_self _) ⟨rfl, rfl, rfl, rfl, rfl, rfl, rfl, trivial⟩ ⟨rfl, rfl, rfl, rfl, rfl, rfl, rfl, rfl, trivial⟩ [0] rfl [0] rfl)))
      have h := condF h ht113
      refine JS.exit rfl (JS.endJ (x25, a26, c27) h ⟨rfl, rfl, trivial⟩ ⟨rfl, rfl, rfl, rfl, rfl, rfl, rfl, rfl, trivial⟩ [] rfl [0] rfl)
    rintro ⟨x90, a91, c92⟩ h
    subst hj114
    refine JS.seq (JS.region (JO.regB ttOk 2 [] [] [] (.new 3 26 (cl26 (y10.1, y10.2.1, x90, y10.2.2.2.1, y10.2.2.2.2.1, y10.2.2.2.2.2) a91 c92) .nil) rfl ⟨trivial, ⟨rfl, rfl, rfl, rfl, trivial⟩⟩ (JO.done rfl ?_)))
    cases h
    exact JS.ret ttOk (a91, c92) trivial rfl rfl [0] rfl

def M_s_GridPut (x0 : Int × Int × List Int × Int × Int × Bool) (x1 : Int) : Option (Int × Int × List Int × Int × Int × Bool) :=
  (bindO (M_s_GridOk x0) fun (y7 : Bool) =>
  (bif (!y7) then
  some (0, 0, [], 0, 0, false)
  else
  (bindO (M_s_Width x1) fun (y9 : Int) =>
  (bindO (M_s_l08Copy x0) fun (y11 : Int × Int × List Int × Int × Int × Bool) =>
  (bif (decide (y9 = 0)) then
  some y11
  else
  (joinO (fun ((x38, x39, x40, x43, x44, x45) : Int × Int × List Int × Int × Int × Bool) =>
  (bindO (M_s_GridClear (x38, x39, x40, x43, x44, x45) (W ((W (x44 * x0.1)) + x43)) (W ((W ((W (x44 * x0.1)) + x43)) + y9))) fun (y52 : Int × Int × List Int × Int × Int × Bool) =>
  (guardO (0 ≤ (W ((W (x44 * x0.1)) + x43)) ∧ (W ((W (x44 * x0.1)) + x43)) < (y52.2.2.1.length : Int)) <|
  (joinO (fun (x60 : List Int) =>
  (joinO (fun ((x66, x67) : Int × Bool) =>
  some (y52.1, y52.2.1, x60, x66, y52.2.2.2.2.1, x67)) fun j68 =>
  (bif (decide (x0.1 ≤ (W (y52.2.2.2.1 + y9)))) then
  j68 ((W (x0.1 - 1)), true)
  else
  j68 ((W (y52.2.2.2.1 + y9)), y52.2.2.2.2.2)))) fun j63 =>
  (bif (decide (y9 = 2)) then
  (guardO (0 ≤ (W ((W ((W (x44 * x0.1)) + x43)) + 1)) ∧ (W ((W ((W (x44 * x0.1)) + x43)) + 1)) < (y52.2.2.1.length : Int)) <|
  j63 (List.set (List.set y52.2.2.1 (Int.toNat (W ((W (x44 * x0.1)) + x43))) x1) (Int.toNat (W ((W ((W (x44 * x0.1)) + x43)) + 1))) (-1)))
  else
  j63 (List.set y52.2.2.1 (Int.toNat (W ((W (x44 * x0.1)) + x43))) x1)))))) fun j46 =>
  (bif (bif x0.2.2.2.2.2 then true else (bif (decide (y9 = 2)) then (decide (x0.2.2.2.1 = (W (x0.1 - 1)))) else false)) then
  (joinO (fun ((x22, x23, x24, x27, x28, x29) : Int × Int × List Int × Int × Int × Bool) =>
  (bindO (M_s_GridGo (x22, x23, x24, x27, x28, x29) 0 (W (x0.2.2.2.2.1 + 1))) fun (y32 : Int × Int × List Int × Int × Int × Bool) =>
  j46 (y32.1, y32.2.1, y32.2.2.1, y32.2.2.2.1, y32.2.2.2.2.1, y32.2.2.2.2.2))) fun j30 =>
  (bif (decide (x0.2.2.2.2.1 = (W (x0.2.1 - 1)))) then
  (bindO (M_s_GridScroll y11) fun (y17 : Int × Int × List Int × Int × Int × Bool) =>
  j30 (y17.1, y17.2.1, y17.2.2.1, y17.2.2.2.1, y17.2.2.2.2.1, y17.2.2.2.2.2))
  else
  j30 (y11.1, y11.2.1, y11.2.2.1, y11.2.2.2.1, y11.2.2.2.2.1, y11.2.2.2.2.2)))
  else
  j46 (y11.1, y11.2.1, y11.2.2.1, y11.2.2.2.1, y11.2.2.2.2.1, y11.2.2.2.2.2))))))))

theorem ok_s_GridPut (x0 : Int × Int × List Int × Int × Int × Bool) (x1 : Int) (a3 : Option Addr) (c4 : Nat) (l5 : Nat) (hl6 : x0.2.2.1.length = l5) (r : Int × Int × List Int × Int × Int × Bool) (h : M_s_GridPut x0 x1 = some r) :
    FC Try.prog 10 [.agg #[.int .i64 x0.1, .int .i64 x0.2.1, .slice a3 l5 c4, .int .i64 x0.2.2.2.1, .int .i64 x0.2.2.2.2.1, .bool x0.2.2.2.2.2], .int .i64 x1] [⟨(.int .i64), ⟨a3, l5, c4⟩, x0.2.2.1⟩] (fun _ : Option Addr × Nat => True) (fun q => .agg (cl26 r q.1 q.2).toArray) (fun q => [⟨(.int .i64), ⟨q.1, r.2.2.1.length, q.2⟩, r.2.2.1⟩]) :=
  by
    subst hl6
    refine FC.of (T := TTx) Try.call10 Try.func10 rfl rfl fun w0 => ?_
    unfold M_s_GridPut at h
    refine JS.seq (JS.region (JO.regB ttOk 2 [] [2, 3] [(2, .bp 2 0), (4, .bp 3 0)] (.new 2 26 (cl26 x0 a3 c4) (.new 3 26 (cl26 (0, 0, [], 0, 0, false) none 0) .nil)) rfl ⟨⟨rfl, rfl, trivial⟩, ⟨rfl, rfl, rfl, rfl, rfl, rfl, rfl, rfl, trivial⟩⟩ (JO.done rfl (JS.seq (JS.seq (JS.region (JO.reg ttOk 1 [] [] [(8, .v (.agg (cl26 x0 a3 c4).toArray))] _ rfl ⟨⟨rfl, trivial⟩, rfl⟩ ?_)))))))
    obtain ⟨y7, hy8, h⟩ := bindO_some h
    refine JO.call rfl rfl rfl rfl (ok_s_GridOk x0 a3 c4 x0.2.2.1.length rfl _ hy8) rfl [0] rfl rfl fun _ _ => JO.reg ttOk 1 [] [] [(10, .v (.bool (!y7)))] _ rfl ⟨⟨rfl, trivial⟩, rfl⟩ (JO.done rfl ?_)
    refine JS.cond rfl (fun ht87 => ?_) (fun ht87 => ?_)
    · have h := condT h ht87
      refine JS.seq (JS.region (JO.regB ttOk 2 [] [] [] (.new 3 26 (cl26 (0, 0, [], 0, 0, false) none 0) .nil) rfl ⟨trivial, ⟨rfl, rfl, rfl, rfl, trivial⟩⟩ (JO.done rfl ?_)))
      cases h
      refine JS.nilO (.int .i64) Sl.nil rfl rfl (JS.ret ttOk (none, 0) trivial rfl rfl [0] rfl)
    have h := condF h ht87
    refine JS.skip (JS.seq (JS.region (JO.reg ttOk 1 [] [] [(12, .v (.int .i64 x1))] _ rfl ⟨⟨rfl, trivial⟩, rfl⟩ ?_)))
    obtain ⟨y9, hy10, h⟩ := bindO_some h
    refine JO.call rfl rfl rfl rfl (ok_s_Width x1 _ hy10) rfl [] rfl rfl fun _ _ => JO.reg ttOk 1 [] [] [(5, .v (.int .i64 y9))] _ rfl ⟨⟨rfl, trivial⟩, rfl⟩ (JO.done rfl (JS.seq (JS.region (JO.reg ttOk 1 [] [] [(14, .v (.agg (cl26 x0 a3 c4).toArray))] _ rfl ⟨⟨rfl, trivial⟩, rfl⟩ ?_))))
    obtain ⟨y11, hy12, h⟩ := bindO_some h
    refine JO.call rfl rfl rfl rfl (ok_s_l08Copy x0 a3 c4 x0.2.2.1.length rfl _ hy12) rfl [0] rfl rfl ?_
    rintro ⟨a13, c14⟩ -
    refine JO.regB ttOk 2 [] [13] [(6, .bp 13 0)] (.new 2 26 (cl26 x0 a3 c4) (.new 3 26 (cl26 (0, 0, [], 0, 0, false) none 0) (.new 13 26 (cl26 y11 a13 c14) .nil))) rfl ⟨⟨rfl, trivial⟩, ⟨rfl, rfl, rfl, rfl, rfl, rfl, rfl, rfl, rfl, rfl, rfl, rfl, trivial⟩⟩ (JO.done rfl (JS.seq (JS.seq (JS.region (JO.reg ttOk 2 [] [] [(17, .v (.bool (decide (y9 = 0))))] _ rfl ⟨⟨rfl, trivial⟩, rfl⟩ (JO.done rfl ?_))))))
    refine JS.cond rfl (fun ht86 => ?_) (fun ht86 => ?_)
    · have h := condT h ht86
      refine JS.seq (JS.region (JO.regB ttOk 2 [] [] [] (.new 3 26 (cl26 y11 a13 c14) .nil) rfl ⟨trivial, ⟨rfl, rfl, rfl, rfl, trivial⟩⟩ (JO.done rfl ?_)))
      cases h
      exact JS.ret ttOk (a13, c14) trivial rfl rfl [0] rfl
    have h := condF h ht86
    refine JS.skip ?_
    obtain ⟨j46, hj85, h⟩ := joinO_some h
    refine JS.seqJ (ι := Int × Int × List Int × Int × Int × Bool × Option Addr × Nat) ⟨fun z => j46 (z.1, z.2.1, z.2.2.1, z.2.2.2.1, z.2.2.2.2.1, z.2.2.2.2.2.1) = some r, fun z => [(1, .v (.int .i64 x1)), (2, .bp 2 0), (4, .bp 3 0), (5, .v (.int .i64 y9)), (6, .bp 13 0)], fun z => (.new 2 26 (cl26 x0 a3 c4) (.new 3 26 (cl26 (0, 0, [], 0, 0, false) none 0) (.new 13 26 (cl26 (z.1, z.2.1, z.2.2.1, z.2.2.2.1, z.2.2.2.2.1, z.2.2.2.2.2.1) z.2.2.2.2.2.2.1 z.2.2.2.2.2.2.2) .nil))), fun z => [⟨(.int .i64), ⟨a3, x0.2.2.1.length, c4⟩, x0.2.2.1⟩], fun z => [⟨(.int .i64), ⟨z.2.2.2.2.2.2.1, z.2.2.1.length, z.2.2.2.2.2.2.2⟩, z.2.2.1⟩], fun z => 0⟩ ?_ ?_
    · refine JS.seq (JS.region (JO.reg ttOk 14 [(W (x0.1 - 1))] [] [(32, .v (.bool (bif x0.2.2.2.2.2 then true else (bif (decide (y9 = 2)) then (decide (x0.2.2.2.1 = (W (x0.1 - 1)))) else false))))] _ rfl ⟨(fun q75 q76 => ⟨trivial, rfl⟩), ⟨rfl, trivial⟩, rfl⟩ (JO.done rfl ?_)))
      refine JS.cond rfl (fun ht79 => ?_) (fun ht79 => ?_)
      · have h := condT h ht79
        obtain ⟨j30, hj78, h⟩ := joinO_some h
        refine JS.seqJ (ι := Int × Int × List Int × Int × Int × Bool × Option Addr × Nat) ⟨fun z => j30 (z.1, z.2.1, z.2.2.1, z.2.2.2.1, z.2.2.2.2.1, z.2.2.2.2.2.1) = some r, fun z => [(1, .v (.int .i64 x1)), (2, .bp 2 0), (4, .bp 3 0), (5, .v (.int .i64 y9)), (6, .bp 13 0)], fun z => (.new 2 26 (cl26 x0 a3 c4) (.new 3 26 (cl26 (0, 0, [], 0, 0, false) none 0) (.new 13 26 (cl26 (z.1, z.2.1, z.2.2.1, z.2.2.2.1, z.2.2.2.2.1, z.2.2.2.2.2.1) z.2.2.2.2.2.2.1 z.2.2.2.2.2.2.2) .nil))), fun z => [⟨(.int .i64), ⟨a3, x0.2.2.1.length, c4⟩, x0.2.2.1⟩], fun z => [⟨(.int .i64), ⟨z.2.2.2.2.2.2.1, z.2.2.1.length, z.2.2.2.2.2.2.2⟩, z.2.2.1⟩], fun z => 0⟩ ?_ ?_
        · refine JS.seq (JS.region (JO.reg ttOk 6 [(W (x0.2.1 - 1))] [] [(38, .v (.bool (decide (x0.2.2.2.2.1 = (W (x0.2.1 - 1))))))] _ rfl ⟨⟨trivial, rfl⟩, ⟨rfl, trivial⟩, rfl⟩ (JO.done rfl ?_)))
          refine JS.cond rfl (fun ht77 => ?_) (fun ht77 => ?_)
          · have h := condT h ht77
            refine JS.region (JO.reg ttOk 1 [] [] [(39, .v (.agg (cl26 y11 a13 c14).toArray))] _ rfl ⟨⟨rfl, trivial⟩, rfl⟩ ?_)
            obtain ⟨y17, hy18, h⟩ := bindO_some h
            refine JO.call rfl rfl rfl rfl (ok_s_GridScroll y11 a13 c14 y11.2.2.1.length rfl _ hy18) rfl [1] rfl rfl ?_
            rintro ⟨a19, c20⟩ -
            refine JO.regB ttOk 1 [] [] [] (.new 2 26 (cl26 x0 a3 c4) (.new 3 26 (cl26 (0, 0, [], 0, 0, false) none 0) (.new 13 26 (cl26 y17 a19 c20) .nil))) rfl ⟨trivial, ⟨rfl, rfl, rfl, rfl, rfl, rfl, rfl, rfl, rfl, rfl, rfl, rfl, trivial⟩⟩ (JO.done rfl (JS.endJ (y17.1, y17.2.1, y17.2.2.1, y17.2.2.2.1, y17.2.2.2.2.1, y17.2.2.2.2.2, a19, c20) h ⟨rfl, rfl, rfl, rfl, rfl, trivial⟩ ⟨rfl, rfl, rfl, rfl, rfl, rfl, rfl, rfl, rfl, rfl, rfl, rfl, trivial⟩ [0] rfl [0] rfl))
          have h := condF h ht77
          refine JS.skip (JS.endJ (y11.1, y11.2.1, y11.2.2.1, y11.2.2.2.1, y11.2.2.2.2.1, y11.2.2.2.2.2, a13, c14) h ⟨rfl, rfl, rfl, rfl, rfl, trivial⟩ ⟨rfl, rfl, rfl, rfl, rfl, rfl, rfl, rfl, rfl, rfl, rfl, rfl, trivial⟩ [0] rfl [0] rfl)
        rintro ⟨x22, x23, x24, x27, x28, x29, a25, c26⟩ h
        subst hj78
        refine JS.region (JO.reg ttOk 4 [(W (x0.2.2.2.2.1 + 1))] [] [(41, .v (.agg (cl26 (x22, x23, x24, x27, x28, x29) a25 c26).toArray)), (44, .v (.int .i64 (W (x0.2.2.2.2.1 + 1))))] _ rfl ⟨⟨trivial, rfl⟩, ⟨rfl, rfl, trivial⟩, rfl⟩ ?_)
        obtain ⟨y32, hy33, h⟩ := bindO_some h
        refine JO.call rfl rfl rfl rfl (ok_s_GridGo (x22, x23, x24, x27, x28, x29) 0 (W (x0.2.2.2.2.1 + 1)) a25 c26 x24.length rfl _ hy33) rfl [1] rfl rfl ?_
        rintro ⟨a34, c35⟩ -
        refine JO.regB ttOk 1 [] [] [] (.new 2 26 (cl26 x0 a3 c4) (.new 3 26 (cl26 (0, 0, [], 0, 0, false) none 0) (.new 13 26 (cl26 y32 a34 c35) .nil))) rfl ⟨trivial, ⟨rfl, rfl, rfl, rfl, rfl, rfl, rfl, rfl, rfl, rfl, rfl, rfl, trivial⟩⟩ (JO.done rfl (JS.endJ (y32.1, y32.2.1, y32.2.2.1, y32.2.2.2.1, y32.2.2.2.2.1, y32.2.2.2.2.2, a34, c35) h ⟨rfl, rfl, rfl, rfl, rfl, trivial⟩ ⟨rfl, rfl, rfl, rfl, rfl, rfl, rfl, rfl, rfl, rfl, rfl, rfl, trivial⟩ [0] rfl [0] rfl))
      have h := condF h ht79
      refine JS.skip (JS.endJ (y11.1, y11.2.1, y11.2.2.1, y11.2.2.2.1, y11.2.2.2.2.1, y11.2.2.2.2.2, a13, c14) h ⟨rfl, rfl, rfl, rfl, rfl, trivial⟩ ⟨rfl, rfl, rfl, rfl, rfl, rfl, rfl, rfl, rfl, rfl, rfl, rfl, trivial⟩ [0] rfl [0] rfl)
    rintro ⟨x38, x39, x40, x43, x44, x45, a41, c42⟩ h
    subst hj85
    refine JS.seq (JS.region (JO.reg ttOk 9 [(W (x44 * x0.1)), (W ((W (x44 * x0.1)) + x43))] [] [(7, .v (.int .i64 (W ((W (x44 * x0.1)) + x43))))] _ rfl ⟨⟨trivial, rfl⟩, ⟨trivial, rfl⟩, ⟨rfl, trivial⟩, rfl⟩ (JO.done rfl (JS.seq (JS.region (JO.reg ttOk 5 [(W ((W ((W (x44 * x0.1)) + x43)) + y9))] [] [(54, .v (.agg (cl26 (x38, x39, x40, x43, x44, x45) a41 c42).toArray)), (55, .v (.int .i64 (W ((W (x44 * x0.1)) + x43)))), (58, .v (.int .i64 (W ((W ((W (x44 * x0.1)) + x43)) + y9))))] _ rfl ⟨⟨trivial, rfl⟩, ⟨rfl, rfl, rfl, trivial⟩, rfl⟩ ?_))))))
    obtain ⟨y52, hy53, h⟩ := bindO_some h
    refine JO.call rfl rfl rfl rfl (ok_s_GridClear (x38, x39, x40, x43, x44, x45) (W ((W (x44 * x0.1)) + x43)) (W ((W ((W (x44 * x0.1)) + x43)) + y9)) a41 c42 x40.length rfl _ hy53) rfl [1] rfl rfl ?_
    rintro ⟨a54, c55⟩ -
    refine JO.regB ttOk 1 [] [] [] (.new 2 26 (cl26 x0 a3 c4) (.new 3 26 (cl26 (0, 0, [], 0, 0, false) none 0) (.new 13 26 (cl26 y52 a54 c55) .nil))) rfl ⟨trivial, ⟨rfl, rfl, rfl, rfl, rfl, rfl, rfl, rfl, rfl, rfl, rfl, rfl, trivial⟩⟩ (JO.done rfl (JS.seq (JS.region (JO.know 1 rfl fun hs80 => ?_))))
    obtain ⟨g57, h⟩ := guardO_some h
    refine JO.reg ttOk 5 [] [] [(63, .v (.int .i64 x1)), (64, .ep ⟨a54, y52.2.2.1.length, c55⟩ (Int.toNat (W ((W (x44 * x0.1)) + x43)) * 1))] _ rfl ⟨hs80.ix g57, ⟨rfl, rfl, trivial⟩, rfl⟩ (JO.storeE ttOk rfl rfl rfl rfl rfl rfl rfl rfl rfl [0] (fs := []) rfl (Int.toNat (W ((W (x44 * x0.1)) + x43))) 0 (at' y52.2.2.1 (W ((W (x44 * x0.1)) + x43))) x1 ⟨at_some g57, rfl⟩ ⟨rfl, rfl, rfl⟩ (JO.done rfl ?_))
    obtain ⟨j63, hj84, h⟩ := joinO_some h
    refine JS.seqJ (ι := List Int × Option Addr × Nat) ⟨fun z => j63 z.1 = some r, fun z => [(2, .bp 2 0), (4, .bp 3 0), (5, .v (.int .i64 y9)), (6, .bp 13 0)], fun z => (.new 2 26 (cl26 x0 a3 c4) (.new 3 26 (cl26 (0, 0, [], 0, 0, false) none 0) (.new 13 26 (cl26 (y52.1, y52.2.1, z.1, y52.2.2.2.1, y52.2.2.2.2.1, y52.2.2.2.2.2) z.2.1 z.2.2) .nil))), fun z => [⟨(.int .i64), ⟨a3, x0.2.2.1.length, c4⟩, x0.2.2.1⟩], fun z => [⟨(.int .i64), ⟨z.2.1, z.1.length, z.2.2⟩, z.1⟩], fun z => 0⟩ ?_ ?_
    · refine JS.seq (JS.region (JO.reg ttOk 2 [] [] [(66, .v (.bool (decide (y9 = 2))))] _ rfl ⟨⟨rfl, trivial⟩, rfl⟩ (JO.done rfl ?_)))
      refine JS.cond rfl (fun ht81 => ?_) (fun ht81 => ?_)
      · have h := condT h ht81
        refine JS.region ?_
        obtain ⟨g58, h⟩ := guardO_some h
        refine JO.reg ttOk 5 [(W ((W ((W (x44 * x0.1)) + x43)) + 1))] [] [(71, .ep ⟨a54, y52.2.2.1.length, c55⟩ (Int.toNat (W ((W ((W (x44 * x0.1)) + x43)) + 1)) * 1))] _ rfl ⟨⟨trivial, rfl⟩, hs80.ix g58, ⟨rfl, trivial⟩, rfl⟩ (JO.storeE ttOk rfl rfl rfl rfl rfl rfl rfl rfl rfl [0] (fs := []) rfl (Int.toNat (W ((W ((W (x44 * x0.1)) + x43)) + 1))) 0 (at' (List.set y52.2.2.1 (Int.toNat (W ((W (x44 * x0.1)) + x43))) x1) (W ((W ((W (x44 * x0.1)) + x43)) + 1))) (-1) ⟨at_someL (List.length_set.trans rfl) g58, rfl⟩ ⟨rfl, rfl, rfl⟩ (JO.done rfl (JS.endJ ((List.set (List.set y52.2.2.1 (Int.toNat (W ((W (x44 * x0.1)) + x43))) x1) (Int.toNat (W ((W ((W (x44 * x0.1)) + x43)) + 1))) (-1)), a54, c55) h ⟨rfl, rfl, rfl, rfl, trivial⟩ ⟨rfl, rfl, rfl, rfl, rfl, rfl, rfl, rfl, rfl, (congrArg (fun n => ([.int .i64 y52.1, .int .i64 y52.2.1, .slice a54 n c55, .int .i64 y52.2.2.2.1, .int .i64 y52.2.2.2.2.1, .bool y52.2.2.2.2.2] : List Value)) (List.length_set.trans (List.length_set.trans rfl))), rfl, rfl, trivial⟩ [0] rfl [0] (by simp only [List.length_set, List.length_replicate, pickO, getF, cl26, cl45]; rfl))))
      have h := condF h ht81
      refine JS.skip (JS.endJ ((List.set y52.2.2.1 (Int.toNat (W ((W (x44 * x0.1)) + x43))) x1), a54, c55) h ⟨rfl, rfl, rfl, rfl, trivial⟩ ⟨rfl, rfl, rfl, rfl, rfl, rfl, rfl, rfl, rfl, (congrArg (fun n => ([.int .i64 y52.1, .int .i64 y52.2.1, .slice a54 n c55, .int .i64 y52.2.2.2.1, .int .i64 y52.2.2.2.2.1, .bool y52.2.2.2.2.2] : List Value)) (List.length_set.trans rfl)), rfl, rfl, trivial⟩ [0] rfl [0] (by simp only [List.length_set, List.length_replicate, pickO, getF, cl26, cl45]; rfl))
    rintro ⟨x60, a61, c62⟩ h
    subst hj84
    obtain ⟨j68, hj83, h⟩ := joinO_some h
    refine JS.seqJ (ι := Int × Bool) ⟨fun z => j68 (z.1, z.2) = some r, fun z => [(4, .bp 3 0), (6, .bp 13 0)], fun z => (.new 3 26 (cl26 (0, 0, [], 0, 0, false) none 0) (.new 13 26 (cl26 (y52.1, y52.2.1, x60, z.1, y52.2.2.2.2.1, z.2) a61 c62) .nil)), fun z => [], fun z => [⟨(.int .i64), ⟨a61, x60.length, c62⟩, x60⟩], fun z => 0⟩ ?_ ?_
    · refine JS.seq (JS.region (JO.reg ttOk 7 [(W (y52.2.2.2.1 + y9))] [] [(78, .v (.bool (decide (x0.1 ≤ (W (y52.2.2.2.1 + y9))))))] _ rfl ⟨⟨trivial, rfl⟩, ⟨rfl, trivial⟩, rfl⟩ (JO.done rfl ?_)))
      refine JS.cond rfl (fun ht82 => ?_) (fun ht82 => ?_)
      · have h := condT h ht82
        refine JS.seq (JS.region (JO.regB ttOk 5 [(W (x0.1 - 1))] [] [] (.new 3 26 (cl26 (0, 0, [], 0, 0, false) none 0) (.new 13 26 (cl26 (y52.1, y52.2.1, x60, (W (x0.1 - 1)), y52.2.2.2.2.1, y52.2.2.2.2.2) a61 c62) .nil)) rfl ⟨⟨trivial, rfl⟩, trivial, ⟨rfl, rfl, rfl, rfl, rfl, rfl, rfl, rfl, trivial⟩⟩ (JO.done rfl (JS.region (JO.regB ttOk 2 [] [] [] (.new 3 26 (cl26 (0, 0, [], 0, 0, false) none 0) (.new 13 26 (cl26 (y52.1, y52.2.1, x60, (W (x0.1 - 1)), y52.2.2.2.2.1, true) a61 c62) .nil)) rfl ⟨trivial, ⟨rfl, rfl, rfl, rfl, rfl, rfl, rfl, rfl, trivial⟩⟩ (JO.done rfl (JS.endJ ((W (x0.1 - 1)), true) h ⟨rfl, rfl, trivial⟩ ⟨rfl, rfl, rfl, rfl, rfl, rfl, rfl, rfl, trivial⟩ [] rfl [0] rfl)))))))
      have h := condF h ht82
      refine JS.region (JO.regB ttOk 6 [(W (y52.2.2.2.1 + y9))] [] [] (.new 3 26 (cl26 (0, 0, [], 0, 0, false) none 0) (.new 13 26 (cl26 (y52.1, y52.2.1, x60, (W (y52.2.2.2.1 + y9)), y52.2.2.2.2.1, y52.2.2.2.2.2) a61 c62) .nil)) rfl ⟨⟨trivial, rfl⟩, trivial, ⟨rfl, rfl, rfl, rfl, rfl, rfl, rfl, rfl, trivial⟩⟩ (JO.done rfl (JS.endJ ((W (y52.2.2.2.1 + y9)), y52.2.2.2.2.2) h ⟨rfl, rfl, trivial⟩ ⟨rfl, rfl, rfl, rfl, rfl, rfl, rfl, rfl, trivial⟩ [] rfl [0] rfl)))
    rintro ⟨x66, x67⟩ h
    subst hj83
    refine JS.seq (JS.region (JO.regB ttOk 2 [] [] [] (.new 3 26 (cl26 (y52.1, y52.2.1, x60, x66, y52.2.2.2.2.1, x67) a61 c62) .nil) rfl ⟨trivial, ⟨rfl, rfl, rfl, rfl, trivial⟩⟩ (JO.done rfl ?_)))
    cases h
    exact JS.ret ttOk (a61, c62) trivial rfl rfl [0] rfl

def M_s_l08Fill_L1 (x0 : List UInt8 × Int × Int) (j96 : (Int × Int × List Int × Int × Int × Bool × Int × Int) → Option ((Int × Int × List Int × Int × Int × Bool) × List UInt8 × Int × Int)) (k81 : (Int × Int × Int × List Int × Int × Int × Bool × Int × Int) → Option ((Int × Int × List Int × Int × Int × Bool) × List UInt8 × Int × Int)) : (Int × Int × Int × List Int × Int × Int × Bool × Int × Int) → Option ((Int × Int × List Int × Int × Int × Bool) × List UInt8 × Int × Int) := fun (x17, x18, x19, x74, x20, x21, x22, x34, x35) =>
  (bif (decide (0 < x17)) then
  (joinO (fun ((x60, x61, x62, x65, x66, x67, x68, x69) : Int × Int × List Int × Int × Int × Bool × Int × Int) =>
  k81 ((W (x17 - 1)), x60, x61, x62, x65, x66, x67, x68, x69)) fun j70 =>
  (bindO (M_s_l02Rune (x0.1, x34, x35)) fun (y37, y38) =>
  (bindO (M_s_GridPut (x18, x19, x74, x20, x21, x22) y37) fun (y40 : Int × Int × List Int × Int × Int × Bool) =>
  (bindO (M_s_l01Below (x0.1, y38.2.1, y38.2.2) 5) fun (y45, y46) =>
  (bif (decide (y45 = 0)) then
  (bindO (M_s_l01Below (x0.1, y46.2.1, y46.2.2) y40.1) fun (y48, y49) =>
  (bindO (M_s_l01Below (x0.1, y49.2.1, y49.2.2) y40.2.1) fun (y51, y52) =>
  (bindO (M_s_GridGo y40 y48 y51) fun (y54 : Int × Int × List Int × Int × Int × Bool) =>
  j70 (y54.1, y54.2.1, y54.2.2.1, y54.2.2.2.1, y54.2.2.2.2.1, y54.2.2.2.2.2, y52.2.1, y52.2.2))))
  else
  j70 (y40.1, y40.2.1, y40.2.2.1, y40.2.2.2.1, y40.2.2.2.2.1, y40.2.2.2.2.2, y46.2.1, y46.2.2))))))
  else
  j96 (x18, x19, x74, x20, x21, x22, x34, x35))

def M_s_l08Fill (x0 : List UInt8 × Int × Int) (x1 : Int × Int × List Int × Int × Int × Bool) (x2 : Int) : Option ((Int × Int × List Int × Int × Int × Bool) × List UInt8 × Int × Int) :=
  (bindO (M_s_l01Below x0 (W (x2 + 1))) fun (y13, y14) =>
  (joinO (fun ((x86, x87, x88, x91, x92, x93, x94, x95) : Int × Int × List Int × Int × Int × Bool × Int × Int) =>
  some ((x86, x87, x88, x91, x92, x93), (x0.1, x94, x95))) fun j96 =>
  (fixF (M_s_l08Fill_L1 x0 j96) FUEL (y13, x1.1, x1.2.1, x1.2.2.1, x1.2.2.2.1, x1.2.2.2.2.1, x1.2.2.2.2.2, y14.2.1, y14.2.2))))

theorem ok_s_l08Fill (x0 : List UInt8 × Int × Int) (x1 : Int × Int × List Int × Int × Int × Bool) (x2 : Int) (a4 : Option Addr) (a5 : Option Addr) (c6 : Nat) (l7 : Nat) (hl8 : x0.1.length = l7) (a9 : Option Addr) (c10 : Nat) (l11 : Nat) (hl12 : x1.2.2.1.length = l11) (r : (Int × Int × List Int × Int × Int × Bool) × List UInt8 × Int × Int) (h : M_s_l08Fill x0 x1 x2 = some r) :
    FX Try.prog 61 [.pointer a4, .agg #[.int .i64 x1.1, .int .i64 x1.2.1, .slice a9 l11 c10, .int .i64 x1.2.2.2.1, .int .i64 x1.2.2.2.2.1, .bool x1.2.2.2.2.2], .int .i64 x2] [⟨.byte, ⟨a5, l7, c6⟩, x0.1⟩] [⟨(.pair .val (.pair (.int .i64) (.int .i64))), ⟨a4, 1, 1⟩, [((Sl.v ⟨a5, l7, c6⟩), x0.2.1, x0.2.2)]⟩, ⟨(.int .i64), ⟨a9, l11, c10⟩, x1.2.2.1⟩] (fun _ : Option Addr × Nat => True) (fun q => .agg (cl26 r.1 q.1 q.2).toArray) (fun q => [⟨(.pair .val (.pair (.int .i64) (.int .i64))), ⟨a4, 1, 1⟩, [((Sl.v ⟨a5, l7, c6⟩), r.2.2.1, r.2.2.2)]⟩, ⟨(.int .i64), ⟨q.1, r.1.2.2.1.length, q.2⟩, r.1.2.2.1⟩]) :=
  by
    subst hl8
    subst hl12
    refine FX.of (T := TTx) Try.call61 Try.func61 rfl rfl fun w0 L0 => ?_
    unfold M_s_l08Fill at h
    refine JS.ptr 0 a4 rfl ?_
    refine JS.seq (JS.region (JO.regB ttOk 2 [] [4, 5] [(4, .bp 4 0), (6, .bp 5 0)] (.new 4 26 (cl26 x1 a9 c10) (.new 5 26 (cl26 (0, 0, [], 0, 0, false) none 0) .nil)) rfl ⟨⟨rfl, rfl, trivial⟩, ⟨rfl, rfl, rfl, rfl, rfl, rfl, rfl, rfl, trivial⟩⟩ (JO.done rfl (JS.seq (JS.seq (JS.region (JO.reg ttOk 3 [(W (x2 + 1))] [] [(8, .ep ⟨a4, 1, 1⟩ 0), (10, .v (.int .i64 (W (x2 + 1))))] _ rfl ⟨⟨trivial, rfl⟩, ⟨rfl, rfl, trivial⟩, rfl⟩ ?_)))))))
    obtain ⟨⟨y13, y14⟩, hy15, h⟩ := bindO_some h
    refine JO.callX rfl rfl rfl rfl (ok_s_l01Below x0 (W (x2 + 1)) a4 a5 c6 x0.1.length rfl _ hy15) rfl [0] rfl [0] rfl rfl fun _ _ => JO.reg ttOk 1 [] [] [(7, .v (.int .i64 y13))] _ rfl ⟨⟨rfl, trivial⟩, rfl⟩ (JO.done rfl ?_)
    obtain ⟨j96, hj104, h⟩ := joinO_some h
    refine JS.blockJ (ι := Int × Int × List Int × Int × Int × Bool × Int × Int × Option Addr × Nat) ⟨fun z => j96 (z.1, z.2.1, z.2.2.1, z.2.2.2.1, z.2.2.2.2.1, z.2.2.2.2.2.1, z.2.2.2.2.2.2.1, z.2.2.2.2.2.2.2.1) = some r, fun z => [(4, .bp 4 0), (6, .bp 5 0)], fun z => (.new 4 26 (cl26 (z.1, z.2.1, z.2.2.1, z.2.2.2.1, z.2.2.2.2.1, z.2.2.2.2.2.1) z.2.2.2.2.2.2.2.2.1 z.2.2.2.2.2.2.2.2.2) (.new 5 26 (cl26 (0, 0, [], 0, 0, false) none 0) .nil)), fun z => [⟨.byte, ⟨a5, x0.1.length, c6⟩, x0.1⟩], fun z => [⟨(.int .i64), ⟨z.2.2.2.2.2.2.2.2.1, z.2.2.1.length, z.2.2.2.2.2.2.2.2.2⟩, z.2.2.1⟩, ⟨(.pair .val (.pair (.int .i64) (.int .i64))), ⟨a4, 1, 1⟩, [((Sl.v ⟨a5, x0.1.length, c6⟩), z.2.2.2.2.2.2.1, z.2.2.2.2.2.2.2.1)]⟩], fun z => 0⟩ ?_ ?_
    · refine JS.loop (ι := Nat × Int × Int × Int × List Int × Int × Int × Bool × Int × Int × Option Addr × Nat) ⟨fun z => fixF (M_s_l08Fill_L1 x0 j96) z.1 (z.2.1, z.2.2.1, z.2.2.2.1, z.2.2.2.2.1, z.2.2.2.2.2.1, z.2.2.2.2.2.2.1, z.2.2.2.2.2.2.2.1, z.2.2.2.2.2.2.2.2.1, z.2.2.2.2.2.2.2.2.2.1) = some r, fun z => [(0, .ep ⟨a4, 1, 1⟩ 0), (4, .bp 4 0), (6, .bp 5 0), (7, .v (.int .i64 z.2.1))], fun z => (.new 4 26 (cl26 (z.2.2.1, z.2.2.2.1, z.2.2.2.2.1, z.2.2.2.2.2.1, z.2.2.2.2.2.2.1, z.2.2.2.2.2.2.2.1) z.2.2.2.2.2.2.2.2.2.2.1 z.2.2.2.2.2.2.2.2.2.2.2) (.new 5 26 (cl26 (0, 0, [], 0, 0, false) none 0) .nil)), fun z => [⟨.byte, ⟨a5, x0.1.length, c6⟩, x0.1⟩], fun z => [⟨(.int .i64), ⟨z.2.2.2.2.2.2.2.2.2.2.1, z.2.2.2.2.1.length, z.2.2.2.2.2.2.2.2.2.2.2⟩, z.2.2.2.2.1⟩, ⟨(.pair .val (.pair (.int .i64) (.int .i64))), ⟨a4, 1, 1⟩, [((Sl.v ⟨a5, x0.1.length, c6⟩), z.2.2.2.2.2.2.2.2.1, z.2.2.2.2.2.2.2.2.2.1)]⟩], fun z => z.1⟩ (FUEL, y13, x1.1, x1.2.1, x1.2.2.1, x1.2.2.2.1, x1.2.2.2.2.1, x1.2.2.2.2.2, y14.2.1, y14.2.2, a9, c10) h ⟨rfl, rfl, rfl, rfl, trivial⟩ ⟨rfl, rfl, rfl, rfl, rfl, rfl, rfl, rfl, trivial⟩ [0] rfl [1, 0] rfl ?_
      rintro ⟨n82, x17, x18, x19, x74, x20, x21, x22, x34, x35, a75, c76⟩ h
      obtain ⟨n82, rfl, h⟩ := fixF_some h
      rw [M_s_l08Fill_L1] at h
      refine JS.seq (JS.seq (JS.region (JO.reg ttOk 2 [] [] [(13, .v (.bool (decide (0 < x17))))] _ rfl ⟨⟨rfl, trivial⟩, rfl⟩ (JO.done rfl ?_))))
      refine JS.cond rfl (fun ht103 => ?_) (fun ht103 => ?_)
      · have h := condT h ht103
        refine JS.skip (JS.seq ?_)
        obtain ⟨j70, hj102, h⟩ := joinO_some h
        refine JS.blockJ (ι := Int × Int × List Int × Int × Int × Bool × Int × Int × Option Addr × Nat) ⟨fun z => j70 (z.1, z.2.1, z.2.2.1, z.2.2.2.1, z.2.2.2.2.1, z.2.2.2.2.2.1, z.2.2.2.2.2.2.1, z.2.2.2.2.2.2.2.1) = some r, fun z => [(0, .ep ⟨a4, 1, 1⟩ 0), (4, .bp 4 0), (6, .bp 5 0), (7, .v (.int .i64 x17))], fun z => (.new 4 26 (cl26 (z.1, z.2.1, z.2.2.1, z.2.2.2.1, z.2.2.2.2.1, z.2.2.2.2.2.1) z.2.2.2.2.2.2.2.2.1 z.2.2.2.2.2.2.2.2.2) (.new 5 26 (cl26 (0, 0, [], 0, 0, false) none 0) .nil)), fun z => [⟨.byte, ⟨a5, x0.1.length, c6⟩, x0.1⟩], fun z => [⟨(.int .i64), ⟨z.2.2.2.2.2.2.2.2.1, z.2.2.1.length, z.2.2.2.2.2.2.2.2.2⟩, z.2.2.1⟩, ⟨(.pair .val (.pair (.int .i64) (.int .i64))), ⟨a4, 1, 1⟩, [((Sl.v ⟨a5, x0.1.length, c6⟩), z.2.2.2.2.2.2.1, z.2.2.2.2.2.2.2.1)]⟩], fun z => 0⟩ ?_ ?_
        · refine JS.seq ?_
          obtain ⟨⟨y37, y38⟩, hy39, h⟩ := bindO_some h
          obtain ⟨y40, hy41, h⟩ := bindO_some h
          refine JS.regionA rfl (.new 4 26 (cl26 (x18, x19, x74, x20, x21, x22) a75 c76) .nil) [] [3, 4] ⟨rfl, rfl, rfl, rfl, trivial⟩ rfl (fun be44 => ?_)
          refine JA.reg ttOk panic_cxX true 3 [0, 1] rfl (by kernel_rfl) [] [(16, .v (.agg (cl26 (x18, x19, x74, x20, x21, x22) a75 c76).toArray)), (17, .ep ⟨a4, 1, 1⟩ 0)] ⟨rfl, rfl, rfl, rfl, trivial⟩ [] rfl rfl ⟨rfl, rfl, trivial⟩ (JA.one 2 (by kernel_rfl) (JK.callX rfl rfl rfl rfl (ok_s_l02Rune (x0.1, x34, x35) a4 a5 c6 x0.1.length rfl _ hy39) rfl [1] rfl [0] rfl rfl fun _ _ => JA.next ⟨rfl, rfl, rfl, rfl, trivial⟩ [] rfl (JA.one 3 (by kernel_rfl) (JK.call rfl rfl rfl rfl (ok_s_GridPut (x18, x19, x74, x20, x21, x22) y37 a75 c76 x74.length rfl _ hy41) rfl [2] rfl rfl ?_))))
          rintro ⟨a42, c43⟩ -
          refine JA.nextL rfl (JA.one 4 (by kernel_rfl) (JK.stBox ttOk rfl rfl rfl rfl rfl rfl rfl rfl (JK.boxes (B' := (.new 4 26 (cl26 y40 a42 c43) (.new 5 26 (cl26 (0, 0, [], 0, 0, false) none 0) .nil))) ⟨rfl, rfl, rfl, rfl, rfl, rfl, rfl, rfl, trivial⟩ (JA.nextL rfl (JA.done (by kernel_rfl) (JS.boxes (B' := (.new 4 26 (cl26 y40 a42 c43) (.new 5 26 (cl26 (0, 0, [], 0, 0, false) none 0) .nil))) ⟨rfl, rfl, rfl, rfl, rfl, rfl, rfl, rfl, trivial⟩ (JS.seq (JS.region (JO.reg ttOk 1 [] [] [(20, .ep ⟨a4, 1, 1⟩ 0)] _ rfl ⟨⟨rfl, trivial⟩, rfl⟩ ?_)))))))))
          obtain ⟨⟨y45, y46⟩, hy47, h⟩ := bindO_some h
          refine JO.callX rfl rfl rfl rfl (ok_s_l01Below (x0.1, y38.2.1, y38.2.2) 5 a4 a5 c6 x0.1.length rfl _ hy47) rfl [1] rfl [0] rfl rfl fun _ _ => JO.reg ttOk 1 [] [] [(22, .v (.bool (decide (y45 = 0))))] _ rfl ⟨⟨rfl, trivial⟩, rfl⟩ (JO.done rfl ?_)
          refine JS.cond rfl (fun ht101 => ?_) (fun ht101 => ?_)
          · have h := condT h ht101
            obtain ⟨⟨y48, y49⟩, hy50, h⟩ := bindO_some h
            obtain ⟨⟨y51, y52⟩, hy53, h⟩ := bindO_some h
            obtain ⟨y54, hy55, h⟩ := bindO_some h
            refine JS.regionA rfl (.new 4 26 (cl26 y40 a42 c43) .nil) [] [9, 10] ⟨rfl, rfl, rfl, rfl, trivial⟩ rfl (fun be58 => ?_)
            refine JA.reg ttOk panic_cxX true 4 [0, 1, 2, 3, 5, 6, 7] rfl (by kernel_rfl) [] [(23, .v (.agg (cl26 y40 a42 c43).toArray)), (24, .ep ⟨a4, 1, 1⟩ 0), (26, .v (.int .i64 y40.1)), (28, .ep ⟨a4, 1, 1⟩ 0), (30, .v (.int .i64 y40.2.1))] ⟨rfl, rfl, rfl, rfl, trivial⟩ [] rfl rfl ⟨rfl, rfl, rfl, rfl, rfl, trivial⟩ (JA.one 4 (by kernel_rfl) (JK.callX rfl rfl rfl rfl (ok_s_l01Below (x0.1, y46.2.1, y46.2.2) y40.1 a4 a5 c6 x0.1.length rfl _ hy50) rfl [0] rfl [0] rfl rfl fun _ _ => JA.next ⟨rfl, rfl, rfl, rfl, trivial⟩ [] rfl (JA.one 8 (by kernel_rfl) (JK.callX rfl rfl rfl rfl (ok_s_l01Below (x0.1, y49.2.1, y49.2.2) y40.2.1 a4 a5 c6 x0.1.length rfl _ hy53) rfl [0] rfl [0] rfl rfl fun _ _ => JA.next ⟨rfl, rfl, rfl, rfl, trivial⟩ [] rfl (JA.one 9 (by kernel_rfl) (JK.call rfl rfl rfl rfl (ok_s_GridGo y40 y48 y51 a42 c43 y40.2.2.1.length rfl _ hy55) rfl [2] rfl rfl ?_))))))
            rintro ⟨a56, c57⟩ -
            refine JA.nextL rfl (JA.one 10 (by kernel_rfl) (JK.stBox ttOk rfl rfl rfl rfl rfl rfl rfl rfl (JK.boxes (B' := (.new 4 26 (cl26 y54 a56 c57) (.new 5 26 (cl26 (0, 0, [], 0, 0, false) none 0) .nil))) ⟨rfl, rfl, rfl, rfl, rfl, rfl, rfl, rfl, trivial⟩ (JA.nextL rfl (JA.done (by kernel_rfl) (JS.boxes (B' := (.new 4 26 (cl26 y54 a56 c57) (.new 5 26 (cl26 (0, 0, [], 0, 0, false) none 0) .nil))) ⟨rfl, rfl, rfl, rfl, rfl, rfl, rfl, rfl, trivial⟩ (JS.endB (JS.endJ (y54.1, y54.2.1, y54.2.2.1, y54.2.2.2.1, y54.2.2.2.2.1, y54.2.2.2.2.2, y52.2.1, y52.2.2, a56, c57) h ⟨rfl, rfl, rfl, rfl, trivial⟩ ⟨rfl, rfl, rfl, rfl, rfl, rfl, rfl, rfl, trivial⟩ [0] rfl [0, 0] rfl))))))))
          have h := condF h ht101
          refine JS.skip (JS.endB (JS.endJ (y40.1, y40.2.1, y40.2.2.1, y40.2.2.2.1, y40.2.2.2.2.1, y40.2.2.2.2.2, y46.2.1, y46.2.2, a42, c43) h ⟨rfl, rfl, rfl, rfl, trivial⟩ ⟨rfl, rfl, rfl, rfl, rfl, rfl, rfl, rfl, trivial⟩ [0] rfl [1, 0] rfl))
        rintro ⟨x60, x61, x62, x65, x66, x67, x68, x69, a63, c64⟩ h
        subst hj102
        refine JS.region (JO.reg ttOk 3 [(W (x17 - 1))] [] [(7, .v (.int .i64 (W (x17 - 1))))] _ rfl ⟨⟨trivial, rfl⟩, ⟨rfl, trivial⟩, rfl⟩ (JO.done rfl (JS.endL (n82, (W (x17 - 1)), x60, x61, x62, x65, x66, x67, x68, x69, a63, c64) h (Nat.lt_succ_self _) ⟨rfl, rfl, rfl, rfl, trivial⟩ ⟨rfl, rfl, rfl, rfl, rfl, rfl, rfl, rfl, trivial⟩ [0] rfl [0, 0] rfl)))
      have h := condF h ht103
      refine JS.exit rfl (JS.endJ (x18, x19, x74, x20, x21, x22, x34, x35, a75, c76) h ⟨rfl, rfl, trivial⟩ ⟨rfl, rfl, rfl, rfl, rfl, rfl, rfl, rfl, trivial⟩ [0] rfl [0, 0] rfl)
    rintro ⟨x86, x87, x88, x91, x92, x93, x94, x95, a89, c90⟩ h
    subst hj104
    refine JS.seq (JS.region (JO.regB ttOk 2 [] [] [] (.new 5 26 (cl26 (x86, x87, x88, x91, x92, x93) a89 c90) .nil) rfl ⟨trivial, ⟨rfl, rfl, rfl, rfl, trivial⟩⟩ (JO.done rfl ?_)))
    cases h
    exact JS.retX ttOk (a89, c90) trivial rfl rfl [1, 0] rfl

def M_s_l08Draw (x0 : List UInt8 × Int × Int) : Option ((Int × Int × List Int × Int × Int × Bool) × List UInt8 × Int × Int) :=
  (bindO (M_s_l08Sized x0) fun (y7, y8) =>
  (bindO (M_s_l08Fill (x0.1, y8.2.1, y8.2.2) y7 24) fun (y12, y13) =>
  some (y12, (x0.1, y13.2.1, y13.2.2))))

theorem ok_s_l08Draw (x0 : List UInt8 × Int × Int) (a2 : Option Addr) (a3 : Option Addr) (c4 : Nat) (l5 : Nat) (hl6 : x0.1.length = l5) (r : (Int × Int × List Int × Int × Int × Bool) × List UInt8 × Int × Int) (h : M_s_l08Draw x0 = some r) :
    FX Try.prog 58 [.pointer a2] [⟨.byte, ⟨a3, l5, c4⟩, x0.1⟩] [⟨(.pair .val (.pair (.int .i64) (.int .i64))), ⟨a2, 1, 1⟩, [((Sl.v ⟨a3, l5, c4⟩), x0.2.1, x0.2.2)]⟩] (fun _ : Option Addr × Nat => True) (fun q => .agg (cl26 r.1 q.1 q.2).toArray) (fun q => [⟨(.pair .val (.pair (.int .i64) (.int .i64))), ⟨a2, 1, 1⟩, [((Sl.v ⟨a3, l5, c4⟩), r.2.2.1, r.2.2.2)]⟩, ⟨(.int .i64), ⟨q.1, r.1.2.2.1.length, q.2⟩, r.1.2.2.1⟩]) :=
  by
    subst hl6
    refine FX.of (T := TTx) Try.call58 Try.func58 rfl rfl fun w0 L0 => ?_
    unfold M_s_l08Draw at h
    refine JS.ptr 0 a2 rfl ?_
    refine JS.seq (JS.region (JO.regB ttOk 1 [] [3] [(2, .bp 3 0)] (.new 3 26 (cl26 (0, 0, [], 0, 0, false) none 0) .nil) rfl ⟨⟨rfl, trivial⟩, ⟨rfl, rfl, rfl, rfl, trivial⟩⟩ (JO.done rfl (JS.seq (JS.region (JO.reg ttOk 1 [] [] [(4, .ep ⟨a2, 1, 1⟩ 0)] _ rfl ⟨⟨rfl, trivial⟩, rfl⟩ ?_))))))
    obtain ⟨⟨y7, y8⟩, hy9, h⟩ := bindO_some h
    refine JO.callX rfl rfl rfl rfl (ok_s_l08Sized x0 a2 a3 c4 x0.1.length rfl _ hy9) rfl [0] rfl [0] rfl rfl ?_
    rintro ⟨a10, c11⟩ -
    refine JO.regB ttOk 2 [] [10] [(3, .bp 10 0)] (.new 3 26 (cl26 (0, 0, [], 0, 0, false) none 0) (.new 10 26 (cl26 y7 a10 c11) .nil)) rfl ⟨⟨rfl, trivial⟩, ⟨rfl, rfl, rfl, rfl, rfl, rfl, rfl, rfl, trivial⟩⟩ (JO.done rfl (JS.seq (JS.region (JO.reg ttOk 2 [] [] [(6, .ep ⟨a2, 1, 1⟩ 0), (7, .v (.agg (cl26 y7 a10 c11).toArray))] _ rfl ⟨⟨rfl, rfl, trivial⟩, rfl⟩ ?_))))
    obtain ⟨⟨y12, y13⟩, hy14, h⟩ := bindO_some h
    refine JO.callX rfl rfl rfl rfl (ok_s_l08Fill (x0.1, y8.2.1, y8.2.2) y7 24 a2 a3 c4 x0.1.length rfl a10 c11 y7.2.2.1.length rfl _ hy14) rfl [0, 0] rfl [0] rfl rfl ?_
    rintro ⟨a15, c16⟩ -
    refine JO.regB ttOk 1 [] [] [] (.new 3 26 (cl26 y12 a15 c16) .nil) rfl ⟨trivial, ⟨rfl, rfl, rfl, rfl, trivial⟩⟩ (JO.done rfl ?_)
    cases h
    exact JS.retX ttOk (a15, c16) trivial rfl rfl [0, 0] rfl

def M_s_RuneBytes (x0 : Int) : Option (List UInt8) :=
  (bindO (M_s_RuneOk x0) fun (y2 : Bool) =>
  (bif (!y2) then
  some ([])
  else
  (bif (decide (x0 < 128)) then
  some ([(u8 (x0))] : List UInt8)
  else
  (bif (decide (x0 < 2048)) then
  some ([(u8 ((W (192 + (W (Int.tdiv x0 64)))))), (u8 ((W (128 + (Int.tmod x0 64)))))] : List UInt8)
  else
  (bif (decide (x0 < 65536)) then
  some ([(u8 ((W (224 + (W (Int.tdiv x0 4096)))))), (u8 ((W (128 + (Int.tmod (W (Int.tdiv x0 64)) 64))))), (u8 ((W (128 + (Int.tmod x0 64)))))] : List UInt8)
  else
  some ([(u8 ((W (240 + (W (Int.tdiv x0 262144)))))), (u8 ((W (128 + (Int.tmod (W (Int.tdiv x0 4096)) 64))))), (u8 ((W (128 + (Int.tmod (W (Int.tdiv x0 64)) 64))))), (u8 ((W (128 + (Int.tmod x0 64)))))] : List UInt8))))))

theorem ok_s_RuneBytes (x0 : Int) (r : List UInt8) (h : M_s_RuneBytes x0 = some r) :
    FC Try.prog 103 [.int .i64 x0] [] (fun _ : Option Addr × Nat => True) (fun q => .slice q.1 r.length q.2) (fun q => [⟨.byte, ⟨q.1, r.length, q.2⟩, r⟩]) :=
  by
    refine FC.of (T := TTx) Try.call103 Try.func103 rfl rfl fun w0 => ?_
    unfold M_s_RuneBytes at h
    refine JS.seq (JS.region (JO.reg ttOk 1 [] [] [] _ rfl ⟨trivial, rfl⟩ (JO.done rfl (JS.seq (JS.seq (JS.region (JO.reg ttOk 1 [] [] [(3, .v (.int .i64 x0))] _ rfl ⟨⟨rfl, trivial⟩, rfl⟩ ?_)))))))
    obtain ⟨y2, hy3, h⟩ := bindO_some h
    refine JO.call rfl rfl rfl rfl (ok_s_RuneOk x0 _ hy3) rfl [] rfl rfl fun _ _ => JO.reg ttOk 1 [] [] [(5, .v (.bool (!y2)))] _ rfl ⟨⟨rfl, trivial⟩, rfl⟩ (JO.done rfl ?_)
    refine JS.cond rfl (fun ht27 => ?_) (fun ht27 => ?_)
    · have h := condT h ht27
      refine JS.seq (JS.region (JO.reg ttOk 1 [] [] [(2, .v (.slice none 0 0))] _ rfl ⟨⟨rfl, trivial⟩, rfl⟩ (JO.done rfl ?_)))
      cases h
      refine JS.nilO .byte Sl.nil rfl rfl (JS.ret ttOk (none, 0) trivial rfl rfl [0] rfl)
    have h := condF h ht27
    refine JS.skip (JS.seq (JS.seq (JS.region (JO.reg ttOk 2 [] [] [(7, .v (.bool (decide (x0 < 128))))] _ rfl ⟨⟨rfl, trivial⟩, rfl⟩ (JO.done rfl ?_)))))
    refine JS.cond rfl (fun ht26 => ?_) (fun ht26 => ?_)
    · have h := condT h ht26
      refine JS.seq (JS.region (JO.reg ttOk 2 [((u8 (x0)).toNat : Int)] [] [(9, .v (.int .u8 ((u8 (x0)).toNat : Int)))] _ rfl ⟨⟨trivial, u8_wrap _⟩, ⟨rfl, trivial⟩, rfl⟩ ?_))
      refine JO.ofK rfl (JK.buildSlice ttOk rfl rfl rfl rfl rfl rfl rfl rfl rfl rfl rfl [] rfl .byte [(u8 (x0))] ⟨rfl, rfl⟩ rfl rfl fun a4 => JO.toK ?_)
      refine JO.reg ttOk 1 [] [] [(2, .v (.slice a4 ([(u8 (x0))] : List UInt8).length ([(u8 (x0))] : List UInt8).length))] _ rfl ⟨⟨rfl, trivial⟩, rfl⟩ (JO.done rfl ?_)
      cases h
      exact JS.ret ttOk (a4, ([(u8 (x0))] : List UInt8).length) trivial rfl rfl [0] rfl
    have h := condF h ht26
    refine JS.skip (JS.seq (JS.seq (JS.region (JO.reg ttOk 2 [] [] [(12, .v (.bool (decide (x0 < 2048))))] _ rfl ⟨⟨rfl, trivial⟩, rfl⟩ (JO.done rfl ?_)))))
    refine JS.cond rfl (fun ht25 => ?_) (fun ht25 => ?_)
    · have h := condT h ht25
      refine JS.seq (JS.region ?_)
      have g5 : (64 : Int) ≠ 0 := by decide
      have g6 : (64 : Int) ≠ 0 := by decide
      refine JO.reg ttOk 8 [(W (Int.tdiv x0 64)), (W (192 + (W (Int.tdiv x0 64)))), ((u8 ((W (192 + (W (Int.tdiv x0 64)))))).toNat : Int), (W (128 + (Int.tmod x0 64))), ((u8 ((W (128 + (Int.tmod x0 64))))).toNat : Int)] [] [(16, .v (.int .u8 ((u8 ((W (192 + (W (Int.tdiv x0 64)))))).toNat : Int))), (20, .v (.int .u8 ((u8 ((W (128 + (Int.tmod x0 64))))).toNat : Int)))] _ rfl ⟨⟨g5, rfl⟩, ⟨trivial, rfl⟩, ⟨trivial, u8_wrap _⟩, g6, ⟨trivial, rfl⟩, ⟨trivial, u8_wrap _⟩, ⟨rfl, rfl, trivial⟩, rfl⟩ ?_
      refine JO.ofK rfl (JK.buildSlice ttOk rfl rfl rfl rfl rfl rfl rfl rfl rfl rfl rfl [] rfl .byte [(u8 ((W (192 + (W (Int.tdiv x0 64)))))), (u8 ((W (128 + (Int.tmod x0 64)))))] ⟨rfl, rfl⟩ rfl rfl fun a7 => JO.toK ?_)
      refine JO.reg ttOk 1 [] [] [(2, .v (.slice a7 ([(u8 ((W (192 + (W (Int.tdiv x0 64)))))), (u8 ((W (128 + (Int.tmod x0 64)))))] : List UInt8).length ([(u8 ((W (192 + (W (Int.tdiv x0 64)))))), (u8 ((W (128 + (Int.tmod x0 64)))))] : List UInt8).length))] _ rfl ⟨⟨rfl, trivial⟩, rfl⟩ (JO.done rfl ?_)
      cases h
      exact JS.ret ttOk (a7, ([(u8 ((W (192 + (W (Int.tdiv x0 64)))))), (u8 ((W (128 + (Int.tmod x0 64)))))] : List UInt8).length) trivial rfl rfl [0] rfl
    have h := condF h ht25
    refine JS.skip (JS.seq (JS.seq (JS.region (JO.reg ttOk 2 [] [] [(23, .v (.bool (decide (x0 < 65536))))] _ rfl ⟨⟨rfl, trivial⟩, rfl⟩ (JO.done rfl ?_)))))
    refine JS.cond rfl (fun ht24 => ?_) (fun ht24 => ?_)
    · have h := condT h ht24
      refine JS.seq (JS.region ?_)
      have g8 : (4096 : Int) ≠ 0 := by decide
      have g9 : (64 : Int) ≠ 0 := by decide
      have g10 : (64 : Int) ≠ 0 := by decide
      have g11 : (64 : Int) ≠ 0 := by decide
      refine JO.reg ttOk 13 [(W (Int.tdiv x0 4096)), (W (224 + (W (Int.tdiv x0 4096)))), ((u8 ((W (224 + (W (Int.tdiv x0 4096)))))).toNat : Int), (W (Int.tdiv x0 64)), (W (128 + (Int.tmod (W (Int.tdiv x0 64)) 64))), ((u8 ((W (128 + (Int.tmod (W (Int.tdiv x0 64)) 64))))).toNat : Int), (W (128 + (Int.tmod x0 64))), ((u8 ((W (128 + (Int.tmod x0 64))))).toNat : Int)] [] [(27, .v (.int .u8 ((u8 ((W (224 + (W (Int.tdiv x0 4096)))))).toNat : Int))), (32, .v (.int .u8 ((u8 ((W (128 + (Int.tmod (W (Int.tdiv x0 64)) 64))))).toNat : Int))), (36, .v (.int .u8 ((u8 ((W (128 + (Int.tmod x0 64))))).toNat : Int)))] _ rfl ⟨⟨g8, rfl⟩, ⟨trivial, rfl⟩, ⟨trivial, u8_wrap _⟩, ⟨g9, rfl⟩, g10, ⟨trivial, rfl⟩, ⟨trivial, u8_wrap _⟩, g11, ⟨trivial, rfl⟩, ⟨trivial, u8_wrap _⟩, ⟨rfl, rfl, rfl, trivial⟩, rfl⟩ ?_
      refine JO.ofK rfl (JK.buildSlice ttOk rfl rfl rfl rfl rfl rfl rfl rfl rfl rfl rfl [] rfl .byte [(u8 ((W (224 + (W (Int.tdiv x0 4096)))))), (u8 ((W (128 + (Int.tmod (W (Int.tdiv x0 64)) 64))))), (u8 ((W (128 + (Int.tmod x0 64)))))] ⟨rfl, rfl⟩ rfl rfl fun a12 => JO.toK ?_)
      refine JO.reg ttOk 1 [] [] [(2, .v (.slice a12 ([(u8 ((W (224 + (W (Int.tdiv x0 4096)))))), (u8 ((W (128 + (Int.tmod (W (Int.tdiv x0 64)) 64))))), (u8 ((W (128 + (Int.tmod x0 64)))))] : List UInt8).length ([(u8 ((W (224 + (W (Int.tdiv x0 4096)))))), (u8 ((W (128 + (Int.tmod (W (Int.tdiv x0 64)) 64))))), (u8 ((W (128 + (Int.tmod x0 64)))))] : List UInt8).length))] _ rfl ⟨⟨rfl, trivial⟩, rfl⟩ (JO.done rfl ?_)
      cases h
      exact JS.ret ttOk (a12, ([(u8 ((W (224 + (W (Int.tdiv x0 4096)))))), (u8 ((W (128 + (Int.tmod (W (Int.tdiv x0 64)) 64))))), (u8 ((W (128 + (Int.tmod x0 64)))))] : List UInt8).length) trivial rfl rfl [0] rfl
    have h := condF h ht24
    refine JS.skip (JS.seq (JS.region ?_))
    have g13 : (262144 : Int) ≠ 0 := by decide
    have g14 : (4096 : Int) ≠ 0 := by decide
    have g15 : (64 : Int) ≠ 0 := by decide
    have g16 : (64 : Int) ≠ 0 := by decide
    have g17 : (64 : Int) ≠ 0 := by decide
    have g18 : (64 : Int) ≠ 0 := by decide
    refine JO.reg ttOk 18 [(W (Int.tdiv x0 262144)), (W (240 + (W (Int.tdiv x0 262144)))), ((u8 ((W (240 + (W (Int.tdiv x0 262144)))))).toNat : Int), (W (Int.tdiv x0 4096)), (W (128 + (Int.tmod (W (Int.tdiv x0 4096)) 64))), ((u8 ((W (128 + (Int.tmod (W (Int.tdiv x0 4096)) 64))))).toNat : Int), (W (Int.tdiv x0 64)), (W (128 + (Int.tmod (W (Int.tdiv x0 64)) 64))), ((u8 ((W (128 + (Int.tmod (W (Int.tdiv x0 64)) 64))))).toNat : Int), (W (128 + (Int.tmod x0 64))), ((u8 ((W (128 + (Int.tmod x0 64))))).toNat : Int)] [] [(41, .v (.int .u8 ((u8 ((W (240 + (W (Int.tdiv x0 262144)))))).toNat : Int))), (46, .v (.int .u8 ((u8 ((W (128 + (Int.tmod (W (Int.tdiv x0 4096)) 64))))).toNat : Int))), (51, .v (.int .u8 ((u8 ((W (128 + (Int.tmod (W (Int.tdiv x0 64)) 64))))).toNat : Int))), (55, .v (.int .u8 ((u8 ((W (128 + (Int.tmod x0 64))))).toNat : Int)))] _ rfl ⟨⟨g13, rfl⟩, ⟨trivial, rfl⟩, ⟨trivial, u8_wrap _⟩, ⟨g14, rfl⟩, g15, ⟨trivial, rfl⟩, ⟨trivial, u8_wrap _⟩, ⟨g16, rfl⟩, g17, ⟨trivial, rfl⟩, ⟨trivial, u8_wrap _⟩, g18, ⟨trivial, rfl⟩, ⟨trivial, u8_wrap _⟩, ⟨rfl, rfl, rfl, rfl, trivial⟩, rfl⟩ ?_
    refine JO.ofK rfl (JK.buildSlice ttOk rfl rfl rfl rfl rfl rfl rfl rfl rfl rfl rfl [] rfl .byte [(u8 ((W (240 + (W (Int.tdiv x0 262144)))))), (u8 ((W (128 + (Int.tmod (W (Int.tdiv x0 4096)) 64))))), (u8 ((W (128 + (Int.tmod (W (Int.tdiv x0 64)) 64))))), (u8 ((W (128 + (Int.tmod x0 64)))))] ⟨rfl, rfl⟩ rfl rfl fun a19 => JO.toK ?_)
    refine JO.reg ttOk 1 [] [] [(2, .v (.slice a19 ([(u8 ((W (240 + (W (Int.tdiv x0 262144)))))), (u8 ((W (128 + (Int.tmod (W (Int.tdiv x0 4096)) 64))))), (u8 ((W (128 + (Int.tmod (W (Int.tdiv x0 64)) 64))))), (u8 ((W (128 + (Int.tmod x0 64)))))] : List UInt8).length ([(u8 ((W (240 + (W (Int.tdiv x0 262144)))))), (u8 ((W (128 + (Int.tmod (W (Int.tdiv x0 4096)) 64))))), (u8 ((W (128 + (Int.tmod (W (Int.tdiv x0 64)) 64))))), (u8 ((W (128 + (Int.tmod x0 64)))))] : List UInt8).length))] _ rfl ⟨⟨rfl, trivial⟩, rfl⟩ (JO.done rfl ?_)
    cases h
    exact JS.ret ttOk (a19, ([(u8 ((W (240 + (W (Int.tdiv x0 262144)))))), (u8 ((W (128 + (Int.tmod (W (Int.tdiv x0 4096)) 64))))), (u8 ((W (128 + (Int.tmod (W (Int.tdiv x0 64)) 64))))), (u8 ((W (128 + (Int.tmod x0 64)))))] : List UInt8).length) trivial rfl rfl [0] rfl

def M_s_TextOf_L1 (x0 : List Int) (j28 : (List UInt8) → Option (List UInt8)) (k21 : (List UInt8 × Int) → Option (List UInt8)) : (List UInt8 × Int) → Option (List UInt8) := fun (x7, x10) =>
  (bif (decide (x10 < (x0.length : Int))) then
  (guardO (0 ≤ x10 ∧ x10 < (x0.length : Int)) <|
  (bindO (M_s_RuneBytes (at' x0 x10)) fun (y13 : List UInt8) =>
  (guardO (x7.length + y13.length ≤ 536870912) <|
  k21 ((x7 ++ y13), (W (x10 + 1))))))
  else
  j28 x7)

def M_s_TextOf (x0 : List Int) : Option (List UInt8) :=
  (joinO (fun (x25 : List UInt8) =>
  some x25) fun j28 =>
  (fixF (M_s_TextOf_L1 x0 j28) FUEL (([] : List UInt8), 0)))

theorem ok_s_TextOf (x0 : List Int) (a2 : Option Addr) (c3 : Nat) (l4 : Nat) (hl5 : x0.length = l4) (r : List UInt8) (h : M_s_TextOf x0 = some r) :
    FC Try.prog 97 [.slice a2 l4 c3] [⟨(.int .i64), ⟨a2, l4, c3⟩, x0⟩] (fun _ : Unit => True) (fun _ => .string (bs r)) (fun _ => []) :=
  by
    subst hl5
    refine FC.of (T := TTx) Try.call97 Try.func97 rfl rfl fun w0 => ?_
    unfold M_s_TextOf at h
    refine JS.seq (JS.region (JO.reg ttOk 1 [] [] [] _ rfl ⟨trivial, rfl⟩ (JO.done rfl (JS.seq (JS.region ?_)))))
    refine JO.ofK rfl (JK.buildSlice ttOk rfl rfl rfl rfl rfl rfl rfl rfl rfl rfl rfl [] rfl .byte [] ⟨rfl, rfl⟩ rfl rfl fun a6 => JO.toK ?_)
    refine JO.reg ttOk 1 [] [] [(3, .v (.slice a6 ([] : List UInt8).length ([] : List UInt8).length))] _ rfl ⟨⟨rfl, trivial⟩, rfl⟩ (JO.done rfl (JS.seq (JS.seq (JS.region (JO.reg ttOk 3 [] [] [(7, .v (.slice a2 x0.length c3)), (8, .v (.int .i64 (x0.length : Int))), (9, .v (.int .i64 0))] _ rfl ⟨⟨rfl, rfl, rfl, trivial⟩, rfl⟩ (JO.done rfl ?_))))))
    obtain ⟨j28, hj34, h⟩ := joinO_some h
    refine JS.blockJ (ι := List UInt8 × Option Addr × Nat) ⟨fun z => j28 z.1 = some r, fun z => [(3, .v (.slice z.2.1 z.1.length z.2.2))], fun z => .nil, fun z => [], fun z => [⟨.byte, ⟨z.2.1, z.1.length, z.2.2⟩, z.1⟩], fun z => 0⟩ ?_ ?_
    · refine JS.loop (ι := Nat × List UInt8 × Int × Option Addr × Nat) ⟨fun z => fixF (M_s_TextOf_L1 x0 j28) z.1 (z.2.1, z.2.2.1) = some r, fun z => [(3, .v (.slice z.2.2.2.1 z.2.1.length z.2.2.2.2)), (7, .v (.slice a2 x0.length c3)), (8, .v (.int .i64 (x0.length : Int))), (9, .v (.int .i64 z.2.2.1))], fun z => .nil, fun z => [⟨(.int .i64), ⟨a2, x0.length, c3⟩, x0⟩], fun z => [⟨.byte, ⟨z.2.2.2.1, z.2.1.length, z.2.2.2.2⟩, z.2.1⟩], fun z => z.1⟩ (FUEL, ([] : List UInt8), 0, a6, ([] : List UInt8).length) h ⟨rfl, rfl, rfl, rfl, trivial⟩ trivial [0] rfl [0] rfl ?_
      rintro ⟨n22, x7, x10, a8, c9⟩ h
      obtain ⟨n22, rfl, h⟩ := fixF_some h
      rw [M_s_TextOf_L1] at h
      refine JS.seq (JS.region (JO.reg ttOk 1 [] [] [(10, .v (.bool (decide (x10 < (x0.length : Int)))))] _ rfl ⟨⟨rfl, trivial⟩, rfl⟩ (JO.done rfl (JS.seq ?_))))
      refine JS.cond rfl (fun ht33 => ?_) (fun ht33 => ?_)
      · have h := condT h ht33
        refine JS.skip (JS.seq (JS.block (JS.seq (JS.region (JO.know 0 rfl fun hs32 => ?_)))))
        obtain ⟨g12, h⟩ := guardO_some h
        refine JO.reg ttOk 1 [] [] [(11, .ep ⟨a2, x0.length, c3⟩ (Int.toNat x10 * 1))] _ rfl ⟨hs32.ix g12, ⟨rfl, trivial⟩, rfl⟩ (JO.load ttOk rfl rfl rfl rfl rfl rfl rfl 0 rfl rfl (Int.toNat x10) 0 (at' x0 x10) ⟨at_some g12, rfl⟩ rfl rfl (JO.reg ttOk 1 [] [] [(5, .v (.int .i64 (at' x0 x10)))] _ rfl ⟨⟨rfl, trivial⟩, rfl⟩ (JO.done rfl (JS.region (JO.reg ttOk 2 [] [] [(13, .v (.slice a8 x7.length c9)), (14, .v (.int .i64 (at' x0 x10)))] _ rfl ⟨⟨rfl, rfl, trivial⟩, rfl⟩ ?_)))))
        obtain ⟨y13, hy14, h⟩ := bindO_some h
        refine JO.call rfl rfl rfl rfl (ok_s_RuneBytes (at' x0 x10) _ hy14) rfl [] rfl rfl ?_
        rintro ⟨a15, c16⟩ -
        obtain ⟨g17, h⟩ := guardO_some h
        refine JO.appendR' ttOk rfl rfl rfl rfl ⟨rfl, rfl, rfl, rfl, trivial, rfl, rfl, rfl, rfl⟩ rfl rfl rfl [1] rfl 1 rfl g17 rfl fun a18 c19 => JO.reg ttOk 1 [] [] [(3, .v (.slice a18 (x7 ++ y13).length c19))] _ rfl ⟨⟨rfl, trivial⟩, rfl⟩ (JO.done rfl (JS.endB (JS.region (JO.reg ttOk 2 [(W (x10 + 1))] [] [(9, .v (.int .i64 (W (x10 + 1))))] _ rfl ⟨⟨trivial, rfl⟩, ⟨rfl, trivial⟩, rfl⟩ (JO.done rfl (JS.endL (n22, (x7 ++ y13), (W (x10 + 1)), a18, c19) h (Nat.lt_succ_self _) ⟨rfl, rfl, rfl, rfl, trivial⟩ trivial [0] rfl [0] rfl))))))
      have h := condF h ht33
      refine JS.exit rfl (JS.endJ (x7, a8, c9) h ⟨rfl, trivial⟩ trivial [] rfl [0] rfl)
    rintro ⟨x25, a26, c27⟩ h
    subst hj34
    refine JS.seq (JS.region (JO.reg ttOk 1 [] [] [(18, .v (.slice a26 x25.length c27))] _ rfl ⟨⟨rfl, trivial⟩, rfl⟩ (JO.strOf ttOk rfl rfl rfl rfl rfl rfl rfl rfl 0 rfl rfl (JO.reg ttOk 1 [] [] [(2, .v (.string (bs x25)))] _ rfl ⟨⟨rfl, trivial⟩, rfl⟩ (JO.done rfl ?_)))))
    cases h
    exact JS.ret ttOk () trivial rfl rfl [] rfl

def M_s_l09Out_L1 (x0 : List UInt8 × Int × Int) (j101 : (List UInt8 × Int × Int) → Option (List UInt8 × List UInt8 × Int × Int)) (k87 : (List UInt8 × Int × Int × Int) → Option (List UInt8 × List UInt8 × Int × Int)) : (List UInt8 × Int × Int × Int) → Option (List UInt8 × List UInt8 × Int × Int) := fun (x12, x15, x19, x20) =>
  (bif (decide (0 < x15)) then
  (joinO (fun ((x62, x65, x66) : List UInt8 × Int × Int) =>
  k87 (x62, (W (x15 - 1)), x65, x66)) fun j67 =>
  (bindO (M_s_l01Below (x0.1, x19, x20) 10) fun (y21, y22) =>
  (bif (decide (y21 < 4)) then
  (bindO (M_s_l02Rune (x0.1, y22.2.1, y22.2.2)) fun (y24, y25) =>
  (bindO (M_s_TextOf ([y24] : List Int)) fun (y28 : List UInt8) =>
  (guardO (x12.length + y28.length ≤ 536870912) <|
  j67 ((x12 ++ y28), y25.2.1, y25.2.2))))
  else
  (bif (decide (y21 = 4)) then
  (bindO (M_s_l01Below (x0.1, y22.2.1, y22.2.2) 7) fun (y34, y35) =>
  (guardO (0 ≤ y34 ∧ y34 < (([(7 : UInt8), (8 : UInt8), (10 : UInt8), (13 : UInt8), (10 : UInt8), (0 : UInt8), (127 : UInt8)] : List UInt8).length : Int)) <|
  (guardO (x12.length + ([(at' ([(7 : UInt8), (8 : UInt8), (10 : UInt8), (13 : UInt8), (10 : UInt8), (0 : UInt8), (127 : UInt8)] : List UInt8) y34)] : List UInt8).length ≤ 536870912) <|
  j67 ((x12 ++ ([(at' ([(7 : UInt8), (8 : UInt8), (10 : UInt8), (13 : UInt8), (10 : UInt8), (0 : UInt8), (127 : UInt8)] : List UInt8) y34)] : List UInt8)), y35.2.1, y35.2.2))))
  else
  (bif (decide (y21 < 9)) then
  (bindO (M_s_l01Below (x0.1, y22.2.1, y22.2.2) 20) fun (y44, y45) =>
  (guardO (0 ≤ y44 ∧ y44 < (([([27, 91, 65] : List UInt8), ([27, 91, 50, 66] : List UInt8), ([27, 91, 67] : List UInt8), ([27, 91, 51, 68] : List UInt8), ([27, 91, 72] : List UInt8), ([27, 91, 50, 59, 51, 72] : List UInt8), ([27, 91, 75] : List UInt8), ([27, 91, 49, 75] : List UInt8), ([27, 91, 50, 75] : List UInt8), ([27, 91, 74] : List UInt8), ([27, 91, 49, 74] : List UInt8), ([27, 91, 50, 74] : List UInt8), ([27, 91, 59, 52, 72] : List UInt8), ([27, 91, 48, 67] : List UInt8), ([27, 91, 51, 75] : List UInt8), ([27, 91, 57, 57, 57, 57, 57, 67] : List UInt8), ([27, 91, 49, 59, 50, 59, 51, 59, 52, 59, 53, 72] : List UInt8), ([27, 91, 63, 49, 65] : List UInt8), ([27, 77] : List UInt8), ([27, 91] : List UInt8)] : List (List UInt8)).length : Int)) <|
  (guardO (x12.length + (at' ([([27, 91, 65] : List UInt8), ([27, 91, 50, 66] : List UInt8), ([27, 91, 67] : List UInt8), ([27, 91, 51, 68] : List UInt8), ([27, 91, 72] : List UInt8), ([27, 91, 50, 59, 51, 72] : List UInt8), ([27, 91, 75] : List UInt8), ([27, 91, 49, 75] : List UInt8), ([27, 91, 50, 75] : List UInt8), ([27, 91, 74] : List UInt8), ([27, 91, 49, 74] : List UInt8), ([27, 91, 50, 74] : List UInt8), ([27, 91, 59, 52, 72] : List UInt8), ([27, 91, 48, 67] : List UInt8), ([27, 91, 51, 75] : List UInt8), ([27, 91, 57, 57, 57, 57, 57, 67] : List UInt8), ([27, 91, 49, 59, 50, 59, 51, 59, 52, 59, 53, 72] : List UInt8), ([27, 91, 63, 49, 65] : List UInt8), ([27, 77] : List UInt8), ([27, 91] : List UInt8)] : List (List UInt8)) y44).length ≤ 536870912) <|
  j67 ((x12 ++ (at' ([([27, 91, 65] : List UInt8), ([27, 91, 50, 66] : List UInt8), ([27, 91, 67] : List UInt8), ([27, 91, 51, 68] : List UInt8), ([27, 91, 72] : List UInt8), ([27, 91, 50, 59, 51, 72] : List UInt8), ([27, 91, 75] : List UInt8), ([27, 91, 49, 75] : List UInt8), ([27, 91, 50, 75] : List UInt8), ([27, 91, 74] : List UInt8), ([27, 91, 49, 74] : List UInt8), ([27, 91, 50, 74] : List UInt8), ([27, 91, 59, 52, 72] : List UInt8), ([27, 91, 48, 67] : List UInt8), ([27, 91, 51, 75] : List UInt8), ([27, 91, 57, 57, 57, 57, 57, 67] : List UInt8), ([27, 91, 49, 59, 50, 59, 51, 59, 52, 59, 53, 72] : List UInt8), ([27, 91, 63, 49, 65] : List UInt8), ([27, 77] : List UInt8), ([27, 91] : List UInt8)] : List (List UInt8)) y44)), y45.2.1, y45.2.2))))
  else
  (bindO (M_s_l01Byte (x0.1, y22.2.1, y22.2.2)) fun (y52, y53) =>
  (guardO (x12.length + ([(u8 (y52))] : List UInt8).length ≤ 536870912) <|
  j67 ((x12 ++ ([(u8 (y52))] : List UInt8)), y53.2.1, y53.2.2))))))))
  else
  j101 (x12, x19, x20))

def M_s_l09Out (x0 : List UInt8 × Int × Int) (x1 : Int) : Option (List UInt8 × List UInt8 × Int × Int) :=
  (bindO (M_s_l01Below x0 (W (x1 + 1))) fun (y9, y10) =>
  (joinO (fun ((x96, x99, x100) : List UInt8 × Int × Int) =>
  some (x96, (x0.1, x99, x100))) fun j101 =>
  (fixF (M_s_l09Out_L1 x0 j101) FUEL (([] : List UInt8), y9, y10.2.1, y10.2.2))))

theorem ok_s_l09Out (x0 : List UInt8 × Int × Int) (x1 : Int) (a3 : Option Addr) (a4 : Option Addr) (c5 : Nat) (l6 : Nat) (hl7 : x0.1.length = l6) (r : List UInt8 × List UInt8 × Int × Int) (h : M_s_l09Out x0 x1 = some r) :
    FX Try.prog 89 [.pointer a3, .int .i64 x1] [⟨.byte, ⟨a4, l6, c5⟩, x0.1⟩] [⟨(.pair .val (.pair (.int .i64) (.int .i64))), ⟨a3, 1, 1⟩, [((Sl.v ⟨a4, l6, c5⟩), x0.2.1, x0.2.2)]⟩] (fun _ : Option Addr × Nat => True) (fun q => .slice q.1 r.1.length q.2) (fun q => [⟨(.pair .val (.pair (.int .i64) (.int .i64))), ⟨a3, 1, 1⟩, [((Sl.v ⟨a4, l6, c5⟩), r.2.2.1, r.2.2.2)]⟩, ⟨.byte, ⟨q.1, r.1.length, q.2⟩, r.1⟩]) :=
  by
    subst hl7
    refine FX.of (T := TTx) Try.call89 Try.func89 rfl rfl fun w0 L0 => ?_
    unfold M_s_l09Out at h
    refine JS.ptr 0 a3 rfl ?_
    refine JS.seq (JS.region (JO.reg ttOk 1 [] [] [] _ rfl ⟨trivial, rfl⟩ (JO.done rfl (JS.seq (JS.region ?_)))))
    refine JO.ofK rfl (JK.buildSlice ttOk rfl rfl rfl rfl rfl rfl rfl rfl rfl rfl rfl [] rfl .byte [] ⟨rfl, rfl⟩ rfl rfl fun a8 => JO.toK ?_)
    refine JO.reg ttOk 1 [] [] [(5, .v (.slice a8 ([] : List UInt8).length ([] : List UInt8).length))] _ rfl ⟨⟨rfl, trivial⟩, rfl⟩ (JO.done rfl (JS.seq (JS.seq (JS.region (JO.reg ttOk 3 [(W (x1 + 1))] [] [(9, .ep ⟨a3, 1, 1⟩ 0), (11, .v (.int .i64 (W (x1 + 1))))] _ rfl ⟨⟨trivial, rfl⟩, ⟨rfl, rfl, trivial⟩, rfl⟩ ?_)))))
    obtain ⟨⟨y9, y10⟩, hy11, h⟩ := bindO_some h
    refine JO.callX rfl rfl rfl rfl (ok_s_l01Below x0 (W (x1 + 1)) a3 a4 c5 x0.1.length rfl _ hy11) rfl [1] rfl [0] rfl rfl fun _ _ => JO.reg ttOk 1 [] [] [(6, .v (.int .i64 y9))] _ rfl ⟨⟨rfl, trivial⟩, rfl⟩ (JO.done rfl ?_)
    obtain ⟨j101, hj117, h⟩ := joinO_some h
    refine JS.blockJ (ι := List UInt8 × Int × Int × Option Addr × Nat) ⟨fun z => j101 (z.1, z.2.1, z.2.2.1) = some r, fun z => [(5, .v (.slice z.2.2.2.1 z.1.length z.2.2.2.2))], fun z => .nil, fun z => [⟨.byte, ⟨a4, x0.1.length, c5⟩, x0.1⟩], fun z => [⟨.byte, ⟨z.2.2.2.1, z.1.length, z.2.2.2.2⟩, z.1⟩, ⟨(.pair .val (.pair (.int .i64) (.int .i64))), ⟨a3, 1, 1⟩, [((Sl.v ⟨a4, x0.1.length, c5⟩), z.2.1, z.2.2.1)]⟩], fun z => 0⟩ ?_ ?_
    · refine JS.loop (ι := Nat × List UInt8 × Int × Int × Int × Option Addr × Nat) ⟨fun z => fixF (M_s_l09Out_L1 x0 j101) z.1 (z.2.1, z.2.2.1, z.2.2.2.1, z.2.2.2.2.1) = some r, fun z => [(0, .ep ⟨a3, 1, 1⟩ 0), (5, .v (.slice z.2.2.2.2.2.1 z.2.1.length z.2.2.2.2.2.2)), (6, .v (.int .i64 z.2.2.1))], fun z => .nil, fun z => [⟨.byte, ⟨a4, x0.1.length, c5⟩, x0.1⟩], fun z => [⟨.byte, ⟨z.2.2.2.2.2.1, z.2.1.length, z.2.2.2.2.2.2⟩, z.2.1⟩, ⟨(.pair .val (.pair (.int .i64) (.int .i64))), ⟨a3, 1, 1⟩, [((Sl.v ⟨a4, x0.1.length, c5⟩), z.2.2.2.1, z.2.2.2.2.1)]⟩], fun z => z.1⟩ (FUEL, ([] : List UInt8), y9, y10.2.1, y10.2.2, a8, ([] : List UInt8).length) h ⟨rfl, rfl, rfl, trivial⟩ trivial [0] rfl [1, 0] rfl ?_
      rintro ⟨n88, x12, x15, x19, x20, a13, c14⟩ h
      obtain ⟨n88, rfl, h⟩ := fixF_some h
      rw [M_s_l09Out_L1] at h
      refine JS.seq (JS.seq (JS.region (JO.reg ttOk 2 [] [] [(14, .v (.bool (decide (0 < x15))))] _ rfl ⟨⟨rfl, trivial⟩, rfl⟩ (JO.done rfl ?_))))
      refine JS.cond rfl (fun ht116 => ?_) (fun ht116 => ?_)
      · have h := condT h ht116
        refine JS.skip (JS.seq ?_)
        obtain ⟨j67, hj115, h⟩ := joinO_some h
        refine JS.blockJ (ι := List UInt8 × Int × Int × Option Addr × Nat) ⟨fun z => j67 (z.1, z.2.1, z.2.2.1) = some r, fun z => [(0, .ep ⟨a3, 1, 1⟩ 0), (5, .v (.slice z.2.2.2.1 z.1.length z.2.2.2.2)), (6, .v (.int .i64 x15))], fun z => .nil, fun z => [⟨.byte, ⟨a4, x0.1.length, c5⟩, x0.1⟩], fun z => [⟨.byte, ⟨z.2.2.2.1, z.1.length, z.2.2.2.2⟩, z.1⟩, ⟨(.pair .val (.pair (.int .i64) (.int .i64))), ⟨a3, 1, 1⟩, [((Sl.v ⟨a4, x0.1.length, c5⟩), z.2.1, z.2.2.1)]⟩], fun z => 0⟩ ?_ ?_
        · refine JS.seq (JS.region (JO.reg ttOk 1 [] [] [(17, .ep ⟨a3, 1, 1⟩ 0)] _ rfl ⟨⟨rfl, trivial⟩, rfl⟩ ?_))
          obtain ⟨⟨y21, y22⟩, hy23, h⟩ := bindO_some h
          refine JO.callX rfl rfl rfl rfl (ok_s_l01Below (x0.1, x19, x20) 10 a3 a4 c5 x0.1.length rfl _ hy23) rfl [1] rfl [0] rfl rfl fun _ _ => JO.reg ttOk 1 [] [] [(7, .v (.int .i64 y21))] _ rfl ⟨⟨rfl, trivial⟩, rfl⟩ (JO.done rfl (JS.seq (JS.region (JO.reg ttOk 2 [] [] [(20, .v (.bool (decide (y21 < 4))))] _ rfl ⟨⟨rfl, trivial⟩, rfl⟩ (JO.done rfl ?_)))))
          refine JS.cond rfl (fun ht114 => ?_) (fun ht114 => ?_)
          · have h := condT h ht114
            refine JS.region (JO.reg ttOk 2 [] [] [(21, .v (.slice a13 x12.length c14)), (22, .ep ⟨a3, 1, 1⟩ 0)] _ rfl ⟨⟨rfl, rfl, trivial⟩, rfl⟩ ?_)
            obtain ⟨⟨y24, y25⟩, hy26, h⟩ := bindO_some h
            refine JO.callX rfl rfl rfl rfl (ok_s_l02Rune (x0.1, y22.2.1, y22.2.2) a3 a4 c5 x0.1.length rfl _ hy26) rfl [0] rfl [0] rfl rfl fun _ _ => ?_
            refine JO.ofK rfl (JK.buildSlice ttOk rfl rfl rfl rfl rfl rfl rfl rfl rfl rfl rfl [] rfl (.int .i64) [y24] ⟨rfl, rfl⟩ rfl rfl fun a27 => JO.toK ?_)
            obtain ⟨y28, hy29, h⟩ := bindO_some h
            refine JO.call rfl rfl rfl rfl (ok_s_TextOf ([y24] : List Int) a27 (([y24] : List Int).length) (([y24] : List Int).length) rfl _ hy29) rfl [1] rfl rfl fun _ _ => ?_
            obtain ⟨g30, h⟩ := guardO_some h
            refine JO.appendS' ttOk rfl rfl rfl rfl ⟨rfl, rfl, rfl, rfl, trivial, rfl, rfl, rfl, rfl⟩ rfl rfl [2] rfl g30 rfl fun a31 c32 => JO.reg ttOk 1 [] [] [(5, .v (.slice a31 (x12 ++ y28).length c32))] _ rfl ⟨⟨rfl, trivial⟩, rfl⟩ (JO.done rfl (JS.endB (JS.endJ ((x12 ++ y28), y25.2.1, y25.2.2, a31, c32) h ⟨rfl, rfl, rfl, trivial⟩ trivial [0] rfl [0, 1] rfl)))
          have h := condF h ht114
          refine JS.seq (JS.region (JO.reg ttOk 2 [] [] [(28, .v (.bool (decide (y21 = 4))))] _ rfl ⟨⟨rfl, trivial⟩, rfl⟩ (JO.done rfl ?_)))
          refine JS.cond rfl (fun ht113 => ?_) (fun ht113 => ?_)
          · have h := condT h ht113
            refine JS.region (JO.reg ttOk 1 [] [] [(29, .v (.slice a13 x12.length c14))] _ rfl ⟨⟨rfl, trivial⟩, rfl⟩ ?_)
            refine JO.ofK rfl (JK.buildSlice ttOk rfl rfl rfl rfl rfl rfl rfl rfl rfl rfl rfl [] rfl .byte [(7 : UInt8), (8 : UInt8), (10 : UInt8), (13 : UInt8), (10 : UInt8), (0 : UInt8), (127 : UInt8)] ⟨rfl, rfl⟩ rfl rfl fun a33 => JO.toK ?_)
            refine JO.reg ttOk 1 [] [] [(31, .ep ⟨a3, 1, 1⟩ 0)] _ rfl ⟨⟨rfl, trivial⟩, rfl⟩ ?_
            obtain ⟨⟨y34, y35⟩, hy36, h⟩ := bindO_some h
            refine JO.callX rfl rfl rfl rfl (ok_s_l01Below (x0.1, y22.2.1, y22.2.2) 7 a3 a4 c5 x0.1.length rfl _ hy36) rfl [1] rfl [0] rfl rfl fun _ _ => JO.know 2 rfl fun hs110 => ?_
            obtain ⟨g38, h⟩ := guardO_some h
            refine JO.reg ttOk 1 [] [] [(33, .ep ⟨a33, ([(7 : UInt8), (8 : UInt8), (10 : UInt8), (13 : UInt8), (10 : UInt8), (0 : UInt8), (127 : UInt8)] : List UInt8).length, ([(7 : UInt8), (8 : UInt8), (10 : UInt8), (13 : UInt8), (10 : UInt8), (0 : UInt8), (127 : UInt8)] : List UInt8).length⟩ (Int.toNat y34 * 1))] _ rfl ⟨hs110.ix g38, ⟨rfl, trivial⟩, rfl⟩ (JO.load ttOk rfl rfl rfl rfl rfl rfl rfl 2 rfl rfl (Int.toNat y34) 0 (at' ([(7 : UInt8), (8 : UInt8), (10 : UInt8), (13 : UInt8), (10 : UInt8), (0 : UInt8), (127 : UInt8)] : List UInt8) y34) ⟨at_some g38, rfl⟩ rfl rfl ?_)
            refine JO.ofK rfl (JK.buildSlice ttOk rfl rfl rfl rfl rfl rfl rfl rfl rfl rfl rfl [] rfl .byte [(at' ([(7 : UInt8), (8 : UInt8), (10 : UInt8), (13 : UInt8), (10 : UInt8), (0 : UInt8), (127 : UInt8)] : List UInt8) y34)] ⟨rfl, rfl⟩ rfl rfl fun a39 => JO.toK ?_)
            obtain ⟨g40, h⟩ := guardO_some h
            refine JO.appendR' ttOk rfl rfl rfl rfl ⟨rfl, rfl, rfl, rfl, trivial, rfl, rfl, rfl, rfl⟩ rfl rfl rfl [3] rfl 1 rfl g40 rfl fun a41 c42 => JO.reg ttOk 1 [] [] [(5, .v (.slice a41 (x12 ++ ([(at' ([(7 : UInt8), (8 : UInt8), (10 : UInt8), (13 : UInt8), (10 : UInt8), (0 : UInt8), (127 : UInt8)] : List UInt8) y34)] : List UInt8)).length c42))] _ rfl ⟨⟨rfl, trivial⟩, rfl⟩ (JO.done rfl (JS.endB (JS.endJ ((x12 ++ ([(at' ([(7 : UInt8), (8 : UInt8), (10 : UInt8), (13 : UInt8), (10 : UInt8), (0 : UInt8), (127 : UInt8)] : List UInt8) y34)] : List UInt8)), y35.2.1, y35.2.2, a41, c42) h ⟨rfl, rfl, rfl, trivial⟩ trivial [0] rfl [0, 1] rfl)))
          have h := condF h ht113
          refine JS.seq (JS.region (JO.reg ttOk 2 [] [] [(38, .v (.bool (decide (y21 < 9))))] _ rfl ⟨⟨rfl, trivial⟩, rfl⟩ (JO.done rfl ?_)))
          refine JS.cond rfl (fun ht112 => ?_) (fun ht112 => ?_)
          · have h := condT h ht112
            refine JS.region (JO.reg ttOk 1 [] [] [(39, .v (.slice a13 x12.length c14))] _ rfl ⟨⟨rfl, trivial⟩, rfl⟩ ?_)
            refine JO.ofK rfl (JK.buildSlice ttOk rfl rfl rfl rfl rfl rfl rfl rfl rfl rfl rfl [] rfl .str [([27, 91, 65] : List UInt8), ([27, 91, 50, 66] : List UInt8), ([27, 91, 67] : List UInt8), ([27, 91, 51, 68] : List UInt8), ([27, 91, 72] : List UInt8), ([27, 91, 50, 59, 51, 72] : List UInt8), ([27, 91, 75] : List UInt8), ([27, 91, 49, 75] : List UInt8), ([27, 91, 50, 75] : List UInt8), ([27, 91, 74] : List UInt8), ([27, 91, 49, 74] : List UInt8), ([27, 91, 50, 74] : List UInt8), ([27, 91, 59, 52, 72] : List UInt8), ([27, 91, 48, 67] : List UInt8), ([27, 91, 51, 75] : List UInt8), ([27, 91, 57, 57, 57, 57, 57, 67] : List UInt8), ([27, 91, 49, 59, 50, 59, 51, 59, 52, 59, 53, 72] : List UInt8), ([27, 91, 63, 49, 65] : List UInt8), ([27, 77] : List UInt8), ([27, 91] : List UInt8)] ⟨rfl, rfl⟩ rfl rfl fun a43 => JO.toK ?_)
            refine JO.reg ttOk 1 [] [] [(41, .ep ⟨a3, 1, 1⟩ 0)] _ rfl ⟨⟨rfl, trivial⟩, rfl⟩ ?_
            obtain ⟨⟨y44, y45⟩, hy46, h⟩ := bindO_some h
            refine JO.callX rfl rfl rfl rfl (ok_s_l01Below (x0.1, y22.2.1, y22.2.2) 20 a3 a4 c5 x0.1.length rfl _ hy46) rfl [1] rfl [0] rfl rfl fun _ _ => JO.know 2 rfl fun hs111 => ?_
            obtain ⟨g48, h⟩ := guardO_some h
            refine JO.reg ttOk 1 [] [] [(43, .ep ⟨a43, ([([27, 91, 65] : List UInt8), ([27, 91, 50, 66] : List UInt8), ([27, 91, 67] : List UInt8), ([27, 91, 51, 68] : List UInt8), ([27, 91, 72] : List UInt8), ([27, 91, 50, 59, 51, 72] : List UInt8), ([27, 91, 75] : List UInt8), ([27, 91, 49, 75] : List UInt8), ([27, 91, 50, 75] : List UInt8), ([27, 91, 74] : List UInt8), ([27, 91, 49, 74] : List UInt8), ([27, 91, 50, 74] : List UInt8), ([27, 91, 59, 52, 72] : List UInt8), ([27, 91, 48, 67] : List UInt8), ([27, 91, 51, 75] : List UInt8), ([27, 91, 57, 57, 57, 57, 57, 67] : List UInt8), ([27, 91, 49, 59, 50, 59, 51, 59, 52, 59, 53, 72] : List UInt8), ([27, 91, 63, 49, 65] : List UInt8), ([27, 77] : List UInt8), ([27, 91] : List UInt8)] : List (List UInt8)).length, ([([27, 91, 65] : List UInt8), ([27, 91, 50, 66] : List UInt8), ([27, 91, 67] : List UInt8), ([27, 91, 51, 68] : List UInt8), ([27, 91, 72] : List UInt8), ([27, 91, 50, 59, 51, 72] : List UInt8), ([27, 91, 75] : List UInt8), ([27, 91, 49, 75] : List UInt8), ([27, 91, 50, 75] : List UInt8), ([27, 91, 74] : List UInt8), ([27, 91, 49, 74] : List UInt8), ([27, 91, 50, 74] : List UInt8), ([27, 91, 59, 52, 72] : List UInt8), ([27, 91, 48, 67] : List UInt8), ([27, 91, 51, 75] : List UInt8), ([27, 91, 57, 57, 57, 57, 57, 67] : List UInt8), ([27, 91, 49, 59, 50, 59, 51, 59, 52, 59, 53, 72] : List UInt8), ([27, 91, 63, 49, 65] : List UInt8), ([27, 77] : List UInt8), ([27, 91] : List UInt8)] : List (List UInt8)).length⟩ (Int.toNat y44 * 1))] _ rfl ⟨hs111.ix g48, ⟨rfl, trivial⟩, rfl⟩ (JO.load ttOk rfl rfl rfl rfl rfl rfl rfl 2 rfl rfl (Int.toNat y44) 0 (at' ([([27, 91, 65] : List UInt8), ([27, 91, 50, 66] : List UInt8), ([27, 91, 67] : List UInt8), ([27, 91, 51, 68] : List UInt8), ([27, 91, 72] : List UInt8), ([27, 91, 50, 59, 51, 72] : List UInt8), ([27, 91, 75] : List UInt8), ([27, 91, 49, 75] : List UInt8), ([27, 91, 50, 75] : List UInt8), ([27, 91, 74] : List UInt8), ([27, 91, 49, 74] : List UInt8), ([27, 91, 50, 74] : List UInt8), ([27, 91, 59, 52, 72] : List UInt8), ([27, 91, 48, 67] : List UInt8), ([27, 91, 51, 75] : List UInt8), ([27, 91, 57, 57, 57, 57, 57, 67] : List UInt8), ([27, 91, 49, 59, 50, 59, 51, 59, 52, 59, 53, 72] : List UInt8), ([27, 91, 63, 49, 65] : List UInt8), ([27, 77] : List UInt8), ([27, 91] : List UInt8)] : List (List UInt8)) y44) ⟨at_some g48, rfl⟩ rfl rfl ?_)
            obtain ⟨g49, h⟩ := guardO_some h
            refine JO.appendS' ttOk rfl rfl rfl rfl ⟨rfl, rfl, rfl, rfl, trivial, rfl, rfl, rfl, rfl⟩ rfl rfl [2] rfl g49 rfl fun a50 c51 => JO.reg ttOk 1 [] [] [(5, .v (.slice a50 (x12 ++ (at' ([([27, 91, 65] : List UInt8), ([27, 91, 50, 66] : List UInt8), ([27, 91, 67] : List UInt8), ([27, 91, 51, 68] : List UInt8), ([27, 91, 72] : List UInt8), ([27, 91, 50, 59, 51, 72] : List UInt8), ([27, 91, 75] : List UInt8), ([27, 91, 49, 75] : List UInt8), ([27, 91, 50, 75] : List UInt8), ([27, 91, 74] : List UInt8), ([27, 91, 49, 74] : List UInt8), ([27, 91, 50, 74] : List UInt8), ([27, 91, 59, 52, 72] : List UInt8), ([27, 91, 48, 67] : List UInt8), ([27, 91, 51, 75] : List UInt8), ([27, 91, 57, 57, 57, 57, 57, 67] : List UInt8), ([27, 91, 49, 59, 50, 59, 51, 59, 52, 59, 53, 72] : List UInt8), ([27, 91, 63, 49, 65] : List UInt8), ([27, 77] : List UInt8), ([27, 91] : List UInt8)] : List (List UInt8)) y44)).length c51))] _ rfl ⟨⟨rfl, trivial⟩, rfl⟩ (JO.done rfl (JS.endB (JS.endJ ((x12 ++ (at' ([([27, 91, 65] : List UInt8), ([27, 91, 50, 66] : List UInt8), ([27, 91, 67] : List UInt8), ([27, 91, 51, 68] : List UInt8), ([27, 91, 72] : List UInt8), ([27, 91, 50, 59, 51, 72] : List UInt8), ([27, 91, 75] : List UInt8), ([27, 91, 49, 75] : List UInt8), ([27, 91, 50, 75] : List UInt8), ([27, 91, 74] : List UInt8), ([27, 91, 49, 74] : List UInt8), ([27, 91, 50, 74] : List UInt8), ([27, 91, 59, 52, 72] : List UInt8), ([27, 91, 48, 67] : List UInt8), ([27, 91, 51, 75] : List UInt8), ([27, 91, 57, 57, 57, 57, 57, 67] : List UInt8), ([27, 91, 49, 59, 50, 59, 51, 59, 52, 59, 53, 72] : List UInt8), ([27, 91, 63, 49, 65] : List UInt8), ([27, 77] : List UInt8), ([27, 91] : List UInt8)] : List (List UInt8)) y44)), y45.2.1, y45.2.2, a50, c51) h ⟨rfl, rfl, rfl, trivial⟩ trivial [0] rfl [0, 0] rfl)))
          have h := condF h ht112
          refine JS.region (JO.reg ttOk 2 [] [] [(46, .v (.slice a13 x12.length c14)), (47, .ep ⟨a3, 1, 1⟩ 0)] _ rfl ⟨⟨rfl, rfl, trivial⟩, rfl⟩ ?_)
          obtain ⟨⟨y52, y53⟩, hy54, h⟩ := bindO_some h
          refine JO.callX rfl rfl rfl rfl (ok_s_l01Byte (x0.1, y22.2.1, y22.2.2) a3 a4 c5 x0.1.length rfl _ hy54) rfl [0] rfl [0] rfl rfl fun _ _ => JO.reg ttOk 1 [((u8 (y52)).toNat : Int)] [] [(49, .v (.int .u8 ((u8 (y52)).toNat : Int)))] _ rfl ⟨⟨trivial, u8_wrap _⟩, ⟨rfl, trivial⟩, rfl⟩ ?_
          refine JO.ofK rfl (JK.buildSlice ttOk rfl rfl rfl rfl rfl rfl rfl rfl rfl rfl rfl [] rfl .byte [(u8 (y52))] ⟨rfl, rfl⟩ rfl rfl fun a55 => JO.toK ?_)
          obtain ⟨g56, h⟩ := guardO_some h
          refine JO.appendR' ttOk rfl rfl rfl rfl ⟨rfl, rfl, rfl, rfl, trivial, rfl, rfl, rfl, rfl⟩ rfl rfl rfl [2] rfl 1 rfl g56 rfl fun a57 c58 => JO.reg ttOk 1 [] [] [(5, .v (.slice a57 (x12 ++ ([(u8 (y52))] : List UInt8)).length c58))] _ rfl ⟨⟨rfl, trivial⟩, rfl⟩ (JO.done rfl (JS.endB (JS.endJ ((x12 ++ ([(u8 (y52))] : List UInt8)), y53.2.1, y53.2.2, a57, c58) h ⟨rfl, rfl, rfl, trivial⟩ trivial [0] rfl [0, 1] rfl)))
        rintro ⟨x62, x65, x66, a63, c64⟩ h
        subst hj115
        refine JS.region (JO.reg ttOk 3 [(W (x15 - 1))] [] [(6, .v (.int .i64 (W (x15 - 1))))] _ rfl ⟨⟨trivial, rfl⟩, ⟨rfl, trivial⟩, rfl⟩ (JO.done rfl (JS.endL (n88, x62, (W (x15 - 1)), x65, x66, a63, c64) h (Nat.lt_succ_self _) ⟨rfl, rfl, rfl, trivial⟩ trivial [0] rfl [0, 0] rfl)))
      have h := condF h ht116
      refine JS.exit rfl (JS.endJ (x12, x19, x20, a13, c14) h ⟨rfl, trivial⟩ trivial [0] rfl [0, 0] rfl)
    rintro ⟨x96, x99, x100, a97, c98⟩ h
    subst hj117
    refine JS.seq (JS.region (JO.reg ttOk 2 [] [] [(4, .v (.slice a97 x96.length c98))] _ rfl ⟨⟨rfl, trivial⟩, rfl⟩ (JO.done rfl ?_)))
    cases h
    exact JS.retX ttOk (a97, c98) trivial rfl rfl [1, 0] rfl

def M_s_RuneRead_L1 (x0 : List UInt8) (x1 : Int) (x7 : Int) (j29 : Int → Option (Int × Int)) (k24 : (Int × Int) → Option (Int × Int)) : (Int × Int) → Option (Int × Int) := fun (x19, x20) =>
  (bif (decide (x20 < x7)) then
  (guardO (0 ≤ (W (x1 + x20)) ∧ (W (x1 + x20)) < (x0.length : Int)) <|
  k24 ((W ((W ((W (x19 * 64)) + ((at' x0 (W (x1 + x20))).toNat : Int))) - 128)), (W (x20 + 1))))
  else
  j29 x19)

def M_s_RuneRead_L2 (x0 : List UInt8) (x1 : Int) (j101 : Unit → Option (Int × Int)) (k77 : Int → Option (Int × Int)) : Int → Option (Int × Int) := fun x7 =>
  (bif (bif (decide (x7 ≤ 4)) then (decide (x7 ≤ (W ((x0.length : Int) - x1)))) else false) then
  (joinO (fun (_ : Unit) =>
  k77 (W (x7 + 1))) fun j55 =>
  (guardO (0 ≤ x1 ∧ x1 < (x0.length : Int)) <|
  (joinO (fun (x15 : Int) =>
  (joinO (fun (x28 : Int) =>
  (bindO (M_s_RuneBytes x28) fun (y32 : List UInt8) =>
  (guardO (((decide ((y32.length : Int) = x7)) = true) → 0 ≤ x1 ∧ x1 ≤ (W (x1 + x7)) ∧ (W (x1 + x7)) ≤ (x0.length : Int)) <|
  (bif (bif (decide ((y32.length : Int) = x7)) then (decide (y32 = (sub' x0 x1 (W (x1 + x7))))) else false) then
  some (x28, x7)
  else
  j55 ())))) fun j29 =>
  (fixF (M_s_RuneRead_L1 x0 x1 x7 j29) FUEL (x15, 1)))) fun j16 =>
  (bif (decide (1 < x7)) then
  (guardO (0 ≤ x7 ∧ x7 < (([0, 0, 192, 224, 240] : List Int).length : Int)) <|
  j16 (W (((at' x0 x1).toNat : Int) - (at' ([0, 0, 192, 224, 240] : List Int) x7))))
  else
  j16 ((at' x0 x1).toNat : Int)))))
  else
  j101 ())

def M_s_RuneRead (x0 : List UInt8) (x1 : Int) : Option (Int × Int) :=
  (bif (bif (decide (x1 < 0)) then true else (decide ((x0.length : Int) ≤ x1))) then
  some (0, 0)
  else
  (joinO (fun (_ : Unit) =>
  some (0, 0)) fun j101 =>
  (fixF (M_s_RuneRead_L2 x0 x1 j101) FUEL 1)))

theorem ok_s_RuneRead (x0 : List UInt8) (x1 : Int) (a3 : Option Addr) (c4 : Nat) (l5 : Nat) (hl6 : x0.length = l5) (r : Int × Int) (h : M_s_RuneRead x0 x1 = some r) :
    FC Try.prog 101 [.slice a3 l5 c4, .int .i64 x1] [⟨.byte, ⟨a3, l5, c4⟩, x0⟩] (fun _ : Unit => True) (fun _ => .tuple #[.int .i64 r.1, .int .i64 r.2]) (fun _ => []) :=
  by
    subst hl6
    refine FC.of (T := TTx) Try.call101 Try.func101 rfl rfl fun w0 => ?_
    unfold M_s_RuneRead at h
    refine JS.seq (JS.region (JO.reg ttOk 2 [] [] [] _ rfl ⟨trivial, rfl⟩ (JO.done rfl (JS.seq (JS.seq (JS.region (JO.reg ttOk 8 [] [] [(17, .v (.bool (bif (decide (x1 < 0)) then true else (decide ((x0.length : Int) ≤ x1)))))] _ rfl ⟨⟨rfl, trivial⟩, rfl⟩ (JO.done rfl ?_))))))))
    refine JS.cond rfl (fun ht149 => ?_) (fun ht149 => ?_)
    · have h := condT h ht149
      refine JS.seq (JS.region (JO.reg ttOk 2 [] [] [(4, .v (.int .i64 0)), (5, .v (.int .i64 0))] _ rfl ⟨⟨rfl, rfl, trivial⟩, rfl⟩ (JO.done rfl ?_)))
      cases h
      exact JS.ret ttOk () trivial rfl rfl [] rfl
    have h := condF h ht149
    refine JS.skip (JS.seq (JS.seq (JS.region (JO.reg ttOk 1 [] [] [(6, .v (.int .i64 1))] _ rfl ⟨⟨rfl, trivial⟩, rfl⟩ (JO.done rfl ?_)))))
    obtain ⟨j101, hj148, h⟩ := joinO_some h
    refine JS.blockJ (ι := Unit) ⟨fun _ => j101 () = some r, fun _ => [], fun _ => .nil, fun _ => [], fun _ => [], fun _ => 0⟩ ?_ ?_
    · refine JS.loop (ι := Nat × Int) ⟨fun z => fixF (M_s_RuneRead_L2 x0 x1 j101) z.1 z.2 = some r, fun z => [(0, .v (.slice a3 x0.length c4)), (1, .v (.int .i64 x1)), (6, .v (.int .i64 z.2))], fun z => .nil, fun z => [⟨.byte, ⟨a3, x0.length, c4⟩, x0⟩], fun z => [], fun z => z.1⟩ (FUEL, 1) h ⟨rfl, rfl, rfl, trivial⟩ trivial [0] rfl [] rfl ?_
      rintro ⟨n78, x7⟩ h
      obtain ⟨n78, rfl, h⟩ := fixF_some h
      rw [M_s_RuneRead_L2] at h
      refine JS.seq (JS.seq (JS.region (JO.reg ttOk 10 [(W ((x0.length : Int) - x1))] [] [(27, .v (.bool (bif (decide (x7 ≤ 4)) then (decide (x7 ≤ (W ((x0.length : Int) - x1)))) else false)))] _ rfl ⟨(fun q126 => ⟨trivial, rfl⟩), ⟨rfl, trivial⟩, rfl⟩ (JO.done rfl ?_))))
      refine JS.cond rfl (fun ht147 => ?_) (fun ht147 => ?_)
      · have h := condT h ht147
        refine JS.skip (JS.seq ?_)
        obtain ⟨j55, hj146, h⟩ := joinO_some h
        refine JS.blockJ (ι := Unit) ⟨fun _ => j55 () = some r, fun _ => [(0, .v (.slice a3 x0.length c4)), (1, .v (.int .i64 x1)), (6, .v (.int .i64 x7))], fun _ => .nil, fun _ => [⟨.byte, ⟨a3, x0.length, c4⟩, x0⟩], fun _ => [], fun _ => 0⟩ ?_ ?_
        · refine JS.seq (JS.region (JO.know 0 rfl fun hs127 => ?_))
          obtain ⟨g10, h⟩ := guardO_some h
          refine JO.reg ttOk 3 [] [] [(32, .ep ⟨a3, x0.length, c4⟩ (Int.toNat x1 * 1))] _ rfl ⟨hs127.ix g10, ⟨rfl, trivial⟩, rfl⟩ (JO.load ttOk rfl rfl rfl rfl rfl rfl rfl 0 rfl rfl (Int.toNat x1) 0 (at' x0 x1) ⟨at_some g10, rfl⟩ rfl rfl (JO.reg ttOk 2 [((at' x0 x1).toNat : Int)] [] [(7, .v (.int .i64 ((at' x0 x1).toNat : Int)))] _ rfl ⟨⟨trivial, W_byte _⟩, ⟨rfl, trivial⟩, rfl⟩ (JO.done rfl ?_)))
          obtain ⟨j16, hj145, h⟩ := joinO_some h
          refine JS.seqJ (ι := Int) ⟨fun z => j16 z = some r, fun z => [(0, .v (.slice a3 x0.length c4)), (1, .v (.int .i64 x1)), (6, .v (.int .i64 x7)), (7, .v (.int .i64 z))], fun z => .nil, fun z => [⟨.byte, ⟨a3, x0.length, c4⟩, x0⟩], fun z => [], fun z => 0⟩ ?_ ?_
          · refine JS.seq (JS.region (JO.reg ttOk 2 [] [] [(36, .v (.bool (decide (1 < x7))))] _ rfl ⟨⟨rfl, trivial⟩, rfl⟩ (JO.done rfl ?_)))
            refine JS.cond rfl (fun ht129 => ?_) (fun ht129 => ?_)
            · have h := condT h ht129
              refine JS.region (JO.reg ttOk 1 [] [] [(37, .v (.int .i64 ((at' x0 x1).toNat : Int)))] _ rfl ⟨⟨rfl, trivial⟩, rfl⟩ ?_)
              refine JO.ofK rfl (JK.buildSlice ttOk rfl rfl rfl rfl rfl rfl rfl rfl rfl rfl rfl [] rfl (.int .i64) [0, 0, 192, 224, 240] ⟨rfl, rfl⟩ rfl rfl fun a11 => JO.toK ?_)
              refine JO.know 1 rfl fun hs128 => ?_
              obtain ⟨g13, h⟩ := guardO_some h
              refine JO.reg ttOk 2 [] [] [(40, .ep ⟨a11, ([0, 0, 192, 224, 240] : List Int).length, ([0, 0, 192, 224, 240] : List Int).length⟩ (Int.toNat x7 * 1))] _ rfl ⟨hs128.ix g13, ⟨rfl, trivial⟩, rfl⟩ (JO.load ttOk rfl rfl rfl rfl rfl rfl rfl 1 rfl rfl (Int.toNat x7) 0 (at' ([0, 0, 192, 224, 240] : List Int) x7) ⟨at_some g13, rfl⟩ rfl rfl (JO.reg ttOk 2 [(W (((at' x0 x1).toNat : Int) - (at' ([0, 0, 192, 224, 240] : List Int) x7)))] [] [(7, .v (.int .i64 (W (((at' x0 x1).toNat : Int) - (at' ([0, 0, 192, 224, 240] : List Int) x7)))))] _ rfl ⟨⟨trivial, rfl⟩, ⟨rfl, trivial⟩, rfl⟩ (JO.done rfl (JS.endJ (W (((at' x0 x1).toNat : Int) - (at' ([0, 0, 192, 224, 240] : List Int) x7))) h ⟨rfl, rfl, rfl, rfl, trivial⟩ trivial [0] rfl [] rfl))))
            have h := condF h ht129
            refine JS.skip (JS.endJ ((at' x0 x1).toNat : Int) h ⟨rfl, rfl, rfl, rfl, trivial⟩ trivial [0] rfl [] rfl)
          rintro x15 h
          subst hj145
          refine JS.seq (JS.seq (JS.region (JO.reg ttOk 1 [] [] [(8, .v (.int .i64 1))] _ rfl ⟨⟨rfl, trivial⟩, rfl⟩ (JO.done rfl ?_))))
          obtain ⟨j29, hj144, h⟩ := joinO_some h
          refine JS.blockJ (ι := Int) ⟨fun z => j29 z = some r, fun z => [(0, .v (.slice a3 x0.length c4)), (1, .v (.int .i64 x1)), (6, .v (.int .i64 x7)), (7, .v (.int .i64 z))], fun z => .nil, fun z => [⟨.byte, ⟨a3, x0.length, c4⟩, x0⟩], fun z => [], fun z => 0⟩ ?_ ?_
          · refine JS.loop (ι := Nat × Int × Int) ⟨fun z => fixF (M_s_RuneRead_L1 x0 x1 x7 j29) z.1 (z.2.1, z.2.2) = some r, fun z => [(0, .v (.slice a3 x0.length c4)), (1, .v (.int .i64 x1)), (6, .v (.int .i64 x7)), (7, .v (.int .i64 z.2.1)), (8, .v (.int .i64 z.2.2))], fun z => .nil, fun z => [⟨.byte, ⟨a3, x0.length, c4⟩, x0⟩], fun z => [], fun z => z.1⟩ (FUEL, x15, 1) h ⟨rfl, rfl, rfl, rfl, rfl, trivial⟩ trivial [0] rfl [] rfl ?_
            rintro ⟨n25, x19, x20⟩ h
            obtain ⟨n25, rfl, h⟩ := fixF_some h
            rw [M_s_RuneRead_L1] at h
            refine JS.seq (JS.seq (JS.region (JO.reg ttOk 3 [] [] [(45, .v (.bool (decide (x20 < x7))))] _ rfl ⟨⟨rfl, trivial⟩, rfl⟩ (JO.done rfl ?_))))
            refine JS.cond rfl (fun ht131 => ?_) (fun ht131 => ?_)
            · have h := condT h ht131
              refine JS.skip (JS.seq (JS.block (JS.region (JO.know 0 rfl fun hs130 => ?_))))
              obtain ⟨g22, h⟩ := guardO_some h
              refine JO.reg ttOk 7 [(W (x19 * 64)), (W (x1 + x20))] [] [(49, .v (.int .i64 (W (x19 * 64)))), (54, .ep ⟨a3, x0.length, c4⟩ (Int.toNat (W (x1 + x20)) * 1))] _ rfl ⟨⟨trivial, rfl⟩, ⟨trivial, rfl⟩, hs130.ix g22, ⟨rfl, rfl, trivial⟩, rfl⟩ (JO.load ttOk rfl rfl rfl rfl rfl rfl rfl 0 rfl rfl (Int.toNat (W (x1 + x20))) 0 (at' x0 (W (x1 + x20))) ⟨at_some g22, rfl⟩ rfl rfl (JO.reg ttOk 4 [((at' x0 (W (x1 + x20))).toNat : Int), (W ((W (x19 * 64)) + ((at' x0 (W (x1 + x20))).toNat : Int))), (W ((W ((W (x19 * 64)) + ((at' x0 (W (x1 + x20))).toNat : Int))) - 128))] [] [(7, .v (.int .i64 (W ((W ((W (x19 * 64)) + ((at' x0 (W (x1 + x20))).toNat : Int))) - 128))))] _ rfl ⟨⟨trivial, W_byte _⟩, ⟨trivial, rfl⟩, ⟨trivial, rfl⟩, ⟨rfl, trivial⟩, rfl⟩ (JO.done rfl (JS.endB (JS.region (JO.reg ttOk 3 [(W (x20 + 1))] [] [(8, .v (.int .i64 (W (x20 + 1))))] _ rfl ⟨⟨trivial, rfl⟩, ⟨rfl, trivial⟩, rfl⟩ (JO.done rfl (JS.endL (n25, (W ((W ((W (x19 * 64)) + ((at' x0 (W (x1 + x20))).toNat : Int))) - 128)), (W (x20 + 1))) h (Nat.lt_succ_self _) ⟨rfl, rfl, rfl, rfl, rfl, trivial⟩ trivial [0] rfl [] rfl))))))))
            have h := condF h ht131
            refine JS.exit rfl (JS.endJ x19 h ⟨rfl, rfl, rfl, rfl, trivial⟩ trivial [0] rfl [] rfl)
          rintro x28 h
          subst hj144
          refine JS.seq (JS.region (JO.reg ttOk 1 [] [] [(59, .v (.int .i64 x28))] _ rfl ⟨⟨rfl, trivial⟩, rfl⟩ ?_))
          obtain ⟨y32, hy33, h⟩ := bindO_some h
          refine JO.call rfl rfl rfl rfl (ok_s_RuneBytes x28 _ hy33) rfl [] rfl rfl ?_
          rintro ⟨a34, c35⟩ -
          refine JO.reg ttOk 1 [] [] [(9, .v (.slice a34 y32.length c35))] _ rfl ⟨⟨rfl, trivial⟩, rfl⟩ (JO.done rfl (JS.seq ?_))
          obtain ⟨g37, h⟩ := guardO_some h
          refine JS.subR 0 rfl x1 (W (x1 + x7)) fun a38 c39 hu40 => JS.know 1 rfl fun hs139 => ?_
          refine JS.regionA rfl .nil [2, 0] [14, 15] trivial rfl (fun be49 => ?_)
          refine JA.reg ttOk panic_cx true 5 [0, 1, 2, 3, 4, 5, 7, 8, 9, 10, 11] rfl (by kernel_rfl) [(W (x1 + x7))] [(65, .v (.bool (decide ((y32.length : Int) = x7)))), (66, .cd [(65, true)] (.v (.slice a34 y32.length c35))), (68, .cd [(65, true)] (.v (.slice a3 x0.length c4))), (69, .cd [(65, true)] (.v (.int .i64 x1))), (72, .cd [(65, true)] (.v (.int .i64 (W (x1 + x7)))))] trivial [2, 0] rfl rfl ⟨(fun q141 => ⟨trivial, rfl⟩), ⟨rfl, rfl, rfl, rfl, rfl, trivial⟩⟩ (JA.strOf ttOk panic_cx 6 rfl (by kernel_rfl) rfl rfl rfl rfl rfl rfl rfl 0 rfl rfl trivial [2, 0] rfl (JA.sliceP ttOk panic_cx 12 rfl (by kernel_rfl) rfl rfl rfl rfl rfl rfl x1 (W (x1 + x7)) rfl rfl (fun q142 => ⟨(g37 q142).1, (g37 q142).2.1, (g37 q142).2.2, hs139.cap, hu40 (g37 q142)⟩) rfl (JA.strOf ttOk panic_cx 13 rfl (by kernel_rfl) rfl rfl rfl rfl rfl rfl rfl 1 rfl rfl trivial [2, 0] rfl (JA.regL ttOk panic_cx 0 [14, 15] rfl (by kernel_rfl) [] [(76, .v (.bool (bif (decide ((y32.length : Int) = x7)) then (decide (y32 = (sub' x0 x1 (W (x1 + x7))))) else false)))] rfl ⟨rfl, trivial⟩ (JA.done (by kernel_rfl) (JS.boxes (B' := .nil) trivial ?_))))))
          refine JS.cond rfl (fun ht143 => ?_) (fun ht143 => ?_)
          · have h := condT h ht143
            refine JS.seq (JS.region (JO.reg ttOk 4 [] [] [(4, .v (.int .i64 x28)), (5, .v (.int .i64 x7))] _ rfl ⟨⟨rfl, rfl, trivial⟩, rfl⟩ (JO.done rfl ?_)))
            cases h
            exact JS.ret ttOk () trivial rfl rfl [] rfl
          have h := condF h ht143
          refine JS.skip (JS.endB (JS.endJ () h ⟨rfl, rfl, rfl, trivial⟩ trivial [1] rfl [] rfl))
        rintro _ h
        subst hj146
        refine JS.region (JO.reg ttOk 3 [(W (x7 + 1))] [] [(6, .v (.int .i64 (W (x7 + 1))))] _ rfl ⟨⟨trivial, rfl⟩, ⟨rfl, trivial⟩, rfl⟩ (JO.done rfl (JS.endL (n78, (W (x7 + 1))) h (Nat.lt_succ_self _) ⟨rfl, rfl, rfl, trivial⟩ trivial [0] rfl [] rfl)))
      have h := condF h ht147
      refine JS.exit rfl (JS.endJ () h trivial trivial [] rfl [] rfl)
    rintro _ h
    subst hj148
    refine JS.seq (JS.region (JO.reg ttOk 2 [] [] [(4, .v (.int .i64 0)), (5, .v (.int .i64 0))] _ rfl ⟨⟨rfl, rfl, trivial⟩, rfl⟩ (JO.done rfl ?_)))
    cases h
    exact JS.ret ttOk () trivial rfl rfl [] rfl

def M_s_RuneBegin_L1 (x6 : Int) (j39 : (List UInt8 × List UInt8) → Option Bool) (k30 : (List UInt8 × List UInt8) → Option Bool) : (List UInt8 × List UInt8) → Option Bool := fun (x15, x18) =>
  (bif (decide ((x15.length : Int) < x6)) then
  (guardO (x15.length + ([(128 : UInt8)] : List UInt8).length ≤ 536870912) <|
  (guardO (x18.length + ([(191 : UInt8)] : List UInt8).length ≤ 536870912) <|
  k30 ((x15 ++ ([(128 : UInt8)] : List UInt8)), (x18 ++ ([(191 : UInt8)] : List UInt8)))))
  else
  j39 (x15, x18))

def M_s_RuneBegin_L2 (x0 : List UInt8) (j62 : Unit → Option Bool) (k55 : Int → Option Bool) : Int → Option Bool := fun x6 =>
  (bif (decide (x6 ≤ 4)) then
  (joinO (fun (_ : Unit) =>
  k55 (W (x6 + 1))) fun j49 =>
  (guardO (([] : List UInt8).length + x0.length ≤ 536870912) <|
  (guardO (([] : List UInt8).length + x0.length ≤ 536870912) <|
  (joinO (fun ((x33, x36) : List UInt8 × List UInt8) =>
  (bindO (M_s_RuneRead x33 0) fun (y41, y42) =>
  (bindO (M_s_RuneRead x36 0) fun (y44, y45) =>
  (bif (bif (decide (y42 = x6)) then true else (decide (y45 = x6))) then
  some true
  else
  j49 ())))) fun j39 =>
  (fixF (M_s_RuneBegin_L1 x6 j39) FUEL ((([] : List UInt8) ++ x0), (([] : List UInt8) ++ x0)))))))
  else
  j62 ())

def M_s_RuneBegin (x0 : List UInt8) : Option Bool :=
  (bif (bif (decide ((x0.length : Int) < 1)) then true else (decide (3 < (x0.length : Int)))) then
  some false
  else
  (joinO (fun (_ : Unit) =>
  some false) fun j62 =>
  (fixF (M_s_RuneBegin_L2 x0 j62) FUEL (W ((x0.length : Int) + 1)))))

theorem ok_s_RuneBegin (x0 : List UInt8) (a2 : Option Addr) (c3 : Nat) (l4 : Nat) (hl5 : x0.length = l4) (r : Bool) (h : M_s_RuneBegin x0 = some r) :
    FC Try.prog 93 [.slice a2 l4 c3] [⟨.byte, ⟨a2, l4, c3⟩, x0⟩] (fun _ : Unit => True) (fun _ => .bool r) (fun _ => []) :=
  by
    subst hl5
    refine FC.of (T := TTx) Try.call93 Try.func93 rfl rfl fun w0 => ?_
    unfold M_s_RuneBegin at h
    refine JS.seq (JS.region (JO.reg ttOk 1 [] [] [] _ rfl ⟨trivial, rfl⟩ (JO.done rfl (JS.seq (JS.seq (JS.region (JO.reg ttOk 8 [] [] [(17, .v (.bool (bif (decide ((x0.length : Int) < 1)) then true else (decide (3 < (x0.length : Int))))))] _ rfl ⟨⟨rfl, trivial⟩, rfl⟩ (JO.done rfl ?_))))))))
    refine JS.cond rfl (fun ht76 => ?_) (fun ht76 => ?_)
    · have h := condT h ht76
      refine JS.seq (JS.region (JO.reg ttOk 1 [] [] [(2, .v (.bool false))] _ rfl ⟨⟨rfl, trivial⟩, rfl⟩ (JO.done rfl ?_)))
      cases h
      exact JS.ret ttOk () trivial rfl rfl [] rfl
    have h := condF h ht76
    refine JS.skip (JS.seq (JS.seq (JS.region (JO.reg ttOk 4 [(W ((x0.length : Int) + 1))] [] [(3, .v (.int .i64 (W ((x0.length : Int) + 1))))] _ rfl ⟨⟨trivial, rfl⟩, ⟨rfl, trivial⟩, rfl⟩ (JO.done rfl ?_)))))
    obtain ⟨j62, hj75, h⟩ := joinO_some h
    refine JS.blockJ (ι := Unit) ⟨fun _ => j62 () = some r, fun _ => [], fun _ => .nil, fun _ => [], fun _ => [], fun _ => 0⟩ ?_ ?_
    · refine JS.loop (ι := Nat × Int) ⟨fun z => fixF (M_s_RuneBegin_L2 x0 j62) z.1 z.2 = some r, fun z => [(0, .v (.slice a2 x0.length c3)), (3, .v (.int .i64 z.2))], fun z => .nil, fun z => [⟨.byte, ⟨a2, x0.length, c3⟩, x0⟩], fun z => [], fun z => z.1⟩ (FUEL, (W ((x0.length : Int) + 1))) h ⟨rfl, rfl, trivial⟩ trivial [0] rfl [] rfl ?_
      rintro ⟨n56, x6⟩ h
      obtain ⟨n56, rfl, h⟩ := fixF_some h
      rw [M_s_RuneBegin_L2] at h
      refine JS.seq (JS.seq (JS.region (JO.reg ttOk 2 [] [] [(22, .v (.bool (decide (x6 ≤ 4))))] _ rfl ⟨⟨rfl, trivial⟩, rfl⟩ (JO.done rfl ?_))))
      refine JS.cond rfl (fun ht74 => ?_) (fun ht74 => ?_)
      · have h := condT h ht74
        refine JS.skip (JS.seq ?_)
        obtain ⟨j49, hj73, h⟩ := joinO_some h
        refine JS.blockJ (ι := Unit) ⟨fun _ => j49 () = some r, fun _ => [(0, .v (.slice a2 x0.length c3)), (3, .v (.int .i64 x6))], fun _ => .nil, fun _ => [⟨.byte, ⟨a2, x0.length, c3⟩, x0⟩], fun _ => [], fun _ => 0⟩ ?_ ?_
        · refine JS.seq (JS.region ?_)
          refine JO.ofK rfl (JK.buildSlice ttOk rfl rfl rfl rfl rfl rfl rfl rfl rfl rfl rfl [] rfl .byte [] ⟨rfl, rfl⟩ rfl rfl fun a7 => JO.toK ?_)
          refine JO.reg ttOk 1 [] [] [(26, .v (.slice a2 x0.length c3))] _ rfl ⟨⟨rfl, trivial⟩, rfl⟩ ?_
          obtain ⟨g8, h⟩ := guardO_some h
          refine JO.appendR' ttOk rfl rfl rfl rfl ⟨rfl, rfl, rfl, rfl, trivial, rfl, rfl, rfl, rfl⟩ rfl rfl rfl [0] rfl 0 rfl g8 rfl fun a9 c10 => JO.reg ttOk 1 [] [] [(4, .v (.slice a9 (([] : List UInt8) ++ x0).length c10))] _ rfl ⟨⟨rfl, trivial⟩, rfl⟩ (JO.done rfl (JS.seq (JS.region ?_)))
          refine JO.ofK rfl (JK.buildSlice ttOk rfl rfl rfl rfl rfl rfl rfl rfl rfl rfl rfl [] rfl .byte [] ⟨rfl, rfl⟩ rfl rfl fun a11 => JO.toK ?_)
          refine JO.reg ttOk 1 [] [] [(29, .v (.slice a2 x0.length c3))] _ rfl ⟨⟨rfl, trivial⟩, rfl⟩ ?_
          obtain ⟨g12, h⟩ := guardO_some h
          refine JO.appendR' ttOk rfl rfl rfl rfl ⟨rfl, rfl, rfl, rfl, trivial, rfl, rfl, rfl, rfl⟩ rfl rfl rfl [0] rfl 0 rfl g12 rfl fun a13 c14 => JO.reg ttOk 1 [] [] [(5, .v (.slice a13 (([] : List UInt8) ++ x0).length c14))] _ rfl ⟨⟨rfl, trivial⟩, rfl⟩ (JO.done rfl (JS.seq ?_))
          obtain ⟨j39, hj72, h⟩ := joinO_some h
          refine JS.blockJ (ι := List UInt8 × List UInt8 × Option Addr × Nat × Option Addr × Nat) ⟨fun z => j39 (z.1, z.2.1) = some r, fun z => [(0, .v (.slice a2 x0.length c3)), (3, .v (.int .i64 x6)), (4, .v (.slice z.2.2.1 z.1.length z.2.2.2.1)), (5, .v (.slice z.2.2.2.2.1 z.2.1.length z.2.2.2.2.2))], fun z => .nil, fun z => [⟨.byte, ⟨a2, x0.length, c3⟩, x0⟩], fun z => [⟨.byte, ⟨z.2.2.1, z.1.length, z.2.2.2.1⟩, z.1⟩, ⟨.byte, ⟨z.2.2.2.2.1, z.2.1.length, z.2.2.2.2.2⟩, z.2.1⟩], fun z => 0⟩ ?_ ?_
          · refine JS.loop (ι := Nat × List UInt8 × List UInt8 × Option Addr × Nat × Option Addr × Nat) ⟨fun z => fixF (M_s_RuneBegin_L1 x6 j39) z.1 (z.2.1, z.2.2.1) = some r, fun z => [(0, .v (.slice a2 x0.length c3)), (3, .v (.int .i64 x6)), (4, .v (.slice z.2.2.2.1 z.2.1.length z.2.2.2.2.1)), (5, .v (.slice z.2.2.2.2.2.1 z.2.2.1.length z.2.2.2.2.2.2))], fun z => .nil, fun z => [⟨.byte, ⟨a2, x0.length, c3⟩, x0⟩], fun z => [⟨.byte, ⟨z.2.2.2.1, z.2.1.length, z.2.2.2.2.1⟩, z.2.1⟩, ⟨.byte, ⟨z.2.2.2.2.2.1, z.2.2.1.length, z.2.2.2.2.2.2⟩, z.2.2.1⟩], fun z => z.1⟩ (FUEL, (([] : List UInt8) ++ x0), (([] : List UInt8) ++ x0), a9, c10, a13, c14) h ⟨rfl, rfl, rfl, rfl, trivial⟩ trivial [0] rfl [1, 0] rfl ?_
            rintro ⟨n31, x15, x18, a16, c17, a19, c20⟩ h
            obtain ⟨n31, rfl, h⟩ := fixF_some h
            rw [M_s_RuneBegin_L1] at h
            refine JS.seq (JS.seq (JS.region (JO.reg ttOk 4 [] [] [(34, .v (.bool (decide ((x15.length : Int) < x6))))] _ rfl ⟨⟨rfl, trivial⟩, rfl⟩ (JO.done rfl ?_))))
            refine JS.cond rfl (fun ht70 => ?_) (fun ht70 => ?_)
            · have h := condT h ht70
              refine JS.skip (JS.block (JS.seq (JS.region (JO.reg ttOk 1 [] [] [(35, .v (.slice a16 x15.length c17))] _ rfl ⟨⟨rfl, trivial⟩, rfl⟩ ?_))))
              refine JO.ofK rfl (JK.buildSlice ttOk rfl rfl rfl rfl rfl rfl rfl rfl rfl rfl rfl [] rfl .byte [(128 : UInt8)] ⟨rfl, rfl⟩ rfl rfl fun a21 => JO.toK ?_)
              obtain ⟨g22, h⟩ := guardO_some h
              refine JO.appendR' ttOk rfl rfl rfl rfl ⟨rfl, rfl, rfl, rfl, trivial, rfl, rfl, rfl, rfl⟩ rfl rfl rfl [1] rfl 1 rfl g22 rfl fun a23 c24 => JO.reg ttOk 1 [] [] [(4, .v (.slice a23 (x15 ++ ([(128 : UInt8)] : List UInt8)).length c24))] _ rfl ⟨⟨rfl, trivial⟩, rfl⟩ (JO.done rfl (JS.region (JO.reg ttOk 1 [] [] [(38, .v (.slice a19 x18.length c20))] _ rfl ⟨⟨rfl, trivial⟩, rfl⟩ ?_)))
              refine JO.ofK rfl (JK.buildSlice ttOk rfl rfl rfl rfl rfl rfl rfl rfl rfl rfl rfl [] rfl .byte [(191 : UInt8)] ⟨rfl, rfl⟩ rfl rfl fun a25 => JO.toK ?_)
              obtain ⟨g26, h⟩ := guardO_some h
              refine JO.appendR' ttOk rfl rfl rfl rfl ⟨rfl, rfl, rfl, rfl, trivial, rfl, rfl, rfl, rfl⟩ rfl rfl rfl [3] rfl 1 rfl g26 rfl fun a27 c28 => JO.reg ttOk 1 [] [] [(5, .v (.slice a27 (x18 ++ ([(191 : UInt8)] : List UInt8)).length c28))] _ rfl ⟨⟨rfl, trivial⟩, rfl⟩ (JO.done rfl (JS.endB (JS.endL (n31, (x15 ++ ([(128 : UInt8)] : List UInt8)), (x18 ++ ([(191 : UInt8)] : List UInt8)), a23, c24, a27, c28) h (Nat.lt_succ_self _) ⟨rfl, rfl, rfl, rfl, trivial⟩ trivial [0] rfl [2, 0] rfl)))
            have h := condF h ht70
            refine JS.exit rfl (JS.endJ (x15, x18, a16, c17, a19, c20) h ⟨rfl, rfl, rfl, rfl, trivial⟩ trivial [0] rfl [0, 0] rfl)
          rintro ⟨x33, x36, a34, c35, a37, c38⟩ h
          subst hj72
          refine JS.seq (JS.region (JO.reg ttOk 1 [] [] [(42, .v (.slice a34 x33.length c35))] _ rfl ⟨⟨rfl, trivial⟩, rfl⟩ ?_))
          obtain ⟨⟨y41, y42⟩, hy43, h⟩ := bindO_some h
          refine JO.call rfl rfl rfl rfl (ok_s_RuneRead x33 0 a34 c35 x33.length rfl _ hy43) rfl [1] rfl rfl fun _ _ => JO.reg ttOk 5 [] [] [(7, .v (.int .i64 y42))] _ rfl ⟨⟨rfl, trivial⟩, rfl⟩ (JO.done rfl (JS.seq (JS.region (JO.reg ttOk 1 [] [] [(47, .v (.slice a37 x36.length c38))] _ rfl ⟨⟨rfl, trivial⟩, rfl⟩ ?_))))
          obtain ⟨⟨y44, y45⟩, hy46, h⟩ := bindO_some h
          refine JO.call rfl rfl rfl rfl (ok_s_RuneRead x36 0 a37 c38 x36.length rfl _ hy46) rfl [2] rfl rfl fun _ _ => JO.reg ttOk 5 [] [] [(9, .v (.int .i64 y45))] _ rfl ⟨⟨rfl, trivial⟩, rfl⟩ (JO.done rfl (JS.seq (JS.region (JO.reg ttOk 8 [] [] [(58, .v (.bool (bif (decide (y42 = x6)) then true else (decide (y45 = x6)))))] _ rfl ⟨⟨rfl, trivial⟩, rfl⟩ (JO.done rfl ?_)))))
          refine JS.cond rfl (fun ht71 => ?_) (fun ht71 => ?_)
          · have h := condT h ht71
            refine JS.seq (JS.region (JO.reg ttOk 1 [] [] [(2, .v (.bool true))] _ rfl ⟨⟨rfl, trivial⟩, rfl⟩ (JO.done rfl ?_)))
            cases h
            exact JS.ret ttOk () trivial rfl rfl [] rfl
          have h := condF h ht71
          refine JS.skip (JS.endB (JS.endJ () h ⟨rfl, rfl, trivial⟩ trivial [0] rfl [] rfl))
        rintro _ h
        subst hj73
        refine JS.region (JO.reg ttOk 3 [(W (x6 + 1))] [] [(3, .v (.int .i64 (W (x6 + 1))))] _ rfl ⟨⟨trivial, rfl⟩, ⟨rfl, trivial⟩, rfl⟩ (JO.done rfl (JS.endL (n56, (W (x6 + 1))) h (Nat.lt_succ_self _) ⟨rfl, rfl, trivial⟩ trivial [0] rfl [] rfl)))
      have h := condF h ht74
      refine JS.exit rfl (JS.endJ () h trivial trivial [] rfl [] rfl)
    rintro _ h
    subst hj75
    refine JS.seq (JS.region (JO.reg ttOk 1 [] [] [(2, .v (.bool false))] _ rfl ⟨⟨rfl, trivial⟩, rfl⟩ (JO.done rfl ?_)))
    cases h
    exact JS.ret ttOk () trivial rfl rfl [] rfl

def M_s_VtOk_L1 (x0 : (Int × Int × List Int × Int × Int × Bool) × Int × List Int × List UInt8 × Int) (j45 : Unit → Option Bool) (k40 : Int → Option Bool) : Int → Option Bool := fun x16 =>
  (bif (decide (x16 < (x0.2.2.1.length : Int))) then
  (guardO (0 ≤ x16 ∧ x16 < (x0.2.2.1.length : Int)) <|
  (bif (bif (decide ((at' x0.2.2.1 x16) < 0)) then true else (decide (9999 < (at' x0.2.2.1 x16)))) then
  some false
  else
  k40 (W (x16 + 1))))
  else
  j45 ())

def M_s_VtOk (x0 : (Int × Int × List Int × Int × Int × Bool) × Int × List Int × List UInt8 × Int) : Option Bool :=
  (bindO (M_s_GridOk x0.1) fun (y14 : Bool) =>
  (bif (bif (bif (bif (bif (bif (!y14) then true else (decide (x0.2.1 < 0))) then true else (decide (2 < x0.2.1))) then true else (decide (4 < (x0.2.2.1.length : Int)))) then true else (decide (x0.2.2.2.2 < 0))) then true else (decide (1000000 < x0.2.2.2.2))) then
  some false
  else
  (joinO (fun (_ : Unit) =>
  (bif (bif (decide (0 < (x0.2.2.1.length : Int))) then (!(decide (x0.2.1 = 2))) else false) then
  some false
  else
  (callO ((decide (x0.2.1 = 0)) = true ∧ (decide ((x0.2.2.2.1.length : Int) = 0)) = false) (M_s_RuneBegin x0.2.2.2.1) false fun (y49 : Bool) =>
  some (bif (decide ((x0.2.2.2.1.length : Int) = 0)) then true else (bif (decide (x0.2.1 = 0)) then y49 else false))))) fun j45 =>
  (fixF (M_s_VtOk_L1 x0 j45) FUEL 0))))

theorem ok_s_VtOk (x0 : (Int × Int × List Int × Int × Int × Bool) × Int × List Int × List UInt8 × Int) (a2 : Option Addr) (c3 : Nat) (l4 : Nat) (hl5 : x0.1.2.2.1.length = l4) (a6 : Option Addr) (c7 : Nat) (l8 : Nat) (hl9 : x0.2.2.1.length = l8) (a10 : Option Addr) (c11 : Nat) (l12 : Nat) (hl13 : x0.2.2.2.1.length = l12) (r : Bool) (h : M_s_VtOk x0 = some r) :
    FC Try.prog 78 [.agg #[.int .i64 x0.1.1, .int .i64 x0.1.2.1, .slice a2 l4 c3, .int .i64 x0.1.2.2.2.1, .int .i64 x0.1.2.2.2.2.1, .bool x0.1.2.2.2.2.2, .int .i64 x0.2.1, .slice a6 l8 c7, .slice a10 l12 c11, .int .i64 x0.2.2.2.2]] [⟨(.int .i64), ⟨a2, l4, c3⟩, x0.1.2.2.1⟩, ⟨(.int .i64), ⟨a6, l8, c7⟩, x0.2.2.1⟩, ⟨.byte, ⟨a10, l12, c11⟩, x0.2.2.2.1⟩] (fun _ : Unit => True) (fun _ => .bool r) (fun _ => []) :=
  by
    subst hl5
    subst hl9
    subst hl13
    refine FC.of (T := TTx) Try.call78 Try.func78 rfl rfl fun w0 => ?_
    unfold M_s_VtOk at h
    refine JS.seq (JS.region (JO.regB ttOk 2 [] [4] [(1, .bp 4 0)] (.new 4 45 (cl45 x0 a2 c3 a6 c7 a10 c11) .nil) rfl ⟨⟨rfl, trivial⟩, ⟨rfl, rfl, rfl, rfl, trivial⟩⟩ (JO.done rfl (JS.seq (JS.seq (JS.region (JO.reg ttOk 2 [] [] [(6, .v (.agg (cl26 x0.1 a2 c3).toArray))] _ rfl ⟨⟨rfl, trivial⟩, rfl⟩ ?_)))))))
    obtain ⟨y14, hy15, h⟩ := bindO_some h
    refine JO.call rfl rfl rfl rfl (ok_s_GridOk x0.1 a2 c3 x0.1.2.2.1.length rfl _ hy15) rfl [0] rfl rfl fun _ _ => JO.reg ttOk 27 [] [] [(34, .v (.bool (bif (bif (bif (bif (bif (!y14) then true else (decide (x0.2.1 < 0))) then true else (decide (2 < x0.2.1))) then true else (decide (4 < (x0.2.2.1.length : Int)))) then true else (decide (x0.2.2.2.2 < 0))) then true else (decide (1000000 < x0.2.2.2.2)))))] _ rfl ⟨⟨rfl, trivial⟩, rfl⟩ (JO.done rfl ?_)
    refine JS.cond rfl (fun ht63 => ?_) (fun ht63 => ?_)
    · have h := condT h ht63
      refine JS.seq (JS.region (JO.reg ttOk 1 [] [] [(2, .v (.bool false))] _ rfl ⟨⟨rfl, trivial⟩, rfl⟩ (JO.done rfl ?_)))
      cases h
      exact JS.ret ttOk () trivial rfl rfl [] rfl
    have h := condF h ht63
    refine JS.skip (JS.seq (JS.seq (JS.region (JO.reg ttOk 4 [] [] [(36, .v (.slice a6 x0.2.2.1.length c7)), (37, .v (.int .i64 (x0.2.2.1.length : Int))), (38, .v (.int .i64 0))] _ rfl ⟨⟨rfl, rfl, rfl, trivial⟩, rfl⟩ (JO.done rfl ?_)))))
    obtain ⟨j45, hj62, h⟩ := joinO_some h
    refine JS.blockJ (ι := Unit) ⟨fun _ => j45 () = some r, fun _ => [(1, .bp 4 0)], fun _ => (.new 4 45 (cl45 x0 a2 c3 a6 c7 a10 c11) .nil), fun _ => [⟨(.int .i64), ⟨a2, x0.1.2.2.1.length, c3⟩, x0.1.2.2.1⟩, ⟨(.int .i64), ⟨a6, x0.2.2.1.length, c7⟩, x0.2.2.1⟩, ⟨.byte, ⟨a10, x0.2.2.2.1.length, c11⟩, x0.2.2.2.1⟩], fun _ => [], fun _ => 0⟩ ?_ ?_
    · refine JS.loop (ι := Nat × Int) ⟨fun z => fixF (M_s_VtOk_L1 x0 j45) z.1 z.2 = some r, fun z => [(1, .bp 4 0), (36, .v (.slice a6 x0.2.2.1.length c7)), (37, .v (.int .i64 (x0.2.2.1.length : Int))), (38, .v (.int .i64 z.2))], fun z => (.new 4 45 (cl45 x0 a2 c3 a6 c7 a10 c11) .nil), fun z => [⟨(.int .i64), ⟨a6, x0.2.2.1.length, c7⟩, x0.2.2.1⟩, ⟨(.int .i64), ⟨a2, x0.1.2.2.1.length, c3⟩, x0.1.2.2.1⟩, ⟨.byte, ⟨a10, x0.2.2.2.1.length, c11⟩, x0.2.2.2.1⟩], fun z => [], fun z => z.1⟩ (FUEL, 0) h ⟨rfl, rfl, rfl, rfl, trivial⟩ ⟨rfl, rfl, rfl, rfl, trivial⟩ [1, 0, 2] rfl [] rfl ?_
      rintro ⟨n41, x16⟩ h
      obtain ⟨n41, rfl, h⟩ := fixF_some h
      rw [M_s_VtOk_L1] at h
      refine JS.seq (JS.region (JO.reg ttOk 1 [] [] [(39, .v (.bool (decide (x16 < (x0.2.2.1.length : Int)))))] _ rfl ⟨⟨rfl, trivial⟩, rfl⟩ (JO.done rfl (JS.seq ?_))))
      refine JS.cond rfl (fun ht58 => ?_) (fun ht58 => ?_)
      · have h := condT h ht58
        refine JS.skip (JS.seq (JS.block (JS.seq (JS.region (JO.know 0 rfl fun hs56 => ?_)))))
        obtain ⟨g34, h⟩ := guardO_some h
        refine JO.reg ttOk 1 [] [] [(40, .ep ⟨a6, x0.2.2.1.length, c7⟩ (Int.toNat x16 * 1))] _ rfl ⟨hs56.ix g34, ⟨rfl, trivial⟩, rfl⟩ (JO.load ttOk rfl rfl rfl rfl rfl rfl rfl 0 rfl rfl (Int.toNat x16) 0 (at' x0.2.2.1 x16) ⟨at_some g34, rfl⟩ rfl rfl (JO.reg ttOk 1 [] [] [(4, .v (.int .i64 (at' x0.2.2.1 x16)))] _ rfl ⟨⟨rfl, trivial⟩, rfl⟩ (JO.done rfl (JS.seq (JS.region (JO.reg ttOk 6 [] [] [(47, .v (.bool (bif (decide ((at' x0.2.2.1 x16) < 0)) then true else (decide (9999 < (at' x0.2.2.1 x16))))))] _ rfl ⟨⟨rfl, trivial⟩, rfl⟩ (JO.done rfl ?_)))))))
        refine JS.cond rfl (fun ht57 => ?_) (fun ht57 => ?_)
        · have h := condT h ht57
          refine JS.seq (JS.region (JO.reg ttOk 1 [] [] [(2, .v (.bool false))] _ rfl ⟨⟨rfl, trivial⟩, rfl⟩ (JO.done rfl ?_)))
          cases h
          exact JS.ret ttOk () trivial rfl rfl [] rfl
        have h := condF h ht57
        refine JS.skip (JS.endB (JS.region (JO.reg ttOk 2 [(W (x16 + 1))] [] [(38, .v (.int .i64 (W (x16 + 1))))] _ rfl ⟨⟨trivial, rfl⟩, ⟨rfl, trivial⟩, rfl⟩ (JO.done rfl (JS.endL (n41, (W (x16 + 1))) h (Nat.lt_succ_self _) ⟨rfl, rfl, rfl, rfl, trivial⟩ ⟨rfl, rfl, rfl, rfl, trivial⟩ [0, 1, 2] rfl [] rfl)))))
      have h := condF h ht58
      refine JS.exit rfl (JS.endJ () h ⟨rfl, trivial⟩ ⟨rfl, rfl, rfl, rfl, trivial⟩ [1, 0, 2] rfl [] rfl)
    rintro _ h
    subst hj62
    refine JS.seq (JS.seq (JS.region (JO.reg ttOk 9 [] [] [(57, .v (.bool (bif (decide (0 < (x0.2.2.1.length : Int))) then (!(decide (x0.2.1 = 2))) else false)))] _ rfl ⟨⟨rfl, trivial⟩, rfl⟩ (JO.done rfl ?_))))
    refine JS.cond rfl (fun ht61 => ?_) (fun ht61 => ?_)
    · have h := condT h ht61
      refine JS.seq (JS.region (JO.reg ttOk 1 [] [] [(2, .v (.bool false))] _ rfl ⟨⟨rfl, trivial⟩, rfl⟩ (JO.done rfl ?_)))
      cases h
      exact JS.ret ttOk () trivial rfl rfl [] rfl
    have h := condF h ht61
    refine JS.skip (JS.seq (JS.region (JO.reg ttOk 11 [] [] [(62, .v (.bool (decide ((x0.2.2.2.1.length : Int) = 0)))), (66, .cd [(62, false)] (.v (.bool (decide (x0.2.1 = 0))))), (68, .cd [(66, true), (62, false)] (.v (.slice a10 x0.2.2.2.1.length c11)))] _ rfl ⟨⟨rfl, rfl, rfl, trivial⟩, rfl⟩ ?_)))
    obtain ⟨y49, hy50, -, h⟩ := callO_some h
    refine JO.callg rfl rfl rfl rfl (fun q59 q60 => ok_s_RuneBegin x0.2.2.2.1 a10 c11 x0.2.2.2.1.length rfl _ (hy50 ⟨q59, q60⟩)) rfl [2] rfl rfl (JO.reg ttOk 3 [] [] [(2, .v (.bool (bif (decide ((x0.2.2.2.1.length : Int) = 0)) then true else (bif (decide (x0.2.1 = 0)) then y49 else false))))] _ rfl ⟨⟨rfl, trivial⟩, rfl⟩ (JO.done rfl ?_))
    cases h
    exact JS.ret ttOk () trivial rfl rfl [] rfl

def M_s_l09Copy (x0 : (Int × Int × List Int × Int × Int × Bool) × Int × List Int × List UInt8 × Int) : Option ((Int × Int × List Int × Int × Int × Bool) × Int × List Int × List UInt8 × Int) :=
  (bindO (M_s_l08Copy x0.1) fun (y14 : Int × Int × List Int × Int × Int × Bool) =>
  (guardO (([] : List Int).length + x0.2.2.1.length ≤ 536870912) <|
  (guardO (([] : List UInt8).length + x0.2.2.2.1.length ≤ 536870912) <|
  some (y14, x0.2.1, (([] : List Int) ++ x0.2.2.1), (([] : List UInt8) ++ x0.2.2.2.1), x0.2.2.2.2))))

theorem ok_s_l09Copy (x0 : (Int × Int × List Int × Int × Int × Bool) × Int × List Int × List UInt8 × Int) (a2 : Option Addr) (c3 : Nat) (l4 : Nat) (hl5 : x0.1.2.2.1.length = l4) (a6 : Option Addr) (c7 : Nat) (l8 : Nat) (hl9 : x0.2.2.1.length = l8) (a10 : Option Addr) (c11 : Nat) (l12 : Nat) (hl13 : x0.2.2.2.1.length = l12) (r : (Int × Int × List Int × Int × Int × Bool) × Int × List Int × List UInt8 × Int) (h : M_s_l09Copy x0 = some r) :
    FC Try.prog 79 [.agg #[.int .i64 x0.1.1, .int .i64 x0.1.2.1, .slice a2 l4 c3, .int .i64 x0.1.2.2.2.1, .int .i64 x0.1.2.2.2.2.1, .bool x0.1.2.2.2.2.2, .int .i64 x0.2.1, .slice a6 l8 c7, .slice a10 l12 c11, .int .i64 x0.2.2.2.2]] [⟨(.int .i64), ⟨a2, l4, c3⟩, x0.1.2.2.1⟩, ⟨(.int .i64), ⟨a6, l8, c7⟩, x0.2.2.1⟩, ⟨.byte, ⟨a10, l12, c11⟩, x0.2.2.2.1⟩] (fun _ : Option Addr × Nat × Option Addr × Nat × Option Addr × Nat => True) (fun q => .agg (cl45 r q.1 q.2.1 q.2.2.1 q.2.2.2.1 q.2.2.2.2.1 q.2.2.2.2.2).toArray) (fun q => [⟨(.int .i64), ⟨q.1, r.1.2.2.1.length, q.2.1⟩, r.1.2.2.1⟩, ⟨(.int .i64), ⟨q.2.2.1, r.2.2.1.length, q.2.2.2.1⟩, r.2.2.1⟩, ⟨.byte, ⟨q.2.2.2.2.1, r.2.2.2.1.length, q.2.2.2.2.2⟩, r.2.2.2.1⟩]) :=
  by
    subst hl5
    subst hl9
    subst hl13
    refine FC.of (T := TTx) Try.call79 Try.func79 rfl rfl fun w0 => ?_
    unfold M_s_l09Copy at h
    refine JS.seq (JS.region (JO.regB ttOk 2 [] [4, 5] [(1, .bp 4 0), (2, .bp 5 0)] (.new 4 45 (cl45 x0 a2 c3 a6 c7 a10 c11) (.new 5 45 (cl45 ((0, 0, [], 0, 0, false), 0, [], [], 0) none 0 none 0 none 0) .nil)) rfl ⟨⟨rfl, rfl, trivial⟩, ⟨rfl, rfl, rfl, rfl, rfl, rfl, rfl, rfl, trivial⟩⟩ (JO.done rfl (JS.seq (JS.region (JO.reg ttOk 2 [] [] [(4, .v (.agg (cl26 x0.1 a2 c3).toArray))] _ rfl ⟨⟨rfl, trivial⟩, rfl⟩ ?_))))))
    obtain ⟨y14, hy15, h⟩ := bindO_some h
    refine JO.call rfl rfl rfl rfl (ok_s_l08Copy x0.1 a2 c3 x0.1.2.2.1.length rfl _ hy15) rfl [0] rfl rfl ?_
    rintro ⟨a16, c17⟩ -
    refine JO.regB ttOk 2 [] [] [] (.new 4 45 (cl45 (y14, x0.2.1, x0.2.2.1, x0.2.2.2.1, x0.2.2.2.2) a16 c17 a6 c7 a10 c11) (.new 5 45 (cl45 ((0, 0, [], 0, 0, false), 0, [], [], 0) none 0 none 0 none 0) .nil)) rfl ⟨trivial, ⟨rfl, rfl, rfl, rfl, rfl, rfl, rfl, rfl, trivial⟩⟩ (JO.done rfl (JS.seq (JS.region ?_)))
    refine JO.ofK rfl (JK.buildSlice ttOk rfl rfl rfl rfl rfl rfl rfl rfl rfl rfl rfl [] rfl (.int .i64) [] ⟨rfl, rfl⟩ rfl rfl fun a18 => JO.toK ?_)
    refine JO.reg ttOk 2 [] [] [(9, .v (.slice a6 x0.2.2.1.length c7))] _ rfl ⟨⟨rfl, trivial⟩, rfl⟩ ?_
    obtain ⟨g19, h⟩ := guardO_some h
    refine JO.appendR' ttOk rfl rfl rfl rfl ⟨rfl, rfl, rfl, rfl, trivial, rfl, rfl, rfl, rfl⟩ rfl rfl rfl [0] rfl 1 rfl g19 rfl fun a20 c21 => JO.regB ttOk 2 [] [] [] (.new 4 45 (cl45 (y14, x0.2.1, (([] : List Int) ++ x0.2.2.1), x0.2.2.2.1, x0.2.2.2.2) a16 c17 a20 c21 a10 c11) (.new 5 45 (cl45 ((0, 0, [], 0, 0, false), 0, [], [], 0) none 0 none 0 none 0) .nil)) rfl ⟨trivial, ⟨rfl, rfl, rfl, rfl, rfl, rfl, rfl, rfl, trivial⟩⟩ (JO.done rfl (JS.seq (JS.region ?_)))
    refine JO.ofK rfl (JK.buildSlice ttOk rfl rfl rfl rfl rfl rfl rfl rfl rfl rfl rfl [] rfl .byte [] ⟨rfl, rfl⟩ rfl rfl fun a22 => JO.toK ?_)
    refine JO.reg ttOk 2 [] [] [(14, .v (.slice a10 x0.2.2.2.1.length c11))] _ rfl ⟨⟨rfl, trivial⟩, rfl⟩ ?_
    obtain ⟨g23, h⟩ := guardO_some h
    refine JO.appendR' ttOk rfl rfl rfl rfl ⟨rfl, rfl, rfl, rfl, trivial, rfl, rfl, rfl, rfl⟩ rfl rfl rfl [0] rfl 2 rfl g23 rfl fun a24 c25 => JO.regB ttOk 2 [] [] [] (.new 4 45 (cl45 (y14, x0.2.1, (([] : List Int) ++ x0.2.2.1), (([] : List UInt8) ++ x0.2.2.2.1), x0.2.2.2.2) a16 c17 a20 c21 a24 c25) (.new 5 45 (cl45 ((0, 0, [], 0, 0, false), 0, [], [], 0) none 0 none 0 none 0) .nil)) rfl ⟨trivial, ⟨rfl, rfl, rfl, rfl, rfl, rfl, rfl, rfl, trivial⟩⟩ (JO.done rfl (JS.seq (JS.region (JO.regB ttOk 2 [] [] [] (.new 5 45 (cl45 (y14, x0.2.1, (([] : List Int) ++ x0.2.2.1), (([] : List UInt8) ++ x0.2.2.2.1), x0.2.2.2.2) a16 c17 a20 c21 a24 c25) .nil) rfl ⟨trivial, ⟨rfl, rfl, rfl, rfl, trivial⟩⟩ (JO.done rfl ?_)))))
    cases h
    exact JS.ret ttOk (a16, c17, a20, c21, a24, c25) trivial rfl rfl [2, 1, 0] rfl

def M_s_l09Plain (x0 : (Int × Int × List Int × Int × Int × Bool) × Int × List Int × List UInt8 × Int) (x1 : Int) : Option (((Int × Int × List Int × Int × Int × Bool) × Int × List Int × List UInt8 × Int) × List UInt8) :=
  (guardO (([] : List UInt8).length + x0.2.2.2.1.length ≤ 536870912) <|
  (guardO ((([] : List UInt8) ++ x0.2.2.2.1).length + ([(u8 (x1))] : List UInt8).length ≤ 536870912) <|
  (bif (decide (128 ≤ x1)) then
  (bindO (M_s_RuneRead ((([] : List UInt8) ++ x0.2.2.2.1) ++ ([(u8 (x1))] : List UInt8)) 0) fun (y23, y24) =>
  (joinO (fun ((x34, x35, x36, x39, x40, x41, x42) : Int × Int × List Int × Int × Int × Bool × List UInt8) =>
  some (((x34, x35, x36, x39, x40, x41), x0.2.1, x0.2.2.1, x42, x0.2.2.2.2), x0.2.2.2.1)) fun j45 =>
  (bif (decide (y24 = (((([] : List UInt8) ++ x0.2.2.2.1) ++ ([(u8 (x1))] : List UInt8)).length : Int))) then
  (bindO (M_s_GridPut x0.1 y23) fun (y26 : Int × Int × List Int × Int × Int × Bool) =>
  j45 (y26.1, y26.2.1, y26.2.2.1, y26.2.2.2.1, y26.2.2.2.2.1, y26.2.2.2.2.2, ([] : List UInt8)))
  else
  (bindO (M_s_RuneBegin ((([] : List UInt8) ++ x0.2.2.2.1) ++ ([(u8 (x1))] : List UInt8))) fun (y30 : Bool) =>
  (bif y30 then
  j45 (x0.1.1, x0.1.2.1, x0.1.2.2.1, x0.1.2.2.2.1, x0.1.2.2.2.2.1, x0.1.2.2.2.2.2, ((([] : List UInt8) ++ x0.2.2.2.1) ++ ([(u8 (x1))] : List UInt8)))
  else
  j45 (x0.1.1, x0.1.2.1, x0.1.2.2.1, x0.1.2.2.2.1, x0.1.2.2.2.2.1, x0.1.2.2.2.2.2, ([] : List UInt8)))))))
  else
  (joinO (fun ((x91, x92, x93, x96, x97, x98, x99, x100) : Int × Int × List Int × Int × Int × Bool × Int × Int) =>
  some (((x91, x92, x93, x96, x97, x98), x99, x0.2.2.1, [], x100), x0.2.2.2.1)) fun j101 =>
  (bif (decide (x1 = 7)) then
  (bif (decide (x0.2.2.2.2 < 1000000)) then
  j101 (x0.1.1, x0.1.2.1, x0.1.2.2.1, x0.1.2.2.2.1, x0.1.2.2.2.2.1, x0.1.2.2.2.2.2, x0.2.1, (W (x0.2.2.2.2 + 1)))
  else
  j101 (x0.1.1, x0.1.2.1, x0.1.2.2.1, x0.1.2.2.2.1, x0.1.2.2.2.2.1, x0.1.2.2.2.2.2, x0.2.1, x0.2.2.2.2))
  else
  (bif (decide (x1 = 8)) then
  (bindO (M_s_GridGo x0.1 (W (x0.1.2.2.2.1 - 1)) x0.1.2.2.2.2.1) fun (y50 : Int × Int × List Int × Int × Int × Bool) =>
  j101 (y50.1, y50.2.1, y50.2.2.1, y50.2.2.2.1, y50.2.2.2.2.1, y50.2.2.2.2.2, x0.2.1, x0.2.2.2.2))
  else
  (bif (decide (x1 = 13)) then
  (bindO (M_s_GridGo x0.1 0 x0.1.2.2.2.2.1) fun (y54 : Int × Int × List Int × Int × Int × Bool) =>
  j101 (y54.1, y54.2.1, y54.2.2.1, y54.2.2.2.1, y54.2.2.2.2.1, y54.2.2.2.2.2, x0.2.1, x0.2.2.2.2))
  else
  (bif (decide (x1 = 10)) then
  (joinO (fun ((x63, x66, x67, x68, x71, x72, x73) : List Int × Int × Int × List Int × Int × Int × Bool) =>
  (bindO (M_s_GridGo (x66, x67, x68, x71, x72, x73) x71 (W (x72 + 1))) fun (y76 : Int × Int × List Int × Int × Int × Bool) =>
  j101 (y76.1, y76.2.1, y76.2.2.1, y76.2.2.2.1, y76.2.2.2.2.1, y76.2.2.2.2.2, x0.2.1, x0.2.2.2.2))) fun j74 =>
  (bif (decide (x0.1.2.2.2.2.1 = (W (x0.1.2.1 - 1)))) then
  (bindO (M_s_GridScroll x0.1) fun (y58 : Int × Int × List Int × Int × Int × Bool) =>
  j74 (x0.1.2.2.1, y58.1, y58.2.1, y58.2.2.1, y58.2.2.2.1, y58.2.2.2.2.1, y58.2.2.2.2.2))
  else
  j74 (x0.1.2.2.1, x0.1.1, x0.1.2.1, x0.1.2.2.1, x0.1.2.2.2.1, x0.1.2.2.2.2.1, x0.1.2.2.2.2.2)))
  else
  (bif (decide (x1 = 27)) then
  j101 (x0.1.1, x0.1.2.1, x0.1.2.2.1, x0.1.2.2.2.1, x0.1.2.2.2.2.1, x0.1.2.2.2.2.2, 1, x0.2.2.2.2)
  else
  (bif (bif (decide (32 ≤ x1)) then (decide (x1 < 127)) else false) then
  (bindO (M_s_GridPut x0.1 x1) fun (y81 : Int × Int × List Int × Int × Int × Bool) =>
  j101 (y81.1, y81.2.1, y81.2.2.1, y81.2.2.2.1, y81.2.2.2.2.1, y81.2.2.2.2.2, x0.2.1, x0.2.2.2.2))
  else
  j101 (x0.1.1, x0.1.2.1, x0.1.2.2.1, x0.1.2.2.2.1, x0.1.2.2.2.2.1, x0.1.2.2.2.2.2, x0.2.1, x0.2.2.2.2)))))))))))

theorem ok_s_l09Plain (x0 : (Int × Int × List Int × Int × Int × Bool) × Int × List Int × List UInt8 × Int) (x1 : Int) (a3 : Option Addr) (c4 : Nat) (l5 : Nat) (hl6 : x0.1.2.2.1.length = l5) (a7 : Option Addr) (c8 : Nat) (l9 : Nat) (hl10 : x0.2.2.1.length = l9) (a11 : Option Addr) (c12 : Nat) (l13 : Nat) (hl14 : x0.2.2.2.1.length = l13) (r : ((Int × Int × List Int × Int × Int × Bool) × Int × List Int × List UInt8 × Int) × List UInt8) (h : M_s_l09Plain x0 x1 = some r) :
    FX Try.prog 94 [.agg #[.int .i64 x0.1.1, .int .i64 x0.1.2.1, .slice a3 l5 c4, .int .i64 x0.1.2.2.2.1, .int .i64 x0.1.2.2.2.2.1, .bool x0.1.2.2.2.2.2, .int .i64 x0.2.1, .slice a7 l9 c8, .slice a11 l13 c12, .int .i64 x0.2.2.2.2], .int .i64 x1] [] [⟨(.int .i64), ⟨a3, l5, c4⟩, x0.1.2.2.1⟩, ⟨(.int .i64), ⟨a7, l9, c8⟩, x0.2.2.1⟩, ⟨.byte, ⟨a11, l13, c12⟩, x0.2.2.2.1⟩] (fun _ : Option Addr × Nat × Option Addr × Nat × Option Addr × Nat => True) (fun q => .agg (cl45 r.1 q.1 q.2.1 q.2.2.1 q.2.2.2.1 q.2.2.2.2.1 q.2.2.2.2.2).toArray) (fun q => [⟨.byte, ⟨a11, l13, c12⟩, r.2⟩, ⟨(.int .i64), ⟨q.1, r.1.1.2.2.1.length, q.2.1⟩, r.1.1.2.2.1⟩, ⟨(.int .i64), ⟨q.2.2.1, r.1.2.2.1.length, q.2.2.2.1⟩, r.1.2.2.1⟩, ⟨.byte, ⟨q.2.2.2.2.1, r.1.2.2.2.1.length, q.2.2.2.2.2⟩, r.1.2.2.2.1⟩]) :=
  by
    subst hl6
    subst hl10
    subst hl14
    refine FX.of (T := TTx) Try.call94 Try.func94 rfl rfl fun w0 L0 => ?_
    unfold M_s_l09Plain at h
    refine JS.seq (JS.region (JO.regB ttOk 2 [] [4, 5] [(2, .bp 4 0), (4, .bp 5 0)] (.new 4 45 (cl45 x0 a3 c4 a7 c8 a11 c12) (.new 5 45 (cl45 ((0, 0, [], 0, 0, false), 0, [], [], 0) none 0 none 0 none 0) .nil)) rfl ⟨⟨rfl, rfl, trivial⟩, ⟨rfl, rfl, rfl, rfl, rfl, rfl, rfl, rfl, trivial⟩⟩ (JO.done rfl (JS.seq (JS.region (JO.regB ttOk 4 [] [6] [(5, .bp 6 0)] (.new 4 45 (cl45 x0 a3 c4 a7 c8 a11 c12) (.new 5 45 (cl45 ((0, 0, [], 0, 0, false), 0, [], [], 0) none 0 none 0 none 0) (.new 6 26 (cl26 x0.1 a3 c4) .nil))) rfl ⟨⟨rfl, trivial⟩, ⟨rfl, rfl, rfl, rfl, rfl, rfl, rfl, rfl, rfl, rfl, rfl, rfl, trivial⟩⟩ (JO.done rfl (JS.seq (JS.region ?_)))))))))
    refine JO.ofK rfl (JK.buildSlice ttOk rfl rfl rfl rfl rfl rfl rfl rfl rfl rfl rfl [] rfl .byte [] ⟨rfl, rfl⟩ rfl rfl fun a15 => JO.toK ?_)
    refine JO.reg ttOk 2 [] [] [(13, .v (.slice a11 x0.2.2.2.1.length c12))] _ rfl ⟨⟨rfl, trivial⟩, rfl⟩ ?_
    obtain ⟨g16, h⟩ := guardO_some h
    refine JO.appendR' ttOk rfl rfl rfl rfl ⟨rfl, rfl, rfl, rfl, trivial, rfl, rfl, rfl, rfl⟩ rfl rfl rfl [0] rfl 3 rfl g16 rfl fun a17 c18 => JO.reg ttOk 2 [((u8 (x1)).toNat : Int)] [] [(16, .v (.int .u8 ((u8 (x1)).toNat : Int)))] _ rfl ⟨⟨trivial, u8_wrap _⟩, ⟨rfl, trivial⟩, rfl⟩ ?_
    refine JO.ofK rfl (JK.buildSlice ttOk rfl rfl rfl rfl rfl rfl rfl rfl rfl rfl rfl [] rfl .byte [(u8 (x1))] ⟨rfl, rfl⟩ rfl rfl fun a19 => JO.toK ?_)
    obtain ⟨g20, h⟩ := guardO_some h
    refine JO.appendR' ttOk rfl rfl rfl rfl ⟨rfl, rfl, rfl, rfl, trivial, rfl, rfl, rfl, rfl⟩ rfl rfl rfl [1] rfl 0 rfl g20 rfl fun a21 c22 => JO.reg ttOk 1 [] [] [(6, .v (.slice a21 ((([] : List UInt8) ++ x0.2.2.2.1) ++ ([(u8 (x1))] : List UInt8)).length c22))] _ rfl ⟨⟨rfl, trivial⟩, rfl⟩ (JO.done rfl (JS.seq (JS.region (JO.regB ttOk 2 [] [] [] (.new 4 45 (cl45 (x0.1, x0.2.1, x0.2.2.1, [], x0.2.2.2.2) a3 c4 a7 c8 none 0) (.new 5 45 (cl45 ((0, 0, [], 0, 0, false), 0, [], [], 0) none 0 none 0 none 0) (.new 6 26 (cl26 x0.1 a3 c4) .nil))) rfl ⟨trivial, ⟨rfl, rfl, rfl, rfl, rfl, rfl, rfl, rfl, rfl, rfl, rfl, rfl, trivial⟩⟩ (JO.done rfl (JS.seq (JS.seq (JS.region (JO.reg ttOk 2 [] [] [(21, .v (.bool (decide (128 ≤ x1))))] _ rfl ⟨⟨rfl, trivial⟩, rfl⟩ (JO.done rfl ?_))))))))))
    refine JS.cond rfl (fun ht126 => ?_) (fun ht126 => ?_)
    · have h := condT h ht126
      refine JS.seq (JS.region (JO.reg ttOk 1 [] [] [(23, .v (.slice a21 ((([] : List UInt8) ++ x0.2.2.2.1) ++ ([(u8 (x1))] : List UInt8)).length c22))] _ rfl ⟨⟨rfl, trivial⟩, rfl⟩ ?_))
      obtain ⟨⟨y23, y24⟩, hy25, h⟩ := bindO_some h
      refine JO.call rfl rfl rfl rfl (ok_s_RuneRead ((([] : List UInt8) ++ x0.2.2.2.1) ++ ([(u8 (x1))] : List UInt8)) 0 a21 c22 (((([] : List UInt8) ++ x0.2.2.2.1) ++ ([(u8 (x1))] : List UInt8)).length) rfl _ hy25) rfl [0] rfl rfl fun _ _ => JO.reg ttOk 5 [] [] [(7, .v (.int .i64 y23)), (8, .v (.int .i64 y24))] _ rfl ⟨⟨rfl, rfl, trivial⟩, rfl⟩ (JO.done rfl ?_)
      obtain ⟨j45, hj115, h⟩ := joinO_some h
      refine JS.seqJ (ι := Int × Int × List Int × Int × Int × Bool × List UInt8 × Option Addr × Nat × Option Addr × Nat) ⟨fun z => j45 (z.1, z.2.1, z.2.2.1, z.2.2.2.1, z.2.2.2.2.1, z.2.2.2.2.2.1, z.2.2.2.2.2.2.1) = some r, fun z => [(2, .bp 4 0), (4, .bp 5 0)], fun z => (.new 4 45 (cl45 ((z.1, z.2.1, z.2.2.1, z.2.2.2.1, z.2.2.2.2.1, z.2.2.2.2.2.1), x0.2.1, x0.2.2.1, z.2.2.2.2.2.2.1, x0.2.2.2.2) z.2.2.2.2.2.2.2.1 z.2.2.2.2.2.2.2.2.1 a7 c8 z.2.2.2.2.2.2.2.2.2.1 z.2.2.2.2.2.2.2.2.2.2) (.new 5 45 (cl45 ((0, 0, [], 0, 0, false), 0, [], [], 0) none 0 none 0 none 0) .nil)), fun z => [], fun z => [⟨(.int .i64), ⟨z.2.2.2.2.2.2.2.1, z.2.2.1.length, z.2.2.2.2.2.2.2.2.1⟩, z.2.2.1⟩, ⟨.byte, ⟨z.2.2.2.2.2.2.2.2.2.1, z.2.2.2.2.2.2.1.length, z.2.2.2.2.2.2.2.2.2.2⟩, z.2.2.2.2.2.2.1⟩, ⟨(.int .i64), ⟨a7, x0.2.2.1.length, c8⟩, x0.2.2.1⟩, ⟨.byte, ⟨a11, x0.2.2.2.1.length, c12⟩, x0.2.2.2.1⟩], fun z => 0⟩ ?_ ?_
      · refine JS.seq (JS.region (JO.reg ttOk 4 [] [] [(30, .v (.bool (decide (y24 = (((([] : List UInt8) ++ x0.2.2.2.1) ++ ([(u8 (x1))] : List UInt8)).length : Int)))))] _ rfl ⟨⟨rfl, trivial⟩, rfl⟩ (JO.done rfl ?_)))
        refine JS.cond rfl (fun ht114 => ?_) (fun ht114 => ?_)
        · have h := condT h ht114
          refine JS.region (JO.reg ttOk 2 [] [] [(31, .v (.agg (cl26 x0.1 a3 c4).toArray)), (32, .v (.int .i64 y23))] _ rfl ⟨⟨rfl, rfl, trivial⟩, rfl⟩ ?_)
          obtain ⟨y26, hy27, h⟩ := bindO_some h
          refine JO.call rfl rfl rfl rfl (ok_s_GridPut x0.1 y23 a3 c4 x0.1.2.2.1.length rfl _ hy27) rfl [2] rfl rfl ?_
          rintro ⟨a28, c29⟩ -
          refine JO.regB ttOk 2 [] [] [] (.new 4 45 (cl45 (y26, x0.2.1, x0.2.2.1, [], x0.2.2.2.2) a28 c29 a7 c8 none 0) (.new 5 45 (cl45 ((0, 0, [], 0, 0, false), 0, [], [], 0) none 0 none 0 none 0) .nil)) rfl ⟨trivial, ⟨rfl, rfl, rfl, rfl, rfl, rfl, rfl, rfl, trivial⟩⟩ (JO.done rfl (JS.nilO .byte Sl.nil rfl rfl (JS.endJA (y26.1, y26.2.1, y26.2.2.1, y26.2.2.2.1, y26.2.2.2.2.1, y26.2.2.2.2.2, ([] : List UInt8), a28, c29, none, 0) h ⟨rfl, rfl, trivial⟩ ⟨rfl, rfl, rfl, rfl, rfl, rfl, rfl, rfl, trivial⟩ [] rfl [1, 0, 5, 6] rfl rfl)))
        have h := condF h ht114
        refine JS.seq (JS.region (JO.reg ttOk 1 [] [] [(35, .v (.slice a21 ((([] : List UInt8) ++ x0.2.2.2.1) ++ ([(u8 (x1))] : List UInt8)).length c22))] _ rfl ⟨⟨rfl, trivial⟩, rfl⟩ ?_))
        obtain ⟨y30, hy31, h⟩ := bindO_some h
        refine JO.call rfl rfl rfl rfl (ok_s_RuneBegin ((([] : List UInt8) ++ x0.2.2.2.1) ++ ([(u8 (x1))] : List UInt8)) a21 c22 (((([] : List UInt8) ++ x0.2.2.2.1) ++ ([(u8 (x1))] : List UInt8)).length) rfl _ hy31) rfl [0] rfl rfl fun _ _ => JO.done rfl ?_
        refine JS.cond rfl (fun ht113 => ?_) (fun ht113 => ?_)
        · have h := condT h ht113
          refine JS.region (JO.regB ttOk 3 [] [] [] (.new 4 45 (cl45 (x0.1, x0.2.1, x0.2.2.1, ((([] : List UInt8) ++ x0.2.2.2.1) ++ ([(u8 (x1))] : List UInt8)), x0.2.2.2.2) a3 c4 a7 c8 a21 c22) (.new 5 45 (cl45 ((0, 0, [], 0, 0, false), 0, [], [], 0) none 0 none 0 none 0) .nil)) rfl ⟨trivial, ⟨rfl, rfl, rfl, rfl, rfl, rfl, rfl, rfl, trivial⟩⟩ (JO.done rfl (JS.endJA (x0.1.1, x0.1.2.1, x0.1.2.2.1, x0.1.2.2.2.1, x0.1.2.2.2.2.1, x0.1.2.2.2.2.2, ((([] : List UInt8) ++ x0.2.2.2.1) ++ ([(u8 (x1))] : List UInt8)), a3, c4, a21, c22) h ⟨rfl, rfl, trivial⟩ ⟨rfl, rfl, rfl, rfl, rfl, rfl, rfl, rfl, trivial⟩ [] rfl [2, 0, 3, 4] rfl rfl)))
        have h := condF h ht113
        refine JS.skip (JS.nilO .byte Sl.nil rfl rfl (JS.endJA (x0.1.1, x0.1.2.1, x0.1.2.2.1, x0.1.2.2.2.1, x0.1.2.2.2.2.1, x0.1.2.2.2.2.2, ([] : List UInt8), a3, c4, none, 0) h ⟨rfl, rfl, trivial⟩ ⟨rfl, rfl, rfl, rfl, rfl, rfl, rfl, rfl, trivial⟩ [] rfl [3, 0, 4, 5] rfl rfl))
      rintro ⟨x34, x35, x36, x39, x40, x41, x42, a37, c38, a43, c44⟩ h
      subst hj115
      refine JS.seq (JS.region (JO.regB ttOk 2 [] [] [] (.new 5 45 (cl45 ((x34, x35, x36, x39, x40, x41), x0.2.1, x0.2.2.1, x42, x0.2.2.2.2) a37 c38 a7 c8 a43 c44) .nil) rfl ⟨trivial, ⟨rfl, rfl, rfl, rfl, trivial⟩⟩ (JO.done rfl ?_)))
      cases h
      exact JS.retX ttOk (a37, c38, a7, c8, a43, c44) trivial rfl rfl [3, 0, 1, 0] rfl
    have h := condF h ht126
    refine JS.skip (JS.seq ?_)
    obtain ⟨j101, hj125, h⟩ := joinO_some h
    refine JS.blockJ (ι := Int × Int × List Int × Int × Int × Bool × Int × Int × Option Addr × Nat) ⟨fun z => j101 (z.1, z.2.1, z.2.2.1, z.2.2.2.1, z.2.2.2.2.1, z.2.2.2.2.2.1, z.2.2.2.2.2.2.1, z.2.2.2.2.2.2.2.1) = some r, fun z => [(2, .bp 4 0), (4, .bp 5 0)], fun z => (.new 4 45 (cl45 ((z.1, z.2.1, z.2.2.1, z.2.2.2.1, z.2.2.2.2.1, z.2.2.2.2.2.1), z.2.2.2.2.2.2.1, x0.2.2.1, [], z.2.2.2.2.2.2.2.1) z.2.2.2.2.2.2.2.2.1 z.2.2.2.2.2.2.2.2.2 a7 c8 none 0) (.new 5 45 (cl45 ((0, 0, [], 0, 0, false), 0, [], [], 0) none 0 none 0 none 0) .nil)), fun z => [], fun z => [⟨(.int .i64), ⟨z.2.2.2.2.2.2.2.2.1, z.2.2.1.length, z.2.2.2.2.2.2.2.2.2⟩, z.2.2.1⟩, ⟨(.int .i64), ⟨a7, x0.2.2.1.length, c8⟩, x0.2.2.1⟩, ⟨.byte, ⟨a11, x0.2.2.2.1.length, c12⟩, x0.2.2.2.1⟩], fun z => 0⟩ ?_ ?_
    · refine JS.seq (JS.region (JO.reg ttOk 3 [] [] [(40, .v (.bool (decide (x1 = 7))))] _ rfl ⟨⟨rfl, trivial⟩, rfl⟩ (JO.done rfl ?_)))
      refine JS.cond rfl (fun ht124 => ?_) (fun ht124 => ?_)
      · have h := condT h ht124
        refine JS.seq (JS.region (JO.reg ttOk 3 [] [] [(45, .v (.bool (decide (x0.2.2.2.2 < 1000000))))] _ rfl ⟨⟨rfl, trivial⟩, rfl⟩ (JO.done rfl ?_)))
        refine JS.cond rfl (fun ht116 => ?_) (fun ht116 => ?_)
        · have h := condT h ht116
          refine JS.region (JO.regB ttOk 5 [(W (x0.2.2.2.2 + 1))] [] [] (.new 4 45 (cl45 (x0.1, x0.2.1, x0.2.2.1, [], (W (x0.2.2.2.2 + 1))) a3 c4 a7 c8 none 0) (.new 5 45 (cl45 ((0, 0, [], 0, 0, false), 0, [], [], 0) none 0 none 0 none 0) .nil)) rfl ⟨⟨trivial, rfl⟩, trivial, ⟨rfl, rfl, rfl, rfl, rfl, rfl, rfl, rfl, trivial⟩⟩ (JO.done rfl (JS.endB (JS.endJA (x0.1.1, x0.1.2.1, x0.1.2.2.1, x0.1.2.2.2.1, x0.1.2.2.2.2.1, x0.1.2.2.2.2.2, x0.2.1, (W (x0.2.2.2.2 + 1)), a3, c4) h ⟨rfl, rfl, trivial⟩ ⟨rfl, rfl, rfl, rfl, rfl, rfl, rfl, rfl, trivial⟩ [] rfl [2, 3, 4] rfl rfl))))
        have h := condF h ht116
        refine JS.skip (JS.endB (JS.endJA (x0.1.1, x0.1.2.1, x0.1.2.2.1, x0.1.2.2.2.1, x0.1.2.2.2.2.1, x0.1.2.2.2.2.2, x0.2.1, x0.2.2.2.2, a3, c4) h ⟨rfl, rfl, trivial⟩ ⟨rfl, rfl, rfl, rfl, rfl, rfl, rfl, rfl, trivial⟩ [] rfl [2, 3, 4] rfl rfl))
      have h := condF h ht124
      refine JS.seq (JS.region (JO.reg ttOk 3 [] [] [(50, .v (.bool (decide (x1 = 8))))] _ rfl ⟨⟨rfl, trivial⟩, rfl⟩ (JO.done rfl ?_)))
      refine JS.cond rfl (fun ht123 => ?_) (fun ht123 => ?_)
      · have h := condT h ht123
        refine JS.region (JO.reg ttOk 6 [(W (x0.1.2.2.2.1 - 1))] [] [(53, .v (.agg (cl26 x0.1 a3 c4).toArray)), (56, .v (.int .i64 (W (x0.1.2.2.2.1 - 1)))), (58, .v (.int .i64 x0.1.2.2.2.2.1))] _ rfl ⟨⟨trivial, rfl⟩, ⟨rfl, rfl, rfl, trivial⟩, rfl⟩ ?_)
        obtain ⟨y50, hy51, h⟩ := bindO_some h
        refine JO.call rfl rfl rfl rfl (ok_s_GridGo x0.1 (W (x0.1.2.2.2.1 - 1)) x0.1.2.2.2.2.1 a3 c4 x0.1.2.2.1.length rfl _ hy51) rfl [2] rfl rfl ?_
        rintro ⟨a52, c53⟩ -
        refine JO.regB ttOk 2 [] [] [] (.new 4 45 (cl45 (y50, x0.2.1, x0.2.2.1, [], x0.2.2.2.2) a52 c53 a7 c8 none 0) (.new 5 45 (cl45 ((0, 0, [], 0, 0, false), 0, [], [], 0) none 0 none 0 none 0) .nil)) rfl ⟨trivial, ⟨rfl, rfl, rfl, rfl, rfl, rfl, rfl, rfl, trivial⟩⟩ (JO.done rfl (JS.endB (JS.endJA (y50.1, y50.2.1, y50.2.2.1, y50.2.2.2.1, y50.2.2.2.2.1, y50.2.2.2.2.2, x0.2.1, x0.2.2.2.2, a52, c53) h ⟨rfl, rfl, trivial⟩ ⟨rfl, rfl, rfl, rfl, rfl, rfl, rfl, rfl, trivial⟩ [] rfl [0, 4, 5] rfl rfl)))
      have h := condF h ht123
      refine JS.seq (JS.region (JO.reg ttOk 3 [] [] [(61, .v (.bool (decide (x1 = 13))))] _ rfl ⟨⟨rfl, trivial⟩, rfl⟩ (JO.done rfl ?_)))
      refine JS.cond rfl (fun ht122 => ?_) (fun ht122 => ?_)
      · have h := condT h ht122
        refine JS.region (JO.reg ttOk 3 [] [] [(64, .v (.agg (cl26 x0.1 a3 c4).toArray)), (66, .v (.int .i64 x0.1.2.2.2.2.1))] _ rfl ⟨⟨rfl, rfl, trivial⟩, rfl⟩ ?_)
        obtain ⟨y54, hy55, h⟩ := bindO_some h
        refine JO.call rfl rfl rfl rfl (ok_s_GridGo x0.1 0 x0.1.2.2.2.2.1 a3 c4 x0.1.2.2.1.length rfl _ hy55) rfl [2] rfl rfl ?_
        rintro ⟨a56, c57⟩ -
        refine JO.regB ttOk 2 [] [] [] (.new 4 45 (cl45 (y54, x0.2.1, x0.2.2.1, [], x0.2.2.2.2) a56 c57 a7 c8 none 0) (.new 5 45 (cl45 ((0, 0, [], 0, 0, false), 0, [], [], 0) none 0 none 0 none 0) .nil)) rfl ⟨trivial, ⟨rfl, rfl, rfl, rfl, rfl, rfl, rfl, rfl, trivial⟩⟩ (JO.done rfl (JS.endB (JS.endJA (y54.1, y54.2.1, y54.2.2.1, y54.2.2.2.1, y54.2.2.2.2.1, y54.2.2.2.2.2, x0.2.1, x0.2.2.2.2, a56, c57) h ⟨rfl, rfl, trivial⟩ ⟨rfl, rfl, rfl, rfl, rfl, rfl, rfl, rfl, trivial⟩ [] rfl [0, 4, 5] rfl rfl)))
      have h := condF h ht122
      refine JS.seq (JS.region (JO.reg ttOk 3 [] [] [(69, .v (.bool (decide (x1 = 10))))] _ rfl ⟨⟨rfl, trivial⟩, rfl⟩ (JO.done rfl ?_)))
      refine JS.cond rfl (fun ht121 => ?_) (fun ht121 => ?_)
      · have h := condT h ht121
        obtain ⟨j74, hj118, h⟩ := joinO_some h
        refine JS.seqJ (ι := List Int × Int × Int × List Int × Int × Int × Bool × Option Addr × Nat × Option Addr × Nat) ⟨fun z => j74 (z.1, z.2.1, z.2.2.1, z.2.2.2.1, z.2.2.2.2.1, z.2.2.2.2.2.1, z.2.2.2.2.2.2.1) = some r, fun z => [(2, .bp 4 0), (4, .bp 5 0), (5, .bp 6 0)], fun z => (.new 4 45 (cl45 ((x0.1.1, x0.1.2.1, z.1, x0.1.2.2.2.1, x0.1.2.2.2.2.1, x0.1.2.2.2.2.2), x0.2.1, x0.2.2.1, [], x0.2.2.2.2) z.2.2.2.2.2.2.2.1 z.2.2.2.2.2.2.2.2.1 a7 c8 none 0) (.new 5 45 (cl45 ((0, 0, [], 0, 0, false), 0, [], [], 0) none 0 none 0 none 0) (.new 6 26 (cl26 (z.2.1, z.2.2.1, z.2.2.2.1, z.2.2.2.2.1, z.2.2.2.2.2.1, z.2.2.2.2.2.2.1) z.2.2.2.2.2.2.2.2.2.1 z.2.2.2.2.2.2.2.2.2.2) .nil))), fun z => [⟨(.int .i64), ⟨z.2.2.2.2.2.2.2.1, z.1.length, z.2.2.2.2.2.2.2.2.1⟩, z.1⟩, ⟨(.int .i64), ⟨z.2.2.2.2.2.2.2.2.2.1, z.2.2.2.1.length, z.2.2.2.2.2.2.2.2.2.2⟩, z.2.2.2.1⟩], fun z => [⟨(.int .i64), ⟨a7, x0.2.2.1.length, c8⟩, x0.2.2.1⟩, ⟨.byte, ⟨a11, x0.2.2.2.1.length, c12⟩, x0.2.2.2.1⟩], fun z => 0⟩ ?_ ?_
        · refine JS.seq (JS.region (JO.reg ttOk 6 [(W (x0.1.2.1 - 1))] [] [(77, .v (.bool (decide (x0.1.2.2.2.2.1 = (W (x0.1.2.1 - 1))))))] _ rfl ⟨⟨trivial, rfl⟩, ⟨rfl, trivial⟩, rfl⟩ (JO.done rfl ?_)))
          refine JS.cond rfl (fun ht117 => ?_) (fun ht117 => ?_)
          · have h := condT h ht117
            refine JS.region (JO.reg ttOk 1 [] [] [(78, .v (.agg (cl26 x0.1 a3 c4).toArray))] _ rfl ⟨⟨rfl, trivial⟩, rfl⟩ ?_)
            obtain ⟨y58, hy59, h⟩ := bindO_some h
            refine JO.call rfl rfl rfl rfl (ok_s_GridScroll x0.1 a3 c4 x0.1.2.2.1.length rfl _ hy59) rfl [2] rfl rfl ?_
            rintro ⟨a60, c61⟩ -
            refine JO.regB ttOk 1 [] [] [] (.new 4 45 (cl45 (x0.1, x0.2.1, x0.2.2.1, [], x0.2.2.2.2) a3 c4 a7 c8 none 0) (.new 5 45 (cl45 ((0, 0, [], 0, 0, false), 0, [], [], 0) none 0 none 0 none 0) (.new 6 26 (cl26 y58 a60 c61) .nil))) rfl ⟨trivial, ⟨rfl, rfl, rfl, rfl, rfl, rfl, rfl, rfl, rfl, rfl, rfl, rfl, trivial⟩⟩ (JO.done rfl (JS.freeze [3] rfl (JS.freeze [0] rfl (JS.endJ (x0.1.2.2.1, y58.1, y58.2.1, y58.2.2.1, y58.2.2.2.1, y58.2.2.2.2.1, y58.2.2.2.2.2, a3, c4, a60, c61) h ⟨rfl, rfl, rfl, trivial⟩ ⟨rfl, rfl, rfl, rfl, rfl, rfl, rfl, rfl, rfl, rfl, rfl, rfl, trivial⟩ [1, 0] rfl [2, 2] rfl))))
          have h := condF h ht117
          refine JS.skip (JS.freeze [2] rfl (JS.endJ (x0.1.2.2.1, x0.1.1, x0.1.2.1, x0.1.2.2.1, x0.1.2.2.2.1, x0.1.2.2.2.2.1, x0.1.2.2.2.2.2, a3, c4, a3, c4) h ⟨rfl, rfl, rfl, trivial⟩ ⟨rfl, rfl, rfl, rfl, rfl, rfl, rfl, rfl, rfl, rfl, rfl, rfl, trivial⟩ [0, 0] rfl [2, 2] rfl))
        rintro ⟨x63, x66, x67, x68, x71, x72, x73, a64, c65, a69, c70⟩ h
        subst hj118
        refine JS.region (JO.reg ttOk 6 [(W (x72 + 1))] [] [(80, .v (.agg (cl26 (x66, x67, x68, x71, x72, x73) a69 c70).toArray)), (82, .v (.int .i64 x71)), (85, .v (.int .i64 (W (x72 + 1))))] _ rfl ⟨⟨trivial, rfl⟩, ⟨rfl, rfl, rfl, trivial⟩, rfl⟩ ?_)
        obtain ⟨y76, hy77, h⟩ := bindO_some h
        refine JO.call rfl rfl rfl rfl (ok_s_GridGo (x66, x67, x68, x71, x72, x73) x71 (W (x72 + 1)) a69 c70 x68.length rfl _ hy77) rfl [1] rfl rfl ?_
        rintro ⟨a78, c79⟩ -
        refine JO.regB ttOk 2 [] [] [] (.new 4 45 (cl45 (y76, x0.2.1, x0.2.2.1, [], x0.2.2.2.2) a78 c79 a7 c8 none 0) (.new 5 45 (cl45 ((0, 0, [], 0, 0, false), 0, [], [], 0) none 0 none 0 none 0) .nil)) rfl ⟨trivial, ⟨rfl, rfl, rfl, rfl, rfl, rfl, rfl, rfl, trivial⟩⟩ (JO.done rfl (JS.endB (JS.endJA (y76.1, y76.2.1, y76.2.2.1, y76.2.2.2.1, y76.2.2.2.2.1, y76.2.2.2.2.2, x0.2.1, x0.2.2.2.2, a78, c79) h ⟨rfl, rfl, trivial⟩ ⟨rfl, rfl, rfl, rfl, rfl, rfl, rfl, rfl, trivial⟩ [] rfl [0, 1, 2] rfl rfl)))
      have h := condF h ht121
      refine JS.seq (JS.region (JO.reg ttOk 3 [] [] [(88, .v (.bool (decide (x1 = 27))))] _ rfl ⟨⟨rfl, trivial⟩, rfl⟩ (JO.done rfl ?_)))
      refine JS.cond rfl (fun ht120 => ?_) (fun ht120 => ?_)
      · have h := condT h ht120
        refine JS.region (JO.regB ttOk 2 [] [] [] (.new 4 45 (cl45 (x0.1, 1, x0.2.2.1, [], x0.2.2.2.2) a3 c4 a7 c8 none 0) (.new 5 45 (cl45 ((0, 0, [], 0, 0, false), 0, [], [], 0) none 0 none 0 none 0) .nil)) rfl ⟨trivial, ⟨rfl, rfl, rfl, rfl, rfl, rfl, rfl, rfl, trivial⟩⟩ (JO.done rfl (JS.endB (JS.endJA (x0.1.1, x0.1.2.1, x0.1.2.2.1, x0.1.2.2.2.1, x0.1.2.2.2.2.1, x0.1.2.2.2.2.2, 1, x0.2.2.2.2, a3, c4) h ⟨rfl, rfl, trivial⟩ ⟨rfl, rfl, rfl, rfl, rfl, rfl, rfl, rfl, trivial⟩ [] rfl [2, 3, 4] rfl rfl))))
      have h := condF h ht120
      refine JS.seq (JS.region (JO.reg ttOk 7 [] [] [(92, .v (.bool (bif (decide (32 ≤ x1)) then (decide (x1 < 127)) else false)))] _ rfl ⟨⟨rfl, trivial⟩, rfl⟩ (JO.done rfl ?_)))
      refine JS.cond rfl (fun ht119 => ?_) (fun ht119 => ?_)
      · have h := condT h ht119
        refine JS.region (JO.reg ttOk 2 [] [] [(99, .v (.agg (cl26 x0.1 a3 c4).toArray)), (100, .v (.int .i64 x1))] _ rfl ⟨⟨rfl, rfl, trivial⟩, rfl⟩ ?_)
        obtain ⟨y81, hy82, h⟩ := bindO_some h
        refine JO.call rfl rfl rfl rfl (ok_s_GridPut x0.1 x1 a3 c4 x0.1.2.2.1.length rfl _ hy82) rfl [2] rfl rfl ?_
        rintro ⟨a83, c84⟩ -
        refine JO.regB ttOk 2 [] [] [] (.new 4 45 (cl45 (y81, x0.2.1, x0.2.2.1, [], x0.2.2.2.2) a83 c84 a7 c8 none 0) (.new 5 45 (cl45 ((0, 0, [], 0, 0, false), 0, [], [], 0) none 0 none 0 none 0) .nil)) rfl ⟨trivial, ⟨rfl, rfl, rfl, rfl, rfl, rfl, rfl, rfl, trivial⟩⟩ (JO.done rfl (JS.endB (JS.endJA (y81.1, y81.2.1, y81.2.2.1, y81.2.2.2.1, y81.2.2.2.2.1, y81.2.2.2.2.2, x0.2.1, x0.2.2.2.2, a83, c84) h ⟨rfl, rfl, trivial⟩ ⟨rfl, rfl, rfl, rfl, rfl, rfl, rfl, rfl, trivial⟩ [] rfl [0, 4, 5] rfl rfl)))
      have h := condF h ht119
      refine JS.skip (JS.endB (JS.endJA (x0.1.1, x0.1.2.1, x0.1.2.2.1, x0.1.2.2.2.1, x0.1.2.2.2.2.1, x0.1.2.2.2.2.2, x0.2.1, x0.2.2.2.2, a3, c4) h ⟨rfl, rfl, trivial⟩ ⟨rfl, rfl, rfl, rfl, rfl, rfl, rfl, rfl, trivial⟩ [] rfl [2, 3, 4] rfl rfl))
    rintro ⟨x91, x92, x93, x96, x97, x98, x99, x100, a94, c95⟩ h
    subst hj125
    refine JS.seq (JS.region (JO.regB ttOk 2 [] [] [] (.new 5 45 (cl45 ((x91, x92, x93, x96, x97, x98), x99, x0.2.2.1, [], x100) a94 c95 a7 c8 none 0) .nil) rfl ⟨trivial, ⟨rfl, rfl, rfl, rfl, trivial⟩⟩ (JO.done rfl ?_)))
    cases h
    refine JS.nilO .byte Sl.nil rfl rfl (JS.retX ttOk (a94, c95, a7, c8, none, 0) trivial rfl rfl [3, 1, 1, 0] rfl)

def M_s_l09Arg (x0 : List Int) (x1 : Int) (x2 : Int) : Option Int :=
  (bif (decide ((x0.length : Int) ≤ x1)) then
  some x2
  else
  (guardO (0 ≤ x1 ∧ x1 < (x0.length : Int)) <|
  (bif (decide ((at' x0 x1) = 0)) then
  some x2
  else
  (guardO (0 ≤ x1 ∧ x1 < (x0.length : Int)) <|
  some (at' x0 x1)))))

theorem ok_s_l09Arg (x0 : List Int) (x1 : Int) (x2 : Int) (a4 : Option Addr) (c5 : Nat) (l6 : Nat) (hl7 : x0.length = l6) (r : Int) (h : M_s_l09Arg x0 x1 x2 = some r) :
    FC Try.prog 106 [.slice a4 l6 c5, .int .i64 x1, .int .i64 x2] [⟨(.int .i64), ⟨a4, l6, c5⟩, x0⟩] (fun _ : Unit => True) (fun _ => .int .i64 r) (fun _ => []) :=
  by
    subst hl7
    refine FC.of (T := TTx) Try.call106 Try.func106 rfl rfl fun w0 => ?_
    unfold M_s_l09Arg at h
    refine JS.seq (JS.region (JO.reg ttOk 1 [] [] [] _ rfl ⟨trivial, rfl⟩ (JO.done rfl (JS.seq (JS.seq (JS.region (JO.reg ttOk 4 [] [] [(10, .v (.bool (decide ((x0.length : Int) ≤ x1))))] _ rfl ⟨⟨rfl, trivial⟩, rfl⟩ (JO.done rfl ?_))))))))
    refine JS.cond rfl (fun ht15 => ?_) (fun ht15 => ?_)
    · have h := condT h ht15
      refine JS.seq (JS.region (JO.reg ttOk 2 [] [] [(6, .v (.int .i64 x2))] _ rfl ⟨⟨rfl, trivial⟩, rfl⟩ (JO.done rfl ?_)))
      cases h
      exact JS.ret ttOk () trivial rfl rfl [] rfl
    have h := condF h ht15
    refine JS.skip (JS.seq (JS.seq (JS.region (JO.know 0 rfl fun hs13 => ?_))))
    obtain ⟨g9, h⟩ := guardO_some h
    refine JO.reg ttOk 3 [] [] [(14, .ep ⟨a4, x0.length, c5⟩ (Int.toNat x1 * 1))] _ rfl ⟨hs13.ix g9, ⟨rfl, trivial⟩, rfl⟩ (JO.load ttOk rfl rfl rfl rfl rfl rfl rfl 0 rfl rfl (Int.toNat x1) 0 (at' x0 x1) ⟨at_some g9, rfl⟩ rfl rfl (JO.reg ttOk 1 [] [] [(16, .v (.bool (decide ((at' x0 x1) = 0))))] _ rfl ⟨⟨rfl, trivial⟩, rfl⟩ (JO.done rfl ?_)))
    refine JS.cond rfl (fun ht14 => ?_) (fun ht14 => ?_)
    · have h := condT h ht14
      refine JS.seq (JS.region (JO.reg ttOk 2 [] [] [(6, .v (.int .i64 x2))] _ rfl ⟨⟨rfl, trivial⟩, rfl⟩ (JO.done rfl ?_)))
      cases h
      exact JS.ret ttOk () trivial rfl rfl [] rfl
    have h := condF h ht14
    refine JS.skip (JS.seq (JS.region ?_))
    obtain ⟨g10, h⟩ := guardO_some h
    refine JO.reg ttOk 3 [] [] [(20, .ep ⟨a4, x0.length, c5⟩ (Int.toNat x1 * 1))] _ rfl ⟨hs13.ix g10, ⟨rfl, trivial⟩, rfl⟩ (JO.load ttOk rfl rfl rfl rfl rfl rfl rfl 0 rfl rfl (Int.toNat x1) 0 (at' x0 x1) ⟨at_some g10, rfl⟩ rfl rfl (JO.reg ttOk 1 [] [] [(6, .v (.int .i64 (at' x0 x1)))] _ rfl ⟨⟨rfl, trivial⟩, rfl⟩ (JO.done rfl ?_)))
    cases h
    exact JS.ret ttOk () trivial rfl rfl [] rfl

def M_s_l09Erase (x0 : Int × Int × List Int × Int × Int × Bool) (x1 : Int) (x2 : Int) (x3 : Int) (x4 : Int) : Option (Int × Int × List Int × Int × Int × Bool) :=
  (bif (decide (x4 = 0)) then
  (bindO (M_s_GridClear x0 x2 x3) fun (y10 : Int × Int × List Int × Int × Int × Bool) =>
  some y10)
  else
  (bif (decide (x4 = 1)) then
  (bindO (M_s_GridClear x0 x1 (W (x2 + 1))) fun (y14 : Int × Int × List Int × Int × Int × Bool) =>
  some y14)
  else
  (bif (decide (x4 = 2)) then
  (bindO (M_s_GridClear x0 x1 x3) fun (y18 : Int × Int × List Int × Int × Int × Bool) =>
  some y18)
  else
  some x0)))

theorem ok_s_l09Erase (x0 : Int × Int × List Int × Int × Int × Bool) (x1 : Int) (x2 : Int) (x3 : Int) (x4 : Int) (a6 : Option Addr) (c7 : Nat) (l8 : Nat) (hl9 : x0.2.2.1.length = l8) (r : Int × Int × List Int × Int × Int × Bool) (h : M_s_l09Erase x0 x1 x2 x3 x4 = some r) :
    FX Try.prog 107 [.agg #[.int .i64 x0.1, .int .i64 x0.2.1, .slice a6 l8 c7, .int .i64 x0.2.2.2.1, .int .i64 x0.2.2.2.2.1, .bool x0.2.2.2.2.2], .int .i64 x1, .int .i64 x2, .int .i64 x3, .int .i64 x4] [] [⟨(.int .i64), ⟨a6, l8, c7⟩, x0.2.2.1⟩] (fun _ : Option Addr × Nat => True) (fun q => .agg (cl26 r q.1 q.2).toArray) (fun q => [⟨(.int .i64), ⟨q.1, r.2.2.1.length, q.2⟩, r.2.2.1⟩]) :=
  by
    subst hl9
    refine FX.of (T := TTx) Try.call107 Try.func107 rfl rfl fun w0 L0 => ?_
    unfold M_s_l09Erase at h
    refine JS.seq (JS.region (JO.regB ttOk 2 [] [2, 3] [(5, .bp 2 0), (10, .bp 3 0)] (.new 2 26 (cl26 x0 a6 c7) (.new 3 26 (cl26 (0, 0, [], 0, 0, false) none 0) .nil)) rfl ⟨⟨rfl, rfl, trivial⟩, ⟨rfl, rfl, rfl, rfl, rfl, rfl, rfl, rfl, trivial⟩⟩ (JO.done rfl (JS.seq (JS.seq (JS.region (JO.reg ttOk 1 [] [] [(11, .v (.int .i64 x4))] _ rfl ⟨⟨rfl, trivial⟩, rfl⟩ (JO.done rfl (JS.block (JS.seq (JS.region (JO.reg ttOk 2 [] [] [(12, .v (.bool (decide (x4 = 0))))] _ rfl ⟨⟨rfl, trivial⟩, rfl⟩ (JO.done rfl ?_)))))))))))))
    refine JS.cond rfl (fun ht27 => ?_) (fun ht27 => ?_)
    · have h := condT h ht27
      refine JS.seq (JS.region (JO.reg ttOk 3 [] [] [(14, .v (.agg (cl26 x0 a6 c7).toArray)), (15, .v (.int .i64 x2)), (16, .v (.int .i64 x3))] _ rfl ⟨⟨rfl, rfl, rfl, trivial⟩, rfl⟩ ?_))
      obtain ⟨y10, hy11, h⟩ := bindO_some h
      refine JO.call rfl rfl rfl rfl (ok_s_GridClear x0 x2 x3 a6 c7 x0.2.2.1.length rfl _ hy11) rfl [0] rfl rfl ?_
      rintro ⟨a12, c13⟩ -
      refine JO.regB ttOk 1 [] [] [] (.new 3 26 (cl26 y10 a12 c13) .nil) rfl ⟨trivial, ⟨rfl, rfl, rfl, rfl, trivial⟩⟩ (JO.done rfl ?_)
      cases h
      exact JS.retX ttOk (a12, c13) trivial rfl rfl [0] rfl
    have h := condF h ht27
    refine JS.seq (JS.region (JO.reg ttOk 2 [] [] [(18, .v (.bool (decide (x4 = 1))))] _ rfl ⟨⟨rfl, trivial⟩, rfl⟩ (JO.done rfl ?_)))
    refine JS.cond rfl (fun ht26 => ?_) (fun ht26 => ?_)
    · have h := condT h ht26
      refine JS.seq (JS.region (JO.reg ttOk 4 [(W (x2 + 1))] [] [(20, .v (.agg (cl26 x0 a6 c7).toArray)), (21, .v (.int .i64 x1)), (23, .v (.int .i64 (W (x2 + 1))))] _ rfl ⟨⟨trivial, rfl⟩, ⟨rfl, rfl, rfl, trivial⟩, rfl⟩ ?_))
      obtain ⟨y14, hy15, h⟩ := bindO_some h
      refine JO.call rfl rfl rfl rfl (ok_s_GridClear x0 x1 (W (x2 + 1)) a6 c7 x0.2.2.1.length rfl _ hy15) rfl [0] rfl rfl ?_
      rintro ⟨a16, c17⟩ -
      refine JO.regB ttOk 1 [] [] [] (.new 3 26 (cl26 y14 a16 c17) .nil) rfl ⟨trivial, ⟨rfl, rfl, rfl, rfl, trivial⟩⟩ (JO.done rfl ?_)
      cases h
      exact JS.retX ttOk (a16, c17) trivial rfl rfl [0] rfl
    have h := condF h ht26
    refine JS.seq (JS.region (JO.reg ttOk 2 [] [] [(25, .v (.bool (decide (x4 = 2))))] _ rfl ⟨⟨rfl, trivial⟩, rfl⟩ (JO.done rfl ?_)))
    refine JS.cond rfl (fun ht25 => ?_) (fun ht25 => ?_)
    · have h := condT h ht25
      refine JS.seq (JS.region (JO.reg ttOk 3 [] [] [(27, .v (.agg (cl26 x0 a6 c7).toArray)), (28, .v (.int .i64 x1)), (29, .v (.int .i64 x3))] _ rfl ⟨⟨rfl, rfl, rfl, trivial⟩, rfl⟩ ?_))
      obtain ⟨y18, hy19, h⟩ := bindO_some h
      refine JO.call rfl rfl rfl rfl (ok_s_GridClear x0 x1 x3 a6 c7 x0.2.2.1.length rfl _ hy19) rfl [0] rfl rfl ?_
      rintro ⟨a20, c21⟩ -
      refine JO.regB ttOk 1 [] [] [] (.new 3 26 (cl26 y18 a20 c21) .nil) rfl ⟨trivial, ⟨rfl, rfl, rfl, rfl, trivial⟩⟩ (JO.done rfl ?_)
      cases h
      exact JS.retX ttOk (a20, c21) trivial rfl rfl [0] rfl
    have h := condF h ht25
    refine JS.skip (JS.endB (JS.seq (JS.region (JO.regB ttOk 2 [] [] [] (.new 3 26 (cl26 x0 a6 c7) .nil) rfl ⟨trivial, ⟨rfl, rfl, rfl, rfl, trivial⟩⟩ (JO.done rfl ?_)))))
    cases h
    exact JS.retX ttOk (a6, c7) trivial rfl rfl [0] rfl

def M_s_l09Act (x0 : (Int × Int × List Int × Int × Int × Bool) × Int × List Int × List UInt8 × Int) (x1 : Int) : Option (((Int × Int × List Int × Int × Int × Bool) × Int × List Int × List UInt8 × Int) × List Int) :=
  (bindO (M_s_l09Arg x0.2.2.1 0 1) fun (y15 : Int) =>
  (joinO (fun ((x61, x62, x63, x66, x67, x68) : Int × Int × List Int × Int × Int × Bool) =>
  some (((x61, x62, x63, x66, x67, x68), 0, [], x0.2.2.2.1, x0.2.2.2.2), x0.2.2.1)) fun j69 =>
  (bif (decide (x1 = 65)) then
  (bindO (M_s_GridGo x0.1 x0.1.2.2.2.1 (W (x0.1.2.2.2.2.1 - y15))) fun (y17 : Int × Int × List Int × Int × Int × Bool) =>
  j69 (y17.1, y17.2.1, y17.2.2.1, y17.2.2.2.1, y17.2.2.2.2.1, y17.2.2.2.2.2))
  else
  (bif (decide (x1 = 66)) then
  (bindO (M_s_GridGo x0.1 x0.1.2.2.2.1 (W (x0.1.2.2.2.2.1 + y15))) fun (y21 : Int × Int × List Int × Int × Int × Bool) =>
  j69 (y21.1, y21.2.1, y21.2.2.1, y21.2.2.2.1, y21.2.2.2.2.1, y21.2.2.2.2.2))
  else
  (bif (decide (x1 = 67)) then
  (bindO (M_s_GridGo x0.1 (W (x0.1.2.2.2.1 + y15)) x0.1.2.2.2.2.1) fun (y25 : Int × Int × List Int × Int × Int × Bool) =>
  j69 (y25.1, y25.2.1, y25.2.2.1, y25.2.2.2.1, y25.2.2.2.2.1, y25.2.2.2.2.2))
  else
  (bif (decide (x1 = 68)) then
  (bindO (M_s_GridGo x0.1 (W (x0.1.2.2.2.1 - y15)) x0.1.2.2.2.2.1) fun (y29 : Int × Int × List Int × Int × Int × Bool) =>
  j69 (y29.1, y29.2.1, y29.2.2.1, y29.2.2.2.1, y29.2.2.2.2.1, y29.2.2.2.2.2))
  else
  (bif (decide (x1 = 72)) then
  (bindO (M_s_l09Arg x0.2.2.1 1 1) fun (y33 : Int) =>
  (bindO (M_s_GridGo x0.1 (W (y33 - 1)) (W (y15 - 1))) fun (y35 : Int × Int × List Int × Int × Int × Bool) =>
  j69 (y35.1, y35.2.1, y35.2.2.1, y35.2.2.2.1, y35.2.2.2.2.1, y35.2.2.2.2.2)))
  else
  (bif (decide (x1 = 74)) then
  (bindO (M_s_l09Arg x0.2.2.1 0 0) fun (y40 : Int) =>
  (bindO (M_s_l09Erase x0.1 0 (W ((W (x0.1.2.2.2.2.1 * x0.1.1)) + x0.1.2.2.2.1)) (x0.1.2.2.1.length : Int) y40) fun (y42 : Int × Int × List Int × Int × Int × Bool) =>
  j69 (y42.1, y42.2.1, y42.2.2.1, y42.2.2.2.1, y42.2.2.2.2.1, y42.2.2.2.2.2)))
  else
  (bif (decide (x1 = 75)) then
  (bindO (M_s_l09Arg x0.2.2.1 0 0) fun (y47 : Int) =>
  (bindO (M_s_l09Erase x0.1 (W (x0.1.2.2.2.2.1 * x0.1.1)) (W ((W (x0.1.2.2.2.2.1 * x0.1.1)) + x0.1.2.2.2.1)) (W ((W (x0.1.2.2.2.2.1 * x0.1.1)) + x0.1.1)) y47) fun (y49 : Int × Int × List Int × Int × Int × Bool) =>
  j69 (y49.1, y49.2.1, y49.2.2.1, y49.2.2.2.1, y49.2.2.2.2.1, y49.2.2.2.2.2)))
  else
  j69 (x0.1.1, x0.1.2.1, x0.1.2.2.1, x0.1.2.2.2.1, x0.1.2.2.2.2.1, x0.1.2.2.2.2.2))))))))))

theorem ok_s_l09Act (x0 : (Int × Int × List Int × Int × Int × Bool) × Int × List Int × List UInt8 × Int) (x1 : Int) (a3 : Option Addr) (c4 : Nat) (l5 : Nat) (hl6 : x0.1.2.2.1.length = l5) (a7 : Option Addr) (c8 : Nat) (l9 : Nat) (hl10 : x0.2.2.1.length = l9) (a11 : Option Addr) (c12 : Nat) (l13 : Nat) (hl14 : x0.2.2.2.1.length = l13) (r : ((Int × Int × List Int × Int × Int × Bool) × Int × List Int × List UInt8 × Int) × List Int) (h : M_s_l09Act x0 x1 = some r) :
    FX Try.prog 102 [.agg #[.int .i64 x0.1.1, .int .i64 x0.1.2.1, .slice a3 l5 c4, .int .i64 x0.1.2.2.2.1, .int .i64 x0.1.2.2.2.2.1, .bool x0.1.2.2.2.2.2, .int .i64 x0.2.1, .slice a7 l9 c8, .slice a11 l13 c12, .int .i64 x0.2.2.2.2], .int .i64 x1] [] [⟨(.int .i64), ⟨a3, l5, c4⟩, x0.1.2.2.1⟩, ⟨(.int .i64), ⟨a7, l9, c8⟩, x0.2.2.1⟩, ⟨.byte, ⟨a11, l13, c12⟩, x0.2.2.2.1⟩] (fun _ : Option Addr × Nat × Option Addr × Nat => True) (fun q => .agg (cl45 (r.1.1, r.1.2.1, [], r.1.2.2.2.1, r.1.2.2.2.2) q.1 q.2.1 none 0 q.2.2.1 q.2.2.2).toArray) (fun q => [⟨(.int .i64), ⟨a7, l9, c8⟩, r.2⟩, ⟨(.int .i64), ⟨q.1, r.1.1.2.2.1.length, q.2.1⟩, r.1.1.2.2.1⟩, ⟨.byte, ⟨q.2.2.1, r.1.2.2.2.1.length, q.2.2.2⟩, r.1.2.2.2.1⟩]) :=
  by
    subst hl6
    subst hl10
    subst hl14
    refine FX.of (T := TTx) Try.call102 Try.func102 rfl rfl fun w0 L0 => ?_
    unfold M_s_l09Act at h
    refine JS.seq (JS.region (JO.regB ttOk 2 [] [4, 5] [(2, .bp 4 0), (4, .bp 5 0)] (.new 4 45 (cl45 x0 a3 c4 a7 c8 a11 c12) (.new 5 45 (cl45 ((0, 0, [], 0, 0, false), 0, [], [], 0) none 0 none 0 none 0) .nil)) rfl ⟨⟨rfl, rfl, trivial⟩, ⟨rfl, rfl, rfl, rfl, rfl, rfl, rfl, rfl, trivial⟩⟩ (JO.done rfl (JS.seq (JS.region (JO.regB ttOk 4 [] [6] [(5, .bp 6 0)] (.new 4 45 (cl45 x0 a3 c4 a7 c8 a11 c12) (.new 5 45 (cl45 ((0, 0, [], 0, 0, false), 0, [], [], 0) none 0 none 0 none 0) (.new 6 26 (cl26 x0.1 a3 c4) .nil))) rfl ⟨⟨rfl, trivial⟩, ⟨rfl, rfl, rfl, rfl, rfl, rfl, rfl, rfl, rfl, rfl, rfl, rfl, trivial⟩⟩ (JO.done rfl (JS.seq (JS.region (JO.reg ttOk 2 [] [] [(11, .v (.slice a7 x0.2.2.1.length c8))] _ rfl ⟨⟨rfl, trivial⟩, rfl⟩ ?_))))))))))
    obtain ⟨y15, hy16, h⟩ := bindO_some h
    refine JO.call rfl rfl rfl rfl (ok_s_l09Arg x0.2.2.1 0 1 a7 c8 x0.2.2.1.length rfl _ hy16) rfl [1] rfl rfl fun _ _ => JO.reg ttOk 1 [] [] [(6, .v (.int .i64 y15))] _ rfl ⟨⟨rfl, trivial⟩, rfl⟩ (JO.done rfl (JS.seq (JS.region (JO.reg ttOk 9 [(W (x0.1.2.2.2.2.1 * x0.1.1)), (W ((W (x0.1.2.2.2.2.1 * x0.1.1)) + x0.1.2.2.2.1))] [] [(7, .v (.int .i64 (W ((W (x0.1.2.2.2.2.1 * x0.1.1)) + x0.1.2.2.2.1))))] _ rfl ⟨⟨trivial, rfl⟩, ⟨trivial, rfl⟩, ⟨rfl, trivial⟩, rfl⟩ (JO.done rfl (JS.seq (JS.seq (JS.region (JO.reg ttOk 1 [] [] [(21, .v (.int .i64 x1))] _ rfl ⟨⟨rfl, trivial⟩, rfl⟩ (JO.done rfl ?_))))))))))
    obtain ⟨j69, hj85, h⟩ := joinO_some h
    refine JS.blockJ (ι := Int × Int × List Int × Int × Int × Bool × Option Addr × Nat) ⟨fun z => j69 (z.1, z.2.1, z.2.2.1, z.2.2.2.1, z.2.2.2.2.1, z.2.2.2.2.2.1) = some r, fun z => [(2, .bp 4 0), (4, .bp 5 0)], fun z => (.new 4 45 (cl45 ((z.1, z.2.1, z.2.2.1, z.2.2.2.1, z.2.2.2.2.1, z.2.2.2.2.2.1), x0.2.1, x0.2.2.1, x0.2.2.2.1, x0.2.2.2.2) z.2.2.2.2.2.2.1 z.2.2.2.2.2.2.2 a7 c8 a11 c12) (.new 5 45 (cl45 ((0, 0, [], 0, 0, false), 0, [], [], 0) none 0 none 0 none 0) .nil)), fun z => [], fun z => [⟨(.int .i64), ⟨z.2.2.2.2.2.2.1, z.2.2.1.length, z.2.2.2.2.2.2.2⟩, z.2.2.1⟩, ⟨(.int .i64), ⟨a7, x0.2.2.1.length, c8⟩, x0.2.2.1⟩, ⟨.byte, ⟨a11, x0.2.2.2.1.length, c12⟩, x0.2.2.2.1⟩], fun z => 0⟩ ?_ ?_
    · refine JS.seq (JS.region (JO.reg ttOk 2 [] [] [(22, .v (.bool (decide (x1 = 65))))] _ rfl ⟨⟨rfl, trivial⟩, rfl⟩ (JO.done rfl ?_)))
      refine JS.cond rfl (fun ht84 => ?_) (fun ht84 => ?_)
      · have h := condT h ht84
        refine JS.region (JO.reg ttOk 7 [(W (x0.1.2.2.2.2.1 - y15))] [] [(24, .v (.agg (cl26 x0.1 a3 c4).toArray)), (26, .v (.int .i64 x0.1.2.2.2.1)), (30, .v (.int .i64 (W (x0.1.2.2.2.2.1 - y15))))] _ rfl ⟨⟨trivial, rfl⟩, ⟨rfl, rfl, rfl, trivial⟩, rfl⟩ ?_)
        obtain ⟨y17, hy18, h⟩ := bindO_some h
        refine JO.call rfl rfl rfl rfl (ok_s_GridGo x0.1 x0.1.2.2.2.1 (W (x0.1.2.2.2.2.1 - y15)) a3 c4 x0.1.2.2.1.length rfl _ hy18) rfl [0] rfl rfl ?_
        rintro ⟨a19, c20⟩ -
        refine JO.regB ttOk 2 [] [] [] (.new 4 45 (cl45 (y17, x0.2.1, x0.2.2.1, x0.2.2.2.1, x0.2.2.2.2) a19 c20 a7 c8 a11 c12) (.new 5 45 (cl45 ((0, 0, [], 0, 0, false), 0, [], [], 0) none 0 none 0 none 0) .nil)) rfl ⟨trivial, ⟨rfl, rfl, rfl, rfl, rfl, rfl, rfl, rfl, trivial⟩⟩ (JO.done rfl (JS.endB (JS.endJA (y17.1, y17.2.1, y17.2.2.1, y17.2.2.2.1, y17.2.2.2.2.1, y17.2.2.2.2.2, a19, c20) h ⟨rfl, rfl, trivial⟩ ⟨rfl, rfl, rfl, rfl, rfl, rfl, rfl, rfl, trivial⟩ [] rfl [0, 2, 3] rfl rfl)))
      have h := condF h ht84
      refine JS.seq (JS.region (JO.reg ttOk 2 [] [] [(33, .v (.bool (decide (x1 = 66))))] _ rfl ⟨⟨rfl, trivial⟩, rfl⟩ (JO.done rfl ?_)))
      refine JS.cond rfl (fun ht83 => ?_) (fun ht83 => ?_)
      · have h := condT h ht83
        refine JS.region (JO.reg ttOk 7 [(W (x0.1.2.2.2.2.1 + y15))] [] [(35, .v (.agg (cl26 x0.1 a3 c4).toArray)), (37, .v (.int .i64 x0.1.2.2.2.1)), (41, .v (.int .i64 (W (x0.1.2.2.2.2.1 + y15))))] _ rfl ⟨⟨trivial, rfl⟩, ⟨rfl, rfl, rfl, trivial⟩, rfl⟩ ?_)
        obtain ⟨y21, hy22, h⟩ := bindO_some h
        refine JO.call rfl rfl rfl rfl (ok_s_GridGo x0.1 x0.1.2.2.2.1 (W (x0.1.2.2.2.2.1 + y15)) a3 c4 x0.1.2.2.1.length rfl _ hy22) rfl [0] rfl rfl ?_
        rintro ⟨a23, c24⟩ -
        refine JO.regB ttOk 2 [] [] [] (.new 4 45 (cl45 (y21, x0.2.1, x0.2.2.1, x0.2.2.2.1, x0.2.2.2.2) a23 c24 a7 c8 a11 c12) (.new 5 45 (cl45 ((0, 0, [], 0, 0, false), 0, [], [], 0) none 0 none 0 none 0) .nil)) rfl ⟨trivial, ⟨rfl, rfl, rfl, rfl, rfl, rfl, rfl, rfl, trivial⟩⟩ (JO.done rfl (JS.endB (JS.endJA (y21.1, y21.2.1, y21.2.2.1, y21.2.2.2.1, y21.2.2.2.2.1, y21.2.2.2.2.2, a23, c24) h ⟨rfl, rfl, trivial⟩ ⟨rfl, rfl, rfl, rfl, rfl, rfl, rfl, rfl, trivial⟩ [] rfl [0, 2, 3] rfl rfl)))
      have h := condF h ht83
      refine JS.seq (JS.region (JO.reg ttOk 2 [] [] [(44, .v (.bool (decide (x1 = 67))))] _ rfl ⟨⟨rfl, trivial⟩, rfl⟩ (JO.done rfl ?_)))
      refine JS.cond rfl (fun ht82 => ?_) (fun ht82 => ?_)
      · have h := condT h ht82
        refine JS.region (JO.reg ttOk 7 [(W (x0.1.2.2.2.1 + y15))] [] [(46, .v (.agg (cl26 x0.1 a3 c4).toArray)), (50, .v (.int .i64 (W (x0.1.2.2.2.1 + y15)))), (52, .v (.int .i64 x0.1.2.2.2.2.1))] _ rfl ⟨⟨trivial, rfl⟩, ⟨rfl, rfl, rfl, trivial⟩, rfl⟩ ?_)
        obtain ⟨y25, hy26, h⟩ := bindO_some h
        refine JO.call rfl rfl rfl rfl (ok_s_GridGo x0.1 (W (x0.1.2.2.2.1 + y15)) x0.1.2.2.2.2.1 a3 c4 x0.1.2.2.1.length rfl _ hy26) rfl [0] rfl rfl ?_
        rintro ⟨a27, c28⟩ -
        refine JO.regB ttOk 2 [] [] [] (.new 4 45 (cl45 (y25, x0.2.1, x0.2.2.1, x0.2.2.2.1, x0.2.2.2.2) a27 c28 a7 c8 a11 c12) (.new 5 45 (cl45 ((0, 0, [], 0, 0, false), 0, [], [], 0) none 0 none 0 none 0) .nil)) rfl ⟨trivial, ⟨rfl, rfl, rfl, rfl, rfl, rfl, rfl, rfl, trivial⟩⟩ (JO.done rfl (JS.endB (JS.endJA (y25.1, y25.2.1, y25.2.2.1, y25.2.2.2.1, y25.2.2.2.2.1, y25.2.2.2.2.2, a27, c28) h ⟨rfl, rfl, trivial⟩ ⟨rfl, rfl, rfl, rfl, rfl, rfl, rfl, rfl, trivial⟩ [] rfl [0, 2, 3] rfl rfl)))
      have h := condF h ht82
      refine JS.seq (JS.region (JO.reg ttOk 2 [] [] [(55, .v (.bool (decide (x1 = 68))))] _ rfl ⟨⟨rfl, trivial⟩, rfl⟩ (JO.done rfl ?_)))
      refine JS.cond rfl (fun ht81 => ?_) (fun ht81 => ?_)
      · have h := condT h ht81
        refine JS.region (JO.reg ttOk 7 [(W (x0.1.2.2.2.1 - y15))] [] [(57, .v (.agg (cl26 x0.1 a3 c4).toArray)), (61, .v (.int .i64 (W (x0.1.2.2.2.1 - y15)))), (63, .v (.int .i64 x0.1.2.2.2.2.1))] _ rfl ⟨⟨trivial, rfl⟩, ⟨rfl, rfl, rfl, trivial⟩, rfl⟩ ?_)
        obtain ⟨y29, hy30, h⟩ := bindO_some h
        refine JO.call rfl rfl rfl rfl (ok_s_GridGo x0.1 (W (x0.1.2.2.2.1 - y15)) x0.1.2.2.2.2.1 a3 c4 x0.1.2.2.1.length rfl _ hy30) rfl [0] rfl rfl ?_
        rintro ⟨a31, c32⟩ -
        refine JO.regB ttOk 2 [] [] [] (.new 4 45 (cl45 (y29, x0.2.1, x0.2.2.1, x0.2.2.2.1, x0.2.2.2.2) a31 c32 a7 c8 a11 c12) (.new 5 45 (cl45 ((0, 0, [], 0, 0, false), 0, [], [], 0) none 0 none 0 none 0) .nil)) rfl ⟨trivial, ⟨rfl, rfl, rfl, rfl, rfl, rfl, rfl, rfl, trivial⟩⟩ (JO.done rfl (JS.endB (JS.endJA (y29.1, y29.2.1, y29.2.2.1, y29.2.2.2.1, y29.2.2.2.2.1, y29.2.2.2.2.2, a31, c32) h ⟨rfl, rfl, trivial⟩ ⟨rfl, rfl, rfl, rfl, rfl, rfl, rfl, rfl, trivial⟩ [] rfl [0, 2, 3] rfl rfl)))
      have h := condF h ht81
      refine JS.seq (JS.region (JO.reg ttOk 2 [] [] [(66, .v (.bool (decide (x1 = 72))))] _ rfl ⟨⟨rfl, trivial⟩, rfl⟩ (JO.done rfl ?_)))
      refine JS.cond rfl (fun ht80 => ?_) (fun ht80 => ?_)
      · have h := condT h ht80
        obtain ⟨y33, hy34, h⟩ := bindO_some h
        obtain ⟨y35, hy36, h⟩ := bindO_some h
        refine JS.regionA rfl (.new 4 45 (cl45 x0 a3 c4 a7 c8 a11 c12) (.new 6 26 (cl26 x0.1 a3 c4) .nil)) [] [7, 8, 9] ⟨rfl, rfl, rfl, rfl, rfl, rfl, rfl, rfl, trivial⟩ rfl (fun be39 => ?_)
        refine JA.reg ttOk panic_cxX true 5 [0, 1, 2, 5, 6] rfl (by kernel_rfl) [(W (y15 - 1))] [(68, .v (.agg (cl26 x0.1 a3 c4).toArray)), (70, .v (.slice a7 x0.2.2.1.length c8)), (74, .v (.int .i64 (W (y15 - 1))))] ⟨rfl, rfl, rfl, rfl, rfl, rfl, rfl, rfl, trivial⟩ [] rfl rfl ⟨⟨trivial, rfl⟩, ⟨rfl, rfl, rfl, trivial⟩⟩ (JA.one 3 (by kernel_rfl) (JK.call rfl rfl rfl rfl (ok_s_l09Arg x0.2.2.1 1 1 a7 c8 x0.2.2.1.length rfl _ hy34) rfl [1] rfl rfl fun _ _ => JA.next ⟨rfl, rfl, rfl, rfl, rfl, rfl, rfl, rfl, trivial⟩ [] rfl (JA.reg ttOk panic_cxX true 3 [4] rfl (by kernel_rfl) [(W (y33 - 1))] [(72, .v (.int .i64 (W (y33 - 1))))] ⟨rfl, rfl, rfl, rfl, rfl, rfl, rfl, rfl, trivial⟩ [] rfl rfl ⟨⟨trivial, rfl⟩, ⟨rfl, trivial⟩⟩ (JA.one 7 (by kernel_rfl) (JK.call rfl rfl rfl rfl (ok_s_GridGo x0.1 (W (y33 - 1)) (W (y15 - 1)) a3 c4 x0.1.2.2.1.length rfl _ hy36) rfl [0] rfl rfl ?_)))))
        rintro ⟨a37, c38⟩ -
        refine JA.nextL rfl (JA.regL ttOk panic_cxX 1 [8] rfl (by kernel_rfl) [] [(76, .bp 4 0)] rfl ⟨rfl, trivial⟩ (JA.one 9 (by kernel_rfl) (JK.stBox ttOk rfl rfl rfl rfl rfl rfl rfl rfl (JK.boxes (B' := (.new 4 45 (cl45 (y35, x0.2.1, x0.2.2.1, x0.2.2.2.1, x0.2.2.2.2) a37 c38 a7 c8 a11 c12) (.new 5 45 (cl45 ((0, 0, [], 0, 0, false), 0, [], [], 0) none 0 none 0 none 0) (.new 6 26 (cl26 x0.1 a3 c4) .nil)))) ⟨rfl, rfl, rfl, rfl, rfl, rfl, rfl, rfl, rfl, rfl, rfl, rfl, trivial⟩ (JA.nextL rfl (JA.done (by kernel_rfl) (JS.boxes (B' := (.new 4 45 (cl45 (y35, x0.2.1, x0.2.2.1, x0.2.2.2.1, x0.2.2.2.2) a37 c38 a7 c8 a11 c12) (.new 5 45 (cl45 ((0, 0, [], 0, 0, false), 0, [], [], 0) none 0 none 0 none 0) .nil))) ⟨rfl, rfl, rfl, rfl, rfl, rfl, rfl, rfl, trivial⟩ (JS.endB (JS.endJA (y35.1, y35.2.1, y35.2.2.1, y35.2.2.2.1, y35.2.2.2.2.1, y35.2.2.2.2.2, a37, c38) h ⟨rfl, rfl, trivial⟩ ⟨rfl, rfl, rfl, rfl, rfl, rfl, rfl, rfl, trivial⟩ [] rfl [0, 2, 3] rfl rfl)))))))))
      have h := condF h ht80
      refine JS.seq (JS.region (JO.reg ttOk 2 [] [] [(77, .v (.bool (decide (x1 = 74))))] _ rfl ⟨⟨rfl, trivial⟩, rfl⟩ (JO.done rfl ?_)))
      refine JS.cond rfl (fun ht79 => ?_) (fun ht79 => ?_)
      · have h := condT h ht79
        obtain ⟨y40, hy41, h⟩ := bindO_some h
        obtain ⟨y42, hy43, h⟩ := bindO_some h
        refine JS.regionA rfl (.new 4 45 (cl45 x0 a3 c4 a7 c8 a11 c12) (.new 6 26 (cl26 x0.1 a3 c4) .nil)) [] [8, 9, 10] ⟨rfl, rfl, rfl, rfl, rfl, rfl, rfl, rfl, trivial⟩ rfl (fun be46 => ?_)
        refine JA.reg ttOk panic_cxX true 4 [0, 1, 2, 3, 4, 5, 6] rfl (by kernel_rfl) [] [(79, .v (.agg (cl26 x0.1 a3 c4).toArray)), (80, .v (.int .i64 (W ((W (x0.1.2.2.2.2.1 * x0.1.1)) + x0.1.2.2.2.1)))), (83, .v (.int .i64 (x0.1.2.2.1.length : Int))), (85, .v (.slice a7 x0.2.2.1.length c8))] ⟨rfl, rfl, rfl, rfl, rfl, rfl, rfl, rfl, trivial⟩ [] rfl rfl ⟨rfl, rfl, rfl, rfl, trivial⟩ (JA.one 7 (by kernel_rfl) (JK.call rfl rfl rfl rfl (ok_s_l09Arg x0.2.2.1 0 0 a7 c8 x0.2.2.1.length rfl _ hy41) rfl [1] rfl rfl fun _ _ => JA.next ⟨rfl, rfl, rfl, rfl, rfl, rfl, rfl, rfl, trivial⟩ [] rfl (JA.one 8 (by kernel_rfl) (JK.callX rfl rfl rfl rfl (ok_s_l09Erase x0.1 0 (W ((W (x0.1.2.2.2.2.1 * x0.1.1)) + x0.1.2.2.2.1)) (x0.1.2.2.1.length : Int) y40 a3 c4 x0.1.2.2.1.length rfl _ hy43) rfl [0] rfl [] rfl rfl ?_))))
        rintro ⟨a44, c45⟩ -
        refine JA.nextL rfl (JA.regL ttOk panic_cxX 1 [9] rfl (by kernel_rfl) [] [(88, .bp 4 0)] rfl ⟨rfl, trivial⟩ (JA.one 10 (by kernel_rfl) (JK.stBox ttOk rfl rfl rfl rfl rfl rfl rfl rfl (JK.boxes (B' := (.new 4 45 (cl45 (y42, x0.2.1, x0.2.2.1, x0.2.2.2.1, x0.2.2.2.2) a44 c45 a7 c8 a11 c12) (.new 5 45 (cl45 ((0, 0, [], 0, 0, false), 0, [], [], 0) none 0 none 0 none 0) (.new 6 26 (cl26 x0.1 a3 c4) .nil)))) ⟨rfl, rfl, rfl, rfl, rfl, rfl, rfl, rfl, rfl, rfl, rfl, rfl, trivial⟩ (JA.nextL rfl (JA.done (by kernel_rfl) (JS.boxes (B' := (.new 4 45 (cl45 (y42, x0.2.1, x0.2.2.1, x0.2.2.2.1, x0.2.2.2.2) a44 c45 a7 c8 a11 c12) (.new 5 45 (cl45 ((0, 0, [], 0, 0, false), 0, [], [], 0) none 0 none 0 none 0) .nil))) ⟨rfl, rfl, rfl, rfl, rfl, rfl, rfl, rfl, trivial⟩ (JS.endB (JS.endJA (y42.1, y42.2.1, y42.2.2.1, y42.2.2.2.1, y42.2.2.2.2.1, y42.2.2.2.2.2, a44, c45) h ⟨rfl, rfl, trivial⟩ ⟨rfl, rfl, rfl, rfl, rfl, rfl, rfl, rfl, trivial⟩ [] rfl [0, 1, 2] rfl rfl)))))))))
      have h := condF h ht79
      refine JS.seq (JS.region (JO.reg ttOk 2 [] [] [(89, .v (.bool (decide (x1 = 75))))] _ rfl ⟨⟨rfl, trivial⟩, rfl⟩ (JO.done rfl ?_)))
      refine JS.cond rfl (fun ht78 => ?_) (fun ht78 => ?_)
      · have h := condT h ht78
        obtain ⟨y47, hy48, h⟩ := bindO_some h
        obtain ⟨y49, hy50, h⟩ := bindO_some h
        refine JS.regionA rfl (.new 4 45 (cl45 x0 a3 c4 a7 c8 a11 c12) (.new 6 26 (cl26 x0.1 a3 c4) .nil)) [] [18, 19, 20] ⟨rfl, rfl, rfl, rfl, rfl, rfl, rfl, rfl, trivial⟩ rfl (fun be53 => ?_)
        refine JA.reg ttOk panic_cxX true 4 [0, 1, 2, 3, 4, 5, 6, 7, 8, 9, 10, 11, 12, 13, 14, 15, 16] rfl (by kernel_rfl) [(W (x0.1.2.2.2.2.1 * x0.1.1)), (W (x0.1.2.2.2.2.1 * x0.1.1)), (W ((W (x0.1.2.2.2.2.1 * x0.1.1)) + x0.1.1))] [(91, .v (.agg (cl26 x0.1 a3 c4).toArray)), (96, .v (.int .i64 (W (x0.1.2.2.2.2.1 * x0.1.1)))), (97, .v (.int .i64 (W ((W (x0.1.2.2.2.2.1 * x0.1.1)) + x0.1.2.2.2.1)))), (105, .v (.int .i64 (W ((W (x0.1.2.2.2.2.1 * x0.1.1)) + x0.1.1)))), (107, .v (.slice a7 x0.2.2.1.length c8))] ⟨rfl, rfl, rfl, rfl, rfl, rfl, rfl, rfl, trivial⟩ [] rfl rfl ⟨⟨trivial, rfl⟩, ⟨trivial, rfl⟩, ⟨trivial, rfl⟩, ⟨rfl, rfl, rfl, rfl, rfl, trivial⟩⟩ (JA.one 17 (by kernel_rfl) (JK.call rfl rfl rfl rfl (ok_s_l09Arg x0.2.2.1 0 0 a7 c8 x0.2.2.1.length rfl _ hy48) rfl [1] rfl rfl fun _ _ => JA.next ⟨rfl, rfl, rfl, rfl, rfl, rfl, rfl, rfl, trivial⟩ [] rfl (JA.one 18 (by kernel_rfl) (JK.callX rfl rfl rfl rfl (ok_s_l09Erase x0.1 (W (x0.1.2.2.2.2.1 * x0.1.1)) (W ((W (x0.1.2.2.2.2.1 * x0.1.1)) + x0.1.2.2.2.1)) (W ((W (x0.1.2.2.2.2.1 * x0.1.1)) + x0.1.1)) y47 a3 c4 x0.1.2.2.1.length rfl _ hy50) rfl [0] rfl [] rfl rfl ?_))))
        rintro ⟨a51, c52⟩ -
        refine JA.nextL rfl (JA.regL ttOk panic_cxX 1 [19] rfl (by kernel_rfl) [] [(110, .bp 4 0)] rfl ⟨rfl, trivial⟩ (JA.one 20 (by kernel_rfl) (JK.stBox ttOk rfl rfl rfl rfl rfl rfl rfl rfl (JK.boxes (B' := (.new 4 45 (cl45 (y49, x0.2.1, x0.2.2.1, x0.2.2.2.1, x0.2.2.2.2) a51 c52 a7 c8 a11 c12) (.new 5 45 (cl45 ((0, 0, [], 0, 0, false), 0, [], [], 0) none 0 none 0 none 0) (.new 6 26 (cl26 x0.1 a3 c4) .nil)))) ⟨rfl, rfl, rfl, rfl, rfl, rfl, rfl, rfl, rfl, rfl, rfl, rfl, trivial⟩ (JA.nextL rfl (JA.done (by kernel_rfl) (JS.boxes (B' := (.new 4 45 (cl45 (y49, x0.2.1, x0.2.2.1, x0.2.2.2.1, x0.2.2.2.2) a51 c52 a7 c8 a11 c12) (.new 5 45 (cl45 ((0, 0, [], 0, 0, false), 0, [], [], 0) none 0 none 0 none 0) .nil))) ⟨rfl, rfl, rfl, rfl, rfl, rfl, rfl, rfl, trivial⟩ (JS.endB (JS.endJA (y49.1, y49.2.1, y49.2.2.1, y49.2.2.2.1, y49.2.2.2.2.1, y49.2.2.2.2.2, a51, c52) h ⟨rfl, rfl, trivial⟩ ⟨rfl, rfl, rfl, rfl, rfl, rfl, rfl, rfl, trivial⟩ [] rfl [0, 1, 2] rfl rfl)))))))))
      have h := condF h ht78
      refine JS.skip (JS.endB (JS.endJA (x0.1.1, x0.1.2.1, x0.1.2.2.1, x0.1.2.2.2.1, x0.1.2.2.2.2.1, x0.1.2.2.2.2.2, a3, c4) h ⟨rfl, rfl, trivial⟩ ⟨rfl, rfl, rfl, rfl, rfl, rfl, rfl, rfl, trivial⟩ [] rfl [0, 1, 2] rfl rfl))
    rintro ⟨x61, x62, x63, x66, x67, x68, a64, c65⟩ h
    subst hj85
    refine JS.seq (JS.region (JO.regB ttOk 2 [] [] [] (.new 4 45 (cl45 ((x61, x62, x63, x66, x67, x68), 0, x0.2.2.1, x0.2.2.2.1, x0.2.2.2.2) a64 c65 a7 c8 a11 c12) (.new 5 45 (cl45 ((0, 0, [], 0, 0, false), 0, [], [], 0) none 0 none 0 none 0) .nil)) rfl ⟨trivial, ⟨rfl, rfl, rfl, rfl, rfl, rfl, rfl, rfl, trivial⟩⟩ (JO.done rfl (JS.seq (JS.region (JO.regB ttOk 2 [] [] [] (.new 4 45 (cl45 ((x61, x62, x63, x66, x67, x68), 0, [], x0.2.2.2.1, x0.2.2.2.2) a64 c65 none 0 a11 c12) (.new 5 45 (cl45 ((0, 0, [], 0, 0, false), 0, [], [], 0) none 0 none 0 none 0) .nil)) rfl ⟨trivial, ⟨rfl, rfl, rfl, rfl, rfl, rfl, rfl, rfl, trivial⟩⟩ (JO.done rfl (JS.seq (JS.region (JO.regB ttOk 2 [] [] [] (.new 5 45 (cl45 ((x61, x62, x63, x66, x67, x68), 0, [], x0.2.2.2.1, x0.2.2.2.2) a64 c65 none 0 a11 c12) .nil) rfl ⟨trivial, ⟨rfl, rfl, rfl, rfl, trivial⟩⟩ (JO.done rfl ?_)))))))))))
    cases h
    exact JS.retX ttOk (a64, c65, a11, c12) trivial rfl rfl [1, 0, 0] rfl

def M_s_l09Csi (x0 : (Int × Int × List Int × Int × Int × Bool) × Int × List Int × List UInt8 × Int) (x1 : Int) : Option (((Int × Int × List Int × Int × Int × Bool) × Int × List Int × List UInt8 × Int) × List Int) :=
  (guardO (([] : List Int).length + x0.2.2.1.length ≤ 536870912) <|
  (bif (bif (decide (48 ≤ x1)) then (decide (x1 ≤ 57)) else false) then
  (joinO (fun (x24 : List Int) =>
  (guardO (0 ≤ (W ((x24.length : Int) - 1)) ∧ (W ((x24.length : Int) - 1)) < (x24.length : Int)) <|
  (joinO (fun (x32 : Int) =>
  (guardO (0 ≤ (W ((x24.length : Int) - 1)) ∧ (W ((x24.length : Int) - 1)) < (x24.length : Int)) <|
  some ((x0.1, x0.2.1, (List.set x24 (Int.toNat (W ((x24.length : Int) - 1))) x32), x0.2.2.2.1, x0.2.2.2.2), x0.2.2.1))) fun j33 =>
  (bif (decide (9999 < (W ((W ((W ((at' x24 (W ((x24.length : Int) - 1))) * 10)) + x1)) - 48)))) then
  j33 9999
  else
  j33 (W ((W ((W ((at' x24 (W ((x24.length : Int) - 1))) * 10)) + x1)) - 48)))))) fun j27 =>
  (bif (decide (((([] : List Int) ++ x0.2.2.1).length : Int) = 0)) then
  (guardO ((([] : List Int) ++ x0.2.2.1).length + ([0] : List Int).length ≤ 536870912) <|
  j27 ((([] : List Int) ++ x0.2.2.1) ++ ([0] : List Int)))
  else
  j27 (([] : List Int) ++ x0.2.2.1)))
  else
  (bif (decide (x1 = 59)) then
  (joinO (fun (x44 : List Int) =>
  (joinO (fun (x54 : List Int) =>
  some ((x0.1, x0.2.1, x54, x0.2.2.2.1, x0.2.2.2.2), x0.2.2.1)) fun j57 =>
  (bif (decide ((x44.length : Int) < 4)) then
  (guardO (x44.length + ([0] : List Int).length ≤ 536870912) <|
  j57 (x44 ++ ([0] : List Int)))
  else
  j57 x44))) fun j47 =>
  (bif (decide (((([] : List Int) ++ x0.2.2.1).length : Int) = 0)) then
  (guardO ((([] : List Int) ++ x0.2.2.1).length + ([0] : List Int).length ≤ 536870912) <|
  j47 ((([] : List Int) ++ x0.2.2.1) ++ ([0] : List Int)))
  else
  j47 (([] : List Int) ++ x0.2.2.1)))
  else
  (bindO (M_s_l09Act x0 x1) fun (y61, y62) =>
  some ((y61.1, y61.2.1, [], y61.2.2.2.1, y61.2.2.2.2), y62)))))

theorem ok_s_l09Csi (x0 : (Int × Int × List Int × Int × Int × Bool) × Int × List Int × List UInt8 × Int) (x1 : Int) (a3 : Option Addr) (c4 : Nat) (l5 : Nat) (hl6 : x0.1.2.2.1.length = l5) (a7 : Option Addr) (c8 : Nat) (l9 : Nat) (hl10 : x0.2.2.1.length = l9) (a11 : Option Addr) (c12 : Nat) (l13 : Nat) (hl14 : x0.2.2.2.1.length = l13) (r : ((Int × Int × List Int × Int × Int × Bool) × Int × List Int × List UInt8 × Int) × List Int) (h : M_s_l09Csi x0 x1 = some r) :
    FX Try.prog 95 [.agg #[.int .i64 x0.1.1, .int .i64 x0.1.2.1, .slice a3 l5 c4, .int .i64 x0.1.2.2.2.1, .int .i64 x0.1.2.2.2.2.1, .bool x0.1.2.2.2.2.2, .int .i64 x0.2.1, .slice a7 l9 c8, .slice a11 l13 c12, .int .i64 x0.2.2.2.2], .int .i64 x1] [] [⟨(.int .i64), ⟨a3, l5, c4⟩, x0.1.2.2.1⟩, ⟨(.int .i64), ⟨a7, l9, c8⟩, x0.2.2.1⟩, ⟨.byte, ⟨a11, l13, c12⟩, x0.2.2.2.1⟩] (fun _ : Option Addr × Nat × Option Addr × Nat × Option Addr × Nat => True) (fun q => .agg (cl45 r.1 q.1 q.2.1 q.2.2.1 q.2.2.2.1 q.2.2.2.2.1 q.2.2.2.2.2).toArray) (fun q => [⟨(.int .i64), ⟨a7, l9, c8⟩, r.2⟩, ⟨(.int .i64), ⟨q.1, r.1.1.2.2.1.length, q.2.1⟩, r.1.1.2.2.1⟩, ⟨(.int .i64), ⟨q.2.2.1, r.1.2.2.1.length, q.2.2.2.1⟩, r.1.2.2.1⟩, ⟨.byte, ⟨q.2.2.2.2.1, r.1.2.2.2.1.length, q.2.2.2.2.2⟩, r.1.2.2.2.1⟩]) :=
  by
    subst hl6
    subst hl10
    subst hl14
    refine FX.of (T := TTx) Try.call95 Try.func95 rfl rfl fun w0 L0 => ?_
    unfold M_s_l09Csi at h
    refine JS.seq (JS.region (JO.regB ttOk 2 [] [4, 5] [(2, .bp 4 0), (4, .bp 5 0)] (.new 4 45 (cl45 x0 a3 c4 a7 c8 a11 c12) (.new 5 45 (cl45 ((0, 0, [], 0, 0, false), 0, [], [], 0) none 0 none 0 none 0) .nil)) rfl ⟨⟨rfl, rfl, trivial⟩, ⟨rfl, rfl, rfl, rfl, rfl, rfl, rfl, rfl, trivial⟩⟩ (JO.done rfl (JS.seq (JS.region ?_)))))
    refine JO.ofK rfl (JK.buildSlice ttOk rfl rfl rfl rfl rfl rfl rfl rfl rfl rfl rfl [] rfl (.int .i64) [] ⟨rfl, rfl⟩ rfl rfl fun a15 => JO.toK ?_)
    refine JO.reg ttOk 2 [] [] [(9, .v (.slice a7 x0.2.2.1.length c8))] _ rfl ⟨⟨rfl, trivial⟩, rfl⟩ ?_
    obtain ⟨g16, h⟩ := guardO_some h
    refine JO.appendR' ttOk rfl rfl rfl rfl ⟨rfl, rfl, rfl, rfl, trivial, rfl, rfl, rfl, rfl⟩ rfl rfl rfl [0] rfl 2 rfl g16 rfl fun a17 c18 => JO.reg ttOk 1 [] [] [(5, .v (.slice a17 (([] : List Int) ++ x0.2.2.1).length c18))] _ rfl ⟨⟨rfl, trivial⟩, rfl⟩ (JO.done rfl (JS.seq (JS.seq (JS.region (JO.reg ttOk 6 [] [] [(16, .v (.bool (bif (decide (48 ≤ x1)) then (decide (x1 ≤ 57)) else false)))] _ rfl ⟨⟨rfl, trivial⟩, rfl⟩ (JO.done rfl ?_))))))
    refine JS.cond rfl (fun ht82 => ?_) (fun ht82 => ?_)
    · have h := condT h ht82
      obtain ⟨j27, hj76, h⟩ := joinO_some h
      refine JS.seqJ (ι := List Int × Option Addr × Nat) ⟨fun z => j27 z.1 = some r, fun z => [(1, .v (.int .i64 x1)), (2, .bp 4 0), (4, .bp 5 0), (5, .v (.slice z.2.1 z.1.length z.2.2))], fun z => (.new 4 45 (cl45 x0 a3 c4 a7 c8 a11 c12) (.new 5 45 (cl45 ((0, 0, [], 0, 0, false), 0, [], [], 0) none 0 none 0 none 0) .nil)), fun z => [], fun z => [⟨(.int .i64), ⟨z.2.1, z.1.length, z.2.2⟩, z.1⟩, ⟨(.int .i64), ⟨a3, x0.1.2.2.1.length, c4⟩, x0.1.2.2.1⟩, ⟨(.int .i64), ⟨a7, x0.2.2.1.length, c8⟩, x0.2.2.1⟩, ⟨.byte, ⟨a11, x0.2.2.2.1.length, c12⟩, x0.2.2.2.1⟩], fun z => 0⟩ ?_ ?_
      · refine JS.seq (JS.region (JO.reg ttOk 3 [] [] [(19, .v (.bool (decide (((([] : List Int) ++ x0.2.2.1).length : Int) = 0))))] _ rfl ⟨⟨rfl, trivial⟩, rfl⟩ (JO.done rfl ?_)))
        refine JS.cond rfl (fun ht71 => ?_) (fun ht71 => ?_)
        · have h := condT h ht71
          refine JS.region (JO.reg ttOk 1 [] [] [(20, .v (.slice a17 (([] : List Int) ++ x0.2.2.1).length c18))] _ rfl ⟨⟨rfl, trivial⟩, rfl⟩ ?_)
          refine JO.ofK rfl (JK.buildSlice ttOk rfl rfl rfl rfl rfl rfl rfl rfl rfl rfl rfl [] rfl (.int .i64) [0] ⟨rfl, rfl⟩ rfl rfl fun a19 => JO.toK ?_)
          obtain ⟨g20, h⟩ := guardO_some h
          refine JO.appendR' ttOk rfl rfl rfl rfl ⟨rfl, rfl, rfl, rfl, trivial, rfl, rfl, rfl, rfl⟩ rfl rfl rfl [1] rfl 0 rfl g20 rfl fun a21 c22 => JO.reg ttOk 1 [] [] [(5, .v (.slice a21 ((([] : List Int) ++ x0.2.2.1) ++ ([0] : List Int)).length c22))] _ rfl ⟨⟨rfl, trivial⟩, rfl⟩ (JO.done rfl (JS.endJA (((([] : List Int) ++ x0.2.2.1) ++ ([0] : List Int)), a21, c22) h ⟨rfl, rfl, rfl, rfl, trivial⟩ ⟨rfl, rfl, rfl, rfl, rfl, rfl, rfl, rfl, trivial⟩ [] rfl [0, 2, 3, 4] rfl rfl))
        have h := condF h ht71
        refine JS.skip (JS.endJA ((([] : List Int) ++ x0.2.2.1), a17, c18) h ⟨rfl, rfl, rfl, rfl, trivial⟩ ⟨rfl, rfl, rfl, rfl, rfl, rfl, rfl, rfl, trivial⟩ [] rfl [0, 1, 2, 3] rfl rfl)
      rintro ⟨x24, a25, c26⟩ h
      subst hj76
      refine JS.seq (JS.region (JO.know 0 rfl fun hs72 => ?_))
      obtain ⟨g30, h⟩ := guardO_some h
      refine JO.reg ttOk 5 [(W ((x24.length : Int) - 1))] [] [(27, .ep ⟨a25, x24.length, c26⟩ (Int.toNat (W ((x24.length : Int) - 1)) * 1))] _ rfl ⟨⟨trivial, rfl⟩, hs72.ix g30, ⟨rfl, trivial⟩, rfl⟩ (JO.load ttOk rfl rfl rfl rfl rfl rfl rfl 0 rfl rfl (Int.toNat (W ((x24.length : Int) - 1))) 0 (at' x24 (W ((x24.length : Int) - 1))) ⟨at_some g30, rfl⟩ rfl rfl (JO.reg ttOk 5 [(W ((at' x24 (W ((x24.length : Int) - 1))) * 10)), (W ((W ((at' x24 (W ((x24.length : Int) - 1))) * 10)) + x1)), (W ((W ((W ((at' x24 (W ((x24.length : Int) - 1))) * 10)) + x1)) - 48))] [] [(6, .v (.int .i64 (W ((W ((W ((at' x24 (W ((x24.length : Int) - 1))) * 10)) + x1)) - 48))))] _ rfl ⟨⟨trivial, rfl⟩, ⟨trivial, rfl⟩, ⟨trivial, rfl⟩, ⟨rfl, trivial⟩, rfl⟩ (JO.done rfl ?_)))
      obtain ⟨j33, hj75, h⟩ := joinO_some h
      refine JS.seqJ (ι := Int) ⟨fun z => j33 z = some r, fun z => [(2, .bp 4 0), (4, .bp 5 0), (5, .v (.slice a25 x24.length c26)), (6, .v (.int .i64 z))], fun z => (.new 4 45 (cl45 x0 a3 c4 a7 c8 a11 c12) (.new 5 45 (cl45 ((0, 0, [], 0, 0, false), 0, [], [], 0) none 0 none 0 none 0) .nil)), fun z => [], fun z => [⟨(.int .i64), ⟨a3, x0.1.2.2.1.length, c4⟩, x0.1.2.2.1⟩, ⟨(.int .i64), ⟨a7, x0.2.2.1.length, c8⟩, x0.2.2.1⟩, ⟨.byte, ⟨a11, x0.2.2.2.1.length, c12⟩, x0.2.2.2.1⟩, ⟨(.int .i64), ⟨a25, x24.length, c26⟩, x24⟩], fun z => 0⟩ ?_ ?_
      · refine JS.seq (JS.region (JO.reg ttOk 2 [] [] [(34, .v (.bool (decide (9999 < (W ((W ((W ((at' x24 (W ((x24.length : Int) - 1))) * 10)) + x1)) - 48))))))] _ rfl ⟨⟨rfl, trivial⟩, rfl⟩ (JO.done rfl ?_)))
        refine JS.cond rfl (fun ht73 => ?_) (fun ht73 => ?_)
        · have h := condT h ht73
          refine JS.region (JO.reg ttOk 1 [] [] [(6, .v (.int .i64 9999))] _ rfl ⟨⟨rfl, trivial⟩, rfl⟩ (JO.done rfl (JS.endJA 9999 h ⟨rfl, rfl, rfl, rfl, trivial⟩ ⟨rfl, rfl, rfl, rfl, rfl, rfl, rfl, rfl, trivial⟩ [] rfl [1, 2, 3, 0] rfl rfl)))
        have h := condF h ht73
        refine JS.skip (JS.endJA (W ((W ((W ((at' x24 (W ((x24.length : Int) - 1))) * 10)) + x1)) - 48)) h ⟨rfl, rfl, rfl, rfl, trivial⟩ ⟨rfl, rfl, rfl, rfl, rfl, rfl, rfl, rfl, trivial⟩ [] rfl [1, 2, 3, 0] rfl rfl)
      rintro x32 h
      subst hj75
      refine JS.seq (JS.region (JO.know 3 rfl fun hs74 => ?_))
      obtain ⟨g36, h⟩ := guardO_some h
      refine JO.reg ttOk 6 [(W ((x24.length : Int) - 1))] [] [(39, .v (.int .i64 x32)), (40, .ep ⟨a25, x24.length, c26⟩ (Int.toNat (W ((x24.length : Int) - 1)) * 1))] _ rfl ⟨⟨trivial, rfl⟩, hs74.ix g36, ⟨rfl, rfl, trivial⟩, rfl⟩ (JO.storeE ttOk rfl rfl rfl rfl rfl rfl rfl rfl rfl [3] (fs := []) rfl (Int.toNat (W ((x24.length : Int) - 1))) 0 (at' x24 (W ((x24.length : Int) - 1))) x32 ⟨at_some g36, rfl⟩ ⟨rfl, rfl, rfl⟩ (JO.done rfl (JS.seq (JS.region (JO.regB ttOk 3 [] [] [] (.new 4 45 (cl45 (x0.1, x0.2.1, x24, x0.2.2.2.1, x0.2.2.2.2) a3 c4 a25 c26 a11 c12) (.new 5 45 (cl45 ((0, 0, [], 0, 0, false), 0, [], [], 0) none 0 none 0 none 0) .nil)) rfl ⟨trivial, ⟨rfl, rfl, rfl, rfl, rfl, rfl, rfl, rfl, trivial⟩⟩ (JO.done rfl (JS.seq (JS.region (JO.regB ttOk 2 [] [] [] (.new 5 45 (cl45 (x0.1, x0.2.1, x24, x0.2.2.2.1, x0.2.2.2.2) a3 c4 a25 c26 a11 c12) .nil) rfl ⟨trivial, ⟨rfl, rfl, rfl, rfl, trivial⟩⟩ (JO.done rfl ?_))))))))))
      cases h
      exact JS.retX ttOk (a3, c4, a25, c26, a11, c12) trivial rfl (by simp only [List.length_set, List.length_replicate, pickO, getF, cl26, cl45]; rfl) [2, 1, 0, 0] (by simp only [List.length_set, List.length_replicate, pickO, getF, cl26, cl45]; rfl)
    have h := condF h ht82
    refine JS.skip (JS.seq (JS.seq (JS.region (JO.reg ttOk 2 [] [] [(45, .v (.bool (decide (x1 = 59))))] _ rfl ⟨⟨rfl, trivial⟩, rfl⟩ (JO.done rfl ?_)))))
    refine JS.cond rfl (fun ht81 => ?_) (fun ht81 => ?_)
    · have h := condT h ht81
      obtain ⟨j47, hj80, h⟩ := joinO_some h
      refine JS.seqJ (ι := List Int × Option Addr × Nat) ⟨fun z => j47 z.1 = some r, fun z => [(2, .bp 4 0), (4, .bp 5 0), (5, .v (.slice z.2.1 z.1.length z.2.2))], fun z => (.new 4 45 (cl45 x0 a3 c4 a7 c8 a11 c12) (.new 5 45 (cl45 ((0, 0, [], 0, 0, false), 0, [], [], 0) none 0 none 0 none 0) .nil)), fun z => [], fun z => [⟨(.int .i64), ⟨z.2.1, z.1.length, z.2.2⟩, z.1⟩, ⟨(.int .i64), ⟨a3, x0.1.2.2.1.length, c4⟩, x0.1.2.2.1⟩, ⟨(.int .i64), ⟨a7, x0.2.2.1.length, c8⟩, x0.2.2.1⟩, ⟨.byte, ⟨a11, x0.2.2.2.1.length, c12⟩, x0.2.2.2.1⟩], fun z => 0⟩ ?_ ?_
      · refine JS.seq (JS.region (JO.reg ttOk 3 [] [] [(48, .v (.bool (decide (((([] : List Int) ++ x0.2.2.1).length : Int) = 0))))] _ rfl ⟨⟨rfl, trivial⟩, rfl⟩ (JO.done rfl ?_)))
        refine JS.cond rfl (fun ht77 => ?_) (fun ht77 => ?_)
        · have h := condT h ht77
          refine JS.region (JO.reg ttOk 1 [] [] [(49, .v (.slice a17 (([] : List Int) ++ x0.2.2.1).length c18))] _ rfl ⟨⟨rfl, trivial⟩, rfl⟩ ?_)
          refine JO.ofK rfl (JK.buildSlice ttOk rfl rfl rfl rfl rfl rfl rfl rfl rfl rfl rfl [] rfl (.int .i64) [0] ⟨rfl, rfl⟩ rfl rfl fun a39 => JO.toK ?_)
          obtain ⟨g40, h⟩ := guardO_some h
          refine JO.appendR' ttOk rfl rfl rfl rfl ⟨rfl, rfl, rfl, rfl, trivial, rfl, rfl, rfl, rfl⟩ rfl rfl rfl [1] rfl 0 rfl g40 rfl fun a41 c42 => JO.reg ttOk 1 [] [] [(5, .v (.slice a41 ((([] : List Int) ++ x0.2.2.1) ++ ([0] : List Int)).length c42))] _ rfl ⟨⟨rfl, trivial⟩, rfl⟩ (JO.done rfl (JS.endJA (((([] : List Int) ++ x0.2.2.1) ++ ([0] : List Int)), a41, c42) h ⟨rfl, rfl, rfl, trivial⟩ ⟨rfl, rfl, rfl, rfl, rfl, rfl, rfl, rfl, trivial⟩ [] rfl [0, 2, 3, 4] rfl rfl))
        have h := condF h ht77
        refine JS.skip (JS.endJA ((([] : List Int) ++ x0.2.2.1), a17, c18) h ⟨rfl, rfl, rfl, trivial⟩ ⟨rfl, rfl, rfl, rfl, rfl, rfl, rfl, rfl, trivial⟩ [] rfl [0, 1, 2, 3] rfl rfl)
      rintro ⟨x44, a45, c46⟩ h
      subst hj80
      obtain ⟨j57, hj79, h⟩ := joinO_some h
      refine JS.seqJ (ι := List Int × Option Addr × Nat) ⟨fun z => j57 z.1 = some r, fun z => [(2, .bp 4 0), (4, .bp 5 0), (5, .v (.slice z.2.1 z.1.length z.2.2))], fun z => (.new 4 45 (cl45 x0 a3 c4 a7 c8 a11 c12) (.new 5 45 (cl45 ((0, 0, [], 0, 0, false), 0, [], [], 0) none 0 none 0 none 0) .nil)), fun z => [], fun z => [⟨(.int .i64), ⟨z.2.1, z.1.length, z.2.2⟩, z.1⟩, ⟨(.int .i64), ⟨a3, x0.1.2.2.1.length, c4⟩, x0.1.2.2.1⟩, ⟨(.int .i64), ⟨a7, x0.2.2.1.length, c8⟩, x0.2.2.1⟩, ⟨.byte, ⟨a11, x0.2.2.2.1.length, c12⟩, x0.2.2.2.1⟩], fun z => 0⟩ ?_ ?_
      · refine JS.seq (JS.region (JO.reg ttOk 3 [] [] [(54, .v (.bool (decide ((x44.length : Int) < 4))))] _ rfl ⟨⟨rfl, trivial⟩, rfl⟩ (JO.done rfl ?_)))
        refine JS.cond rfl (fun ht78 => ?_) (fun ht78 => ?_)
        · have h := condT h ht78
          refine JS.region (JO.reg ttOk 1 [] [] [(55, .v (.slice a45 x44.length c46))] _ rfl ⟨⟨rfl, trivial⟩, rfl⟩ ?_)
          refine JO.ofK rfl (JK.buildSlice ttOk rfl rfl rfl rfl rfl rfl rfl rfl rfl rfl rfl [] rfl (.int .i64) [0] ⟨rfl, rfl⟩ rfl rfl fun a49 => JO.toK ?_)
          obtain ⟨g50, h⟩ := guardO_some h
          refine JO.appendR' ttOk rfl rfl rfl rfl ⟨rfl, rfl, rfl, rfl, trivial, rfl, rfl, rfl, rfl⟩ rfl rfl rfl [1] rfl 0 rfl g50 rfl fun a51 c52 => JO.reg ttOk 1 [] [] [(5, .v (.slice a51 (x44 ++ ([0] : List Int)).length c52))] _ rfl ⟨⟨rfl, trivial⟩, rfl⟩ (JO.done rfl (JS.endJA ((x44 ++ ([0] : List Int)), a51, c52) h ⟨rfl, rfl, rfl, trivial⟩ ⟨rfl, rfl, rfl, rfl, rfl, rfl, rfl, rfl, trivial⟩ [] rfl [0, 2, 3, 4] rfl rfl))
        have h := condF h ht78
        refine JS.skip (JS.endJA (x44, a45, c46) h ⟨rfl, rfl, rfl, trivial⟩ ⟨rfl, rfl, rfl, rfl, rfl, rfl, rfl, rfl, trivial⟩ [] rfl [0, 1, 2, 3] rfl rfl)
      rintro ⟨x54, a55, c56⟩ h
      subst hj79
      refine JS.seq (JS.region (JO.regB ttOk 3 [] [] [] (.new 4 45 (cl45 (x0.1, x0.2.1, x54, x0.2.2.2.1, x0.2.2.2.2) a3 c4 a55 c56 a11 c12) (.new 5 45 (cl45 ((0, 0, [], 0, 0, false), 0, [], [], 0) none 0 none 0 none 0) .nil)) rfl ⟨trivial, ⟨rfl, rfl, rfl, rfl, rfl, rfl, rfl, rfl, trivial⟩⟩ (JO.done rfl (JS.seq (JS.region (JO.regB ttOk 2 [] [] [] (.new 5 45 (cl45 (x0.1, x0.2.1, x54, x0.2.2.2.1, x0.2.2.2.2) a3 c4 a55 c56 a11 c12) .nil) rfl ⟨trivial, ⟨rfl, rfl, rfl, rfl, trivial⟩⟩ (JO.done rfl ?_)))))))
      cases h
      exact JS.retX ttOk (a3, c4, a55, c56, a11, c12) trivial rfl rfl [2, 1, 0, 0] rfl
    have h := condF h ht81
    refine JS.skip (JS.seq (JS.region (JO.reg ttOk 2 [] [] [(61, .v (.agg (cl45 x0 a3 c4 a7 c8 a11 c12).toArray)), (62, .v (.int .i64 x1))] _ rfl ⟨⟨rfl, rfl, trivial⟩, rfl⟩ ?_)))
    obtain ⟨⟨y61, y62⟩, hy63, h⟩ := bindO_some h
    refine JO.callX rfl rfl rfl rfl (ok_s_l09Act x0 x1 a3 c4 x0.1.2.2.1.length rfl a7 c8 x0.2.2.1.length rfl a11 c12 x0.2.2.2.1.length rfl _ hy63) rfl [1, 1, 1] rfl [] rfl rfl ?_
    rintro ⟨a64, c65, a66, c67⟩ -
    refine JO.know 0 rfl fun hs68 => JO.regB ttOk 1 [] [] [] (.new 5 45 (cl45 (y61.1, y61.2.1, [], y61.2.2.2.1, y61.2.2.2.2) a64 c65 none 0 a66 c67) .nil) rfl ⟨trivial, ⟨rfl, rfl, rfl, rfl, trivial⟩⟩ (JO.done rfl ?_)
    cases h
    refine JS.nilO (.int .i64) Sl.nil rfl rfl (JS.retX ttOk (a64, c65, none, 0, a66, c67) trivial rfl rfl [1, 1, 0, 0] rfl)

end
end Go.Eng
