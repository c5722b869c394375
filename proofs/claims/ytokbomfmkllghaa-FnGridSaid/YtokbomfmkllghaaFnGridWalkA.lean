/- The walks of the functions that FnGrid reaches: what each computes, as a plain function (M_..), and that the model computes it (ok_..). Condition of each: that the plain function answers. -/
import Derived.Test.YtokbomfmkllghaaEngB
import Derived.Test.YtokbomfmkllghaaChecked
set_option linter.unusedVariables false
set_option linter.unusedSimpArgs false
namespace Go.Eng
open Go Go.Proofs
noncomputable section

@[reducible] def cl26 (x : Int × Int × List Int × Int × Int × Bool) (a1 : Option Addr) (c1 : Nat) : List Value := [.int .i64 x.1, .int .i64 x.2.1, .slice a1 x.2.2.1.length c1, .int .i64 x.2.2.2.1, .int .i64 x.2.2.2.2.1, .bool x.2.2.2.2.2]
def TTx : TT := [
  (2, ⟨.int .i64, 1, 8, [.int .i64 0]⟩),
  (3, ⟨.int .i64, 1, 8, [.int .i64 0]⟩),
  (4, ⟨.bool, 1, 1, [.bool false]⟩),
  (5, ⟨.int .u8, 1, 1, [.int .u8 0]⟩),
  (6, ⟨.int .u8, 1, 1, [.int .u8 0]⟩),
  (7, ⟨.struct [(0, 2), (1, 3), (2, 4), (3, 6)], 4, 24, [.int .i64 0, .int .i64 0, .bool false, .int .u8 0]⟩),
  (8, ⟨.struct [(0, 2), (1, 3), (2, 4), (3, 6)], 4, 24, [.int .i64 0, .int .i64 0, .bool false, .int .u8 0]⟩),
  (9, ⟨.str, 1, 16, [.string ByteArray.empty]⟩),
  (10, ⟨.str, 1, 16, [.string ByteArray.empty]⟩),
  (11, ⟨.str, 1, 16, [.string ByteArray.empty]⟩),
  (12, ⟨.int .u64, 1, 8, [.int .u64 0]⟩),
  (13, ⟨.struct [(0, 9), (1, 12)], 2, 24, [.string ByteArray.empty, .int .u64 0]⟩),
  (14, ⟨.struct [(0, 9), (1, 12)], 2, 24, [.string ByteArray.empty, .int .u64 0]⟩),
  (21, ⟨.int .i32, 1, 4, [.int .i32 0]⟩),
  (22, ⟨.slice 3, 1, 24, [.slice none 0 0]⟩),
  (23, ⟨.struct [(0, 3), (1, 3), (2, 22), (3, 3), (4, 3), (5, 4)], 6, 64, [.int .i64 0, .int .i64 0, .slice none 0 0, .int .i64 0, .int .i64 0, .bool false]⟩),
  (24, ⟨.struct [(0, 3), (1, 3), (2, 22), (3, 3), (4, 3), (5, 4)], 6, 64, [.int .i64 0, .int .i64 0, .slice none 0 0, .int .i64 0, .int .i64 0, .bool false]⟩),
  (26, ⟨.struct [(0, 3), (1, 3), (2, 22), (3, 3), (4, 3), (5, 4)], 6, 64, [.int .i64 0, .int .i64 0, .slice none 0 0, .int .i64 0, .int .i64 0, .bool false]⟩),
  (32, ⟨.slice 5, 1, 24, [.slice none 0 0]⟩),
  (44, ⟨.struct [(0, 26), (6, 3), (7, 22), (8, 32), (9, 3)], 10, 128, [.int .i64 0, .int .i64 0, .slice none 0 0, .int .i64 0, .int .i64 0, .bool false, .int .i64 0, .slice none 0 0, .slice none 0 0, .int .i64 0]⟩),
  (45, ⟨.struct [(0, 26), (6, 3), (7, 22), (8, 32), (9, 3)], 10, 128, [.int .i64 0, .int .i64 0, .slice none 0 0, .int .i64 0, .int .i64 0, .bool false, .int .i64 0, .slice none 0 0, .slice none 0 0, .int .i64 0]⟩),
  (53, ⟨.struct [(0, 24), (6, 3), (7, 22), (8, 32), (9, 3)], 10, 128, [.int .i64 0, .int .i64 0, .slice none 0 0, .int .i64 0, .int .i64 0, .bool false, .int .i64 0, .slice none 0 0, .slice none 0 0, .int .i64 0]⟩),
  (54, ⟨.struct [(0, 24), (6, 3), (7, 22), (8, 32), (9, 3)], 10, 128, [.int .i64 0, .int .i64 0, .slice none 0 0, .int .i64 0, .int .i64 0, .bool false, .int .i64 0, .slice none 0 0, .slice none 0 0, .int .i64 0]⟩),
  (75, ⟨.array 2 3, 2, 16, [.int .i64 0, .int .i64 0]⟩),
  (76, ⟨.slice 75, 1, 24, [.slice none 0 0]⟩),
  (78, ⟨.struct [(0, 32), (1, 3), (2, 3)], 3, 40, [.slice none 0 0, .int .i64 0, .int .i64 0]⟩),
  (79, ⟨.struct [(0, 32), (1, 3), (2, 3)], 3, 40, [.slice none 0 0, .int .i64 0, .int .i64 0]⟩),
  (91, ⟨.int .u64, 1, 8, [.int .u64 0]⟩),
  (92, ⟨.slice 9, 1, 24, [.slice none 0 0]⟩),
  (104, ⟨.int .u32, 1, 4, [.int .u32 0]⟩),
  (105, ⟨.int .u8, 1, 1, [.int .u8 0]⟩),
  (106, ⟨.int .u8, 1, 1, [.int .u8 0]⟩),
  (109, ⟨.int .i32, 1, 4, [.int .i32 0]⟩),
  (110, ⟨.int .i32, 1, 4, [.int .i32 0]⟩)]

set_option maxRecDepth 100000 in
theorem ttOk : TTok Try.prog TTx := TTok.of (by
  simp only [TTx, List.forall_mem_cons]
  exact ⟨⟨⟨_, _, rfl, rfl, rfl, rfl, rfl⟩, rfl⟩, ⟨⟨_, _, rfl, rfl, rfl, rfl, rfl⟩, rfl⟩, ⟨⟨_, _, rfl, rfl, rfl, rfl, rfl⟩, rfl⟩, ⟨⟨_, _, rfl, rfl, rfl, rfl, rfl⟩, rfl⟩, ⟨⟨_, _, rfl, rfl, rfl, rfl, rfl⟩, rfl⟩, ⟨⟨_, _, rfl, rfl, rfl, rfl, rfl⟩, ⟨_, rfl, rfl⟩⟩, ⟨⟨_, _, rfl, rfl, rfl, rfl, rfl⟩, ⟨_, rfl, rfl⟩⟩, ⟨⟨_, _, rfl, rfl, rfl, rfl, rfl⟩, rfl⟩, ⟨⟨_, _, rfl, rfl, rfl, rfl, rfl⟩, rfl⟩, ⟨⟨_, _, rfl, rfl, rfl, rfl, rfl⟩, rfl⟩, ⟨⟨_, _, rfl, rfl, rfl, rfl, rfl⟩, rfl⟩, ⟨⟨_, _, rfl, rfl, rfl, rfl, rfl⟩, ⟨_, rfl, rfl⟩⟩, ⟨⟨_, _, rfl, rfl, rfl, rfl, rfl⟩, ⟨_, rfl, rfl⟩⟩, ⟨⟨_, _, rfl, rfl, rfl, rfl, rfl⟩, rfl⟩, ⟨⟨_, _, rfl, rfl, rfl, rfl, rfl⟩, rfl⟩, ⟨⟨_, _, rfl, rfl, rfl, rfl, rfl⟩, ⟨_, rfl, rfl⟩⟩, ⟨⟨_, _, rfl, rfl, rfl, rfl, rfl⟩, ⟨_, rfl, rfl⟩⟩, ⟨⟨_, _, rfl, rfl, rfl, rfl, rfl⟩, ⟨_, rfl, rfl⟩⟩, ⟨⟨_, _, rfl, rfl, rfl, rfl, rfl⟩, rfl⟩, ⟨⟨_, _, rfl, rfl, rfl, rfl, rfl⟩, ⟨_, rfl, rfl⟩⟩, ⟨⟨_, _, rfl, rfl, rfl, rfl, rfl⟩, ⟨_, rfl, rfl⟩⟩, ⟨⟨_, _, rfl, rfl, rfl, rfl, rfl⟩, ⟨_, rfl, rfl⟩⟩, ⟨⟨_, _, rfl, rfl, rfl, rfl, rfl⟩, ⟨_, rfl, rfl⟩⟩, ⟨⟨_, _, rfl, rfl, rfl, rfl, rfl⟩, rfl⟩, ⟨⟨_, _, rfl, rfl, rfl, rfl, rfl⟩, rfl⟩, ⟨⟨_, _, rfl, rfl, rfl, rfl, rfl⟩, ⟨_, rfl, rfl⟩⟩, ⟨⟨_, _, rfl, rfl, rfl, rfl, rfl⟩, ⟨_, rfl, rfl⟩⟩, ⟨⟨_, _, rfl, rfl, rfl, rfl, rfl⟩, rfl⟩, ⟨⟨_, _, rfl, rfl, rfl, rfl, rfl⟩, rfl⟩, ⟨⟨_, _, rfl, rfl, rfl, rfl, rfl⟩, rfl⟩, ⟨⟨_, _, rfl, rfl, rfl, rfl, rfl⟩, rfl⟩, ⟨⟨_, _, rfl, rfl, rfl, rfl, rfl⟩, rfl⟩, ⟨⟨_, _, rfl, rfl, rfl, rfl, rfl⟩, rfl⟩, ⟨⟨_, _, rfl, rfl, rfl, rfl, rfl⟩, rfl⟩, by simp⟩)

def M_s_l01New_L1 (x0 : List UInt8) (j16 : Int → Option (List UInt8 × Int × Int)) (k11 : (Int × Int) → Option (List UInt8 × Int × Int)) : (Int × Int) → Option (List UInt8 × Int × Int) := fun (x6, x7) =>
  (bif (bif (decide (x7 < (x0.length : Int))) then (decide (x7 < 4000)) else false) then
  (guardO (0 ≤ x7 ∧ x7 < (x0.length : Int)) <|
  k11 ((W (((BitVec.ofInt (IntKind.bits .i64) (W ((W ((W (x6 * 137)) + ((at' x0 x7).toNat : Int))) + 7)) &&& BitVec.ofInt (IntKind.bits .i64) 1073741823).toNat : Int))), (W (x7 + 1))))
  else
  j16 x6)

def M_s_l01New (x0 : List UInt8) : Option (List UInt8 × Int × Int) :=
  (joinO (fun (x15 : Int) =>
  some (x0, 0, x15)) fun j16 =>
  (fixF (M_s_l01New_L1 x0 j16) FUEL ((W (600128 + (x0.length : Int))), 0)))

theorem ok_s_l01New (x0 : List UInt8) (a2 : Option Addr) (c3 : Nat) (l4 : Nat) (hl5 : x0.length = l4) (r : List UInt8 × Int × Int) (h : M_s_l01New x0 = some r) :
    FC Try.prog 57 [.slice a2 l4 c3] [⟨.byte, ⟨a2, l4, c3⟩, x0⟩] (fun _ : Option Addr => True) (fun q => .pointer q) (fun q => [⟨(.pair .val (.pair (.int .i64) (.int .i64))), ⟨q, 1, 1⟩, [((Sl.v ⟨a2, l4, c3⟩), r.2.1, r.2.2)]⟩]) :=
  by
    subst hl5
    refine FC.of (T := TTx) Try.call57 Try.func57 rfl rfl fun w0 => ?_
    unfold M_s_l01New at h
    refine JS.seq (JS.region (JO.reg ttOk 1 [] [] [] _ rfl ⟨trivial, rfl⟩ (JO.done rfl (JS.seq (JS.region (JO.reg ttOk 4 [(W (600128 + (x0.length : Int)))] [] [(3, .v (.int .i64 (W (600128 + (x0.length : Int)))))] _ rfl ⟨⟨trivial, rfl⟩, ⟨rfl, trivial⟩, rfl⟩ (JO.done rfl (JS.seq (JS.seq (JS.region (JO.reg ttOk 1 [] [] [(4, .v (.int .i64 0))] _ rfl ⟨⟨rfl, trivial⟩, rfl⟩ (JO.done rfl ?_))))))))))))
    obtain ⟨j16, hj23, h⟩ := joinO_some h
    refine JS.blockJ (ι := Int) ⟨fun z => j16 z = some r, fun z => [(0, .v (.slice a2 x0.length c3)), (3, .v (.int .i64 z))], fun z => .nil, fun z => [⟨.byte, ⟨a2, x0.length, c3⟩, x0⟩], fun z => [], fun z => 0⟩ ?_ ?_
    · refine JS.loop (ι := Nat × Int × Int) ⟨fun z => fixF (M_s_l01New_L1 x0 j16) z.1 (z.2.1, z.2.2) = some r, fun z => [(0, .v (.slice a2 x0.length c3)), (3, .v (.int .i64 z.2.1)), (4, .v (.int .i64 z.2.2))], fun z => .nil, fun z => [⟨.byte, ⟨a2, x0.length, c3⟩, x0⟩], fun z => [], fun z => z.1⟩ (FUEL, (W (600128 + (x0.length : Int))), 0) h ⟨rfl, rfl, rfl, trivial⟩ trivial [0] rfl [] rfl ?_
      rintro ⟨n12, x6, x7⟩ h
      obtain ⟨n12, rfl, h⟩ := fixF_some h
      rw [M_s_l01New_L1] at h
      refine JS.seq (JS.seq (JS.region (JO.reg ttOk 8 [] [] [(15, .v (.bool (bif (decide (x7 < (x0.length : Int))) then (decide (x7 < 4000)) else false)))] _ rfl ⟨⟨rfl, trivial⟩, rfl⟩ (JO.done rfl ?_))))
      refine JS.cond rfl (fun ht22 => ?_) (fun ht22 => ?_)
      · have h := condT h ht22
        refine JS.skip (JS.seq (JS.block (JS.region (JO.know 0 rfl fun hs21 => ?_))))
        obtain ⟨g9, h⟩ := guardO_some h
        refine JO.reg ttOk 5 [(W (x6 * 137))] [] [(19, .v (.int .i64 (W (x6 * 137)))), (22, .ep ⟨a2, x0.length, c3⟩ (Int.toNat x7 * 1))] _ rfl ⟨⟨trivial, rfl⟩, hs21.ix g9, ⟨rfl, rfl, trivial⟩, rfl⟩ (JO.load ttOk rfl rfl rfl rfl rfl rfl rfl 0 rfl rfl (Int.toNat x7) 0 (at' x0 x7) ⟨at_some g9, rfl⟩ rfl rfl (JO.reg ttOk 5 [((at' x0 x7).toNat : Int), (W ((W (x6 * 137)) + ((at' x0 x7).toNat : Int))), (W ((W ((W (x6 * 137)) + ((at' x0 x7).toNat : Int))) + 7)), (W (((BitVec.ofInt (IntKind.bits .i64) (W ((W ((W (x6 * 137)) + ((at' x0 x7).toNat : Int))) + 7)) &&& BitVec.ofInt (IntKind.bits .i64) 1073741823).toNat : Int)))] [] [(3, .v (.int .i64 (W (((BitVec.ofInt (IntKind.bits .i64) (W ((W ((W (x6 * 137)) + ((at' x0 x7).toNat : Int))) + 7)) &&& BitVec.ofInt (IntKind.bits .i64) 1073741823).toNat : Int)))))] _ rfl ⟨⟨trivial, W_byte _⟩, ⟨trivial, rfl⟩, ⟨trivial, rfl⟩, ⟨trivial, rfl⟩, ⟨rfl, trivial⟩, rfl⟩ (JO.done rfl (JS.endB (JS.region (JO.reg ttOk 3 [(W (x7 + 1))] [] [(4, .v (.int .i64 (W (x7 + 1))))] _ rfl ⟨⟨trivial, rfl⟩, ⟨rfl, trivial⟩, rfl⟩ (JO.done rfl (JS.endL (n12, (W (((BitVec.ofInt (IntKind.bits .i64) (W ((W ((W (x6 * 137)) + ((at' x0 x7).toNat : Int))) + 7)) &&& BitVec.ofInt (IntKind.bits .i64) 1073741823).toNat : Int))), (W (x7 + 1))) h (Nat.lt_succ_self _) ⟨rfl, rfl, rfl, trivial⟩ trivial [0] rfl [] rfl))))))))
      have h := condF h ht22
      refine JS.exit rfl (JS.endJ x6 h ⟨rfl, rfl, trivial⟩ trivial [0] rfl [] rfl)
    rintro x15 h
    subst hj23
    refine JS.seq (JS.region (JO.regB ttOk 5 [] [9] [(2, .bp 9 0), (31, .bp 9 0)] (.new 9 79 [.slice a2 x0.length c3, .int .i64 0, .int .i64 x15] .nil) rfl ⟨⟨rfl, rfl, trivial⟩, ⟨rfl, rfl, rfl, rfl, trivial⟩⟩ (JO.done rfl (JS.unbox 9 rfl (B' := .nil) trivial rfl (.pair .val (.pair (.int .i64) (.int .i64))) ((Sl.v ⟨a2, x0.length, c3⟩), 0, x15) ⟨rfl, rfl, rfl⟩ (fun a19 => [(0, .v (.slice a2 x0.length c3)), (2, .ep ⟨a19, 1, 1⟩ 0), (3, .v (.int .i64 x15)), (31, .ep ⟨a19, 1, 1⟩ 0)]) (fun _ => ⟨rfl, rfl, rfl, rfl, trivial⟩) fun a19 => ?_))))
    cases h
    exact JS.ret ttOk a19 trivial rfl rfl [0] rfl

def M_s_l01Byte (x0 : List UInt8 × Int × Int) : Option (Int × List UInt8 × Int × Int) :=
  (joinO (fun ((x14, x15) : Int × Int) =>
  some (x14, (x0.1, x15, (W ((W (x0.2.2 * 6364136223846793005)) + 1442695040888963407))))) fun j16 =>
  (bif (decide (x0.2.1 < (x0.1.length : Int))) then
  (guardO (0 ≤ x0.2.1 ∧ x0.2.1 < (x0.1.length : Int)) <|
  j16 ((W (((BitVec.ofInt (IntKind.bits .i64) (W ((W (((BitVec.ofInt (IntKind.bits .i64) (W (((BitVec.ofInt (IntKind.bits .i64) (Int.fdiv (W ((W (x0.2.2 * 6364136223846793005)) + 1442695040888963407)) (2 ^ (min (Int.toNat 33) (IntKind.bits .i64)))) ^^^ BitVec.ofInt (IntKind.bits .i64) (Int.fdiv (W ((W (x0.2.2 * 6364136223846793005)) + 1442695040888963407)) (2 ^ (min (Int.toNat 45) (IntKind.bits .i64))))).toNat : Int))) &&& BitVec.ofInt (IntKind.bits .i64) 255).toNat : Int))) + ((at' x0.1 x0.2.1).toNat : Int))) &&& BitVec.ofInt (IntKind.bits .i64) 255).toNat : Int))), (W (x0.2.1 + 1))))
  else
  j16 ((W (((BitVec.ofInt (IntKind.bits .i64) (W (((BitVec.ofInt (IntKind.bits .i64) (Int.fdiv (W ((W (x0.2.2 * 6364136223846793005)) + 1442695040888963407)) (2 ^ (min (Int.toNat 33) (IntKind.bits .i64)))) ^^^ BitVec.ofInt (IntKind.bits .i64) (Int.fdiv (W ((W (x0.2.2 * 6364136223846793005)) + 1442695040888963407)) (2 ^ (min (Int.toNat 45) (IntKind.bits .i64))))).toNat : Int))) &&& BitVec.ofInt (IntKind.bits .i64) 255).toNat : Int))), x0.2.1)))

theorem ok_s_l01Byte (x0 : List UInt8 × Int × Int) (a2 : Option Addr) (a3 : Option Addr) (c4 : Nat) (l5 : Nat) (hl6 : x0.1.length = l5) (r : Int × List UInt8 × Int × Int) (h : M_s_l01Byte x0 = some r) :
    FX Try.prog 87 [.pointer a2] [⟨.byte, ⟨a3, l5, c4⟩, x0.1⟩] [⟨(.pair .val (.pair (.int .i64) (.int .i64))), ⟨a2, 1, 1⟩, [((Sl.v ⟨a3, l5, c4⟩), x0.2.1, x0.2.2)]⟩] (fun _ : Unit => True) (fun _ => .int .i64 r.1) (fun _ => [⟨(.pair .val (.pair (.int .i64) (.int .i64))), ⟨a2, 1, 1⟩, [((Sl.v ⟨a3, l5, c4⟩), r.2.2.1, r.2.2.2)]⟩]) :=
  by
    subst hl6
    refine FX.of (T := TTx) Try.call87 Try.func87 rfl rfl fun w0 L0 => ?_
    unfold M_s_l01Byte at h
    refine JS.ptr 0 a2 rfl ?_
    refine JS.seq (JS.region (JO.reg ttOk 1 [] [] [] _ rfl ⟨trivial, rfl⟩ (JO.done rfl (JS.seq (JS.region (JO.know 1 rfl fun hs21 => JO.reg ttOk 4 [] [] [(4, .ep ⟨a2, 1, 1⟩ 0), (7, .ep ⟨a2, 1, 1⟩ 2)] _ rfl ⟨(hs21.fa ptr0).1, hs21.fa ptr0, ⟨rfl, rfl, trivial⟩, rfl⟩ (JO.loadV ttOk rfl rfl rfl rfl rfl rfl 1 rfl rfl 0 2 ((Sl.v ⟨a3, x0.1.length, c4⟩), x0.2.1, x0.2.2) ⟨rfl, rfl⟩ rfl rfl rfl (JO.reg ttOk 4 [(W (x0.2.2 * 6364136223846793005)), (W ((W (x0.2.2 * 6364136223846793005)) + 1442695040888963407))] [] [(10, .v (.int .i64 (W ((W (x0.2.2 * 6364136223846793005)) + 1442695040888963407)))), (12, .ep ⟨a2, 1, 1⟩ 2)] _ rfl ⟨⟨trivial, rfl⟩, ⟨trivial, rfl⟩, (hs21.fa ptr0).1, hs21.fa ptr0, ⟨rfl, rfl, trivial⟩, rfl⟩ (JO.storeE ttOk rfl rfl rfl rfl rfl rfl rfl rfl rfl [0] (fs := []) rfl 0 2 ((Sl.v ⟨a3, x0.1.length, c4⟩), x0.2.1, x0.2.2) ((Sl.v ⟨a3, x0.1.length, c4⟩), x0.2.1, (W ((W (x0.2.2 * 6364136223846793005)) + 1442695040888963407))) ⟨rfl, rfl⟩ ⟨⟨⟨rfl, rfl, rfl⟩, rfl⟩, rfl⟩ (JO.done rfl (JS.seq ?_)))))))))))
    have g8 : (0 : Int) ≤ 33 := by decide
    have g9 : (0 : Int) ≤ 45 := by decide
    refine JS.regionQ rfl (by kernel_rfl) (JQ.reg ttOk 3 [] [(15, .ep ⟨a2, 1, 1⟩ 2)] rfl ⟨(hs21.fa ptr0).1, hs21.fa ptr0, ⟨rfl, trivial⟩⟩ (JQ.loadV ttOk rfl rfl rfl rfl rfl rfl 1 rfl rfl 0 2 ((Sl.v ⟨a3, x0.1.length, c4⟩), x0.2.1, (W ((W (x0.2.2 * 6364136223846793005)) + 1442695040888963407))) ⟨rfl, rfl⟩ rfl rfl rfl (JQ.reg ttOk 4 [] [(17, .v (.int .i64 (Int.fdiv (W ((W (x0.2.2 * 6364136223846793005)) + 1442695040888963407)) (2 ^ (min (Int.toNat 33) (IntKind.bits .i64)))))), (20, .ep ⟨a2, 1, 1⟩ 2)] rfl ⟨g8, (hs21.fa ptr0).1, hs21.fa ptr0, ⟨rfl, rfl, trivial⟩⟩ (JQ.loadV ttOk rfl rfl rfl rfl rfl rfl 1 rfl rfl 0 2 ((Sl.v ⟨a3, x0.1.length, c4⟩), x0.2.1, (W ((W (x0.2.2 * 6364136223846793005)) + 1442695040888963407))) ⟨rfl, rfl⟩ rfl rfl rfl (JQ.reg ttOk 4 [(W (((BitVec.ofInt (IntKind.bits .i64) (Int.fdiv (W ((W (x0.2.2 * 6364136223846793005)) + 1442695040888963407)) (2 ^ (min (Int.toNat 33) (IntKind.bits .i64)))) ^^^ BitVec.ofInt (IntKind.bits .i64) (Int.fdiv (W ((W (x0.2.2 * 6364136223846793005)) + 1442695040888963407)) (2 ^ (min (Int.toNat 45) (IntKind.bits .i64))))).toNat : Int))), (W (((BitVec.ofInt (IntKind.bits .i64) (W (((BitVec.ofInt (IntKind.bits .i64) (Int.fdiv (W ((W (x0.2.2 * 6364136223846793005)) + 1442695040888963407)) (2 ^ (min (Int.toNat 33) (IntKind.bits .i64)))) ^^^ BitVec.ofInt (IntKind.bits .i64) (Int.fdiv (W ((W (x0.2.2 * 6364136223846793005)) + 1442695040888963407)) (2 ^ (min (Int.toNat 45) (IntKind.bits .i64))))).toNat : Int))) &&& BitVec.ofInt (IntKind.bits .i64) 255).toNat : Int)))] [(3, .v (.int .i64 (W (((BitVec.ofInt (IntKind.bits .i64) (W (((BitVec.ofInt (IntKind.bits .i64) (Int.fdiv (W ((W (x0.2.2 * 6364136223846793005)) + 1442695040888963407)) (2 ^ (min (Int.toNat 33) (IntKind.bits .i64)))) ^^^ BitVec.ofInt (IntKind.bits .i64) (Int.fdiv (W ((W (x0.2.2 * 6364136223846793005)) + 1442695040888963407)) (2 ^ (min (Int.toNat 45) (IntKind.bits .i64))))).toNat : Int))) &&& BitVec.ofInt (IntKind.bits .i64) 255).toNat : Int)))))] rfl ⟨g9, ⟨trivial, rfl⟩, ⟨trivial, rfl⟩, ⟨rfl, trivial⟩⟩ (JQ.done rfl ?_))))))
    obtain ⟨j16, hj25, h⟩ := joinO_some h
    refine JS.seqJ (ι := Int × Int) ⟨fun z => j16 (z.1, z.2) = some r, fun z => [(3, .v (.int .i64 z.1))], fun z => .nil, fun z => [⟨.byte, ⟨a3, x0.1.length, c4⟩, x0.1⟩], fun z => [⟨(.pair .val (.pair (.int .i64) (.int .i64))), ⟨a2, 1, 1⟩, [((Sl.v ⟨a3, x0.1.length, c4⟩), z.2, (W ((W (x0.2.2 * 6364136223846793005)) + 1442695040888963407)))]⟩], fun z => 0⟩ ?_ ?_
    · refine JS.seq (JS.regionQ rfl (by kernel_rfl) (JQ.reg ttOk 3 [] [(27, .ep ⟨a2, 1, 1⟩ 1)] rfl ⟨(hs21.fa ptr0).1, hs21.fa ptr0, ⟨rfl, trivial⟩⟩ (JQ.loadV ttOk rfl rfl rfl rfl rfl rfl 1 rfl rfl 0 1 ((Sl.v ⟨a3, x0.1.length, c4⟩), x0.2.1, (W ((W (x0.2.2 * 6364136223846793005)) + 1442695040888963407))) ⟨rfl, rfl⟩ rfl rfl rfl (JQ.reg ttOk 3 [] [(31, .ep ⟨a2, 1, 1⟩ 0)] rfl ⟨(hs21.fa ptr0).1, hs21.fa ptr0, ⟨rfl, trivial⟩⟩ (JQ.loadV ttOk rfl rfl rfl rfl rfl rfl 1 rfl rfl 0 0 ((Sl.v ⟨a3, x0.1.length, c4⟩), x0.2.1, (W ((W (x0.2.2 * 6364136223846793005)) + 1442695040888963407))) ⟨rfl, rfl⟩ rfl rfl rfl (JQ.reg ttOk 2 [] [(34, .v (.bool (decide (x0.2.1 < (x0.1.length : Int)))))] rfl ⟨rfl, trivial⟩ (JQ.done rfl ?_)))))))
      refine JS.cond rfl (fun ht24 => ?_) (fun ht24 => ?_)
      · have h := condT h ht24
        refine JS.seq ?_
        obtain ⟨g11, h⟩ := guardO_some h
        refine JS.know 0 rfl fun hs23 => JS.regionQ rfl (by kernel_rfl) (JQ.reg ttOk 4 [] [(35, .v (.int .i64 (W (((BitVec.ofInt (IntKind.bits .i64) (W (((BitVec.ofInt (IntKind.bits .i64) (Int.fdiv (W ((W (x0.2.2 * 6364136223846793005)) + 1442695040888963407)) (2 ^ (min (Int.toNat 33) (IntKind.bits .i64)))) ^^^ BitVec.ofInt (IntKind.bits .i64) (Int.fdiv (W ((W (x0.2.2 * 6364136223846793005)) + 1442695040888963407)) (2 ^ (min (Int.toNat 45) (IntKind.bits .i64))))).toNat : Int))) &&& BitVec.ofInt (IntKind.bits .i64) 255).toNat : Int))))), (38, .ep ⟨a2, 1, 1⟩ 0)] rfl ⟨(hs21.fa ptr0).1, hs21.fa ptr0, ⟨rfl, rfl, trivial⟩⟩ (JQ.loadV ttOk rfl rfl rfl rfl rfl rfl 1 rfl rfl 0 0 ((Sl.v ⟨a3, x0.1.length, c4⟩), x0.2.1, (W ((W (x0.2.2 * 6364136223846793005)) + 1442695040888963407))) ⟨rfl, rfl⟩ rfl rfl rfl (JQ.reg ttOk 3 [] [(42, .ep ⟨a2, 1, 1⟩ 1)] rfl ⟨(hs21.fa ptr0).1, hs21.fa ptr0, ⟨rfl, trivial⟩⟩ (JQ.loadV ttOk rfl rfl rfl rfl rfl rfl 1 rfl rfl 0 1 ((Sl.v ⟨a3, x0.1.length, c4⟩), x0.2.1, (W ((W (x0.2.2 * 6364136223846793005)) + 1442695040888963407))) ⟨rfl, rfl⟩ rfl rfl rfl (JQ.reg ttOk 1 [] [(44, .ep ⟨a3, x0.1.length, c4⟩ (Int.toNat x0.2.1 * 1))] rfl ⟨hs23.ix g11, ⟨rfl, trivial⟩⟩ (JQ.load ttOk rfl rfl rfl rfl rfl rfl rfl 0 rfl rfl (Int.toNat x0.2.1) 0 (at' x0.1 x0.2.1) ⟨at_some g11, rfl⟩ rfl rfl (JQ.reg ttOk 4 [((at' x0.1 x0.2.1).toNat : Int), (W ((W (((BitVec.ofInt (IntKind.bits .i64) (W (((BitVec.ofInt (IntKind.bits .i64) (Int.fdiv (W ((W (x0.2.2 * 6364136223846793005)) + 1442695040888963407)) (2 ^ (min (Int.toNat 33) (IntKind.bits .i64)))) ^^^ BitVec.ofInt (IntKind.bits .i64) (Int.fdiv (W ((W (x0.2.2 * 6364136223846793005)) + 1442695040888963407)) (2 ^ (min (Int.toNat 45) (IntKind.bits .i64))))).toNat : Int))) &&& BitVec.ofInt (IntKind.bits .i64) 255).toNat : Int))) + ((at' x0.1 x0.2.1).toNat : Int))), (W (((BitVec.ofInt (IntKind.bits .i64) (W ((W (((BitVec.ofInt (IntKind.bits .i64) (W (((BitVec.ofInt (IntKind.bits .i64) (Int.fdiv (W ((W (x0.2.2 * 6364136223846793005)) + 1442695040888963407)) (2 ^ (min (Int.toNat 33) (IntKind.bits .i64)))) ^^^ BitVec.ofInt (IntKind.bits .i64) (Int.fdiv (W ((W (x0.2.2 * 6364136223846793005)) + 1442695040888963407)) (2 ^ (min (Int.toNat 45) (IntKind.bits .i64))))).toNat : Int))) &&& BitVec.ofInt (IntKind.bits .i64) 255).toNat : Int))) + ((at' x0.1 x0.2.1).toNat : Int))) &&& BitVec.ofInt (IntKind.bits .i64) 255).toNat : Int)))] [(3, .v (.int .i64 (W (((BitVec.ofInt (IntKind.bits .i64) (W ((W (((BitVec.ofInt (IntKind.bits .i64) (W (((BitVec.ofInt (IntKind.bits .i64) (Int.fdiv (W ((W (x0.2.2 * 6364136223846793005)) + 1442695040888963407)) (2 ^ (min (Int.toNat 33) (IntKind.bits .i64)))) ^^^ BitVec.ofInt (IntKind.bits .i64) (Int.fdiv (W ((W (x0.2.2 * 6364136223846793005)) + 1442695040888963407)) (2 ^ (min (Int.toNat 45) (IntKind.bits .i64))))).toNat : Int))) &&& BitVec.ofInt (IntKind.bits .i64) 255).toNat : Int))) + ((at' x0.1 x0.2.1).toNat : Int))) &&& BitVec.ofInt (IntKind.bits .i64) 255).toNat : Int)))))] rfl ⟨⟨trivial, W_byte _⟩, ⟨trivial, rfl⟩, ⟨trivial, rfl⟩, ⟨rfl, trivial⟩⟩ (JQ.done rfl (JS.region (JO.reg ttOk 4 [] [] [(49, .ep ⟨a2, 1, 1⟩ 0), (52, .ep ⟨a2, 1, 1⟩ 1)] _ rfl ⟨(hs21.fa ptr0).1, hs21.fa ptr0, ⟨rfl, rfl, trivial⟩, rfl⟩ (JO.loadV ttOk rfl rfl rfl rfl rfl rfl 1 rfl rfl 0 1 ((Sl.v ⟨a3, x0.1.length, c4⟩), x0.2.1, (W ((W (x0.2.2 * 6364136223846793005)) + 1442695040888963407))) ⟨rfl, rfl⟩ rfl rfl rfl (JO.reg ttOk 3 [(W (x0.2.1 + 1))] [] [(54, .v (.int .i64 (W (x0.2.1 + 1)))), (56, .ep ⟨a2, 1, 1⟩ 1)] _ rfl ⟨⟨trivial, rfl⟩, (hs21.fa ptr0).1, hs21.fa ptr0, ⟨rfl, rfl, trivial⟩, rfl⟩ (JO.storeE ttOk rfl rfl rfl rfl rfl rfl rfl rfl rfl [0] (fs := []) rfl 0 1 ((Sl.v ⟨a3, x0.1.length, c4⟩), x0.2.1, (W ((W (x0.2.2 * 6364136223846793005)) + 1442695040888963407))) ((Sl.v ⟨a3, x0.1.length, c4⟩), (W (x0.2.1 + 1)), (W ((W (x0.2.2 * 6364136223846793005)) + 1442695040888963407))) ⟨rfl, rfl⟩ ⟨⟨⟨rfl, rfl, rfl⟩, rfl⟩, rfl⟩ (JO.done rfl (JS.endJ ((W (((BitVec.ofInt (IntKind.bits .i64) (W ((W (((BitVec.ofInt (IntKind.bits .i64) (W (((BitVec.ofInt (IntKind.bits .i64) (Int.fdiv (W ((W (x0.2.2 * 6364136223846793005)) + 1442695040888963407)) (2 ^ (min (Int.toNat 33) (IntKind.bits .i64)))) ^^^ BitVec.ofInt (IntKind.bits .i64) (Int.fdiv (W ((W (x0.2.2 * 6364136223846793005)) + 1442695040888963407)) (2 ^ (min (Int.toNat 45) (IntKind.bits .i64))))).toNat : Int))) &&& BitVec.ofInt (IntKind.bits .i64) 255).toNat : Int))) + ((at' x0.1 x0.2.1).toNat : Int))) &&& BitVec.ofInt (IntKind.bits .i64) 255).toNat : Int))), (W (x0.2.1 + 1))) h ⟨rfl, trivial⟩ trivial [0] rfl [0] rfl)))))))))))))))
      have h := condF h ht24
      refine JS.skip (JS.endJ ((W (((BitVec.ofInt (IntKind.bits .i64) (W (((BitVec.ofInt (IntKind.bits .i64) (Int.fdiv (W ((W (x0.2.2 * 6364136223846793005)) + 1442695040888963407)) (2 ^ (min (Int.toNat 33) (IntKind.bits .i64)))) ^^^ BitVec.ofInt (IntKind.bits .i64) (Int.fdiv (W ((W (x0.2.2 * 6364136223846793005)) + 1442695040888963407)) (2 ^ (min (Int.toNat 45) (IntKind.bits .i64))))).toNat : Int))) &&& BitVec.ofInt (IntKind.bits .i64) 255).toNat : Int))), x0.2.1) h ⟨rfl, trivial⟩ trivial [0] rfl [0] rfl)
    rintro ⟨x14, x15⟩ h
    subst hj25
    refine JS.seq (JS.region (JO.reg ttOk 2 [] [] [(2, .v (.int .i64 x14))] _ rfl ⟨⟨rfl, trivial⟩, rfl⟩ (JO.done rfl ?_)))
    cases h
    exact JS.retX ttOk () trivial rfl rfl [0] rfl

def M_s_l01Below (x0 : List UInt8 × Int × Int) (x1 : Int) : Option (Int × List UInt8 × Int × Int) :=
  (bif (decide (x1 ≤ 0)) then
  some (0, x0)
  else
  (bif (decide (x1 ≤ 256)) then
  (bindO (M_s_l01Byte x0) fun (y8, y9) =>
  (guardO (x1 ≠ 0) <|
  some ((Int.tmod y8 x1), (x0.1, y9.2.1, y9.2.2))))
  else
  (bindO (M_s_l01Byte x0) fun (y12, y13) =>
  (bindO (M_s_l01Byte (x0.1, y13.2.1, y13.2.2)) fun (y15, y16) =>
  (bindO (M_s_l01Byte (x0.1, y16.2.1, y16.2.2)) fun (y18, y19) =>
  (bindO (M_s_l01Byte (x0.1, y19.2.1, y19.2.2)) fun (y21, y22) =>
  (guardO (x1 ≠ 0) <|
  some ((Int.tmod (W ((W ((W ((W (y12 * 16777216)) + (W (y15 * 65536)))) + (W (y18 * 256)))) + y21)) x1), (x0.1, y22.2.1, y22.2.2)))))))))

theorem ok_s_l01Below (x0 : List UInt8 × Int × Int) (x1 : Int) (a3 : Option Addr) (a4 : Option Addr) (c5 : Nat) (l6 : Nat) (hl7 : x0.1.length = l6) (r : Int × List UInt8 × Int × Int) (h : M_s_l01Below x0 x1 = some r) :
    FX Try.prog 59 [.pointer a3, .int .i64 x1] [⟨.byte, ⟨a4, l6, c5⟩, x0.1⟩] [⟨(.pair .val (.pair (.int .i64) (.int .i64))), ⟨a3, 1, 1⟩, [((Sl.v ⟨a4, l6, c5⟩), x0.2.1, x0.2.2)]⟩] (fun _ : Unit => True) (fun _ => .int .i64 r.1) (fun _ => [⟨(.pair .val (.pair (.int .i64) (.int .i64))), ⟨a3, 1, 1⟩, [((Sl.v ⟨a4, l6, c5⟩), r.2.2.1, r.2.2.2)]⟩]) :=
  by
    subst hl7
    refine FX.of (T := TTx) Try.call59 Try.func59 rfl rfl fun w0 L0 => ?_
    unfold M_s_l01Below at h
    refine JS.ptr 0 a3 rfl ?_
    refine JS.seq (JS.region (JO.reg ttOk 1 [] [] [] _ rfl ⟨trivial, rfl⟩ (JO.done rfl (JS.seq (JS.seq (JS.region (JO.reg ttOk 2 [] [] [(10, .v (.bool (decide (x1 ≤ 0))))] _ rfl ⟨⟨rfl, trivial⟩, rfl⟩ (JO.done rfl ?_))))))))
    refine JS.cond rfl (fun ht28 => ?_) (fun ht28 => ?_)
    · have h := condT h ht28
      refine JS.seq (JS.region (JO.reg ttOk 1 [] [] [(4, .v (.int .i64 0))] _ rfl ⟨⟨rfl, trivial⟩, rfl⟩ (JO.done rfl ?_)))
      cases h
      exact JS.retX ttOk () trivial rfl rfl [0] rfl
    have h := condF h ht28
    refine JS.skip (JS.seq (JS.seq (JS.region (JO.reg ttOk 2 [] [] [(12, .v (.bool (decide (x1 ≤ 256))))] _ rfl ⟨⟨rfl, trivial⟩, rfl⟩ (JO.done rfl ?_)))))
    refine JS.cond rfl (fun ht27 => ?_) (fun ht27 => ?_)
    · have h := condT h ht27
      refine JS.seq (JS.region (JO.reg ttOk 1 [] [] [(13, .ep ⟨a3, 1, 1⟩ 0)] _ rfl ⟨⟨rfl, trivial⟩, rfl⟩ ?_))
      obtain ⟨⟨y8, y9⟩, hy10, h⟩ := bindO_some h
      refine JO.callX rfl rfl rfl rfl (ok_s_l01Byte x0 a3 a4 c5 x0.1.length rfl _ hy10) rfl [0] rfl [0] rfl rfl fun _ _ => ?_
      obtain ⟨g11, h⟩ := guardO_some h
      refine JO.reg ttOk 3 [] [] [(4, .v (.int .i64 (Int.tmod y8 x1)))] _ rfl ⟨g11, ⟨rfl, trivial⟩, rfl⟩ (JO.done rfl ?_)
      cases h
      exact JS.retX ttOk () trivial rfl rfl [0] rfl
    have h := condF h ht27
    refine JS.skip (JS.seq (JS.region (JO.reg ttOk 1 [] [] [(17, .ep ⟨a3, 1, 1⟩ 0)] _ rfl ⟨⟨rfl, trivial⟩, rfl⟩ ?_)))
    obtain ⟨⟨y12, y13⟩, hy14, h⟩ := bindO_some h
    refine JO.callX rfl rfl rfl rfl (ok_s_l01Byte x0 a3 a4 c5 x0.1.length rfl _ hy14) rfl [0] rfl [0] rfl rfl fun _ _ => JO.reg ttOk 1 [] [] [(5, .v (.int .i64 y12))] _ rfl ⟨⟨rfl, trivial⟩, rfl⟩ (JO.done rfl (JS.seq (JS.region (JO.reg ttOk 1 [] [] [(19, .ep ⟨a3, 1, 1⟩ 0)] _ rfl ⟨⟨rfl, trivial⟩, rfl⟩ ?_))))
    obtain ⟨⟨y15, y16⟩, hy17, h⟩ := bindO_some h
    refine JO.callX rfl rfl rfl rfl (ok_s_l01Byte (x0.1, y13.2.1, y13.2.2) a3 a4 c5 x0.1.length rfl _ hy17) rfl [0] rfl [0] rfl rfl fun _ _ => JO.reg ttOk 1 [] [] [(6, .v (.int .i64 y15))] _ rfl ⟨⟨rfl, trivial⟩, rfl⟩ (JO.done rfl (JS.seq (JS.region (JO.reg ttOk 1 [] [] [(21, .ep ⟨a3, 1, 1⟩ 0)] _ rfl ⟨⟨rfl, trivial⟩, rfl⟩ ?_))))
    obtain ⟨⟨y18, y19⟩, hy20, h⟩ := bindO_some h
    refine JO.callX rfl rfl rfl rfl (ok_s_l01Byte (x0.1, y16.2.1, y16.2.2) a3 a4 c5 x0.1.length rfl _ hy20) rfl [0] rfl [0] rfl rfl fun _ _ => JO.reg ttOk 1 [] [] [(7, .v (.int .i64 y18))] _ rfl ⟨⟨rfl, trivial⟩, rfl⟩ (JO.done rfl (JS.seq (JS.region (JO.reg ttOk 1 [] [] [(23, .ep ⟨a3, 1, 1⟩ 0)] _ rfl ⟨⟨rfl, trivial⟩, rfl⟩ ?_))))
    obtain ⟨⟨y21, y22⟩, hy23, h⟩ := bindO_some h
    refine JO.callX rfl rfl rfl rfl (ok_s_l01Byte (x0.1, y19.2.1, y19.2.2) a3 a4 c5 x0.1.length rfl _ hy23) rfl [0] rfl [0] rfl rfl fun _ _ => JO.reg ttOk 1 [] [] [(8, .v (.int .i64 y21))] _ rfl ⟨⟨rfl, trivial⟩, rfl⟩ (JO.done rfl (JS.seq (JS.region ?_)))
    obtain ⟨g24, h⟩ := guardO_some h
    refine JO.reg ttOk 13 [(W (y12 * 16777216)), (W (y15 * 65536)), (W ((W (y12 * 16777216)) + (W (y15 * 65536)))), (W (y18 * 256)), (W ((W ((W (y12 * 16777216)) + (W (y15 * 65536)))) + (W (y18 * 256)))), (W ((W ((W ((W (y12 * 16777216)) + (W (y15 * 65536)))) + (W (y18 * 256)))) + y21))] [] [(4, .v (.int .i64 (Int.tmod (W ((W ((W ((W (y12 * 16777216)) + (W (y15 * 65536)))) + (W (y18 * 256)))) + y21)) x1)))] _ rfl ⟨⟨trivial, rfl⟩, ⟨trivial, rfl⟩, ⟨trivial, rfl⟩, ⟨trivial, rfl⟩, ⟨trivial, rfl⟩, ⟨trivial, rfl⟩, g24, ⟨rfl, trivial⟩, rfl⟩ (JO.done rfl ?_)
    cases h
    exact JS.retX ttOk () trivial rfl rfl [0] rfl

def M_s_GridNew_L1 (x0 : Int) (x1 : Int) (j33 : (List Int) → Option ((Int × Int × List Int × Int × Int × Bool) × Bool)) (k27 : (Int × List Int) → Option ((Int × Int × List Int × Int × Int × Bool) × Bool)) : (Int × List Int) → Option ((Int × Int × List Int × Int × Int × Bool) × Bool) := fun (x4, x15) =>
  (bif (decide (x4 < (W (x0 * x1)))) then
  (guardO (x15.length + ([32] : List Int).length ≤ 536870912) <|
  k27 ((W (x4 + 1)), (x15 ++ ([32] : List Int))))
  else
  j33 x15)

def M_s_GridNew (x0 : Int) (x1 : Int) : Option ((Int × Int × List Int × Int × Int × Bool) × Bool) :=
  (bif (bif (bif (bif (bif (decide (x0 < 2)) then true else (decide (200 < x0))) then true else (decide (x1 < 1))) then true else (decide (200 < x1))) then true else (decide (8000 < (W (x0 * x1))))) then
  some ((0, 0, [], 0, 0, false), false)
  else
  (joinO (fun (x30 : List Int) =>
  some ((x0, x1, x30, 0, 0, false), true)) fun j33 =>
  (fixF (M_s_GridNew_L1 x0 x1 j33) FUEL (0, ([] : List Int)))))

theorem ok_s_GridNew (x0 : Int) (x1 : Int) (r : (Int × Int × List Int × Int × Int × Bool) × Bool) (h : M_s_GridNew x0 x1 = some r) :
    FC Try.prog 60 [.int .i64 x0, .int .i64 x1] [] (fun _ : Option Addr × Nat => True) (fun q => .tuple #[.agg (cl26 r.1 q.1 q.2).toArray, .bool r.2]) (fun q => [⟨(.int .i64), ⟨q.1, r.1.2.2.1.length, q.2⟩, r.1.2.2.1⟩]) :=
  by
    refine FC.of (T := TTx) Try.call60 Try.func60 rfl rfl fun w0 => ?_
    unfold M_s_GridNew at h
    refine JS.seq (JS.region (JO.regB ttOk 2 [] [1] [(4, .bp 1 0)] (.new 1 26 (cl26 (0, 0, [], 0, 0, false) none 0) .nil) rfl ⟨⟨rfl, trivial⟩, ⟨rfl, rfl, rfl, rfl, trivial⟩⟩ (JO.done rfl (JS.seq (JS.seq (JS.region (JO.reg ttOk 20 [(W (x0 * x1))] [] [(27, .v (.bool (bif (bif (bif (bif (decide (x0 < 2)) then true else (decide (200 < x0))) then true else (decide (x1 < 1))) then true else (decide (200 < x1))) then true else (decide (8000 < (W (x0 * x1)))))))] _ rfl ⟨(fun q37 => ⟨trivial, rfl⟩), ⟨rfl, trivial⟩, rfl⟩ (JO.done rfl ?_))))))))
    refine JS.cond rfl (fun ht40 => ?_) (fun ht40 => ?_)
    · have h := condT h ht40
      refine JS.seq (JS.region (JO.regB ttOk 3 [] [] [(5, .v (.bool false))] (.new 1 26 (cl26 (0, 0, [], 0, 0, false) none 0) .nil) rfl ⟨⟨rfl, trivial⟩, ⟨rfl, rfl, rfl, rfl, trivial⟩⟩ (JO.done rfl ?_)))
      cases h
      refine JS.nilO (.int .i64) Sl.nil rfl rfl (JS.ret ttOk (none, 0) trivial rfl rfl [0] rfl)
    have h := condF h ht40
    refine JS.skip (JS.seq (JS.region (JO.regB ttOk 5 [] [2] [(6, .bp 2 0)] (.new 1 26 (cl26 (0, 0, [], 0, 0, false) none 0) (.new 2 26 (cl26 (x0, x1, [], 0, 0, false) none 0) .nil)) rfl ⟨⟨rfl, trivial⟩, ⟨rfl, rfl, rfl, rfl, rfl, rfl, rfl, rfl, trivial⟩⟩ (JO.done rfl (JS.seq (JS.seq (JS.region (JO.reg ttOk 1 [] [] [(7, .v (.int .i64 0))] _ rfl ⟨⟨rfl, trivial⟩, rfl⟩ (JO.done rfl ?_)))))))))
    obtain ⟨j33, hj39, h⟩ := joinO_some h
    refine JS.blockJ (ι := List Int × Option Addr × Nat) ⟨fun z => j33 z.1 = some r, fun z => [(4, .bp 1 0), (6, .bp 2 0)], fun z => (.new 1 26 (cl26 (0, 0, [], 0, 0, false) none 0) (.new 2 26 (cl26 (x0, x1, z.1, 0, 0, false) z.2.1 z.2.2) .nil)), fun z => [], fun z => [⟨(.int .i64), ⟨z.2.1, z.1.length, z.2.2⟩, z.1⟩], fun z => 0⟩ ?_ ?_
    · refine JS.nilO (.int .i64) Sl.nil rfl rfl (JS.loop (ι := Nat × Int × List Int × Option Addr × Nat) ⟨fun z => fixF (M_s_GridNew_L1 x0 x1 j33) z.1 (z.2.1, z.2.2.1) = some r, fun z => [(0, .v (.int .i64 x0)), (1, .v (.int .i64 x1)), (4, .bp 1 0), (6, .bp 2 0), (7, .v (.int .i64 z.2.1))], fun z => (.new 1 26 (cl26 (0, 0, [], 0, 0, false) none 0) (.new 2 26 (cl26 (x0, x1, z.2.2.1, 0, 0, false) z.2.2.2.1 z.2.2.2.2) .nil)), fun z => [], fun z => [⟨(.int .i64), ⟨z.2.2.2.1, z.2.2.1.length, z.2.2.2.2⟩, z.2.2.1⟩], fun z => z.1⟩ (FUEL, 0, ([] : List Int), none, 0) h ⟨rfl, rfl, rfl, rfl, rfl, trivial⟩ ⟨rfl, rfl, rfl, rfl, rfl, rfl, rfl, rfl, trivial⟩ [] rfl [0] rfl ?_)
      rintro ⟨n28, x4, x15, a16, c17⟩ h
      obtain ⟨n28, rfl, h⟩ := fixF_some h
      rw [M_s_GridNew_L1] at h
      refine JS.seq (JS.seq (JS.region (JO.reg ttOk 5 [(W (x0 * x1))] [] [(36, .v (.bool (decide (x4 < (W (x0 * x1))))))] _ rfl ⟨⟨trivial, rfl⟩, ⟨rfl, trivial⟩, rfl⟩ (JO.done rfl ?_))))
      refine JS.cond rfl (fun ht38 => ?_) (fun ht38 => ?_)
      · have h := condT h ht38
        refine JS.skip (JS.seq (JS.block (JS.region (JO.reg ttOk 2 [] [] [(40, .v (.slice a16 x15.length c17))] _ rfl ⟨⟨rfl, trivial⟩, rfl⟩ ?_))))
        refine JO.ofK rfl (JK.buildSlice ttOk rfl rfl rfl rfl rfl rfl rfl rfl rfl rfl rfl [] rfl (.int .i64) [32] ⟨rfl, rfl⟩ rfl rfl fun a21 => JO.toK ?_)
        obtain ⟨g22, h⟩ := guardO_some h
        refine JO.appendR' ttOk rfl rfl rfl rfl ⟨rfl, rfl, rfl, rfl, trivial, rfl, rfl, rfl, rfl⟩ rfl rfl rfl [1] rfl 0 rfl g22 rfl fun a23 c24 => JO.regB ttOk 2 [] [] [] (.new 1 26 (cl26 (0, 0, [], 0, 0, false) none 0) (.new 2 26 (cl26 (x0, x1, (x15 ++ ([32] : List Int)), 0, 0, false) a23 c24) .nil)) rfl ⟨trivial, ⟨rfl, rfl, rfl, rfl, rfl, rfl, rfl, rfl, trivial⟩⟩ (JO.done rfl (JS.endB (JS.region (JO.reg ttOk 3 [(W (x4 + 1))] [] [(7, .v (.int .i64 (W (x4 + 1))))] _ rfl ⟨⟨trivial, rfl⟩, ⟨rfl, trivial⟩, rfl⟩ (JO.done rfl (JS.endL (n28, (W (x4 + 1)), (x15 ++ ([32] : List Int)), a23, c24) h (Nat.lt_succ_self _) ⟨rfl, rfl, rfl, rfl, rfl, trivial⟩ ⟨rfl, rfl, rfl, rfl, rfl, rfl, rfl, rfl, trivial⟩ [] rfl [0] rfl))))))
      have h := condF h ht38
      refine JS.exit rfl (JS.endJ (x15, a16, c17) h ⟨rfl, rfl, trivial⟩ ⟨rfl, rfl, rfl, rfl, rfl, rfl, rfl, rfl, trivial⟩ [] rfl [0] rfl)
    rintro ⟨x30, a31, c32⟩ h
    subst hj39
    refine JS.seq (JS.region (JO.regB ttOk 3 [] [] [(5, .v (.bool true))] (.new 1 26 (cl26 (x0, x1, x30, 0, 0, false) a31 c32) .nil) rfl ⟨⟨rfl, trivial⟩, ⟨rfl, rfl, rfl, rfl, trivial⟩⟩ (JO.done rfl ?_)))
    cases h
    exact JS.ret ttOk (a31, c32) trivial rfl rfl [0] rfl

def M_s_l08Sized (x0 : List UInt8 × Int × Int) : Option ((Int × Int × List Int × Int × Int × Bool) × List UInt8 × Int × Int) :=
  (bindO (M_s_l01Below x0 9) fun (y7, y8) =>
  (bindO (M_s_l01Below (x0.1, y8.2.1, y8.2.2) 4) fun (y10, y11) =>
  (bindO (M_s_GridNew (W (2 + y7)) (W (1 + y10))) fun (y13, y14) =>
  some (y13, (x0.1, y11.2.1, y11.2.2)))))

theorem ok_s_l08Sized (x0 : List UInt8 × Int × Int) (a2 : Option Addr) (a3 : Option Addr) (c4 : Nat) (l5 : Nat) (hl6 : x0.1.length = l5) (r : (Int × Int × List Int × Int × Int × Bool) × List UInt8 × Int × Int) (h : M_s_l08Sized x0 = some r) :
    FX Try.prog 86 [.pointer a2] [⟨.byte, ⟨a3, l5, c4⟩, x0.1⟩] [⟨(.pair .val (.pair (.int .i64) (.int .i64))), ⟨a2, 1, 1⟩, [((Sl.v ⟨a3, l5, c4⟩), x0.2.1, x0.2.2)]⟩] (fun _ : Option Addr × Nat => True) (fun q => .agg (cl26 r.1 q.1 q.2).toArray) (fun q => [⟨(.pair .val (.pair (.int .i64) (.int .i64))), ⟨a2, 1, 1⟩, [((Sl.v ⟨a3, l5, c4⟩), r.2.2.1, r.2.2.2)]⟩, ⟨(.int .i64), ⟨q.1, r.1.2.2.1.length, q.2⟩, r.1.2.2.1⟩]) :=
  by
    subst hl6
    refine FX.of (T := TTx) Try.call86 Try.func86 rfl rfl fun w0 L0 => ?_
    unfold M_s_l08Sized at h
    refine JS.ptr 0 a2 rfl ?_
    refine JS.seq (JS.region (JO.regB ttOk 1 [] [3] [(2, .bp 3 0)] (.new 3 26 (cl26 (0, 0, [], 0, 0, false) none 0) .nil) rfl ⟨⟨rfl, trivial⟩, ⟨rfl, rfl, rfl, rfl, trivial⟩⟩ (JO.done rfl (JS.seq (JS.region (JO.reg ttOk 1 [] [] [(6, .ep ⟨a2, 1, 1⟩ 0)] _ rfl ⟨⟨rfl, trivial⟩, rfl⟩ ?_))))))
    obtain ⟨⟨y7, y8⟩, hy9, h⟩ := bindO_some h
    refine JO.callX rfl rfl rfl rfl (ok_s_l01Below x0 9 a2 a3 c4 x0.1.length rfl _ hy9) rfl [0] rfl [0] rfl rfl fun _ _ => JO.reg ttOk 2 [(W (2 + y7))] [] [(8, .v (.int .i64 (W (2 + y7)))), (9, .ep ⟨a2, 1, 1⟩ 0)] _ rfl ⟨⟨trivial, rfl⟩, ⟨rfl, rfl, trivial⟩, rfl⟩ ?_
    obtain ⟨⟨y10, y11⟩, hy12, h⟩ := bindO_some h
    refine JO.callX rfl rfl rfl rfl (ok_s_l01Below (x0.1, y8.2.1, y8.2.2) 4 a2 a3 c4 x0.1.length rfl _ hy12) rfl [0] rfl [0] rfl rfl fun _ _ => JO.reg ttOk 1 [(W (1 + y10))] [] [(11, .v (.int .i64 (W (1 + y10))))] _ rfl ⟨⟨trivial, rfl⟩, ⟨rfl, trivial⟩, rfl⟩ ?_
    obtain ⟨⟨y13, y14⟩, hy15, h⟩ := bindO_some h
    refine JO.call rfl rfl rfl rfl (ok_s_GridNew (W (2 + y7)) (W (1 + y10)) _ hy15) rfl [] rfl rfl ?_
    rintro ⟨a16, c17⟩ -
    refine JO.regB ttOk 6 [] [16] [(3, .bp 16 0)] (.new 3 26 (cl26 (0, 0, [], 0, 0, false) none 0) (.new 16 26 (cl26 y13 a16 c17) .nil)) rfl ⟨⟨rfl, trivial⟩, ⟨rfl, rfl, rfl, rfl, rfl, rfl, rfl, rfl, trivial⟩⟩ (JO.done rfl (JS.seq (JS.region (JO.regB ttOk 2 [] [] [] (.new 3 26 (cl26 y13 a16 c17) .nil) rfl ⟨trivial, ⟨rfl, rfl, rfl, rfl, trivial⟩⟩ (JO.done rfl ?_)))))
    cases h
    exact JS.retX ttOk (a16, c17) trivial rfl rfl [1, 0] rfl

def M_s_l02Rune (x0 : List UInt8 × Int × Int) : Option (Int × List UInt8 × Int × Int) :=
  (bindO (M_s_l01Below x0 12) fun (y7, y8) =>
  (bif (decide (y7 < 9)) then
  (bindO (M_s_l01Below (x0.1, y8.2.1, y8.2.2) 16) fun (y11, y12) =>
  (guardO (0 ≤ y11 ∧ y11 < (([97, 98, 99, 120, 49, 50, 32, 32, 46, 45, 95, 233, 4352, 20013, 128512, 47] : List Int).length : Int)) <|
  some ((at' ([97, 98, 99, 120, 49, 50, 32, 32, 46, 45, 95, 233, 4352, 20013, 128512, 47] : List Int) y11), (x0.1, y12.2.1, y12.2.2))))
  else
  (bif (decide (y7 = 9)) then
  (bindO (M_s_l01Below (x0.1, y8.2.1, y8.2.2) 94) fun (y16, y17) =>
  some ((W (33 + y16)), (x0.1, y17.2.1, y17.2.2)))
  else
  (bif (decide (y7 = 10)) then
  (bindO (M_s_l01Below (x0.1, y8.2.1, y8.2.2) 300) fun (y19, y20) =>
  some ((W (160 + y19)), (x0.1, y20.2.1, y20.2.2)))
  else
  (bindO (M_s_l01Below (x0.1, y8.2.1, y8.2.2) 2000) fun (y22, y23) =>
  some ((W (19968 + y22)), (x0.1, y23.2.1, y23.2.2)))))))

theorem ok_s_l02Rune (x0 : List UInt8 × Int × Int) (a2 : Option Addr) (a3 : Option Addr) (c4 : Nat) (l5 : Nat) (hl6 : x0.1.length = l5) (r : Int × List UInt8 × Int × Int) (h : M_s_l02Rune x0 = some r) :
    FX Try.prog 62 [.pointer a2] [⟨.byte, ⟨a3, l5, c4⟩, x0.1⟩] [⟨(.pair .val (.pair (.int .i64) (.int .i64))), ⟨a2, 1, 1⟩, [((Sl.v ⟨a3, l5, c4⟩), x0.2.1, x0.2.2)]⟩] (fun _ : Unit => True) (fun _ => .int .i64 r.1) (fun _ => [⟨(.pair .val (.pair (.int .i64) (.int .i64))), ⟨a2, 1, 1⟩, [((Sl.v ⟨a3, l5, c4⟩), r.2.2.1, r.2.2.2)]⟩]) :=
  by
    subst hl6
    refine FX.of (T := TTx) Try.call62 Try.func62 rfl rfl fun w0 L0 => ?_
    unfold M_s_l02Rune at h
    refine JS.ptr 0 a2 rfl ?_
    refine JS.seq (JS.region (JO.reg ttOk 1 [] [] [] _ rfl ⟨trivial, rfl⟩ (JO.done rfl (JS.seq (JS.region (JO.reg ttOk 1 [] [] [(4, .ep ⟨a2, 1, 1⟩ 0)] _ rfl ⟨⟨rfl, trivial⟩, rfl⟩ ?_))))))
    obtain ⟨⟨y7, y8⟩, hy9, h⟩ := bindO_some h
    refine JO.callX rfl rfl rfl rfl (ok_s_l01Below x0 12 a2 a3 c4 x0.1.length rfl _ hy9) rfl [0] rfl [0] rfl rfl fun _ _ => JO.reg ttOk 1 [] [] [(3, .v (.int .i64 y7))] _ rfl ⟨⟨rfl, trivial⟩, rfl⟩ (JO.done rfl (JS.seq (JS.seq (JS.region (JO.reg ttOk 2 [] [] [(7, .v (.bool (decide (y7 < 9))))] _ rfl ⟨⟨rfl, trivial⟩, rfl⟩ (JO.done rfl ?_))))))
    refine JS.cond rfl (fun ht31 => ?_) (fun ht31 => ?_)
    · have h := condT h ht31
      refine JS.seq (JS.region ?_)
      refine JO.ofK rfl (JK.buildSlice ttOk rfl rfl rfl rfl rfl rfl rfl rfl rfl rfl rfl [] rfl (.int .i64) [97, 98, 99, 120, 49, 50, 32, 32, 46, 45, 95, 233, 4352, 20013, 128512, 47] ⟨rfl, rfl⟩ rfl rfl fun a10 => JO.toK ?_)
      refine JO.reg ttOk 1 [] [] [(9, .ep ⟨a2, 1, 1⟩ 0)] _ rfl ⟨⟨rfl, trivial⟩, rfl⟩ ?_
      obtain ⟨⟨y11, y12⟩, hy13, h⟩ := bindO_some h
      refine JO.callX rfl rfl rfl rfl (ok_s_l01Below (x0.1, y8.2.1, y8.2.2) 16 a2 a3 c4 x0.1.length rfl _ hy13) rfl [1] rfl [0] rfl rfl fun _ _ => JO.know 2 rfl fun hs28 => ?_
      obtain ⟨g15, h⟩ := guardO_some h
      refine JO.reg ttOk 1 [] [] [(11, .ep ⟨a10, ([97, 98, 99, 120, 49, 50, 32, 32, 46, 45, 95, 233, 4352, 20013, 128512, 47] : List Int).length, ([97, 98, 99, 120, 49, 50, 32, 32, 46, 45, 95, 233, 4352, 20013, 128512, 47] : List Int).length⟩ (Int.toNat y11 * 1))] _ rfl ⟨hs28.ix g15, ⟨rfl, trivial⟩, rfl⟩ (JO.load ttOk rfl rfl rfl rfl rfl rfl rfl 2 rfl rfl (Int.toNat y11) 0 (at' ([97, 98, 99, 120, 49, 50, 32, 32, 46, 45, 95, 233, 4352, 20013, 128512, 47] : List Int) y11) ⟨at_some g15, rfl⟩ rfl rfl (JO.reg ttOk 1 [] [] [(2, .v (.int .i64 (at' ([97, 98, 99, 120, 49, 50, 32, 32, 46, 45, 95, 233, 4352, 20013, 128512, 47] : List Int) y11)))] _ rfl ⟨⟨rfl, trivial⟩, rfl⟩ (JO.done rfl ?_)))
      cases h
      exact JS.retX ttOk () trivial rfl rfl [0] rfl
    have h := condF h ht31
    refine JS.skip (JS.seq (JS.seq (JS.region (JO.reg ttOk 2 [] [] [(14, .v (.bool (decide (y7 = 9))))] _ rfl ⟨⟨rfl, trivial⟩, rfl⟩ (JO.done rfl ?_)))))
    refine JS.cond rfl (fun ht30 => ?_) (fun ht30 => ?_)
    · have h := condT h ht30
      refine JS.seq (JS.region (JO.reg ttOk 1 [] [] [(15, .ep ⟨a2, 1, 1⟩ 0)] _ rfl ⟨⟨rfl, trivial⟩, rfl⟩ ?_))
      obtain ⟨⟨y16, y17⟩, hy18, h⟩ := bindO_some h
      refine JO.callX rfl rfl rfl rfl (ok_s_l01Below (x0.1, y8.2.1, y8.2.2) 94 a2 a3 c4 x0.1.length rfl _ hy18) rfl [0] rfl [0] rfl rfl fun _ _ => JO.reg ttOk 2 [(W (33 + y16))] [] [(2, .v (.int .i64 (W (33 + y16))))] _ rfl ⟨⟨trivial, rfl⟩, ⟨rfl, trivial⟩, rfl⟩ (JO.done rfl ?_)
      cases h
      exact JS.retX ttOk () trivial rfl rfl [0] rfl
    have h := condF h ht30
    refine JS.skip (JS.seq (JS.seq (JS.region (JO.reg ttOk 2 [] [] [(19, .v (.bool (decide (y7 = 10))))] _ rfl ⟨⟨rfl, trivial⟩, rfl⟩ (JO.done rfl ?_)))))
    refine JS.cond rfl (fun ht29 => ?_) (fun ht29 => ?_)
    · have h := condT h ht29
      refine JS.seq (JS.region (JO.reg ttOk 1 [] [] [(20, .ep ⟨a2, 1, 1⟩ 0)] _ rfl ⟨⟨rfl, trivial⟩, rfl⟩ ?_))
      obtain ⟨⟨y19, y20⟩, hy21, h⟩ := bindO_some h
      refine JO.callX rfl rfl rfl rfl (ok_s_l01Below (x0.1, y8.2.1, y8.2.2) 300 a2 a3 c4 x0.1.length rfl _ hy21) rfl [0] rfl [0] rfl rfl fun _ _ => JO.reg ttOk 2 [(W (160 + y19))] [] [(2, .v (.int .i64 (W (160 + y19))))] _ rfl ⟨⟨trivial, rfl⟩, ⟨rfl, trivial⟩, rfl⟩ (JO.done rfl ?_)
      cases h
      exact JS.retX ttOk () trivial rfl rfl [0] rfl
    have h := condF h ht29
    refine JS.skip (JS.seq (JS.region (JO.reg ttOk 1 [] [] [(23, .ep ⟨a2, 1, 1⟩ 0)] _ rfl ⟨⟨rfl, trivial⟩, rfl⟩ ?_)))
    obtain ⟨⟨y22, y23⟩, hy24, h⟩ := bindO_some h
    refine JO.callX rfl rfl rfl rfl (ok_s_l01Below (x0.1, y8.2.1, y8.2.2) 2000 a2 a3 c4 x0.1.length rfl _ hy24) rfl [0] rfl [0] rfl rfl fun _ _ => JO.reg ttOk 2 [(W (19968 + y22))] [] [(2, .v (.int .i64 (W (19968 + y22))))] _ rfl ⟨⟨trivial, rfl⟩, ⟨rfl, trivial⟩, rfl⟩ (JO.done rfl ?_)
    cases h
    exact JS.retX ttOk () trivial rfl rfl [0] rfl

def M_s_RuneOk (x0 : Int) : Option Bool :=
  some (bif (bif (decide (0 ≤ x0)) then (decide (x0 ≤ 1114111)) else false) then (bif (decide (x0 < 55296)) then true else (decide (57343 < x0))) else false)

theorem ok_s_RuneOk (x0 : Int) (r : Bool) (h : M_s_RuneOk x0 = some r) :
    FC Try.prog 96 [.int .i64 x0] [] (fun _ : Unit => True) (fun _ => .bool r) (fun _ => []) :=
  by
    refine FC.of (T := TTx) Try.call96 Try.func96 rfl rfl fun w0 => ?_
    unfold M_s_RuneOk at h
    refine JS.seq (JS.region (JO.reg ttOk 1 [] [] [] _ rfl ⟨trivial, rfl⟩ (JO.done rfl (JS.seq (JS.region (JO.reg ttOk 15 [] [] [(2, .v (.bool (bif (bif (decide (0 ≤ x0)) then (decide (x0 ≤ 1114111)) else false) then (bif (decide (x0 < 55296)) then true else (decide (57343 < x0))) else false)))] _ rfl ⟨⟨rfl, trivial⟩, rfl⟩ (JO.done rfl ?_)))))))
    cases h
    exact JS.ret ttOk () trivial rfl rfl [] rfl

def M_s_Printable (x0 : Int) : Option Bool :=
  (bindO (M_s_RuneOk x0) fun (y2 : Bool) =>
  some (bif (bif y2 then (decide (32 ≤ x0)) else false) then (bif (decide (x0 < 127)) then true else (decide (159 < x0))) else false))

theorem ok_s_Printable (x0 : Int) (r : Bool) (h : M_s_Printable x0 = some r) :
    FC Try.prog 82 [.int .i64 x0] [] (fun _ : Unit => True) (fun _ => .bool r) (fun _ => []) :=
  by
    refine FC.of (T := TTx) Try.call82 Try.func82 rfl rfl fun w0 => ?_
    unfold M_s_Printable at h
    refine JS.seq (JS.region (JO.reg ttOk 1 [] [] [] _ rfl ⟨trivial, rfl⟩ (JO.done rfl (JS.seq (JS.region (JO.reg ttOk 1 [] [] [(3, .v (.int .i64 x0))] _ rfl ⟨⟨rfl, trivial⟩, rfl⟩ ?_))))))
    obtain ⟨y2, hy3, h⟩ := bindO_some h
    refine JO.call rfl rfl rfl rfl (ok_s_RuneOk x0 _ hy3) rfl [] rfl rfl fun _ _ => JO.reg ttOk 13 [] [] [(2, .v (.bool (bif (bif y2 then (decide (32 ≤ x0)) else false) then (bif (decide (x0 < 127)) then true else (decide (159 < x0))) else false)))] _ rfl ⟨⟨rfl, trivial⟩, rfl⟩ (JO.done rfl ?_)
    cases h
    exact JS.ret ttOk () trivial rfl rfl [] rfl

def M_s_l02Wide : Option (List Int) :=
  some ([4352, 4447, 11904, 42191, 44032, 55203, 63744, 64255, 65280, 65376, 65504, 65510, 127744, 129791, 131072, 262141] : List Int)

theorem ok_s_l02Wide (r : List Int) (h : M_s_l02Wide = some r) :
    FC Try.prog 83 [] [] (fun _ : Option Addr × Nat => True) (fun q => .slice q.1 r.length q.2) (fun q => [⟨(.int .i64), ⟨q.1, r.length, q.2⟩, r⟩]) :=
  by
    refine FC.of (T := TTx) Try.call83 Try.func83 rfl rfl fun w0 => ?_
    unfold M_s_l02Wide at h
    refine JS.seq (JS.region (JO.reg ttOk 1 [] [] [] _ rfl ⟨trivial, rfl⟩ (JO.done rfl (JS.seq (JS.region ?_)))))
    refine JO.ofK rfl (JK.buildSlice ttOk rfl rfl rfl rfl rfl rfl rfl rfl rfl rfl rfl [] rfl (.int .i64) [4352, 4447, 11904, 42191, 44032, 55203, 63744, 64255, 65280, 65376, 65504, 65510, 127744, 129791, 131072, 262141] ⟨rfl, rfl⟩ rfl rfl fun a1 => JO.toK ?_)
    refine JO.reg ttOk 1 [] [] [(0, .v (.slice a1 ([4352, 4447, 11904, 42191, 44032, 55203, 63744, 64255, 65280, 65376, 65504, 65510, 127744, 129791, 131072, 262141] : List Int).length ([4352, 4447, 11904, 42191, 44032, 55203, 63744, 64255, 65280, 65376, 65504, 65510, 127744, 129791, 131072, 262141] : List Int).length))] _ rfl ⟨⟨rfl, trivial⟩, rfl⟩ (JO.done rfl ?_)
    cases h
    exact JS.ret ttOk (a1, ([4352, 4447, 11904, 42191, 44032, 55203, 63744, 64255, 65280, 65376, 65504, 65510, 127744, 129791, 131072, 262141] : List Int).length) trivial rfl rfl [0] rfl

def M_s_Width_L1 (x0 : Int) (y4 : List Int) (j34 : Unit → Option Int) (k26 : Int → Option Int) : Int → Option Int := fun x11 =>
  (bif (decide (x11 < (y4.length : Int))) then
  (guardO (0 ≤ x11 ∧ x11 < (y4.length : Int)) <|
  (guardO (((decide ((at' y4 x11) ≤ x0)) = true) → 0 ≤ (W (x11 + 1)) ∧ (W (x11 + 1)) < (y4.length : Int)) <|
  (bif (bif (decide ((at' y4 x11) ≤ x0)) then (decide (x0 ≤ (at' y4 (W (x11 + 1))))) else false) then
  some 2
  else
  k26 (W (x11 + 2)))))
  else
  j34 ())

def M_s_Width (x0 : Int) : Option Int :=
  (bindO (M_s_Printable x0) fun (y2 : Bool) =>
  (bif (!y2) then
  some 0
  else
  (bindO (M_s_l02Wide ) fun (y4 : List Int) =>
  (joinO (fun (_ : Unit) =>
  some 1) fun j34 =>
  (fixF (M_s_Width_L1 x0 y4 j34) FUEL 0)))))

theorem ok_s_Width (x0 : Int) (r : Int) (h : M_s_Width x0 = some r) :
    FC Try.prog 46 [.int .i64 x0] [] (fun _ : Unit => True) (fun _ => .int .i64 r) (fun _ => []) :=
  by
    refine FC.of (T := TTx) Try.call46 Try.func46 rfl rfl fun w0 => ?_
    unfold M_s_Width at h
    refine JS.seq (JS.region (JO.reg ttOk 1 [] [] [] _ rfl ⟨trivial, rfl⟩ (JO.done rfl (JS.seq (JS.seq (JS.region (JO.reg ttOk 1 [] [] [(5, .v (.int .i64 x0))] _ rfl ⟨⟨rfl, trivial⟩, rfl⟩ ?_)))))))
    obtain ⟨y2, hy3, h⟩ := bindO_some h
    refine JO.call rfl rfl rfl rfl (ok_s_Printable x0 _ hy3) rfl [] rfl rfl fun _ _ => JO.reg ttOk 1 [] [] [(7, .v (.bool (!y2)))] _ rfl ⟨⟨rfl, trivial⟩, rfl⟩ (JO.done rfl ?_)
    refine JS.cond rfl (fun ht50 => ?_) (fun ht50 => ?_)
    · have h := condT h ht50
      refine JS.seq (JS.region (JO.reg ttOk 1 [] [] [(2, .v (.int .i64 0))] _ rfl ⟨⟨rfl, trivial⟩, rfl⟩ (JO.done rfl ?_)))
      cases h
      exact JS.ret ttOk () trivial rfl rfl [] rfl
    have h := condF h ht50
    refine JS.skip (JS.seq (JS.region ?_))
    obtain ⟨y4, hy5, h⟩ := bindO_some h
    refine JO.call rfl rfl rfl rfl (ok_s_l02Wide  _ hy5) rfl [] rfl rfl ?_
    rintro ⟨a6, c7⟩ -
    refine JO.reg ttOk 1 [] [] [(3, .v (.slice a6 y4.length c7))] _ rfl ⟨⟨rfl, trivial⟩, rfl⟩ (JO.done rfl (JS.seq (JS.seq (JS.region (JO.reg ttOk 1 [] [] [(4, .v (.int .i64 0))] _ rfl ⟨⟨rfl, trivial⟩, rfl⟩ (JO.done rfl ?_))))))
    obtain ⟨j34, hj49, h⟩ := joinO_some h
    refine JS.blockJ (ι := Unit) ⟨fun _ => j34 () = some r, fun _ => [], fun _ => .nil, fun _ => [], fun _ => [], fun _ => 0⟩ ?_ ?_
    · refine JS.loop (ι := Nat × Int) ⟨fun z => fixF (M_s_Width_L1 x0 y4 j34) z.1 z.2 = some r, fun z => [(0, .v (.int .i64 x0)), (3, .v (.slice a6 y4.length c7)), (4, .v (.int .i64 z.2))], fun z => .nil, fun z => [], fun z => [⟨(.int .i64), ⟨a6, y4.length, c7⟩, y4⟩], fun z => z.1⟩ (FUEL, 0) h ⟨rfl, rfl, rfl, trivial⟩ trivial [] rfl [0] rfl ?_
      rintro ⟨n27, x11⟩ h
      obtain ⟨n27, rfl, h⟩ := fixF_some h
      rw [M_s_Width_L1] at h
      refine JS.seq (JS.seq (JS.region (JO.reg ttOk 4 [] [] [(12, .v (.bool (decide (x11 < (y4.length : Int)))))] _ rfl ⟨⟨rfl, trivial⟩, rfl⟩ (JO.done rfl ?_))))
      refine JS.cond rfl (fun ht48 => ?_) (fun ht48 => ?_)
      · have h := condT h ht48
        refine JS.skip (JS.seq (JS.block (JS.seq (JS.region (JO.know 0 rfl fun hs43 => ?_)))))
        obtain ⟨g13, h⟩ := guardO_some h
        refine JO.reg ttOk 4 [] [] [(15, .v (.int .i64 x0)), (18, .ep ⟨a6, y4.length, c7⟩ (Int.toNat x11 * 1))] _ rfl ⟨hs43.ix g13, ⟨rfl, rfl, trivial⟩, rfl⟩ (JO.load ttOk rfl rfl rfl rfl rfl rfl rfl 0 rfl rfl (Int.toNat x11) 0 (at' y4 x11) ⟨at_some g13, rfl⟩ rfl rfl ?_)
        obtain ⟨g15, h⟩ := guardO_some h
        refine JO.reg ttOk 7 [(W (x11 + 1))] [] [(21, .v (.bool (decide ((at' y4 x11) ≤ x0)))), (22, .cd [(21, true)] (.v (.int .i64 x0))), (26, .cd [(21, true)] (.ep ⟨a6, y4.length, c7⟩ (Int.toNat (W (x11 + 1)) * 1)))] _ rfl ⟨(fun q44 => ⟨trivial, rfl⟩), (fun q45 => hs43.ix (g15 q45)), ⟨rfl, rfl, rfl, trivial⟩, rfl⟩ (JO.load ttOk rfl rfl rfl rfl rfl rfl rfl 0 rfl rfl (Int.toNat (W (x11 + 1))) 0 (at' y4 (W (x11 + 1))) (fun q46 => ⟨at_some (g15 q46), rfl⟩) rfl rfl (JO.reg ttOk 2 [] [] [(29, .v (.bool (bif (decide ((at' y4 x11) ≤ x0)) then (decide (x0 ≤ (at' y4 (W (x11 + 1))))) else false)))] _ rfl ⟨⟨rfl, trivial⟩, rfl⟩ (JO.done rfl ?_)))
        refine JS.cond rfl (fun ht47 => ?_) (fun ht47 => ?_)
        · have h := condT h ht47
          refine JS.seq (JS.region (JO.reg ttOk 1 [] [] [(2, .v (.int .i64 2))] _ rfl ⟨⟨rfl, trivial⟩, rfl⟩ (JO.done rfl ?_)))
          cases h
          exact JS.ret ttOk () trivial rfl rfl [] rfl
        have h := condF h ht47
        refine JS.skip (JS.endB (JS.region (JO.reg ttOk 3 [(W (x11 + 2))] [] [(4, .v (.int .i64 (W (x11 + 2))))] _ rfl ⟨⟨trivial, rfl⟩, ⟨rfl, trivial⟩, rfl⟩ (JO.done rfl (JS.endL (n27, (W (x11 + 2))) h (Nat.lt_succ_self _) ⟨rfl, rfl, rfl, trivial⟩ trivial [] rfl [0] rfl)))))
      have h := condF h ht48
      refine JS.exit rfl (JS.endJ () h trivial trivial [] rfl [] rfl)
    rintro _ h
    subst hj49
    refine JS.seq (JS.region (JO.reg ttOk 1 [] [] [(2, .v (.int .i64 1))] _ rfl ⟨⟨rfl, trivial⟩, rfl⟩ (JO.done rfl ?_)))
    cases h
    exact JS.ret ttOk () trivial rfl rfl [] rfl

def M_s_GridOk_L1 (x0 : Int × Int × List Int × Int × Int × Bool) (j124 : Unit → Option Bool) (k103 : Int → Option Bool) : Int → Option Bool := fun x8 =>
  (bif (decide (x8 < (x0.2.2.1.length : Int))) then
  (joinO (fun (_ : Unit) =>
  k103 (W (x8 + 1))) fun j45 =>
  (guardO (0 ≤ x8 ∧ x8 < (x0.2.2.1.length : Int)) <|
  (guardO (x0.1 ≠ 0) <|
  (bif (decide ((at' x0.2.2.1 x8) = (-1))) then
  (guardO (x0.1 ≠ 0) <|
  (guardO (((decide ((Int.tmod x8 x0.1) = 0)) = false) → 0 ≤ (W (x8 - 1)) ∧ (W (x8 - 1)) < (x0.2.2.1.length : Int)) <|
  (callO ((decide ((Int.tmod x8 x0.1) = 0)) = false) (M_s_Width (at' x0.2.2.1 (W (x8 - 1)))) (0 : Int) fun (y26 : Int) =>
  (bif (bif (decide ((Int.tmod x8 x0.1) = 0)) then true else (!(decide (y26 = 2)))) then
  some false
  else
  j45 ()))))
  else
  (bindO (M_s_Width (at' x0.2.2.1 x8)) fun (y30 : Int) =>
  (guardO (((decide ((Int.tmod x8 x0.1) = (W (x0.1 - 1)))) = false) → ((decide (y30 = 2)) = true) → ((decide (y30 = 0)) = false) → 0 ≤ (W (x8 + 1)) ∧ (W (x8 + 1)) < (x0.2.2.1.length : Int)) <|
  (bif (bif (decide (y30 = 0)) then true else (bif (decide (y30 = 2)) then (bif (decide ((Int.tmod x8 x0.1) = (W (x0.1 - 1)))) then true else (!(decide ((at' x0.2.2.1 (W (x8 + 1))) = (-1))))) else false)) then
  some false
  else
  j45 ())))))))
  else
  j124 ())

def M_s_GridOk (x0 : Int × Int × List Int × Int × Int × Bool) : Option Bool :=
  (bif (bif (bif (bif (bif (bif (decide (x0.1 < 2)) then true else (decide (200 < x0.1))) then true else (decide (x0.2.1 < 1))) then true else (decide (200 < x0.2.1))) then true else (decide (8000 < (W (x0.1 * x0.2.1))))) then true else (!(decide ((x0.2.2.1.length : Int) = (W (x0.1 * x0.2.1)))))) then
  some false
  else
  (joinO (fun (_ : Unit) =>
  some (bif (bif (bif (bif (decide (0 ≤ x0.2.2.2.1)) then (decide (x0.2.2.2.1 < x0.1)) else false) then (decide (0 ≤ x0.2.2.2.2.1)) else false) then (decide (x0.2.2.2.2.1 < x0.2.1)) else false) then (bif (!x0.2.2.2.2.2) then true else (decide (x0.2.2.2.1 = (W (x0.1 - 1))))) else false)) fun j124 =>
  (fixF (M_s_GridOk_L1 x0 j124) FUEL 0)))

theorem ok_s_GridOk (x0 : Int × Int × List Int × Int × Int × Bool) (a2 : Option Addr) (c3 : Nat) (l4 : Nat) (hl5 : x0.2.2.1.length = l4) (r : Bool) (h : M_s_GridOk x0 = some r) :
    FC Try.prog 45 [.agg #[.int .i64 x0.1, .int .i64 x0.2.1, .slice a2 l4 c3, .int .i64 x0.2.2.2.1, .int .i64 x0.2.2.2.2.1, .bool x0.2.2.2.2.2]] [⟨(.int .i64), ⟨a2, l4, c3⟩, x0.2.2.1⟩] (fun _ : Unit => True) (fun _ => .bool r) (fun _ => []) :=
  by
    subst hl5
    refine FC.of (T := TTx) Try.call45 Try.func45 rfl rfl fun w0 => ?_
    unfold M_s_GridOk at h
    refine JS.seq (JS.region (JO.regB ttOk 2 [] [2] [(1, .bp 2 0)] (.new 2 26 (cl26 x0 a2 c3) .nil) rfl ⟨⟨rfl, trivial⟩, ⟨rfl, rfl, rfl, rfl, trivial⟩⟩ (JO.done rfl (JS.seq (JS.seq (JS.region (JO.reg ttOk 37 [(W (x0.1 * x0.2.1)), (W (x0.1 * x0.2.1))] [] [(43, .v (.bool (bif (bif (bif (bif (bif (decide (x0.1 < 2)) then true else (decide (200 < x0.1))) then true else (decide (x0.2.1 < 1))) then true else (decide (200 < x0.2.1))) then true else (decide (8000 < (W (x0.1 * x0.2.1))))) then true else (!(decide ((x0.2.2.1.length : Int) = (W (x0.1 * x0.2.1))))))))] _ rfl ⟨(fun q148 => ⟨trivial, rfl⟩), (fun q149 => ⟨trivial, rfl⟩), ⟨rfl, trivial⟩, rfl⟩ (JO.done rfl ?_))))))))
    refine JS.cond rfl (fun ht172 => ?_) (fun ht172 => ?_)
    · have h := condT h ht172
      refine JS.seq (JS.region (JO.reg ttOk 1 [] [] [(2, .v (.bool false))] _ rfl ⟨⟨rfl, trivial⟩, rfl⟩ (JO.done rfl ?_)))
      cases h
      exact JS.ret ttOk () trivial rfl rfl [] rfl
    have h := condF h ht172
    refine JS.skip (JS.seq (JS.seq (JS.region (JO.reg ttOk 4 [] [] [(45, .v (.slice a2 x0.2.2.1.length c3)), (46, .v (.int .i64 (x0.2.2.1.length : Int))), (47, .v (.int .i64 0))] _ rfl ⟨⟨rfl, rfl, rfl, trivial⟩, rfl⟩ (JO.done rfl ?_)))))
    obtain ⟨j124, hj171, h⟩ := joinO_some h
    refine JS.blockJ (ι := Unit) ⟨fun _ => j124 () = some r, fun _ => [(1, .bp 2 0)], fun _ => (.new 2 26 (cl26 x0 a2 c3) .nil), fun _ => [⟨(.int .i64), ⟨a2, x0.2.2.1.length, c3⟩, x0.2.2.1⟩], fun _ => [], fun _ => 0⟩ ?_ ?_
    · refine JS.loop (ι := Nat × Int) ⟨fun z => fixF (M_s_GridOk_L1 x0 j124) z.1 z.2 = some r, fun z => [(1, .bp 2 0), (45, .v (.slice a2 x0.2.2.1.length c3)), (46, .v (.int .i64 (x0.2.2.1.length : Int))), (47, .v (.int .i64 z.2))], fun z => (.new 2 26 (cl26 x0 a2 c3) .nil), fun z => [⟨(.int .i64), ⟨a2, x0.2.2.1.length, c3⟩, x0.2.2.1⟩], fun z => [], fun z => z.1⟩ (FUEL, 0) h ⟨rfl, rfl, rfl, rfl, trivial⟩ ⟨rfl, rfl, rfl, rfl, trivial⟩ [0] rfl [] rfl ?_
      rintro ⟨n104, x8⟩ h
      obtain ⟨n104, rfl, h⟩ := fixF_some h
      rw [M_s_GridOk_L1] at h
      refine JS.seq (JS.region (JO.reg ttOk 1 [] [] [(48, .v (.bool (decide (x8 < (x0.2.2.1.length : Int)))))] _ rfl ⟨⟨rfl, trivial⟩, rfl⟩ (JO.done rfl (JS.seq ?_))))
      refine JS.cond rfl (fun ht168 => ?_) (fun ht168 => ?_)
      · have h := condT h ht168
        refine JS.skip (JS.seq ?_)
        obtain ⟨j45, hj167, h⟩ := joinO_some h
        refine JS.blockJ (ι := Unit) ⟨fun _ => j45 () = some r, fun _ => [(1, .bp 2 0), (45, .v (.slice a2 x0.2.2.1.length c3)), (46, .v (.int .i64 (x0.2.2.1.length : Int))), (47, .v (.int .i64 x8))], fun _ => (.new 2 26 (cl26 x0 a2 c3) .nil), fun _ => [⟨(.int .i64), ⟨a2, x0.2.2.1.length, c3⟩, x0.2.2.1⟩], fun _ => [], fun _ => 0⟩ ?_ ?_
        · refine JS.seq (JS.region (JO.know 0 rfl fun hs150 => ?_))
          obtain ⟨g18, h⟩ := guardO_some h
          refine JO.reg ttOk 2 [] [] [(49, .v (.int .i64 x8)), (50, .ep ⟨a2, x0.2.2.1.length, c3⟩ (Int.toNat x8 * 1))] _ rfl ⟨hs150.ix g18, ⟨rfl, rfl, trivial⟩, rfl⟩ (JO.load ttOk rfl rfl rfl rfl rfl rfl rfl 0 rfl rfl (Int.toNat x8) 0 (at' x0.2.2.1 x8) ⟨at_some g18, rfl⟩ rfl rfl (JO.reg ttOk 2 [] [] [(3, .v (.int .i64 x8)), (4, .v (.int .i64 (at' x0.2.2.1 x8)))] _ rfl ⟨⟨rfl, rfl, trivial⟩, rfl⟩ (JO.done rfl (JS.seq ?_))))
          obtain ⟨g19, h⟩ := guardO_some h
          refine JS.regionQ rfl (by kernel_rfl) (JQ.reg ttOk 9 [(W (x0.1 - 1))] [(5, .v (.bool (decide ((Int.tmod x8 x0.1) = (W (x0.1 - 1))))))] rfl ⟨g19, ⟨trivial, rfl⟩, ⟨rfl, trivial⟩⟩ (JQ.done rfl (JS.seq (JS.seq (JS.region (JO.reg ttOk 2 [] [] [(61, .v (.bool (decide ((at' x0.2.2.1 x8) = (-1)))))] _ rfl ⟨⟨rfl, trivial⟩, rfl⟩ (JO.done rfl ?_)))))))
          refine JS.cond rfl (fun ht166 => ?_) (fun ht166 => ?_)
          · have h := condT h ht166
            refine JS.seq (JS.seq (JS.region ?_))
            obtain ⟨g20, h⟩ := guardO_some h
            obtain ⟨g23, h⟩ := guardO_some h
            refine JO.reg ttOk 11 [(W (x8 - 1))] [] [(67, .v (.bool (decide ((Int.tmod x8 x0.1) = 0)))), (72, .cd [(67, false)] (.ep ⟨a2, x0.2.2.1.length, c3⟩ (Int.toNat (W (x8 - 1)) * 1)))] _ rfl ⟨g20, (fun q151 => ⟨trivial, rfl⟩), (fun q152 => hs150.ix (g23 q152)), ⟨rfl, rfl, trivial⟩, rfl⟩ (JO.load ttOk rfl rfl rfl rfl rfl rfl rfl 0 rfl rfl (Int.toNat (W (x8 - 1))) 0 (at' x0.2.2.1 (W (x8 - 1))) (fun q153 => ⟨at_some (g23 q153), rfl⟩) rfl rfl ?_)
            obtain ⟨y26, hy27, -, h⟩ := callO_some h
            refine JO.callg rfl rfl rfl rfl (fun q154 => ok_s_Width (at' x0.2.2.1 (W (x8 - 1))) _ (hy27 q154)) rfl [] rfl rfl (JO.reg ttOk 2 [] [] [(76, .v (.bool (bif (decide ((Int.tmod x8 x0.1) = 0)) then true else (!(decide (y26 = 2))))))] _ rfl ⟨⟨rfl, trivial⟩, rfl⟩ (JO.done rfl ?_))
            refine JS.cond rfl (fun ht155 => ?_) (fun ht155 => ?_)
            · have h := condT h ht155
              refine JS.seq (JS.region (JO.reg ttOk 1 [] [] [(2, .v (.bool false))] _ rfl ⟨⟨rfl, trivial⟩, rfl⟩ (JO.done rfl ?_)))
              cases h
              exact JS.ret ttOk () trivial rfl rfl [] rfl
            have h := condF h ht155
            refine JS.skip (JS.exit rfl (JS.endJ () h ⟨rfl, rfl, rfl, rfl, trivial⟩ ⟨rfl, rfl, rfl, rfl, trivial⟩ [0] rfl [] rfl))
          have h := condF h ht166
          refine JS.skip (JS.seq (JS.region (JO.reg ttOk 1 [] [] [(77, .v (.int .i64 (at' x0.2.2.1 x8)))] _ rfl ⟨⟨rfl, trivial⟩, rfl⟩ ?_)))
          obtain ⟨y30, hy31, h⟩ := bindO_some h
          refine JO.call rfl rfl rfl rfl (ok_s_Width (at' x0.2.2.1 x8) _ hy31) rfl [] rfl rfl fun _ _ => JO.reg ttOk 1 [] [] [(6, .v (.int .i64 y30))] _ rfl ⟨⟨rfl, trivial⟩, rfl⟩ (JO.done rfl (JS.seq (JS.region ?_)))
          obtain ⟨g36, h⟩ := guardO_some h
          refine JO.reg ttOk 13 [(W (x8 + 1))] [] [(81, .v (.bool (decide (y30 = 0)))), (84, .cd [(81, false)] (.v (.bool (decide (y30 = 2))))), (86, .cd [(84, true), (81, false)] (.v (.bool (decide ((Int.tmod x8 x0.1) = (W (x0.1 - 1))))))), (91, .cd [(86, false), (84, true), (81, false)] (.ep ⟨a2, x0.2.2.1.length, c3⟩ (Int.toNat (W (x8 + 1)) * 1)))] _ rfl ⟨(fun q156 q157 q158 => ⟨trivial, rfl⟩), (fun q159 q160 q161 => hs150.ix (g36 q159 q160 q161)), ⟨rfl, rfl, rfl, rfl, trivial⟩, rfl⟩ (JO.load ttOk rfl rfl rfl rfl rfl rfl rfl 0 rfl rfl (Int.toNat (W (x8 + 1))) 0 (at' x0.2.2.1 (W (x8 + 1))) (fun q162 q163 q164 => ⟨at_some (g36 q162 q163 q164), rfl⟩) rfl rfl (JO.reg ttOk 4 [] [] [(96, .v (.bool (bif (decide (y30 = 0)) then true else (bif (decide (y30 = 2)) then (bif (decide ((Int.tmod x8 x0.1) = (W (x0.1 - 1)))) then true else (!(decide ((at' x0.2.2.1 (W (x8 + 1))) = (-1))))) else false))))] _ rfl ⟨⟨rfl, trivial⟩, rfl⟩ (JO.done rfl ?_)))
          refine JS.cond rfl (fun ht165 => ?_) (fun ht165 => ?_)
          · have h := condT h ht165
            refine JS.seq (JS.region (JO.reg ttOk 1 [] [] [(2, .v (.bool false))] _ rfl ⟨⟨rfl, trivial⟩, rfl⟩ (JO.done rfl ?_)))
            cases h
            exact JS.ret ttOk () trivial rfl rfl [] rfl
          have h := condF h ht165
          refine JS.skip (JS.endB (JS.endJ () h ⟨rfl, rfl, rfl, rfl, trivial⟩ ⟨rfl, rfl, rfl, rfl, trivial⟩ [0] rfl [] rfl))
        rintro _ h
        subst hj167
        refine JS.region (JO.reg ttOk 2 [(W (x8 + 1))] [] [(47, .v (.int .i64 (W (x8 + 1))))] _ rfl ⟨⟨trivial, rfl⟩, ⟨rfl, trivial⟩, rfl⟩ (JO.done rfl (JS.endL (n104, (W (x8 + 1))) h (Nat.lt_succ_self _) ⟨rfl, rfl, rfl, rfl, trivial⟩ ⟨rfl, rfl, rfl, rfl, trivial⟩ [0] rfl [] rfl)))
      have h := condF h ht168
      refine JS.exit rfl (JS.endJ () h ⟨rfl, trivial⟩ ⟨rfl, rfl, rfl, rfl, trivial⟩ [0] rfl [] rfl)
    rintro _ h
    subst hj171
    refine JS.seq (JS.region (JO.reg ttOk 36 [(W (x0.1 - 1))] [] [(2, .v (.bool (bif (bif (bif (bif (decide (0 ≤ x0.2.2.2.1)) then (decide (x0.2.2.2.1 < x0.1)) else false) then (decide (0 ≤ x0.2.2.2.2.1)) else false) then (decide (x0.2.2.2.2.1 < x0.2.1)) else false) then (bif (!x0.2.2.2.2.2) then true else (decide (x0.2.2.2.1 = (W (x0.1 - 1))))) else false)))] _ rfl ⟨(fun q169 q170 => ⟨trivial, rfl⟩), ⟨rfl, trivial⟩, rfl⟩ (JO.done rfl ?_)))
    cases h
    exact JS.ret ttOk () trivial rfl rfl [] rfl

def M_s_l08Copy (x0 : Int × Int × List Int × Int × Int × Bool) : Option (Int × Int × List Int × Int × Int × Bool) :=
  (guardO (([] : List Int).length + x0.2.2.1.length ≤ 536870912) <|
  some (x0.1, x0.2.1, (([] : List Int) ++ x0.2.2.1), x0.2.2.2.1, x0.2.2.2.2.1, x0.2.2.2.2.2))

theorem ok_s_l08Copy (x0 : Int × Int × List Int × Int × Int × Bool) (a2 : Option Addr) (c3 : Nat) (l4 : Nat) (hl5 : x0.2.2.1.length = l4) (r : Int × Int × List Int × Int × Int × Bool) (h : M_s_l08Copy x0 = some r) :
    FC Try.prog 47 [.agg #[.int .i64 x0.1, .int .i64 x0.2.1, .slice a2 l4 c3, .int .i64 x0.2.2.2.1, .int .i64 x0.2.2.2.2.1, .bool x0.2.2.2.2.2]] [⟨(.int .i64), ⟨a2, l4, c3⟩, x0.2.2.1⟩] (fun _ : Option Addr × Nat => True) (fun q => .agg (cl26 r q.1 q.2).toArray) (fun q => [⟨(.int .i64), ⟨q.1, r.2.2.1.length, q.2⟩, r.2.2.1⟩]) :=
  by
    subst hl5
    refine FC.of (T := TTx) Try.call47 Try.func47 rfl rfl fun w0 => ?_
    unfold M_s_l08Copy at h
    refine JS.seq (JS.region (JO.regB ttOk 2 [] [2, 3] [(1, .bp 2 0), (2, .bp 3 0)] (.new 2 26 (cl26 x0 a2 c3) (.new 3 26 (cl26 (0, 0, [], 0, 0, false) none 0) .nil)) rfl ⟨⟨rfl, rfl, trivial⟩, ⟨rfl, rfl, rfl, rfl, rfl, rfl, rfl, rfl, trivial⟩⟩ (JO.done rfl (JS.seq (JS.region ?_)))))
    refine JO.ofK rfl (JK.buildSlice ttOk rfl rfl rfl rfl rfl rfl rfl rfl rfl rfl rfl [] rfl (.int .i64) [] ⟨rfl, rfl⟩ rfl rfl fun a6 => JO.toK ?_)
    refine JO.reg ttOk 2 [] [] [(5, .v (.slice a2 x0.2.2.1.length c3))] _ rfl ⟨⟨rfl, trivial⟩, rfl⟩ ?_
    obtain ⟨g7, h⟩ := guardO_some h
    refine JO.appendR' ttOk rfl rfl rfl rfl ⟨rfl, rfl, rfl, rfl, trivial, rfl, rfl, rfl, rfl⟩ rfl rfl rfl [0] rfl 0 rfl g7 rfl fun a8 c9 => JO.regB ttOk 2 [] [] [] (.new 2 26 (cl26 (x0.1, x0.2.1, (([] : List Int) ++ x0.2.2.1), x0.2.2.2.1, x0.2.2.2.2.1, x0.2.2.2.2.2) a8 c9) (.new 3 26 (cl26 (0, 0, [], 0, 0, false) none 0) .nil)) rfl ⟨trivial, ⟨rfl, rfl, rfl, rfl, rfl, rfl, rfl, rfl, trivial⟩⟩ (JO.done rfl (JS.seq (JS.region (JO.regB ttOk 2 [] [] [] (.new 3 26 (cl26 (x0.1, x0.2.1, (([] : List Int) ++ x0.2.2.1), x0.2.2.2.1, x0.2.2.2.2.1, x0.2.2.2.2.2) a8 c9) .nil) rfl ⟨trivial, ⟨rfl, rfl, rfl, rfl, trivial⟩⟩ (JO.done rfl ?_)))))
    cases h
    exact JS.ret ttOk (a8, c9) trivial rfl rfl [0] rfl

def M_s_GridScroll_L1 (x0 : Int × Int × List Int × Int × Int × Bool) (y8 : Int × Int × List Int × Int × Int × Bool) (j76 : (List Int) → Option (Int × Int × List Int × Int × Int × Bool)) (k65 : (Int × List Int) → Option (Int × Int × List Int × Int × Int × Bool)) : (Int × List Int) → Option (Int × Int × List Int × Int × Int × Bool) := fun (x12, x31) =>
  (bif (decide (x12 < (y8.2.2.1.length : Int))) then
  (joinO (fun (x45 : List Int) =>
  k65 ((W (x12 + 1)), x45)) fun j48 =>
  (guardO (0 ≤ x12 ∧ x12 < (x31.length : Int)) <|
  (bif (decide ((W (x12 + x0.1)) < (x0.2.2.1.length : Int))) then
  (guardO (0 ≤ (W (x12 + x0.1)) ∧ (W (x12 + x0.1)) < (x0.2.2.1.length : Int)) <|
  (guardO (0 ≤ x12 ∧ x12 < (x31.length : Int)) <|
  j48 (List.set (List.set x31 (Int.toNat x12) 32) (Int.toNat x12) (at' x0.2.2.1 (W (x12 + x0.1))))))
  else
  j48 (List.set x31 (Int.toNat x12) 32))))
  else
  j76 x31)

def M_s_GridScroll (x0 : Int × Int × List Int × Int × Int × Bool) : Option (Int × Int × List Int × Int × Int × Bool) :=
  (bindO (M_s_GridOk x0) fun (y6 : Bool) =>
  (bif (!y6) then
  some (0, 0, [], 0, 0, false)
  else
  (bindO (M_s_l08Copy x0) fun (y8 : Int × Int × List Int × Int × Int × Bool) =>
  (joinO (fun (x73 : List Int) =>
  some (y8.1, y8.2.1, x73, y8.2.2.2.1, y8.2.2.2.2.1, y8.2.2.2.2.2)) fun j76 =>
  (fixF (M_s_GridScroll_L1 x0 y8 j76) FUEL (0, y8.2.2.1))))))

theorem ok_s_GridScroll (x0 : Int × Int × List Int × Int × Int × Bool) (a2 : Option Addr) (c3 : Nat) (l4 : Nat) (hl5 : x0.2.2.1.length = l4) (r : Int × Int × List Int × Int × Int × Bool) (h : M_s_GridScroll x0 = some r) :
    FC Try.prog 48 [.agg #[.int .i64 x0.1, .int .i64 x0.2.1, .slice a2 l4 c3, .int .i64 x0.2.2.2.1, .int .i64 x0.2.2.2.2.1, .bool x0.2.2.2.2.2]] [⟨(.int .i64), ⟨a2, l4, c3⟩, x0.2.2.1⟩] (fun _ : Option Addr × Nat => True) (fun q => .agg (cl26 r q.1 q.2).toArray) (fun q => [⟨(.int .i64), ⟨q.1, r.2.2.1.length, q.2⟩, r.2.2.1⟩]) :=
  by
    subst hl5
    refine FC.of (T := TTx) Try.call48 Try.func48 rfl rfl fun w0 => ?_
    unfold M_s_GridScroll at h
    refine JS.seq (JS.region (JO.regB ttOk 2 [] [2, 3] [(1, .bp 2 0), (2, .bp 3 0)] (.new 2 26 (cl26 x0 a2 c3) (.new 3 26 (cl26 (0, 0, [], 0, 0, false) none 0) .nil)) rfl ⟨⟨rfl, rfl, trivial⟩, ⟨rfl, rfl, rfl, rfl, rfl, rfl, rfl, rfl, trivial⟩⟩ (JO.done rfl (JS.seq (JS.seq (JS.region (JO.reg ttOk 1 [] [] [(5, .v (.agg (cl26 x0 a2 c3).toArray))] _ rfl ⟨⟨rfl, trivial⟩, rfl⟩ ?_)))))))
    obtain ⟨y6, hy7, h⟩ := bindO_some h
    refine JO.call rfl rfl rfl rfl (ok_s_GridOk x0 a2 c3 x0.2.2.1.length rfl _ hy7) rfl [0] rfl rfl fun _ _ => JO.reg ttOk 1 [] [] [(7, .v (.bool (!y6)))] _ rfl ⟨⟨rfl, trivial⟩, rfl⟩ (JO.done rfl ?_)
    refine JS.cond rfl (fun ht92 => ?_) (fun ht92 => ?_)
    · have h := condT h ht92
      refine JS.seq (JS.region (JO.regB ttOk 2 [] [] [] (.new 3 26 (cl26 (0, 0, [], 0, 0, false) none 0) .nil) rfl ⟨trivial, ⟨rfl, rfl, rfl, rfl, trivial⟩⟩ (JO.done rfl ?_)))
      cases h
      refine JS.nilO (.int .i64) Sl.nil rfl rfl (JS.ret ttOk (none, 0) trivial rfl rfl [0] rfl)
    have h := condF h ht92
    refine JS.skip (JS.seq (JS.region (JO.reg ttOk 1 [] [] [(9, .v (.agg (cl26 x0 a2 c3).toArray))] _ rfl ⟨⟨rfl, trivial⟩, rfl⟩ ?_)))
    obtain ⟨y8, hy9, h⟩ := bindO_some h
    refine JO.call rfl rfl rfl rfl (ok_s_l08Copy x0 a2 c3 x0.2.2.1.length rfl _ hy9) rfl [0] rfl rfl ?_
    rintro ⟨a10, c11⟩ -
    refine JO.regB ttOk 2 [] [11] [(3, .bp 11 0)] (.new 2 26 (cl26 x0 a2 c3) (.new 3 26 (cl26 (0, 0, [], 0, 0, false) none 0) (.new 11 26 (cl26 y8 a10 c11) .nil))) rfl ⟨⟨rfl, trivial⟩, ⟨rfl, rfl, rfl, rfl, rfl, rfl, rfl, rfl, rfl, rfl, rfl, rfl, trivial⟩⟩ (JO.done rfl (JS.seq (JS.seq (JS.region (JO.reg ttOk 4 [] [] [(13, .v (.int .i64 (y8.2.2.1.length : Int))), (14, .v (.int .i64 0))] _ rfl ⟨⟨rfl, rfl, trivial⟩, rfl⟩ (JO.done rfl ?_))))))
    obtain ⟨j76, hj91, h⟩ := joinO_some h
    refine JS.blockJ (ι := List Int × Option Addr × Nat) ⟨fun z => j76 z.1 = some r, fun z => [(2, .bp 3 0), (3, .bp 11 0)], fun z => (.new 3 26 (cl26 (0, 0, [], 0, 0, false) none 0) (.new 11 26 (cl26 (y8.1, y8.2.1, z.1, y8.2.2.2.1, y8.2.2.2.2.1, y8.2.2.2.2.2) z.2.1 z.2.2) .nil)), fun z => [], fun z => [⟨(.int .i64), ⟨z.2.1, z.1.length, z.2.2⟩, z.1⟩], fun z => 0⟩ ?_ ?_
    · refine JS.loop (ι := Nat × Int × List Int × Option Addr × Nat) ⟨fun z => fixF (M_s_GridScroll_L1 x0 y8 j76) z.1 (z.2.1, z.2.2.1) = some r, fun z => [(1, .bp 2 0), (2, .bp 3 0), (3, .bp 11 0), (13, .v (.int .i64 (y8.2.2.1.length : Int))), (14, .v (.int .i64 z.2.1))], fun z => (.new 2 26 (cl26 x0 a2 c3) (.new 3 26 (cl26 (0, 0, [], 0, 0, false) none 0) (.new 11 26 (cl26 (y8.1, y8.2.1, z.2.2.1, y8.2.2.2.1, y8.2.2.2.2.1, y8.2.2.2.2.2) z.2.2.2.1 z.2.2.2.2) .nil))), fun z => [⟨(.int .i64), ⟨a2, x0.2.2.1.length, c3⟩, x0.2.2.1⟩], fun z => [⟨(.int .i64), ⟨z.2.2.2.1, z.2.2.1.length, z.2.2.2.2⟩, z.2.2.1⟩], fun z => z.1⟩ (FUEL, 0, y8.2.2.1, a10, c11) h ⟨rfl, rfl, rfl, rfl, rfl, trivial⟩ ⟨rfl, rfl, rfl, rfl, rfl, rfl, rfl, rfl, rfl, rfl, rfl, rfl, trivial⟩ [0] rfl [0] rfl ?_
      rintro ⟨n66, x12, x31, a32, c33⟩ h
      obtain ⟨n66, rfl, h⟩ := fixF_some h
      rw [M_s_GridScroll_L1] at h
      refine JS.seq (JS.region (JO.reg ttOk 1 [] [] [(15, .v (.bool (decide (x12 < (y8.2.2.1.length : Int)))))] _ rfl ⟨⟨rfl, trivial⟩, rfl⟩ (JO.done rfl (JS.seq ?_))))
      refine JS.cond rfl (fun ht90 => ?_) (fun ht90 => ?_)
      · have h := condT h ht90
        refine JS.skip (JS.seq ?_)
        obtain ⟨j48, hj89, h⟩ := joinO_some h
        refine JS.blockJ (ι := List Int × Option Addr × Nat) ⟨fun z => j48 z.1 = some r, fun z => [(1, .bp 2 0), (2, .bp 3 0), (3, .bp 11 0), (13, .v (.int .i64 (y8.2.2.1.length : Int))), (14, .v (.int .i64 x12))], fun z => (.new 2 26 (cl26 x0 a2 c3) (.new 3 26 (cl26 (0, 0, [], 0, 0, false) none 0) (.new 11 26 (cl26 (y8.1, y8.2.1, z.1, y8.2.2.2.1, y8.2.2.2.2.1, y8.2.2.2.2.2) z.2.1 z.2.2) .nil))), fun z => [⟨(.int .i64), ⟨a2, x0.2.2.1.length, c3⟩, x0.2.2.1⟩], fun z => [⟨(.int .i64), ⟨z.2.1, z.1.length, z.2.2⟩, z.1⟩], fun z => 0⟩ ?_ ?_
        · refine JS.seq (JS.region (JO.reg ttOk 2 [] [] [(4, .v (.int .i64 x12))] _ rfl ⟨⟨rfl, trivial⟩, rfl⟩ (JO.done rfl (JS.seq (JS.region (JO.know 1 rfl fun hs85 => ?_))))))
          obtain ⟨g38, h⟩ := guardO_some h
          refine JO.reg ttOk 4 [] [] [(20, .ep ⟨a32, x31.length, c33⟩ (Int.toNat x12 * 1))] _ rfl ⟨hs85.ix g38, ⟨rfl, trivial⟩, rfl⟩ (JO.storeE ttOk rfl rfl rfl rfl rfl rfl rfl rfl rfl [0] (fs := []) rfl (Int.toNat x12) 0 (at' x31 x12) 32 ⟨at_some g38, rfl⟩ ⟨rfl, rfl, rfl⟩ (JO.done rfl (JS.seq (JS.region (JO.reg ttOk 8 [(W (x12 + x0.1))] [] [(28, .v (.bool (decide ((W (x12 + x0.1)) < (x0.2.2.1.length : Int)))))] _ rfl ⟨⟨trivial, rfl⟩, ⟨rfl, trivial⟩, rfl⟩ (JO.done rfl ?_))))))
          refine JS.cond rfl (fun ht88 => ?_) (fun ht88 => ?_)
          · have h := condT h ht88
            obtain ⟨g40, h⟩ := guardO_some h
            obtain ⟨g41, h⟩ := guardO_some h
            refine JS.know 0 rfl fun hs87 => ?_
            refine JS.regionA rfl (.new 2 26 (cl26 x0 a2 c3) (.new 11 26 (cl26 (y8.1, y8.2.1, x31, y8.2.2.2.1, y8.2.2.2.2.1, y8.2.2.2.2.2) a32 c33) .nil)) [0] [11, 12] ⟨rfl, rfl, rfl, rfl, rfl, rfl, rfl, rfl, trivial⟩ rfl (fun be43 => ?_)
            refine JA.reg ttOk panic_cx true 3 [0, 1, 2, 3, 4, 5, 6, 7, 8, 9] rfl (by kernel_rfl) [(W (x12 + x0.1))] [(30, .v (.slice a32 x31.length c33)), (31, .v (.int .i64 x12)), (38, .ep ⟨a2, x0.2.2.1.length, c3⟩ (Int.toNat (W (x12 + x0.1)) * 1))] ⟨rfl, rfl, rfl, rfl, rfl, rfl, rfl, rfl, trivial⟩ [0] rfl rfl ⟨⟨trivial, rfl⟩, hs87.ix g40, ⟨rfl, rfl, rfl, trivial⟩⟩ (JA.load ttOk panic_cx 10 rfl (by kernel_rfl) rfl rfl rfl rfl rfl rfl 0 rfl rfl (Int.toNat (W (x12 + x0.1))) 0 (at' x0.2.2.1 (W (x12 + x0.1))) ⟨at_some g40, rfl⟩ rfl rfl ⟨rfl, rfl, rfl, rfl, rfl, rfl, rfl, rfl, trivial⟩ [0] rfl (JA.regL ttOk panic_cx 1 [11] rfl (by kernel_rfl) [] [(40, .ep ⟨a32, x31.length, c33⟩ (Int.toNat x12 * 1))] rfl ⟨hs85.ix g41, ⟨rfl, trivial⟩⟩ (JA.one 12 (by kernel_rfl) (JK.storeE ttOk rfl rfl rfl rfl rfl rfl rfl rfl rfl [0] (fs := []) rfl (Int.toNat x12) 0 (at' (List.set x31 (Int.toNat x12) 32) x12) (at' x0.2.2.1 (W (x12 + x0.1))) ⟨at_someL (List.length_set.trans rfl) g41, rfl⟩ ⟨rfl, rfl, rfl⟩ (JA.nextL rfl (JA.done (by kernel_rfl) (JS.boxes (B' := (.new 2 26 (cl26 x0 a2 c3) (.new 3 26 (cl26 (0, 0, [], 0, 0, false) none 0) (.new 11 26 (cl26 (y8.1, y8.2.1, x31, y8.2.2.2.1, y8.2.2.2.2.1, y8.2.2.2.2.2) a32 c33) .nil)))) ⟨rfl, rfl, rfl, rfl, rfl, rfl, rfl, rfl, rfl, rfl, rfl, rfl, trivial⟩ (JS.endB (JS.endJ ((List.set (List.set x31 (Int.toNat x12) 32) (Int.toNat x12) (at' x0.2.2.1 (W (x12 + x0.1)))), a32, c33) h ⟨rfl, rfl, rfl, rfl, rfl, trivial⟩ ⟨rfl, rfl, rfl, rfl, rfl, rfl, rfl, rfl, rfl, (congrArg (fun n => ([.int .i64 y8.1, .int .i64 y8.2.1, .slice a32 n c33, .int .i64 y8.2.2.2.1, .int .i64 y8.2.2.2.2.1, .bool y8.2.2.2.2.2] : List Value)) (List.length_set.trans (List.length_set.trans rfl))), rfl, rfl, trivial⟩ [0] rfl [0] (by simp only [List.length_set, List.length_replicate, pickO, getF, cl26]; rfl))))))))))
          have h := condF h ht88
          refine JS.skip (JS.endB (JS.endJ ((List.set x31 (Int.toNat x12) 32), a32, c33) h ⟨rfl, rfl, rfl, rfl, rfl, trivial⟩ ⟨rfl, rfl, rfl, rfl, rfl, rfl, rfl, rfl, rfl, (congrArg (fun n => ([.int .i64 y8.1, .int .i64 y8.2.1, .slice a32 n c33, .int .i64 y8.2.2.2.1, .int .i64 y8.2.2.2.2.1, .bool y8.2.2.2.2.2] : List Value)) (List.length_set.trans rfl)), rfl, rfl, trivial⟩ [0] rfl [0] (by simp only [List.length_set, List.length_replicate, pickO, getF, cl26]; rfl)))
        rintro ⟨x45, a46, c47⟩ h
        subst hj89
        refine JS.region (JO.reg ttOk 2 [(W (x12 + 1))] [] [(14, .v (.int .i64 (W (x12 + 1))))] _ rfl ⟨⟨trivial, rfl⟩, ⟨rfl, trivial⟩, rfl⟩ (JO.done rfl (JS.endL (n66, (W (x12 + 1)), x45, a46, c47) h (Nat.lt_succ_self _) ⟨rfl, rfl, rfl, rfl, rfl, trivial⟩ ⟨rfl, rfl, rfl, rfl, rfl, rfl, rfl, rfl, rfl, rfl, rfl, rfl, trivial⟩ [0] rfl [0] rfl)))
      have h := condF h ht90
      refine JS.exit rfl (JS.endJ (x31, a32, c33) h ⟨rfl, rfl, trivial⟩ ⟨rfl, rfl, rfl, rfl, rfl, rfl, rfl, rfl, trivial⟩ [] rfl [0] rfl)
    rintro ⟨x73, a74, c75⟩ h
    subst hj91
    refine JS.seq (JS.region (JO.regB ttOk 2 [] [] [] (.new 3 26 (cl26 (y8.1, y8.2.1, x73, y8.2.2.2.1, y8.2.2.2.2.1, y8.2.2.2.2.2) a74 c75) .nil) rfl ⟨trivial, ⟨rfl, rfl, rfl, rfl, trivial⟩⟩ (JO.done rfl ?_)))
    cases h
    exact JS.ret ttOk (a74, c75) trivial rfl rfl [0] rfl

def M_s_l08Clamp (x0 : Int) (x1 : Int) : Option Int :=
  (bif (decide (x0 < 0)) then
  some 0
  else
  (bif (decide (x1 < x0)) then
  some x1
  else
  some x0))

theorem ok_s_l08Clamp (x0 : Int) (x1 : Int) (r : Int) (h : M_s_l08Clamp x0 x1 = some r) :
    FC Try.prog 84 [.int .i64 x0, .int .i64 x1] [] (fun _ : Unit => True) (fun _ => .int .i64 r) (fun _ => []) :=
  by
    refine FC.of (T := TTx) Try.call84 Try.func84 rfl rfl fun w0 => ?_
    unfold M_s_l08Clamp at h
    refine JS.seq (JS.region (JO.reg ttOk 1 [] [] [] _ rfl ⟨trivial, rfl⟩ (JO.done rfl (JS.seq (JS.seq (JS.region (JO.reg ttOk 2 [] [] [(6, .v (.bool (decide (x0 < 0))))] _ rfl ⟨⟨rfl, trivial⟩, rfl⟩ (JO.done rfl ?_))))))))
    refine JS.cond rfl (fun ht6 => ?_) (fun ht6 => ?_)
    · have h := condT h ht6
      refine JS.seq (JS.region (JO.reg ttOk 1 [] [] [(4, .v (.int .i64 0))] _ rfl ⟨⟨rfl, trivial⟩, rfl⟩ (JO.done rfl ?_)))
      cases h
      exact JS.ret ttOk () trivial rfl rfl [] rfl
    have h := condF h ht6
    refine JS.skip (JS.seq (JS.seq (JS.region (JO.reg ttOk 3 [] [] [(9, .v (.bool (decide (x1 < x0))))] _ rfl ⟨⟨rfl, trivial⟩, rfl⟩ (JO.done rfl ?_)))))
    refine JS.cond rfl (fun ht5 => ?_) (fun ht5 => ?_)
    · have h := condT h ht5
      refine JS.seq (JS.region (JO.reg ttOk 2 [] [] [(4, .v (.int .i64 x1))] _ rfl ⟨⟨rfl, trivial⟩, rfl⟩ (JO.done rfl ?_)))
      cases h
      exact JS.ret ttOk () trivial rfl rfl [] rfl
    have h := condF h ht5
    refine JS.skip (JS.seq (JS.region (JO.reg ttOk 2 [] [] [(4, .v (.int .i64 x0))] _ rfl ⟨⟨rfl, trivial⟩, rfl⟩ (JO.done rfl ?_))))
    cases h
    exact JS.ret ttOk () trivial rfl rfl [] rfl

def M_s_GridGo (x0 : Int × Int × List Int × Int × Int × Bool) (x1 : Int) (x2 : Int) : Option (Int × Int × List Int × Int × Int × Bool) :=
  (bindO (M_s_GridOk x0) fun (y8 : Bool) =>
  (bif (!y8) then
  some (0, 0, [], 0, 0, false)
  else
  (bindO (M_s_l08Copy x0) fun (y10 : Int × Int × List Int × Int × Int × Bool) =>
  (bindO (M_s_l08Clamp x1 (W (x0.1 - 1))) fun (y14 : Int) =>
  (bindO (M_s_l08Clamp x2 (W (x0.2.1 - 1))) fun (y16 : Int) =>
  some (y10.1, y10.2.1, y10.2.2.1, y14, y16, false))))))

theorem ok_s_GridGo (x0 : Int × Int × List Int × Int × Int × Bool) (x1 : Int) (x2 : Int) (a4 : Option Addr) (c5 : Nat) (l6 : Nat) (hl7 : x0.2.2.1.length = l6) (r : Int × Int × List Int × Int × Int × Bool) (h : M_s_GridGo x0 x1 x2 = some r) :
    FC Try.prog 49 [.agg #[.int .i64 x0.1, .int .i64 x0.2.1, .slice a4 l6 c5, .int .i64 x0.2.2.2.1, .int .i64 x0.2.2.2.2.1, .bool x0.2.2.2.2.2], .int .i64 x1, .int .i64 x2] [⟨(.int .i64), ⟨a4, l6, c5⟩, x0.2.2.1⟩] (fun _ : Option Addr × Nat => True) (fun q => .agg (cl26 r q.1 q.2).toArray) (fun q => [⟨(.int .i64), ⟨q.1, r.2.2.1.length, q.2⟩, r.2.2.1⟩]) :=
  by
    subst hl7
    refine FC.of (T := TTx) Try.call49 Try.func49 rfl rfl fun w0 => ?_
    unfold M_s_GridGo at h
    refine JS.seq (JS.region (JO.regB ttOk 2 [] [2, 3] [(3, .bp 2 0), (6, .bp 3 0)] (.new 2 26 (cl26 x0 a4 c5) (.new 3 26 (cl26 (0, 0, [], 0, 0, false) none 0) .nil)) rfl ⟨⟨rfl, rfl, trivial⟩, ⟨rfl, rfl, rfl, rfl, rfl, rfl, rfl, rfl, trivial⟩⟩ (JO.done rfl (JS.seq (JS.seq (JS.region (JO.reg ttOk 1 [] [] [(8, .v (.agg (cl26 x0 a4 c5).toArray))] _ rfl ⟨⟨rfl, trivial⟩, rfl⟩ ?_)))))))
    obtain ⟨y8, hy9, h⟩ := bindO_some h
    refine JO.call rfl rfl rfl rfl (ok_s_GridOk x0 a4 c5 x0.2.2.1.length rfl _ hy9) rfl [0] rfl rfl fun _ _ => JO.reg ttOk 1 [] [] [(10, .v (.bool (!y8)))] _ rfl ⟨⟨rfl, trivial⟩, rfl⟩ (JO.done rfl ?_)
    refine JS.cond rfl (fun ht19 => ?_) (fun ht19 => ?_)
    · have h := condT h ht19
      refine JS.seq (JS.region (JO.regB ttOk 2 [] [] [] (.new 3 26 (cl26 (0, 0, [], 0, 0, false) none 0) .nil) rfl ⟨trivial, ⟨rfl, rfl, rfl, rfl, trivial⟩⟩ (JO.done rfl ?_)))
      cases h
      refine JS.nilO (.int .i64) Sl.nil rfl rfl (JS.ret ttOk (none, 0) trivial rfl rfl [0] rfl)
    have h := condF h ht19
    refine JS.skip (JS.seq (JS.region (JO.reg ttOk 1 [] [] [(12, .v (.agg (cl26 x0 a4 c5).toArray))] _ rfl ⟨⟨rfl, trivial⟩, rfl⟩ ?_)))
    obtain ⟨y10, hy11, h⟩ := bindO_some h
    refine JO.call rfl rfl rfl rfl (ok_s_l08Copy x0 a4 c5 x0.2.2.1.length rfl _ hy11) rfl [0] rfl rfl ?_
    rintro ⟨a12, c13⟩ -
    refine JO.regB ttOk 2 [] [11] [(7, .bp 11 0)] (.new 2 26 (cl26 x0 a4 c5) (.new 3 26 (cl26 (0, 0, [], 0, 0, false) none 0) (.new 11 26 (cl26 y10 a12 c13) .nil))) rfl ⟨⟨rfl, trivial⟩, ⟨rfl, rfl, rfl, rfl, rfl, rfl, rfl, rfl, rfl, rfl, rfl, rfl, trivial⟩⟩ (JO.done rfl (JS.seq (JS.region (JO.reg ttOk 4 [(W (x0.1 - 1))] [] [(14, .v (.int .i64 x1)), (17, .v (.int .i64 (W (x0.1 - 1))))] _ rfl ⟨⟨trivial, rfl⟩, ⟨rfl, rfl, trivial⟩, rfl⟩ ?_))))
    obtain ⟨y14, hy15, h⟩ := bindO_some h
    refine JO.call rfl rfl rfl rfl (ok_s_l08Clamp x1 (W (x0.1 - 1)) _ hy15) rfl [] rfl rfl fun _ _ => JO.regB ttOk 2 [] [] [] (.new 2 26 (cl26 x0 a4 c5) (.new 3 26 (cl26 (0, 0, [], 0, 0, false) none 0) (.new 11 26 (cl26 (y10.1, y10.2.1, y10.2.2.1, y14, y10.2.2.2.2.1, y10.2.2.2.2.2) a12 c13) .nil))) rfl ⟨trivial, ⟨rfl, rfl, rfl, rfl, rfl, rfl, rfl, rfl, rfl, rfl, rfl, rfl, trivial⟩⟩ (JO.done rfl (JS.seq (JS.region (JO.reg ttOk 4 [(W (x0.2.1 - 1))] [] [(20, .v (.int .i64 x2)), (23, .v (.int .i64 (W (x0.2.1 - 1))))] _ rfl ⟨⟨trivial, rfl⟩, ⟨rfl, rfl, trivial⟩, rfl⟩ ?_))))
    obtain ⟨y16, hy17, h⟩ := bindO_some h
    refine JO.call rfl rfl rfl rfl (ok_s_l08Clamp x2 (W (x0.2.1 - 1)) _ hy17) rfl [] rfl rfl fun _ _ => JO.regB ttOk 2 [] [] [] (.new 3 26 (cl26 (0, 0, [], 0, 0, false) none 0) (.new 11 26 (cl26 (y10.1, y10.2.1, y10.2.2.1, y14, y16, y10.2.2.2.2.2) a12 c13) .nil)) rfl ⟨trivial, ⟨rfl, rfl, rfl, rfl, rfl, rfl, rfl, rfl, trivial⟩⟩ (JO.done rfl (JS.seq (JS.region (JO.regB ttOk 2 [] [] [] (.new 3 26 (cl26 (0, 0, [], 0, 0, false) none 0) (.new 11 26 (cl26 (y10.1, y10.2.1, y10.2.2.1, y14, y16, false) a12 c13) .nil)) rfl ⟨trivial, ⟨rfl, rfl, rfl, rfl, rfl, rfl, rfl, rfl, trivial⟩⟩ (JO.done rfl (JS.seq (JS.region (JO.regB ttOk 2 [] [] [] (.new 3 26 (cl26 (y10.1, y10.2.1, y10.2.2.1, y14, y16, false) a12 c13) .nil) rfl ⟨trivial, ⟨rfl, rfl, rfl, rfl, trivial⟩⟩ (JO.done rfl ?_)))))))))
    cases h
    exact JS.ret ttOk (a12, c13) trivial rfl rfl [0] rfl

def M_s_GridClear_L1 (x0 : Int × Int × List Int × Int × Int × Bool) (x1 : Int) (x2 : Int) (j93 : (List Int) → Option (Int × Int × List Int × Int × Int × Bool)) (k79 : (Int × List Int) → Option (Int × Int × List Int × Int × Int × Bool)) : (Int × List Int) → Option (Int × Int × List Int × Int × Int × Bool) := fun (x14, x25) =>
  (bif (decide (x14 < (x0.2.2.1.length : Int))) then
  (joinO (fun (x48 : List Int) =>
  k79 ((W (x14 + 1)), x48)) fun j51 =>
  (guardO (0 ≤ x14 ∧ x14 < (x0.2.2.1.length : Int)) <|
  (joinO (fun (x34 : Int) =>
  (joinO (fun (x40 : Int) =>
  (bif (bif (bif (decide (x1 ≤ x14)) then (decide (x14 < x2)) else false) then true else (bif (decide (x1 ≤ x40)) then (decide (x40 < x2)) else false)) then
  (guardO (0 ≤ x14 ∧ x14 < (x25.length : Int)) <|
  j51 (List.set x25 (Int.toNat x14) 32))
  else
  j51 x25)) fun j41 =>
  (bindO (M_s_Width (at' x0.2.2.1 x14)) fun (y37 : Int) =>
  (bif (decide (y37 = 2)) then
  j41 (W (x14 + 1))
  else
  j41 x34)))) fun j35 =>
  (bif (decide ((at' x0.2.2.1 x14) = (-1))) then
  j35 (W (x14 - 1))
  else
  j35 x14))))
  else
  j93 x25)

def M_s_GridClear (x0 : Int × Int × List Int × Int × Int × Bool) (x1 : Int) (x2 : Int) : Option (Int × Int × List Int × Int × Int × Bool) :=
  (bindO (M_s_GridOk x0) fun (y8 : Bool) =>
  (bif (!y8) then
  some (0, 0, [], 0, 0, false)
  else
  (bindO (M_s_l08Copy x0) fun (y10 : Int × Int × List Int × Int × Int × Bool) =>
  (joinO (fun (x90 : List Int) =>
  some (y10.1, y10.2.1, x90, y10.2.2.2.1, y10.2.2.2.2.1, y10.2.2.2.2.2)) fun j93 =>
  (fixF (M_s_GridClear_L1 x0 x1 x2 j93) FUEL (0, y10.2.2.1))))))

theorem ok_s_GridClear (x0 : Int × Int × List Int × Int × Int × Bool) (x1 : Int) (x2 : Int) (a4 : Option Addr) (c5 : Nat) (l6 : Nat) (hl7 : x0.2.2.1.length = l6) (r : Int × Int × List Int × Int × Int × Bool) (h : M_s_GridClear x0 x1 x2 = some r) :
    FC Try.prog 50 [.agg #[.int .i64 x0.1, .int .i64 x0.2.1, .slice a4 l6 c5, .int .i64 x0.2.2.2.1, .int .i64 x0.2.2.2.2.1, .bool x0.2.2.2.2.2], .int .i64 x1, .int .i64 x2] [⟨(.int .i64), ⟨a4, l6, c5⟩, x0.2.2.1⟩] (fun _ : Option Addr × Nat => True) (fun q => .agg (cl26 r q.1 q.2).toArray) (fun q => [⟨(.int .i64), ⟨q.1, r.2.2.1.length, q.2⟩, r.2.2.1⟩]) :=
  by
    subst hl7
    refine FC.of (T := TTx) Try.call50 Try.func50 rfl rfl fun w0 => ?_
    unfold M_s_GridClear at h
    refine JS.seq (JS.region (JO.regB ttOk 2 [] [2, 3] [(3, .bp 2 0), (6, .bp 3 0)] (.new 2 26 (cl26 x0 a4 c5) (.new 3 26 (cl26 (0, 0, [], 0, 0, false) none 0) .nil)) rfl ⟨⟨rfl, rfl, trivial⟩, ⟨rfl, rfl, rfl, rfl, rfl, rfl, rfl, rfl, trivial⟩⟩ (JO.done rfl (JS.seq (JS.seq (JS.region (JO.reg ttOk 1 [] [] [(11, .v (.agg (cl26 x0 a4 c5).toArray))] _ rfl ⟨⟨rfl, trivial⟩, rfl⟩ ?_)))))))
    obtain ⟨y8, hy9, h⟩ := bindO_some h
    refine JO.call rfl rfl rfl rfl (ok_s_GridOk x0 a4 c5 x0.2.2.1.length rfl _ hy9) rfl [0] rfl rfl fun _ _ => JO.reg ttOk 1 [] [] [(13, .v (.bool (!y8)))] _ rfl ⟨⟨rfl, trivial⟩, rfl⟩ (JO.done rfl ?_)
    refine JS.cond rfl (fun ht115 => ?_) (fun ht115 => ?_)
    · have h := condT h ht115
      refine JS.seq (JS.region (JO.regB ttOk 2 [] [] [] (.new 3 26 (cl26 (0, 0, [], 0, 0, false) none 0) .nil) rfl ⟨trivial, ⟨rfl, rfl, rfl, rfl, trivial⟩⟩ (JO.done rfl ?_)))
      cases h
      refine JS.nilO (.int .i64) Sl.nil rfl rfl (JS.ret ttOk (none, 0) trivial rfl rfl [0] rfl)
    have h := condF h ht115
    refine JS.skip (JS.seq (JS.region (JO.reg ttOk 1 [] [] [(15, .v (.agg (cl26 x0 a4 c5).toArray))] _ rfl ⟨⟨rfl, trivial⟩, rfl⟩ ?_)))
    obtain ⟨y10, hy11, h⟩ := bindO_some h
    refine JO.call rfl rfl rfl rfl (ok_s_l08Copy x0 a4 c5 x0.2.2.1.length rfl _ hy11) rfl [0] rfl rfl ?_
    rintro ⟨a12, c13⟩ -
    refine JO.regB ttOk 2 [] [11] [(7, .bp 11 0)] (.new 2 26 (cl26 x0 a4 c5) (.new 3 26 (cl26 (0, 0, [], 0, 0, false) none 0) (.new 11 26 (cl26 y10 a12 c13) .nil))) rfl ⟨⟨rfl, trivial⟩, ⟨rfl, rfl, rfl, rfl, rfl, rfl, rfl, rfl, rfl, rfl, rfl, rfl, trivial⟩⟩ (JO.done rfl (JS.seq (JS.seq (JS.region (JO.reg ttOk 4 [] [] [(18, .v (.slice a4 x0.2.2.1.length c5)), (19, .v (.int .i64 (x0.2.2.1.length : Int))), (20, .v (.int .i64 0))] _ rfl ⟨⟨rfl, rfl, rfl, trivial⟩, rfl⟩ (JO.done rfl ?_))))))
    obtain ⟨j93, hj114, h⟩ := joinO_some h
    refine JS.blockJ (ι := List Int × Option Addr × Nat) ⟨fun z => j93 z.1 = some r, fun z => [(6, .bp 3 0), (7, .bp 11 0)], fun z => (.new 3 26 (cl26 (0, 0, [], 0, 0, false) none 0) (.new 11 26 (cl26 (y10.1, y10.2.1, z.1, y10.2.2.2.1, y10.2.2.2.2.1, y10.2.2.2.2.2) z.2.1 z.2.2) .nil)), fun z => [], fun z => [⟨(.int .i64), ⟨z.2.1, z.1.length, z.2.2⟩, z.1⟩], fun z => 0⟩ ?_ ?_
    · refine JS.loop (ι := Nat × Int × List Int × Option Addr × Nat) ⟨fun z => fixF (M_s_GridClear_L1 x0 x1 x2 j93) z.1 (z.2.1, z.2.2.1) = some r, fun z => [(1, .v (.int .i64 x1)), (2, .v (.int .i64 x2)), (6, .bp 3 0), (7, .bp 11 0), (18, .v (.slice a4 x0.2.2.1.length c5)), (19, .v (.int .i64 (x0.2.2.1.length : Int))), (20, .v (.int .i64 z.2.1))], fun z => (.new 3 26 (cl26 (0, 0, [], 0, 0, false) none 0) (.new 11 26 (cl26 (y10.1, y10.2.1, z.2.2.1, y10.2.2.2.1, y10.2.2.2.2.1, y10.2.2.2.2.2) z.2.2.2.1 z.2.2.2.2) .nil)), fun z => [⟨(.int .i64), ⟨a4, x0.2.2.1.length, c5⟩, x0.2.2.1⟩], fun z => [⟨(.int .i64), ⟨z.2.2.2.1, z.2.2.1.length, z.2.2.2.2⟩, z.2.2.1⟩], fun z => z.1⟩ (FUEL, 0, y10.2.2.1, a12, c13) h ⟨rfl, rfl, rfl, rfl, rfl, rfl, rfl, trivial⟩ ⟨rfl, rfl, rfl, rfl, rfl, rfl, rfl, rfl, trivial⟩ [0] rfl [0] rfl ?_
      rintro ⟨n80, x14, x25, a26, c27⟩ h
      obtain ⟨n80, rfl, h⟩ := fixF_some h
      rw [M_s_GridClear_L1] at h
      refine JS.seq (JS.region (JO.reg ttOk 1 [] [] [(21, .v (.bool (decide (x14 < (x0.2.2.1.length : Int)))))] _ rfl ⟨⟨rfl, trivial⟩, rfl⟩ (JO.done rfl (JS.seq ?_))))
      refine JS.cond rfl (fun ht113 => ?_) (fun ht113 => ?_)
      · have h := condT h ht113
        refine JS.skip (JS.seq ?_)
        obtain ⟨j51, hj112, h⟩ := joinO_some h
        refine JS.blockJ (ι := List Int × Option Addr × Nat) ⟨fun z => j51 z.1 = some r, fun z => [(1, .v (.int .i64 x1)), (2, .v (.int .i64 x2)), (6, .bp 3 0), (7, .bp 11 0), (18, .v (.slice a4 x0.2.2.1.length c5)), (19, .v (.int .i64 (x0.2.2.1.length : Int))), (20, .v (.int .i64 x14))], fun z => (.new 3 26 (cl26 (0, 0, [], 0, 0, false) none 0) (.new 11 26 (cl26 (y10.1, y10.2.1, z.1, y10.2.2.2.1, y10.2.2.2.2.1, y10.2.2.2.2.2) z.2.1 z.2.2) .nil)), fun z => [⟨(.int .i64), ⟨a4, x0.2.2.1.length, c5⟩, x0.2.2.1⟩], fun z => [⟨(.int .i64), ⟨z.2.1, z.1.length, z.2.2⟩, z.1⟩], fun z => 0⟩ ?_ ?_
        · refine JS.seq (JS.region (JO.know 0 rfl fun hs105 => ?_))
          obtain ⟨g32, h⟩ := guardO_some h
          refine JO.reg ttOk 2 [] [] [(22, .v (.int .i64 x14)), (23, .ep ⟨a4, x0.2.2.1.length, c5⟩ (Int.toNat x14 * 1))] _ rfl ⟨hs105.ix g32, ⟨rfl, rfl, trivial⟩, rfl⟩ (JO.load ttOk rfl rfl rfl rfl rfl rfl rfl 0 rfl rfl (Int.toNat x14) 0 (at' x0.2.2.1 x14) ⟨at_some g32, rfl⟩ rfl rfl (JO.reg ttOk 2 [] [] [(8, .v (.int .i64 x14)), (9, .v (.int .i64 (at' x0.2.2.1 x14)))] _ rfl ⟨⟨rfl, rfl, trivial⟩, rfl⟩ (JO.done rfl (JS.seq (JS.region (JO.reg ttOk 2 [] [] [(10, .v (.int .i64 x14))] _ rfl ⟨⟨rfl, trivial⟩, rfl⟩ (JO.done rfl ?_)))))))
          obtain ⟨j35, hj111, h⟩ := joinO_some h
          refine JS.seqJ (ι := Int) ⟨fun z => j35 z = some r, fun z => [(1, .v (.int .i64 x1)), (2, .v (.int .i64 x2)), (6, .bp 3 0), (7, .bp 11 0), (8, .v (.int .i64 x14)), (9, .v (.int .i64 (at' x0.2.2.1 x14))), (10, .v (.int .i64 z)), (18, .v (.slice a4 x0.2.2.1.length c5)), (19, .v (.int .i64 (x0.2.2.1.length : Int))), (20, .v (.int .i64 x14))], fun z => (.new 3 26 (cl26 (0, 0, [], 0, 0, false) none 0) (.new 11 26 (cl26 (y10.1, y10.2.1, x25, y10.2.2.2.1, y10.2.2.2.2.1, y10.2.2.2.2.2) a26 c27) .nil)), fun z => [⟨(.int .i64), ⟨a4, x0.2.2.1.length, c5⟩, x0.2.2.1⟩], fun z => [⟨(.int .i64), ⟨a26, x25.length, c27⟩, x25⟩], fun z => 0⟩ ?_ ?_
          · refine JS.seq (JS.region (JO.reg ttOk 2 [] [] [(27, .v (.bool (decide ((at' x0.2.2.1 x14) = (-1)))))] _ rfl ⟨⟨rfl, trivial⟩, rfl⟩ (JO.done rfl ?_)))
            refine JS.cond rfl (fun ht106 => ?_) (fun ht106 => ?_)
            · have h := condT h ht106
              refine JS.region (JO.reg ttOk 3 [(W (x14 - 1))] [] [(10, .v (.int .i64 (W (x14 - 1))))] _ rfl ⟨⟨trivial, rfl⟩, ⟨rfl, trivial⟩, rfl⟩ (JO.done rfl (JS.endJ (W (x14 - 1)) h ⟨rfl, rfl, rfl, rfl, rfl, rfl, rfl, rfl, rfl, rfl, trivial⟩ ⟨rfl, rfl, rfl, rfl, rfl, rfl, rfl, rfl, trivial⟩ [0] rfl [0] rfl)))
            have h := condF h ht106
            refine JS.skip (JS.endJ x14 h ⟨rfl, rfl, rfl, rfl, rfl, rfl, rfl, rfl, rfl, rfl, trivial⟩ ⟨rfl, rfl, rfl, rfl, rfl, rfl, rfl, rfl, trivial⟩ [0] rfl [0] rfl)
          rintro x34 h
          subst hj111
          obtain ⟨j41, hj110, h⟩ := joinO_some h
          refine JS.seqJ (ι := Int) ⟨fun z => j41 z = some r, fun z => [(1, .v (.int .i64 x1)), (2, .v (.int .i64 x2)), (6, .bp 3 0), (7, .bp 11 0), (8, .v (.int .i64 x14)), (10, .v (.int .i64 z)), (18, .v (.slice a4 x0.2.2.1.length c5)), (19, .v (.int .i64 (x0.2.2.1.length : Int))), (20, .v (.int .i64 x14))], fun z => (.new 3 26 (cl26 (0, 0, [], 0, 0, false) none 0) (.new 11 26 (cl26 (y10.1, y10.2.1, x25, y10.2.2.2.1, y10.2.2.2.2.1, y10.2.2.2.2.2) a26 c27) .nil)), fun z => [⟨(.int .i64), ⟨a4, x0.2.2.1.length, c5⟩, x0.2.2.1⟩], fun z => [⟨(.int .i64), ⟨a26, x25.length, c27⟩, x25⟩], fun z => 0⟩ ?_ ?_
          · refine JS.seq (JS.region (JO.reg ttOk 1 [] [] [(30, .v (.int .i64 (at' x0.2.2.1 x14)))] _ rfl ⟨⟨rfl, trivial⟩, rfl⟩ ?_))
            obtain ⟨y37, hy38, h⟩ := bindO_some h
            refine JO.call rfl rfl rfl rfl (ok_s_Width (at' x0.2.2.1 x14) _ hy38) rfl [] rfl rfl fun _ _ => JO.reg ttOk 1 [] [] [(32, .v (.bool (decide (y37 = 2))))] _ rfl ⟨⟨rfl, trivial⟩, rfl⟩ (JO.done rfl ?_)
            refine JS.cond rfl (fun ht107 => ?_) (fun ht107 => ?_)
            · have h := condT h ht107
              refine JS.region (JO.reg ttOk 3 [(W (x14 + 1))] [] [(10, .v (.int .i64 (W (x14 + 1))))] _ rfl ⟨⟨trivial, rfl⟩, ⟨rfl, trivial⟩, rfl⟩ (JO.done rfl (JS.endJ (W (x14 + 1)) h ⟨rfl, rfl, rfl, rfl, rfl, rfl, rfl, rfl, rfl, trivial⟩ ⟨rfl, rfl, rfl, rfl, rfl, rfl, rfl, rfl, trivial⟩ [0] rfl [0] rfl)))
            have h := condF h ht107
            refine JS.skip (JS.endJ x34 h ⟨rfl, rfl, rfl, rfl, rfl, rfl, rfl, rfl, rfl, trivial⟩ ⟨rfl, rfl, rfl, rfl, rfl, rfl, rfl, rfl, trivial⟩ [0] rfl [0] rfl)
          rintro x40 h
          subst hj110
          refine JS.seq (JS.region (JO.reg ttOk 18 [] [] [(52, .v (.bool (bif (bif (decide (x1 ≤ x14)) then (decide (x14 < x2)) else false) then true else (bif (decide (x1 ≤ x40)) then (decide (x40 < x2)) else false))))] _ rfl ⟨⟨rfl, trivial⟩, rfl⟩ (JO.done rfl ?_)))
          refine JS.cond rfl (fun ht109 => ?_) (fun ht109 => ?_)
          · have h := condT h ht109
            refine JS.region (JO.know 1 rfl fun hs108 => ?_)
            obtain ⟨g44, h⟩ := guardO_some h
            refine JO.reg ttOk 4 [] [] [(56, .ep ⟨a26, x25.length, c27⟩ (Int.toNat x14 * 1))] _ rfl ⟨hs108.ix g44, ⟨rfl, trivial⟩, rfl⟩ (JO.storeE ttOk rfl rfl rfl rfl rfl rfl rfl rfl rfl [0] (fs := []) rfl (Int.toNat x14) 0 (at' x25 x14) 32 ⟨at_some g44, rfl⟩ ⟨rfl, rfl, rfl⟩ (JO.done rfl (JS.endB (JS.endJ ((List.set x25 (Int.toNat x14) 32), a26, c27) h ⟨rfl, rfl, rfl, rfl, rfl, rfl, rfl, trivial⟩ ⟨rfl, rfl, rfl, rfl, rfl, (congrArg (fun n => ([.int .i64 y10.1, .int .i64 y10.2.1, .slice a26 n c27, .int .i64 y10.2.2.2.1, .int .i64 y10.2.2.2.2.1, .bool y10.2.2.2.2.2] : List Value)) (List.length_set.trans rfl)), rfl, rfl, trivial⟩ [0] rfl [0] (by simp only [List.length_set, List.length_replicate, pickO, getF, cl26]; rfl)))))
          have h := condF h ht109
          refine JS.skip (JS.endB (JS.endJ (x25, a26, c27) h ⟨rfl, rfl, rfl, rfl, rfl, rfl, rfl, trivial⟩ ⟨rfl, rfl, rfl, rfl, rfl, rfl, rfl, rfl, trivial⟩ [0] rfl [0] rfl))
        rintro ⟨x48, a49, c50⟩ h
        subst hj112
        refine JS.region (JO.reg ttOk 2 [(W (x14 + 1))] [] [(20, .v (.int .i64 (W (x14 + 1))))] _ rfl ⟨⟨trivial, rfl⟩, ⟨rfl, trivial⟩, rfl⟩ (JO.done rfl (JS.endL (n80, (W (x14 + 1)), x48, a49, c50) h (Nat.lt_succ_self _) ⟨rfl, rfl, rfl, rfl, rfl, rfl, rfl, trivial⟩ ⟨rfl, rfl, rfl, rfl, rfl, rfl, rfl, rfl, trivial⟩ [0] rfl [0] rfl)))
      have h := condF h ht113
      refine JS.exit rfl (JS.endJ (x25, a26, c27) h ⟨rfl, rfl, trivial⟩ ⟨rfl, rfl, rfl, rfl, rfl, rfl, rfl, rfl, trivial⟩ [] rfl [0] rfl)
    rintro ⟨x90, a91, c92⟩ h
    subst hj114
    refine JS.seq (JS.region (JO.regB ttOk 2 [] [] [] (.new 3 26 (cl26 (y10.1, y10.2.1, x90, y10.2.2.2.1, y10.2.2.2.2.1, y10.2.2.2.2.2) a91 c92) .nil) rfl ⟨trivial, ⟨rfl, rfl, rfl, rfl, trivial⟩⟩ (JO.done rfl ?_)))
    cases h
    exact JS.ret ttOk (a91, c92) trivial rfl rfl [0] rfl

def M_s_GridPut (x0 : Int × Int × List Int × Int × Int × Bool) (x1 : Int) : Option (Int × Int × List Int × Int × Int × Bool) :=
  (bindO (M_s_GridOk x0) fun (y7 : Bool) =>
  (bif (!y7) then
  some (0, 0, [], 0, 0, false)
  else
  (bindO (M_s_Width x1) fun (y9 : Int) =>
  (bindO (M_s_l08Copy x0) fun (y11 : Int × Int × List Int × Int × Int × Bool) =>
  (bif (decide (y9 = 0)) then
  some y11
  else
  (joinO (fun ((x38, x39, x40, x43, x44, x45) : Int × Int × List Int × Int × Int × Bool) =>
  (bindO (M_s_GridClear (x38, x39, x40, x43, x44, x45) (W ((W (x44 * x0.1)) + x43)) (W ((W ((W (x44 * x0.1)) + x43)) + y9))) fun (y52 : Int × Int × List Int × Int × Int × Bool) =>
  (guardO (0 ≤ (W ((W (x44 * x0.1)) + x43)) ∧ (W ((W (x44 * x0.1)) + x43)) < (y52.2.2.1.length : Int)) <|
  (joinO (fun (x60 : List Int) =>
  (joinO (fun ((x66, x67) : Int × Bool) =>
  some (y52.1, y52.2.1, x60, x66, y52.2.2.2.2.1, x67)) fun j68 =>
  (bif (decide (x0.1 ≤ (W (y52.2.2.2.1 + y9)))) then
  j68 ((W (x0.1 - 1)), true)
  else
  j68 ((W (y52.2.2.2.1 + y9)), y52.2.2.2.2.2)))) fun j63 =>
  (bif (decide (y9 = 2)) then
  (guardO (0 ≤ (W ((W ((W (x44 * x0.1)) + x43)) + 1)) ∧ (W ((W ((W (x44 * x0.1)) + x43)) + 1)) < (y52.2.2.1.length : Int)) <|
  j63 (List.set (List.set y52.2.2.1 (Int.toNat (W ((W (x44 * x0.1)) + x43))) x1) (Int.toNat (W ((W ((W (x44 * x0.1)) + x43)) + 1))) (-1)))
  else
  j63 (List.set y52.2.2.1 (Int.toNat (W ((W (x44 * x0.1)) + x43))) x1)))))) fun j46 =>
  (bif (bif x0.2.2.2.2.2 then true else (bif (decide (y9 = 2)) then (decide (x0.2.2.2.1 = (W (x0.1 - 1)))) else false)) then
  (joinO (fun ((x22, x23, x24, x27, x28, x29) : Int × Int × List Int × Int × Int × Bool) =>
  (bindO (M_s_GridGo (x22, x23, x24, x27, x28, x29) 0 (W (x0.2.2.2.2.1 + 1))) fun (y32 : Int × Int × List Int × Int × Int × Bool) =>
  j46 (y32.1, y32.2.1, y32.2.2.1, y32.2.2.2.1, y32.2.2.2.2.1, y32.2.2.2.2.2))) fun j30 =>
  (bif (decide (x0.2.2.2.2.1 = (W (x0.2.1 - 1)))) then
  (bindO (M_s_GridScroll y11) fun (y17 : Int × Int × List Int × Int × Int × Bool) =>
  j30 (y17.1, y17.2.1, y17.2.2.1, y17.2.2.2.1, y17.2.2.2.2.1, y17.2.2.2.2.2))
  else
  j30 (y11.1, y11.2.1, y11.2.2.1, y11.2.2.2.1, y11.2.2.2.2.1, y11.2.2.2.2.2)))
  else
  j46 (y11.1, y11.2.1, y11.2.2.1, y11.2.2.2.1, y11.2.2.2.2.1, y11.2.2.2.2.2))))))))

theorem ok_s_GridPut (x0 : Int × Int × List Int × Int × Int × Bool) (x1 : Int) (a3 : Option Addr) (c4 : Nat) (l5 : Nat) (hl6 : x0.2.2.1.length = l5) (r : Int × Int × List Int × Int × Int × Bool) (h : M_s_GridPut x0 x1 = some r) :
    FC Try.prog 10 [.agg #[.int .i64 x0.1, .int .i64 x0.2.1, .slice a3 l5 c4, .int .i64 x0.2.2.2.1, .int .i64 x0.2.2.2.2.1, .bool x0.2.2.2.2.2], .int .i64 x1] [⟨(.int .i64), ⟨a3, l5, c4⟩, x0.2.2.1⟩] (fun _ : Option Addr × Nat => True) (fun q => .agg (cl26 r q.1 q.2).toArray) (fun q => [⟨(.int .i64), ⟨q.1, r.2.2.1.length, q.2⟩, r.2.2.1⟩]) :=
  by
    subst hl6
    refine FC.of (T := TTx) Try.call10 Try.func10 rfl rfl fun w0 => ?_
    unfold M_s_GridPut at h
    refine JS.seq (JS.region (JO.regB ttOk 2 [] [2, 3] [(2, .bp 2 0), (4, .bp 3 0)] (.new 2 26 (cl26 x0 a3 c4) (.new 3 26 (cl26 (0, 0, [], 0, 0, false) none 0) .nil)) rfl ⟨⟨rfl, rfl, trivial⟩, ⟨rfl, rfl, rfl, rfl, rfl, rfl, rfl, rfl, trivial⟩⟩ (JO.done rfl (JS.seq (JS.seq (JS.region (JO.reg ttOk 1 [] [] [(8, .v (.agg (cl26 x0 a3 c4).toArray))] _ rfl ⟨⟨rfl, trivial⟩, rfl⟩ ?_)))))))
    obtain ⟨y7, hy8, h⟩ := bindO_some h
    refine JO.call rfl rfl rfl rfl (ok_s_GridOk x0 a3 c4 x0.2.2.1.length rfl _ hy8) rfl [0] rfl rfl fun _ _ => JO.reg ttOk 1 [] [] [(10, .v (.bool (!y7)))] _ rfl ⟨⟨rfl, trivial⟩, rfl⟩ (JO.done rfl ?_)
    refine JS.cond rfl (fun ht87 => ?_) (fun ht87 => ?_)
    · have h := condT h ht87
      refine JS.seq (JS.region (JO.regB ttOk 2 [] [] [] (.new 3 26 (cl26 (0, 0, [], 0, 0, false) none 0) .nil) rfl ⟨trivial, ⟨rfl, rfl, rfl, rfl, trivial⟩⟩ (JO.done rfl ?_)))
      cases h
      refine JS.nilO (.int .i64) Sl.nil rfl rfl (JS.ret ttOk (none, 0) trivial rfl rfl [0] rfl)
    have h := condF h ht87
    refine JS.skip (JS.seq (JS.region (JO.reg ttOk 1 [] [] [(12, .v (.int .i64 x1))] _ rfl ⟨⟨rfl, trivial⟩, rfl⟩ ?_)))
    obtain ⟨y9, hy10, h⟩ := bindO_some h
    refine JO.call rfl rfl rfl rfl (ok_s_Width x1 _ hy10) rfl [] rfl rfl fun _ _ => JO.reg ttOk 1 [] [] [(5, .v (.int .i64 y9))] _ rfl ⟨⟨rfl, trivial⟩, rfl⟩ (JO.done rfl (JS.seq (JS.region (JO.reg ttOk 1 [] [] [(14, .v (.agg (cl26 x0 a3 c4).toArray))] _ rfl ⟨⟨rfl, trivial⟩, rfl⟩ ?_))))
    obtain ⟨y11, hy12, h⟩ := bindO_some h
    refine JO.call rfl rfl rfl rfl (ok_s_l08Copy x0 a3 c4 x0.2.2.1.length rfl _ hy12) rfl [0] rfl rfl ?_
    rintro ⟨a13, c14⟩ -
    refine JO.regB ttOk 2 [] [13] [(6, .bp 13 0)] (.new 2 26 (cl26 x0 a3 c4) (.new 3 26 (cl26 (0, 0, [], 0, 0, false) none 0) (.new 13 26 (cl26 y11 a13 c14) .nil))) rfl ⟨⟨rfl, trivial⟩, ⟨rfl, rfl, rfl, rfl, rfl, rfl, rfl, rfl, rfl, rfl, rfl, rfl, trivial⟩⟩ (JO.done rfl (JS.seq (JS.seq (JS.region (JO.reg ttOk 2 [] [] [(17, .v (.bool (decide (y9 = 0))))] _ rfl ⟨⟨rfl, trivial⟩, rfl⟩ (JO.done rfl ?_))))))
    refine JS.cond rfl (fun ht86 => ?_) (fun ht86 => ?_)
    · have h := condT h ht86
      refine JS.seq (JS.region (JO.regB ttOk 2 [] [] [] (.new 3 26 (cl26 y11 a13 c14) .nil) rfl ⟨trivial, ⟨rfl, rfl, rfl, rfl, trivial⟩⟩ (JO.done rfl ?_)))
      cases h
      exact JS.ret ttOk (a13, c14) trivial rfl rfl [0] rfl
    have h := condF h ht86
    refine JS.skip ?_
    obtain ⟨j46, hj85, h⟩ := joinO_some h
    refine JS.seqJ (ι := Int × Int × List Int × Int × Int × Bool × Option Addr × Nat) ⟨fun z => j46 (z.1, z.2.1, z.2.2.1, z.2.2.2.1, z.2.2.2.2.1, z.2.2.2.2.2.1) = some r, fun z => [(1, .v (.int .i64 x1)), (2, .bp 2 0), (4, .bp 3 0), (5, .v (.int .i64 y9)), (6, .bp 13 0)], fun z => (.new 2 26 (cl26 x0 a3 c4) (.new 3 26 (cl26 (0, 0, [], 0, 0, false) none 0) (.new 13 26 (cl26 (z.1, z.2.1, z.2.2.1, z.2.2.2.1, z.2.2.2.2.1, z.2.2.2.2.2.1) z.2.2.2.2.2.2.1 z.2.2.2.2.2.2.2) .nil))), fun z => [⟨(.int .i64), ⟨a3, x0.2.2.1.length, c4⟩, x0.2.2.1⟩], fun z => [⟨(.int .i64), ⟨z.2.2.2.2.2.2.1, z.2.2.1.length, z.2.2.2.2.2.2.2⟩, z.2.2.1⟩], fun z => 0⟩ ?_ ?_
    · refine JS.seq (JS.region (JO.reg ttOk 14 [(W (x0.1 - 1))] [] [(32, .v (.bool (bif x0.2.2.2.2.2 then true else (bif (decide (y9 = 2)) then (decide (x0.2.2.2.1 = (W (x0.1 - 1)))) else false))))] _ rfl ⟨(fun q75 q76 => ⟨trivial, rfl⟩), ⟨rfl, trivial⟩, rfl⟩ (JO.done rfl ?_)))
      refine JS.cond rfl (fun ht79 => ?_) (fun ht79 => ?_)
      · have h := condT h ht79
        obtain ⟨j30, hj78, h⟩ := joinO_some h
        refine JS.seqJ (ι := Int × Int × List Int × Int × Int × Bool × Option Addr × Nat) ⟨fun z => j30 (z.1, z.2.1, z.2.2.1, z.2.2.2.1, z.2.2.2.2.1, z.2.2.2.2.2.1) = some r, fun z => [(1, .v (.int .i64 x1)), (2, .bp 2 0), (4, .bp 3 0), (5, .v (.int .i64 y9)), (6, .bp 13 0)], fun z => (.new 2 26 (cl26 x0 a3 c4) (.new 3 26 (cl26 (0, 0, [], 0, 0, false) none 0) (.new 13 26 (cl26 (z.1, z.2.1, z.2.2.1, z.2.2.2.1, z.2.2.2.2.1, z.2.2.2.2.2.1) z.2.2.2.2.2.2.1 z.2.2.2.2.2.2.2) .nil))), fun z => [⟨(.int .i64), ⟨a3, x0.2.2.1.length, c4⟩, x0.2.2.1⟩], fun z => [⟨(.int .i64), ⟨z.2.2.2.2.2.2.1, z.2.2.1.length, z.2.2.2.2.2.2.2⟩, z.2.2.1⟩], fun z => 0⟩ ?_ ?_
        · refine JS.seq (JS.region (JO.reg ttOk 6 [(W (x0.2.1 - 1))] [] [(38, .v (.bool (decide (x0.2.2.2.2.1 = (W (x0.2.1 - 1))))))] _ rfl ⟨⟨trivial, rfl⟩, ⟨rfl, trivial⟩, rfl⟩ (JO.done rfl ?_)))
          refine JS.cond rfl (fun ht77 => ?_) (fun ht77 => ?_)
          · have h := condT h ht77
            refine JS.region (JO.reg ttOk 1 [] [] [(39, .v (.agg (cl26 y11 a13 c14).toArray))] _ rfl ⟨⟨rfl, trivial⟩, rfl⟩ ?_)
            obtain ⟨y17, hy18, h⟩ := bindO_some h
            refine JO.call rfl rfl rfl rfl (ok_s_GridScroll y11 a13 c14 y11.2.2.1.length rfl _ hy18) rfl [1] rfl rfl ?_
            rintro ⟨a19, c20⟩ -
            refine JO.regB ttOk 1 [] [] [] (.new 2 26 (cl26 x0 a3 c4) (.new 3 26 (cl26 (0, 0, [], 0, 0, false) none 0) (.new 13 26 (cl26 y17 a19 c20) .nil))) rfl ⟨trivial, ⟨rfl, rfl, rfl, rfl, rfl, rfl, rfl, rfl, rfl, rfl, rfl, rfl, trivial⟩⟩ (JO.done rfl (JS.endJ (y17.1, y17.2.1, y17.2.2.1, y17.2.2.2.1, y17.2.2.2.2.1, y17.2.2.2.2.2, a19, c20) h ⟨rfl, rfl, rfl, rfl, rfl, trivial⟩ ⟨rfl, rfl, rfl, rfl, rfl, rfl, rfl, rfl, rfl, rfl, rfl, rfl, trivial⟩ [0] rfl [0] rfl))
          have h := condF h ht77
          refine JS.skip (JS.endJ (y11.1, y11.2.1, y11.2.2.1, y11.2.2.2.1, y11.2.2.2.2.1, y11.2.2.2.2.2, a13, c14) h ⟨rfl, rfl, rfl, rfl, rfl, trivial⟩ ⟨rfl, rfl, rfl, rfl, rfl, rfl, rfl, rfl, rfl, rfl, rfl, rfl, trivial⟩ [0] rfl [0] rfl)
        rintro ⟨x22, x23, x24, x27, x28, x29, a25, c26⟩ h
        subst hj78
        refine JS.region (JO.reg ttOk 4 [(W (x0.2.2.2.2.1 + 1))] [] [(41, .v (.agg (cl26 (x22, x23, x24, x27, x28, x29) a25 c26).toArray)), (44, .v (.int .i64 (W (x0.2.2.2.2.1 + 1))))] _ rfl ⟨⟨trivial, rfl⟩, ⟨rfl, rfl, trivial⟩, rfl⟩ ?_)
        obtain ⟨y32, hy33, h⟩ := bindO_some h
        refine JO.call rfl rfl rfl rfl (ok_s_GridGo (x22, x23, x24, x27, x28, x29) 0 (W (x0.2.2.2.2.1 + 1)) a25 c26 x24.length rfl _ hy33) rfl [1] rfl rfl ?_
        rintro ⟨a34, c35⟩ -
        refine JO.regB ttOk 1 [] [] [] (.new 2 26 (cl26 x0 a3 c4) (.new 3 26 (cl26 (0, 0, [], 0, 0, false) none 0) (.new 13 26 (cl26 y32 a34 c35) .nil))) rfl ⟨trivial, ⟨rfl, rfl, rfl, rfl, rfl, rfl, rfl, rfl, rfl, rfl, rfl, rfl, trivial⟩⟩ (JO.done rfl (JS.endJ (y32.1, y32.2.1, y32.2.2.1, y32.2.2.2.1, y32.2.2.2.2.1, y32.2.2.2.2.2, a34, c35) h ⟨rfl, rfl, rfl, rfl, rfl, trivial⟩ ⟨rfl, rfl, rfl, rfl, rfl, rfl, rfl, rfl, rfl, rfl, rfl, rfl, trivial⟩ [0] rfl [0] rfl))
      have h := condF h ht79
      refine JS.skip (JS.endJ (y11.1, y11.2.1, y11.2.2.1, y11.2.2.2.1, y11.2.2.2.2.1, y11.2.2.2.2.2, a13, c14) h ⟨rfl, rfl, rfl, rfl, rfl, trivial⟩ ⟨rfl, rfl, rfl, rfl, rfl, rfl, rfl, rfl, rfl, rfl, rfl, rfl, trivial⟩ [0] rfl [0] rfl)
    rintro ⟨x38, x39, x40, x43, x44, x45, a41, c42⟩ h
    subst hj85
    refine JS.seq (JS.region (JO.reg ttOk 9 [(W (x44 * x0.1)), (W ((W (x44 * x0.1)) + x43))] [] [(7, .v (.int .i64 (W ((W (x44 * x0.1)) + x43))))] _ rfl ⟨⟨trivial, rfl⟩, ⟨trivial, rfl⟩, ⟨rfl, trivial⟩, rfl⟩ (JO.done rfl (JS.seq (JS.region (JO.reg ttOk 5 [(W ((W ((W (x44 * x0.1)) + x43)) + y9))] [] [(54, .v (.agg (cl26 (x38, x39, x40, x43, x44, x45) a41 c42).toArray)), (55, .v (.int .i64 (W ((W (x44 * x0.1)) + x43)))), (58, .v (.int .i64 (W ((W ((W (x44 * x0.1)) + x43)) + y9))))] _ rfl ⟨⟨trivial, rfl⟩, ⟨rfl, rfl, rfl, trivial⟩, rfl⟩ ?_))))))
    obtain ⟨y52, hy53, h⟩ := bindO_some h
    refine JO.call rfl rfl rfl rfl (ok_s_GridClear (x38, x39, x40, x43, x44, x45) (W ((W (x44 * x0.1)) + x43)) (W ((W ((W (x44 * x0.1)) + x43)) + y9)) a41 c42 x40.length rfl _ hy53) rfl [1] rfl rfl ?_
    rintro ⟨a54, c55⟩ -
    refine JO.regB ttOk 1 [] [] [] (.new 2 26 (cl26 x0 a3 c4) (.new 3 26 (cl26 (0, 0, [], 0, 0, false) none 0) (.new 13 26 (cl26 y52 a54 c55) .nil))) rfl ⟨trivial, ⟨rfl, rfl, rfl, rfl, rfl, rfl, rfl, rfl, rfl, rfl, rfl, rfl, trivial⟩⟩ (JO.done rfl (JS.seq (JS.region (JO.know 1 rfl fun hs80 => ?_))))
    obtain ⟨g57, h⟩ := guardO_some h
    refine JO.reg ttOk 5 [] [] [(63, .v (.int .i64 x1)), (64, .ep ⟨a54, y52.2.2.1.length, c55⟩ (Int.toNat (W ((W (x44 * x0.1)) + x43)) * 1))] _ rfl ⟨hs80.ix g57, ⟨rfl, rfl, trivial⟩, rfl⟩ (JO.storeE ttOk rfl rfl rfl rfl rfl rfl rfl rfl rfl [0] (fs := []) rfl (Int.toNat (W ((W (x44 * x0.1)) + x43))) 0 (at' y52.2.2.1 (W ((W (x44 * x0.1)) + x43))) x1 ⟨at_some g57, rfl⟩ ⟨rfl, rfl, rfl⟩ (JO.done rfl ?_))
    obtain ⟨j63, hj84, h⟩ := joinO_some h
    refine JS.seqJ (ι := List Int × Option Addr × Nat) ⟨fun z => j63 z.1 = some r, fun z => [(2, .bp 2 0), (4, .bp 3 0), (5, .v (.int .i64 y9)), (6, .bp 13 0)], fun z => (.new 2 26 (cl26 x0 a3 c4) (.new 3 26 (cl26 (0, 0, [], 0, 0, false) none 0) (.new 13 26 (cl26 (y52.1, y52.2.1, z.1, y52.2.2.2.1, y52.2.2.2.2.1, y52.2.2.2.2.2) z.2.1 z.2.2) .nil))), fun z => [⟨(.int .i64), ⟨a3, x0.2.2.1.length, c4⟩, x0.2.2.1⟩], fun z => [⟨(.int .i64), ⟨z.2.1, z.1.length, z.2.2⟩, z.1⟩], fun z => 0⟩ ?_ ?_
    · refine JS.seq (JS.region (JO.reg ttOk 2 [] [] [(66, .v (.bool (decide (y9 = 2))))] _ rfl ⟨⟨rfl, trivial⟩, rfl⟩ (JO.done rfl ?_)))
      refine JS.cond rfl (fun ht81 => ?_) (fun ht81 => ?_)
      · have h := condT h ht81
        refine JS.region ?_
        obtain ⟨g58, h⟩ := guardO_some h
        refine JO.reg ttOk 5 [(W ((W ((W (x44 * x0.1)) + x43)) + 1))] [] [(71, .ep ⟨a54, y52.2.2.1.length, c55⟩ (Int.toNat (W ((W ((W (x44 * x0.1)) + x43)) + 1)) * 1))] _ rfl ⟨⟨trivial, rfl⟩, hs80.ix g58, ⟨rfl, trivial⟩, rfl⟩ (JO.storeE ttOk rfl rfl rfl rfl rfl rfl rfl rfl rfl [0] (fs := []) rfl (Int.toNat (W ((W ((W (x44 * x0.1)) + x43)) + 1))) 0 (at' (List.set y52.2.2.1 (Int.toNat (W ((W (x44 * x0.1)) + x43))) x1) (W ((W ((W (x44 * x0.1)) + x43)) + 1))) (-1) ⟨at_someL (List.length_set.trans rfl) g58, rfl⟩ ⟨rfl, rfl, rfl⟩ (JO.done rfl (JS.endJ ((List.set (List.set y52.2.2.1 (Int.toNat (W ((W (x44 * x0.1)) + x43))) x1) (Int.toNat (W ((W ((W (x44 * x0.1)) + x43)) + 1))) (-1)), a54, c55) h ⟨rfl, rfl, rfl, rfl, trivial⟩ ⟨rfl, rfl, rfl, rfl, rfl, rfl, rfl, rfl, rfl, (congrArg (fun n => ([.int .i64 y52.1, .int .i64 y52.2.1, .slice a54 n c55, .int .i64 y52.2.2.2.1, .int .i64 y52.2.2.2.2.1, .bool y52.2.2.2.2.2] : List Value)) (List.length_set.trans (List.length_set.trans rfl))), rfl, rfl, trivial⟩ [0] rfl [0] (by simp only [List.length_set, List.length_replicate, pickO, getF, cl26]; rfl))))
      have h := condF h ht81
      refine JS.skip (JS.endJ ((List.set y52.2.2.1 (Int.toNat (W ((W (x44 * x0.1)) + x43))) x1), a54, c55) h ⟨rfl, rfl, rfl, rfl, trivial⟩ ⟨rfl, rfl, rfl, rfl, rfl, rfl, rfl, rfl, rfl, (congrArg (fun n => ([.int .i64 y52.1, .int .i64 y52.2.1, .slice a54 n c55, .int .i64 y52.2.2.2.1, .int .i64 y52.2.2.2.2.1, .bool y52.2.2.2.2.2] : List Value)) (List.length_set.trans rfl)), rfl, rfl, trivial⟩ [0] rfl [0] (by simp only [List.length_set, List.length_replicate, pickO, getF, cl26]; rfl))
    rintro ⟨x60, a61, c62⟩ h
    subst hj84
    obtain ⟨j68, hj83, h⟩ := joinO_some h
    refine JS.seqJ (ι := Int × Bool) ⟨fun z => j68 (z.1, z.2) = some r, fun z => [(4, .bp 3 0), (6, .bp 13 0)], fun z => (.new 3 26 (cl26 (0, 0, [], 0, 0, false) none 0) (.new 13 26 (cl26 (y52.1, y52.2.1, x60, z.1, y52.2.2.2.2.1, z.2) a61 c62) .nil)), fun z => [], fun z => [⟨(.int .i64), ⟨a61, x60.length, c62⟩, x60⟩], fun z => 0⟩ ?_ ?_
    · refine JS.seq (JS.region (JO.reg ttOk 7 [(W (y52.2.2.2.1 + y9))] [] [(78, .v (.bool (decide (x0.1 ≤ (W (y52.2.2.2.1 + y9))))))] _ rfl ⟨⟨trivial, rfl⟩, ⟨rfl, trivial⟩, rfl⟩ (JO.done rfl ?_)))
      refine JS.cond rfl (fun ht82 => ?_) (fun ht82 => ?_)
      · have h := condT h ht82
        refine JS.seq (JS.region (JO.regB ttOk 5 [(W (x0.1 - 1))] [] [] (.new 3 26 (cl26 (0, 0, [], 0, 0, false) none 0) (.new 13 26 (cl26 (y52.1, y52.2.1, x60, (W (x0.1 - 1)), y52.2.2.2.2.1, y52.2.2.2.2.2) a61 c62) .nil)) rfl ⟨⟨trivial, rfl⟩, trivial, ⟨rfl, rfl, rfl, rfl, rfl, rfl, rfl, rfl, trivial⟩⟩ (JO.done rfl (JS.region (JO.regB ttOk 2 [] [] [] (.new 3 26 (cl26 (0, 0, [], 0, 0, false) none 0) (.new 13 26 (cl26 (y52.1, y52.2.1, x60, (W (x0.1 - 1)), y52.2.2.2.2.1, true) a61 c62) .nil)) rfl ⟨trivial, ⟨rfl, rfl, rfl, rfl, rfl, rfl, rfl, rfl, trivial⟩⟩ (JO.done rfl (JS.endJ ((W (x0.1 - 1)), true) h ⟨rfl, rfl, trivial⟩ ⟨rfl, rfl, rfl, rfl, rfl, rfl, rfl, rfl, trivial⟩ [] rfl [0] rfl)))))))
      have h := condF h ht82
      refine JS.region (JO.regB ttOk 6 [(W (y52.2.2.2.1 + y9))] [] [] (.new 3 26 (cl26 (0, 0, [], 0, 0, false) none 0) (.new 13 26 (cl26 (y52.1, y52.2.1, x60, (W (y52.2.2.2.1 + y9)), y52.2.2.2.2.1, y52.2.2.2.2.2) a61 c62) .nil)) rfl ⟨⟨trivial, rfl⟩, trivial, ⟨rfl, rfl, rfl, rfl, rfl, rfl, rfl, rfl, trivial⟩⟩ (JO.done rfl (JS.endJ ((W (y52.2.2.2.1 + y9)), y52.2.2.2.2.2) h ⟨rfl, rfl, trivial⟩ ⟨rfl, rfl, rfl, rfl, rfl, rfl, rfl, rfl, trivial⟩ [] rfl [0] rfl)))
    rintro ⟨x66, x67⟩ h
    subst hj83
    refine JS.seq (JS.region (JO.regB ttOk 2 [] [] [] (.new 3 26 (cl26 (y52.1, y52.2.1, x60, x66, y52.2.2.2.2.1, x67) a61 c62) .nil) rfl ⟨trivial, ⟨rfl, rfl, rfl, rfl, trivial⟩⟩ (JO.done rfl ?_)))
    cases h
    exact JS.ret ttOk (a61, c62) trivial rfl rfl [0] rfl

def M_s_l08Fill_L1 (x0 : List UInt8 × Int × Int) (j96 : (Int × Int × List Int × Int × Int × Bool × Int × Int) → Option ((Int × Int × List Int × Int × Int × Bool) × List UInt8 × Int × Int)) (k81 : (Int × Int × Int × List Int × Int × Int × Bool × Int × Int) → Option ((Int × Int × List Int × Int × Int × Bool) × List UInt8 × Int × Int)) : (Int × Int × Int × List Int × Int × Int × Bool × Int × Int) → Option ((Int × Int × List Int × Int × Int × Bool) × List UInt8 × Int × Int) := fun (x17, x18, x19, x74, x20, x21, x22, x34, x35) =>
  (bif (decide (0 < x17)) then
  (joinO (fun ((x60, x61, x62, x65, x66, x67, x68, x69) : Int × Int × List Int × Int × Int × Bool × Int × Int) =>
  k81 ((W (x17 - 1)), x60, x61, x62, x65, x66, x67, x68, x69)) fun j70 =>
  (bindO (M_s_l02Rune (x0.1, x34, x35)) fun (y37, y38) =>
  (bindO (M_s_GridPut (x18, x19, x74, x20, x21, x22) y37) fun (y40 : Int × Int × List Int × Int × Int × Bool) =>
  (bindO (M_s_l01Below (x0.1, y38.2.1, y38.2.2) 5) fun (y45, y46) =>
  (bif (decide (y45 = 0)) then
  (bindO (M_s_l01Below (x0.1, y46.2.1, y46.2.2) y40.1) fun (y48, y49) =>
  (bindO (M_s_l01Below (x0.1, y49.2.1, y49.2.2) y40.2.1) fun (y51, y52) =>
  (bindO (M_s_GridGo y40 y48 y51) fun (y54 : Int × Int × List Int × Int × Int × Bool) =>
  j70 (y54.1, y54.2.1, y54.2.2.1, y54.2.2.2.1, y54.2.2.2.2.1, y54.2.2.2.2.2, y52.2.1, y52.2.2))))
  else
  j70 (y40.1, y40.2.1, y40.2.2.1, y40.2.2.2.1, y40.2.2.2.2.1, y40.2.2.2.2.2, y46.2.1, y46.2.2))))))
  else
  j96 (x18, x19, x74, x20, x21, x22, x34, x35))

def M_s_l08Fill (x0 : List UInt8 × Int × Int) (x1 : Int × Int × List Int × Int × Int × Bool) (x2 : Int) : Option ((Int × Int × List Int × Int × Int × Bool) × List UInt8 × Int × Int) :=
  (bindO (M_s_l01Below x0 (W (x2 + 1))) fun (y13, y14) =>
  (joinO (fun ((x86, x87, x88, x91, x92, x93, x94, x95) : Int × Int × List Int × Int × Int × Bool × Int × Int) =>
  some ((x86, x87, x88, x91, x92, x93), (x0.1, x94, x95))) fun j96 =>
  (fixF (M_s_l08Fill_L1 x0 j96) FUEL (y13, x1.1, x1.2.1, x1.2.2.1, x1.2.2.2.1, x1.2.2.2.2.1, x1.2.2.2.2.2, y14.2.1, y14.2.2))))

theorem ok_s_l08Fill (x0 : List UInt8 × Int × Int) (x1 : Int × Int × List Int × Int × Int × Bool) (x2 : Int) (a4 : Option Addr) (a5 : Option Addr) (c6 : Nat) (l7 : Nat) (hl8 : x0.1.length = l7) (a9 : Option Addr) (c10 : Nat) (l11 : Nat) (hl12 : x1.2.2.1.length = l11) (r : (Int × Int × List Int × Int × Int × Bool) × List UInt8 × Int × Int) (h : M_s_l08Fill x0 x1 x2 = some r) :
    FX Try.prog 61 [.pointer a4, .agg #[.int .i64 x1.1, .int .i64 x1.2.1, .slice a9 l11 c10, .int .i64 x1.2.2.2.1, .int .i64 x1.2.2.2.2.1, .bool x1.2.2.2.2.2], .int .i64 x2] [⟨.byte, ⟨a5, l7, c6⟩, x0.1⟩] [⟨(.pair .val (.pair (.int .i64) (.int .i64))), ⟨a4, 1, 1⟩, [((Sl.v ⟨a5, l7, c6⟩), x0.2.1, x0.2.2)]⟩, ⟨(.int .i64), ⟨a9, l11, c10⟩, x1.2.2.1⟩] (fun _ : Option Addr × Nat => True) (fun q => .agg (cl26 r.1 q.1 q.2).toArray) (fun q => [⟨(.pair .val (.pair (.int .i64) (.int .i64))), ⟨a4, 1, 1⟩, [((Sl.v ⟨a5, l7, c6⟩), r.2.2.1, r.2.2.2)]⟩, ⟨(.int .i64), ⟨q.1, r.1.2.2.1.length, q.2⟩, r.1.2.2.1⟩]) :=
  by
    subst hl8
    subst hl12
    refine FX.of (T := TTx) Try.call61 Try.func61 rfl rfl fun w0 L0 => ?_
    unfold M_s_l08Fill at h
    refine JS.ptr 0 a4 rfl ?_
    refine JS.seq (JS.region (JO.regB ttOk 2 [] [4, 5] [(4, .bp 4 0), (6, .bp 5 0)] (.new 4 26 (cl26 x1 a9 c10) (.new 5 26 (cl26 (0, 0, [], 0, 0, false) none 0) .nil)) rfl ⟨⟨rfl, rfl, trivial⟩, ⟨rfl, rfl, rfl, rfl, rfl, rfl, rfl, rfl, trivial⟩⟩ (JO.done rfl (JS.seq (JS.seq (JS.region (JO.reg ttOk 3 [(W (x2 + 1))] [] [(8, .ep ⟨a4, 1, 1⟩ 0), (10, .v (.int .i64 (W (x2 + 1))))] _ rfl ⟨⟨trivial, rfl⟩, ⟨rfl, rfl, trivial⟩, rfl⟩ ?_)))))))
    obtain ⟨⟨y13, y14⟩, hy15, h⟩ := bindO_some h
    refine JO.callX rfl rfl rfl rfl (ok_s_l01Below x0 (W (x2 + 1)) a4 a5 c6 x0.1.length rfl _ hy15) rfl [0] rfl [0] rfl rfl fun _ _ => JO.reg ttOk 1 [] [] [(7, .v (.int .i64 y13))] _ rfl ⟨⟨rfl, trivial⟩, rfl⟩ (JO.done rfl ?_)
    obtain ⟨j96, hj104, h⟩ := joinO_some h
    refine JS.blockJ (ι := Int × Int × List Int × Int × Int × Bool × Int × Int × Option Addr × Nat) ⟨fun z => j96 (z.1, z.2.1, z.2.2.1, z.2.2.2.1, z.2.2.2.2.1, z.2.2.2.2.2.1, z.2.2.2.2.2.2.1, z.2.2.2.2.2.2.2.1) = some r, fun z => [(4, .bp 4 0), (6, .bp 5 0)], fun z => (.new 4 26 (cl26 (z.1, z.2.1, z.2.2.1, z.2.2.2.1, z.2.2.2.2.1, z.2.2.2.2.2.1) z.2.2.2.2.2.2.2.2.1 z.2.2.2.2.2.2.2.2.2) (.new 5 26 (cl26 (0, 0, [], 0, 0, false) none 0) .nil)), fun z => [⟨.byte, ⟨a5, x0.1.length, c6⟩, x0.1⟩], fun z => [⟨(.int .i64), ⟨z.2.2.2.2.2.2.2.2.1, z.2.2.1.length, z.2.2.2.2.2.2.2.2.2⟩, z.2.2.1⟩, ⟨(.pair .val (.pair (.int .i64) (.int .i64))), ⟨a4, 1, 1⟩, [((Sl.v ⟨a5, x0.1.length, c6⟩), z.2.2.2.2.2.2.1, z.2.2.2.2.2.2.2.1)]⟩], fun z => 0⟩ ?_ ?_
    · refine JS.loop (ι := Nat × Int × Int × Int × List Int × Int × Int × Bool × Int × Int × Option Addr × Nat) ⟨fun z => fixF (M_s_l08Fill_L1 x0 j96) z.1 (z.2.1, z.2.2.1, z.2.2.2.1, z.2.2.2.2.1, z.2.2.2.2.2.1, z.2.2.2.2.2.2.1, z.2.2.2.2.2.2.2.1, z.2.2.2.2.2.2.2.2.1, z.2.2.2.2.2.2.2.2.2.1) = some r, fun z => [(0, .ep ⟨a4, 1, 1⟩ 0), (4, .bp 4 0), (6, .bp 5 0), (7, .v (.int .i64 z.2.1))], fun z => (.new 4 26 (cl26 (z.2.2.1, z.2.2.2.1, z.2.2.2.2.1, z.2.2.2.2.2.1, z.2.2.2.2.2.2.1, z.2.2.2.2.2.2.2.1) z.2.2.2.2.2.2.2.2.2.2.1 z.2.2.2.2.2.2.2.2.2.2.2) (.new 5 26 (cl26 (0, 0, [], 0, 0, false) none 0) .nil)), fun z => [⟨.byte, ⟨a5, x0.1.length, c6⟩, x0.1⟩], fun z => [⟨(.int .i64), ⟨z.2.2.2.2.2.2.2.2.2.2.1, z.2.2.2.2.1.length, z.2.2.2.2.2.2.2.2.2.2.2⟩, z.2.2.2.2.1⟩, ⟨(.pair .val (.pair (.int .i64) (.int .i64))), ⟨a4, 1, 1⟩, [((Sl.v ⟨a5, x0.1.length, c6⟩), z.2.2.2.2.2.2.2.2.1, z.2.2.2.2.2.2.2.2.2.1)]⟩], fun z => z.1⟩ (FUEL, y13, x1.1, x1.2.1, x1.2.2.1, x1.2.2.2.1, x1.2.2.2.2.1, x1.2.2.2.2.2, y14.2.1, y14.2.2, a9, c10) h ⟨rfl, rfl, rfl, rfl, trivial⟩ ⟨rfl, rfl, rfl, rfl, rfl, rfl, rfl, rfl, trivial⟩ [0] rfl [1, 0] rfl ?_
      rintro ⟨n82, x17, x18, x19, x74, x20, x21, x22, x34, x35, a75, c76⟩ h
      obtain ⟨n82, rfl, h⟩ := fixF_some h
      rw [M_s_l08Fill_L1] at h
      refine JS.seq (JS.seq (JS.region (JO.reg ttOk 2 [] [] [(13, .v (.bool (decide (0 < x17))))] _ rfl ⟨⟨rfl, trivial⟩, rfl⟩ (JO.done rfl ?_))))
      refine JS.cond rfl (fun ht103 => ?_) (fun ht103 => ?_)
      · have h := condT h ht103
        refine JS.skip (JS.seq ?_)
        obtain ⟨j70, hj102, h⟩ := joinO_some h
        refine JS.blockJ (ι := Int × Int × List Int × Int × Int × Bool × Int × Int × Option Addr × Nat) ⟨fun z => j70 (z.1, z.2.1, z.2.2.1, z.2.2.2.1, z.2.2.2.2.1, z.2.2.2.2.2.1, z.2.2.2.2.2.2.1, z.2.2.2.2.2.2.2.1) = some r, fun z => [(0, .ep ⟨a4, 1, 1⟩ 0), (4, .bp 4 0), (6, .bp 5 0), (7, .v (.int .i64 x17))], fun z => (.new 4 26 (cl26 (z.1, z.2.1, z.2.2.1, z.2.2.2.1, z.2.2.2.2.1, z.2.2.2.2.2.1) z.2.2.2.2.2.2.2.2.1 z.2.2.2.2.2.2.2.2.2) (.new 5 26 (cl26 (0, 0, [], 0, 0, false) none 0) .nil)), fun z => [⟨.byte, ⟨a5, x0.1.length, c6⟩, x0.1⟩], fun z => [⟨(.int .i64), ⟨z.2.2.2.2.2.2.2.2.1, z.2.2.1.length, z.2.2.2.2.2.2.2.2.2⟩, z.2.2.1⟩, ⟨(.pair .val (.pair (.int .i64) (.int .i64))), ⟨a4, 1, 1⟩, [((Sl.v ⟨a5, x0.1.length, c6⟩), z.2.2.2.2.2.2.1, z.2.2.2.2.2.2.2.1)]⟩], fun z => 0⟩ ?_ ?_
        · refine JS.seq ?_
          obtain ⟨⟨y37, y38⟩, hy39, h⟩ := bindO_some h
          obtain ⟨y40, hy41, h⟩ := bindO_some h
          refine JS.regionA rfl (.new 4 26 (cl26 (x18, x19, x74, x20, x21, x22) a75 c76) .nil) [] [3, 4] ⟨rfl, rfl, rfl, rfl, trivial⟩ rfl (fun be44 => ?_)
          refine JA.reg ttOk panic_cxX true 3 [0, 1] rfl (by kernel_rfl) [] [(16, .v (.agg (cl26 (x18, x19, x74, x20, x21, x22) a75 c76).toArray)), (17, .ep ⟨a4, 1, 1⟩ 0)] ⟨rfl, rfl, rfl, rfl, trivial⟩ [] rfl rfl ⟨rfl, rfl, trivial⟩ (JA.one 2 (by kernel_rfl) (JK.callX rfl rfl rfl rfl (ok_s_l02Rune (x0.1, x34, x35) a4 a5 c6 x0.1.length rfl _ hy39) rfl [1] rfl [0] rfl rfl fun _ _ => JA.next ⟨rfl, rfl, rfl, rfl, trivial⟩ [] rfl (JA.one 3 (by kernel_rfl) (JK.call rfl rfl rfl rfl (ok_s_GridPut (x18, x19, x74, x20, x21, x22) y37 a75 c76 x74.length rfl _ hy41) rfl [2] rfl rfl ?_))))
          rintro ⟨a42, c43⟩ -
          refine JA.nextL rfl (JA.one 4 (by kernel_rfl) (JK.stBox ttOk rfl rfl rfl rfl rfl rfl rfl rfl (JK.boxes (B' := (.new 4 26 (cl26 y40 a42 c43) (.new 5 26 (cl26 (0, 0, [], 0, 0, false) none 0) .nil))) ⟨rfl, rfl, rfl, rfl, rfl, rfl, rfl, rfl, trivial⟩ (JA.nextL rfl (JA.done (by kernel_rfl) (JS.boxes (B' := (.new 4 26 (cl26 y40 a42 c43) (.new 5 26 (cl26 (0, 0, [], 0, 0, false) none 0) .nil))) ⟨rfl, rfl, rfl, rfl, rfl, rfl, rfl, rfl, trivial⟩ (JS.seq (JS.region (JO.reg ttOk 1 [] [] [(20, .ep ⟨a4, 1, 1⟩ 0)] _ rfl ⟨⟨rfl, trivial⟩, rfl⟩ ?_)))))))))
          obtain ⟨⟨y45, y46⟩, hy47, h⟩ := bindO_some h
          refine JO.callX rfl rfl rfl rfl (ok_s_l01Below (x0.1, y38.2.1, y38.2.2) 5 a4 a5 c6 x0.1.length rfl _ hy47) rfl [1] rfl [0] rfl rfl fun _ _ => JO.reg ttOk 1 [] [] [(22, .v (.bool (decide (y45 = 0))))] _ rfl ⟨⟨rfl, trivial⟩, rfl⟩ (JO.done rfl ?_)
          refine JS.cond rfl (fun ht101 => ?_) (fun ht101 => ?_)
          · have h := condT h ht101
            obtain ⟨⟨y48, y49⟩, hy50, h⟩ := bindO_some h
            obtain ⟨⟨y51, y52⟩, hy53, h⟩ := bindO_some h
            obtain ⟨y54, hy55, h⟩ := bindO_some h
            refine JS.regionA rfl (.new 4 26 (cl26 y40 a42 c43) .nil) [] [9, 10] ⟨rfl, rfl, rfl, rfl, trivial⟩ rfl (fun be58 => ?_)
            refine JA.reg ttOk panic_cxX true 4 [0, 1, 2, 3, 5, 6, 7] rfl (by kernel_rfl) [] [(23, .v (.agg (cl26 y40 a42 c43).toArray)), (24, .ep ⟨a4, 1, 1⟩ 0), (26, .v (.int .i64 y40.1)), (28, .ep ⟨a4, 1, 1⟩ 0), (30, .v (.int .i64 y40.2.1))] ⟨rfl, rfl, rfl, rfl, trivial⟩ [] rfl rfl ⟨rfl, rfl, rfl, rfl, rfl, trivial⟩ (JA.one 4 (by kernel_rfl) (JK.callX rfl rfl rfl rfl (ok_s_l01Below (x0.1, y46.2.1, y46.2.2) y40.1 a4 a5 c6 x0.1.length rfl _ hy50) rfl [0] rfl [0] rfl rfl fun _ _ => JA.next ⟨rfl, rfl, rfl, rfl, trivial⟩ [] rfl (JA.one 8 (by kernel_rfl) (JK.callX rfl rfl rfl rfl (ok_s_l01Below (x0.1, y49.2.1, y49.2.2) y40.2.1 a4 a5 c6 x0.1.length rfl _ hy53) rfl [0] rfl [0] rfl rfl fun _ _ => JA.next ⟨rfl, rfl, rfl, rfl, trivial⟩ [] rfl (JA.one 9 (by kernel_rfl) (JK.call rfl rfl rfl rfl (ok_s_GridGo y40 y48 y51 a42 c43 y40.2.2.1.length rfl _ hy55) rfl [2] rfl rfl ?_))))))
            rintro ⟨a56, c57⟩ -
            refine JA.nextL rfl (JA.one 10 (by kernel_rfl) (JK.stBox ttOk rfl rfl rfl rfl rfl rfl rfl rfl (JK.boxes (B' := (.new 4 26 (cl26 y54 a56 c57) (.new 5 26 (cl26 (0, 0, [], 0, 0, false) none 0) .nil))) ⟨rfl, rfl, rfl, rfl, rfl, rfl, rfl, rfl, trivial⟩ (JA.nextL rfl (JA.done (by kernel_rfl) (JS.boxes (B' := (.new 4 26 (cl26 y54 a56 c57) (.new 5 26 (cl26 (0, 0, [], 0, 0, false) none 0) .nil))) ⟨rfl, rfl, rfl, rfl, rfl, rfl, rfl, rfl, trivial⟩ (JS.endB (JS.endJ (y54.1, y54.2.1, y54.2.2.1, y54.2.2.2.1, y54.2.2.2.2.1, y54.2.2.2.2.2, y52.2.1, y52.2.2, a56, c57) h ⟨rfl, rfl, rfl, rfl, trivial⟩ ⟨rfl, rfl, rfl, rfl, rfl, rfl, rfl, rfl, trivial⟩ [0] rfl [0, 0] rfl))))))))
          have h := condF h ht101
          refine JS.skip (JS.endB (JS.endJ (y40.1, y40.2.1, y40.2.2.1, y40.2.2.2.1, y40.2.2.2.2.1, y40.2.2.2.2.2, y46.2.1, y46.2.2, a42, c43) h ⟨rfl, rfl, rfl, rfl, trivial⟩ ⟨rfl, rfl, rfl, rfl, rfl, rfl, rfl, rfl, trivial⟩ [0] rfl [1, 0] rfl))
        rintro ⟨x60, x61, x62, x65, x66, x67, x68, x69, a63, c64⟩ h
        subst hj102
        refine JS.region (JO.reg ttOk 3 [(W (x17 - 1))] [] [(7, .v (.int .i64 (W (x17 - 1))))] _ rfl ⟨⟨trivial, rfl⟩, ⟨rfl, trivial⟩, rfl⟩ (JO.done rfl (JS.endL (n82, (W (x17 - 1)), x60, x61, x62, x65, x66, x67, x68, x69, a63, c64) h (Nat.lt_succ_self _) ⟨rfl, rfl, rfl, rfl, trivial⟩ ⟨rfl, rfl, rfl, rfl, rfl, rfl, rfl, rfl, trivial⟩ [0] rfl [0, 0] rfl)))
      have h := condF h ht103
      refine JS.exit rfl (JS.endJ (x18, x19, x74, x20, x21, x22, x34, x35, a75, c76) h ⟨rfl, rfl, trivial⟩ ⟨rfl, rfl, rfl, rfl, rfl, rfl, rfl, rfl, trivial⟩ [0] rfl [0, 0] rfl)
    rintro ⟨x86, x87, x88, x91, x92, x93, x94, x95, a89, c90⟩ h
    subst hj104
    refine JS.seq (JS.region (JO.regB ttOk 2 [] [] [] (.new 5 26 (cl26 (x86, x87, x88, x91, x92, x93) a89 c90) .nil) rfl ⟨trivial, ⟨rfl, rfl, rfl, rfl, trivial⟩⟩ (JO.done rfl ?_)))
    cases h
    exact JS.retX ttOk (a89, c90) trivial rfl rfl [1, 0] rfl

def M_s_l08Draw (x0 : List UInt8 × Int × Int) : Option ((Int × Int × List Int × Int × Int × Bool) × List UInt8 × Int × Int) :=
  (bindO (M_s_l08Sized x0) fun (y7, y8) =>
  (bindO (M_s_l08Fill (x0.1, y8.2.1, y8.2.2) y7 24) fun (y12, y13) =>
  some (y12, (x0.1, y13.2.1, y13.2.2))))

theorem ok_s_l08Draw (x0 : List UInt8 × Int × Int) (a2 : Option Addr) (a3 : Option Addr) (c4 : Nat) (l5 : Nat) (hl6 : x0.1.length = l5) (r : (Int × Int × List Int × Int × Int × Bool) × List UInt8 × Int × Int) (h : M_s_l08Draw x0 = some r) :
    FX Try.prog 58 [.pointer a2] [⟨.byte, ⟨a3, l5, c4⟩, x0.1⟩] [⟨(.pair .val (.pair (.int .i64) (.int .i64))), ⟨a2, 1, 1⟩, [((Sl.v ⟨a3, l5, c4⟩), x0.2.1, x0.2.2)]⟩] (fun _ : Option Addr × Nat => True) (fun q => .agg (cl26 r.1 q.1 q.2).toArray) (fun q => [⟨(.pair .val (.pair (.int .i64) (.int .i64))), ⟨a2, 1, 1⟩, [((Sl.v ⟨a3, l5, c4⟩), r.2.2.1, r.2.2.2)]⟩, ⟨(.int .i64), ⟨q.1, r.1.2.2.1.length, q.2⟩, r.1.2.2.1⟩]) :=
  by
    subst hl6
    refine FX.of (T := TTx) Try.call58 Try.func58 rfl rfl fun w0 L0 => ?_
    unfold M_s_l08Draw at h
    refine JS.ptr 0 a2 rfl ?_
    refine JS.seq (JS.region (JO.regB ttOk 1 [] [3] [(2, .bp 3 0)] (.new 3 26 (cl26 (0, 0, [], 0, 0, false) none 0) .nil) rfl ⟨⟨rfl, trivial⟩, ⟨rfl, rfl, rfl, rfl, trivial⟩⟩ (JO.done rfl (JS.seq (JS.region (JO.reg ttOk 1 [] [] [(4, .ep ⟨a2, 1, 1⟩ 0)] _ rfl ⟨⟨rfl, trivial⟩, rfl⟩ ?_))))))
    obtain ⟨⟨y7, y8⟩, hy9, h⟩ := bindO_some h
    refine JO.callX rfl rfl rfl rfl (ok_s_l08Sized x0 a2 a3 c4 x0.1.length rfl _ hy9) rfl [0] rfl [0] rfl rfl ?_
    rintro ⟨a10, c11⟩ -
    refine JO.regB ttOk 2 [] [10] [(3, .bp 10 0)] (.new 3 26 (cl26 (0, 0, [], 0, 0, false) none 0) (.new 10 26 (cl26 y7 a10 c11) .nil)) rfl ⟨⟨rfl, trivial⟩, ⟨rfl, rfl, rfl, rfl, rfl, rfl, rfl, rfl, trivial⟩⟩ (JO.done rfl (JS.seq (JS.region (JO.reg ttOk 2 [] [] [(6, .ep ⟨a2, 1, 1⟩ 0), (7, .v (.agg (cl26 y7 a10 c11).toArray))] _ rfl ⟨⟨rfl, rfl, trivial⟩, rfl⟩ ?_))))
    obtain ⟨⟨y12, y13⟩, hy14, h⟩ := bindO_some h
    refine JO.callX rfl rfl rfl rfl (ok_s_l08Fill (x0.1, y8.2.1, y8.2.2) y7 24 a2 a3 c4 x0.1.length rfl a10 c11 y7.2.2.1.length rfl _ hy14) rfl [0, 0] rfl [0] rfl rfl ?_
    rintro ⟨a15, c16⟩ -
    refine JO.regB ttOk 1 [] [] [] (.new 3 26 (cl26 y12 a15 c16) .nil) rfl ⟨trivial, ⟨rfl, rfl, rfl, rfl, trivial⟩⟩ (JO.done rfl ?_)
    cases h
    exact JS.retX ttOk (a15, c16) trivial rfl rfl [0, 0] rfl

def M_s_MakeGrids (x0 : List UInt8) : Option ((Int × Int × List Int × Int × Int × Bool) × Int × Int × List Int × Int × Int × Bool) :=
  (bindO (M_s_l01New x0) fun (y6 : List UInt8 × Int × Int) =>
  (bindO (M_s_l08Draw (x0, y6.2.1, y6.2.2)) fun (y9, y10) =>
  (bindO (M_s_l08Copy y9) fun (y14 : Int × Int × List Int × Int × Int × Bool) =>
  (joinO (fun ((x27, x28, x29, x32, x33, x34, x35, x36) : Int × Int × List Int × Int × Int × Bool × Int × Int) =>
  (bindO (M_s_l08Fill (x0, x35, x36) (x27, x28, x29, x32, x33, x34) 12) fun (y39, y40) =>
  (bindO (M_s_l01Below (x0, y40.2.1, y40.2.2) y39.1) fun (y44, y45) =>
  (bindO (M_s_l01Below (x0, y45.2.1, y45.2.2) y39.2.1) fun (y47, y48) =>
  (bindO (M_s_GridGo y39 y44 y47) fun (y50 : Int × Int × List Int × Int × Int × Bool) =>
  some (y9, y50)))))) fun j37 =>
  (bindO (M_s_l01Below (x0, y10.2.1, y10.2.2) 3) fun (y18, y19) =>
  (bif (decide (y18 = 0)) then
  (bindO (M_s_GridNew y9.1 y9.2.1) fun (y21, y22) =>
  j37 (y21.1, y21.2.1, y21.2.2.1, y21.2.2.2.1, y21.2.2.2.2.1, y21.2.2.2.2.2, y19.2.1, y19.2.2))
  else
  j37 (y14.1, y14.2.1, y14.2.2.1, y14.2.2.2.1, y14.2.2.2.2.1, y14.2.2.2.2.2, y19.2.1, y19.2.2)))))))

theorem ok_s_MakeGrids (x0 : List UInt8) (a2 : Option Addr) (c3 : Nat) (l4 : Nat) (hl5 : x0.length = l4) (r : (Int × Int × List Int × Int × Int × Bool) × Int × Int × List Int × Int × Int × Bool) (h : M_s_MakeGrids x0 = some r) :
    FC Try.prog 16 [.slice a2 l4 c3] [⟨.byte, ⟨a2, l4, c3⟩, x0⟩] (fun _ : Option Addr × Nat × Option Addr × Nat => True) (fun q => .tuple #[.agg (cl26 r.1 q.1 q.2.1).toArray, .agg (cl26 r.2 q.2.2.1 q.2.2.2).toArray]) (fun q => [⟨(.int .i64), ⟨q.1, r.1.2.2.1.length, q.2.1⟩, r.1.2.2.1⟩, ⟨(.int .i64), ⟨q.2.2.1, r.2.2.2.1.length, q.2.2.2⟩, r.2.2.2.1⟩]) :=
  by
    subst hl5
    refine FC.of (T := TTx) Try.call16 Try.func16 rfl rfl fun w0 => ?_
    unfold M_s_MakeGrids at h
    refine JS.seq (JS.region (JO.regB ttOk 2 [] [2, 3] [(2, .bp 2 0), (3, .bp 3 0)] (.new 2 26 (cl26 (0, 0, [], 0, 0, false) none 0) (.new 3 26 (cl26 (0, 0, [], 0, 0, false) none 0) .nil)) rfl ⟨⟨rfl, rfl, trivial⟩, ⟨rfl, rfl, rfl, rfl, rfl, rfl, rfl, rfl, trivial⟩⟩ (JO.done rfl (JS.seq (JS.region (JO.reg ttOk 1 [] [] [(7, .v (.slice a2 x0.length c3))] _ rfl ⟨⟨rfl, trivial⟩, rfl⟩ ?_))))))
    obtain ⟨y6, hy7, h⟩ := bindO_some h
    refine JO.call rfl rfl rfl rfl (ok_s_l01New x0 a2 c3 x0.length rfl _ hy7) rfl [0] rfl rfl fun a8 _ => JO.ptr 8 a8 rfl (JO.reg ttOk 1 [] [] [(4, .ep ⟨a8, 1, 1⟩ 0)] _ rfl ⟨⟨rfl, trivial⟩, rfl⟩ (JO.done rfl (JS.seq (JS.region (JO.reg ttOk 1 [] [] [(9, .ep ⟨a8, 1, 1⟩ 0)] _ rfl ⟨⟨rfl, trivial⟩, rfl⟩ ?_)))))
    obtain ⟨⟨y9, y10⟩, hy11, h⟩ := bindO_some h
    refine JO.callX rfl rfl rfl rfl (ok_s_l08Draw (x0, y6.2.1, y6.2.2) a8 a2 c3 x0.length rfl _ hy11) rfl [0] rfl [0] rfl rfl ?_
    rintro ⟨a12, c13⟩ -
    refine JO.regB ttOk 2 [] [14] [(5, .bp 14 0)] (.new 2 26 (cl26 (0, 0, [], 0, 0, false) none 0) (.new 3 26 (cl26 (0, 0, [], 0, 0, false) none 0) (.new 14 26 (cl26 y9 a12 c13) .nil))) rfl ⟨⟨rfl, trivial⟩, ⟨rfl, rfl, rfl, rfl, rfl, rfl, rfl, rfl, rfl, rfl, rfl, rfl, trivial⟩⟩ (JO.done rfl (JS.seq (JS.region (JO.reg ttOk 1 [] [] [(11, .v (.agg (cl26 y9 a12 c13).toArray))] _ rfl ⟨⟨rfl, trivial⟩, rfl⟩ ?_))))
    obtain ⟨y14, hy15, h⟩ := bindO_some h
    refine JO.call rfl rfl rfl rfl (ok_s_l08Copy y9 a12 c13 y9.2.2.1.length rfl _ hy15) rfl [2] rfl rfl ?_
    rintro ⟨a16, c17⟩ -
    refine JO.regB ttOk 2 [] [20] [(6, .bp 20 0)] (.new 2 26 (cl26 (0, 0, [], 0, 0, false) none 0) (.new 3 26 (cl26 (0, 0, [], 0, 0, false) none 0) (.new 14 26 (cl26 y9 a12 c13) (.new 20 26 (cl26 y14 a16 c17) .nil)))) rfl ⟨⟨rfl, trivial⟩, ⟨rfl, rfl, rfl, rfl, rfl, rfl, rfl, rfl, rfl, rfl, rfl, rfl, rfl, rfl, rfl, rfl, trivial⟩⟩ (JO.done rfl ?_)
    obtain ⟨j37, hj57, h⟩ := joinO_some h
    refine JS.seqJ (ι := Int × Int × List Int × Int × Int × Bool × Int × Int × Option Addr × Nat) ⟨fun z => j37 (z.1, z.2.1, z.2.2.1, z.2.2.2.1, z.2.2.2.2.1, z.2.2.2.2.2.1, z.2.2.2.2.2.2.1, z.2.2.2.2.2.2.2.1) = some r, fun z => [(2, .bp 2 0), (3, .bp 3 0), (4, .ep ⟨a8, 1, 1⟩ 0), (5, .bp 14 0), (6, .bp 20 0)], fun z => (.new 2 26 (cl26 (0, 0, [], 0, 0, false) none 0) (.new 3 26 (cl26 (0, 0, [], 0, 0, false) none 0) (.new 14 26 (cl26 y9 a12 c13) (.new 20 26 (cl26 (z.1, z.2.1, z.2.2.1, z.2.2.2.1, z.2.2.2.2.1, z.2.2.2.2.2.1) z.2.2.2.2.2.2.2.2.1 z.2.2.2.2.2.2.2.2.2) .nil)))), fun z => [⟨.byte, ⟨a2, x0.length, c3⟩, x0⟩], fun z => [⟨(.int .i64), ⟨z.2.2.2.2.2.2.2.2.1, z.2.2.1.length, z.2.2.2.2.2.2.2.2.2⟩, z.2.2.1⟩, ⟨(.pair .val (.pair (.int .i64) (.int .i64))), ⟨a8, 1, 1⟩, [((Sl.v ⟨a2, x0.length, c3⟩), z.2.2.2.2.2.2.1, z.2.2.2.2.2.2.2.1)]⟩, ⟨(.int .i64), ⟨a12, y9.2.2.1.length, c13⟩, y9.2.2.1⟩], fun z => 0⟩ ?_ ?_
    · refine JS.seq (JS.region (JO.reg ttOk 1 [] [] [(13, .ep ⟨a8, 1, 1⟩ 0)] _ rfl ⟨⟨rfl, trivial⟩, rfl⟩ ?_))
      obtain ⟨⟨y18, y19⟩, hy20, h⟩ := bindO_some h
      refine JO.callX rfl rfl rfl rfl (ok_s_l01Below (x0, y10.2.1, y10.2.2) 3 a8 a2 c3 x0.length rfl _ hy20) rfl [1] rfl [0] rfl rfl fun _ _ => JO.reg ttOk 1 [] [] [(15, .v (.bool (decide (y18 = 0))))] _ rfl ⟨⟨rfl, trivial⟩, rfl⟩ (JO.done rfl ?_)
      refine JS.cond rfl (fun ht56 => ?_) (fun ht56 => ?_)
      · have h := condT h ht56
        refine JS.region (JO.reg ttOk 4 [] [] [(18, .v (.int .i64 y9.1)), (20, .v (.int .i64 y9.2.1))] _ rfl ⟨⟨rfl, rfl, trivial⟩, rfl⟩ ?_)
        obtain ⟨⟨y21, y22⟩, hy23, h⟩ := bindO_some h
        refine JO.call rfl rfl rfl rfl (ok_s_GridNew y9.1 y9.2.1 _ hy23) rfl [] rfl rfl ?_
        rintro ⟨a24, c25⟩ -
        refine JO.regB ttOk 4 [] [] [] (.new 2 26 (cl26 (0, 0, [], 0, 0, false) none 0) (.new 3 26 (cl26 (0, 0, [], 0, 0, false) none 0) (.new 14 26 (cl26 y9 a12 c13) (.new 20 26 (cl26 y21 a24 c25) .nil)))) rfl ⟨trivial, ⟨rfl, rfl, rfl, rfl, rfl, rfl, rfl, rfl, rfl, rfl, rfl, rfl, rfl, rfl, rfl, rfl, trivial⟩⟩ (JO.done rfl (JS.endJA (y21.1, y21.2.1, y21.2.2.1, y21.2.2.2.1, y21.2.2.2.2.1, y21.2.2.2.2.2, y19.2.1, y19.2.2, a24, c25) h ⟨rfl, rfl, rfl, rfl, rfl, trivial⟩ ⟨rfl, rfl, rfl, rfl, rfl, rfl, rfl, rfl, rfl, rfl, rfl, rfl, rfl, rfl, rfl, rfl, trivial⟩ [0] rfl [0, 1, 3] rfl rfl))
      have h := condF h ht56
      refine JS.skip (JS.endJA (y14.1, y14.2.1, y14.2.2.1, y14.2.2.2.1, y14.2.2.2.2.1, y14.2.2.2.2.2, y19.2.1, y19.2.2, a16, c17) h ⟨rfl, rfl, rfl, rfl, rfl, trivial⟩ ⟨rfl, rfl, rfl, rfl, rfl, rfl, rfl, rfl, rfl, rfl, rfl, rfl, rfl, rfl, rfl, rfl, trivial⟩ [0] rfl [1, 0, 2] rfl rfl)
    rintro ⟨x27, x28, x29, x32, x33, x34, x35, x36, a30, c31⟩ h
    subst hj57
    refine JS.seq (JS.region (JO.reg ttOk 2 [] [] [(24, .ep ⟨a8, 1, 1⟩ 0), (25, .v (.agg (cl26 (x27, x28, x29, x32, x33, x34) a30 c31).toArray))] _ rfl ⟨⟨rfl, rfl, trivial⟩, rfl⟩ ?_))
    obtain ⟨⟨y39, y40⟩, hy41, h⟩ := bindO_some h
    refine JO.callX rfl rfl rfl rfl (ok_s_l08Fill (x0, x35, x36) (x27, x28, x29, x32, x33, x34) 12 a8 a2 c3 x0.length rfl a30 c31 x29.length rfl _ hy41) rfl [1, 0] rfl [0] rfl rfl ?_
    rintro ⟨a42, c43⟩ -
    refine JO.regB ttOk 1 [] [] [] (.new 2 26 (cl26 (0, 0, [], 0, 0, false) none 0) (.new 3 26 (cl26 (0, 0, [], 0, 0, false) none 0) (.new 14 26 (cl26 y9 a12 c13) (.new 20 26 (cl26 y39 a42 c43) .nil)))) rfl ⟨trivial, ⟨rfl, rfl, rfl, rfl, rfl, rfl, rfl, rfl, rfl, rfl, rfl, rfl, rfl, rfl, rfl, rfl, trivial⟩⟩ (JO.done rfl (JS.seq ?_))
    obtain ⟨⟨y44, y45⟩, hy46, h⟩ := bindO_some h
    obtain ⟨⟨y47, y48⟩, hy49, h⟩ := bindO_some h
    obtain ⟨y50, hy51, h⟩ := bindO_some h
    refine JS.regionA rfl (.new 14 26 (cl26 y9 a12 c13) (.new 20 26 (cl26 y39 a42 c43) .nil)) [] [11, 12] ⟨rfl, rfl, rfl, rfl, rfl, rfl, rfl, rfl, trivial⟩ rfl (fun be54 => ?_)
    refine JA.reg ttOk panic_cx true 5 [0, 1, 2, 3, 4, 6, 7, 8] rfl (by kernel_rfl) [] [(27, .v (.agg (cl26 y9 a12 c13).toArray)), (28, .v (.agg (cl26 y39 a42 c43).toArray)), (29, .ep ⟨a8, 1, 1⟩ 0), (31, .v (.int .i64 y39.1)), (33, .ep ⟨a8, 1, 1⟩ 0), (35, .v (.int .i64 y39.2.1))] ⟨rfl, rfl, rfl, rfl, rfl, rfl, rfl, rfl, trivial⟩ [] rfl rfl ⟨rfl, rfl, rfl, rfl, rfl, rfl, trivial⟩ (JA.one 5 (by kernel_rfl) (JK.callX rfl rfl rfl rfl (ok_s_l01Below (x0, y40.2.1, y40.2.2) y39.1 a8 a2 c3 x0.length rfl _ hy46) rfl [0] rfl [0] rfl rfl fun _ _ => JA.next ⟨rfl, rfl, rfl, rfl, rfl, rfl, rfl, rfl, trivial⟩ [] rfl (JA.one 9 (by kernel_rfl) (JK.callX rfl rfl rfl rfl (ok_s_l01Below (x0, y45.2.1, y45.2.2) y39.2.1 a8 a2 c3 x0.length rfl _ hy49) rfl [0] rfl [0] rfl rfl fun _ _ => JA.next ⟨rfl, rfl, rfl, rfl, rfl, rfl, rfl, rfl, trivial⟩ [] rfl (JA.one 10 (by kernel_rfl) (JK.call rfl rfl rfl rfl (ok_s_GridGo y39 y44 y47 a42 c43 y39.2.2.1.length rfl _ hy51) rfl [2] rfl rfl ?_))))))
    rintro ⟨a52, c53⟩ -
    refine JA.next ⟨rfl, rfl, rfl, rfl, rfl, rfl, rfl, rfl, trivial⟩ [] rfl (JA.one 11 (by kernel_rfl) (JK.stBox ttOk rfl rfl rfl rfl rfl rfl rfl rfl (JK.boxes (B' := (.new 2 26 (cl26 y9 a12 c13) (.new 3 26 (cl26 (0, 0, [], 0, 0, false) none 0) (.new 14 26 (cl26 y9 a12 c13) (.new 20 26 (cl26 y39 a42 c43) .nil))))) ⟨rfl, rfl, rfl, rfl, rfl, rfl, rfl, rfl, rfl, rfl, rfl, rfl, rfl, rfl, rfl, rfl, trivial⟩ (JA.nextL rfl (JA.one 12 (by kernel_rfl) (JK.stBox ttOk rfl rfl rfl rfl rfl rfl rfl rfl (JK.boxes (B' := (.new 2 26 (cl26 y9 a12 c13) (.new 3 26 (cl26 y50 a52 c53) (.new 14 26 (cl26 y9 a12 c13) (.new 20 26 (cl26 y39 a42 c43) .nil))))) ⟨rfl, rfl, rfl, rfl, rfl, rfl, rfl, rfl, rfl, rfl, rfl, rfl, rfl, rfl, rfl, rfl, trivial⟩ (JA.nextL rfl (JA.done (by kernel_rfl) (JS.boxes (B' := (.new 2 26 (cl26 y9 a12 c13) (.new 3 26 (cl26 y50 a52 c53) .nil))) ⟨rfl, rfl, rfl, rfl, rfl, rfl, rfl, rfl, trivial⟩ ?_))))))))))
    cases h
    exact JS.ret ttOk (a12, c13, a52, c53) trivial rfl rfl [3, 0] rfl

def M_s_MakeRune (x0 : List UInt8) : Option Int :=
  (bindO (M_s_l01New x0) fun (y6 : List UInt8 × Int × Int) =>
  (bindO (M_s_l02Rune (x0, y6.2.1, y6.2.2)) fun (y9, y10) =>
  some y9))

theorem ok_s_MakeRune (x0 : List UInt8) (a2 : Option Addr) (c3 : Nat) (l4 : Nat) (hl5 : x0.length = l4) (r : Int) (h : M_s_MakeRune x0 = some r) :
    FC Try.prog 17 [.slice a2 l4 c3] [⟨.byte, ⟨a2, l4, c3⟩, x0⟩] (fun _ : Unit => True) (fun _ => .int .i64 r) (fun _ => []) :=
  by
    subst hl5
    refine FC.of (T := TTx) Try.call17 Try.func17 rfl rfl fun w0 => ?_
    unfold M_s_MakeRune at h
    refine JS.seq (JS.region (JO.reg ttOk 1 [] [] [] _ rfl ⟨trivial, rfl⟩ (JO.done rfl (JS.seq (JS.region (JO.reg ttOk 1 [] [] [(5, .v (.slice a2 x0.length c3))] _ rfl ⟨⟨rfl, trivial⟩, rfl⟩ ?_))))))
    obtain ⟨y6, hy7, h⟩ := bindO_some h
    refine JO.call rfl rfl rfl rfl (ok_s_l01New x0 a2 c3 x0.length rfl _ hy7) rfl [0] rfl rfl fun a8 _ => JO.ptr 6 a8 rfl (JO.reg ttOk 1 [] [] [(3, .ep ⟨a8, 1, 1⟩ 0)] _ rfl ⟨⟨rfl, trivial⟩, rfl⟩ (JO.done rfl (JS.seq (JS.region (JO.reg ttOk 1 [] [] [(7, .ep ⟨a8, 1, 1⟩ 0)] _ rfl ⟨⟨rfl, trivial⟩, rfl⟩ ?_)))))
    obtain ⟨⟨y9, y10⟩, hy11, h⟩ := bindO_some h
    refine JO.callX rfl rfl rfl rfl (ok_s_l02Rune (x0, y6.2.1, y6.2.2) a8 a2 c3 x0.length rfl _ hy11) rfl [0] rfl [0] rfl rfl fun _ _ => JO.reg ttOk 1 [] [] [(4, .v (.int .i64 y9))] _ rfl ⟨⟨rfl, trivial⟩, rfl⟩ (JO.done rfl (JS.seq (JS.region (JO.reg ttOk 2 [] [] [(2, .v (.int .i64 y9))] _ rfl ⟨⟨rfl, trivial⟩, rfl⟩ (JO.done rfl ?_)))))
    cases h
    exact JS.ret ttOk () trivial rfl rfl [] rfl

def M_i_in (x0 : Int) (x1 : Int) (x2 : Int) : Option Bool :=
  some (bif (decide (x1 ≤ x0)) then (decide (x0 ≤ x2)) else false)

theorem ok_i_in (x0 : Int) (x1 : Int) (x2 : Int) (r : Bool) (h : M_i_in x0 x1 x2 = some r) :
    FC Try.prog 64 [.int .i64 x0, .int .i64 x1, .int .i64 x2] [] (fun _ : Unit => True) (fun _ => .bool r) (fun _ => []) :=
  by
    refine FC.of (T := TTx) Try.call64 Try.func64 rfl rfl fun w0 => ?_
    unfold M_i_in at h
    refine JS.seq (JS.region (JO.reg ttOk 1 [] [] [] _ rfl ⟨trivial, rfl⟩ (JO.done rfl (JS.seq (JS.region (JO.reg ttOk 9 [] [] [(6, .v (.bool (bif (decide (x1 ≤ x0)) then (decide (x0 ≤ x2)) else false)))] _ rfl ⟨⟨rfl, trivial⟩, rfl⟩ (JO.done rfl ?_)))))))
    cases h
    exact JS.ret ttOk () trivial rfl rfl [] rfl

def M_i_RuneOk (x0 : Int) : Option Bool :=
  (bindO (M_i_in x0 0 1114111) fun (y2 : Bool) =>
  (callO (y2 = true) (M_i_in x0 55296 57343) false fun (y4 : Bool) =>
  some (bif y2 then (!y4) else false)))

theorem ok_i_RuneOk (x0 : Int) (r : Bool) (h : M_i_RuneOk x0 = some r) :
    FC Try.prog 88 [.int .i64 x0] [] (fun _ : Unit => True) (fun _ => .bool r) (fun _ => []) :=
  by
    refine FC.of (T := TTx) Try.call88 Try.func88 rfl rfl fun w0 => ?_
    unfold M_i_RuneOk at h
    refine JS.seq (JS.region (JO.reg ttOk 1 [] [] [] _ rfl ⟨trivial, rfl⟩ (JO.done rfl (JS.seq (JS.region (JO.reg ttOk 1 [] [] [(3, .v (.int .i64 x0))] _ rfl ⟨⟨rfl, trivial⟩, rfl⟩ ?_))))))
    obtain ⟨y2, hy3, h⟩ := bindO_some h
    refine JO.call rfl rfl rfl rfl (ok_i_in x0 0 1114111 _ hy3) rfl [] rfl rfl fun _ _ => JO.reg ttOk 2 [] [] [(5, .v (.bool y2)), (6, .cd [(5, true)] (.v (.int .i64 x0)))] _ rfl ⟨⟨rfl, rfl, trivial⟩, rfl⟩ ?_
    obtain ⟨y4, hy5, -, h⟩ := callO_some h
    refine JO.callg rfl rfl rfl rfl (fun q7 => ok_i_in x0 55296 57343 _ (hy5 q7)) rfl [] rfl rfl (JO.reg ttOk 3 [] [] [(2, .v (.bool (bif y2 then (!y4) else false)))] _ rfl ⟨⟨rfl, trivial⟩, rfl⟩ (JO.done rfl ?_))
    cases h
    exact JS.ret ttOk () trivial rfl rfl [] rfl

def M_i_Printable (x0 : Int) : Option Bool :=
  (bindO (M_i_RuneOk x0) fun (y2 : Bool) =>
  (callO ((bif y2 then (decide (32 ≤ x0)) else false) = true) (M_i_in x0 127 159) false fun (y4 : Bool) =>
  some (bif (bif y2 then (decide (32 ≤ x0)) else false) then (!y4) else false)))

theorem ok_i_Printable (x0 : Int) (r : Bool) (h : M_i_Printable x0 = some r) :
    FC Try.prog 63 [.int .i64 x0] [] (fun _ : Unit => True) (fun _ => .bool r) (fun _ => []) :=
  by
    refine FC.of (T := TTx) Try.call63 Try.func63 rfl rfl fun w0 => ?_
    unfold M_i_Printable at h
    refine JS.seq (JS.region (JO.reg ttOk 1 [] [] [] _ rfl ⟨trivial, rfl⟩ (JO.done rfl (JS.seq (JS.region (JO.reg ttOk 1 [] [] [(3, .v (.int .i64 x0))] _ rfl ⟨⟨rfl, trivial⟩, rfl⟩ ?_))))))
    obtain ⟨y2, hy3, h⟩ := bindO_some h
    refine JO.call rfl rfl rfl rfl (ok_i_RuneOk x0 _ hy3) rfl [] rfl rfl fun _ _ => JO.reg ttOk 6 [] [] [(9, .v (.bool (bif y2 then (decide (32 ≤ x0)) else false))), (10, .cd [(9, true)] (.v (.int .i64 x0)))] _ rfl ⟨⟨rfl, rfl, trivial⟩, rfl⟩ ?_
    obtain ⟨y4, hy5, -, h⟩ := callO_some h
    refine JO.callg rfl rfl rfl rfl (fun q7 => ok_i_in x0 127 159 _ (hy5 q7)) rfl [] rfl rfl (JO.reg ttOk 3 [] [] [(2, .v (.bool (bif (bif y2 then (decide (32 ≤ x0)) else false) then (!y4) else false)))] _ rfl ⟨⟨rfl, trivial⟩, rfl⟩ (JO.done rfl ?_))
    cases h
    exact JS.ret ttOk () trivial rfl rfl [] rfl

def M_i_Width_L1 (x0 : Int) (j23 : Unit → Option Int) (k18 : Int → Option Int) : Int → Option Int := fun x8 =>
  (bif (decide (x8 < (([(4352, 4447), (11904, 42191), (44032, 55203), (63744, 64255), (65280, 65376), (65504, 65510), (127744, 129791), (131072, 262141)] : List (Int × Int)).length : Int))) then
  (guardO (0 ≤ x8 ∧ x8 < (([(4352, 4447), (11904, 42191), (44032, 55203), (63744, 64255), (65280, 65376), (65504, 65510), (127744, 129791), (131072, 262141)] : List (Int × Int)).length : Int)) <|
  (bindO (M_i_in x0 ((at' ([(4352, 4447), (11904, 42191), (44032, 55203), (63744, 64255), (65280, 65376), (65504, 65510), (127744, 129791), (131072, 262141)] : List (Int × Int)) x8).1) ((at' ([(4352, 4447), (11904, 42191), (44032, 55203), (63744, 64255), (65280, 65376), (65504, 65510), (127744, 129791), (131072, 262141)] : List (Int × Int)) x8).2)) fun (y11 : Bool) =>
  (bif y11 then
  some 2
  else
  k18 (W (x8 + 1)))))
  else
  j23 ())

def M_i_Width (x0 : Int) : Option Int :=
  (bindO (M_i_Printable x0) fun (y2 : Bool) =>
  (bif (!y2) then
  some 0
  else
  (joinO (fun (_ : Unit) =>
  some 1) fun j23 =>
  (fixF (M_i_Width_L1 x0 j23) FUEL 0))))

theorem ok_i_Width (x0 : Int) (r : Int) (h : M_i_Width x0 = some r) :
    FC Try.prog 18 [.int .i64 x0] [] (fun _ : Unit => True) (fun _ => .int .i64 r) (fun _ => []) :=
  by
    refine FC.of (T := TTx) Try.call18 Try.func18 rfl rfl fun w0 => ?_
    unfold M_i_Width at h
    refine JS.seq (JS.region (JO.reg ttOk 1 [] [] [] _ rfl ⟨trivial, rfl⟩ (JO.done rfl (JS.seq (JS.seq (JS.region (JO.reg ttOk 1 [] [] [(5, .v (.int .i64 x0))] _ rfl ⟨⟨rfl, trivial⟩, rfl⟩ ?_)))))))
    obtain ⟨y2, hy3, h⟩ := bindO_some h
    refine JO.call rfl rfl rfl rfl (ok_i_Printable x0 _ hy3) rfl [] rfl rfl fun _ _ => JO.reg ttOk 1 [] [] [(7, .v (.bool (!y2)))] _ rfl ⟨⟨rfl, trivial⟩, rfl⟩ (JO.done rfl ?_)
    refine JS.cond rfl (fun ht33 => ?_) (fun ht33 => ?_)
    · have h := condT h ht33
      refine JS.seq (JS.region (JO.reg ttOk 1 [] [] [(2, .v (.int .i64 0))] _ rfl ⟨⟨rfl, trivial⟩, rfl⟩ (JO.done rfl ?_)))
      cases h
      exact JS.ret ttOk () trivial rfl rfl [] rfl
    have h := condF h ht33
    refine JS.skip (JS.seq (JS.seq (JS.region (JO.reg ttOk 8 [] [] [(8, .v (.agg #[.int .i64 4352, .int .i64 4447])), (9, .v (.agg #[.int .i64 11904, .int .i64 42191])), (10, .v (.agg #[.int .i64 44032, .int .i64 55203])), (11, .v (.agg #[.int .i64 63744, .int .i64 64255])), (12, .v (.agg #[.int .i64 65280, .int .i64 65376])), (13, .v (.agg #[.int .i64 65504, .int .i64 65510])), (14, .v (.agg #[.int .i64 127744, .int .i64 129791])), (15, .v (.agg #[.int .i64 131072, .int .i64 262141]))] _ rfl ⟨⟨rfl, rfl, rfl, rfl, rfl, rfl, rfl, rfl, trivial⟩, rfl⟩ ?_))))
    refine JO.ofK rfl (JK.buildSlice ttOk rfl rfl rfl rfl rfl rfl rfl rfl rfl rfl rfl [] rfl (.pair (.int .i64) (.int .i64)) [(4352, 4447), (11904, 42191), (44032, 55203), (63744, 64255), (65280, 65376), (65504, 65510), (127744, 129791), (131072, 262141)] ⟨rfl, rfl⟩ rfl rfl fun a4 => JO.toK ?_)
    refine JO.reg ttOk 2 [] [] [(17, .v (.int .i64 (([(4352, 4447), (11904, 42191), (44032, 55203), (63744, 64255), (65280, 65376), (65504, 65510), (127744, 129791), (131072, 262141)] : List (Int × Int)).length : Int))), (18, .v (.int .i64 0))] _ rfl ⟨⟨rfl, rfl, trivial⟩, rfl⟩ (JO.done rfl ?_)
    obtain ⟨j23, hj32, h⟩ := joinO_some h
    refine JS.blockJ (ι := Unit) ⟨fun _ => j23 () = some r, fun _ => [], fun _ => .nil, fun _ => [], fun _ => [], fun _ => 0⟩ ?_ ?_
    · refine JS.loop (ι := Nat × Int) ⟨fun z => fixF (M_i_Width_L1 x0 j23) z.1 z.2 = some r, fun z => [(0, .v (.int .i64 x0)), (16, .v (.slice a4 ([(4352, 4447), (11904, 42191), (44032, 55203), (63744, 64255), (65280, 65376), (65504, 65510), (127744, 129791), (131072, 262141)] : List (Int × Int)).length ([(4352, 4447), (11904, 42191), (44032, 55203), (63744, 64255), (65280, 65376), (65504, 65510), (127744, 129791), (131072, 262141)] : List (Int × Int)).length)), (17, .v (.int .i64 (([(4352, 4447), (11904, 42191), (44032, 55203), (63744, 64255), (65280, 65376), (65504, 65510), (127744, 129791), (131072, 262141)] : List (Int × Int)).length : Int))), (18, .v (.int .i64 z.2))], fun z => .nil, fun z => [], fun z => [⟨(.pair (.int .i64) (.int .i64)), ⟨a4, ([(4352, 4447), (11904, 42191), (44032, 55203), (63744, 64255), (65280, 65376), (65504, 65510), (127744, 129791), (131072, 262141)] : List (Int × Int)).length, ([(4352, 4447), (11904, 42191), (44032, 55203), (63744, 64255), (65280, 65376), (65504, 65510), (127744, 129791), (131072, 262141)] : List (Int × Int)).length⟩, ([(4352, 4447), (11904, 42191), (44032, 55203), (63744, 64255), (65280, 65376), (65504, 65510), (127744, 129791), (131072, 262141)] : List (Int × Int))⟩], fun z => z.1⟩ (FUEL, 0) h ⟨rfl, rfl, rfl, rfl, trivial⟩ trivial [] rfl [0] rfl ?_
      rintro ⟨n19, x8⟩ h
      obtain ⟨n19, rfl, h⟩ := fixF_some h
      rw [M_i_Width_L1] at h
      refine JS.seq (JS.region (JO.reg ttOk 1 [] [] [(19, .v (.bool (decide (x8 < (([(4352, 4447), (11904, 42191), (44032, 55203), (63744, 64255), (65280, 65376), (65504, 65510), (127744, 129791), (131072, 262141)] : List (Int × Int)).length : Int)))))] _ rfl ⟨⟨rfl, trivial⟩, rfl⟩ (JO.done rfl (JS.seq ?_))))
      refine JS.cond rfl (fun ht31 => ?_) (fun ht31 => ?_)
      · have h := condT h ht31
        refine JS.skip (JS.seq (JS.block (JS.seq (JS.region (JO.know 0 rfl fun hs29 => ?_)))))
        obtain ⟨g10, h⟩ := guardO_some h
        refine JO.reg ttOk 1 [] [] [(20, .ep ⟨a4, ([(4352, 4447), (11904, 42191), (44032, 55203), (63744, 64255), (65280, 65376), (65504, 65510), (127744, 129791), (131072, 262141)] : List (Int × Int)).length, ([(4352, 4447), (11904, 42191), (44032, 55203), (63744, 64255), (65280, 65376), (65504, 65510), (127744, 129791), (131072, 262141)] : List (Int × Int)).length⟩ (Int.toNat x8 * 2))] _ rfl ⟨hs29.ix g10, ⟨rfl, trivial⟩, rfl⟩ (JO.loadV ttOk rfl rfl rfl rfl rfl rfl 0 rfl rfl (Int.toNat x8) 0 (at' ([(4352, 4447), (11904, 42191), (44032, 55203), (63744, 64255), (65280, 65376), (65504, 65510), (127744, 129791), (131072, 262141)] : List (Int × Int)) x8) ⟨at_some g10, rfl⟩ rfl rfl rfl (JO.regB ttOk 2 [] [11] [(4, .bp 11 0)] (.new 11 75 [.int .i64 (at' ([(4352, 4447), (11904, 42191), (44032, 55203), (63744, 64255), (65280, 65376), (65504, 65510), (127744, 129791), (131072, 262141)] : List (Int × Int)) x8).1, .int .i64 (at' ([(4352, 4447), (11904, 42191), (44032, 55203), (63744, 64255), (65280, 65376), (65504, 65510), (127744, 129791), (131072, 262141)] : List (Int × Int)) x8).2] .nil) rfl ⟨⟨rfl, trivial⟩, ⟨rfl, rfl, rfl, rfl, trivial⟩⟩ (JO.done rfl (JS.seq (JS.region (JO.reg ttOk 5 [] [] [(22, .v (.int .i64 x0)), (24, .v (.int .i64 (at' ([(4352, 4447), (11904, 42191), (44032, 55203), (63744, 64255), (65280, 65376), (65504, 65510), (127744, 129791), (131072, 262141)] : List (Int × Int)) x8).1)), (26, .v (.int .i64 (at' ([(4352, 4447), (11904, 42191), (44032, 55203), (63744, 64255), (65280, 65376), (65504, 65510), (127744, 129791), (131072, 262141)] : List (Int × Int)) x8).2))] _ rfl ⟨⟨by decide, by decide⟩, ⟨by decide, by decide⟩, ⟨rfl, rfl, rfl, trivial⟩, rfl⟩ ?_))))))
        obtain ⟨y11, hy12, h⟩ := bindO_some h
        refine JO.call rfl rfl rfl rfl (ok_i_in x0 ((at' ([(4352, 4447), (11904, 42191), (44032, 55203), (63744, 64255), (65280, 65376), (65504, 65510), (127744, 129791), (131072, 262141)] : List (Int × Int)) x8).1) ((at' ([(4352, 4447), (11904, 42191), (44032, 55203), (63744, 64255), (65280, 65376), (65504, 65510), (127744, 129791), (131072, 262141)] : List (Int × Int)) x8).2) _ hy12) rfl [] rfl rfl fun _ _ => JO.done rfl ?_
        refine JS.cond rfl (fun ht30 => ?_) (fun ht30 => ?_)
        · have h := condT h ht30
          refine JS.seq (JS.region (JO.reg ttOk 1 [] [] [(2, .v (.int .i64 2))] _ rfl ⟨⟨rfl, trivial⟩, rfl⟩ (JO.done rfl ?_)))
          cases h
          exact JS.ret ttOk () trivial rfl rfl [] rfl
        have h := condF h ht30
        refine JS.skip (JS.endB (JS.region (JO.reg ttOk 2 [(W (x8 + 1))] [] [(18, .v (.int .i64 (W (x8 + 1))))] _ rfl ⟨⟨trivial, rfl⟩, ⟨rfl, trivial⟩, rfl⟩ (JO.done rfl (JS.endL (n19, (W (x8 + 1))) h (Nat.lt_succ_self _) ⟨rfl, rfl, rfl, rfl, trivial⟩ trivial [] rfl [0] rfl)))))
      have h := condF h ht31
      refine JS.exit rfl (JS.endJ () h trivial trivial [] rfl [] rfl)
    rintro _ h
    subst hj32
    refine JS.seq (JS.region (JO.reg ttOk 1 [] [] [(2, .v (.int .i64 1))] _ rfl ⟨⟨rfl, trivial⟩, rfl⟩ (JO.done rfl ?_)))
    cases h
    exact JS.ret ttOk () trivial rfl rfl [] rfl

def M_i_cellOk (x0 : Int × Int × List Int × Int × Int × Bool) (x1 : Int) : Option Bool :=
  (guardO (0 ≤ x1 ∧ x1 < (x0.2.2.1.length : Int)) <|
  (guardO (x0.1 ≠ 0) <|
  (bif (decide ((at' x0.2.2.1 x1) = (-1))) then
  (guardO (((decide (0 < (Int.tmod x1 x0.1))) = true) → 0 ≤ (W (x1 - 1)) ∧ (W (x1 - 1)) < (x0.2.2.1.length : Int)) <|
  (callO ((decide (0 < (Int.tmod x1 x0.1))) = true) (M_i_Width (at' x0.2.2.1 (W (x1 - 1)))) (0 : Int) fun (y15 : Int) =>
  some (bif (decide (0 < (Int.tmod x1 x0.1))) then (decide (y15 = 2)) else false)))
  else
  (bindO (M_i_Width (at' x0.2.2.1 x1)) fun (y18 : Int) =>
  (bif (decide (y18 = 2)) then
  (guardO (((decide ((W ((Int.tmod x1 x0.1) + 1)) < x0.1)) = true) → 0 ≤ (W (x1 + 1)) ∧ (W (x1 + 1)) < (x0.2.2.1.length : Int)) <|
  some (bif (decide ((W ((Int.tmod x1 x0.1) + 1)) < x0.1)) then (decide ((at' x0.2.2.1 (W (x1 + 1))) = (-1))) else false))
  else
  (bindO (M_i_Width (at' x0.2.2.1 x1)) fun (y24 : Int) =>
  some (decide (y24 = 1))))))))

theorem ok_i_cellOk (x0 : Int × Int × List Int × Int × Int × Bool) (x1 : Int) (a3 : Option Addr) (c4 : Nat) (l5 : Nat) (hl6 : x0.2.2.1.length = l5) (r : Bool) (h : M_i_cellOk x0 x1 = some r) :
    FC Try.prog 65 [.agg #[.int .i64 x0.1, .int .i64 x0.2.1, .slice a3 l5 c4, .int .i64 x0.2.2.2.1, .int .i64 x0.2.2.2.2.1, .bool x0.2.2.2.2.2], .int .i64 x1] [⟨(.int .i64), ⟨a3, l5, c4⟩, x0.2.2.1⟩] (fun _ : Unit => True) (fun _ => .bool r) (fun _ => []) :=
  by
    subst hl6
    refine FC.of (T := TTx) Try.call65 Try.func65 rfl rfl fun w0 => ?_
    unfold M_i_cellOk at h
    refine JS.seq (JS.region (JO.regB ttOk 2 [] [2] [(2, .bp 2 0)] (.new 2 26 (cl26 x0 a3 c4) .nil) rfl ⟨⟨rfl, trivial⟩, ⟨rfl, rfl, rfl, rfl, trivial⟩⟩ (JO.done rfl (JS.seq ?_))))
    obtain ⟨g8, h⟩ := guardO_some h
    obtain ⟨g9, h⟩ := guardO_some h
    refine JS.know 0 rfl fun hs29 => JS.regionQ rfl (by kernel_rfl) (JQ.reg ttOk 4 [] [(10, .ep ⟨a3, x0.2.2.1.length, c4⟩ (Int.toNat x1 * 1))] rfl ⟨hs29.ix g8, ⟨rfl, trivial⟩⟩ (JQ.load ttOk rfl rfl rfl rfl rfl rfl rfl 0 rfl rfl (Int.toNat x1) 0 (at' x0.2.2.1 x1) ⟨at_some g8, rfl⟩ rfl rfl (JQ.reg ttOk 6 [] [(5, .v (.int .i64 (at' x0.2.2.1 x1))), (6, .v (.int .i64 (Int.tmod x1 x0.1)))] rfl ⟨g9, ⟨rfl, rfl, trivial⟩⟩ (JQ.done rfl (JS.seq (JS.block (JS.seq (JS.region (JO.reg ttOk 3 [] [] [(16, .v (.bool (decide ((at' x0.2.2.1 x1) = (-1)))))] _ rfl ⟨⟨rfl, trivial⟩, rfl⟩ (JO.done rfl ?_))))))))))
    refine JS.cond rfl (fun ht38 => ?_) (fun ht38 => ?_)
    · have h := condT h ht38
      refine JS.seq (JS.region ?_)
      obtain ⟨g12, h⟩ := guardO_some h
      refine JO.reg ttOk 8 [(W (x1 - 1))] [] [(21, .v (.bool (decide (0 < (Int.tmod x1 x0.1))))), (26, .cd [(21, true)] (.ep ⟨a3, x0.2.2.1.length, c4⟩ (Int.toNat (W (x1 - 1)) * 1)))] _ rfl ⟨(fun q30 => ⟨trivial, rfl⟩), (fun q31 => hs29.ix (g12 q31)), ⟨rfl, rfl, trivial⟩, rfl⟩ (JO.load ttOk rfl rfl rfl rfl rfl rfl rfl 0 rfl rfl (Int.toNat (W (x1 - 1))) 0 (at' x0.2.2.1 (W (x1 - 1))) (fun q32 => ⟨at_some (g12 q32), rfl⟩) rfl rfl ?_)
      obtain ⟨y15, hy16, -, h⟩ := callO_some h
      refine JO.callg rfl rfl rfl rfl (fun q33 => ok_i_Width (at' x0.2.2.1 (W (x1 - 1))) _ (hy16 q33)) rfl [] rfl rfl (JO.reg ttOk 3 [] [] [(4, .v (.bool (bif (decide (0 < (Int.tmod x1 x0.1))) then (decide (y15 = 2)) else false)))] _ rfl ⟨⟨rfl, trivial⟩, rfl⟩ (JO.done rfl ?_))
      cases h
      exact JS.ret ttOk () trivial rfl rfl [] rfl
    have h := condF h ht38
    refine JS.seq (JS.region (JO.reg ttOk 1 [] [] [(32, .v (.int .i64 (at' x0.2.2.1 x1)))] _ rfl ⟨⟨rfl, trivial⟩, rfl⟩ ?_))
    obtain ⟨y18, hy19, h⟩ := bindO_some h
    refine JO.call rfl rfl rfl rfl (ok_i_Width (at' x0.2.2.1 x1) _ hy19) rfl [] rfl rfl fun _ _ => JO.reg ttOk 2 [] [] [(31, .v (.bool (decide (y18 = 2))))] _ rfl ⟨⟨rfl, trivial⟩, rfl⟩ (JO.done rfl ?_)
    refine JS.cond rfl (fun ht37 => ?_) (fun ht37 => ?_)
    · have h := condT h ht37
      refine JS.seq (JS.region ?_)
      obtain ⟨g21, h⟩ := guardO_some h
      refine JO.reg ttOk 11 [(W ((Int.tmod x1 x0.1) + 1)), (W (x1 + 1))] [] [(40, .v (.bool (decide ((W ((Int.tmod x1 x0.1) + 1)) < x0.1)))), (45, .cd [(40, true)] (.ep ⟨a3, x0.2.2.1.length, c4⟩ (Int.toNat (W (x1 + 1)) * 1)))] _ rfl ⟨⟨trivial, rfl⟩, (fun q34 => ⟨trivial, rfl⟩), (fun q35 => hs29.ix (g21 q35)), ⟨rfl, rfl, trivial⟩, rfl⟩ (JO.load ttOk rfl rfl rfl rfl rfl rfl rfl 0 rfl rfl (Int.toNat (W (x1 + 1))) 0 (at' x0.2.2.1 (W (x1 + 1))) (fun q36 => ⟨at_some (g21 q36), rfl⟩) rfl rfl (JO.reg ttOk 3 [] [] [(4, .v (.bool (bif (decide ((W ((Int.tmod x1 x0.1) + 1)) < x0.1)) then (decide ((at' x0.2.2.1 (W (x1 + 1))) = (-1))) else false)))] _ rfl ⟨⟨rfl, trivial⟩, rfl⟩ (JO.done rfl ?_)))
      cases h
      exact JS.ret ttOk () trivial rfl rfl [] rfl
    have h := condF h ht37
    refine JS.skip (JS.endB (JS.seq (JS.region (JO.reg ttOk 1 [] [] [(49, .v (.int .i64 (at' x0.2.2.1 x1)))] _ rfl ⟨⟨rfl, trivial⟩, rfl⟩ ?_))))
    obtain ⟨y24, hy25, h⟩ := bindO_some h
    refine JO.call rfl rfl rfl rfl (ok_i_Width (at' x0.2.2.1 x1) _ hy25) rfl [] rfl rfl fun _ _ => JO.reg ttOk 2 [] [] [(4, .v (.bool (decide (y24 = 1))))] _ rfl ⟨⟨rfl, trivial⟩, rfl⟩ (JO.done rfl ?_)
    cases h
    exact JS.ret ttOk () trivial rfl rfl [] rfl

def M_i_GridOk_L1 (x0 : Int × Int × List Int × Int × Int × Bool) (j40 : Unit → Option Bool) (k36 : Int → Option Bool) : Int → Option Bool := fun x21 =>
  (bif (decide (x21 < (x0.2.2.1.length : Int))) then
  (bindO (M_i_cellOk x0 x21) fun (y30 : Bool) =>
  (bif (!y30) then
  some false
  else
  k36 (W (x21 + 1))))
  else
  j40 ())

def M_i_GridOk (x0 : Int × Int × List Int × Int × Int × Bool) : Option Bool :=
  (bindO (M_i_in x0.1 2 200) fun (y6 : Bool) =>
  (callO ((!y6) = false) (M_i_in x0.2.1 1 200) false fun (y8 : Bool) =>
  (bif (bif (bif (bif (!y6) then true else (!y8)) then true else (decide (8000 < (W (x0.1 * x0.2.1))))) then true else (!(decide ((x0.2.2.1.length : Int) = (W (x0.1 * x0.2.1)))))) then
  some false
  else
  (bindO (M_i_in x0.2.2.2.1 0 (W (x0.1 - 1))) fun (y13 : Bool) =>
  (callO ((!y13) = false) (M_i_in x0.2.2.2.2.1 0 (W (x0.2.1 - 1))) false fun (y16 : Bool) =>
  (bif (bif (bif (!y13) then true else (!y16)) then true else (bif x0.2.2.2.2.2 then (!(decide (x0.2.2.2.1 = (W (x0.1 - 1))))) else false)) then
  some false
  else
  (joinO (fun (_ : Unit) =>
  some true) fun j40 =>
  (fixF (M_i_GridOk_L1 x0 j40) FUEL 0))))))))

theorem ok_i_GridOk (x0 : Int × Int × List Int × Int × Int × Bool) (a2 : Option Addr) (c3 : Nat) (l4 : Nat) (hl5 : x0.2.2.1.length = l4) (r : Bool) (h : M_i_GridOk x0 = some r) :
    FC Try.prog 20 [.agg #[.int .i64 x0.1, .int .i64 x0.2.1, .slice a2 l4 c3, .int .i64 x0.2.2.2.1, .int .i64 x0.2.2.2.2.1, .bool x0.2.2.2.2.2]] [⟨(.int .i64), ⟨a2, l4, c3⟩, x0.2.2.1⟩] (fun _ : Unit => True) (fun _ => .bool r) (fun _ => []) :=
  by
    subst hl5
    refine FC.of (T := TTx) Try.call20 Try.func20 rfl rfl fun w0 => ?_
    unfold M_i_GridOk at h
    refine JS.seq (JS.region (JO.regB ttOk 2 [] [2] [(1, .bp 2 0)] (.new 2 26 (cl26 x0 a2 c3) .nil) rfl ⟨⟨rfl, trivial⟩, ⟨rfl, rfl, rfl, rfl, trivial⟩⟩ (JO.done rfl (JS.seq (JS.seq (JS.region (JO.reg ttOk 2 [] [] [(5, .v (.int .i64 x0.1))] _ rfl ⟨⟨rfl, trivial⟩, rfl⟩ ?_)))))))
    obtain ⟨y6, hy7, h⟩ := bindO_some h
    refine JO.call rfl rfl rfl rfl (ok_i_in x0.1 2 200 _ hy7) rfl [] rfl rfl fun _ _ => JO.reg ttOk 4 [] [] [(8, .v (.bool (!y6))), (10, .cd [(8, false)] (.v (.int .i64 x0.2.1)))] _ rfl ⟨⟨rfl, rfl, trivial⟩, rfl⟩ ?_
    obtain ⟨y8, hy9, -, h⟩ := callO_some h
    refine JO.callg rfl rfl rfl rfl (fun q46 => ok_i_in x0.2.1 1 200 _ (hy9 q46)) rfl [] rfl rfl (JO.reg ttOk 21 [(W (x0.1 * x0.2.1)), (W (x0.1 * x0.2.1))] [] [(32, .v (.bool (bif (bif (bif (!y6) then true else (!y8)) then true else (decide (8000 < (W (x0.1 * x0.2.1))))) then true else (!(decide ((x0.2.2.1.length : Int) = (W (x0.1 * x0.2.1))))))))] _ rfl ⟨(fun q47 => ⟨trivial, rfl⟩), (fun q48 => ⟨trivial, rfl⟩), ⟨rfl, trivial⟩, rfl⟩ (JO.done rfl ?_))
    refine JS.cond rfl (fun ht57 => ?_) (fun ht57 => ?_)
    · have h := condT h ht57
      refine JS.seq (JS.region (JO.reg ttOk 1 [] [] [(2, .v (.bool false))] _ rfl ⟨⟨rfl, trivial⟩, rfl⟩ (JO.done rfl ?_)))
      cases h
      exact JS.ret ttOk () trivial rfl rfl [] rfl
    have h := condF h ht57
    refine JS.skip (JS.seq (JS.seq (JS.region (JO.reg ttOk 5 [(W (x0.1 - 1))] [] [(34, .v (.int .i64 x0.2.2.2.1)), (37, .v (.int .i64 (W (x0.1 - 1))))] _ rfl ⟨⟨trivial, rfl⟩, ⟨rfl, rfl, trivial⟩, rfl⟩ ?_))))
    obtain ⟨y13, hy14, h⟩ := bindO_some h
    refine JO.call rfl rfl rfl rfl (ok_i_in x0.2.2.2.1 0 (W (x0.1 - 1)) _ hy14) rfl [] rfl rfl fun _ _ => JO.reg ttOk 7 [(W (x0.2.1 - 1))] [] [(40, .v (.bool (!y13))), (42, .cd [(40, false)] (.v (.int .i64 x0.2.2.2.2.1))), (45, .cd [(40, false)] (.v (.int .i64 (W (x0.2.1 - 1)))))] _ rfl ⟨(fun q49 => ⟨trivial, rfl⟩), ⟨rfl, rfl, rfl, trivial⟩, rfl⟩ ?_
    obtain ⟨y16, hy17, -, h⟩ := callO_some h
    refine JO.callg rfl rfl rfl rfl (fun q50 => ok_i_in x0.2.2.2.2.1 0 (W (x0.2.1 - 1)) _ (hy17 q50)) rfl [] rfl rfl (JO.reg ttOk 14 [(W (x0.1 - 1))] [] [(60, .v (.bool (bif (bif (!y13) then true else (!y16)) then true else (bif x0.2.2.2.2.2 then (!(decide (x0.2.2.2.1 = (W (x0.1 - 1))))) else false))))] _ rfl ⟨(fun q51 q52 => ⟨trivial, rfl⟩), ⟨rfl, trivial⟩, rfl⟩ (JO.done rfl ?_))
    refine JS.cond rfl (fun ht56 => ?_) (fun ht56 => ?_)
    · have h := condT h ht56
      refine JS.seq (JS.region (JO.reg ttOk 1 [] [] [(2, .v (.bool false))] _ rfl ⟨⟨rfl, trivial⟩, rfl⟩ (JO.done rfl ?_)))
      cases h
      exact JS.ret ttOk () trivial rfl rfl [] rfl
    have h := condF h ht56
    refine JS.skip (JS.seq (JS.seq (JS.region (JO.reg ttOk 4 [] [] [(63, .v (.int .i64 (x0.2.2.1.length : Int))), (64, .v (.int .i64 0))] _ rfl ⟨⟨rfl, rfl, trivial⟩, rfl⟩ (JO.done rfl ?_)))))
    obtain ⟨j40, hj55, h⟩ := joinO_some h
    refine JS.blockJ (ι := Unit) ⟨fun _ => j40 () = some r, fun _ => [], fun _ => .nil, fun _ => [], fun _ => [], fun _ => 0⟩ ?_ ?_
    · refine JS.loop (ι := Nat × Int) ⟨fun z => fixF (M_i_GridOk_L1 x0 j40) z.1 z.2 = some r, fun z => [(1, .bp 2 0), (63, .v (.int .i64 (x0.2.2.1.length : Int))), (64, .v (.int .i64 z.2))], fun z => (.new 2 26 (cl26 x0 a2 c3) .nil), fun z => [⟨(.int .i64), ⟨a2, x0.2.2.1.length, c3⟩, x0.2.2.1⟩], fun z => [], fun z => z.1⟩ (FUEL, 0) h ⟨rfl, rfl, rfl, trivial⟩ ⟨rfl, rfl, rfl, rfl, trivial⟩ [0] rfl [] rfl ?_
      rintro ⟨n37, x21⟩ h
      obtain ⟨n37, rfl, h⟩ := fixF_some h
      rw [M_i_GridOk_L1] at h
      refine JS.seq (JS.region (JO.reg ttOk 1 [] [] [(65, .v (.bool (decide (x21 < (x0.2.2.1.length : Int)))))] _ rfl ⟨⟨rfl, trivial⟩, rfl⟩ (JO.done rfl (JS.seq ?_))))
      refine JS.cond rfl (fun ht54 => ?_) (fun ht54 => ?_)
      · have h := condT h ht54
        refine JS.skip (JS.seq (JS.block (JS.seq (JS.region (JO.reg ttOk 2 [] [] [(3, .v (.int .i64 x21))] _ rfl ⟨⟨rfl, trivial⟩, rfl⟩ (JO.done rfl (JS.seq (JS.region (JO.reg ttOk 2 [] [] [(67, .v (.agg (cl26 x0 a2 c3).toArray)), (68, .v (.int .i64 x21))] _ rfl ⟨⟨rfl, rfl, trivial⟩, rfl⟩ ?_)))))))))
        obtain ⟨y30, hy31, h⟩ := bindO_some h
        refine JO.call rfl rfl rfl rfl (ok_i_cellOk x0 x21 a2 c3 x0.2.2.1.length rfl _ hy31) rfl [0] rfl rfl fun _ _ => JO.reg ttOk 1 [] [] [(70, .v (.bool (!y30)))] _ rfl ⟨⟨rfl, trivial⟩, rfl⟩ (JO.done rfl ?_)
        refine JS.cond rfl (fun ht53 => ?_) (fun ht53 => ?_)
        · have h := condT h ht53
          refine JS.seq (JS.region (JO.reg ttOk 1 [] [] [(2, .v (.bool false))] _ rfl ⟨⟨rfl, trivial⟩, rfl⟩ (JO.done rfl ?_)))
          cases h
          exact JS.ret ttOk () trivial rfl rfl [] rfl
        have h := condF h ht53
        refine JS.skip (JS.endB (JS.region (JO.reg ttOk 2 [(W (x21 + 1))] [] [(64, .v (.int .i64 (W (x21 + 1))))] _ rfl ⟨⟨trivial, rfl⟩, ⟨rfl, trivial⟩, rfl⟩ (JO.done rfl (JS.endL (n37, (W (x21 + 1))) h (Nat.lt_succ_self _) ⟨rfl, rfl, rfl, trivial⟩ ⟨rfl, rfl, rfl, rfl, trivial⟩ [0] rfl [] rfl)))))
      have h := condF h ht54
      refine JS.exit rfl (JS.endJ () h trivial trivial [] rfl [] rfl)
    rintro _ h
    subst hj55
    refine JS.seq (JS.region (JO.reg ttOk 1 [] [] [(2, .v (.bool true))] _ rfl ⟨⟨rfl, trivial⟩, rfl⟩ (JO.done rfl ?_)))
    cases h
    exact JS.ret ttOk () trivial rfl rfl [] rfl

def M_i_copyInts (x0 : List Int) : Option (List Int) :=
  (guardO (([] : List Int).length + x0.length ≤ 536870912) <|
  some (([] : List Int) ++ x0))

theorem ok_i_copyInts (x0 : List Int) (a2 : Option Addr) (c3 : Nat) (l4 : Nat) (hl5 : x0.length = l4) (r : List Int) (h : M_i_copyInts x0 = some r) :
    FC Try.prog 85 [.slice a2 l4 c3] [⟨(.int .i64), ⟨a2, l4, c3⟩, x0⟩] (fun _ : Option Addr × Nat => True) (fun q => .slice q.1 r.length q.2) (fun q => [⟨(.int .i64), ⟨q.1, r.length, q.2⟩, r⟩]) :=
  by
    subst hl5
    refine FC.of (T := TTx) Try.call85 Try.func85 rfl rfl fun w0 => ?_
    unfold M_i_copyInts at h
    refine JS.seq (JS.region (JO.reg ttOk 1 [] [] [] _ rfl ⟨trivial, rfl⟩ (JO.done rfl (JS.seq (JS.region (JO.reg ttOk 1 [] [] [(3, .v (.slice a2 x0.length c3))] _ rfl ⟨⟨rfl, trivial⟩, rfl⟩ ?_))))))
    obtain ⟨g6, h⟩ := guardO_some h
    refine JO.nilO (.int .i64) Sl.nil rfl rfl (JO.appendR' ttOk rfl rfl rfl rfl ⟨rfl, rfl, rfl, rfl, trivial, rfl, rfl, rfl, rfl⟩ rfl rfl rfl [0] rfl 0 rfl g6 rfl fun a7 c8 => JO.reg ttOk 1 [] [] [(2, .v (.slice a7 (([] : List Int) ++ x0).length c8))] _ rfl ⟨⟨rfl, trivial⟩, rfl⟩ (JO.done rfl ?_))
    cases h
    exact JS.ret ttOk (a7, c8) trivial rfl rfl [0] rfl

def M_i_copyGrid (x0 : Int × Int × List Int × Int × Int × Bool) : Option (Int × Int × List Int × Int × Int × Bool) :=
  (bindO (M_i_copyInts x0.2.2.1) fun (y6 : List Int) =>
  some (x0.1, x0.2.1, y6, x0.2.2.2.1, x0.2.2.2.2.1, x0.2.2.2.2.2))

theorem ok_i_copyGrid (x0 : Int × Int × List Int × Int × Int × Bool) (a2 : Option Addr) (c3 : Nat) (l4 : Nat) (hl5 : x0.2.2.1.length = l4) (r : Int × Int × List Int × Int × Int × Bool) (h : M_i_copyGrid x0 = some r) :
    FC Try.prog 52 [.agg #[.int .i64 x0.1, .int .i64 x0.2.1, .slice a2 l4 c3, .int .i64 x0.2.2.2.1, .int .i64 x0.2.2.2.2.1, .bool x0.2.2.2.2.2]] [⟨(.int .i64), ⟨a2, l4, c3⟩, x0.2.2.1⟩] (fun _ : Option Addr × Nat => True) (fun q => .agg (cl26 r q.1 q.2).toArray) (fun q => [⟨(.int .i64), ⟨q.1, r.2.2.1.length, q.2⟩, r.2.2.1⟩]) :=
  by
    subst hl5
    refine FC.of (T := TTx) Try.call52 Try.func52 rfl rfl fun w0 => ?_
    unfold M_i_copyGrid at h
    refine JS.seq (JS.region (JO.regB ttOk 2 [] [2, 3] [(1, .bp 2 0), (2, .bp 3 0)] (.new 2 26 (cl26 x0 a2 c3) (.new 3 26 (cl26 (0, 0, [], 0, 0, false) none 0) .nil)) rfl ⟨⟨rfl, rfl, trivial⟩, ⟨rfl, rfl, rfl, rfl, rfl, rfl, rfl, rfl, trivial⟩⟩ (JO.done rfl (JS.seq (JS.region (JO.reg ttOk 2 [] [] [(4, .v (.slice a2 x0.2.2.1.length c3))] _ rfl ⟨⟨rfl, trivial⟩, rfl⟩ ?_))))))
    obtain ⟨y6, hy7, h⟩ := bindO_some h
    refine JO.call rfl rfl rfl rfl (ok_i_copyInts x0.2.2.1 a2 c3 x0.2.2.1.length rfl _ hy7) rfl [0] rfl rfl ?_
    rintro ⟨a8, c9⟩ -
    refine JO.regB ttOk 2 [] [] [] (.new 2 26 (cl26 (x0.1, x0.2.1, y6, x0.2.2.2.1, x0.2.2.2.2.1, x0.2.2.2.2.2) a8 c9) (.new 3 26 (cl26 (0, 0, [], 0, 0, false) none 0) .nil)) rfl ⟨trivial, ⟨rfl, rfl, rfl, rfl, rfl, rfl, rfl, rfl, trivial⟩⟩ (JO.done rfl (JS.seq (JS.region (JO.regB ttOk 2 [] [] [] (.new 3 26 (cl26 (x0.1, x0.2.1, y6, x0.2.2.2.1, x0.2.2.2.2.1, x0.2.2.2.2.2) a8 c9) .nil) rfl ⟨trivial, ⟨rfl, rfl, rfl, rfl, trivial⟩⟩ (JO.done rfl ?_)))))
    cases h
    exact JS.ret ttOk (a8, c9) trivial rfl rfl [0] rfl

def M_i_Grid_scroll_L1 (x0 : Int × Int × List Int × Int × Int × Bool) (j46 : (List Int) → Option (Int × Int × List Int × Int × Int × Bool)) (k40 : (List Int × Int) → Option (Int × Int × List Int × Int × Int × Bool)) : (List Int × Int) → Option (Int × Int × List Int × Int × Int × Bool) := fun (x22, x25) =>
  (bif (decide (x25 < x0.1)) then
  (guardO (x22.length + ([32] : List Int).length ≤ 536870912) <|
  k40 ((x22 ++ ([32] : List Int)), (W (x25 + 1))))
  else
  j46 x22)

def M_i_Grid_scroll (x0 : Int × Int × List Int × Int × Int × Bool) : Option (Int × Int × List Int × Int × Int × Bool) :=
  (guardO (0 ≤ x0.1 ∧ x0.1 ≤ (x0.2.2.1.length : Int) ∧ (x0.2.2.1.length : Int) ≤ (x0.2.2.1.length : Int)) <|
  (bindO (M_i_copyInts (sub' x0.2.2.1 x0.1 (x0.2.2.1.length : Int))) fun (y13 : List Int) =>
  (joinO (fun (x43 : List Int) =>
  some (x0.1, x0.2.1, x43, x0.2.2.2.1, x0.2.2.2.2.1, x0.2.2.2.2.2)) fun j46 =>
  (fixF (M_i_Grid_scroll_L1 x0 j46) FUEL (y13, 0)))))

theorem ok_i_Grid_scroll (x0 : Int × Int × List Int × Int × Int × Bool) (a2 : Option Addr) (a3 : Option Addr) (c4 : Nat) (l5 : Nat) (hl6 : x0.2.2.1.length = l5) (r : Int × Int × List Int × Int × Int × Bool) (h : M_i_Grid_scroll x0 = some r) :
    FX Try.prog 66 [.pointer a2] [] [⟨(.pair (.int .i64) (.pair (.int .i64) (.pair .val (.pair (.int .i64) (.pair (.int .i64) .bool))))), ⟨a2, 1, 1⟩, [(x0.1, x0.2.1, (Sl.v ⟨a3, l5, c4⟩), x0.2.2.2.1, x0.2.2.2.2.1, x0.2.2.2.2.2)]⟩, ⟨(.int .i64), ⟨a3, l5, c4⟩, x0.2.2.1⟩] (fun _ : Option Addr × Nat => True) (fun q => .tuple #[]) (fun q => [⟨(.pair (.int .i64) (.pair (.int .i64) (.pair .val (.pair (.int .i64) (.pair (.int .i64) .bool))))), ⟨a2, 1, 1⟩, [(r.1, r.2.1, (Sl.v ⟨q.1, r.2.2.1.length, q.2⟩), r.2.2.2.1, r.2.2.2.2.1, r.2.2.2.2.2)]⟩, ⟨(.int .i64), ⟨q.1, r.2.2.1.length, q.2⟩, r.2.2.1⟩]) :=
  by
    subst hl6
    refine FX.of (T := TTx) Try.call66 Try.func66 rfl rfl fun w0 L0 => ?_
    unfold M_i_Grid_scroll at h
    refine JS.ptr 0 a2 rfl ?_
    refine JS.seq ?_
    obtain ⟨g8, h⟩ := guardO_some h
    obtain ⟨y13, hy14, h⟩ := bindO_some h
    refine JS.freeze [1] rfl (JS.subR 0 rfl x0.1 (x0.2.2.1.length : Int) fun a9 c10 hu11 => JS.know 2 rfl fun hs54 => JS.know 1 rfl fun hs55 => ?_)
    refine JS.regionA rfl .nil [2] [8, 9, 10] trivial rfl (fun be21 => ?_)
    refine JA.reg ttOk panic_cxX true 5 [0, 1, 2, 4, 5, 6] rfl (by kernel_rfl) [] [(5, .ep ⟨a2, 1, 1⟩ 2), (9, .ep ⟨a2, 1, 1⟩ 0)] trivial [2] rfl rfl ⟨(hs54.fa ptr0).1, hs54.fa ptr0, (hs54.fa ptr0).1, hs54.fa ptr0, ⟨rfl, rfl, trivial⟩⟩ (JA.loadV ttOk panic_cxX 3 rfl (by kernel_rfl) rfl rfl rfl rfl rfl 0 rfl rfl 0 2 (x0.1, x0.2.1, (Sl.v ⟨a3, x0.2.2.1.length, c4⟩), x0.2.2.2.1, x0.2.2.2.2.1, x0.2.2.2.2.2) ⟨rfl, rfl⟩ rfl rfl rfl trivial [2] rfl (JA.loadV ttOk panic_cxX 7 rfl (by kernel_rfl) rfl rfl rfl rfl rfl 0 rfl rfl 0 0 (x0.1, x0.2.1, (Sl.v ⟨a3, x0.2.2.1.length, c4⟩), x0.2.2.2.1, x0.2.2.2.2.1, x0.2.2.2.2.2) ⟨rfl, rfl⟩ rfl rfl rfl trivial [2] rfl (JA.sliceP ttOk panic_cxX 8 rfl (by kernel_rfl) rfl rfl rfl rfl rfl rfl x0.1 (x0.2.2.1.length : Int) rfl rfl ⟨g8.1, g8.2.1, g8.2.2, hs55.cap, hu11 g8⟩ rfl (JA.one 9 (by kernel_rfl) (JK.call rfl rfl rfl rfl (ok_i_copyInts (sub' x0.2.2.1 x0.1 (x0.2.2.1.length : Int)) a9 c10 ((sub' x0.2.2.1 x0.1 (x0.2.2.1.length : Int)).length) rfl _ hy14) rfl [0] rfl rfl ?_)))))
    rintro ⟨a15, c16⟩ -
    refine JA.nextL rfl (JA.regL ttOk panic_cxX 0 [10] rfl (by kernel_rfl) [] [(2, .v (.slice a15 y13.length c16))] rfl ⟨rfl, trivial⟩ (JA.done (by kernel_rfl) (JS.boxes (B' := .nil) trivial (JS.seq (JS.seq (JS.region (JO.reg ttOk 3 [] [] [(15, .ep ⟨a2, 1, 1⟩ 0)] _ rfl ⟨(hs54.fa ptr0).1, hs54.fa ptr0, ⟨rfl, trivial⟩, rfl⟩ (JO.loadV ttOk rfl rfl rfl rfl rfl rfl 3 rfl rfl 0 0 (x0.1, x0.2.1, (Sl.v ⟨a3, x0.2.2.1.length, c4⟩), x0.2.2.2.1, x0.2.2.2.2.1, x0.2.2.2.2.2) ⟨rfl, rfl⟩ rfl rfl rfl (JO.reg ttOk 1 [] [] [(17, .v (.int .i64 0))] _ rfl ⟨⟨rfl, trivial⟩, rfl⟩ (JO.done rfl ?_))))))))))
    obtain ⟨j46, hj58, h⟩ := joinO_some h
    refine JS.blockJ (ι := List Int × Option Addr × Nat) ⟨fun z => j46 z.1 = some r, fun z => [(0, .ep ⟨a2, 1, 1⟩ 0), (2, .v (.slice z.2.1 z.1.length z.2.2))], fun z => .nil, fun z => [⟨(.int .i64), ⟨a3, x0.2.2.1.length, c4⟩, x0.2.2.1⟩], fun z => [⟨(.int .i64), ⟨z.2.1, z.1.length, z.2.2⟩, z.1⟩, ⟨(.pair (.int .i64) (.pair (.int .i64) (.pair .val (.pair (.int .i64) (.pair (.int .i64) .bool))))), ⟨a2, 1, 1⟩, [(x0.1, x0.2.1, (Sl.v ⟨a3, x0.2.2.1.length, c4⟩), x0.2.2.2.1, x0.2.2.2.2.1, x0.2.2.2.2.2)]⟩], fun z => 0⟩ ?_ ?_
    · refine JS.loop (ι := Nat × List Int × Int × Option Addr × Nat) ⟨fun z => fixF (M_i_Grid_scroll_L1 x0 j46) z.1 (z.2.1, z.2.2.1) = some r, fun z => [(0, .ep ⟨a2, 1, 1⟩ 0), (2, .v (.slice z.2.2.2.1 z.2.1.length z.2.2.2.2)), (16, .v (.int .i64 x0.1)), (17, .v (.int .i64 z.2.2.1))], fun z => .nil, fun z => [⟨(.int .i64), ⟨a3, x0.2.2.1.length, c4⟩, x0.2.2.1⟩], fun z => [⟨(.int .i64), ⟨z.2.2.2.1, z.2.1.length, z.2.2.2.2⟩, z.2.1⟩, ⟨(.pair (.int .i64) (.pair (.int .i64) (.pair .val (.pair (.int .i64) (.pair (.int .i64) .bool))))), ⟨a2, 1, 1⟩, [(x0.1, x0.2.1, (Sl.v ⟨a3, x0.2.2.1.length, c4⟩), x0.2.2.2.1, x0.2.2.2.2.1, x0.2.2.2.2.2)]⟩], fun z => z.1⟩ (FUEL, y13, 0, a15, c16) h ⟨rfl, rfl, rfl, rfl, trivial⟩ trivial [1] rfl [0, 0] rfl ?_
      rintro ⟨n41, x22, x25, a23, c24⟩ h
      obtain ⟨n41, rfl, h⟩ := fixF_some h
      rw [M_i_Grid_scroll_L1] at h
      refine JS.seq (JS.region (JO.reg ttOk 1 [] [] [(18, .v (.bool (decide (x25 < x0.1))))] _ rfl ⟨⟨rfl, trivial⟩, rfl⟩ (JO.done rfl (JS.seq ?_))))
      refine JS.cond rfl (fun ht56 => ?_) (fun ht56 => ?_)
      · have h := condT h ht56
        refine JS.skip (JS.seq (JS.block (JS.region (JO.reg ttOk 1 [] [] [(19, .v (.slice a23 x22.length c24))] _ rfl ⟨⟨rfl, trivial⟩, rfl⟩ ?_))))
        refine JO.ofK rfl (JK.buildSlice ttOk rfl rfl rfl rfl rfl rfl rfl rfl rfl rfl rfl [] rfl (.int .i64) [32] ⟨rfl, rfl⟩ rfl rfl fun a34 => JO.toK ?_)
        obtain ⟨g35, h⟩ := guardO_some h
        refine JO.appendR' ttOk rfl rfl rfl rfl ⟨rfl, rfl, rfl, rfl, trivial, rfl, rfl, rfl, rfl⟩ rfl rfl rfl [1] rfl 1 rfl g35 rfl fun a36 c37 => JO.reg ttOk 1 [] [] [(2, .v (.slice a36 (x22 ++ ([32] : List Int)).length c37))] _ rfl ⟨⟨rfl, trivial⟩, rfl⟩ (JO.done rfl (JS.endB (JS.region (JO.reg ttOk 2 [(W (x25 + 1))] [] [(17, .v (.int .i64 (W (x25 + 1))))] _ rfl ⟨⟨trivial, rfl⟩, ⟨rfl, trivial⟩, rfl⟩ (JO.done rfl (JS.endL (n41, (x22 ++ ([32] : List Int)), (W (x25 + 1)), a36, c37) h (Nat.lt_succ_self _) ⟨rfl, rfl, rfl, rfl, trivial⟩ trivial [0] rfl [0, 1] rfl))))))
      have h := condF h ht56
      refine JS.exit rfl (JS.endJ (x22, a23, c24) h ⟨rfl, rfl, trivial⟩ trivial [0] rfl [0, 0] rfl)
    rintro ⟨x43, a44, c45⟩ h
    subst hj58
    refine JS.region (JO.know 2 rfl fun hs57 => JO.reg ttOk 4 [] [] [(24, .v (.slice a44 x43.length c45)), (26, .ep ⟨a2, 1, 1⟩ 2)] _ rfl ⟨(hs57.fa ptr0).1, hs57.fa ptr0, ⟨rfl, rfl, trivial⟩, rfl⟩ (JO.storeE ttOk rfl rfl rfl rfl rfl rfl rfl rfl rfl [1] (fs := []) rfl 0 2 (x0.1, x0.2.1, (Sl.v ⟨a3, x0.2.2.1.length, c4⟩), x0.2.2.2.1, x0.2.2.2.2.1, x0.2.2.2.2.2) (x0.1, x0.2.1, (Sl.v ⟨a44, x43.length, c45⟩), x0.2.2.2.1, x0.2.2.2.2.1, x0.2.2.2.2.2) ⟨rfl, rfl⟩ ⟨⟨⟨⟨rfl, rfl, rfl, rfl⟩, rfl⟩, rfl⟩, rfl⟩ (JO.done rfl ?_)))
    cases h
    exact JS.fallX ttOk (a44, c45) trivial rfl rfl [0, 0] rfl

def M_i_Grid_erase_L1 (x0 : Int × Int × List Int × Int × Int × Bool) (x2 : Int) (j67 : (List Int) → Option (Int × Int × List Int × Int × Int × Bool)) (k59 : (Int × List Int) → Option (Int × Int × List Int × Int × Int × Bool)) : (Int × List Int) → Option (Int × Int × List Int × Int × Int × Bool) := fun (x43, x46) =>
  (bif (decide (x43 < (min x2 (x0.2.2.1.length : Int)))) then
  (guardO (0 ≤ x43 ∧ x43 < (x46.length : Int)) <|
  k59 ((W (x43 + 1)), (List.set x46 (Int.toNat x43) 32)))
  else
  j67 x46)

def M_i_Grid_erase (x0 : Int × Int × List Int × Int × Int × Bool) (x1 : Int) (x2 : Int) : Option (Int × Int × List Int × Int × Int × Bool) :=
  (bif (decide ((min x2 (x0.2.2.1.length : Int)) ≤ (max x1 0))) then
  some x0
  else
  (joinO (fun (x15 : List Int) =>
  (joinO (fun (x31 : List Int) =>
  (joinO (fun (x64 : List Int) =>
  some (x0.1, x0.2.1, x64, x0.2.2.2.1, x0.2.2.2.2.1, x0.2.2.2.2.2)) fun j67 =>
  (fixF (M_i_Grid_erase_L1 x0 x2 j67) FUEL ((max x1 0), x31)))) fun j34 =>
  (guardO (((decide ((min x2 (x0.2.2.1.length : Int)) < (x15.length : Int))) = true) → 0 ≤ (min x2 (x0.2.2.1.length : Int)) ∧ (min x2 (x0.2.2.1.length : Int)) < (x15.length : Int)) <|
  (bif (bif (decide ((min x2 (x0.2.2.1.length : Int)) < (x15.length : Int))) then (decide ((at' x15 (min x2 (x0.2.2.1.length : Int))) = (-1))) else false) then
  (guardO (0 ≤ (min x2 (x0.2.2.1.length : Int)) ∧ (min x2 (x0.2.2.1.length : Int)) < (x15.length : Int)) <|
  j34 (List.set x15 (Int.toNat (min x2 (x0.2.2.1.length : Int))) 32))
  else
  j34 x15)))) fun j18 =>
  (guardO (0 ≤ (max x1 0) ∧ (max x1 0) < (x0.2.2.1.length : Int)) <|
  (bif (decide ((at' x0.2.2.1 (max x1 0)) = (-1))) then
  (guardO (0 ≤ (W ((max x1 0) - 1)) ∧ (W ((max x1 0) - 1)) < (x0.2.2.1.length : Int)) <|
  j18 (List.set x0.2.2.1 (Int.toNat (W ((max x1 0) - 1))) 32))
  else
  j18 x0.2.2.1))))

theorem ok_i_Grid_erase (x0 : Int × Int × List Int × Int × Int × Bool) (x1 : Int) (x2 : Int) (a4 : Option Addr) (a5 : Option Addr) (c6 : Nat) (l7 : Nat) (hl8 : x0.2.2.1.length = l7) (r : Int × Int × List Int × Int × Int × Bool) (h : M_i_Grid_erase x0 x1 x2 = some r) :
    FX Try.prog 67 [.pointer a4, .int .i64 x1, .int .i64 x2] [] [⟨(.pair (.int .i64) (.pair (.int .i64) (.pair .val (.pair (.int .i64) (.pair (.int .i64) .bool))))), ⟨a4, 1, 1⟩, [(x0.1, x0.2.1, (Sl.v ⟨a5, l7, c6⟩), x0.2.2.2.1, x0.2.2.2.2.1, x0.2.2.2.2.2)]⟩, ⟨(.int .i64), ⟨a5, l7, c6⟩, x0.2.2.1⟩] (fun _ : Option Addr × Nat => True) (fun q => .tuple #[]) (fun q => [⟨(.pair (.int .i64) (.pair (.int .i64) (.pair .val (.pair (.int .i64) (.pair (.int .i64) .bool))))), ⟨a4, 1, 1⟩, [(r.1, r.2.1, (Sl.v ⟨q.1, r.2.2.1.length, q.2⟩), r.2.2.2.1, r.2.2.2.2.1, r.2.2.2.2.2)]⟩, ⟨(.int .i64), ⟨q.1, r.2.2.1.length, q.2⟩, r.2.2.1⟩]) :=
  by
    subst hl8
    refine FX.of (T := TTx) Try.call67 Try.func67 rfl rfl fun w0 L0 => ?_
    unfold M_i_Grid_erase at h
    refine JS.ptr 0 a4 rfl ?_
    refine JS.seq (JS.know 0 rfl fun hs76 => JS.regionQ rfl (by kernel_rfl) (JQ.reg ttOk 6 [] [(8, .v (.int .i64 (max x1 0))), (9, .v (.int .i64 x2)), (12, .ep ⟨a4, 1, 1⟩ 2)] rfl ⟨(hs76.fa ptr0).1, hs76.fa ptr0, ⟨rfl, rfl, rfl, trivial⟩⟩ (JQ.loadV ttOk rfl rfl rfl rfl rfl rfl 0 rfl rfl 0 2 (x0.1, x0.2.1, (Sl.v ⟨a5, x0.2.2.1.length, c6⟩), x0.2.2.2.1, x0.2.2.2.2.1, x0.2.2.2.2.2) ⟨rfl, rfl⟩ rfl rfl rfl (JQ.reg ttOk 4 [] [(1, .v (.int .i64 (max x1 0))), (2, .v (.int .i64 (min x2 (x0.2.2.1.length : Int))))] rfl ⟨rfl, rfl, trivial⟩ (JQ.done rfl (JS.seq (JS.seq (JS.region (JO.reg ttOk 3 [] [] [(18, .v (.bool (decide ((min x2 (x0.2.2.1.length : Int)) ≤ (max x1 0)))))] _ rfl ⟨⟨rfl, trivial⟩, rfl⟩ (JO.done rfl ?_))))))))))
    refine JS.cond rfl (fun ht93 => ?_) (fun ht93 => ?_)
    · have h := condT h ht93
      cases h
      exact JS.retX ttOk (a5, c6) trivial rfl rfl [0, 0] rfl
    have h := condF h ht93
    refine JS.skip ?_
    obtain ⟨j18, hj92, h⟩ := joinO_some h
    refine JS.seqJ (ι := List Int × Option Addr × Nat) ⟨fun z => j18 z.1 = some r, fun z => [(0, .ep ⟨a4, 1, 1⟩ 0), (1, .v (.int .i64 (max x1 0))), (2, .v (.int .i64 (min x2 (x0.2.2.1.length : Int))))], fun z => .nil, fun z => [], fun z => [⟨(.int .i64), ⟨z.2.1, z.1.length, z.2.2⟩, z.1⟩, ⟨(.pair (.int .i64) (.pair (.int .i64) (.pair .val (.pair (.int .i64) (.pair (.int .i64) .bool))))), ⟨a4, 1, 1⟩, [(x0.1, x0.2.1, (Sl.v ⟨z.2.1, z.1.length, z.2.2⟩), x0.2.2.2.1, x0.2.2.2.2.1, x0.2.2.2.2.2)]⟩], fun z => 0⟩ ?_ ?_
    · refine JS.seq (JS.region (JO.reg ttOk 3 [] [] [(21, .ep ⟨a4, 1, 1⟩ 2)] _ rfl ⟨(hs76.fa ptr0).1, hs76.fa ptr0, ⟨rfl, trivial⟩, rfl⟩ (JO.loadV ttOk rfl rfl rfl rfl rfl rfl 0 rfl rfl 0 2 (x0.1, x0.2.1, (Sl.v ⟨a5, x0.2.2.1.length, c6⟩), x0.2.2.2.1, x0.2.2.2.2.1, x0.2.2.2.2.2) ⟨rfl, rfl⟩ rfl rfl rfl (JO.know 1 rfl fun hs77 => ?_))))
      obtain ⟨g12, h⟩ := guardO_some h
      refine JO.reg ttOk 2 [] [] [(24, .ep ⟨a5, x0.2.2.1.length, c6⟩ (Int.toNat (max x1 0) * 1))] _ rfl ⟨hs77.ix g12, ⟨rfl, trivial⟩, rfl⟩ (JO.load ttOk rfl rfl rfl rfl rfl rfl rfl 1 rfl rfl (Int.toNat (max x1 0)) 0 (at' x0.2.2.1 (max x1 0)) ⟨at_some g12, rfl⟩ rfl rfl (JO.reg ttOk 1 [] [] [(26, .v (.bool (decide ((at' x0.2.2.1 (max x1 0)) = (-1)))))] _ rfl ⟨⟨rfl, trivial⟩, rfl⟩ (JO.done rfl ?_)))
      refine JS.cond rfl (fun ht78 => ?_) (fun ht78 => ?_)
      · have h := condT h ht78
        refine JS.region (JO.reg ttOk 3 [] [] [(29, .ep ⟨a4, 1, 1⟩ 2)] _ rfl ⟨(hs76.fa ptr0).1, hs76.fa ptr0, ⟨rfl, trivial⟩, rfl⟩ (JO.loadV ttOk rfl rfl rfl rfl rfl rfl 0 rfl rfl 0 2 (x0.1, x0.2.1, (Sl.v ⟨a5, x0.2.2.1.length, c6⟩), x0.2.2.2.1, x0.2.2.2.2.1, x0.2.2.2.2.2) ⟨rfl, rfl⟩ rfl rfl rfl ?_))
        obtain ⟨g13, h⟩ := guardO_some h
        refine JO.reg ttOk 3 [(W ((max x1 0) - 1))] [] [(33, .ep ⟨a5, x0.2.2.1.length, c6⟩ (Int.toNat (W ((max x1 0) - 1)) * 1))] _ rfl ⟨⟨trivial, rfl⟩, hs77.ix g13, ⟨rfl, trivial⟩, rfl⟩ (JO.storeE ttOk rfl rfl rfl rfl rfl rfl rfl rfl rfl [1] (fs := []) rfl (Int.toNat (W ((max x1 0) - 1))) 0 (at' x0.2.2.1 (W ((max x1 0) - 1))) 32 ⟨at_some g13, rfl⟩ ⟨rfl, rfl, rfl⟩ (JO.done rfl (JS.endJ ((List.set x0.2.2.1 (Int.toNat (W ((max x1 0) - 1))) 32), a5, c6) h ⟨rfl, rfl, rfl, trivial⟩ trivial [] rfl [0, 0] (by simp only [List.length_set, List.length_replicate, pickO, getF, cl26]; rfl))))
      have h := condF h ht78
      refine JS.skip (JS.endJ (x0.2.2.1, a5, c6) h ⟨rfl, rfl, rfl, trivial⟩ trivial [] rfl [1, 0] rfl)
    rintro ⟨x15, a16, c17⟩ h
    subst hj92
    obtain ⟨j34, hj91, h⟩ := joinO_some h
    refine JS.seqJ (ι := List Int × Option Addr × Nat) ⟨fun z => j34 z.1 = some r, fun z => [(0, .ep ⟨a4, 1, 1⟩ 0), (1, .v (.int .i64 (max x1 0))), (2, .v (.int .i64 (min x2 (x0.2.2.1.length : Int))))], fun z => .nil, fun z => [], fun z => [⟨(.int .i64), ⟨z.2.1, z.1.length, z.2.2⟩, z.1⟩, ⟨(.pair (.int .i64) (.pair (.int .i64) (.pair .val (.pair (.int .i64) (.pair (.int .i64) .bool))))), ⟨a4, 1, 1⟩, [(x0.1, x0.2.1, (Sl.v ⟨z.2.1, z.1.length, z.2.2⟩), x0.2.2.2.1, x0.2.2.2.2.1, x0.2.2.2.2.2)]⟩], fun z => 0⟩ ?_ ?_
    · refine JS.seq (JS.region (JO.know 1 rfl fun hs79 => JO.reg ttOk 4 [] [] [(34, .v (.int .i64 (min x2 (x0.2.2.1.length : Int)))), (37, .ep ⟨a4, 1, 1⟩ 2)] _ rfl ⟨(hs79.fa ptr0).1, hs79.fa ptr0, ⟨rfl, rfl, trivial⟩, rfl⟩ (JO.loadV ttOk rfl rfl rfl rfl rfl rfl 1 rfl rfl 0 2 (x0.1, x0.2.1, (Sl.v ⟨a16, x15.length, c17⟩), x0.2.2.2.1, x0.2.2.2.2.1, x0.2.2.2.2.2) ⟨rfl, rfl⟩ rfl rfl rfl (JO.reg ttOk 6 [] [] [(41, .v (.bool (decide ((min x2 (x0.2.2.1.length : Int)) < (x15.length : Int))))), (44, .cd [(41, true)] (.ep ⟨a4, 1, 1⟩ 2))] _ rfl ⟨(fun q80 => (hs79.fa ptr0).1), (fun q81 => hs79.fa ptr0), ⟨rfl, rfl, trivial⟩, rfl⟩ (JO.loadV ttOk rfl rfl rfl rfl rfl rfl 1 rfl rfl 0 2 (x0.1, x0.2.1, (Sl.v ⟨a16, x15.length, c17⟩), x0.2.2.2.1, x0.2.2.2.2.1, x0.2.2.2.2.2) (fun q82 => ⟨rfl, rfl⟩) rfl rfl rfl (JO.know 0 rfl fun hs83 => ?_))))))
      obtain ⟨g26, h⟩ := guardO_some h
      refine JO.reg ttOk 2 [] [] [(47, .cd [(41, true)] (.ep ⟨a16, x15.length, c17⟩ (Int.toNat (min x2 (x0.2.2.1.length : Int)) * 1)))] _ rfl ⟨(fun q84 => hs83.ix (g26 q84)), ⟨rfl, trivial⟩, rfl⟩ (JO.load ttOk rfl rfl rfl rfl rfl rfl rfl 0 rfl rfl (Int.toNat (min x2 (x0.2.2.1.length : Int))) 0 (at' x15 (min x2 (x0.2.2.1.length : Int))) (fun q85 => ⟨at_some (g26 q85), rfl⟩) rfl rfl (JO.reg ttOk 2 [] [] [(50, .v (.bool (bif (decide ((min x2 (x0.2.2.1.length : Int)) < (x15.length : Int))) then (decide ((at' x15 (min x2 (x0.2.2.1.length : Int))) = (-1))) else false)))] _ rfl ⟨⟨rfl, trivial⟩, rfl⟩ (JO.done rfl ?_)))
      refine JS.cond rfl (fun ht86 => ?_) (fun ht86 => ?_)
      · have h := condT h ht86
        refine JS.region (JO.reg ttOk 3 [] [] [(53, .ep ⟨a4, 1, 1⟩ 2)] _ rfl ⟨(hs79.fa ptr0).1, hs79.fa ptr0, ⟨rfl, trivial⟩, rfl⟩ (JO.loadV ttOk rfl rfl rfl rfl rfl rfl 1 rfl rfl 0 2 (x0.1, x0.2.1, (Sl.v ⟨a16, x15.length, c17⟩), x0.2.2.2.1, x0.2.2.2.2.1, x0.2.2.2.2.2) ⟨rfl, rfl⟩ rfl rfl rfl ?_))
        obtain ⟨g29, h⟩ := guardO_some h
        refine JO.reg ttOk 2 [] [] [(56, .ep ⟨a16, x15.length, c17⟩ (Int.toNat (min x2 (x0.2.2.1.length : Int)) * 1))] _ rfl ⟨hs83.ix g29, ⟨rfl, trivial⟩, rfl⟩ (JO.storeE ttOk rfl rfl rfl rfl rfl rfl rfl rfl rfl [0] (fs := []) rfl (Int.toNat (min x2 (x0.2.2.1.length : Int))) 0 (at' x15 (min x2 (x0.2.2.1.length : Int))) 32 ⟨at_some g29, rfl⟩ ⟨rfl, rfl, rfl⟩ (JO.done rfl (JS.endJ ((List.set x15 (Int.toNat (min x2 (x0.2.2.1.length : Int))) 32), a16, c17) h ⟨rfl, rfl, rfl, trivial⟩ trivial [] rfl [0, 0] (by simp only [List.length_set, List.length_replicate, pickO, getF, cl26]; rfl))))
      have h := condF h ht86
      refine JS.skip (JS.endJ (x15, a16, c17) h ⟨rfl, rfl, rfl, trivial⟩ trivial [] rfl [0, 0] rfl)
    rintro ⟨x31, a32, c33⟩ h
    subst hj91
    refine JS.seq (JS.region (JO.reg ttOk 2 [] [] [(6, .v (.int .i64 (max x1 0)))] _ rfl ⟨⟨rfl, trivial⟩, rfl⟩ (JO.done rfl ?_)))
    obtain ⟨j67, hj90, h⟩ := joinO_some h
    refine JS.blockJ (ι := List Int × Option Addr × Nat) ⟨fun z => j67 z.1 = some r, fun z => [], fun z => .nil, fun z => [], fun z => [⟨(.int .i64), ⟨z.2.1, z.1.length, z.2.2⟩, z.1⟩, ⟨(.pair (.int .i64) (.pair (.int .i64) (.pair .val (.pair (.int .i64) (.pair (.int .i64) .bool))))), ⟨a4, 1, 1⟩, [(x0.1, x0.2.1, (Sl.v ⟨z.2.1, z.1.length, z.2.2⟩), x0.2.2.2.1, x0.2.2.2.2.1, x0.2.2.2.2.2)]⟩], fun z => 0⟩ ?_ ?_
    · refine JS.loop (ι := Nat × Int × List Int × Option Addr × Nat) ⟨fun z => fixF (M_i_Grid_erase_L1 x0 x2 j67) z.1 (z.2.1, z.2.2.1) = some r, fun z => [(0, .ep ⟨a4, 1, 1⟩ 0), (2, .v (.int .i64 (min x2 (x0.2.2.1.length : Int)))), (6, .v (.int .i64 z.2.1))], fun z => .nil, fun z => [], fun z => [⟨(.int .i64), ⟨z.2.2.2.1, z.2.2.1.length, z.2.2.2.2⟩, z.2.2.1⟩, ⟨(.pair (.int .i64) (.pair (.int .i64) (.pair .val (.pair (.int .i64) (.pair (.int .i64) .bool))))), ⟨a4, 1, 1⟩, [(x0.1, x0.2.1, (Sl.v ⟨z.2.2.2.1, z.2.2.1.length, z.2.2.2.2⟩), x0.2.2.2.1, x0.2.2.2.2.1, x0.2.2.2.2.2)]⟩], fun z => z.1⟩ (FUEL, (max x1 0), x31, a32, c33) h ⟨rfl, rfl, rfl, trivial⟩ trivial [] rfl [0, 0] rfl ?_
      rintro ⟨n60, x43, x46, a47, c48⟩ h
      obtain ⟨n60, rfl, h⟩ := fixF_some h
      rw [M_i_Grid_erase_L1] at h
      refine JS.seq (JS.seq (JS.region (JO.reg ttOk 3 [] [] [(60, .v (.bool (decide (x43 < (min x2 (x0.2.2.1.length : Int))))))] _ rfl ⟨⟨rfl, trivial⟩, rfl⟩ (JO.done rfl ?_))))
      refine JS.cond rfl (fun ht89 => ?_) (fun ht89 => ?_)
      · have h := condT h ht89
        refine JS.skip (JS.seq (JS.block (JS.region (JO.know 1 rfl fun hs87 => JO.reg ttOk 3 [] [] [(65, .ep ⟨a4, 1, 1⟩ 2)] _ rfl ⟨(hs87.fa ptr0).1, hs87.fa ptr0, ⟨rfl, trivial⟩, rfl⟩ (JO.loadV ttOk rfl rfl rfl rfl rfl rfl 1 rfl rfl 0 2 (x0.1, x0.2.1, (Sl.v ⟨a47, x46.length, c48⟩), x0.2.2.2.1, x0.2.2.2.2.1, x0.2.2.2.2.2) ⟨rfl, rfl⟩ rfl rfl rfl (JO.know 0 rfl fun hs88 => ?_))))))
        obtain ⟨g54, h⟩ := guardO_some h
        refine JO.reg ttOk 2 [] [] [(68, .ep ⟨a47, x46.length, c48⟩ (Int.toNat x43 * 1))] _ rfl ⟨hs88.ix g54, ⟨rfl, trivial⟩, rfl⟩ (JO.storeE ttOk rfl rfl rfl rfl rfl rfl rfl rfl rfl [0] (fs := []) rfl (Int.toNat x43) 0 (at' x46 x43) 32 ⟨at_some g54, rfl⟩ ⟨rfl, rfl, rfl⟩ (JO.done rfl (JS.endB (JS.region (JO.reg ttOk 3 [(W (x43 + 1))] [] [(6, .v (.int .i64 (W (x43 + 1))))] _ rfl ⟨⟨trivial, rfl⟩, ⟨rfl, trivial⟩, rfl⟩ (JO.done rfl (JS.endL (n60, (W (x43 + 1)), (List.set x46 (Int.toNat x43) 32), a47, c48) h (Nat.lt_succ_self _) ⟨rfl, rfl, rfl, trivial⟩ trivial [] rfl [0, 0] (by simp only [List.length_set, List.length_replicate, pickO, getF, cl26]; rfl))))))))
      have h := condF h ht89
      refine JS.exit rfl (JS.endJ (x46, a47, c48) h trivial trivial [] rfl [0, 0] rfl)
    rintro ⟨x64, a65, c66⟩ h
    subst hj90
    cases h
    exact JS.fallX ttOk (a65, c66) trivial rfl rfl [1, 0] rfl

def M_i_Grid_put (x0 : Int × Int × List Int × Int × Int × Bool) (x1 : Int) : Option (Int × Int × List Int × Int × Int × Bool) :=
  (bindO (M_i_Width x1) fun (y8 : Int) =>
  (bif (decide (y8 = 0)) then
  some x0
  else
  (joinO (fun ((x46, x47, x48, x51, x52, x53) : Int × Int × List Int × Int × Int × Bool) =>
  (bindO (M_i_Grid_erase (x46, x47, x48, x51, x52, x53) (W ((W (x52 * x46)) + x51)) (W ((W ((W (x52 * x46)) + x51)) + y8))) fun (y89 : Int × Int × List Int × Int × Int × Bool) =>
  (guardO (0 ≤ (W ((W (x52 * x46)) + x51)) ∧ (W ((W (x52 * x46)) + x51)) < (y89.2.2.1.length : Int)) <|
  (joinO (fun (x97 : List Int) =>
  (bif (decide (y89.1 ≤ (W (y89.2.2.2.1 + y8)))) then
  some (y89.1, y89.2.1, x97, (W (y89.1 - 1)), y89.2.2.2.2.1, true)
  else
  some (y89.1, y89.2.1, x97, (W (y89.2.2.2.1 + y8)), y89.2.2.2.2.1, y89.2.2.2.2.2))) fun j100 =>
  (bif (decide (y8 = 2)) then
  (guardO (0 ≤ (W ((W ((W (x52 * x46)) + x51)) + 1)) ∧ (W ((W ((W (x52 * x46)) + x51)) + 1)) < (y89.2.2.1.length : Int)) <|
  j100 (List.set (List.set y89.2.2.1 (Int.toNat (W ((W (x52 * x46)) + x51))) x1) (Int.toNat (W ((W ((W (x52 * x46)) + x51)) + 1))) (-1)))
  else
  j100 (List.set y89.2.2.1 (Int.toNat (W ((W (x52 * x46)) + x51))) x1)))))) fun j54 =>
  (bif (bif x0.2.2.2.2.2 then true else (bif (decide (y8 = 2)) then (decide (x0.2.2.2.1 = (W (x0.1 - 1)))) else false)) then
  (bif (decide (x0.2.2.2.2.1 = (W (x0.2.1 - 1)))) then
  (bindO (M_i_Grid_scroll (x0.1, x0.2.1, x0.2.2.1, 0, x0.2.2.2.2.1, false)) fun (y40 : Int × Int × List Int × Int × Int × Bool) =>
  j54 (y40.1, y40.2.1, y40.2.2.1, y40.2.2.2.1, y40.2.2.2.2.1, y40.2.2.2.2.2))
  else
  j54 (x0.1, x0.2.1, x0.2.2.1, 0, (W (x0.2.2.2.2.1 + 1)), false))
  else
  j54 (x0.1, x0.2.1, x0.2.2.1, x0.2.2.2.1, x0.2.2.2.2.1, x0.2.2.2.2.2)))))

theorem ok_i_Grid_put (x0 : Int × Int × List Int × Int × Int × Bool) (x1 : Int) (a3 : Option Addr) (a4 : Option Addr) (c5 : Nat) (l6 : Nat) (hl7 : x0.2.2.1.length = l6) (r : Int × Int × List Int × Int × Int × Bool) (h : M_i_Grid_put x0 x1 = some r) :
    FX Try.prog 53 [.pointer a3, .int .i64 x1] [] [⟨(.pair (.int .i64) (.pair (.int .i64) (.pair .val (.pair (.int .i64) (.pair (.int .i64) .bool))))), ⟨a3, 1, 1⟩, [(x0.1, x0.2.1, (Sl.v ⟨a4, l6, c5⟩), x0.2.2.2.1, x0.2.2.2.2.1, x0.2.2.2.2.2)]⟩, ⟨(.int .i64), ⟨a4, l6, c5⟩, x0.2.2.1⟩] (fun _ : Option Addr × Nat => True) (fun q => .tuple #[]) (fun q => [⟨(.pair (.int .i64) (.pair (.int .i64) (.pair .val (.pair (.int .i64) (.pair (.int .i64) .bool))))), ⟨a3, 1, 1⟩, [(r.1, r.2.1, (Sl.v ⟨q.1, r.2.2.1.length, q.2⟩), r.2.2.2.1, r.2.2.2.2.1, r.2.2.2.2.2)]⟩, ⟨(.int .i64), ⟨q.1, r.2.2.1.length, q.2⟩, r.2.2.1⟩]) :=
  by
    subst hl7
    refine FX.of (T := TTx) Try.call53 Try.func53 rfl rfl fun w0 L0 => ?_
    unfold M_i_Grid_put at h
    refine JS.ptr 0 a3 rfl ?_
    refine JS.seq (JS.region (JO.reg ttOk 1 [] [] [(6, .v (.int .i64 x1))] _ rfl ⟨⟨rfl, trivial⟩, rfl⟩ ?_))
    obtain ⟨y8, hy9, h⟩ := bindO_some h
    refine JO.call rfl rfl rfl rfl (ok_i_Width x1 _ hy9) rfl [] rfl rfl fun _ _ => JO.reg ttOk 1 [] [] [(4, .v (.int .i64 y8))] _ rfl ⟨⟨rfl, trivial⟩, rfl⟩ (JO.done rfl (JS.seq (JS.seq (JS.region (JO.reg ttOk 2 [] [] [(9, .v (.bool (decide (y8 = 0))))] _ rfl ⟨⟨rfl, trivial⟩, rfl⟩ (JO.done rfl ?_))))))
    refine JS.cond rfl (fun ht147 => ?_) (fun ht147 => ?_)
    · have h := condT h ht147
      cases h
      exact JS.retX ttOk (a4, c5) trivial rfl rfl [0, 0] rfl
    have h := condF h ht147
    refine JS.skip ?_
    obtain ⟨j54, hj146, h⟩ := joinO_some h
    refine JS.seqJ (ι := Int × Int × List Int × Int × Int × Bool × Option Addr × Nat) ⟨fun z => j54 (z.1, z.2.1, z.2.2.1, z.2.2.2.1, z.2.2.2.2.1, z.2.2.2.2.2.1) = some r, fun z => [(0, .ep ⟨a3, 1, 1⟩ 0), (1, .v (.int .i64 x1)), (4, .v (.int .i64 y8))], fun z => .nil, fun z => [], fun z => [⟨(.int .i64), ⟨z.2.2.2.2.2.2.1, z.2.2.1.length, z.2.2.2.2.2.2.2⟩, z.2.2.1⟩, ⟨(.pair (.int .i64) (.pair (.int .i64) (.pair .val (.pair (.int .i64) (.pair (.int .i64) .bool))))), ⟨a3, 1, 1⟩, [(z.1, z.2.1, (Sl.v ⟨z.2.2.2.2.2.2.1, z.2.2.1.length, z.2.2.2.2.2.2.2⟩), z.2.2.2.1, z.2.2.2.2.1, z.2.2.2.2.2.1)]⟩], fun z => 0⟩ ?_ ?_
    · refine JS.seq (JS.know 0 rfl fun hs122 => JS.regionQ rfl (by kernel_rfl) (JQ.reg ttOk 3 [] [(12, .ep ⟨a3, 1, 1⟩ 5)] rfl ⟨(hs122.fa ptr0).1, hs122.fa ptr0, ⟨rfl, trivial⟩⟩ (JQ.loadV ttOk rfl rfl rfl rfl rfl rfl 0 rfl rfl 0 5 (x0.1, x0.2.1, (Sl.v ⟨a4, x0.2.2.1.length, c5⟩), x0.2.2.2.1, x0.2.2.2.2.1, x0.2.2.2.2.2) ⟨rfl, rfl⟩ rfl rfl rfl (JQ.reg ttOk 7 [] [(14, .v (.bool x0.2.2.2.2.2)), (17, .cd [(14, false)] (.v (.bool (decide (y8 = 2))))), (20, .cd [(17, true), (14, false)] (.ep ⟨a3, 1, 1⟩ 3))] rfl ⟨(fun q123 q124 => (hs122.fa ptr0).1), (fun q125 q126 => hs122.fa ptr0), ⟨rfl, rfl, rfl, trivial⟩⟩ (JQ.loadV ttOk rfl rfl rfl rfl rfl rfl 0 rfl rfl 0 3 (x0.1, x0.2.1, (Sl.v ⟨a4, x0.2.2.1.length, c5⟩), x0.2.2.2.1, x0.2.2.2.2.1, x0.2.2.2.2.2) (fun q127 q128 => ⟨rfl, rfl⟩) rfl rfl rfl (JQ.reg ttOk 3 [] [(24, .cd [(17, true), (14, false)] (.ep ⟨a3, 1, 1⟩ 0))] rfl ⟨(fun q129 q130 => (hs122.fa ptr0).1), (fun q131 q132 => hs122.fa ptr0), ⟨rfl, trivial⟩⟩ (JQ.loadV ttOk rfl rfl rfl rfl rfl rfl 0 rfl rfl 0 0 (x0.1, x0.2.1, (Sl.v ⟨a4, x0.2.2.1.length, c5⟩), x0.2.2.2.1, x0.2.2.2.2.1, x0.2.2.2.2.2) (fun q133 q134 => ⟨rfl, rfl⟩) rfl rfl rfl (JQ.reg ttOk 4 [(W (x0.1 - 1))] [(29, .v (.bool (bif x0.2.2.2.2.2 then true else (bif (decide (y8 = 2)) then (decide (x0.2.2.2.1 = (W (x0.1 - 1)))) else false))))] rfl ⟨(fun q135 q136 => ⟨trivial, rfl⟩), ⟨rfl, trivial⟩⟩ (JQ.done rfl ?_)))))))))
      refine JS.cond rfl (fun ht138 => ?_) (fun ht138 => ?_)
      · have h := condT h ht138
        refine JS.seq (JS.region (JO.reg ttOk 4 [] [] [(31, .ep ⟨a3, 1, 1⟩ 0), (33, .ep ⟨a3, 1, 1⟩ 3)] _ rfl ⟨(hs122.fa ptr0).1, hs122.fa ptr0, ⟨rfl, rfl, trivial⟩, rfl⟩ (JO.storeE ttOk rfl rfl rfl rfl rfl rfl rfl rfl rfl [0] (fs := []) rfl 0 3 (x0.1, x0.2.1, (Sl.v ⟨a4, x0.2.2.1.length, c5⟩), x0.2.2.2.1, x0.2.2.2.2.1, x0.2.2.2.2.2) (x0.1, x0.2.1, (Sl.v ⟨a4, x0.2.2.1.length, c5⟩), 0, x0.2.2.2.2.1, x0.2.2.2.2.2) ⟨rfl, rfl⟩ ⟨⟨⟨⟨⟨rfl, rfl, rfl⟩, rfl⟩, rfl⟩, rfl⟩, rfl⟩ (JO.reg ttOk 2 [] [] [(35, .ep ⟨a3, 1, 1⟩ 5)] _ rfl ⟨(hs122.fa ptr0).1, hs122.fa ptr0, ⟨rfl, trivial⟩, rfl⟩ (JO.storeE ttOk rfl rfl rfl rfl rfl rfl rfl rfl rfl [0] (fs := []) rfl 0 5 (x0.1, x0.2.1, (Sl.v ⟨a4, x0.2.2.1.length, c5⟩), 0, x0.2.2.2.2.1, x0.2.2.2.2.2) (x0.1, x0.2.1, (Sl.v ⟨a4, x0.2.2.1.length, c5⟩), 0, x0.2.2.2.2.1, false) ⟨rfl, rfl⟩ ⟨⟨⟨⟨⟨⟨rfl, rfl, rfl⟩, rfl⟩, rfl⟩, rfl⟩, rfl⟩, rfl⟩ (JO.done rfl (JS.seq (JS.regionQ rfl (by kernel_rfl) (JQ.reg ttOk 3 [] [(38, .ep ⟨a3, 1, 1⟩ 4)] rfl ⟨(hs122.fa ptr0).1, hs122.fa ptr0, ⟨rfl, trivial⟩⟩ (JQ.loadV ttOk rfl rfl rfl rfl rfl rfl 0 rfl rfl 0 4 (x0.1, x0.2.1, (Sl.v ⟨a4, x0.2.2.1.length, c5⟩), 0, x0.2.2.2.2.1, false) ⟨rfl, rfl⟩ rfl rfl rfl (JQ.reg ttOk 3 [] [(42, .ep ⟨a3, 1, 1⟩ 1)] rfl ⟨(hs122.fa ptr0).1, hs122.fa ptr0, ⟨rfl, trivial⟩⟩ (JQ.loadV ttOk rfl rfl rfl rfl rfl rfl 0 rfl rfl 0 1 (x0.1, x0.2.1, (Sl.v ⟨a4, x0.2.2.1.length, c5⟩), 0, x0.2.2.2.2.1, false) ⟨rfl, rfl⟩ rfl rfl rfl (JQ.reg ttOk 2 [(W (x0.2.1 - 1))] [(45, .v (.bool (decide (x0.2.2.2.2.1 = (W (x0.2.1 - 1))))))] rfl ⟨⟨trivial, rfl⟩, ⟨rfl, trivial⟩⟩ (JQ.done rfl ?_))))))))))))))
        refine JS.cond rfl (fun ht137 => ?_) (fun ht137 => ?_)
        · have h := condT h ht137
          refine JS.region (JO.reg ttOk 1 [] [] [(46, .ep ⟨a3, 1, 1⟩ 0)] _ rfl ⟨⟨rfl, trivial⟩, rfl⟩ ?_)
          obtain ⟨y40, hy41, h⟩ := bindO_some h
          refine JO.callX rfl rfl rfl rfl (ok_i_Grid_scroll (x0.1, x0.2.1, x0.2.2.1, 0, x0.2.2.2.2.1, false) a3 a4 c5 x0.2.2.1.length rfl _ hy41) rfl [0, 0] rfl [] rfl rfl ?_
          rintro ⟨a42, c43⟩ -
          refine JO.done rfl (JS.endJ (y40.1, y40.2.1, y40.2.2.1, y40.2.2.2.1, y40.2.2.2.2.1, y40.2.2.2.2.2, a42, c43) h ⟨rfl, rfl, rfl, trivial⟩ trivial [] rfl [1, 0] rfl)
        have h := condF h ht137
        refine JS.region (JO.reg ttOk 3 [] [] [(48, .ep ⟨a3, 1, 1⟩ 0), (50, .ep ⟨a3, 1, 1⟩ 4)] _ rfl ⟨(hs122.fa ptr0).1, hs122.fa ptr0, ⟨rfl, rfl, trivial⟩, rfl⟩ (JO.loadV ttOk rfl rfl rfl rfl rfl rfl 0 rfl rfl 0 4 (x0.1, x0.2.1, (Sl.v ⟨a4, x0.2.2.1.length, c5⟩), 0, x0.2.2.2.2.1, false) ⟨rfl, rfl⟩ rfl rfl rfl (JO.reg ttOk 3 [(W (x0.2.2.2.2.1 + 1))] [] [(52, .v (.int .i64 (W (x0.2.2.2.2.1 + 1)))), (54, .ep ⟨a3, 1, 1⟩ 4)] _ rfl ⟨⟨trivial, rfl⟩, (hs122.fa ptr0).1, hs122.fa ptr0, ⟨rfl, rfl, trivial⟩, rfl⟩ (JO.storeE ttOk rfl rfl rfl rfl rfl rfl rfl rfl rfl [0] (fs := []) rfl 0 4 (x0.1, x0.2.1, (Sl.v ⟨a4, x0.2.2.1.length, c5⟩), 0, x0.2.2.2.2.1, false) (x0.1, x0.2.1, (Sl.v ⟨a4, x0.2.2.1.length, c5⟩), 0, (W (x0.2.2.2.2.1 + 1)), false) ⟨rfl, rfl⟩ ⟨⟨⟨⟨⟨⟨rfl, rfl, rfl⟩, rfl⟩, rfl⟩, rfl⟩, rfl⟩, rfl⟩ (JO.done rfl (JS.endJ (x0.1, x0.2.1, x0.2.2.1, 0, (W (x0.2.2.2.2.1 + 1)), false, a4, c5) h ⟨rfl, rfl, rfl, trivial⟩ trivial [] rfl [1, 0] rfl))))))
      have h := condF h ht138
      refine JS.skip (JS.endJ (x0.1, x0.2.1, x0.2.2.1, x0.2.2.2.1, x0.2.2.2.2.1, x0.2.2.2.2.2, a4, c5) h ⟨rfl, rfl, rfl, trivial⟩ trivial [] rfl [1, 0] rfl)
    rintro ⟨x46, x47, x48, x51, x52, x53, a49, c50⟩ h
    subst hj146
    refine JS.seq (JS.know 1 rfl fun hs140 => JS.regionQ rfl (by kernel_rfl) (JQ.reg ttOk 3 [] [(57, .ep ⟨a3, 1, 1⟩ 4)] rfl ⟨(hs140.fa ptr0).1, hs140.fa ptr0, ⟨rfl, trivial⟩⟩ (JQ.loadV ttOk rfl rfl rfl rfl rfl rfl 1 rfl rfl 0 4 (x46, x47, (Sl.v ⟨a49, x48.length, c50⟩), x51, x52, x53) ⟨rfl, rfl⟩ rfl rfl rfl (JQ.reg ttOk 3 [] [(61, .ep ⟨a3, 1, 1⟩ 0)] rfl ⟨(hs140.fa ptr0).1, hs140.fa ptr0, ⟨rfl, trivial⟩⟩ (JQ.loadV ttOk rfl rfl rfl rfl rfl rfl 1 rfl rfl 0 0 (x46, x47, (Sl.v ⟨a49, x48.length, c50⟩), x51, x52, x53) ⟨rfl, rfl⟩ rfl rfl rfl (JQ.reg ttOk 4 [(W (x52 * x46))] [(63, .v (.int .i64 (W (x52 * x46)))), (66, .ep ⟨a3, 1, 1⟩ 3)] rfl ⟨⟨trivial, rfl⟩, (hs140.fa ptr0).1, hs140.fa ptr0, ⟨rfl, rfl, trivial⟩⟩ (JQ.loadV ttOk rfl rfl rfl rfl rfl rfl 1 rfl rfl 0 3 (x46, x47, (Sl.v ⟨a49, x48.length, c50⟩), x51, x52, x53) ⟨rfl, rfl⟩ rfl rfl rfl (JQ.reg ttOk 2 [(W ((W (x52 * x46)) + x51))] [(5, .v (.int .i64 (W ((W (x52 * x46)) + x51))))] rfl ⟨⟨trivial, rfl⟩, ⟨rfl, trivial⟩⟩ (JQ.done rfl (JS.seq (JS.region (JO.reg ttOk 5 [(W ((W ((W (x52 * x46)) + x51)) + y8))] [] [(69, .ep ⟨a3, 1, 1⟩ 0), (70, .v (.int .i64 (W ((W (x52 * x46)) + x51)))), (73, .v (.int .i64 (W ((W ((W (x52 * x46)) + x51)) + y8))))] _ rfl ⟨⟨trivial, rfl⟩, ⟨rfl, rfl, rfl, trivial⟩, rfl⟩ ?_))))))))))))
    obtain ⟨y89, hy90, h⟩ := bindO_some h
    refine JO.callX rfl rfl rfl rfl (ok_i_Grid_erase (x46, x47, x48, x51, x52, x53) (W ((W (x52 * x46)) + x51)) (W ((W ((W (x52 * x46)) + x51)) + y8)) a3 a49 c50 x48.length rfl _ hy90) rfl [1, 0] rfl [] rfl rfl ?_
    rintro ⟨a91, c92⟩ -
    refine JO.done rfl (JS.seq (JS.region (JO.reg ttOk 3 [] [] [(77, .ep ⟨a3, 1, 1⟩ 2)] _ rfl ⟨(hs140.fa ptr0).1, hs140.fa ptr0, ⟨rfl, trivial⟩, rfl⟩ (JO.loadV ttOk rfl rfl rfl rfl rfl rfl 0 rfl rfl 0 2 (y89.1, y89.2.1, (Sl.v ⟨a91, y89.2.2.1.length, c92⟩), y89.2.2.2.1, y89.2.2.2.2.1, y89.2.2.2.2.2) ⟨rfl, rfl⟩ rfl rfl rfl (JO.know 1 rfl fun hs141 => ?_)))))
    obtain ⟨g94, h⟩ := guardO_some h
    refine JO.reg ttOk 3 [] [] [(80, .v (.int .i64 x1)), (81, .ep ⟨a91, y89.2.2.1.length, c92⟩ (Int.toNat (W ((W (x52 * x46)) + x51)) * 1))] _ rfl ⟨hs141.ix g94, ⟨rfl, rfl, trivial⟩, rfl⟩ (JO.storeE ttOk rfl rfl rfl rfl rfl rfl rfl rfl rfl [1] (fs := []) rfl (Int.toNat (W ((W (x52 * x46)) + x51))) 0 (at' y89.2.2.1 (W ((W (x52 * x46)) + x51))) x1 ⟨at_some g94, rfl⟩ ⟨rfl, rfl, rfl⟩ (JO.done rfl ?_))
    obtain ⟨j100, hj145, h⟩ := joinO_some h
    refine JS.seqJ (ι := List Int × Option Addr × Nat) ⟨fun z => j100 z.1 = some r, fun z => [(0, .ep ⟨a3, 1, 1⟩ 0), (4, .v (.int .i64 y8))], fun z => .nil, fun z => [], fun z => [⟨(.int .i64), ⟨z.2.1, z.1.length, z.2.2⟩, z.1⟩, ⟨(.pair (.int .i64) (.pair (.int .i64) (.pair .val (.pair (.int .i64) (.pair (.int .i64) .bool))))), ⟨a3, 1, 1⟩, [(y89.1, y89.2.1, (Sl.v ⟨z.2.1, z.1.length, z.2.2⟩), y89.2.2.2.1, y89.2.2.2.2.1, y89.2.2.2.2.2)]⟩], fun z => 0⟩ ?_ ?_
    · refine JS.seq (JS.region (JO.reg ttOk 2 [] [] [(83, .v (.bool (decide (y8 = 2))))] _ rfl ⟨⟨rfl, trivial⟩, rfl⟩ (JO.done rfl ?_)))
      refine JS.cond rfl (fun ht142 => ?_) (fun ht142 => ?_)
      · have h := condT h ht142
        refine JS.region (JO.reg ttOk 3 [] [] [(86, .ep ⟨a3, 1, 1⟩ 2)] _ rfl ⟨(hs140.fa ptr0).1, hs140.fa ptr0, ⟨rfl, trivial⟩, rfl⟩ (JO.loadV ttOk rfl rfl rfl rfl rfl rfl 1 rfl rfl 0 2 (y89.1, y89.2.1, (Sl.v ⟨a91, y89.2.2.1.length, c92⟩), y89.2.2.2.1, y89.2.2.2.2.1, y89.2.2.2.2.2) ⟨rfl, rfl⟩ rfl rfl rfl ?_))
        obtain ⟨g95, h⟩ := guardO_some h
        refine JO.reg ttOk 3 [(W ((W ((W (x52 * x46)) + x51)) + 1))] [] [(90, .ep ⟨a91, y89.2.2.1.length, c92⟩ (Int.toNat (W ((W ((W (x52 * x46)) + x51)) + 1)) * 1))] _ rfl ⟨⟨trivial, rfl⟩, hs141.ix g95, ⟨rfl, trivial⟩, rfl⟩ (JO.storeE ttOk rfl rfl rfl rfl rfl rfl rfl rfl rfl [0] (fs := []) rfl (Int.toNat (W ((W ((W (x52 * x46)) + x51)) + 1))) 0 (at' (List.set y89.2.2.1 (Int.toNat (W ((W (x52 * x46)) + x51))) x1) (W ((W ((W (x52 * x46)) + x51)) + 1))) (-1) ⟨at_someL (List.length_set.trans rfl) g95, rfl⟩ ⟨rfl, rfl, rfl⟩ (JO.done rfl (JS.endJ ((List.set (List.set y89.2.2.1 (Int.toNat (W ((W (x52 * x46)) + x51))) x1) (Int.toNat (W ((W ((W (x52 * x46)) + x51)) + 1))) (-1)), a91, c92) h ⟨rfl, rfl, trivial⟩ trivial [] rfl [0, 0] (by simp only [List.length_set, List.length_replicate, pickO, getF, cl26]; rfl))))
      have h := condF h ht142
      refine JS.skip (JS.endJ ((List.set y89.2.2.1 (Int.toNat (W ((W (x52 * x46)) + x51))) x1), a91, c92) h ⟨rfl, rfl, trivial⟩ trivial [] rfl [0, 0] (by simp only [List.length_set, List.length_replicate, pickO, getF, cl26]; rfl))
    rintro ⟨x97, a98, c99⟩ h
    subst hj145
    refine JS.seq (JS.region (JO.know 1 rfl fun hs143 => JO.reg ttOk 3 [] [] [(91, .ep ⟨a3, 1, 1⟩ 0), (93, .ep ⟨a3, 1, 1⟩ 3)] _ rfl ⟨(hs143.fa ptr0).1, hs143.fa ptr0, ⟨rfl, rfl, trivial⟩, rfl⟩ (JO.loadV ttOk rfl rfl rfl rfl rfl rfl 1 rfl rfl 0 3 (y89.1, y89.2.1, (Sl.v ⟨a98, x97.length, c99⟩), y89.2.2.2.1, y89.2.2.2.2.1, y89.2.2.2.2.2) ⟨rfl, rfl⟩ rfl rfl rfl (JO.reg ttOk 4 [(W (y89.2.2.2.1 + y8))] [] [(96, .v (.int .i64 (W (y89.2.2.2.1 + y8)))), (98, .ep ⟨a3, 1, 1⟩ 3)] _ rfl ⟨⟨trivial, rfl⟩, (hs143.fa ptr0).1, hs143.fa ptr0, ⟨rfl, rfl, trivial⟩, rfl⟩ (JO.storeE ttOk rfl rfl rfl rfl rfl rfl rfl rfl rfl [1] (fs := []) rfl 0 3 (y89.1, y89.2.1, (Sl.v ⟨a98, x97.length, c99⟩), y89.2.2.2.1, y89.2.2.2.2.1, y89.2.2.2.2.2) (y89.1, y89.2.1, (Sl.v ⟨a98, x97.length, c99⟩), (W (y89.2.2.2.1 + y8)), y89.2.2.2.2.1, y89.2.2.2.2.2) ⟨rfl, rfl⟩ ⟨⟨⟨⟨⟨rfl, rfl, rfl⟩, rfl⟩, rfl⟩, rfl⟩, rfl⟩ (JO.done rfl (JS.seq (JS.regionQ rfl (by kernel_rfl) (JQ.reg ttOk 3 [] [(101, .ep ⟨a3, 1, 1⟩ 3)] rfl ⟨(hs143.fa ptr0).1, hs143.fa ptr0, ⟨rfl, trivial⟩⟩ (JQ.loadV ttOk rfl rfl rfl rfl rfl rfl 0 rfl rfl 0 3 (y89.1, y89.2.1, (Sl.v ⟨a98, x97.length, c99⟩), (W (y89.2.2.2.1 + y8)), y89.2.2.2.2.1, y89.2.2.2.2.2) ⟨rfl, rfl⟩ rfl rfl rfl (JQ.reg ttOk 3 [] [(105, .ep ⟨a3, 1, 1⟩ 0)] rfl ⟨(hs143.fa ptr0).1, hs143.fa ptr0, ⟨rfl, trivial⟩⟩ (JQ.loadV ttOk rfl rfl rfl rfl rfl rfl 0 rfl rfl 0 0 (y89.1, y89.2.1, (Sl.v ⟨a98, x97.length, c99⟩), (W (y89.2.2.2.1 + y8)), y89.2.2.2.2.1, y89.2.2.2.2.2) ⟨rfl, rfl⟩ rfl rfl rfl (JQ.reg ttOk 1 [] [(107, .v (.bool (decide (y89.1 ≤ (W (y89.2.2.2.1 + y8))))))] rfl ⟨rfl, trivial⟩ (JQ.done rfl ?_))))))))))))))
    refine JS.cond rfl (fun ht144 => ?_) (fun ht144 => ?_)
    · have h := condT h ht144
      refine JS.region (JO.reg ttOk 5 [] [] [(108, .ep ⟨a3, 1, 1⟩ 0), (109, .ep ⟨a3, 1, 1⟩ 0), (112, .ep ⟨a3, 1, 1⟩ 0)] _ rfl ⟨(hs143.fa ptr0).1, hs143.fa ptr0, ⟨rfl, rfl, rfl, trivial⟩, rfl⟩ (JO.loadV ttOk rfl rfl rfl rfl rfl rfl 0 rfl rfl 0 0 (y89.1, y89.2.1, (Sl.v ⟨a98, x97.length, c99⟩), (W (y89.2.2.2.1 + y8)), y89.2.2.2.2.1, y89.2.2.2.2.2) ⟨rfl, rfl⟩ rfl rfl rfl (JO.reg ttOk 3 [(W (y89.1 - 1))] [] [(114, .v (.int .i64 (W (y89.1 - 1)))), (116, .ep ⟨a3, 1, 1⟩ 3)] _ rfl ⟨⟨trivial, rfl⟩, (hs143.fa ptr0).1, hs143.fa ptr0, ⟨rfl, rfl, trivial⟩, rfl⟩ (JO.storeE ttOk rfl rfl rfl rfl rfl rfl rfl rfl rfl [0] (fs := []) rfl 0 3 (y89.1, y89.2.1, (Sl.v ⟨a98, x97.length, c99⟩), (W (y89.2.2.2.1 + y8)), y89.2.2.2.2.1, y89.2.2.2.2.2) (y89.1, y89.2.1, (Sl.v ⟨a98, x97.length, c99⟩), (W (y89.1 - 1)), y89.2.2.2.2.1, y89.2.2.2.2.2) ⟨rfl, rfl⟩ ⟨⟨⟨⟨⟨rfl, rfl, rfl⟩, rfl⟩, rfl⟩, rfl⟩, rfl⟩ (JO.reg ttOk 2 [] [] [(118, .ep ⟨a3, 1, 1⟩ 5)] _ rfl ⟨(hs143.fa ptr0).1, hs143.fa ptr0, ⟨rfl, trivial⟩, rfl⟩ (JO.storeE ttOk rfl rfl rfl rfl rfl rfl rfl rfl rfl [0] (fs := []) rfl 0 5 (y89.1, y89.2.1, (Sl.v ⟨a98, x97.length, c99⟩), (W (y89.1 - 1)), y89.2.2.2.2.1, y89.2.2.2.2.2) (y89.1, y89.2.1, (Sl.v ⟨a98, x97.length, c99⟩), (W (y89.1 - 1)), y89.2.2.2.2.1, true) ⟨rfl, rfl⟩ ⟨⟨⟨⟨⟨⟨rfl, rfl, rfl⟩, rfl⟩, rfl⟩, rfl⟩, rfl⟩, rfl⟩ (JO.done rfl ?_)))))))
      cases h
      exact JS.fallX ttOk (a98, c99) trivial rfl rfl [0, 0] rfl
    have h := condF h ht144
    refine JS.skip ?_
    cases h
    exact JS.fallX ttOk (a98, c99) trivial rfl rfl [0, 0] rfl

def M_i_GridPut (x0 : Int × Int × List Int × Int × Int × Bool) (x1 : Int) : Option (Int × Int × List Int × Int × Int × Bool) :=
  (bindO (M_i_GridOk x0) fun (y7 : Bool) =>
  (bif (!y7) then
  some (0, 0, [], 0, 0, false)
  else
  (bindO (M_i_copyGrid x0) fun (y9 : Int × Int × List Int × Int × Int × Bool) =>
  (bindO (M_i_Grid_put y9 x1) fun (y14 : Int × Int × List Int × Int × Int × Bool) =>
  some y14))))

theorem ok_i_GridPut (x0 : Int × Int × List Int × Int × Int × Bool) (x1 : Int) (a3 : Option Addr) (c4 : Nat) (l5 : Nat) (hl6 : x0.2.2.1.length = l5) (r : Int × Int × List Int × Int × Int × Bool) (h : M_i_GridPut x0 x1 = some r) :
    FC Try.prog 12 [.agg #[.int .i64 x0.1, .int .i64 x0.2.1, .slice a3 l5 c4, .int .i64 x0.2.2.2.1, .int .i64 x0.2.2.2.2.1, .bool x0.2.2.2.2.2], .int .i64 x1] [⟨(.int .i64), ⟨a3, l5, c4⟩, x0.2.2.1⟩] (fun _ : Option Addr × Nat => True) (fun q => .agg (cl26 r q.1 q.2).toArray) (fun q => [⟨(.int .i64), ⟨q.1, r.2.2.1.length, q.2⟩, r.2.2.1⟩]) :=
  by
    subst hl6
    refine FC.of (T := TTx) Try.call12 Try.func12 rfl rfl fun w0 => ?_
    unfold M_i_GridPut at h
    refine JS.seq (JS.region (JO.regB ttOk 2 [] [2, 3] [(2, .bp 2 0), (4, .bp 3 0)] (.new 2 26 (cl26 x0 a3 c4) (.new 3 26 (cl26 (0, 0, [], 0, 0, false) none 0) .nil)) rfl ⟨⟨rfl, rfl, trivial⟩, ⟨rfl, rfl, rfl, rfl, rfl, rfl, rfl, rfl, trivial⟩⟩ (JO.done rfl (JS.seq (JS.seq (JS.region (JO.reg ttOk 1 [] [] [(6, .v (.agg (cl26 x0 a3 c4).toArray))] _ rfl ⟨⟨rfl, trivial⟩, rfl⟩ ?_)))))))
    obtain ⟨y7, hy8, h⟩ := bindO_some h
    refine JO.call rfl rfl rfl rfl (ok_i_GridOk x0 a3 c4 x0.2.2.1.length rfl _ hy8) rfl [0] rfl rfl fun _ _ => JO.reg ttOk 1 [] [] [(8, .v (.bool (!y7)))] _ rfl ⟨⟨rfl, trivial⟩, rfl⟩ (JO.done rfl ?_)
    refine JS.cond rfl (fun ht19 => ?_) (fun ht19 => ?_)
    · have h := condT h ht19
      refine JS.seq (JS.region (JO.regB ttOk 2 [] [] [] (.new 3 26 (cl26 (0, 0, [], 0, 0, false) none 0) .nil) rfl ⟨trivial, ⟨rfl, rfl, rfl, rfl, trivial⟩⟩ (JO.done rfl ?_)))
      cases h
      refine JS.nilO (.int .i64) Sl.nil rfl rfl (JS.ret ttOk (none, 0) trivial rfl rfl [0] rfl)
    have h := condF h ht19
    refine JS.skip (JS.seq (JS.region (JO.reg ttOk 1 [] [] [(10, .v (.agg (cl26 x0 a3 c4).toArray))] _ rfl ⟨⟨rfl, trivial⟩, rfl⟩ ?_)))
    obtain ⟨y9, hy10, h⟩ := bindO_some h
    refine JO.call rfl rfl rfl rfl (ok_i_copyGrid x0 a3 c4 x0.2.2.1.length rfl _ hy10) rfl [0] rfl rfl ?_
    rintro ⟨a11, c12⟩ -
    refine JO.regB ttOk 2 [] [11] [(5, .bp 11 0)] (.new 3 26 (cl26 (0, 0, [], 0, 0, false) none 0) (.new 11 26 (cl26 y9 a11 c12) .nil)) rfl ⟨⟨rfl, trivial⟩, ⟨rfl, rfl, rfl, rfl, rfl, rfl, rfl, rfl, trivial⟩⟩ (JO.done rfl (JS.seq (JS.region (JO.reg ttOk 1 [] [] [(12, .v (.int .i64 x1))] _ rfl ⟨⟨rfl, trivial⟩, rfl⟩ ?_))))
    obtain ⟨y14, hy15, h⟩ := bindO_some h
    refine JO.unbox 11 rfl (B' := (.new 3 26 (cl26 (0, 0, [], 0, 0, false) none 0) .nil)) ⟨rfl, rfl, rfl, rfl, trivial⟩ rfl (.pair (.int .i64) (.pair (.int .i64) (.pair .val (.pair (.int .i64) (.pair (.int .i64) .bool))))) (y9.1, y9.2.1, (Sl.v ⟨a11, y9.2.2.1.length, c12⟩), y9.2.2.2.1, y9.2.2.2.2.1, y9.2.2.2.2.2) ⟨rfl, rfl, rfl⟩ (fun a13 => [(0, .v (.agg (cl26 x0 a3 c4).toArray)), (1, .v (.int .i64 x1)), (4, .bp 3 0), (5, .ep ⟨a13, 1, 1⟩ 0), (6, .v (.agg (cl26 x0 a3 c4).toArray)), (7, .v (.bool y7)), (8, .v (.bool (!y7))), (10, .v (.agg (cl26 x0 a3 c4).toArray)), (11, .v (.agg (cl26 y9 a11 c12).toArray)), (12, .v (.int .i64 x1))]) (fun _ => ⟨rfl, rfl, rfl, rfl, rfl, rfl, rfl, rfl, rfl, rfl, trivial⟩) fun a13 => JO.callX rfl rfl rfl rfl (ok_i_Grid_put y9 x1 a13 a11 c12 y9.2.2.1.length rfl _ hy15) rfl [0, 0] rfl [] rfl rfl ?_
    rintro ⟨a16, c17⟩ -
    refine JO.done rfl (JS.seq (JS.region (JO.loadV ttOk rfl rfl rfl rfl rfl rfl 1 rfl rfl 0 0 (y14.1, y14.2.1, (Sl.v ⟨a16, y14.2.2.1.length, c17⟩), y14.2.2.2.1, y14.2.2.2.2.1, y14.2.2.2.2.2) ⟨rfl, rfl⟩ rfl rfl rfl (JO.regB ttOk 1 [] [] [] (.new 3 26 (cl26 y14 a16 c17) .nil) rfl ⟨trivial, ⟨rfl, rfl, rfl, rfl, trivial⟩⟩ (JO.done rfl ?_)))))
    cases h
    exact JS.ret ttOk (a16, c17) trivial rfl rfl [1] rfl

def M_s_MakeNum (x0 : List UInt8) (x1 : Int) : Option Int :=
  (bindO (M_s_l01New x0) fun (y7 : List UInt8 × Int × Int) =>
  (bindO (M_s_l01Below (x0, y7.2.1, (W (y7.2.2 + 777))) x1) fun (y11, y12) =>
  some y11))

theorem ok_s_MakeNum (x0 : List UInt8) (x1 : Int) (a3 : Option Addr) (c4 : Nat) (l5 : Nat) (hl6 : x0.length = l5) (r : Int) (h : M_s_MakeNum x0 x1 = some r) :
    FC Try.prog 19 [.slice a3 l5 c4, .int .i64 x1] [⟨.byte, ⟨a3, l5, c4⟩, x0⟩] (fun _ : Unit => True) (fun _ => .int .i64 r) (fun _ => []) :=
  by
    subst hl6
    refine FC.of (T := TTx) Try.call19 Try.func19 rfl rfl fun w0 => ?_
    unfold M_s_MakeNum at h
    refine JS.seq (JS.region (JO.reg ttOk 1 [] [] [] _ rfl ⟨trivial, rfl⟩ (JO.done rfl (JS.seq (JS.region (JO.reg ttOk 1 [] [] [(6, .v (.slice a3 x0.length c4))] _ rfl ⟨⟨rfl, trivial⟩, rfl⟩ ?_))))))
    obtain ⟨y7, hy8, h⟩ := bindO_some h
    refine JO.call rfl rfl rfl rfl (ok_s_l01New x0 a3 c4 x0.length rfl _ hy8) rfl [0] rfl rfl fun a9 _ => JO.ptr 7 a9 rfl (JO.reg ttOk 1 [] [] [(5, .ep ⟨a9, 1, 1⟩ 0)] _ rfl ⟨⟨rfl, trivial⟩, rfl⟩ (JO.done rfl (JS.seq (JS.region (JO.know 1 rfl fun hs14 => JO.reg ttOk 4 [] [] [(8, .ep ⟨a9, 1, 1⟩ 0), (11, .ep ⟨a9, 1, 1⟩ 2)] _ rfl ⟨(hs14.fa ptr0).1, hs14.fa ptr0, ⟨rfl, rfl, trivial⟩, rfl⟩ (JO.loadV ttOk rfl rfl rfl rfl rfl rfl 1 rfl rfl 0 2 ((Sl.v ⟨a3, x0.length, c4⟩), y7.2.1, y7.2.2) ⟨rfl, rfl⟩ rfl rfl rfl (JO.reg ttOk 3 [(W (y7.2.2 + 777))] [] [(13, .v (.int .i64 (W (y7.2.2 + 777)))), (15, .ep ⟨a9, 1, 1⟩ 2)] _ rfl ⟨⟨trivial, rfl⟩, (hs14.fa ptr0).1, hs14.fa ptr0, ⟨rfl, rfl, trivial⟩, rfl⟩ (JO.storeE ttOk rfl rfl rfl rfl rfl rfl rfl rfl rfl [0] (fs := []) rfl 0 2 ((Sl.v ⟨a3, x0.length, c4⟩), y7.2.1, y7.2.2) ((Sl.v ⟨a3, x0.length, c4⟩), y7.2.1, (W (y7.2.2 + 777))) ⟨rfl, rfl⟩ ⟨⟨⟨rfl, rfl, rfl⟩, rfl⟩, rfl⟩ (JO.done rfl (JS.seq (JS.region (JO.reg ttOk 2 [] [] [(16, .ep ⟨a9, 1, 1⟩ 0), (17, .v (.int .i64 x1))] _ rfl ⟨⟨rfl, rfl, trivial⟩, rfl⟩ ?_))))))))))))
    obtain ⟨⟨y11, y12⟩, hy13, h⟩ := bindO_some h
    refine JO.callX rfl rfl rfl rfl (ok_s_l01Below (x0, y7.2.1, (W (y7.2.2 + 777))) x1 a9 a3 c4 x0.length rfl _ hy13) rfl [0] rfl [0] rfl rfl fun _ _ => JO.reg ttOk 1 [] [] [(4, .v (.int .i64 y11))] _ rfl ⟨⟨rfl, trivial⟩, rfl⟩ (JO.done rfl ?_)
    cases h
    exact JS.ret ttOk () trivial rfl rfl [] rfl

def M_i_GridAt (x0 : Int × Int × List Int × Int × Int × Bool) (x1 : Int) (x2 : Int) : Option Int :=
  (bindO (M_i_GridOk x0) fun (y8 : Bool) =>
  (callO ((!y8) = false) (M_i_in x1 0 (W (x0.1 - 1))) false fun (y11 : Bool) =>
  (callO ((bif (!y8) then true else (!y11)) = false) (M_i_in x2 0 (W (x0.2.1 - 1))) false fun (y15 : Bool) =>
  (bif (bif (bif (!y8) then true else (!y11)) then true else (!y15)) then
  some 0
  else
  (guardO (0 ≤ (W ((W (x2 * x0.1)) + x1)) ∧ (W ((W (x2 * x0.1)) + x1)) < (x0.2.2.1.length : Int)) <|
  some (at' x0.2.2.1 (W ((W (x2 * x0.1)) + x1))))))))

theorem ok_i_GridAt (x0 : Int × Int × List Int × Int × Int × Bool) (x1 : Int) (x2 : Int) (a4 : Option Addr) (c5 : Nat) (l6 : Nat) (hl7 : x0.2.2.1.length = l6) (r : Int) (h : M_i_GridAt x0 x1 x2 = some r) :
    FC Try.prog 21 [.agg #[.int .i64 x0.1, .int .i64 x0.2.1, .slice a4 l6 c5, .int .i64 x0.2.2.2.1, .int .i64 x0.2.2.2.2.1, .bool x0.2.2.2.2.2], .int .i64 x1, .int .i64 x2] [⟨(.int .i64), ⟨a4, l6, c5⟩, x0.2.2.1⟩] (fun _ : Unit => True) (fun _ => .int .i64 r) (fun _ => []) :=
  by
    subst hl7
    refine FC.of (T := TTx) Try.call21 Try.func21 rfl rfl fun w0 => ?_
    unfold M_i_GridAt at h
    refine JS.seq (JS.region (JO.regB ttOk 2 [] [2] [(3, .bp 2 0)] (.new 2 26 (cl26 x0 a4 c5) .nil) rfl ⟨⟨rfl, trivial⟩, ⟨rfl, rfl, rfl, rfl, trivial⟩⟩ (JO.done rfl (JS.seq (JS.seq (JS.region (JO.reg ttOk 1 [] [] [(7, .v (.agg (cl26 x0 a4 c5).toArray))] _ rfl ⟨⟨rfl, trivial⟩, rfl⟩ ?_)))))))
    obtain ⟨y8, hy9, h⟩ := bindO_some h
    refine JO.call rfl rfl rfl rfl (ok_i_GridOk x0 a4 c5 x0.2.2.1.length rfl _ hy9) rfl [0] rfl rfl fun _ _ => JO.reg ttOk 6 [(W (x0.1 - 1))] [] [(10, .v (.bool (!y8))), (11, .cd [(10, false)] (.v (.int .i64 x1))), (14, .cd [(10, false)] (.v (.int .i64 (W (x0.1 - 1)))))] _ rfl ⟨(fun q21 => ⟨trivial, rfl⟩), ⟨rfl, rfl, rfl, trivial⟩, rfl⟩ ?_
    obtain ⟨y11, hy12, -, h⟩ := callO_some h
    refine JO.callg rfl rfl rfl rfl (fun q22 => ok_i_in x1 0 (W (x0.1 - 1)) _ (hy12 q22)) rfl [] rfl rfl (JO.reg ttOk 7 [(W (x0.2.1 - 1))] [] [(18, .v (.bool (bif (!y8) then true else (!y11)))), (19, .cd [(18, false)] (.v (.int .i64 x2))), (22, .cd [(18, false)] (.v (.int .i64 (W (x0.2.1 - 1)))))] _ rfl ⟨(fun q23 => ⟨trivial, rfl⟩), ⟨rfl, rfl, rfl, trivial⟩, rfl⟩ ?_)
    obtain ⟨y15, hy16, -, h⟩ := callO_some h
    refine JO.callg rfl rfl rfl rfl (fun q24 => ok_i_in x2 0 (W (x0.2.1 - 1)) _ (hy16 q24)) rfl [] rfl rfl (JO.reg ttOk 2 [] [] [(25, .v (.bool (bif (bif (!y8) then true else (!y11)) then true else (!y15))))] _ rfl ⟨⟨rfl, trivial⟩, rfl⟩ (JO.done rfl ?_))
    refine JS.cond rfl (fun ht26 => ?_) (fun ht26 => ?_)
    · have h := condT h ht26
      refine JS.seq (JS.region (JO.reg ttOk 1 [] [] [(6, .v (.int .i64 0))] _ rfl ⟨⟨rfl, trivial⟩, rfl⟩ (JO.done rfl ?_)))
      cases h
      exact JS.ret ttOk () trivial rfl rfl [] rfl
    have h := condF h ht26
    refine JS.skip (JS.seq (JS.region (JO.know 0 rfl fun hs25 => ?_)))
    obtain ⟨g19, h⟩ := guardO_some h
    refine JO.reg ttOk 9 [(W (x2 * x0.1)), (W ((W (x2 * x0.1)) + x1))] [] [(34, .ep ⟨a4, x0.2.2.1.length, c5⟩ (Int.toNat (W ((W (x2 * x0.1)) + x1)) * 1))] _ rfl ⟨⟨trivial, rfl⟩, ⟨trivial, rfl⟩, hs25.ix g19, ⟨rfl, trivial⟩, rfl⟩ (JO.load ttOk rfl rfl rfl rfl rfl rfl rfl 0 rfl rfl (Int.toNat (W ((W (x2 * x0.1)) + x1))) 0 (at' x0.2.2.1 (W ((W (x2 * x0.1)) + x1))) ⟨at_some g19, rfl⟩ rfl rfl (JO.reg ttOk 1 [] [] [(6, .v (.int .i64 (at' x0.2.2.1 (W ((W (x2 * x0.1)) + x1)))))] _ rfl ⟨⟨rfl, trivial⟩, rfl⟩ (JO.done rfl ?_)))
    cases h
    exact JS.ret ttOk () trivial rfl rfl [] rfl

def M_i_GridScroll (x0 : Int × Int × List Int × Int × Int × Bool) : Option (Int × Int × List Int × Int × Int × Bool) :=
  (bindO (M_i_GridOk x0) fun (y6 : Bool) =>
  (bif (!y6) then
  some (0, 0, [], 0, 0, false)
  else
  (bindO (M_i_copyGrid x0) fun (y8 : Int × Int × List Int × Int × Int × Bool) =>
  (bindO (M_i_Grid_scroll y8) fun (y13 : Int × Int × List Int × Int × Int × Bool) =>
  some y13))))

theorem ok_i_GridScroll (x0 : Int × Int × List Int × Int × Int × Bool) (a2 : Option Addr) (c3 : Nat) (l4 : Nat) (hl5 : x0.2.2.1.length = l4) (r : Int × Int × List Int × Int × Int × Bool) (h : M_i_GridScroll x0 = some r) :
    FC Try.prog 22 [.agg #[.int .i64 x0.1, .int .i64 x0.2.1, .slice a2 l4 c3, .int .i64 x0.2.2.2.1, .int .i64 x0.2.2.2.2.1, .bool x0.2.2.2.2.2]] [⟨(.int .i64), ⟨a2, l4, c3⟩, x0.2.2.1⟩] (fun _ : Option Addr × Nat => True) (fun q => .agg (cl26 r q.1 q.2).toArray) (fun q => [⟨(.int .i64), ⟨q.1, r.2.2.1.length, q.2⟩, r.2.2.1⟩]) :=
  by
    subst hl5
    refine FC.of (T := TTx) Try.call22 Try.func22 rfl rfl fun w0 => ?_
    unfold M_i_GridScroll at h
    refine JS.seq (JS.region (JO.regB ttOk 2 [] [2, 3] [(1, .bp 2 0), (2, .bp 3 0)] (.new 2 26 (cl26 x0 a2 c3) (.new 3 26 (cl26 (0, 0, [], 0, 0, false) none 0) .nil)) rfl ⟨⟨rfl, rfl, trivial⟩, ⟨rfl, rfl, rfl, rfl, rfl, rfl, rfl, rfl, trivial⟩⟩ (JO.done rfl (JS.seq (JS.seq (JS.region (JO.reg ttOk 1 [] [] [(4, .v (.agg (cl26 x0 a2 c3).toArray))] _ rfl ⟨⟨rfl, trivial⟩, rfl⟩ ?_)))))))
    obtain ⟨y6, hy7, h⟩ := bindO_some h
    refine JO.call rfl rfl rfl rfl (ok_i_GridOk x0 a2 c3 x0.2.2.1.length rfl _ hy7) rfl [0] rfl rfl fun _ _ => JO.reg ttOk 1 [] [] [(6, .v (.bool (!y6)))] _ rfl ⟨⟨rfl, trivial⟩, rfl⟩ (JO.done rfl ?_)
    refine JS.cond rfl (fun ht18 => ?_) (fun ht18 => ?_)
    · have h := condT h ht18
      refine JS.seq (JS.region (JO.regB ttOk 2 [] [] [] (.new 3 26 (cl26 (0, 0, [], 0, 0, false) none 0) .nil) rfl ⟨trivial, ⟨rfl, rfl, rfl, rfl, trivial⟩⟩ (JO.done rfl ?_)))
      cases h
      refine JS.nilO (.int .i64) Sl.nil rfl rfl (JS.ret ttOk (none, 0) trivial rfl rfl [0] rfl)
    have h := condF h ht18
    refine JS.skip (JS.seq (JS.region (JO.reg ttOk 1 [] [] [(8, .v (.agg (cl26 x0 a2 c3).toArray))] _ rfl ⟨⟨rfl, trivial⟩, rfl⟩ ?_)))
    obtain ⟨y8, hy9, h⟩ := bindO_some h
    refine JO.call rfl rfl rfl rfl (ok_i_copyGrid x0 a2 c3 x0.2.2.1.length rfl _ hy9) rfl [0] rfl rfl ?_
    rintro ⟨a10, c11⟩ -
    refine JO.regB ttOk 2 [] [11] [(3, .bp 11 0)] (.new 3 26 (cl26 (0, 0, [], 0, 0, false) none 0) (.new 11 26 (cl26 y8 a10 c11) .nil)) rfl ⟨⟨rfl, trivial⟩, ⟨rfl, rfl, rfl, rfl, rfl, rfl, rfl, rfl, trivial⟩⟩ (JO.done rfl (JS.seq (JS.region ?_)))
    obtain ⟨y13, hy14, h⟩ := bindO_some h
    refine JO.unbox 11 rfl (B' := (.new 3 26 (cl26 (0, 0, [], 0, 0, false) none 0) .nil)) ⟨rfl, rfl, rfl, rfl, trivial⟩ rfl (.pair (.int .i64) (.pair (.int .i64) (.pair .val (.pair (.int .i64) (.pair (.int .i64) .bool))))) (y8.1, y8.2.1, (Sl.v ⟨a10, y8.2.2.1.length, c11⟩), y8.2.2.2.1, y8.2.2.2.2.1, y8.2.2.2.2.2) ⟨rfl, rfl, rfl⟩ (fun a12 => [(0, .v (.agg (cl26 x0 a2 c3).toArray)), (2, .bp 3 0), (3, .ep ⟨a12, 1, 1⟩ 0), (4, .v (.agg (cl26 x0 a2 c3).toArray)), (5, .v (.bool y6)), (6, .v (.bool (!y6))), (8, .v (.agg (cl26 x0 a2 c3).toArray)), (9, .v (.agg (cl26 y8 a10 c11).toArray))]) (fun _ => ⟨rfl, rfl, rfl, rfl, rfl, rfl, rfl, rfl, trivial⟩) fun a12 => JO.callX rfl rfl rfl rfl (ok_i_Grid_scroll y8 a12 a10 c11 y8.2.2.1.length rfl _ hy14) rfl [0, 0] rfl [] rfl rfl ?_
    rintro ⟨a15, c16⟩ -
    refine JO.done rfl (JS.seq (JS.region (JO.loadV ttOk rfl rfl rfl rfl rfl rfl 1 rfl rfl 0 0 (y13.1, y13.2.1, (Sl.v ⟨a15, y13.2.2.1.length, c16⟩), y13.2.2.2.1, y13.2.2.2.2.1, y13.2.2.2.2.2) ⟨rfl, rfl⟩ rfl rfl rfl (JO.regB ttOk 1 [] [] [] (.new 3 26 (cl26 y13 a15 c16) .nil) rfl ⟨trivial, ⟨rfl, rfl, rfl, rfl, trivial⟩⟩ (JO.done rfl ?_)))))
    cases h
    exact JS.ret ttOk (a15, c16) trivial rfl rfl [1] rfl

def M_i_GridClear (x0 : Int × Int × List Int × Int × Int × Bool) (x1 : Int) (x2 : Int) : Option (Int × Int × List Int × Int × Int × Bool) :=
  (bindO (M_i_GridOk x0) fun (y8 : Bool) =>
  (bif (!y8) then
  some (0, 0, [], 0, 0, false)
  else
  (bindO (M_i_copyGrid x0) fun (y10 : Int × Int × List Int × Int × Int × Bool) =>
  (bindO (M_i_Grid_erase y10 x1 x2) fun (y15 : Int × Int × List Int × Int × Int × Bool) =>
  some y15))))

theorem ok_i_GridClear (x0 : Int × Int × List Int × Int × Int × Bool) (x1 : Int) (x2 : Int) (a4 : Option Addr) (c5 : Nat) (l6 : Nat) (hl7 : x0.2.2.1.length = l6) (r : Int × Int × List Int × Int × Int × Bool) (h : M_i_GridClear x0 x1 x2 = some r) :
    FC Try.prog 23 [.agg #[.int .i64 x0.1, .int .i64 x0.2.1, .slice a4 l6 c5, .int .i64 x0.2.2.2.1, .int .i64 x0.2.2.2.2.1, .bool x0.2.2.2.2.2], .int .i64 x1, .int .i64 x2] [⟨(.int .i64), ⟨a4, l6, c5⟩, x0.2.2.1⟩] (fun _ : Option Addr × Nat => True) (fun q => .agg (cl26 r q.1 q.2).toArray) (fun q => [⟨(.int .i64), ⟨q.1, r.2.2.1.length, q.2⟩, r.2.2.1⟩]) :=
  by
    subst hl7
    refine FC.of (T := TTx) Try.call23 Try.func23 rfl rfl fun w0 => ?_
    unfold M_i_GridClear at h
    refine JS.seq (JS.region (JO.regB ttOk 2 [] [2, 3] [(3, .bp 2 0), (6, .bp 3 0)] (.new 2 26 (cl26 x0 a4 c5) (.new 3 26 (cl26 (0, 0, [], 0, 0, false) none 0) .nil)) rfl ⟨⟨rfl, rfl, trivial⟩, ⟨rfl, rfl, rfl, rfl, rfl, rfl, rfl, rfl, trivial⟩⟩ (JO.done rfl (JS.seq (JS.seq (JS.region (JO.reg ttOk 1 [] [] [(8, .v (.agg (cl26 x0 a4 c5).toArray))] _ rfl ⟨⟨rfl, trivial⟩, rfl⟩ ?_)))))))
    obtain ⟨y8, hy9, h⟩ := bindO_some h
    refine JO.call rfl rfl rfl rfl (ok_i_GridOk x0 a4 c5 x0.2.2.1.length rfl _ hy9) rfl [0] rfl rfl fun _ _ => JO.reg ttOk 1 [] [] [(10, .v (.bool (!y8)))] _ rfl ⟨⟨rfl, trivial⟩, rfl⟩ (JO.done rfl ?_)
    refine JS.cond rfl (fun ht20 => ?_) (fun ht20 => ?_)
    · have h := condT h ht20
      refine JS.seq (JS.region (JO.regB ttOk 2 [] [] [] (.new 3 26 (cl26 (0, 0, [], 0, 0, false) none 0) .nil) rfl ⟨trivial, ⟨rfl, rfl, rfl, rfl, trivial⟩⟩ (JO.done rfl ?_)))
      cases h
      refine JS.nilO (.int .i64) Sl.nil rfl rfl (JS.ret ttOk (none, 0) trivial rfl rfl [0] rfl)
    have h := condF h ht20
    refine JS.skip (JS.seq (JS.region (JO.reg ttOk 1 [] [] [(12, .v (.agg (cl26 x0 a4 c5).toArray))] _ rfl ⟨⟨rfl, trivial⟩, rfl⟩ ?_)))
    obtain ⟨y10, hy11, h⟩ := bindO_some h
    refine JO.call rfl rfl rfl rfl (ok_i_copyGrid x0 a4 c5 x0.2.2.1.length rfl _ hy11) rfl [0] rfl rfl ?_
    rintro ⟨a12, c13⟩ -
    refine JO.regB ttOk 2 [] [11] [(7, .bp 11 0)] (.new 3 26 (cl26 (0, 0, [], 0, 0, false) none 0) (.new 11 26 (cl26 y10 a12 c13) .nil)) rfl ⟨⟨rfl, trivial⟩, ⟨rfl, rfl, rfl, rfl, rfl, rfl, rfl, rfl, trivial⟩⟩ (JO.done rfl (JS.seq (JS.region (JO.reg ttOk 2 [] [] [(14, .v (.int .i64 x1)), (15, .v (.int .i64 x2))] _ rfl ⟨⟨rfl, rfl, trivial⟩, rfl⟩ ?_))))
    obtain ⟨y15, hy16, h⟩ := bindO_some h
    refine JO.unbox 11 rfl (B' := (.new 3 26 (cl26 (0, 0, [], 0, 0, false) none 0) .nil)) ⟨rfl, rfl, rfl, rfl, trivial⟩ rfl (.pair (.int .i64) (.pair (.int .i64) (.pair .val (.pair (.int .i64) (.pair (.int .i64) .bool))))) (y10.1, y10.2.1, (Sl.v ⟨a12, y10.2.2.1.length, c13⟩), y10.2.2.2.1, y10.2.2.2.2.1, y10.2.2.2.2.2) ⟨rfl, rfl, rfl⟩ (fun a14 => [(0, .v (.agg (cl26 x0 a4 c5).toArray)), (1, .v (.int .i64 x1)), (2, .v (.int .i64 x2)), (6, .bp 3 0), (7, .ep ⟨a14, 1, 1⟩ 0), (8, .v (.agg (cl26 x0 a4 c5).toArray)), (9, .v (.bool y8)), (10, .v (.bool (!y8))), (12, .v (.agg (cl26 x0 a4 c5).toArray)), (13, .v (.agg (cl26 y10 a12 c13).toArray)), (14, .v (.int .i64 x1)), (15, .v (.int .i64 x2))]) (fun _ => ⟨rfl, rfl, rfl, rfl, rfl, rfl, rfl, rfl, rfl, rfl, rfl, rfl, trivial⟩) fun a14 => JO.callX rfl rfl rfl rfl (ok_i_Grid_erase y10 x1 x2 a14 a12 c13 y10.2.2.1.length rfl _ hy16) rfl [0, 0] rfl [] rfl rfl ?_
    rintro ⟨a17, c18⟩ -
    refine JO.done rfl (JS.seq (JS.region (JO.loadV ttOk rfl rfl rfl rfl rfl rfl 1 rfl rfl 0 0 (y15.1, y15.2.1, (Sl.v ⟨a17, y15.2.2.1.length, c18⟩), y15.2.2.2.1, y15.2.2.2.2.1, y15.2.2.2.2.2) ⟨rfl, rfl⟩ rfl rfl rfl (JO.regB ttOk 1 [] [] [] (.new 3 26 (cl26 y15 a17 c18) .nil) rfl ⟨trivial, ⟨rfl, rfl, rfl, rfl, trivial⟩⟩ (JO.done rfl ?_)))))
    cases h
    exact JS.ret ttOk (a17, c18) trivial rfl rfl [1] rfl

def M_i_RuneBytes (x0 : Int) : Option (List UInt8) :=
  (bindO (M_i_RuneOk x0) fun (y2 : Bool) =>
  (bif (!y2) then
  some ([])
  else
  (bif (decide (x0 < 128)) then
  some ([(u8 (x0))] : List UInt8)
  else
  (bif (decide (x0 < 2048)) then
  some ([(u8 ((W (192 + (W (Int.tdiv x0 64)))))), (u8 ((W (128 + (Int.tmod x0 64)))))] : List UInt8)
  else
  (bif (decide (x0 < 65536)) then
  some ([(u8 ((W (224 + (W (Int.tdiv x0 4096)))))), (u8 ((W (128 + (Int.tmod (W (Int.tdiv x0 64)) 64))))), (u8 ((W (128 + (Int.tmod x0 64)))))] : List UInt8)
  else
  some ([(u8 ((W (240 + (W (Int.tdiv x0 262144)))))), (u8 ((W (128 + (Int.tmod (W (Int.tdiv x0 4096)) 64))))), (u8 ((W (128 + (Int.tmod (W (Int.tdiv x0 64)) 64))))), (u8 ((W (128 + (Int.tmod x0 64)))))] : List UInt8))))))

theorem ok_i_RuneBytes (x0 : Int) (r : List UInt8) (h : M_i_RuneBytes x0 = some r) :
    FC Try.prog 75 [.int .i64 x0] [] (fun _ : Option Addr × Nat => True) (fun q => .slice q.1 r.length q.2) (fun q => [⟨.byte, ⟨q.1, r.length, q.2⟩, r⟩]) :=
  by
    refine FC.of (T := TTx) Try.call75 Try.func75 rfl rfl fun w0 => ?_
    unfold M_i_RuneBytes at h
    refine JS.seq (JS.region (JO.reg ttOk 1 [] [] [] _ rfl ⟨trivial, rfl⟩ (JO.done rfl (JS.seq (JS.block (JS.seq (JS.region (JO.reg ttOk 1 [] [] [(4, .v (.int .i64 x0))] _ rfl ⟨⟨rfl, trivial⟩, rfl⟩ ?_))))))))
    obtain ⟨y2, hy3, h⟩ := bindO_some h
    refine JO.call rfl rfl rfl rfl (ok_i_RuneOk x0 _ hy3) rfl [] rfl rfl fun _ _ => JO.reg ttOk 2 [] [] [(3, .v (.bool (!y2)))] _ rfl ⟨⟨rfl, trivial⟩, rfl⟩ (JO.done rfl ?_)
    refine JS.cond rfl (fun ht27 => ?_) (fun ht27 => ?_)
    · have h := condT h ht27
      refine JS.seq (JS.region (JO.reg ttOk 1 [] [] [(2, .v (.slice none 0 0))] _ rfl ⟨⟨rfl, trivial⟩, rfl⟩ (JO.done rfl ?_)))
      cases h
      refine JS.nilO .byte Sl.nil rfl rfl (JS.ret ttOk (none, 0) trivial rfl rfl [0] rfl)
    have h := condF h ht27
    refine JS.seq (JS.region (JO.reg ttOk 3 [] [] [(7, .v (.bool (decide (x0 < 128))))] _ rfl ⟨⟨rfl, trivial⟩, rfl⟩ (JO.done rfl ?_)))
    refine JS.cond rfl (fun ht26 => ?_) (fun ht26 => ?_)
    · have h := condT h ht26
      refine JS.seq (JS.region (JO.reg ttOk 2 [((u8 (x0)).toNat : Int)] [] [(11, .v (.int .u8 ((u8 (x0)).toNat : Int)))] _ rfl ⟨⟨trivial, u8_wrap _⟩, ⟨rfl, trivial⟩, rfl⟩ ?_))
      refine JO.ofK rfl (JK.buildSlice ttOk rfl rfl rfl rfl rfl rfl rfl rfl rfl rfl rfl [] rfl .byte [(u8 (x0))] ⟨rfl, rfl⟩ rfl rfl fun a4 => JO.toK ?_)
      refine JO.reg ttOk 1 [] [] [(2, .v (.slice a4 ([(u8 (x0))] : List UInt8).length ([(u8 (x0))] : List UInt8).length))] _ rfl ⟨⟨rfl, trivial⟩, rfl⟩ (JO.done rfl ?_)
      cases h
      exact JS.ret ttOk (a4, ([(u8 (x0))] : List UInt8).length) trivial rfl rfl [0] rfl
    have h := condF h ht26
    refine JS.seq (JS.region (JO.reg ttOk 3 [] [] [(13, .v (.bool (decide (x0 < 2048))))] _ rfl ⟨⟨rfl, trivial⟩, rfl⟩ (JO.done rfl ?_)))
    refine JS.cond rfl (fun ht25 => ?_) (fun ht25 => ?_)
    · have h := condT h ht25
      refine JS.seq (JS.region ?_)
      have g5 : (64 : Int) ≠ 0 := by decide
      have g6 : (64 : Int) ≠ 0 := by decide
      refine JO.reg ttOk 8 [(W (Int.tdiv x0 64)), (W (192 + (W (Int.tdiv x0 64)))), ((u8 ((W (192 + (W (Int.tdiv x0 64)))))).toNat : Int), (W (128 + (Int.tmod x0 64))), ((u8 ((W (128 + (Int.tmod x0 64))))).toNat : Int)] [] [(19, .v (.int .u8 ((u8 ((W (192 + (W (Int.tdiv x0 64)))))).toNat : Int))), (23, .v (.int .u8 ((u8 ((W (128 + (Int.tmod x0 64))))).toNat : Int)))] _ rfl ⟨⟨g5, rfl⟩, ⟨trivial, rfl⟩, ⟨trivial, u8_wrap _⟩, g6, ⟨trivial, rfl⟩, ⟨trivial, u8_wrap _⟩, ⟨rfl, rfl, trivial⟩, rfl⟩ ?_
      refine JO.ofK rfl (JK.buildSlice ttOk rfl rfl rfl rfl rfl rfl rfl rfl rfl rfl rfl [] rfl .byte [(u8 ((W (192 + (W (Int.tdiv x0 64)))))), (u8 ((W (128 + (Int.tmod x0 64)))))] ⟨rfl, rfl⟩ rfl rfl fun a7 => JO.toK ?_)
      refine JO.reg ttOk 1 [] [] [(2, .v (.slice a7 ([(u8 ((W (192 + (W (Int.tdiv x0 64)))))), (u8 ((W (128 + (Int.tmod x0 64)))))] : List UInt8).length ([(u8 ((W (192 + (W (Int.tdiv x0 64)))))), (u8 ((W (128 + (Int.tmod x0 64)))))] : List UInt8).length))] _ rfl ⟨⟨rfl, trivial⟩, rfl⟩ (JO.done rfl ?_)
      cases h
      exact JS.ret ttOk (a7, ([(u8 ((W (192 + (W (Int.tdiv x0 64)))))), (u8 ((W (128 + (Int.tmod x0 64)))))] : List UInt8).length) trivial rfl rfl [0] rfl
    have h := condF h ht25
    refine JS.seq (JS.region (JO.reg ttOk 3 [] [] [(25, .v (.bool (decide (x0 < 65536))))] _ rfl ⟨⟨rfl, trivial⟩, rfl⟩ (JO.done rfl ?_)))
    refine JS.cond rfl (fun ht24 => ?_) (fun ht24 => ?_)
    · have h := condT h ht24
      refine JS.seq (JS.region ?_)
      have g8 : (4096 : Int) ≠ 0 := by decide
      have g9 : (64 : Int) ≠ 0 := by decide
      have g10 : (64 : Int) ≠ 0 := by decide
      have g11 : (64 : Int) ≠ 0 := by decide
      refine JO.reg ttOk 13 [(W (Int.tdiv x0 4096)), (W (224 + (W (Int.tdiv x0 4096)))), ((u8 ((W (224 + (W (Int.tdiv x0 4096)))))).toNat : Int), (W (Int.tdiv x0 64)), (W (128 + (Int.tmod (W (Int.tdiv x0 64)) 64))), ((u8 ((W (128 + (Int.tmod (W (Int.tdiv x0 64)) 64))))).toNat : Int), (W (128 + (Int.tmod x0 64))), ((u8 ((W (128 + (Int.tmod x0 64))))).toNat : Int)] [] [(31, .v (.int .u8 ((u8 ((W (224 + (W (Int.tdiv x0 4096)))))).toNat : Int))), (36, .v (.int .u8 ((u8 ((W (128 + (Int.tmod (W (Int.tdiv x0 64)) 64))))).toNat : Int))), (40, .v (.int .u8 ((u8 ((W (128 + (Int.tmod x0 64))))).toNat : Int)))] _ rfl ⟨⟨g8, rfl⟩, ⟨trivial, rfl⟩, ⟨trivial, u8_wrap _⟩, ⟨g9, rfl⟩, g10, ⟨trivial, rfl⟩, ⟨trivial, u8_wrap _⟩, g11, ⟨trivial, rfl⟩, ⟨trivial, u8_wrap _⟩, ⟨rfl, rfl, rfl, trivial⟩, rfl⟩ ?_
      refine JO.ofK rfl (JK.buildSlice ttOk rfl rfl rfl rfl rfl rfl rfl rfl rfl rfl rfl [] rfl .byte [(u8 ((W (224 + (W (Int.tdiv x0 4096)))))), (u8 ((W (128 + (Int.tmod (W (Int.tdiv x0 64)) 64))))), (u8 ((W (128 + (Int.tmod x0 64)))))] ⟨rfl, rfl⟩ rfl rfl fun a12 => JO.toK ?_)
      refine JO.reg ttOk 1 [] [] [(2, .v (.slice a12 ([(u8 ((W (224 + (W (Int.tdiv x0 4096)))))), (u8 ((W (128 + (Int.tmod (W (Int.tdiv x0 64)) 64))))), (u8 ((W (128 + (Int.tmod x0 64)))))] : List UInt8).length ([(u8 ((W (224 + (W (Int.tdiv x0 4096)))))), (u8 ((W (128 + (Int.tmod (W (Int.tdiv x0 64)) 64))))), (u8 ((W (128 + (Int.tmod x0 64)))))] : List UInt8).length))] _ rfl ⟨⟨rfl, trivial⟩, rfl⟩ (JO.done rfl ?_)
      cases h
      exact JS.ret ttOk (a12, ([(u8 ((W (224 + (W (Int.tdiv x0 4096)))))), (u8 ((W (128 + (Int.tmod (W (Int.tdiv x0 64)) 64))))), (u8 ((W (128 + (Int.tmod x0 64)))))] : List UInt8).length) trivial rfl rfl [0] rfl
    have h := condF h ht24
    refine JS.skip (JS.endB (JS.seq (JS.region ?_)))
    have g13 : (262144 : Int) ≠ 0 := by decide
    have g14 : (4096 : Int) ≠ 0 := by decide
    have g15 : (64 : Int) ≠ 0 := by decide
    have g16 : (64 : Int) ≠ 0 := by decide
    have g17 : (64 : Int) ≠ 0 := by decide
    have g18 : (64 : Int) ≠ 0 := by decide
    refine JO.reg ttOk 18 [(W (Int.tdiv x0 262144)), (W (240 + (W (Int.tdiv x0 262144)))), ((u8 ((W (240 + (W (Int.tdiv x0 262144)))))).toNat : Int), (W (Int.tdiv x0 4096)), (W (128 + (Int.tmod (W (Int.tdiv x0 4096)) 64))), ((u8 ((W (128 + (Int.tmod (W (Int.tdiv x0 4096)) 64))))).toNat : Int), (W (Int.tdiv x0 64)), (W (128 + (Int.tmod (W (Int.tdiv x0 64)) 64))), ((u8 ((W (128 + (Int.tmod (W (Int.tdiv x0 64)) 64))))).toNat : Int), (W (128 + (Int.tmod x0 64))), ((u8 ((W (128 + (Int.tmod x0 64))))).toNat : Int)] [] [(45, .v (.int .u8 ((u8 ((W (240 + (W (Int.tdiv x0 262144)))))).toNat : Int))), (50, .v (.int .u8 ((u8 ((W (128 + (Int.tmod (W (Int.tdiv x0 4096)) 64))))).toNat : Int))), (55, .v (.int .u8 ((u8 ((W (128 + (Int.tmod (W (Int.tdiv x0 64)) 64))))).toNat : Int))), (59, .v (.int .u8 ((u8 ((W (128 + (Int.tmod x0 64))))).toNat : Int)))] _ rfl ⟨⟨g13, rfl⟩, ⟨trivial, rfl⟩, ⟨trivial, u8_wrap _⟩, ⟨g14, rfl⟩, g15, ⟨trivial, rfl⟩, ⟨trivial, u8_wrap _⟩, ⟨g16, rfl⟩, g17, ⟨trivial, rfl⟩, ⟨trivial, u8_wrap _⟩, g18, ⟨trivial, rfl⟩, ⟨trivial, u8_wrap _⟩, ⟨rfl, rfl, rfl, rfl, trivial⟩, rfl⟩ ?_
    refine JO.ofK rfl (JK.buildSlice ttOk rfl rfl rfl rfl rfl rfl rfl rfl rfl rfl rfl [] rfl .byte [(u8 ((W (240 + (W (Int.tdiv x0 262144)))))), (u8 ((W (128 + (Int.tmod (W (Int.tdiv x0 4096)) 64))))), (u8 ((W (128 + (Int.tmod (W (Int.tdiv x0 64)) 64))))), (u8 ((W (128 + (Int.tmod x0 64)))))] ⟨rfl, rfl⟩ rfl rfl fun a19 => JO.toK ?_)
    refine JO.reg ttOk 1 [] [] [(2, .v (.slice a19 ([(u8 ((W (240 + (W (Int.tdiv x0 262144)))))), (u8 ((W (128 + (Int.tmod (W (Int.tdiv x0 4096)) 64))))), (u8 ((W (128 + (Int.tmod (W (Int.tdiv x0 64)) 64))))), (u8 ((W (128 + (Int.tmod x0 64)))))] : List UInt8).length ([(u8 ((W (240 + (W (Int.tdiv x0 262144)))))), (u8 ((W (128 + (Int.tmod (W (Int.tdiv x0 4096)) 64))))), (u8 ((W (128 + (Int.tmod (W (Int.tdiv x0 64)) 64))))), (u8 ((W (128 + (Int.tmod x0 64)))))] : List UInt8).length))] _ rfl ⟨⟨rfl, trivial⟩, rfl⟩ (JO.done rfl ?_)
    cases h
    exact JS.ret ttOk (a19, ([(u8 ((W (240 + (W (Int.tdiv x0 262144)))))), (u8 ((W (128 + (Int.tmod (W (Int.tdiv x0 4096)) 64))))), (u8 ((W (128 + (Int.tmod (W (Int.tdiv x0 64)) 64))))), (u8 ((W (128 + (Int.tmod x0 64)))))] : List UInt8).length) trivial rfl rfl [0] rfl

def M_i_TextOf_L1 (x0 : List Int) (j27 : (List UInt8) → Option (List UInt8)) (k20 : (List UInt8 × Int) → Option (List UInt8)) : (List UInt8 × Int) → Option (List UInt8) := fun (x6, x9) =>
  (bif (decide (x9 < (x0.length : Int))) then
  (guardO (0 ≤ x9 ∧ x9 < (x0.length : Int)) <|
  (bindO (M_i_RuneBytes (at' x0 x9)) fun (y12 : List UInt8) =>
  (guardO (x6.length + y12.length ≤ 536870912) <|
  k20 ((x6 ++ y12), (W (x9 + 1))))))
  else
  j27 x6)

def M_i_TextOf (x0 : List Int) : Option (List UInt8) :=
  (joinO (fun (x24 : List UInt8) =>
  some x24) fun j27 =>
  (fixF (M_i_TextOf_L1 x0 j27) FUEL (([] : List UInt8), 0)))

theorem ok_i_TextOf (x0 : List Int) (a2 : Option Addr) (c3 : Nat) (l4 : Nat) (hl5 : x0.length = l4) (r : List UInt8) (h : M_i_TextOf x0 = some r) :
    FC Try.prog 68 [.slice a2 l4 c3] [⟨(.int .i64), ⟨a2, l4, c3⟩, x0⟩] (fun _ : Unit => True) (fun _ => .string (bs r)) (fun _ => []) :=
  by
    subst hl5
    refine FC.of (T := TTx) Try.call68 Try.func68 rfl rfl fun w0 => ?_
    unfold M_i_TextOf at h
    refine JS.seq (JS.region (JO.reg ttOk 1 [] [] [] _ rfl ⟨trivial, rfl⟩ (JO.done rfl (JS.seq (JS.region (JO.reg ttOk 1 [] [] [(3, .v (.slice none 0 0))] _ rfl ⟨⟨rfl, trivial⟩, rfl⟩ (JO.done rfl (JS.seq (JS.seq (JS.region (JO.reg ttOk 3 [] [] [(6, .v (.slice a2 x0.length c3)), (7, .v (.int .i64 (x0.length : Int))), (8, .v (.int .i64 0))] _ rfl ⟨⟨rfl, rfl, rfl, trivial⟩, rfl⟩ (JO.done rfl ?_))))))))))))
    obtain ⟨j27, hj33, h⟩ := joinO_some h
    refine JS.blockJ (ι := List UInt8 × Option Addr × Nat) ⟨fun z => j27 z.1 = some r, fun z => [(3, .v (.slice z.2.1 z.1.length z.2.2))], fun z => .nil, fun z => [], fun z => [⟨.byte, ⟨z.2.1, z.1.length, z.2.2⟩, z.1⟩], fun z => 0⟩ ?_ ?_
    · refine JS.nilO .byte Sl.nil rfl rfl (JS.loop (ι := Nat × List UInt8 × Int × Option Addr × Nat) ⟨fun z => fixF (M_i_TextOf_L1 x0 j27) z.1 (z.2.1, z.2.2.1) = some r, fun z => [(3, .v (.slice z.2.2.2.1 z.2.1.length z.2.2.2.2)), (6, .v (.slice a2 x0.length c3)), (7, .v (.int .i64 (x0.length : Int))), (8, .v (.int .i64 z.2.2.1))], fun z => .nil, fun z => [⟨(.int .i64), ⟨a2, x0.length, c3⟩, x0⟩], fun z => [⟨.byte, ⟨z.2.2.2.1, z.2.1.length, z.2.2.2.2⟩, z.2.1⟩], fun z => z.1⟩ (FUEL, ([] : List UInt8), 0, none, 0) h ⟨rfl, rfl, rfl, rfl, trivial⟩ trivial [0] rfl [0] rfl ?_)
      rintro ⟨n21, x6, x9, a7, c8⟩ h
      obtain ⟨n21, rfl, h⟩ := fixF_some h
      rw [M_i_TextOf_L1] at h
      refine JS.seq (JS.region (JO.reg ttOk 1 [] [] [(9, .v (.bool (decide (x9 < (x0.length : Int)))))] _ rfl ⟨⟨rfl, trivial⟩, rfl⟩ (JO.done rfl (JS.seq ?_))))
      refine JS.cond rfl (fun ht32 => ?_) (fun ht32 => ?_)
      · have h := condT h ht32
        refine JS.skip (JS.seq (JS.block (JS.seq (JS.region (JO.know 0 rfl fun hs31 => ?_)))))
        obtain ⟨g11, h⟩ := guardO_some h
        refine JO.reg ttOk 1 [] [] [(10, .ep ⟨a2, x0.length, c3⟩ (Int.toNat x9 * 1))] _ rfl ⟨hs31.ix g11, ⟨rfl, trivial⟩, rfl⟩ (JO.load ttOk rfl rfl rfl rfl rfl rfl rfl 0 rfl rfl (Int.toNat x9) 0 (at' x0 x9) ⟨at_some g11, rfl⟩ rfl rfl (JO.reg ttOk 1 [] [] [(5, .v (.int .i64 (at' x0 x9)))] _ rfl ⟨⟨rfl, trivial⟩, rfl⟩ (JO.done rfl (JS.region (JO.reg ttOk 2 [] [] [(12, .v (.slice a7 x6.length c8)), (13, .v (.int .i64 (at' x0 x9)))] _ rfl ⟨⟨rfl, rfl, trivial⟩, rfl⟩ ?_)))))
        obtain ⟨y12, hy13, h⟩ := bindO_some h
        refine JO.call rfl rfl rfl rfl (ok_i_RuneBytes (at' x0 x9) _ hy13) rfl [] rfl rfl ?_
        rintro ⟨a14, c15⟩ -
        obtain ⟨g16, h⟩ := guardO_some h
        refine JO.appendR' ttOk rfl rfl rfl rfl ⟨rfl, rfl, rfl, rfl, trivial, rfl, rfl, rfl, rfl⟩ rfl rfl rfl [1] rfl 1 rfl g16 rfl fun a17 c18 => JO.reg ttOk 1 [] [] [(3, .v (.slice a17 (x6 ++ y12).length c18))] _ rfl ⟨⟨rfl, trivial⟩, rfl⟩ (JO.done rfl (JS.endB (JS.region (JO.reg ttOk 2 [(W (x9 + 1))] [] [(8, .v (.int .i64 (W (x9 + 1))))] _ rfl ⟨⟨trivial, rfl⟩, ⟨rfl, trivial⟩, rfl⟩ (JO.done rfl (JS.endL (n21, (x6 ++ y12), (W (x9 + 1)), a17, c18) h (Nat.lt_succ_self _) ⟨rfl, rfl, rfl, rfl, trivial⟩ trivial [0] rfl [0] rfl))))))
      have h := condF h ht32
      refine JS.exit rfl (JS.endJ (x6, a7, c8) h ⟨rfl, trivial⟩ trivial [] rfl [0] rfl)
    rintro ⟨x24, a25, c26⟩ h
    subst hj33
    refine JS.seq (JS.region (JO.reg ttOk 1 [] [] [(17, .v (.slice a25 x24.length c26))] _ rfl ⟨⟨rfl, trivial⟩, rfl⟩ (JO.strOf ttOk rfl rfl rfl rfl rfl rfl rfl rfl 0 rfl rfl (JO.reg ttOk 1 [] [] [(2, .v (.string (bs x24)))] _ rfl ⟨⟨rfl, trivial⟩, rfl⟩ (JO.done rfl ?_)))))
    cases h
    exact JS.ret ttOk () trivial rfl rfl [] rfl

def M_i_GridRow_L1 (x0 : Int × Int × List Int × Int × Int × Bool) (x1 : Int) (j31 : Int → Option (List UInt8)) (k23 : Int → Option (List UInt8)) : Int → Option (List UInt8) := fun x16 =>
  (guardO (((decide (0 < x16)) = true) → 0 ≤ (W (x16 - 1)) ∧ (W (x16 - 1)) < ((sub' x0.2.2.1 (W (x1 * x0.1)) (W ((W (x1 + 1)) * x0.1))).length : Int)) <|
  (bif (bif (decide (0 < x16)) then (decide ((at' (sub' x0.2.2.1 (W (x1 * x0.1)) (W ((W (x1 + 1)) * x0.1))) (W (x16 - 1))) = 32)) else false) then
  k23 (W (x16 - 1))
  else
  j31 x16))

def M_i_GridRow (x0 : Int × Int × List Int × Int × Int × Bool) (x1 : Int) : Option (List UInt8) :=
  (bindO (M_i_GridOk x0) fun (y7 : Bool) =>
  (callO ((!y7) = false) (M_i_in x1 0 (W (x0.2.1 - 1))) false fun (y10 : Bool) =>
  (bif (bif (!y7) then true else (!y10)) then
  some ([])
  else
  (guardO (0 ≤ (W (x1 * x0.1)) ∧ (W (x1 * x0.1)) ≤ (W ((W (x1 + 1)) * x0.1)) ∧ (W ((W (x1 + 1)) * x0.1)) ≤ (x0.2.2.1.length : Int)) <|
  (joinO (fun (x30 : Int) =>
  (guardO (0 ≤ (0 : Int) ∧ (0 : Int) ≤ x30 ∧ x30 ≤ ((sub' x0.2.2.1 (W (x1 * x0.1)) (W ((W (x1 + 1)) * x0.1))).length : Int)) <|
  (bindO (M_i_TextOf (sub' (sub' x0.2.2.1 (W (x1 * x0.1)) (W ((W (x1 + 1)) * x0.1))) 0 x30)) fun (y40 : List UInt8) =>
  some y40))) fun j31 =>
  (fixF (M_i_GridRow_L1 x0 x1 j31) FUEL ((sub' x0.2.2.1 (W (x1 * x0.1)) (W ((W (x1 + 1)) * x0.1))).length : Int)))))))

theorem ok_i_GridRow (x0 : Int × Int × List Int × Int × Int × Bool) (x1 : Int) (a3 : Option Addr) (c4 : Nat) (l5 : Nat) (hl6 : x0.2.2.1.length = l5) (r : List UInt8) (h : M_i_GridRow x0 x1 = some r) :
    FC Try.prog 24 [.agg #[.int .i64 x0.1, .int .i64 x0.2.1, .slice a3 l5 c4, .int .i64 x0.2.2.2.1, .int .i64 x0.2.2.2.2.1, .bool x0.2.2.2.2.2], .int .i64 x1] [⟨(.int .i64), ⟨a3, l5, c4⟩, x0.2.2.1⟩] (fun _ : Unit => True) (fun _ => .string (bs r)) (fun _ => []) :=
  by
    subst hl6
    refine FC.of (T := TTx) Try.call24 Try.func24 rfl rfl fun w0 => ?_
    unfold M_i_GridRow at h
    refine JS.seq (JS.region (JO.regB ttOk 2 [] [2] [(2, .bp 2 0)] (.new 2 26 (cl26 x0 a3 c4) .nil) rfl ⟨⟨rfl, trivial⟩, ⟨rfl, rfl, rfl, rfl, trivial⟩⟩ (JO.done rfl (JS.seq (JS.seq (JS.region (JO.reg ttOk 1 [] [] [(7, .v (.agg (cl26 x0 a3 c4).toArray))] _ rfl ⟨⟨rfl, trivial⟩, rfl⟩ ?_)))))))
    obtain ⟨y7, hy8, h⟩ := bindO_some h
    refine JO.call rfl rfl rfl rfl (ok_i_GridOk x0 a3 c4 x0.2.2.1.length rfl _ hy8) rfl [0] rfl rfl fun _ _ => JO.reg ttOk 6 [(W (x0.2.1 - 1))] [] [(10, .v (.bool (!y7))), (11, .cd [(10, false)] (.v (.int .i64 x1))), (14, .cd [(10, false)] (.v (.int .i64 (W (x0.2.1 - 1)))))] _ rfl ⟨(fun q44 => ⟨trivial, rfl⟩), ⟨rfl, rfl, rfl, trivial⟩, rfl⟩ ?_
    obtain ⟨y10, hy11, -, h⟩ := callO_some h
    refine JO.callg rfl rfl rfl rfl (fun q45 => ok_i_in x1 0 (W (x0.2.1 - 1)) _ (hy11 q45)) rfl [] rfl rfl (JO.reg ttOk 2 [] [] [(17, .v (.bool (bif (!y7) then true else (!y10))))] _ rfl ⟨⟨rfl, trivial⟩, rfl⟩ (JO.done rfl ?_))
    refine JS.cond rfl (fun ht52 => ?_) (fun ht52 => ?_)
    · have h := condT h ht52
      refine JS.seq (JS.region (JO.reg ttOk 1 [] [] [(4, .v (.string (bs [])))] _ rfl ⟨⟨rfl, trivial⟩, rfl⟩ (JO.done rfl ?_)))
      cases h
      exact JS.ret ttOk () trivial rfl rfl [] rfl
    have h := condF h ht52
    refine JS.skip (JS.seq (JS.region (JO.reg ttOk 11 [(W (x1 * x0.1)), (W (x1 + 1)), (W ((W (x1 + 1)) * x0.1))] [] [(19, .v (.slice a3 x0.2.2.1.length c4)), (23, .v (.int .i64 (W (x1 * x0.1)))), (28, .v (.int .i64 (W ((W (x1 + 1)) * x0.1))))] _ rfl ⟨⟨trivial, rfl⟩, ⟨trivial, rfl⟩, ⟨trivial, rfl⟩, ⟨rfl, rfl, rfl, trivial⟩, rfl⟩ ?_)))
    obtain ⟨g13, h⟩ := guardO_some h
    refine JO.sliceR' ttOk rfl rfl rfl rfl rfl rfl rfl rfl 0 rfl (W (x1 * x0.1)) (W ((W (x1 + 1)) * x0.1)) rfl rfl g13 rfl fun a14 c15 => JO.reg ttOk 1 [] [] [(5, .v (.slice a14 (sub' x0.2.2.1 (W (x1 * x0.1)) (W ((W (x1 + 1)) * x0.1))).length c15))] _ rfl ⟨⟨rfl, trivial⟩, rfl⟩ (JO.done rfl (JS.seq (JS.region (JO.reg ttOk 3 [] [] [(6, .v (.int .i64 ((sub' x0.2.2.1 (W (x1 * x0.1)) (W ((W (x1 + 1)) * x0.1))).length : Int)))] _ rfl ⟨⟨rfl, trivial⟩, rfl⟩ (JO.done rfl (JS.seq ?_))))))
    obtain ⟨j31, hj51, h⟩ := joinO_some h
    refine JS.blockJ (ι := Int) ⟨fun z => j31 z = some r, fun z => [(5, .v (.slice a14 (sub' x0.2.2.1 (W (x1 * x0.1)) (W ((W (x1 + 1)) * x0.1))).length c15)), (6, .v (.int .i64 z))], fun z => .nil, fun z => [⟨(.int .i64), ⟨a14, (sub' x0.2.2.1 (W (x1 * x0.1)) (W ((W (x1 + 1)) * x0.1))).length, c15⟩, (sub' x0.2.2.1 (W (x1 * x0.1)) (W ((W (x1 + 1)) * x0.1)))⟩], fun z => [], fun z => 0⟩ ?_ ?_
    · refine JS.loop (ι := Nat × Int) ⟨fun z => fixF (M_i_GridRow_L1 x0 x1 j31) z.1 z.2 = some r, fun z => [(5, .v (.slice a14 (sub' x0.2.2.1 (W (x1 * x0.1)) (W ((W (x1 + 1)) * x0.1))).length c15)), (6, .v (.int .i64 z.2))], fun z => .nil, fun z => [⟨(.int .i64), ⟨a14, (sub' x0.2.2.1 (W (x1 * x0.1)) (W ((W (x1 + 1)) * x0.1))).length, c15⟩, (sub' x0.2.2.1 (W (x1 * x0.1)) (W ((W (x1 + 1)) * x0.1)))⟩], fun z => [], fun z => z.1⟩ (FUEL, ((sub' x0.2.2.1 (W (x1 * x0.1)) (W ((W (x1 + 1)) * x0.1))).length : Int)) h ⟨rfl, rfl, trivial⟩ trivial [0] rfl [] rfl ?_
      rintro ⟨n24, x16⟩ h
      obtain ⟨n24, rfl, h⟩ := fixF_some h
      rw [M_i_GridRow_L1] at h
      refine JS.seq (JS.seq (JS.region (JO.know 0 rfl fun hs47 => ?_)))
      obtain ⟨g19, h⟩ := guardO_some h
      refine JO.reg ttOk 7 [(W (x16 - 1))] [] [(34, .v (.bool (decide (0 < x16)))), (38, .cd [(34, true)] (.ep ⟨a14, (sub' x0.2.2.1 (W (x1 * x0.1)) (W ((W (x1 + 1)) * x0.1))).length, c15⟩ (Int.toNat (W (x16 - 1)) * 1)))] _ rfl ⟨(fun q46 => ⟨trivial, rfl⟩), (fun q48 => hs47.ix (g19 q48)), ⟨rfl, rfl, trivial⟩, rfl⟩ (JO.load ttOk rfl rfl rfl rfl rfl rfl rfl 0 rfl rfl (Int.toNat (W (x16 - 1))) 0 (at' (sub' x0.2.2.1 (W (x1 * x0.1)) (W ((W (x1 + 1)) * x0.1))) (W (x16 - 1))) (fun q49 => ⟨at_some (g19 q49), rfl⟩) rfl rfl (JO.reg ttOk 2 [] [] [(41, .v (.bool (bif (decide (0 < x16)) then (decide ((at' (sub' x0.2.2.1 (W (x1 * x0.1)) (W ((W (x1 + 1)) * x0.1))) (W (x16 - 1))) = 32)) else false)))] _ rfl ⟨⟨rfl, trivial⟩, rfl⟩ (JO.done rfl ?_)))
      refine JS.cond rfl (fun ht50 => ?_) (fun ht50 => ?_)
      · have h := condT h ht50
        refine JS.skip (JS.block (JS.region (JO.reg ttOk 3 [(W (x16 - 1))] [] [(6, .v (.int .i64 (W (x16 - 1))))] _ rfl ⟨⟨trivial, rfl⟩, ⟨rfl, trivial⟩, rfl⟩ (JO.done rfl (JS.endB (JS.endL (n24, (W (x16 - 1))) h (Nat.lt_succ_self _) ⟨rfl, rfl, trivial⟩ trivial [0] rfl [] rfl))))))
      have h := condF h ht50
      refine JS.exit rfl (JS.endJ x16 h ⟨rfl, rfl, trivial⟩ trivial [0] rfl [] rfl)
    rintro x30 h
    subst hj51
    refine JS.seq (JS.region (JO.reg ttOk 2 [] [] [(44, .v (.slice a14 (sub' x0.2.2.1 (W (x1 * x0.1)) (W ((W (x1 + 1)) * x0.1))).length c15)), (45, .v (.int .i64 x30))] _ rfl ⟨⟨rfl, rfl, trivial⟩, rfl⟩ ?_))
    obtain ⟨g37, h⟩ := guardO_some h
    refine JO.sliceR' ttOk rfl rfl rfl rfl rfl rfl rfl rfl 0 rfl (0 : Int) x30 rfl rfl g37 rfl fun a38 c39 => ?_
    obtain ⟨y40, hy41, h⟩ := bindO_some h
    refine JO.call rfl rfl rfl rfl (ok_i_TextOf (sub' (sub' x0.2.2.1 (W (x1 * x0.1)) (W ((W (x1 + 1)) * x0.1))) 0 x30) a38 c39 ((sub' (sub' x0.2.2.1 (W (x1 * x0.1)) (W ((W (x1 + 1)) * x0.1))) 0 x30).length) rfl _ hy41) rfl [0] rfl rfl fun _ _ => JO.reg ttOk 1 [] [] [(4, .v (.string (bs y40)))] _ rfl ⟨⟨rfl, trivial⟩, rfl⟩ (JO.done rfl ?_)
    cases h
    exact JS.ret ttOk () trivial rfl rfl [] rfl

def M_l_FnGrid (x0 : List UInt8) : Option Bool :=
  (bif (decide (1048576 < (x0.length : Int))) then
  some true
  else
  (bindO (M_s_MakeGrids x0) fun (y6, y7) =>
  (bindO (M_s_MakeRune x0) fun (y13 : Int) =>
  (bindO (M_i_GridPut y7 y13) fun (y15 : Int × Int × List Int × Int × Int × Bool) =>
  (joinO (fun ((x24, x25) : Int × Int) =>
  (bindO (M_s_MakeNum x0 30) fun (y30 : Int) =>
  (bindO (M_i_GridOk y15) fun (y32 : Bool) =>
  (callO (y32 = true) (M_i_GridAt y15 x24 x25) (0 : Int) fun (y34 : Int) =>
  (callO ((bif y32 then (decide (y34 = y13)) else false) = true) (M_i_GridScroll y6) ((0 : Int), (0 : Int), [], (0 : Int), (0 : Int), false) fun (y37 : Int × Int × List Int × Int × Int × Bool) =>
  (callO ((bif y32 then (decide (y34 = y13)) else false) = true) (M_i_GridOk y37) false fun (y45 : Bool) =>
  (callO ((bif (bif y32 then (decide (y34 = y13)) else false) then y45 else false) = true) (M_i_GridClear y6 y30 (W (y30 + 3))) ((0 : Int), (0 : Int), [], (0 : Int), (0 : Int), false) fun (y49 : Int × Int × List Int × Int × Int × Bool) =>
  (callO ((bif (bif y32 then (decide (y34 = y13)) else false) then y45 else false) = true) (M_i_GridOk y49) false fun (y57 : Bool) =>
  (callO ((bif (bif (bif y32 then (decide (y34 = y13)) else false) then y45 else false) then y57 else false) = true) (M_i_GridScroll y6) ((0 : Int), (0 : Int), [], (0 : Int), (0 : Int), false) fun (y60 : Int × Int × List Int × Int × Int × Bool) =>
  (callO ((bif (bif (bif y32 then (decide (y34 = y13)) else false) then y45 else false) then y57 else false) = true) (M_i_GridRow y60 (W (y6.2.1 - 1))) [] fun (y69 : List UInt8) =>
  some (bif (bif (bif (bif y32 then (decide (y34 = y13)) else false) then y45 else false) then y57 else false) then (decide (y69 = [])) else false))))))))))) fun j26 =>
  (bindO (M_i_Width y13) fun (y19 : Int) =>
  (bif (bif (decide (y19 = 2)) then (decide (y7.2.2.2.1 = (W (y7.1 - 1)))) else false) then
  (bif (decide (y7.2.2.2.2.1 < (W (y7.2.1 - 1)))) then
  j26 (0, (W (y7.2.2.2.2.1 + 1)))
  else
  j26 (0, y7.2.2.2.2.1))
  else
  j26 (y7.2.2.2.1, y7.2.2.2.2.1))))))))

theorem ok_l_FnGrid (x0 : List UInt8) (a2 : Option Addr) (c3 : Nat) (l4 : Nat) (hl5 : x0.length = l4) (r : Bool) (h : M_l_FnGrid x0 = some r) :
    FC Try.prog 4 [.slice a2 l4 c3] [⟨.byte, ⟨a2, l4, c3⟩, x0⟩] (fun _ : Unit => True) (fun _ => .bool r) (fun _ => []) :=
  by
    subst hl5
    refine FC.of (T := TTx) Try.call4 Try.func4 rfl rfl fun w0 => ?_
    unfold M_l_FnGrid at h
    refine JS.seq (JS.region (JO.reg ttOk 1 [] [] [] _ rfl ⟨trivial, rfl⟩ (JO.done rfl (JS.seq (JS.seq (JS.region (JO.reg ttOk 3 [] [] [(12, .v (.bool (decide (1048576 < (x0.length : Int)))))] _ rfl ⟨⟨rfl, trivial⟩, rfl⟩ (JO.done rfl ?_))))))))
    refine JS.cond rfl (fun ht154 => ?_) (fun ht154 => ?_)
    · have h := condT h ht154
      refine JS.seq (JS.region (JO.reg ttOk 1 [] [] [(2, .v (.bool true))] _ rfl ⟨⟨rfl, trivial⟩, rfl⟩ (JO.done rfl ?_)))
      cases h
      exact JS.ret ttOk () trivial rfl rfl [] rfl
    have h := condF h ht154
    refine JS.skip (JS.seq (JS.region (JO.reg ttOk 1 [] [] [(14, .v (.slice a2 x0.length c3))] _ rfl ⟨⟨rfl, trivial⟩, rfl⟩ ?_)))
    obtain ⟨⟨y6, y7⟩, hy8, h⟩ := bindO_some h
    refine JO.call rfl rfl rfl rfl (ok_s_MakeGrids x0 a2 c3 x0.length rfl _ hy8) rfl [0] rfl rfl ?_
    rintro ⟨a9, c10, a11, c12⟩ -
    refine JO.regB ttOk 7 [] [11, 12] [(3, .bp 11 0), (4, .bp 12 0)] (.new 11 26 (cl26 y6 a9 c10) (.new 12 26 (cl26 y7 a11 c12) .nil)) rfl ⟨⟨rfl, rfl, trivial⟩, ⟨rfl, rfl, rfl, rfl, rfl, rfl, rfl, rfl, trivial⟩⟩ (JO.done rfl (JS.seq (JS.region (JO.reg ttOk 1 [] [] [(18, .v (.slice a2 x0.length c3))] _ rfl ⟨⟨rfl, trivial⟩, rfl⟩ ?_))))
    obtain ⟨y13, hy14, h⟩ := bindO_some h
    refine JO.call rfl rfl rfl rfl (ok_s_MakeRune x0 a2 c3 x0.length rfl _ hy14) rfl [0] rfl rfl fun _ _ => JO.reg ttOk 1 [] [] [(5, .v (.int .i64 y13))] _ rfl ⟨⟨rfl, trivial⟩, rfl⟩ (JO.done rfl (JS.seq (JS.region (JO.reg ttOk 2 [] [] [(20, .v (.agg (cl26 y7 a11 c12).toArray)), (21, .v (.int .i64 y13))] _ rfl ⟨⟨rfl, rfl, trivial⟩, rfl⟩ ?_))))
    obtain ⟨y15, hy16, h⟩ := bindO_some h
    refine JO.call rfl rfl rfl rfl (ok_i_GridPut y7 y13 a11 c12 y7.2.2.1.length rfl _ hy16) rfl [2] rfl rfl ?_
    rintro ⟨a17, c18⟩ -
    refine JO.regB ttOk 2 [] [20] [(6, .bp 20 0)] (.new 11 26 (cl26 y6 a9 c10) (.new 12 26 (cl26 y7 a11 c12) (.new 20 26 (cl26 y15 a17 c18) .nil))) rfl ⟨⟨rfl, trivial⟩, ⟨rfl, rfl, rfl, rfl, rfl, rfl, rfl, rfl, rfl, rfl, rfl, rfl, trivial⟩⟩ (JO.done rfl (JS.seq (JS.region (JO.reg ttOk 3 [] [] [(7, .v (.int .i64 y7.2.2.2.1))] _ rfl ⟨⟨rfl, trivial⟩, rfl⟩ (JO.done rfl (JS.seq (JS.region (JO.reg ttOk 3 [] [] [(8, .v (.int .i64 y7.2.2.2.2.1))] _ rfl ⟨⟨rfl, trivial⟩, rfl⟩ (JO.done rfl ?_)))))))))
    obtain ⟨j26, hj153, h⟩ := joinO_some h
    refine JS.seqJ (ι := Int × Int) ⟨fun z => j26 (z.1, z.2) = some r, fun z => [(0, .v (.slice a2 x0.length c3)), (3, .bp 11 0), (5, .v (.int .i64 y13)), (6, .bp 20 0), (7, .v (.int .i64 z.1)), (8, .v (.int .i64 z.2))], fun z => (.new 11 26 (cl26 y6 a9 c10) (.new 20 26 (cl26 y15 a17 c18) .nil)), fun z => [⟨.byte, ⟨a2, x0.length, c3⟩, x0⟩], fun z => [⟨(.int .i64), ⟨a9, y6.2.2.1.length, c10⟩, y6.2.2.1⟩, ⟨(.int .i64), ⟨a17, y15.2.2.1.length, c18⟩, y15.2.2.1⟩], fun z => 0⟩ ?_ ?_
    · refine JS.seq (JS.region (JO.reg ttOk 1 [] [] [(27, .v (.int .i64 y13))] _ rfl ⟨⟨rfl, trivial⟩, rfl⟩ ?_))
      obtain ⟨y19, hy20, h⟩ := bindO_some h
      refine JO.call rfl rfl rfl rfl (ok_i_Width y13 _ hy20) rfl [] rfl rfl fun _ _ => JO.reg ttOk 9 [(W (y7.1 - 1))] [] [(37, .v (.bool (bif (decide (y19 = 2)) then (decide (y7.2.2.2.1 = (W (y7.1 - 1)))) else false)))] _ rfl ⟨(fun q105 => ⟨trivial, rfl⟩), ⟨rfl, trivial⟩, rfl⟩ (JO.done rfl ?_)
      refine JS.cond rfl (fun ht107 => ?_) (fun ht107 => ?_)
      · have h := condT h ht107
        refine JS.seq (JS.region (JO.reg ttOk 1 [] [] [(7, .v (.int .i64 0))] _ rfl ⟨⟨rfl, trivial⟩, rfl⟩ (JO.done rfl (JS.seq (JS.region (JO.reg ttOk 5 [(W (y7.2.1 - 1))] [] [(42, .v (.bool (decide (y7.2.2.2.2.1 < (W (y7.2.1 - 1))))))] _ rfl ⟨⟨trivial, rfl⟩, ⟨rfl, trivial⟩, rfl⟩ (JO.done rfl ?_)))))))
        refine JS.cond rfl (fun ht106 => ?_) (fun ht106 => ?_)
        · have h := condT h ht106
          refine JS.region (JO.reg ttOk 3 [(W (y7.2.2.2.2.1 + 1))] [] [(8, .v (.int .i64 (W (y7.2.2.2.2.1 + 1))))] _ rfl ⟨⟨trivial, rfl⟩, ⟨rfl, trivial⟩, rfl⟩ (JO.done rfl (JS.endJ (0, (W (y7.2.2.2.2.1 + 1))) h ⟨rfl, rfl, rfl, rfl, rfl, rfl, trivial⟩ ⟨rfl, rfl, rfl, rfl, rfl, rfl, rfl, rfl, trivial⟩ [0] rfl [1, 0] rfl)))
        have h := condF h ht106
        refine JS.skip (JS.endJ (0, y7.2.2.2.2.1) h ⟨rfl, rfl, rfl, rfl, rfl, rfl, trivial⟩ ⟨rfl, rfl, rfl, rfl, rfl, rfl, rfl, rfl, trivial⟩ [0] rfl [1, 0] rfl)
      have h := condF h ht107
      refine JS.skip (JS.endJ (y7.2.2.2.1, y7.2.2.2.2.1) h ⟨rfl, rfl, rfl, rfl, rfl, rfl, trivial⟩ ⟨rfl, rfl, rfl, rfl, rfl, rfl, rfl, rfl, trivial⟩ [0] rfl [1, 0] rfl)
    rintro ⟨x24, x25⟩ h
    subst hj153
    refine JS.seq (JS.region (JO.reg ttOk 1 [] [] [(45, .v (.slice a2 x0.length c3))] _ rfl ⟨⟨rfl, trivial⟩, rfl⟩ ?_))
    obtain ⟨y30, hy31, h⟩ := bindO_some h
    refine JO.call rfl rfl rfl rfl (ok_s_MakeNum x0 30 a2 c3 x0.length rfl _ hy31) rfl [0] rfl rfl fun _ _ => JO.reg ttOk 1 [] [] [(9, .v (.int .i64 y30))] _ rfl ⟨⟨rfl, trivial⟩, rfl⟩ (JO.done rfl (JS.seq ?_))
    obtain ⟨y32, hy33, h⟩ := bindO_some h
    obtain ⟨y34, hy35, -, h⟩ := callO_some h
    obtain ⟨y37, hy38, hd41, h⟩ := callO_some h
    obtain ⟨y45, hy46, -, h⟩ := callO_some h
    obtain ⟨y49, hy50, hd53, h⟩ := callO_some h
    obtain ⟨y57, hy58, -, h⟩ := callO_some h
    obtain ⟨y60, hy61, hd64, h⟩ := callO_some h
    obtain ⟨y69, hy70, -, h⟩ := callO_some h
    refine JS.regionA rfl (.new 11 26 (cl26 y6 a9 c10) (.new 20 26 (cl26 y15 a17 c18) .nil)) [] [32] ⟨rfl, rfl, rfl, rfl, rfl, rfl, rfl, rfl, trivial⟩ rfl (fun be87 => ?_)
    refine JA.reg ttOk panic_cx true 32 [0] rfl (by kernel_rfl) [] [(47, .v (.agg (cl26 y15 a17 c18).toArray))] ⟨rfl, rfl, rfl, rfl, rfl, rfl, rfl, rfl, trivial⟩ [] rfl rfl ⟨rfl, trivial⟩ (JA.one 1 (by kernel_rfl) (JK.call rfl rfl rfl rfl (ok_i_GridOk y15 a17 c18 y15.2.2.1.length rfl _ hy33) rfl [2] rfl rfl fun _ _ => JA.next ⟨rfl, rfl, rfl, rfl, rfl, rfl, rfl, rfl, trivial⟩ [] rfl (JA.reg ttOk panic_cx true 26 [2, 3, 4, 5, 7] rfl (by kernel_rfl) [] [(49, .v (.bool y32)), (50, .cd [(49, true)] (.v (.agg (cl26 y15 a17 c18).toArray))), (51, .cd [(49, true)] (.v (.int .i64 x24))), (52, .cd [(49, true)] (.v (.int .i64 x25))), (54, .cd [(49, true)] (.v (.int .i64 y13)))] ⟨rfl, rfl, rfl, rfl, rfl, rfl, rfl, rfl, trivial⟩ [] rfl rfl ⟨rfl, rfl, rfl, rfl, rfl, trivial⟩ (JA.one 6 (by kernel_rfl) (JK.callg rfl rfl rfl rfl (fun q138 => ok_i_GridAt y15 x24 x25 a17 c18 y15.2.2.1.length rfl _ (hy35 q138)) rfl [2] rfl rfl (JA.next ⟨rfl, rfl, rfl, rfl, rfl, rfl, rfl, rfl, trivial⟩ [] rfl (JA.reg ttOk panic_cx true 21 [8, 9, 10, 11] rfl (by kernel_rfl) [] [(57, .v (.bool (bif y32 then (decide (y34 = y13)) else false))), (58, .cd [(57, true)] (.v (.agg (cl26 y6 a9 c10).toArray)))] ⟨rfl, rfl, rfl, rfl, rfl, rfl, rfl, rfl, trivial⟩ [] rfl rfl ⟨rfl, rfl, trivial⟩ (JA.one 12 (by kernel_rfl) (JK.callgF rfl rfl rfl rfl (fun q139 => ok_i_GridScroll y6 a9 c10 y6.2.2.1.length rfl _ (hy38 q139)) rfl [1] rfl rfl (none, 0) (fun q140 => by cases hd41 (fun q141 => q140 ⟨q141, trivial⟩); rfl) ?_)))))))))
    rintro ⟨a39, c40⟩ -
    refine JA.next ⟨rfl, rfl, rfl, rfl, rfl, rfl, rfl, rfl, trivial⟩ [] rfl (JA.one 13 (by kernel_rfl) (JK.callg rfl rfl rfl rfl (fun q142 => ok_i_GridOk y37 a39 c40 y37.2.2.1.length rfl _ (hy46 q142)) rfl [1] rfl rfl (JA.next ⟨rfl, rfl, rfl, rfl, rfl, rfl, rfl, rfl, trivial⟩ [] rfl (JA.reg ttOk panic_cx true 13 [14, 15, 16, 17, 18, 19] rfl (by kernel_rfl) [(W (y30 + 3))] [(62, .v (.bool (bif (bif y32 then (decide (y34 = y13)) else false) then y45 else false))), (63, .cd [(62, true)] (.v (.agg (cl26 y6 a9 c10).toArray))), (64, .cd [(62, true)] (.v (.int .i64 y30))), (66, .cd [(62, true)] (.v (.int .i64 (W (y30 + 3)))))] ⟨rfl, rfl, rfl, rfl, rfl, rfl, rfl, rfl, trivial⟩ [] rfl rfl ⟨(fun q143 => ⟨trivial, rfl⟩), ⟨rfl, rfl, rfl, rfl, trivial⟩⟩ (JA.one 20 (by kernel_rfl) (JK.callgF rfl rfl rfl rfl (fun q144 => ok_i_GridClear y6 y30 (W (y30 + 3)) a9 c10 y6.2.2.1.length rfl _ (hy50 q144)) rfl [2] rfl rfl (none, 0) (fun q145 => by cases hd53 (fun q146 => q145 ⟨q146, trivial⟩); rfl) ?_))))))
    rintro ⟨a51, c52⟩ -
    refine JA.next ⟨rfl, rfl, rfl, rfl, rfl, rfl, rfl, rfl, trivial⟩ [] rfl (JA.one 21 (by kernel_rfl) (JK.callg rfl rfl rfl rfl (fun q147 => ok_i_GridOk y49 a51 c52 y49.2.2.1.length rfl _ (hy58 q147)) rfl [1] rfl rfl (JA.next ⟨rfl, rfl, rfl, rfl, rfl, rfl, rfl, rfl, trivial⟩ [] rfl (JA.reg ttOk panic_cx true 5 [22, 23, 24, 26, 27, 28] rfl (by kernel_rfl) [(W (y6.2.1 - 1))] [(70, .v (.bool (bif (bif (bif y32 then (decide (y34 = y13)) else false) then y45 else false) then y57 else false))), (71, .cd [(70, true)] (.v (.agg (cl26 y6 a9 c10).toArray))), (75, .cd [(70, true)] (.v (.int .i64 (W (y6.2.1 - 1)))))] ⟨rfl, rfl, rfl, rfl, rfl, rfl, rfl, rfl, trivial⟩ [] rfl rfl ⟨(fun q148 => ⟨trivial, rfl⟩), ⟨rfl, rfl, rfl, trivial⟩⟩ (JA.one 25 (by kernel_rfl) (JK.callgF rfl rfl rfl rfl (fun q149 => ok_i_GridScroll y6 a9 c10 y6.2.2.1.length rfl _ (hy61 q149)) rfl [3] rfl rfl (none, 0) (fun q150 => by cases hd64 (fun q151 => q150 ⟨q151, trivial⟩); rfl) ?_))))))
    rintro ⟨a62, c63⟩ -
    refine JA.next ⟨rfl, rfl, rfl, rfl, rfl, rfl, rfl, rfl, trivial⟩ [] rfl (JA.one 29 (by kernel_rfl) (JK.callg rfl rfl rfl rfl (fun q152 => ok_i_GridRow y60 (W (y6.2.1 - 1)) a62 c63 y60.2.2.1.length rfl _ (hy70 q152)) rfl [1] rfl rfl (JA.next ⟨rfl, rfl, rfl, rfl, rfl, rfl, rfl, rfl, trivial⟩ [] rfl (JA.reg ttOk panic_cx true 1 [30, 31] rfl (by kernel_rfl) [] [(78, .v (.bool (bif (bif (bif (bif y32 then (decide (y34 = y13)) else false) then y45 else false) then y57 else false) then (decide (y69 = [])) else false)))] ⟨rfl, rfl, rfl, rfl, rfl, rfl, rfl, rfl, trivial⟩ [] rfl rfl ⟨rfl, trivial⟩ (JA.regL ttOk panic_cx 0 [32] rfl (by kernel_rfl) [] [(2, .v (.bool (bif (bif (bif (bif y32 then (decide (y34 = y13)) else false) then y45 else false) then y57 else false) then (decide (y69 = [])) else false)))] rfl ⟨rfl, trivial⟩ (JA.done (by kernel_rfl) (JS.boxes (B' := .nil) trivial ?_)))))))
    cases h
    exact JS.ret ttOk () trivial rfl rfl [] rfl

end
end Go.Eng
