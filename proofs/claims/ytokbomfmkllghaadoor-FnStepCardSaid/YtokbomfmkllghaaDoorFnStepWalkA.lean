/- The walks of the functions that FnStep reaches: what each computes, as a plain function (M_..), and that the model computes it (ok_..). Condition of each: that the plain function answers. -/
import Derived.Test.YtokbomfmkllghaaDoorEngB
import Derived.Test.YtokbomfmkllghaaDoorChecked
set_option linter.unusedVariables false
set_option linter.unusedSimpArgs false
namespace Go.Eng
open Go Go.Proofs
noncomputable section

@[reducible] def cl25 (x : Int × Int × List Int × Int × Int × Bool) (a1 : Option Addr) (c1 : Nat) : List Value := [.int .i64 x.1, .int .i64 x.2.1, .slice a1 x.2.2.1.length c1, .int .i64 x.2.2.2.1, .int .i64 x.2.2.2.2.1, .bool x.2.2.2.2.2]
@[reducible] def cl31 (x : (Int × Int × List Int × Int × Int × Bool) × Int × List Int × List UInt8 × Int) (a1 : Option Addr) (c1 : Nat) (a2 : Option Addr) (c2 : Nat) (a3 : Option Addr) (c3 : Nat) : List Value := [.int .i64 x.1.1, .int .i64 x.1.2.1, .slice a1 x.1.2.2.1.length c1, .int .i64 x.1.2.2.2.1, .int .i64 x.1.2.2.2.2.1, .bool x.1.2.2.2.2.2, .int .i64 x.2.1, .slice a2 x.2.2.1.length c2, .slice a3 x.2.2.2.1.length c3, .int .i64 x.2.2.2.2]
def TTx : TT := [
  (2, ⟨.int .i64, 1, 8, [.int .i64 0]⟩),
  (3, ⟨.int .i64, 1, 8, [.int .i64 0]⟩),
  (4, ⟨.bool, 1, 1, [.bool false]⟩),
  (5, ⟨.int .u8, 1, 1, [.int .u8 0]⟩),
  (6, ⟨.int .u8, 1, 1, [.int .u8 0]⟩),
  (7, ⟨.struct [(0, 2), (1, 3), (2, 4), (3, 6)], 4, 24, [.int .i64 0, .int .i64 0, .bool false, .int .u8 0]⟩),
  (8, ⟨.struct [(0, 2), (1, 3), (2, 4), (3, 6)], 4, 24, [.int .i64 0, .int .i64 0, .bool false, .int .u8 0]⟩),
  (9, ⟨.str, 1, 16, [.string ByteArray.empty]⟩),
  (10, ⟨.str, 1, 16, [.string ByteArray.empty]⟩),
  (11, ⟨.str, 1, 16, [.string ByteArray.empty]⟩),
  (12, ⟨.int .u64, 1, 8, [.int .u64 0]⟩),
  (13, ⟨.struct [(0, 9), (1, 12)], 2, 24, [.string ByteArray.empty, .int .u64 0]⟩),
  (14, ⟨.struct [(0, 9), (1, 12)], 2, 24, [.string ByteArray.empty, .int .u64 0]⟩),
  (21, ⟨.int .i32, 1, 4, [.int .i32 0]⟩),
  (22, ⟨.slice 5, 1, 24, [.slice none 0 0]⟩),
  (23, ⟨.slice 3, 1, 24, [.slice none 0 0]⟩),
  (24, ⟨.struct [(0, 3), (1, 3), (2, 23), (3, 3), (4, 3), (5, 4)], 6, 64, [.int .i64 0, .int .i64 0, .slice none 0 0, .int .i64 0, .int .i64 0, .bool false]⟩),
  (25, ⟨.struct [(0, 3), (1, 3), (2, 23), (3, 3), (4, 3), (5, 4)], 6, 64, [.int .i64 0, .int .i64 0, .slice none 0 0, .int .i64 0, .int .i64 0, .bool false]⟩),
  (30, ⟨.struct [(0, 25), (6, 3), (7, 23), (8, 22), (9, 3)], 10, 128, [.int .i64 0, .int .i64 0, .slice none 0 0, .int .i64 0, .int .i64 0, .bool false, .int .i64 0, .slice none 0 0, .slice none 0 0, .int .i64 0]⟩),
  (31, ⟨.struct [(0, 25), (6, 3), (7, 23), (8, 22), (9, 3)], 10, 128, [.int .i64 0, .int .i64 0, .slice none 0 0, .int .i64 0, .int .i64 0, .bool false, .int .i64 0, .slice none 0 0, .slice none 0 0, .int .i64 0]⟩),
  (55, ⟨.struct [(0, 22), (1, 3), (2, 3)], 3, 40, [.slice none 0 0, .int .i64 0, .int .i64 0]⟩),
  (56, ⟨.struct [(0, 22), (1, 3), (2, 3)], 3, 40, [.slice none 0 0, .int .i64 0, .int .i64 0]⟩),
  (66, ⟨.int .u64, 1, 8, [.int .u64 0]⟩),
  (72, ⟨.array 2 3, 2, 16, [.int .i64 0, .int .i64 0]⟩),
  (73, ⟨.slice 72, 1, 24, [.slice none 0 0]⟩),
  (77, ⟨.int .u64, 1, 8, [.int .u64 0]⟩),
  (84, ⟨.int .u32, 1, 4, [.int .u32 0]⟩),
  (97, ⟨.int .u8, 1, 1, [.int .u8 0]⟩),
  (98, ⟨.int .u8, 1, 1, [.int .u8 0]⟩),
  (101, ⟨.int .i32, 1, 4, [.int .i32 0]⟩),
  (102, ⟨.int .i32, 1, 4, [.int .i32 0]⟩)]

set_option maxRecDepth 100000 in
theorem ttOk : TTok Tryd.prog TTx := TTok.of (by
  simp only [TTx, List.forall_mem_cons]
  exact ⟨⟨⟨_, _, rfl, rfl, rfl, rfl, rfl⟩, rfl⟩, ⟨⟨_, _, rfl, rfl, rfl, rfl, rfl⟩, rfl⟩, ⟨⟨_, _, rfl, rfl, rfl, rfl, rfl⟩, rfl⟩, ⟨⟨_, _, rfl, rfl, rfl, rfl, rfl⟩, rfl⟩, ⟨⟨_, _, rfl, rfl, rfl, rfl, rfl⟩, rfl⟩, ⟨⟨_, _, rfl, rfl, rfl, rfl, rfl⟩, ⟨_, rfl, rfl⟩⟩, ⟨⟨_, _, rfl, rfl, rfl, rfl, rfl⟩, ⟨_, rfl, rfl⟩⟩, ⟨⟨_, _, rfl, rfl, rfl, rfl, rfl⟩, rfl⟩, ⟨⟨_, _, rfl, rfl, rfl, rfl, rfl⟩, rfl⟩, ⟨⟨_, _, rfl, rfl, rfl, rfl, rfl⟩, rfl⟩, ⟨⟨_, _, rfl, rfl, rfl, rfl, rfl⟩, rfl⟩, ⟨⟨_, _, rfl, rfl, rfl, rfl, rfl⟩, ⟨_, rfl, rfl⟩⟩, ⟨⟨_, _, rfl, rfl, rfl, rfl, rfl⟩, ⟨_, rfl, rfl⟩⟩, ⟨⟨_, _, rfl, rfl, rfl, rfl, rfl⟩, rfl⟩, ⟨⟨_, _, rfl, rfl, rfl, rfl, rfl⟩, rfl⟩, ⟨⟨_, _, rfl, rfl, rfl, rfl, rfl⟩, rfl⟩, ⟨⟨_, _, rfl, rfl, rfl, rfl, rfl⟩, ⟨_, rfl, rfl⟩⟩, ⟨⟨_, _, rfl, rfl, rfl, rfl, rfl⟩, ⟨_, rfl, rfl⟩⟩, ⟨⟨_, _, rfl, rfl, rfl, rfl, rfl⟩, ⟨_, rfl, rfl⟩⟩, ⟨⟨_, _, rfl, rfl, rfl, rfl, rfl⟩, ⟨_, rfl, rfl⟩⟩, ⟨⟨_, _, rfl, rfl, rfl, rfl, rfl⟩, ⟨_, rfl, rfl⟩⟩, ⟨⟨_, _, rfl, rfl, rfl, rfl, rfl⟩, ⟨_, rfl, rfl⟩⟩, ⟨⟨_, _, rfl, rfl, rfl, rfl, rfl⟩, rfl⟩, ⟨⟨_, _, rfl, rfl, rfl, rfl, rfl⟩, rfl⟩, ⟨⟨_, _, rfl, rfl, rfl, rfl, rfl⟩, rfl⟩, ⟨⟨_, _, rfl, rfl, rfl, rfl, rfl⟩, rfl⟩, ⟨⟨_, _, rfl, rfl, rfl, rfl, rfl⟩, rfl⟩, ⟨⟨_, _, rfl, rfl, rfl, rfl, rfl⟩, rfl⟩, ⟨⟨_, _, rfl, rfl, rfl, rfl, rfl⟩, rfl⟩, ⟨⟨_, _, rfl, rfl, rfl, rfl, rfl⟩, rfl⟩, ⟨⟨_, _, rfl, rfl, rfl, rfl, rfl⟩, rfl⟩, by simp⟩)

def M_s_l01New_L1 (x0 : List UInt8) (j16 : Int → Option (List UInt8 × Int × Int)) (k11 : (Int × Int) → Option (List UInt8 × Int × Int)) : (Int × Int) → Option (List UInt8 × Int × Int) := fun (x6, x7) =>
  (bif (bif (decide (x7 < (x0.length : Int))) then (decide (x7 < 4000)) else false) then
  (guardO (0 ≤ x7 ∧ x7 < (x0.length : Int)) <|
  k11 ((W (((BitVec.ofInt (IntKind.bits .i64) (W ((W ((W (x6 * 137)) + ((at' x0 x7).toNat : Int))) + 7)) &&& BitVec.ofInt (IntKind.bits .i64) 1073741823).toNat : Int))), (W (x7 + 1))))
  else
  j16 x6)

def M_s_l01New (x0 : List UInt8) : Option (List UInt8 × Int × Int) :=
  (joinO (fun (x15 : Int) =>
  some (x0, 0, x15)) fun j16 =>
  (fixF (M_s_l01New_L1 x0 j16) FUEL ((W (600128 + (x0.length : Int))), 0)))

theorem ok_s_l01New (x0 : List UInt8) (a2 : Option Addr) (c3 : Nat) (l4 : Nat) (hl5 : x0.length = l4) (r : List UInt8 × Int × Int) (h : M_s_l01New x0 = some r) :
    FC Tryd.prog 10 [.slice a2 l4 c3] [⟨.byte, ⟨a2, l4, c3⟩, x0⟩] (fun _ : Option Addr => True) (fun q => .pointer q) (fun q => [⟨(.pair .val (.pair (.int .i64) (.int .i64))), ⟨q, 1, 1⟩, [((Sl.v ⟨a2, l4, c3⟩), r.2.1, r.2.2)]⟩]) :=
  by
    subst hl5
    refine FC.of (T := TTx) Tryd.call10 Tryd.func10 rfl rfl fun w0 => ?_
    unfold M_s_l01New at h
    refine JS.rg0 ttOk 1 [] ⟨trivial, rfl⟩ rfl rfl (JS.rg ttOk 4 [(W (600128 + (x0.length : Int)))] [] [(3, .v (.int .i64 (W (600128 + (x0.length : Int)))))] _ ⟨⟨trivial, rfl⟩, ⟨rfl, trivial⟩, rfl⟩ rfl rfl (JS.seq (JS.rg0 ttOk 1 [(4, .v (.int .i64 0))] ⟨⟨rfl, trivial⟩, rfl⟩ rfl rfl ?_)))
    obtain ⟨j16, hj23, h⟩ := joinO_some h
    refine JS.blockJ (ι := Int) ⟨fun z => j16 z = some r, fun z => [(0, .v (.slice a2 x0.length c3)), (3, .v (.int .i64 z))], fun z => .nil, fun z => [⟨.byte, ⟨a2, x0.length, c3⟩, x0⟩], fun z => [], fun z => 0⟩ ?_ ?_
    · refine JS.loop (ι := Nat × Int × Int) ⟨fun z => fixF (M_s_l01New_L1 x0 j16) z.1 (z.2.1, z.2.2) = some r, fun z => [(0, .v (.slice a2 x0.length c3)), (3, .v (.int .i64 z.2.1)), (4, .v (.int .i64 z.2.2))], fun z => .nil, fun z => [⟨.byte, ⟨a2, x0.length, c3⟩, x0⟩], fun z => [], fun z => z.1⟩ (FUEL, (W (600128 + (x0.length : Int))), 0) h (Es rfl) trivial [0] rfl [] rfl ?_
      rintro ⟨n12, x6, x7⟩ h
      obtain ⟨n12, rfl, h⟩ := fixF_some h
      rw [M_s_l01New_L1] at h
      refine JS.seq (JS.rg0 ttOk 8 [(15, .v (.bool (bif (decide (x7 < (x0.length : Int))) then (decide (x7 < 4000)) else false)))] ⟨⟨rfl, trivial⟩, rfl⟩ rfl rfl ?_)
      refine JS.cond rfl (fun ht22 => ?_) (fun ht22 => ?_)
      · have h := condT h ht22
        refine JS.skip (JS.seq (JS.block (JS.region (JO.know 0 rfl fun hs21 => ?_))))
        obtain ⟨g9, h⟩ := guardO_some h
        refine JO.reg ttOk 5 [(W (x6 * 137))] [] [(19, .v (.int .i64 (W (x6 * 137)))), (22, .ep ⟨a2, x0.length, c3⟩ (Int.toNat x7 * 1))] _ rfl ⟨⟨trivial, rfl⟩, hs21.ix g9, (Es rfl), rfl⟩ (JO.load ttOk rfl rfl rfl rfl rfl rfl rfl 0 rfl rfl (Int.toNat x7) 0 (at' x0 x7) ⟨at_some g9, rfl⟩ rfl rfl (JO.reg ttOk 5 [((at' x0 x7).toNat : Int), (W ((W (x6 * 137)) + ((at' x0 x7).toNat : Int))), (W ((W ((W (x6 * 137)) + ((at' x0 x7).toNat : Int))) + 7)), (W (((BitVec.ofInt (IntKind.bits .i64) (W ((W ((W (x6 * 137)) + ((at' x0 x7).toNat : Int))) + 7)) &&& BitVec.ofInt (IntKind.bits .i64) 1073741823).toNat : Int)))] [] [(3, .v (.int .i64 (W (((BitVec.ofInt (IntKind.bits .i64) (W ((W ((W (x6 * 137)) + ((at' x0 x7).toNat : Int))) + 7)) &&& BitVec.ofInt (IntKind.bits .i64) 1073741823).toNat : Int)))))] _ rfl ⟨⟨trivial, W_byte _⟩, ⟨trivial, rfl⟩, ⟨trivial, rfl⟩, ⟨trivial, rfl⟩, ⟨rfl, trivial⟩, rfl⟩ (JO.done rfl (JS.endB (JS.re ttOk 3 [(W (x7 + 1))] [] [(4, .v (.int .i64 (W (x7 + 1))))] _ ⟨⟨trivial, rfl⟩, ⟨rfl, trivial⟩, rfl⟩ rfl rfl (JS.endL (n12, (W (((BitVec.ofInt (IntKind.bits .i64) (W ((W ((W (x6 * 137)) + ((at' x0 x7).toNat : Int))) + 7)) &&& BitVec.ofInt (IntKind.bits .i64) 1073741823).toNat : Int))), (W (x7 + 1))) h (Nat.lt_succ_self _) (Es rfl) trivial [0] rfl [] rfl))))))
      have h := condF h ht22
      refine JS.exit rfl (JS.endJ x6 h (Es rfl) trivial [0] rfl [] rfl)
    rintro x15 h
    subst hj23
    refine JS.rgB ttOk 5 [] [9] [(2, .bp 9 0), (31, .bp 9 0)] (.new 9 56 [.slice a2 x0.length c3, .int .i64 0, .int .i64 x15] .nil) ⟨(Es rfl), (Bs rfl rfl)⟩ rfl rfl (JS.unbox 9 rfl (B' := .nil) trivial rfl (.pair .val (.pair (.int .i64) (.int .i64))) ((Sl.v ⟨a2, x0.length, c3⟩), 0, x15) ⟨rfl, rfl, rfl⟩ (fun a19 => [(0, .v (.slice a2 x0.length c3)), (2, .ep ⟨a19, 1, 1⟩ 0), (3, .v (.int .i64 x15)), (31, .ep ⟨a19, 1, 1⟩ 0)]) (fun _ => (Es rfl)) fun a19 => ?_)
    cases h
    exact JS.ret ttOk a19 trivial rfl rfl [0] rfl

def M_s_l01Byte (x0 : List UInt8 × Int × Int) : Option (Int × List UInt8 × Int × Int) :=
  (joinO (fun ((x14, x15) : Int × Int) =>
  some (x14, (x0.1, x15, (W ((W (x0.2.2 * 6364136223846793005)) + 1442695040888963407))))) fun j16 =>
  (bif (decide (x0.2.1 < (x0.1.length : Int))) then
  (guardO (0 ≤ x0.2.1 ∧ x0.2.1 < (x0.1.length : Int)) <|
  j16 ((W (((BitVec.ofInt (IntKind.bits .i64) (W ((W (((BitVec.ofInt (IntKind.bits .i64) (W (((BitVec.ofInt (IntKind.bits .i64) (Int.fdiv (W ((W (x0.2.2 * 6364136223846793005)) + 1442695040888963407)) (2 ^ (min (Int.toNat 33) (IntKind.bits .i64)))) ^^^ BitVec.ofInt (IntKind.bits .i64) (Int.fdiv (W ((W (x0.2.2 * 6364136223846793005)) + 1442695040888963407)) (2 ^ (min (Int.toNat 45) (IntKind.bits .i64))))).toNat : Int))) &&& BitVec.ofInt (IntKind.bits .i64) 255).toNat : Int))) + ((at' x0.1 x0.2.1).toNat : Int))) &&& BitVec.ofInt (IntKind.bits .i64) 255).toNat : Int))), (W (x0.2.1 + 1))))
  else
  j16 ((W (((BitVec.ofInt (IntKind.bits .i64) (W (((BitVec.ofInt (IntKind.bits .i64) (Int.fdiv (W ((W (x0.2.2 * 6364136223846793005)) + 1442695040888963407)) (2 ^ (min (Int.toNat 33) (IntKind.bits .i64)))) ^^^ BitVec.ofInt (IntKind.bits .i64) (Int.fdiv (W ((W (x0.2.2 * 6364136223846793005)) + 1442695040888963407)) (2 ^ (min (Int.toNat 45) (IntKind.bits .i64))))).toNat : Int))) &&& BitVec.ofInt (IntKind.bits .i64) 255).toNat : Int))), x0.2.1)))

theorem ok_s_l01Byte (x0 : List UInt8 × Int × Int) (a2 : Option Addr) (a3 : Option Addr) (c4 : Nat) (l5 : Nat) (hl6 : x0.1.length = l5) (r : Int × List UInt8 × Int × Int) (h : M_s_l01Byte x0 = some r) :
    FX Tryd.prog 28 [.pointer a2] [⟨.byte, ⟨a3, l5, c4⟩, x0.1⟩] [⟨(.pair .val (.pair (.int .i64) (.int .i64))), ⟨a2, 1, 1⟩, [((Sl.v ⟨a3, l5, c4⟩), x0.2.1, x0.2.2)]⟩] (fun _ : Unit => True) (fun _ => .int .i64 r.1) (fun _ => [⟨(.pair .val (.pair (.int .i64) (.int .i64))), ⟨a2, 1, 1⟩, [((Sl.v ⟨a3, l5, c4⟩), r.2.2.1, r.2.2.2)]⟩]) :=
  by
    subst hl6
    refine FX.of (T := TTx) Tryd.call28 Tryd.func28 rfl rfl fun w0 L0 => ?_
    unfold M_s_l01Byte at h
    refine JS.ptr 0 a2 rfl ?_
    refine JS.rg0 ttOk 1 [] ⟨trivial, rfl⟩ rfl rfl (JS.seq (JS.region (JO.know 1 rfl fun hs21 => JO.reg ttOk 4 [] [] [(4, .ep ⟨a2, 1, 1⟩ 0), (7, .ep ⟨a2, 1, 1⟩ 2)] _ rfl ⟨(hs21.fa ptr0).1, hs21.fa ptr0, (Es rfl), rfl⟩ (JO.loadV ttOk rfl rfl rfl rfl rfl rfl 1 rfl rfl 0 2 ((Sl.v ⟨a3, x0.1.length, c4⟩), x0.2.1, x0.2.2) ⟨rfl, rfl⟩ rfl rfl rfl (JO.reg ttOk 4 [(W (x0.2.2 * 6364136223846793005)), (W ((W (x0.2.2 * 6364136223846793005)) + 1442695040888963407))] [] [(10, .v (.int .i64 (W ((W (x0.2.2 * 6364136223846793005)) + 1442695040888963407)))), (12, .ep ⟨a2, 1, 1⟩ 2)] _ rfl ⟨⟨trivial, rfl⟩, ⟨trivial, rfl⟩, (hs21.fa ptr0).1, hs21.fa ptr0, (Es rfl), rfl⟩ (JO.storeE ttOk rfl rfl rfl rfl rfl rfl rfl rfl rfl [0] (fs := []) rfl 0 2 ((Sl.v ⟨a3, x0.1.length, c4⟩), x0.2.1, x0.2.2) ((Sl.v ⟨a3, x0.1.length, c4⟩), x0.2.1, (W ((W (x0.2.2 * 6364136223846793005)) + 1442695040888963407))) ⟨rfl, rfl⟩ ⟨⟨⟨rfl, rfl, rfl⟩, rfl⟩, rfl⟩ (JO.done rfl (JS.seq ?_))))))))
    have g8 : (0 : Int) ≤ 33 := by decide
    have g9 : (0 : Int) ≤ 45 := by decide
    refine JS.regionQ rfl (by kernel_rfl) (JQ.reg ttOk 3 [] [(15, .ep ⟨a2, 1, 1⟩ 2)] rfl ⟨(hs21.fa ptr0).1, hs21.fa ptr0, ⟨rfl, trivial⟩⟩ (JQ.loadV ttOk rfl rfl rfl rfl rfl rfl 1 rfl rfl 0 2 ((Sl.v ⟨a3, x0.1.length, c4⟩), x0.2.1, (W ((W (x0.2.2 * 6364136223846793005)) + 1442695040888963407))) ⟨rfl, rfl⟩ rfl rfl rfl (JQ.reg ttOk 4 [] [(17, .v (.int .i64 (Int.fdiv (W ((W (x0.2.2 * 6364136223846793005)) + 1442695040888963407)) (2 ^ (min (Int.toNat 33) (IntKind.bits .i64)))))), (20, .ep ⟨a2, 1, 1⟩ 2)] rfl ⟨g8, (hs21.fa ptr0).1, hs21.fa ptr0, (Es rfl)⟩ (JQ.loadV ttOk rfl rfl rfl rfl rfl rfl 1 rfl rfl 0 2 ((Sl.v ⟨a3, x0.1.length, c4⟩), x0.2.1, (W ((W (x0.2.2 * 6364136223846793005)) + 1442695040888963407))) ⟨rfl, rfl⟩ rfl rfl rfl (JQ.reg ttOk 4 [(W (((BitVec.ofInt (IntKind.bits .i64) (Int.fdiv (W ((W (x0.2.2 * 6364136223846793005)) + 1442695040888963407)) (2 ^ (min (Int.toNat 33) (IntKind.bits .i64)))) ^^^ BitVec.ofInt (IntKind.bits .i64) (Int.fdiv (W ((W (x0.2.2 * 6364136223846793005)) + 1442695040888963407)) (2 ^ (min (Int.toNat 45) (IntKind.bits .i64))))).toNat : Int))), (W (((BitVec.ofInt (IntKind.bits .i64) (W (((BitVec.ofInt (IntKind.bits .i64) (Int.fdiv (W ((W (x0.2.2 * 6364136223846793005)) + 1442695040888963407)) (2 ^ (min (Int.toNat 33) (IntKind.bits .i64)))) ^^^ BitVec.ofInt (IntKind.bits .i64) (Int.fdiv (W ((W (x0.2.2 * 6364136223846793005)) + 1442695040888963407)) (2 ^ (min (Int.toNat 45) (IntKind.bits .i64))))).toNat : Int))) &&& BitVec.ofInt (IntKind.bits .i64) 255).toNat : Int)))] [(3, .v (.int .i64 (W (((BitVec.ofInt (IntKind.bits .i64) (W (((BitVec.ofInt (IntKind.bits .i64) (Int.fdiv (W ((W (x0.2.2 * 6364136223846793005)) + 1442695040888963407)) (2 ^ (min (Int.toNat 33) (IntKind.bits .i64)))) ^^^ BitVec.ofInt (IntKind.bits .i64) (Int.fdiv (W ((W (x0.2.2 * 6364136223846793005)) + 1442695040888963407)) (2 ^ (min (Int.toNat 45) (IntKind.bits .i64))))).toNat : Int))) &&& BitVec.ofInt (IntKind.bits .i64) 255).toNat : Int)))))] rfl ⟨g9, ⟨trivial, rfl⟩, ⟨trivial, rfl⟩, ⟨rfl, trivial⟩⟩ (JQ.done rfl ?_))))))
    obtain ⟨j16, hj25, h⟩ := joinO_some h
    refine JS.seqJ (ι := Int × Int) ⟨fun z => j16 (z.1, z.2) = some r, fun z => [(3, .v (.int .i64 z.1))], fun z => .nil, fun z => [⟨.byte, ⟨a3, x0.1.length, c4⟩, x0.1⟩], fun z => [⟨(.pair .val (.pair (.int .i64) (.int .i64))), ⟨a2, 1, 1⟩, [((Sl.v ⟨a3, x0.1.length, c4⟩), z.2, (W ((W (x0.2.2 * 6364136223846793005)) + 1442695040888963407)))]⟩], fun z => 0⟩ ?_ ?_
    · refine JS.seq (JS.regionQ rfl (by kernel_rfl) (JQ.reg ttOk 3 [] [(27, .ep ⟨a2, 1, 1⟩ 1)] rfl ⟨(hs21.fa ptr0).1, hs21.fa ptr0, ⟨rfl, trivial⟩⟩ (JQ.loadV ttOk rfl rfl rfl rfl rfl rfl 1 rfl rfl 0 1 ((Sl.v ⟨a3, x0.1.length, c4⟩), x0.2.1, (W ((W (x0.2.2 * 6364136223846793005)) + 1442695040888963407))) ⟨rfl, rfl⟩ rfl rfl rfl (JQ.reg ttOk 3 [] [(31, .ep ⟨a2, 1, 1⟩ 0)] rfl ⟨(hs21.fa ptr0).1, hs21.fa ptr0, ⟨rfl, trivial⟩⟩ (JQ.loadV ttOk rfl rfl rfl rfl rfl rfl 1 rfl rfl 0 0 ((Sl.v ⟨a3, x0.1.length, c4⟩), x0.2.1, (W ((W (x0.2.2 * 6364136223846793005)) + 1442695040888963407))) ⟨rfl, rfl⟩ rfl rfl rfl (JQ.reg ttOk 2 [] [(34, .v (.bool (decide (x0.2.1 < (x0.1.length : Int)))))] rfl ⟨rfl, trivial⟩ (JQ.done rfl ?_)))))))
      refine JS.cond rfl (fun ht24 => ?_) (fun ht24 => ?_)
      · have h := condT h ht24
        refine JS.seq ?_
        obtain ⟨g11, h⟩ := guardO_some h
        refine JS.know 0 rfl fun hs23 => JS.regionQ rfl (by kernel_rfl) (JQ.reg ttOk 4 [] [(35, .v (.int .i64 (W (((BitVec.ofInt (IntKind.bits .i64) (W (((BitVec.ofInt (IntKind.bits .i64) (Int.fdiv (W ((W (x0.2.2 * 6364136223846793005)) + 1442695040888963407)) (2 ^ (min (Int.toNat 33) (IntKind.bits .i64)))) ^^^ BitVec.ofInt (IntKind.bits .i64) (Int.fdiv (W ((W (x0.2.2 * 6364136223846793005)) + 1442695040888963407)) (2 ^ (min (Int.toNat 45) (IntKind.bits .i64))))).toNat : Int))) &&& BitVec.ofInt (IntKind.bits .i64) 255).toNat : Int))))), (38, .ep ⟨a2, 1, 1⟩ 0)] rfl ⟨(hs21.fa ptr0).1, hs21.fa ptr0, (Es rfl)⟩ (JQ.loadV ttOk rfl rfl rfl rfl rfl rfl 1 rfl rfl 0 0 ((Sl.v ⟨a3, x0.1.length, c4⟩), x0.2.1, (W ((W (x0.2.2 * 6364136223846793005)) + 1442695040888963407))) ⟨rfl, rfl⟩ rfl rfl rfl (JQ.reg ttOk 3 [] [(42, .ep ⟨a2, 1, 1⟩ 1)] rfl ⟨(hs21.fa ptr0).1, hs21.fa ptr0, ⟨rfl, trivial⟩⟩ (JQ.loadV ttOk rfl rfl rfl rfl rfl rfl 1 rfl rfl 0 1 ((Sl.v ⟨a3, x0.1.length, c4⟩), x0.2.1, (W ((W (x0.2.2 * 6364136223846793005)) + 1442695040888963407))) ⟨rfl, rfl⟩ rfl rfl rfl (JQ.reg ttOk 1 [] [(44, .ep ⟨a3, x0.1.length, c4⟩ (Int.toNat x0.2.1 * 1))] rfl ⟨hs23.ix g11, ⟨rfl, trivial⟩⟩ (JQ.load ttOk rfl rfl rfl rfl rfl rfl rfl 0 rfl rfl (Int.toNat x0.2.1) 0 (at' x0.1 x0.2.1) ⟨at_some g11, rfl⟩ rfl rfl (JQ.reg ttOk 4 [((at' x0.1 x0.2.1).toNat : Int), (W ((W (((BitVec.ofInt (IntKind.bits .i64) (W (((BitVec.ofInt (IntKind.bits .i64) (Int.fdiv (W ((W (x0.2.2 * 6364136223846793005)) + 1442695040888963407)) (2 ^ (min (Int.toNat 33) (IntKind.bits .i64)))) ^^^ BitVec.ofInt (IntKind.bits .i64) (Int.fdiv (W ((W (x0.2.2 * 6364136223846793005)) + 1442695040888963407)) (2 ^ (min (Int.toNat 45) (IntKind.bits .i64))))).toNat : Int))) &&& BitVec.ofInt (IntKind.bits .i64) 255).toNat : Int))) + ((at' x0.1 x0.2.1).toNat : Int))), (W (((BitVec.ofInt (IntKind.bits .i64) (W ((W (((BitVec.ofInt (IntKind.bits .i64) (W (((BitVec.ofInt (IntKind.bits .i64) (Int.fdiv (W ((W (x0.2.2 * 6364136223846793005)) + 1442695040888963407)) (2 ^ (min (Int.toNat 33) (IntKind.bits .i64)))) ^^^ BitVec.ofInt (IntKind.bits .i64) (Int.fdiv (W ((W (x0.2.2 * 6364136223846793005)) + 1442695040888963407)) (2 ^ (min (Int.toNat 45) (IntKind.bits .i64))))).toNat : Int))) &&& BitVec.ofInt (IntKind.bits .i64) 255).toNat : Int))) + ((at' x0.1 x0.2.1).toNat : Int))) &&& BitVec.ofInt (IntKind.bits .i64) 255).toNat : Int)))] [(3, .v (.int .i64 (W (((BitVec.ofInt (IntKind.bits .i64) (W ((W (((BitVec.ofInt (IntKind.bits .i64) (W (((BitVec.ofInt (IntKind.bits .i64) (Int.fdiv (W ((W (x0.2.2 * 6364136223846793005)) + 1442695040888963407)) (2 ^ (min (Int.toNat 33) (IntKind.bits .i64)))) ^^^ BitVec.ofInt (IntKind.bits .i64) (Int.fdiv (W ((W (x0.2.2 * 6364136223846793005)) + 1442695040888963407)) (2 ^ (min (Int.toNat 45) (IntKind.bits .i64))))).toNat : Int))) &&& BitVec.ofInt (IntKind.bits .i64) 255).toNat : Int))) + ((at' x0.1 x0.2.1).toNat : Int))) &&& BitVec.ofInt (IntKind.bits .i64) 255).toNat : Int)))))] rfl ⟨⟨trivial, W_byte _⟩, ⟨trivial, rfl⟩, ⟨trivial, rfl⟩, ⟨rfl, trivial⟩⟩ (JQ.done rfl (JS.region (JO.reg ttOk 4 [] [] [(49, .ep ⟨a2, 1, 1⟩ 0), (52, .ep ⟨a2, 1, 1⟩ 1)] _ rfl ⟨(hs21.fa ptr0).1, hs21.fa ptr0, (Es rfl), rfl⟩ (JO.loadV ttOk rfl rfl rfl rfl rfl rfl 1 rfl rfl 0 1 ((Sl.v ⟨a3, x0.1.length, c4⟩), x0.2.1, (W ((W (x0.2.2 * 6364136223846793005)) + 1442695040888963407))) ⟨rfl, rfl⟩ rfl rfl rfl (JO.reg ttOk 3 [(W (x0.2.1 + 1))] [] [(54, .v (.int .i64 (W (x0.2.1 + 1)))), (56, .ep ⟨a2, 1, 1⟩ 1)] _ rfl ⟨⟨trivial, rfl⟩, (hs21.fa ptr0).1, hs21.fa ptr0, (Es rfl), rfl⟩ (JO.storeE ttOk rfl rfl rfl rfl rfl rfl rfl rfl rfl [0] (fs := []) rfl 0 1 ((Sl.v ⟨a3, x0.1.length, c4⟩), x0.2.1, (W ((W (x0.2.2 * 6364136223846793005)) + 1442695040888963407))) ((Sl.v ⟨a3, x0.1.length, c4⟩), (W (x0.2.1 + 1)), (W ((W (x0.2.2 * 6364136223846793005)) + 1442695040888963407))) ⟨rfl, rfl⟩ ⟨⟨⟨rfl, rfl, rfl⟩, rfl⟩, rfl⟩ (JO.done rfl (JS.endJ ((W (((BitVec.ofInt (IntKind.bits .i64) (W ((W (((BitVec.ofInt (IntKind.bits .i64) (W (((BitVec.ofInt (IntKind.bits .i64) (Int.fdiv (W ((W (x0.2.2 * 6364136223846793005)) + 1442695040888963407)) (2 ^ (min (Int.toNat 33) (IntKind.bits .i64)))) ^^^ BitVec.ofInt (IntKind.bits .i64) (Int.fdiv (W ((W (x0.2.2 * 6364136223846793005)) + 1442695040888963407)) (2 ^ (min (Int.toNat 45) (IntKind.bits .i64))))).toNat : Int))) &&& BitVec.ofInt (IntKind.bits .i64) 255).toNat : Int))) + ((at' x0.1 x0.2.1).toNat : Int))) &&& BitVec.ofInt (IntKind.bits .i64) 255).toNat : Int))), (W (x0.2.1 + 1))) h ⟨rfl, trivial⟩ trivial [0] rfl [0] rfl)))))))))))))))
      have h := condF h ht24
      refine JS.skip (JS.endJ ((W (((BitVec.ofInt (IntKind.bits .i64) (W (((BitVec.ofInt (IntKind.bits .i64) (Int.fdiv (W ((W (x0.2.2 * 6364136223846793005)) + 1442695040888963407)) (2 ^ (min (Int.toNat 33) (IntKind.bits .i64)))) ^^^ BitVec.ofInt (IntKind.bits .i64) (Int.fdiv (W ((W (x0.2.2 * 6364136223846793005)) + 1442695040888963407)) (2 ^ (min (Int.toNat 45) (IntKind.bits .i64))))).toNat : Int))) &&& BitVec.ofInt (IntKind.bits .i64) 255).toNat : Int))), x0.2.1) h ⟨rfl, trivial⟩ trivial [0] rfl [0] rfl)
    rintro ⟨x14, x15⟩ h
    subst hj25
    refine JS.rg0 ttOk 2 [(2, .v (.int .i64 x14))] ⟨⟨rfl, trivial⟩, rfl⟩ rfl rfl ?_
    cases h
    exact JS.retX ttOk () trivial rfl rfl [0] rfl

def M_s_l01Below (x0 : List UInt8 × Int × Int) (x1 : Int) : Option (Int × List UInt8 × Int × Int) :=
  (bif (decide (x1 ≤ 0)) then
  some (0, x0)
  else
  (bif (decide (x1 ≤ 256)) then
  (bindO (M_s_l01Byte x0) fun (y8, y9) =>
  (guardO (x1 ≠ 0) <|
  some ((Int.tmod y8 x1), (x0.1, y9.2.1, y9.2.2))))
  else
  (bindO (M_s_l01Byte x0) fun (y12, y13) =>
  (bindO (M_s_l01Byte (x0.1, y13.2.1, y13.2.2)) fun (y15, y16) =>
  (bindO (M_s_l01Byte (x0.1, y16.2.1, y16.2.2)) fun (y18, y19) =>
  (bindO (M_s_l01Byte (x0.1, y19.2.1, y19.2.2)) fun (y21, y22) =>
  (guardO (x1 ≠ 0) <|
  some ((Int.tmod (W ((W ((W ((W (y12 * 16777216)) + (W (y15 * 65536)))) + (W (y18 * 256)))) + y21)) x1), (x0.1, y22.2.1, y22.2.2)))))))))

theorem ok_s_l01Below (x0 : List UInt8 × Int × Int) (x1 : Int) (a3 : Option Addr) (a4 : Option Addr) (c5 : Nat) (l6 : Nat) (hl7 : x0.1.length = l6) (r : Int × List UInt8 × Int × Int) (h : M_s_l01Below x0 x1 = some r) :
    FX Tryd.prog 13 [.pointer a3, .int .i64 x1] [⟨.byte, ⟨a4, l6, c5⟩, x0.1⟩] [⟨(.pair .val (.pair (.int .i64) (.int .i64))), ⟨a3, 1, 1⟩, [((Sl.v ⟨a4, l6, c5⟩), x0.2.1, x0.2.2)]⟩] (fun _ : Unit => True) (fun _ => .int .i64 r.1) (fun _ => [⟨(.pair .val (.pair (.int .i64) (.int .i64))), ⟨a3, 1, 1⟩, [((Sl.v ⟨a4, l6, c5⟩), r.2.2.1, r.2.2.2)]⟩]) :=
  by
    subst hl7
    refine FX.of (T := TTx) Tryd.call13 Tryd.func13 rfl rfl fun w0 L0 => ?_
    unfold M_s_l01Below at h
    refine JS.ptr 0 a3 rfl ?_
    refine JS.rg0 ttOk 1 [] ⟨trivial, rfl⟩ rfl rfl (JS.seq (JS.rg0 ttOk 2 [(10, .v (.bool (decide (x1 ≤ 0))))] ⟨⟨rfl, trivial⟩, rfl⟩ rfl rfl ?_))
    refine JS.cond rfl (fun ht28 => ?_) (fun ht28 => ?_)
    · have h := condT h ht28
      refine JS.rg0 ttOk 1 [(4, .v (.int .i64 0))] ⟨⟨rfl, trivial⟩, rfl⟩ rfl rfl ?_
      cases h
      exact JS.retX ttOk () trivial rfl rfl [0] rfl
    have h := condF h ht28
    refine JS.skip (JS.seq (JS.rg0 ttOk 2 [(12, .v (.bool (decide (x1 ≤ 256))))] ⟨⟨rfl, trivial⟩, rfl⟩ rfl rfl ?_))
    refine JS.cond rfl (fun ht27 => ?_) (fun ht27 => ?_)
    · have h := condT h ht27
      refine JS.seq (JS.region (JO.reg ttOk 1 [] [] [(13, .ep ⟨a3, 1, 1⟩ 0)] _ rfl ⟨⟨rfl, trivial⟩, rfl⟩ ?_))
      obtain ⟨⟨y8, y9⟩, hy10, h⟩ := bindO_some h
      refine JO.callX rfl rfl rfl rfl (ok_s_l01Byte x0 a3 a4 c5 x0.1.length rfl _ hy10) rfl [0] rfl [0] rfl rfl fun _ _ => ?_
      obtain ⟨g11, h⟩ := guardO_some h
      refine JO.reg ttOk 3 [] [] [(4, .v (.int .i64 (Int.tmod y8 x1)))] _ rfl ⟨g11, ⟨rfl, trivial⟩, rfl⟩ (JO.done rfl ?_)
      cases h
      exact JS.retX ttOk () trivial rfl rfl [0] rfl
    have h := condF h ht27
    refine JS.skip (JS.seq (JS.region (JO.reg ttOk 1 [] [] [(17, .ep ⟨a3, 1, 1⟩ 0)] _ rfl ⟨⟨rfl, trivial⟩, rfl⟩ ?_)))
    obtain ⟨⟨y12, y13⟩, hy14, h⟩ := bindO_some h
    refine JO.callX rfl rfl rfl rfl (ok_s_l01Byte x0 a3 a4 c5 x0.1.length rfl _ hy14) rfl [0] rfl [0] rfl rfl fun _ _ => JO.reg ttOk 1 [] [] [(5, .v (.int .i64 y12))] _ rfl ⟨⟨rfl, trivial⟩, rfl⟩ (JO.done rfl (JS.seq (JS.region (JO.reg ttOk 1 [] [] [(19, .ep ⟨a3, 1, 1⟩ 0)] _ rfl ⟨⟨rfl, trivial⟩, rfl⟩ ?_))))
    obtain ⟨⟨y15, y16⟩, hy17, h⟩ := bindO_some h
    refine JO.callX rfl rfl rfl rfl (ok_s_l01Byte (x0.1, y13.2.1, y13.2.2) a3 a4 c5 x0.1.length rfl _ hy17) rfl [0] rfl [0] rfl rfl fun _ _ => JO.reg ttOk 1 [] [] [(6, .v (.int .i64 y15))] _ rfl ⟨⟨rfl, trivial⟩, rfl⟩ (JO.done rfl (JS.seq (JS.region (JO.reg ttOk 1 [] [] [(21, .ep ⟨a3, 1, 1⟩ 0)] _ rfl ⟨⟨rfl, trivial⟩, rfl⟩ ?_))))
    obtain ⟨⟨y18, y19⟩, hy20, h⟩ := bindO_some h
    refine JO.callX rfl rfl rfl rfl (ok_s_l01Byte (x0.1, y16.2.1, y16.2.2) a3 a4 c5 x0.1.length rfl _ hy20) rfl [0] rfl [0] rfl rfl fun _ _ => JO.reg ttOk 1 [] [] [(7, .v (.int .i64 y18))] _ rfl ⟨⟨rfl, trivial⟩, rfl⟩ (JO.done rfl (JS.seq (JS.region (JO.reg ttOk 1 [] [] [(23, .ep ⟨a3, 1, 1⟩ 0)] _ rfl ⟨⟨rfl, trivial⟩, rfl⟩ ?_))))
    obtain ⟨⟨y21, y22⟩, hy23, h⟩ := bindO_some h
    refine JO.callX rfl rfl rfl rfl (ok_s_l01Byte (x0.1, y19.2.1, y19.2.2) a3 a4 c5 x0.1.length rfl _ hy23) rfl [0] rfl [0] rfl rfl fun _ _ => JO.reg ttOk 1 [] [] [(8, .v (.int .i64 y21))] _ rfl ⟨⟨rfl, trivial⟩, rfl⟩ (JO.done rfl (JS.seq (JS.region ?_)))
    obtain ⟨g24, h⟩ := guardO_some h
    refine JO.reg ttOk 13 [(W (y12 * 16777216)), (W (y15 * 65536)), (W ((W (y12 * 16777216)) + (W (y15 * 65536)))), (W (y18 * 256)), (W ((W ((W (y12 * 16777216)) + (W (y15 * 65536)))) + (W (y18 * 256)))), (W ((W ((W ((W (y12 * 16777216)) + (W (y15 * 65536)))) + (W (y18 * 256)))) + y21))] [] [(4, .v (.int .i64 (Int.tmod (W ((W ((W ((W (y12 * 16777216)) + (W (y15 * 65536)))) + (W (y18 * 256)))) + y21)) x1)))] _ rfl ⟨⟨trivial, rfl⟩, ⟨trivial, rfl⟩, ⟨trivial, rfl⟩, ⟨trivial, rfl⟩, ⟨trivial, rfl⟩, ⟨trivial, rfl⟩, g24, ⟨rfl, trivial⟩, rfl⟩ (JO.done rfl ?_)
    cases h
    exact JS.retX ttOk () trivial rfl rfl [0] rfl

def M_s_GridNew_L1 (x0 : Int) (x1 : Int) (j33 : (List Int) → Option ((Int × Int × List Int × Int × Int × Bool) × Bool)) (k27 : (Int × List Int) → Option ((Int × Int × List Int × Int × Int × Bool) × Bool)) : (Int × List Int) → Option ((Int × Int × List Int × Int × Int × Bool) × Bool) := fun (x4, x15) =>
  (bif (decide (x4 < (W (x0 * x1)))) then
  (guardO (x15.length + ([32] : List Int).length ≤ 536870912) <|
  k27 ((W (x4 + 1)), (x15 ++ ([32] : List Int))))
  else
  j33 x15)

def M_s_GridNew (x0 : Int) (x1 : Int) : Option ((Int × Int × List Int × Int × Int × Bool) × Bool) :=
  (bif (bif (bif (bif (bif (decide (x0 < 2)) then true else (decide (200 < x0))) then true else (decide (x1 < 1))) then true else (decide (200 < x1))) then true else (decide (8000 < (W (x0 * x1))))) then
  some ((0, 0, [], 0, 0, false), false)
  else
  (joinO (fun (x30 : List Int) =>
  some ((x0, x1, x30, 0, 0, false), true)) fun j33 =>
  (fixF (M_s_GridNew_L1 x0 x1 j33) FUEL (0, ([] : List Int)))))

theorem ok_s_GridNew (x0 : Int) (x1 : Int) (r : (Int × Int × List Int × Int × Int × Bool) × Bool) (h : M_s_GridNew x0 x1 = some r) :
    FC Tryd.prog 14 [.int .i64 x0, .int .i64 x1] [] (fun _ : Option Addr × Nat => True) (fun q => .tuple #[.agg (cl25 r.1 q.1 q.2).toArray, .bool r.2]) (fun q => [⟨(.int .i64), ⟨q.1, r.1.2.2.1.length, q.2⟩, r.1.2.2.1⟩]) :=
  by
    refine FC.of (T := TTx) Tryd.call14 Tryd.func14 rfl rfl fun w0 => ?_
    unfold M_s_GridNew at h
    refine JS.rgB ttOk 2 [] [1] [(4, .bp 1 0)] (.new 1 25 (cl25 (0, 0, [], 0, 0, false) none 0) .nil) ⟨⟨rfl, trivial⟩, (Bs rfl rfl)⟩ rfl rfl (JS.seq (JS.rg ttOk 20 [(W (x0 * x1))] [] [(27, .v (.bool (bif (bif (bif (bif (decide (x0 < 2)) then true else (decide (200 < x0))) then true else (decide (x1 < 1))) then true else (decide (200 < x1))) then true else (decide (8000 < (W (x0 * x1)))))))] _ ⟨(fun q37 => ⟨trivial, rfl⟩), ⟨rfl, trivial⟩, rfl⟩ rfl rfl ?_))
    refine JS.cond rfl (fun ht40 => ?_) (fun ht40 => ?_)
    · have h := condT h ht40
      refine JS.rgB ttOk 3 [] [] [(5, .v (.bool false))] (.new 1 25 (cl25 (0, 0, [], 0, 0, false) none 0) .nil) ⟨⟨rfl, trivial⟩, (Bs rfl rfl)⟩ rfl rfl ?_
      cases h
      refine JS.nilO (.int .i64) Sl.nil rfl rfl (JS.ret ttOk (none, 0) trivial rfl rfl [0] rfl)
    have h := condF h ht40
    refine JS.skip (JS.rgB ttOk 5 [] [2] [(6, .bp 2 0)] (.new 1 25 (cl25 (0, 0, [], 0, 0, false) none 0) (.new 2 25 (cl25 (x0, x1, [], 0, 0, false) none 0) .nil)) ⟨⟨rfl, trivial⟩, (Bs rfl rfl)⟩ rfl rfl (JS.seq (JS.rg0 ttOk 1 [(7, .v (.int .i64 0))] ⟨⟨rfl, trivial⟩, rfl⟩ rfl rfl ?_)))
    obtain ⟨j33, hj39, h⟩ := joinO_some h
    refine JS.blockJ (ι := List Int × Option Addr × Nat) ⟨fun z => j33 z.1 = some r, fun z => [(4, .bp 1 0), (6, .bp 2 0)], fun z => (.new 1 25 (cl25 (0, 0, [], 0, 0, false) none 0) (.new 2 25 (cl25 (x0, x1, z.1, 0, 0, false) z.2.1 z.2.2) .nil)), fun z => [], fun z => [⟨(.int .i64), ⟨z.2.1, z.1.length, z.2.2⟩, z.1⟩], fun z => 0⟩ ?_ ?_
    · refine JS.nilO (.int .i64) Sl.nil rfl rfl (JS.loop (ι := Nat × Int × List Int × Option Addr × Nat) ⟨fun z => fixF (M_s_GridNew_L1 x0 x1 j33) z.1 (z.2.1, z.2.2.1) = some r, fun z => [(0, .v (.int .i64 x0)), (1, .v (.int .i64 x1)), (4, .bp 1 0), (6, .bp 2 0), (7, .v (.int .i64 z.2.1))], fun z => (.new 1 25 (cl25 (0, 0, [], 0, 0, false) none 0) (.new 2 25 (cl25 (x0, x1, z.2.2.1, 0, 0, false) z.2.2.2.1 z.2.2.2.2) .nil)), fun z => [], fun z => [⟨(.int .i64), ⟨z.2.2.2.1, z.2.2.1.length, z.2.2.2.2⟩, z.2.2.1⟩], fun z => z.1⟩ (FUEL, 0, ([] : List Int), none, 0) h (Es rfl) (Bs rfl rfl) [] rfl [0] rfl ?_)
      rintro ⟨n28, x4, x15, a16, c17⟩ h
      obtain ⟨n28, rfl, h⟩ := fixF_some h
      rw [M_s_GridNew_L1] at h
      refine JS.seq (JS.rg ttOk 5 [(W (x0 * x1))] [] [(36, .v (.bool (decide (x4 < (W (x0 * x1))))))] _ ⟨⟨trivial, rfl⟩, ⟨rfl, trivial⟩, rfl⟩ rfl rfl ?_)
      refine JS.cond rfl (fun ht38 => ?_) (fun ht38 => ?_)
      · have h := condT h ht38
        refine JS.skip (JS.seq (JS.block (JS.region (JO.reg ttOk 2 [] [] [(40, .v (.slice a16 x15.length c17))] _ rfl ⟨⟨rfl, trivial⟩, rfl⟩ ?_))))
        refine JO.ofK rfl (JK.buildSlice ttOk rfl rfl rfl rfl rfl rfl rfl rfl rfl rfl rfl [] rfl (.int .i64) [32] ⟨rfl, rfl⟩ rfl rfl fun a21 => JO.toK ?_)
        obtain ⟨g22, h⟩ := guardO_some h
        refine JO.appendR' ttOk rfl rfl rfl rfl ⟨rfl, rfl, rfl, rfl, trivial, rfl, rfl, rfl, rfl⟩ rfl rfl rfl [1] rfl 0 rfl g22 rfl fun a23 c24 => JO.regB ttOk 2 [] [] [] (.new 1 25 (cl25 (0, 0, [], 0, 0, false) none 0) (.new 2 25 (cl25 (x0, x1, (x15 ++ ([32] : List Int)), 0, 0, false) a23 c24) .nil)) rfl ⟨trivial, (Bs rfl rfl)⟩ (JO.done rfl (JS.endB (JS.re ttOk 3 [(W (x4 + 1))] [] [(7, .v (.int .i64 (W (x4 + 1))))] _ ⟨⟨trivial, rfl⟩, ⟨rfl, trivial⟩, rfl⟩ rfl rfl (JS.endL (n28, (W (x4 + 1)), (x15 ++ ([32] : List Int)), a23, c24) h (Nat.lt_succ_self _) (Es rfl) (Bs rfl rfl) [] rfl [0] rfl))))
      have h := condF h ht38
      refine JS.exit rfl (JS.endJ (x15, a16, c17) h (Es rfl) (Bs rfl rfl) [] rfl [0] rfl)
    rintro ⟨x30, a31, c32⟩ h
    subst hj39
    refine JS.rgB ttOk 3 [] [] [(5, .v (.bool true))] (.new 1 25 (cl25 (x0, x1, x30, 0, 0, false) a31 c32) .nil) ⟨⟨rfl, trivial⟩, (Bs rfl rfl)⟩ rfl rfl ?_
    cases h
    exact JS.ret ttOk (a31, c32) trivial rfl rfl [0] rfl

def M_s_l08Sized (x0 : List UInt8 × Int × Int) : Option ((Int × Int × List Int × Int × Int × Bool) × List UInt8 × Int × Int) :=
  (bindO (M_s_l01Below x0 9) fun (y7, y8) =>
  (bindO (M_s_l01Below (x0.1, y8.2.1, y8.2.2) 4) fun (y10, y11) =>
  (bindO (M_s_GridNew (W (2 + y7)) (W (1 + y10))) fun (y13, y14) =>
  some (y13, (x0.1, y11.2.1, y11.2.2)))))

theorem ok_s_l08Sized (x0 : List UInt8 × Int × Int) (a2 : Option Addr) (a3 : Option Addr) (c4 : Nat) (l5 : Nat) (hl6 : x0.1.length = l5) (r : (Int × Int × List Int × Int × Int × Bool) × List UInt8 × Int × Int) (h : M_s_l08Sized x0 = some r) :
    FX Tryd.prog 27 [.pointer a2] [⟨.byte, ⟨a3, l5, c4⟩, x0.1⟩] [⟨(.pair .val (.pair (.int .i64) (.int .i64))), ⟨a2, 1, 1⟩, [((Sl.v ⟨a3, l5, c4⟩), x0.2.1, x0.2.2)]⟩] (fun _ : Option Addr × Nat => True) (fun q => .agg (cl25 r.1 q.1 q.2).toArray) (fun q => [⟨(.pair .val (.pair (.int .i64) (.int .i64))), ⟨a2, 1, 1⟩, [((Sl.v ⟨a3, l5, c4⟩), r.2.2.1, r.2.2.2)]⟩, ⟨(.int .i64), ⟨q.1, r.1.2.2.1.length, q.2⟩, r.1.2.2.1⟩]) :=
  by
    subst hl6
    refine FX.of (T := TTx) Tryd.call27 Tryd.func27 rfl rfl fun w0 L0 => ?_
    unfold M_s_l08Sized at h
    refine JS.ptr 0 a2 rfl ?_
    refine JS.rgB ttOk 1 [] [3] [(2, .bp 3 0)] (.new 3 25 (cl25 (0, 0, [], 0, 0, false) none 0) .nil) ⟨⟨rfl, trivial⟩, (Bs rfl rfl)⟩ rfl rfl (JS.seq (JS.region (JO.reg ttOk 1 [] [] [(6, .ep ⟨a2, 1, 1⟩ 0)] _ rfl ⟨⟨rfl, trivial⟩, rfl⟩ ?_)))
    obtain ⟨⟨y7, y8⟩, hy9, h⟩ := bindO_some h
    refine JO.callX rfl rfl rfl rfl (ok_s_l01Below x0 9 a2 a3 c4 x0.1.length rfl _ hy9) rfl [0] rfl [0] rfl rfl fun _ _ => JO.reg ttOk 2 [(W (2 + y7))] [] [(8, .v (.int .i64 (W (2 + y7)))), (9, .ep ⟨a2, 1, 1⟩ 0)] _ rfl ⟨⟨trivial, rfl⟩, (Es rfl), rfl⟩ ?_
    obtain ⟨⟨y10, y11⟩, hy12, h⟩ := bindO_some h
    refine JO.callX rfl rfl rfl rfl (ok_s_l01Below (x0.1, y8.2.1, y8.2.2) 4 a2 a3 c4 x0.1.length rfl _ hy12) rfl [0] rfl [0] rfl rfl fun _ _ => JO.reg ttOk 1 [(W (1 + y10))] [] [(11, .v (.int .i64 (W (1 + y10))))] _ rfl ⟨⟨trivial, rfl⟩, ⟨rfl, trivial⟩, rfl⟩ ?_
    obtain ⟨⟨y13, y14⟩, hy15, h⟩ := bindO_some h
    refine JO.call rfl rfl rfl rfl (ok_s_GridNew (W (2 + y7)) (W (1 + y10)) _ hy15) rfl [] rfl rfl ?_
    rintro ⟨a16, c17⟩ -
    refine JO.regB ttOk 6 [] [16] [(3, .bp 16 0)] (.new 3 25 (cl25 (0, 0, [], 0, 0, false) none 0) (.new 16 25 (cl25 y13 a16 c17) .nil)) rfl ⟨⟨rfl, trivial⟩, (Bs rfl rfl)⟩ (JO.done rfl (JS.rgB ttOk 2 [] [] [] (.new 3 25 (cl25 y13 a16 c17) .nil) ⟨trivial, (Bs rfl rfl)⟩ rfl rfl ?_))
    cases h
    exact JS.retX ttOk (a16, c17) trivial rfl rfl [1, 0] rfl

def M_s_l02Rune (x0 : List UInt8 × Int × Int) : Option (Int × List UInt8 × Int × Int) :=
  (bindO (M_s_l01Below x0 12) fun (y7, y8) =>
  (bif (decide (y7 < 9)) then
  (bindO (M_s_l01Below (x0.1, y8.2.1, y8.2.2) 16) fun (y11, y12) =>
  (guardO (0 ≤ y11 ∧ y11 < (([97, 98, 99, 120, 49, 50, 32, 32, 46, 45, 95, 233, 4352, 20013, 128512, 47] : List Int).length : Int)) <|
  some ((at' ([97, 98, 99, 120, 49, 50, 32, 32, 46, 45, 95, 233, 4352, 20013, 128512, 47] : List Int) y11), (x0.1, y12.2.1, y12.2.2))))
  else
  (bif (decide (y7 = 9)) then
  (bindO (M_s_l01Below (x0.1, y8.2.1, y8.2.2) 94) fun (y16, y17) =>
  some ((W (33 + y16)), (x0.1, y17.2.1, y17.2.2)))
  else
  (bif (decide (y7 = 10)) then
  (bindO (M_s_l01Below (x0.1, y8.2.1, y8.2.2) 300) fun (y19, y20) =>
  some ((W (160 + y19)), (x0.1, y20.2.1, y20.2.2)))
  else
  (bindO (M_s_l01Below (x0.1, y8.2.1, y8.2.2) 2000) fun (y22, y23) =>
  some ((W (19968 + y22)), (x0.1, y23.2.1, y23.2.2)))))))

theorem ok_s_l02Rune (x0 : List UInt8 × Int × Int) (a2 : Option Addr) (a3 : Option Addr) (c4 : Nat) (l5 : Nat) (hl6 : x0.1.length = l5) (r : Int × List UInt8 × Int × Int) (h : M_s_l02Rune x0 = some r) :
    FX Tryd.prog 30 [.pointer a2] [⟨.byte, ⟨a3, l5, c4⟩, x0.1⟩] [⟨(.pair .val (.pair (.int .i64) (.int .i64))), ⟨a2, 1, 1⟩, [((Sl.v ⟨a3, l5, c4⟩), x0.2.1, x0.2.2)]⟩] (fun _ : Unit => True) (fun _ => .int .i64 r.1) (fun _ => [⟨(.pair .val (.pair (.int .i64) (.int .i64))), ⟨a2, 1, 1⟩, [((Sl.v ⟨a3, l5, c4⟩), r.2.2.1, r.2.2.2)]⟩]) :=
  by
    subst hl6
    refine FX.of (T := TTx) Tryd.call30 Tryd.func30 rfl rfl fun w0 L0 => ?_
    unfold M_s_l02Rune at h
    refine JS.ptr 0 a2 rfl ?_
    refine JS.rg0 ttOk 1 [] ⟨trivial, rfl⟩ rfl rfl (JS.seq (JS.region (JO.reg ttOk 1 [] [] [(4, .ep ⟨a2, 1, 1⟩ 0)] _ rfl ⟨⟨rfl, trivial⟩, rfl⟩ ?_)))
    obtain ⟨⟨y7, y8⟩, hy9, h⟩ := bindO_some h
    refine JO.callX rfl rfl rfl rfl (ok_s_l01Below x0 12 a2 a3 c4 x0.1.length rfl _ hy9) rfl [0] rfl [0] rfl rfl fun _ _ => JO.reg ttOk 1 [] [] [(3, .v (.int .i64 y7))] _ rfl ⟨⟨rfl, trivial⟩, rfl⟩ (JO.done rfl (JS.seq (JS.rg0 ttOk 2 [(7, .v (.bool (decide (y7 < 9))))] ⟨⟨rfl, trivial⟩, rfl⟩ rfl rfl ?_)))
    refine JS.cond rfl (fun ht31 => ?_) (fun ht31 => ?_)
    · have h := condT h ht31
      refine JS.seq (JS.region ?_)
      refine JO.ofK rfl (JK.buildSlice ttOk rfl rfl rfl rfl rfl rfl rfl rfl rfl rfl rfl [] rfl (.int .i64) [97, 98, 99, 120, 49, 50, 32, 32, 46, 45, 95, 233, 4352, 20013, 128512, 47] ⟨rfl, rfl⟩ rfl rfl fun a10 => JO.toK ?_)
      refine JO.reg ttOk 1 [] [] [(9, .ep ⟨a2, 1, 1⟩ 0)] _ rfl ⟨⟨rfl, trivial⟩, rfl⟩ ?_
      obtain ⟨⟨y11, y12⟩, hy13, h⟩ := bindO_some h
      refine JO.callX rfl rfl rfl rfl (ok_s_l01Below (x0.1, y8.2.1, y8.2.2) 16 a2 a3 c4 x0.1.length rfl _ hy13) rfl [1] rfl [0] rfl rfl fun _ _ => JO.know 2 rfl fun hs28 => ?_
      obtain ⟨g15, h⟩ := guardO_some h
      refine JO.reg ttOk 1 [] [] [(11, .ep ⟨a10, ([97, 98, 99, 120, 49, 50, 32, 32, 46, 45, 95, 233, 4352, 20013, 128512, 47] : List Int).length, ([97, 98, 99, 120, 49, 50, 32, 32, 46, 45, 95, 233, 4352, 20013, 128512, 47] : List Int).length⟩ (Int.toNat y11 * 1))] _ rfl ⟨hs28.ix g15, ⟨rfl, trivial⟩, rfl⟩ (JO.load ttOk rfl rfl rfl rfl rfl rfl rfl 2 rfl rfl (Int.toNat y11) 0 (at' ([97, 98, 99, 120, 49, 50, 32, 32, 46, 45, 95, 233, 4352, 20013, 128512, 47] : List Int) y11) ⟨at_some g15, rfl⟩ rfl rfl (JO.reg ttOk 1 [] [] [(2, .v (.int .i64 (at' ([97, 98, 99, 120, 49, 50, 32, 32, 46, 45, 95, 233, 4352, 20013, 128512, 47] : List Int) y11)))] _ rfl ⟨⟨rfl, trivial⟩, rfl⟩ (JO.done rfl ?_)))
      cases h
      exact JS.retX ttOk () trivial rfl rfl [0] rfl
    have h := condF h ht31
    refine JS.skip (JS.seq (JS.rg0 ttOk 2 [(14, .v (.bool (decide (y7 = 9))))] ⟨⟨rfl, trivial⟩, rfl⟩ rfl rfl ?_))
    refine JS.cond rfl (fun ht30 => ?_) (fun ht30 => ?_)
    · have h := condT h ht30
      refine JS.seq (JS.region (JO.reg ttOk 1 [] [] [(15, .ep ⟨a2, 1, 1⟩ 0)] _ rfl ⟨⟨rfl, trivial⟩, rfl⟩ ?_))
      obtain ⟨⟨y16, y17⟩, hy18, h⟩ := bindO_some h
      refine JO.callX rfl rfl rfl rfl (ok_s_l01Below (x0.1, y8.2.1, y8.2.2) 94 a2 a3 c4 x0.1.length rfl _ hy18) rfl [0] rfl [0] rfl rfl fun _ _ => JO.reg ttOk 2 [(W (33 + y16))] [] [(2, .v (.int .i64 (W (33 + y16))))] _ rfl ⟨⟨trivial, rfl⟩, ⟨rfl, trivial⟩, rfl⟩ (JO.done rfl ?_)
      cases h
      exact JS.retX ttOk () trivial rfl rfl [0] rfl
    have h := condF h ht30
    refine JS.skip (JS.seq (JS.rg0 ttOk 2 [(19, .v (.bool (decide (y7 = 10))))] ⟨⟨rfl, trivial⟩, rfl⟩ rfl rfl ?_))
    refine JS.cond rfl (fun ht29 => ?_) (fun ht29 => ?_)
    · have h := condT h ht29
      refine JS.seq (JS.region (JO.reg ttOk 1 [] [] [(20, .ep ⟨a2, 1, 1⟩ 0)] _ rfl ⟨⟨rfl, trivial⟩, rfl⟩ ?_))
      obtain ⟨⟨y19, y20⟩, hy21, h⟩ := bindO_some h
      refine JO.callX rfl rfl rfl rfl (ok_s_l01Below (x0.1, y8.2.1, y8.2.2) 300 a2 a3 c4 x0.1.length rfl _ hy21) rfl [0] rfl [0] rfl rfl fun _ _ => JO.reg ttOk 2 [(W (160 + y19))] [] [(2, .v (.int .i64 (W (160 + y19))))] _ rfl ⟨⟨trivial, rfl⟩, ⟨rfl, trivial⟩, rfl⟩ (JO.done rfl ?_)
      cases h
      exact JS.retX ttOk () trivial rfl rfl [0] rfl
    have h := condF h ht29
    refine JS.skip (JS.seq (JS.region (JO.reg ttOk 1 [] [] [(23, .ep ⟨a2, 1, 1⟩ 0)] _ rfl ⟨⟨rfl, trivial⟩, rfl⟩ ?_)))
    obtain ⟨⟨y22, y23⟩, hy24, h⟩ := bindO_some h
    refine JO.callX rfl rfl rfl rfl (ok_s_l01Below (x0.1, y8.2.1, y8.2.2) 2000 a2 a3 c4 x0.1.length rfl _ hy24) rfl [0] rfl [0] rfl rfl fun _ _ => JO.reg ttOk 2 [(W (19968 + y22))] [] [(2, .v (.int .i64 (W (19968 + y22))))] _ rfl ⟨⟨trivial, rfl⟩, ⟨rfl, trivial⟩, rfl⟩ (JO.done rfl ?_)
    cases h
    exact JS.retX ttOk () trivial rfl rfl [0] rfl

def M_s_RuneOk (x0 : Int) : Option Bool :=
  some (bif (bif (decide (0 ≤ x0)) then (decide (x0 ≤ 1114111)) else false) then (bif (decide (x0 < 55296)) then true else (decide (57343 < x0))) else false)

theorem ok_s_RuneOk (x0 : Int) (r : Bool) (h : M_s_RuneOk x0 = some r) :
    FC Tryd.prog 60 [.int .i64 x0] [] (fun _ : Unit => True) (fun _ => .bool r) (fun _ => []) :=
  by
    refine FC.of (T := TTx) Tryd.call60 Tryd.func60 rfl rfl fun w0 => ?_
    unfold M_s_RuneOk at h
    refine JS.rg0 ttOk 1 [] ⟨trivial, rfl⟩ rfl rfl (JS.rg0 ttOk 15 [(2, .v (.bool (bif (bif (decide (0 ≤ x0)) then (decide (x0 ≤ 1114111)) else false) then (bif (decide (x0 < 55296)) then true else (decide (57343 < x0))) else false)))] ⟨⟨rfl, trivial⟩, rfl⟩ rfl rfl ?_)
    cases h
    exact JS.ret ttOk () trivial rfl rfl [] rfl

def M_s_Printable (x0 : Int) : Option Bool :=
  (bindO (M_s_RuneOk x0) fun (y2 : Bool) =>
  some (bif (bif y2 then (decide (32 ≤ x0)) else false) then (bif (decide (x0 < 127)) then true else (decide (159 < x0))) else false))

theorem ok_s_Printable (x0 : Int) (r : Bool) (h : M_s_Printable x0 = some r) :
    FC Tryd.prog 52 [.int .i64 x0] [] (fun _ : Unit => True) (fun _ => .bool r) (fun _ => []) :=
  by
    refine FC.of (T := TTx) Tryd.call52 Tryd.func52 rfl rfl fun w0 => ?_
    unfold M_s_Printable at h
    refine JS.rg0 ttOk 1 [] ⟨trivial, rfl⟩ rfl rfl (JS.seq (JS.region (JO.reg ttOk 1 [] [] [(3, .v (.int .i64 x0))] _ rfl ⟨⟨rfl, trivial⟩, rfl⟩ ?_)))
    obtain ⟨y2, hy3, h⟩ := bindO_some h
    refine JO.call rfl rfl rfl rfl (ok_s_RuneOk x0 _ hy3) rfl [] rfl rfl fun _ _ => JO.reg ttOk 13 [] [] [(2, .v (.bool (bif (bif y2 then (decide (32 ≤ x0)) else false) then (bif (decide (x0 < 127)) then true else (decide (159 < x0))) else false)))] _ rfl ⟨⟨rfl, trivial⟩, rfl⟩ (JO.done rfl ?_)
    cases h
    exact JS.ret ttOk () trivial rfl rfl [] rfl

def M_s_l02Wide : Option (List Int) :=
  some ([4352, 4447, 11904, 42191, 44032, 55203, 63744, 64255, 65280, 65376, 65504, 65510, 127744, 129791, 131072, 262141] : List Int)

theorem ok_s_l02Wide (r : List Int) (h : M_s_l02Wide = some r) :
    FC Tryd.prog 53 [] [] (fun _ : Option Addr × Nat => True) (fun q => .slice q.1 r.length q.2) (fun q => [⟨(.int .i64), ⟨q.1, r.length, q.2⟩, r⟩]) :=
  by
    refine FC.of (T := TTx) Tryd.call53 Tryd.func53 rfl rfl fun w0 => ?_
    unfold M_s_l02Wide at h
    refine JS.rg0 ttOk 1 [] ⟨trivial, rfl⟩ rfl rfl (JS.seq (JS.region ?_))
    refine JO.ofK rfl (JK.buildSlice ttOk rfl rfl rfl rfl rfl rfl rfl rfl rfl rfl rfl [] rfl (.int .i64) [4352, 4447, 11904, 42191, 44032, 55203, 63744, 64255, 65280, 65376, 65504, 65510, 127744, 129791, 131072, 262141] ⟨rfl, rfl⟩ rfl rfl fun a1 => JO.toK ?_)
    refine JO.reg ttOk 1 [] [] [(0, .v (.slice a1 ([4352, 4447, 11904, 42191, 44032, 55203, 63744, 64255, 65280, 65376, 65504, 65510, 127744, 129791, 131072, 262141] : List Int).length ([4352, 4447, 11904, 42191, 44032, 55203, 63744, 64255, 65280, 65376, 65504, 65510, 127744, 129791, 131072, 262141] : List Int).length))] _ rfl ⟨⟨rfl, trivial⟩, rfl⟩ (JO.done rfl ?_)
    cases h
    exact JS.ret ttOk (a1, ([4352, 4447, 11904, 42191, 44032, 55203, 63744, 64255, 65280, 65376, 65504, 65510, 127744, 129791, 131072, 262141] : List Int).length) trivial rfl rfl [0] rfl

def M_s_Width_L1 (x0 : Int) (y4 : List Int) (j34 : Unit → Option Int) (k26 : Int → Option Int) : Int → Option Int := fun x11 =>
  (bif (decide (x11 < (y4.length : Int))) then
  (guardO (0 ≤ x11 ∧ x11 < (y4.length : Int)) <|
  (guardO (((decide ((at' y4 x11) ≤ x0)) = true) → 0 ≤ (W (x11 + 1)) ∧ (W (x11 + 1)) < (y4.length : Int)) <|
  (bif (bif (decide ((at' y4 x11) ≤ x0)) then (decide (x0 ≤ (at' y4 (W (x11 + 1))))) else false) then
  some 2
  else
  k26 (W (x11 + 2)))))
  else
  j34 ())

def M_s_Width (x0 : Int) : Option Int :=
  (bindO (M_s_Printable x0) fun (y2 : Bool) =>
  (bif (!y2) then
  some 0
  else
  (bindO (M_s_l02Wide ) fun (y4 : List Int) =>
  (joinO (fun (_ : Unit) =>
  some 1) fun j34 =>
  (fixF (M_s_Width_L1 x0 y4 j34) FUEL 0)))))

theorem ok_s_Width (x0 : Int) (r : Int) (h : M_s_Width x0 = some r) :
    FC Tryd.prog 41 [.int .i64 x0] [] (fun _ : Unit => True) (fun _ => .int .i64 r) (fun _ => []) :=
  by
    refine FC.of (T := TTx) Tryd.call41 Tryd.func41 rfl rfl fun w0 => ?_
    unfold M_s_Width at h
    refine JS.rg0 ttOk 1 [] ⟨trivial, rfl⟩ rfl rfl (JS.seq (JS.seq (JS.region (JO.reg ttOk 1 [] [] [(5, .v (.int .i64 x0))] _ rfl ⟨⟨rfl, trivial⟩, rfl⟩ ?_))))
    obtain ⟨y2, hy3, h⟩ := bindO_some h
    refine JO.call rfl rfl rfl rfl (ok_s_Printable x0 _ hy3) rfl [] rfl rfl fun _ _ => JO.reg ttOk 1 [] [] [(7, .v (.bool (!y2)))] _ rfl ⟨⟨rfl, trivial⟩, rfl⟩ (JO.done rfl ?_)
    refine JS.cond rfl (fun ht50 => ?_) (fun ht50 => ?_)
    · have h := condT h ht50
      refine JS.rg0 ttOk 1 [(2, .v (.int .i64 0))] ⟨⟨rfl, trivial⟩, rfl⟩ rfl rfl ?_
      cases h
      exact JS.ret ttOk () trivial rfl rfl [] rfl
    have h := condF h ht50
    refine JS.skip (JS.seq (JS.region ?_))
    obtain ⟨y4, hy5, h⟩ := bindO_some h
    refine JO.call rfl rfl rfl rfl (ok_s_l02Wide  _ hy5) rfl [] rfl rfl ?_
    rintro ⟨a6, c7⟩ -
    refine JO.reg ttOk 1 [] [] [(3, .v (.slice a6 y4.length c7))] _ rfl ⟨⟨rfl, trivial⟩, rfl⟩ (JO.done rfl (JS.seq (JS.rg0 ttOk 1 [(4, .v (.int .i64 0))] ⟨⟨rfl, trivial⟩, rfl⟩ rfl rfl ?_)))
    obtain ⟨j34, hj49, h⟩ := joinO_some h
    refine JS.blockJ (ι := Unit) ⟨fun _ => j34 () = some r, fun _ => [], fun _ => .nil, fun _ => [], fun _ => [], fun _ => 0⟩ ?_ ?_
    · refine JS.loop (ι := Nat × Int) ⟨fun z => fixF (M_s_Width_L1 x0 y4 j34) z.1 z.2 = some r, fun z => [(0, .v (.int .i64 x0)), (3, .v (.slice a6 y4.length c7)), (4, .v (.int .i64 z.2))], fun z => .nil, fun z => [], fun z => [⟨(.int .i64), ⟨a6, y4.length, c7⟩, y4⟩], fun z => z.1⟩ (FUEL, 0) h (Es rfl) trivial [] rfl [0] rfl ?_
      rintro ⟨n27, x11⟩ h
      obtain ⟨n27, rfl, h⟩ := fixF_some h
      rw [M_s_Width_L1] at h
      refine JS.seq (JS.rg0 ttOk 4 [(12, .v (.bool (decide (x11 < (y4.length : Int)))))] ⟨⟨rfl, trivial⟩, rfl⟩ rfl rfl ?_)
      refine JS.cond rfl (fun ht48 => ?_) (fun ht48 => ?_)
      · have h := condT h ht48
        refine JS.skip (JS.seq (JS.block (JS.seq (JS.region (JO.know 0 rfl fun hs43 => ?_)))))
        obtain ⟨g13, h⟩ := guardO_some h
        refine JO.reg ttOk 4 [] [] [(15, .v (.int .i64 x0)), (18, .ep ⟨a6, y4.length, c7⟩ (Int.toNat x11 * 1))] _ rfl ⟨hs43.ix g13, (Es rfl), rfl⟩ (JO.load ttOk rfl rfl rfl rfl rfl rfl rfl 0 rfl rfl (Int.toNat x11) 0 (at' y4 x11) ⟨at_some g13, rfl⟩ rfl rfl ?_)
        obtain ⟨g15, h⟩ := guardO_some h
        refine JO.reg ttOk 7 [(W (x11 + 1))] [] [(21, .v (.bool (decide ((at' y4 x11) ≤ x0)))), (22, .cd [(21, true)] (.v (.int .i64 x0))), (26, .cd [(21, true)] (.ep ⟨a6, y4.length, c7⟩ (Int.toNat (W (x11 + 1)) * 1)))] _ rfl ⟨(fun q44 => ⟨trivial, rfl⟩), (fun q45 => hs43.ix (g15 q45)), (Es rfl), rfl⟩ (JO.load ttOk rfl rfl rfl rfl rfl rfl rfl 0 rfl rfl (Int.toNat (W (x11 + 1))) 0 (at' y4 (W (x11 + 1))) (fun q46 => ⟨at_some (g15 q46), rfl⟩) rfl rfl (JO.reg ttOk 2 [] [] [(29, .v (.bool (bif (decide ((at' y4 x11) ≤ x0)) then (decide (x0 ≤ (at' y4 (W (x11 + 1))))) else false)))] _ rfl ⟨⟨rfl, trivial⟩, rfl⟩ (JO.done rfl ?_)))
        refine JS.cond rfl (fun ht47 => ?_) (fun ht47 => ?_)
        · have h := condT h ht47
          refine JS.rg0 ttOk 1 [(2, .v (.int .i64 2))] ⟨⟨rfl, trivial⟩, rfl⟩ rfl rfl ?_
          cases h
          exact JS.ret ttOk () trivial rfl rfl [] rfl
        have h := condF h ht47
        refine JS.skip (JS.endB (JS.re ttOk 3 [(W (x11 + 2))] [] [(4, .v (.int .i64 (W (x11 + 2))))] _ ⟨⟨trivial, rfl⟩, ⟨rfl, trivial⟩, rfl⟩ rfl rfl (JS.endL (n27, (W (x11 + 2))) h (Nat.lt_succ_self _) (Es rfl) trivial [] rfl [0] rfl)))
      have h := condF h ht48
      refine JS.exit rfl (JS.endJ () h trivial trivial [] rfl [] rfl)
    rintro _ h
    subst hj49
    refine JS.rg0 ttOk 1 [(2, .v (.int .i64 1))] ⟨⟨rfl, trivial⟩, rfl⟩ rfl rfl ?_
    cases h
    exact JS.ret ttOk () trivial rfl rfl [] rfl

def M_s_GridOk_L1 (x0 : Int × Int × List Int × Int × Int × Bool) (j124 : Unit → Option Bool) (k103 : Int → Option Bool) : Int → Option Bool := fun x8 =>
  (bif (decide (x8 < (x0.2.2.1.length : Int))) then
  (joinO (fun (_ : Unit) =>
  k103 (W (x8 + 1))) fun j45 =>
  (guardO (0 ≤ x8 ∧ x8 < (x0.2.2.1.length : Int)) <|
  (guardO (x0.1 ≠ 0) <|
  (bif (decide ((at' x0.2.2.1 x8) = (-1))) then
  (guardO (x0.1 ≠ 0) <|
  (guardO (((decide ((Int.tmod x8 x0.1) = 0)) = false) → 0 ≤ (W (x8 - 1)) ∧ (W (x8 - 1)) < (x0.2.2.1.length : Int)) <|
  (callO ((decide ((Int.tmod x8 x0.1) = 0)) = false) (M_s_Width (at' x0.2.2.1 (W (x8 - 1)))) (0 : Int) fun (y26 : Int) =>
  (bif (bif (decide ((Int.tmod x8 x0.1) = 0)) then true else (!(decide (y26 = 2)))) then
  some false
  else
  j45 ()))))
  else
  (bindO (M_s_Width (at' x0.2.2.1 x8)) fun (y30 : Int) =>
  (guardO (((decide ((Int.tmod x8 x0.1) = (W (x0.1 - 1)))) = false) → ((decide (y30 = 2)) = true) → ((decide (y30 = 0)) = false) → 0 ≤ (W (x8 + 1)) ∧ (W (x8 + 1)) < (x0.2.2.1.length : Int)) <|
  (bif (bif (decide (y30 = 0)) then true else (bif (decide (y30 = 2)) then (bif (decide ((Int.tmod x8 x0.1) = (W (x0.1 - 1)))) then true else (!(decide ((at' x0.2.2.1 (W (x8 + 1))) = (-1))))) else false)) then
  some false
  else
  j45 ())))))))
  else
  j124 ())

def M_s_GridOk (x0 : Int × Int × List Int × Int × Int × Bool) : Option Bool :=
  (bif (bif (bif (bif (bif (bif (decide (x0.1 < 2)) then true else (decide (200 < x0.1))) then true else (decide (x0.2.1 < 1))) then true else (decide (200 < x0.2.1))) then true else (decide (8000 < (W (x0.1 * x0.2.1))))) then true else (!(decide ((x0.2.2.1.length : Int) = (W (x0.1 * x0.2.1)))))) then
  some false
  else
  (joinO (fun (_ : Unit) =>
  some (bif (bif (bif (bif (decide (0 ≤ x0.2.2.2.1)) then (decide (x0.2.2.2.1 < x0.1)) else false) then (decide (0 ≤ x0.2.2.2.2.1)) else false) then (decide (x0.2.2.2.2.1 < x0.2.1)) else false) then (bif (!x0.2.2.2.2.2) then true else (decide (x0.2.2.2.1 = (W (x0.1 - 1))))) else false)) fun j124 =>
  (fixF (M_s_GridOk_L1 x0 j124) FUEL 0)))

theorem ok_s_GridOk (x0 : Int × Int × List Int × Int × Int × Bool) (a2 : Option Addr) (c3 : Nat) (l4 : Nat) (hl5 : x0.2.2.1.length = l4) (r : Bool) (h : M_s_GridOk x0 = some r) :
    FC Tryd.prog 24 [.agg #[.int .i64 x0.1, .int .i64 x0.2.1, .slice a2 l4 c3, .int .i64 x0.2.2.2.1, .int .i64 x0.2.2.2.2.1, .bool x0.2.2.2.2.2]] [⟨(.int .i64), ⟨a2, l4, c3⟩, x0.2.2.1⟩] (fun _ : Unit => True) (fun _ => .bool r) (fun _ => []) :=
  by
    subst hl5
    refine FC.of (T := TTx) Tryd.call24 Tryd.func24 rfl rfl fun w0 => ?_
    unfold M_s_GridOk at h
    refine JS.rgB ttOk 2 [] [2] [(1, .bp 2 0)] (.new 2 25 (cl25 x0 a2 c3) .nil) ⟨⟨rfl, trivial⟩, (Bs rfl rfl)⟩ rfl rfl (JS.seq (JS.rg ttOk 37 [(W (x0.1 * x0.2.1)), (W (x0.1 * x0.2.1))] [] [(43, .v (.bool (bif (bif (bif (bif (bif (decide (x0.1 < 2)) then true else (decide (200 < x0.1))) then true else (decide (x0.2.1 < 1))) then true else (decide (200 < x0.2.1))) then true else (decide (8000 < (W (x0.1 * x0.2.1))))) then true else (!(decide ((x0.2.2.1.length : Int) = (W (x0.1 * x0.2.1))))))))] _ ⟨(fun q148 => ⟨trivial, rfl⟩), (fun q149 => ⟨trivial, rfl⟩), ⟨rfl, trivial⟩, rfl⟩ rfl rfl ?_))
    refine JS.cond rfl (fun ht172 => ?_) (fun ht172 => ?_)
    · have h := condT h ht172
      refine JS.rg0 ttOk 1 [(2, .v (.bool false))] ⟨⟨rfl, trivial⟩, rfl⟩ rfl rfl ?_
      cases h
      exact JS.ret ttOk () trivial rfl rfl [] rfl
    have h := condF h ht172
    refine JS.skip (JS.seq (JS.rg0 ttOk 4 [(45, .v (.slice a2 x0.2.2.1.length c3)), (46, .v (.int .i64 (x0.2.2.1.length : Int))), (47, .v (.int .i64 0))] ⟨(Es rfl), rfl⟩ rfl rfl ?_))
    obtain ⟨j124, hj171, h⟩ := joinO_some h
    refine JS.blockJ (ι := Unit) ⟨fun _ => j124 () = some r, fun _ => [(1, .bp 2 0)], fun _ => (.new 2 25 (cl25 x0 a2 c3) .nil), fun _ => [⟨(.int .i64), ⟨a2, x0.2.2.1.length, c3⟩, x0.2.2.1⟩], fun _ => [], fun _ => 0⟩ ?_ ?_
    · refine JS.loop (ι := Nat × Int) ⟨fun z => fixF (M_s_GridOk_L1 x0 j124) z.1 z.2 = some r, fun z => [(1, .bp 2 0), (45, .v (.slice a2 x0.2.2.1.length c3)), (46, .v (.int .i64 (x0.2.2.1.length : Int))), (47, .v (.int .i64 z.2))], fun z => (.new 2 25 (cl25 x0 a2 c3) .nil), fun z => [⟨(.int .i64), ⟨a2, x0.2.2.1.length, c3⟩, x0.2.2.1⟩], fun z => [], fun z => z.1⟩ (FUEL, 0) h (Es rfl) (Bs rfl rfl) [0] rfl [] rfl ?_
      rintro ⟨n104, x8⟩ h
      obtain ⟨n104, rfl, h⟩ := fixF_some h
      rw [M_s_GridOk_L1] at h
      refine JS.rg0 ttOk 1 [(48, .v (.bool (decide (x8 < (x0.2.2.1.length : Int)))))] ⟨⟨rfl, trivial⟩, rfl⟩ rfl rfl (JS.seq ?_)
      refine JS.cond rfl (fun ht168 => ?_) (fun ht168 => ?_)
      · have h := condT h ht168
        refine JS.skip (JS.seq ?_)
        obtain ⟨j45, hj167, h⟩ := joinO_some h
        refine JS.blockJ (ι := Unit) ⟨fun _ => j45 () = some r, fun _ => [(1, .bp 2 0), (45, .v (.slice a2 x0.2.2.1.length c3)), (46, .v (.int .i64 (x0.2.2.1.length : Int))), (47, .v (.int .i64 x8))], fun _ => (.new 2 25 (cl25 x0 a2 c3) .nil), fun _ => [⟨(.int .i64), ⟨a2, x0.2.2.1.length, c3⟩, x0.2.2.1⟩], fun _ => [], fun _ => 0⟩ ?_ ?_
        · refine JS.seq (JS.region (JO.know 0 rfl fun hs150 => ?_))
          obtain ⟨g18, h⟩ := guardO_some h
          refine JO.reg ttOk 2 [] [] [(49, .v (.int .i64 x8)), (50, .ep ⟨a2, x0.2.2.1.length, c3⟩ (Int.toNat x8 * 1))] _ rfl ⟨hs150.ix g18, (Es rfl), rfl⟩ (JO.load ttOk rfl rfl rfl rfl rfl rfl rfl 0 rfl rfl (Int.toNat x8) 0 (at' x0.2.2.1 x8) ⟨at_some g18, rfl⟩ rfl rfl (JO.reg ttOk 2 [] [] [(3, .v (.int .i64 x8)), (4, .v (.int .i64 (at' x0.2.2.1 x8)))] _ rfl ⟨(Es rfl), rfl⟩ (JO.done rfl (JS.seq ?_))))
          obtain ⟨g19, h⟩ := guardO_some h
          refine JS.regionQ rfl (by kernel_rfl) (JQ.reg ttOk 9 [(W (x0.1 - 1))] [(5, .v (.bool (decide ((Int.tmod x8 x0.1) = (W (x0.1 - 1))))))] rfl ⟨g19, ⟨trivial, rfl⟩, ⟨rfl, trivial⟩⟩ (JQ.done rfl (JS.seq (JS.rg0 ttOk 2 [(61, .v (.bool (decide ((at' x0.2.2.1 x8) = (-1)))))] ⟨⟨rfl, trivial⟩, rfl⟩ rfl rfl ?_))))
          refine JS.cond rfl (fun ht166 => ?_) (fun ht166 => ?_)
          · have h := condT h ht166
            refine JS.seq (JS.seq (JS.region ?_))
            obtain ⟨g20, h⟩ := guardO_some h
            obtain ⟨g23, h⟩ := guardO_some h
            refine JO.reg ttOk 11 [(W (x8 - 1))] [] [(67, .v (.bool (decide ((Int.tmod x8 x0.1) = 0)))), (72, .cd [(67, false)] (.ep ⟨a2, x0.2.2.1.length, c3⟩ (Int.toNat (W (x8 - 1)) * 1)))] _ rfl ⟨g20, (fun q151 => ⟨trivial, rfl⟩), (fun q152 => hs150.ix (g23 q152)), (Es rfl), rfl⟩ (JO.load ttOk rfl rfl rfl rfl rfl rfl rfl 0 rfl rfl (Int.toNat (W (x8 - 1))) 0 (at' x0.2.2.1 (W (x8 - 1))) (fun q153 => ⟨at_some (g23 q153), rfl⟩) rfl rfl ?_)
            obtain ⟨y26, hy27, -, h⟩ := callO_some h
            refine JO.callg rfl rfl rfl rfl (fun q154 => ok_s_Width (at' x0.2.2.1 (W (x8 - 1))) _ (hy27 q154)) rfl [] rfl rfl (JO.reg ttOk 2 [] [] [(76, .v (.bool (bif (decide ((Int.tmod x8 x0.1) = 0)) then true else (!(decide (y26 = 2))))))] _ rfl ⟨⟨rfl, trivial⟩, rfl⟩ (JO.done rfl ?_))
            refine JS.cond rfl (fun ht155 => ?_) (fun ht155 => ?_)
            · have h := condT h ht155
              refine JS.rg0 ttOk 1 [(2, .v (.bool false))] ⟨⟨rfl, trivial⟩, rfl⟩ rfl rfl ?_
              cases h
              exact JS.ret ttOk () trivial rfl rfl [] rfl
            have h := condF h ht155
            refine JS.skip (JS.exit rfl (JS.endJ () h (Es rfl) (Bs rfl rfl) [0] rfl [] rfl))
          have h := condF h ht166
          refine JS.skip (JS.seq (JS.region (JO.reg ttOk 1 [] [] [(77, .v (.int .i64 (at' x0.2.2.1 x8)))] _ rfl ⟨⟨rfl, trivial⟩, rfl⟩ ?_)))
          obtain ⟨y30, hy31, h⟩ := bindO_some h
          refine JO.call rfl rfl rfl rfl (ok_s_Width (at' x0.2.2.1 x8) _ hy31) rfl [] rfl rfl fun _ _ => JO.reg ttOk 1 [] [] [(6, .v (.int .i64 y30))] _ rfl ⟨⟨rfl, trivial⟩, rfl⟩ (JO.done rfl (JS.seq (JS.region ?_)))
          obtain ⟨g36, h⟩ := guardO_some h
          refine JO.reg ttOk 13 [(W (x8 + 1))] [] [(81, .v (.bool (decide (y30 = 0)))), (84, .cd [(81, false)] (.v (.bool (decide (y30 = 2))))), (86, .cd [(84, true), (81, false)] (.v (.bool (decide ((Int.tmod x8 x0.1) = (W (x0.1 - 1))))))), (91, .cd [(86, false), (84, true), (81, false)] (.ep ⟨a2, x0.2.2.1.length, c3⟩ (Int.toNat (W (x8 + 1)) * 1)))] _ rfl ⟨(fun q156 q157 q158 => ⟨trivial, rfl⟩), (fun q159 q160 q161 => hs150.ix (g36 q159 q160 q161)), (Es rfl), rfl⟩ (JO.load ttOk rfl rfl rfl rfl rfl rfl rfl 0 rfl rfl (Int.toNat (W (x8 + 1))) 0 (at' x0.2.2.1 (W (x8 + 1))) (fun q162 q163 q164 => ⟨at_some (g36 q162 q163 q164), rfl⟩) rfl rfl (JO.reg ttOk 4 [] [] [(96, .v (.bool (bif (decide (y30 = 0)) then true else (bif (decide (y30 = 2)) then (bif (decide ((Int.tmod x8 x0.1) = (W (x0.1 - 1)))) then true else (!(decide ((at' x0.2.2.1 (W (x8 + 1))) = (-1))))) else false))))] _ rfl ⟨⟨rfl, trivial⟩, rfl⟩ (JO.done rfl ?_)))
          refine JS.cond rfl (fun ht165 => ?_) (fun ht165 => ?_)
          · have h := condT h ht165
            refine JS.rg0 ttOk 1 [(2, .v (.bool false))] ⟨⟨rfl, trivial⟩, rfl⟩ rfl rfl ?_
            cases h
            exact JS.ret ttOk () trivial rfl rfl [] rfl
          have h := condF h ht165
          refine JS.skip (JS.endB (JS.endJ () h (Es rfl) (Bs rfl rfl) [0] rfl [] rfl))
        rintro _ h
        subst hj167
        refine JS.re ttOk 2 [(W (x8 + 1))] [] [(47, .v (.int .i64 (W (x8 + 1))))] _ ⟨⟨trivial, rfl⟩, ⟨rfl, trivial⟩, rfl⟩ rfl rfl (JS.endL (n104, (W (x8 + 1))) h (Nat.lt_succ_self _) (Es rfl) (Bs rfl rfl) [0] rfl [] rfl)
      have h := condF h ht168
      refine JS.exit rfl (JS.endJ () h ⟨rfl, trivial⟩ (Bs rfl rfl) [0] rfl [] rfl)
    rintro _ h
    subst hj171
    refine JS.rg ttOk 36 [(W (x0.1 - 1))] [] [(2, .v (.bool (bif (bif (bif (bif (decide (0 ≤ x0.2.2.2.1)) then (decide (x0.2.2.2.1 < x0.1)) else false) then (decide (0 ≤ x0.2.2.2.2.1)) else false) then (decide (x0.2.2.2.2.1 < x0.2.1)) else false) then (bif (!x0.2.2.2.2.2) then true else (decide (x0.2.2.2.1 = (W (x0.1 - 1))))) else false)))] _ ⟨(fun q169 q170 => ⟨trivial, rfl⟩), ⟨rfl, trivial⟩, rfl⟩ rfl rfl ?_
    cases h
    exact JS.ret ttOk () trivial rfl rfl [] rfl

def M_s_l08Copy (x0 : Int × Int × List Int × Int × Int × Bool) : Option (Int × Int × List Int × Int × Int × Bool) :=
  (guardO (([] : List Int).length + x0.2.2.1.length ≤ 536870912) <|
  some (x0.1, x0.2.1, (([] : List Int) ++ x0.2.2.1), x0.2.2.2.1, x0.2.2.2.2.1, x0.2.2.2.2.2))

theorem ok_s_l08Copy (x0 : Int × Int × List Int × Int × Int × Bool) (a2 : Option Addr) (c3 : Nat) (l4 : Nat) (hl5 : x0.2.2.1.length = l4) (r : Int × Int × List Int × Int × Int × Bool) (h : M_s_l08Copy x0 = some r) :
    FC Tryd.prog 12 [.agg #[.int .i64 x0.1, .int .i64 x0.2.1, .slice a2 l4 c3, .int .i64 x0.2.2.2.1, .int .i64 x0.2.2.2.2.1, .bool x0.2.2.2.2.2]] [⟨(.int .i64), ⟨a2, l4, c3⟩, x0.2.2.1⟩] (fun _ : Option Addr × Nat => True) (fun q => .agg (cl25 r q.1 q.2).toArray) (fun q => [⟨(.int .i64), ⟨q.1, r.2.2.1.length, q.2⟩, r.2.2.1⟩]) :=
  by
    subst hl5
    refine FC.of (T := TTx) Tryd.call12 Tryd.func12 rfl rfl fun w0 => ?_
    unfold M_s_l08Copy at h
    refine JS.rgB ttOk 2 [] [2, 3] [(1, .bp 2 0), (2, .bp 3 0)] (.new 2 25 (cl25 x0 a2 c3) (.new 3 25 (cl25 (0, 0, [], 0, 0, false) none 0) .nil)) ⟨(Es rfl), (Bs rfl rfl)⟩ rfl rfl (JS.seq (JS.region ?_))
    refine JO.ofK rfl (JK.buildSlice ttOk rfl rfl rfl rfl rfl rfl rfl rfl rfl rfl rfl [] rfl (.int .i64) [] ⟨rfl, rfl⟩ rfl rfl fun a6 => JO.toK ?_)
    refine JO.reg ttOk 2 [] [] [(5, .v (.slice a2 x0.2.2.1.length c3))] _ rfl ⟨⟨rfl, trivial⟩, rfl⟩ ?_
    obtain ⟨g7, h⟩ := guardO_some h
    refine JO.appendR' ttOk rfl rfl rfl rfl ⟨rfl, rfl, rfl, rfl, trivial, rfl, rfl, rfl, rfl⟩ rfl rfl rfl [0] rfl 0 rfl g7 rfl fun a8 c9 => JO.regB ttOk 2 [] [] [] (.new 2 25 (cl25 (x0.1, x0.2.1, (([] : List Int) ++ x0.2.2.1), x0.2.2.2.1, x0.2.2.2.2.1, x0.2.2.2.2.2) a8 c9) (.new 3 25 (cl25 (0, 0, [], 0, 0, false) none 0) .nil)) rfl ⟨trivial, (Bs rfl rfl)⟩ (JO.done rfl (JS.rgB ttOk 2 [] [] [] (.new 3 25 (cl25 (x0.1, x0.2.1, (([] : List Int) ++ x0.2.2.1), x0.2.2.2.1, x0.2.2.2.2.1, x0.2.2.2.2.2) a8 c9) .nil) ⟨trivial, (Bs rfl rfl)⟩ rfl rfl ?_))
    cases h
    exact JS.ret ttOk (a8, c9) trivial rfl rfl [0] rfl

def M_s_GridScroll_L1 (x0 : Int × Int × List Int × Int × Int × Bool) (y8 : Int × Int × List Int × Int × Int × Bool) (j76 : (List Int) → Option (Int × Int × List Int × Int × Int × Bool)) (k65 : (Int × List Int) → Option (Int × Int × List Int × Int × Int × Bool)) : (Int × List Int) → Option (Int × Int × List Int × Int × Int × Bool) := fun (x12, x31) =>
  (bif (decide (x12 < (y8.2.2.1.length : Int))) then
  (joinO (fun (x45 : List Int) =>
  k65 ((W (x12 + 1)), x45)) fun j48 =>
  (guardO (0 ≤ x12 ∧ x12 < (x31.length : Int)) <|
  (bif (decide ((W (x12 + x0.1)) < (x0.2.2.1.length : Int))) then
  (guardO (0 ≤ (W (x12 + x0.1)) ∧ (W (x12 + x0.1)) < (x0.2.2.1.length : Int)) <|
  (guardO (0 ≤ x12 ∧ x12 < (x31.length : Int)) <|
  j48 (List.set (List.set x31 (Int.toNat x12) 32) (Int.toNat x12) (at' x0.2.2.1 (W (x12 + x0.1))))))
  else
  j48 (List.set x31 (Int.toNat x12) 32))))
  else
  j76 x31)

def M_s_GridScroll (x0 : Int × Int × List Int × Int × Int × Bool) : Option (Int × Int × List Int × Int × Int × Bool) :=
  (bindO (M_s_GridOk x0) fun (y6 : Bool) =>
  (bif (!y6) then
  some (0, 0, [], 0, 0, false)
  else
  (bindO (M_s_l08Copy x0) fun (y8 : Int × Int × List Int × Int × Int × Bool) =>
  (joinO (fun (x73 : List Int) =>
  some (y8.1, y8.2.1, x73, y8.2.2.2.1, y8.2.2.2.2.1, y8.2.2.2.2.2)) fun j76 =>
  (fixF (M_s_GridScroll_L1 x0 y8 j76) FUEL (0, y8.2.2.1))))))

theorem ok_s_GridScroll (x0 : Int × Int × List Int × Int × Int × Bool) (a2 : Option Addr) (c3 : Nat) (l4 : Nat) (hl5 : x0.2.2.1.length = l4) (r : Int × Int × List Int × Int × Int × Bool) (h : M_s_GridScroll x0 = some r) :
    FC Tryd.prog 42 [.agg #[.int .i64 x0.1, .int .i64 x0.2.1, .slice a2 l4 c3, .int .i64 x0.2.2.2.1, .int .i64 x0.2.2.2.2.1, .bool x0.2.2.2.2.2]] [⟨(.int .i64), ⟨a2, l4, c3⟩, x0.2.2.1⟩] (fun _ : Option Addr × Nat => True) (fun q => .agg (cl25 r q.1 q.2).toArray) (fun q => [⟨(.int .i64), ⟨q.1, r.2.2.1.length, q.2⟩, r.2.2.1⟩]) :=
  by
    subst hl5
    refine FC.of (T := TTx) Tryd.call42 Tryd.func42 rfl rfl fun w0 => ?_
    unfold M_s_GridScroll at h
    refine JS.rgB ttOk 2 [] [2, 3] [(1, .bp 2 0), (2, .bp 3 0)] (.new 2 25 (cl25 x0 a2 c3) (.new 3 25 (cl25 (0, 0, [], 0, 0, false) none 0) .nil)) ⟨(Es rfl), (Bs rfl rfl)⟩ rfl rfl (JS.seq (JS.seq (JS.region (JO.reg ttOk 1 [] [] [(5, .v (.agg (cl25 x0 a2 c3).toArray))] _ rfl ⟨⟨rfl, trivial⟩, rfl⟩ ?_))))
    obtain ⟨y6, hy7, h⟩ := bindO_some h
    refine JO.call rfl rfl rfl rfl (ok_s_GridOk x0 a2 c3 x0.2.2.1.length rfl _ hy7) rfl [0] rfl rfl fun _ _ => JO.reg ttOk 1 [] [] [(7, .v (.bool (!y6)))] _ rfl ⟨⟨rfl, trivial⟩, rfl⟩ (JO.done rfl ?_)
    refine JS.cond rfl (fun ht92 => ?_) (fun ht92 => ?_)
    · have h := condT h ht92
      refine JS.rgB ttOk 2 [] [] [] (.new 3 25 (cl25 (0, 0, [], 0, 0, false) none 0) .nil) ⟨trivial, (Bs rfl rfl)⟩ rfl rfl ?_
      cases h
      refine JS.nilO (.int .i64) Sl.nil rfl rfl (JS.ret ttOk (none, 0) trivial rfl rfl [0] rfl)
    have h := condF h ht92
    refine JS.skip (JS.seq (JS.region (JO.reg ttOk 1 [] [] [(9, .v (.agg (cl25 x0 a2 c3).toArray))] _ rfl ⟨⟨rfl, trivial⟩, rfl⟩ ?_)))
    obtain ⟨y8, hy9, h⟩ := bindO_some h
    refine JO.call rfl rfl rfl rfl (ok_s_l08Copy x0 a2 c3 x0.2.2.1.length rfl _ hy9) rfl [0] rfl rfl ?_
    rintro ⟨a10, c11⟩ -
    refine JO.regB ttOk 2 [] [11] [(3, .bp 11 0)] (.new 2 25 (cl25 x0 a2 c3) (.new 3 25 (cl25 (0, 0, [], 0, 0, false) none 0) (.new 11 25 (cl25 y8 a10 c11) .nil))) rfl ⟨⟨rfl, trivial⟩, (Bs rfl rfl)⟩ (JO.done rfl (JS.seq (JS.rg0 ttOk 4 [(13, .v (.int .i64 (y8.2.2.1.length : Int))), (14, .v (.int .i64 0))] ⟨(Es rfl), rfl⟩ rfl rfl ?_)))
    obtain ⟨j76, hj91, h⟩ := joinO_some h
    refine JS.blockJ (ι := List Int × Option Addr × Nat) ⟨fun z => j76 z.1 = some r, fun z => [(2, .bp 3 0), (3, .bp 11 0)], fun z => (.new 3 25 (cl25 (0, 0, [], 0, 0, false) none 0) (.new 11 25 (cl25 (y8.1, y8.2.1, z.1, y8.2.2.2.1, y8.2.2.2.2.1, y8.2.2.2.2.2) z.2.1 z.2.2) .nil)), fun z => [], fun z => [⟨(.int .i64), ⟨z.2.1, z.1.length, z.2.2⟩, z.1⟩], fun z => 0⟩ ?_ ?_
    · refine JS.loop (ι := Nat × Int × List Int × Option Addr × Nat) ⟨fun z => fixF (M_s_GridScroll_L1 x0 y8 j76) z.1 (z.2.1, z.2.2.1) = some r, fun z => [(1, .bp 2 0), (2, .bp 3 0), (3, .bp 11 0), (13, .v (.int .i64 (y8.2.2.1.length : Int))), (14, .v (.int .i64 z.2.1))], fun z => (.new 2 25 (cl25 x0 a2 c3) (.new 3 25 (cl25 (0, 0, [], 0, 0, false) none 0) (.new 11 25 (cl25 (y8.1, y8.2.1, z.2.2.1, y8.2.2.2.1, y8.2.2.2.2.1, y8.2.2.2.2.2) z.2.2.2.1 z.2.2.2.2) .nil))), fun z => [⟨(.int .i64), ⟨a2, x0.2.2.1.length, c3⟩, x0.2.2.1⟩], fun z => [⟨(.int .i64), ⟨z.2.2.2.1, z.2.2.1.length, z.2.2.2.2⟩, z.2.2.1⟩], fun z => z.1⟩ (FUEL, 0, y8.2.2.1, a10, c11) h (Es rfl) (Bs rfl rfl) [0] rfl [0] rfl ?_
      rintro ⟨n66, x12, x31, a32, c33⟩ h
      obtain ⟨n66, rfl, h⟩ := fixF_some h
      rw [M_s_GridScroll_L1] at h
      refine JS.rg0 ttOk 1 [(15, .v (.bool (decide (x12 < (y8.2.2.1.length : Int)))))] ⟨⟨rfl, trivial⟩, rfl⟩ rfl rfl (JS.seq ?_)
      refine JS.cond rfl (fun ht90 => ?_) (fun ht90 => ?_)
      · have h := condT h ht90
        refine JS.skip (JS.seq ?_)
        obtain ⟨j48, hj89, h⟩ := joinO_some h
        refine JS.blockJ (ι := List Int × Option Addr × Nat) ⟨fun z => j48 z.1 = some r, fun z => [(1, .bp 2 0), (2, .bp 3 0), (3, .bp 11 0), (13, .v (.int .i64 (y8.2.2.1.length : Int))), (14, .v (.int .i64 x12))], fun z => (.new 2 25 (cl25 x0 a2 c3) (.new 3 25 (cl25 (0, 0, [], 0, 0, false) none 0) (.new 11 25 (cl25 (y8.1, y8.2.1, z.1, y8.2.2.2.1, y8.2.2.2.2.1, y8.2.2.2.2.2) z.2.1 z.2.2) .nil))), fun z => [⟨(.int .i64), ⟨a2, x0.2.2.1.length, c3⟩, x0.2.2.1⟩], fun z => [⟨(.int .i64), ⟨z.2.1, z.1.length, z.2.2⟩, z.1⟩], fun z => 0⟩ ?_ ?_
        · refine JS.rg0 ttOk 2 [(4, .v (.int .i64 x12))] ⟨⟨rfl, trivial⟩, rfl⟩ rfl rfl (JS.seq (JS.region (JO.know 1 rfl fun hs85 => ?_)))
          obtain ⟨g38, h⟩ := guardO_some h
          refine JO.reg ttOk 4 [] [] [(20, .ep ⟨a32, x31.length, c33⟩ (Int.toNat x12 * 1))] _ rfl ⟨hs85.ix g38, ⟨rfl, trivial⟩, rfl⟩ (JO.storeE ttOk rfl rfl rfl rfl rfl rfl rfl rfl rfl [0] (fs := []) rfl (Int.toNat x12) 0 (at' x31 x12) 32 ⟨at_some g38, rfl⟩ ⟨rfl, rfl, rfl⟩ (JO.done rfl (JS.rg ttOk 8 [(W (x12 + x0.1))] [] [(28, .v (.bool (decide ((W (x12 + x0.1)) < (x0.2.2.1.length : Int)))))] _ ⟨⟨trivial, rfl⟩, ⟨rfl, trivial⟩, rfl⟩ rfl rfl ?_)))
          refine JS.cond rfl (fun ht88 => ?_) (fun ht88 => ?_)
          · have h := condT h ht88
            obtain ⟨g40, h⟩ := guardO_some h
            obtain ⟨g41, h⟩ := guardO_some h
            refine JS.know 0 rfl fun hs87 => ?_
            refine JS.regionA rfl (.new 2 25 (cl25 x0 a2 c3) (.new 11 25 (cl25 (y8.1, y8.2.1, x31, y8.2.2.2.1, y8.2.2.2.2.1, y8.2.2.2.2.2) a32 c33) .nil)) [0] [11, 12] ⟨rfl, rfl, rfl, rfl, rfl, rfl, rfl, rfl, trivial⟩ rfl (fun be43 => ?_)
            refine JA.reg ttOk panic_cx true 3 [0, 1, 2, 3, 4, 5, 6, 7, 8, 9] rfl (by kernel_rfl) [(W (x12 + x0.1))] [(30, .v (.slice a32 x31.length c33)), (31, .v (.int .i64 x12)), (38, .ep ⟨a2, x0.2.2.1.length, c3⟩ (Int.toNat (W (x12 + x0.1)) * 1))] ⟨rfl, rfl, rfl, rfl, rfl, rfl, rfl, rfl, trivial⟩ [0] rfl rfl ⟨⟨trivial, rfl⟩, hs87.ix g40, (Es rfl)⟩ (JA.load ttOk panic_cx 10 rfl (by kernel_rfl) rfl rfl rfl rfl rfl rfl 0 rfl rfl (Int.toNat (W (x12 + x0.1))) 0 (at' x0.2.2.1 (W (x12 + x0.1))) ⟨at_some g40, rfl⟩ rfl rfl ⟨rfl, rfl, rfl, rfl, rfl, rfl, rfl, rfl, trivial⟩ [0] rfl (JA.regL ttOk panic_cx 1 [11] rfl (by kernel_rfl) [] [(40, .ep ⟨a32, x31.length, c33⟩ (Int.toNat x12 * 1))] rfl ⟨hs85.ix g41, ⟨rfl, trivial⟩⟩ (JA.one 12 (by kernel_rfl) (JK.storeE ttOk rfl rfl rfl rfl rfl rfl rfl rfl rfl [0] (fs := []) rfl (Int.toNat x12) 0 (at' (List.set x31 (Int.toNat x12) 32) x12) (at' x0.2.2.1 (W (x12 + x0.1))) ⟨at_someL (List.length_set.trans rfl) g41, rfl⟩ ⟨rfl, rfl, rfl⟩ (JA.nextL rfl (JA.done (by kernel_rfl) (JS.boxes (B' := (.new 2 25 (cl25 x0 a2 c3) (.new 3 25 (cl25 (0, 0, [], 0, 0, false) none 0) (.new 11 25 (cl25 (y8.1, y8.2.1, x31, y8.2.2.2.1, y8.2.2.2.2.1, y8.2.2.2.2.2) a32 c33) .nil)))) (Bs rfl rfl) (JS.endB (JS.endJ ((List.set (List.set x31 (Int.toNat x12) 32) (Int.toNat x12) (at' x0.2.2.1 (W (x12 + x0.1)))), a32, c33) h (Es rfl) ⟨rfl, rfl, rfl, rfl, rfl, rfl, rfl, rfl, rfl, (congrArg (fun n => ([.int .i64 y8.1, .int .i64 y8.2.1, .slice a32 n c33, .int .i64 y8.2.2.2.1, .int .i64 y8.2.2.2.2.1, .bool y8.2.2.2.2.2] : List Value)) (List.length_set.trans (List.length_set.trans rfl))), rfl, rfl, trivial⟩ [0] rfl [0] (by simp only [List.length_set, List.length_replicate, pickO, getF, cl25, cl31]; rfl))))))))))
          have h := condF h ht88
          refine JS.skip (JS.endB (JS.endJ ((List.set x31 (Int.toNat x12) 32), a32, c33) h (Es rfl) ⟨rfl, rfl, rfl, rfl, rfl, rfl, rfl, rfl, rfl, (congrArg (fun n => ([.int .i64 y8.1, .int .i64 y8.2.1, .slice a32 n c33, .int .i64 y8.2.2.2.1, .int .i64 y8.2.2.2.2.1, .bool y8.2.2.2.2.2] : List Value)) (List.length_set.trans rfl)), rfl, rfl, trivial⟩ [0] rfl [0] (by simp only [List.length_set, List.length_replicate, pickO, getF, cl25, cl31]; rfl)))
        rintro ⟨x45, a46, c47⟩ h
        subst hj89
        refine JS.re ttOk 2 [(W (x12 + 1))] [] [(14, .v (.int .i64 (W (x12 + 1))))] _ ⟨⟨trivial, rfl⟩, ⟨rfl, trivial⟩, rfl⟩ rfl rfl (JS.endL (n66, (W (x12 + 1)), x45, a46, c47) h (Nat.lt_succ_self _) (Es rfl) (Bs rfl rfl) [0] rfl [0] rfl)
      have h := condF h ht90
      refine JS.exit rfl (JS.endJ (x31, a32, c33) h (Es rfl) (Bs rfl rfl) [] rfl [0] rfl)
    rintro ⟨x73, a74, c75⟩ h
    subst hj91
    refine JS.rgB ttOk 2 [] [] [] (.new 3 25 (cl25 (y8.1, y8.2.1, x73, y8.2.2.2.1, y8.2.2.2.2.1, y8.2.2.2.2.2) a74 c75) .nil) ⟨trivial, (Bs rfl rfl)⟩ rfl rfl ?_
    cases h
    exact JS.ret ttOk (a74, c75) trivial rfl rfl [0] rfl

def M_s_l08Clamp (x0 : Int) (x1 : Int) : Option Int :=
  (bif (decide (x0 < 0)) then
  some 0
  else
  (bif (decide (x1 < x0)) then
  some x1
  else
  some x0))

theorem ok_s_l08Clamp (x0 : Int) (x1 : Int) (r : Int) (h : M_s_l08Clamp x0 x1 = some r) :
    FC Tryd.prog 25 [.int .i64 x0, .int .i64 x1] [] (fun _ : Unit => True) (fun _ => .int .i64 r) (fun _ => []) :=
  by
    refine FC.of (T := TTx) Tryd.call25 Tryd.func25 rfl rfl fun w0 => ?_
    unfold M_s_l08Clamp at h
    refine JS.rg0 ttOk 1 [] ⟨trivial, rfl⟩ rfl rfl (JS.seq (JS.rg0 ttOk 2 [(6, .v (.bool (decide (x0 < 0))))] ⟨⟨rfl, trivial⟩, rfl⟩ rfl rfl ?_))
    refine JS.cond rfl (fun ht6 => ?_) (fun ht6 => ?_)
    · have h := condT h ht6
      refine JS.rg0 ttOk 1 [(4, .v (.int .i64 0))] ⟨⟨rfl, trivial⟩, rfl⟩ rfl rfl ?_
      cases h
      exact JS.ret ttOk () trivial rfl rfl [] rfl
    have h := condF h ht6
    refine JS.skip (JS.seq (JS.rg0 ttOk 3 [(9, .v (.bool (decide (x1 < x0))))] ⟨⟨rfl, trivial⟩, rfl⟩ rfl rfl ?_))
    refine JS.cond rfl (fun ht5 => ?_) (fun ht5 => ?_)
    · have h := condT h ht5
      refine JS.rg0 ttOk 2 [(4, .v (.int .i64 x1))] ⟨⟨rfl, trivial⟩, rfl⟩ rfl rfl ?_
      cases h
      exact JS.ret ttOk () trivial rfl rfl [] rfl
    have h := condF h ht5
    refine JS.skip (JS.rg0 ttOk 2 [(4, .v (.int .i64 x0))] ⟨⟨rfl, trivial⟩, rfl⟩ rfl rfl ?_)
    cases h
    exact JS.ret ttOk () trivial rfl rfl [] rfl

def M_s_GridGo (x0 : Int × Int × List Int × Int × Int × Bool) (x1 : Int) (x2 : Int) : Option (Int × Int × List Int × Int × Int × Bool) :=
  (bindO (M_s_GridOk x0) fun (y8 : Bool) =>
  (bif (!y8) then
  some (0, 0, [], 0, 0, false)
  else
  (bindO (M_s_l08Copy x0) fun (y10 : Int × Int × List Int × Int × Int × Bool) =>
  (bindO (M_s_l08Clamp x1 (W (x0.1 - 1))) fun (y14 : Int) =>
  (bindO (M_s_l08Clamp x2 (W (x0.2.1 - 1))) fun (y16 : Int) =>
  some (y10.1, y10.2.1, y10.2.2.1, y14, y16, false))))))

theorem ok_s_GridGo (x0 : Int × Int × List Int × Int × Int × Bool) (x1 : Int) (x2 : Int) (a4 : Option Addr) (c5 : Nat) (l6 : Nat) (hl7 : x0.2.2.1.length = l6) (r : Int × Int × List Int × Int × Int × Bool) (h : M_s_GridGo x0 x1 x2 = some r) :
    FC Tryd.prog 8 [.agg #[.int .i64 x0.1, .int .i64 x0.2.1, .slice a4 l6 c5, .int .i64 x0.2.2.2.1, .int .i64 x0.2.2.2.2.1, .bool x0.2.2.2.2.2], .int .i64 x1, .int .i64 x2] [⟨(.int .i64), ⟨a4, l6, c5⟩, x0.2.2.1⟩] (fun _ : Option Addr × Nat => True) (fun q => .agg (cl25 r q.1 q.2).toArray) (fun q => [⟨(.int .i64), ⟨q.1, r.2.2.1.length, q.2⟩, r.2.2.1⟩]) :=
  by
    subst hl7
    refine FC.of (T := TTx) Tryd.call8 Tryd.func8 rfl rfl fun w0 => ?_
    unfold M_s_GridGo at h
    refine JS.rgB ttOk 2 [] [2, 3] [(3, .bp 2 0), (6, .bp 3 0)] (.new 2 25 (cl25 x0 a4 c5) (.new 3 25 (cl25 (0, 0, [], 0, 0, false) none 0) .nil)) ⟨(Es rfl), (Bs rfl rfl)⟩ rfl rfl (JS.seq (JS.seq (JS.region (JO.reg ttOk 1 [] [] [(8, .v (.agg (cl25 x0 a4 c5).toArray))] _ rfl ⟨⟨rfl, trivial⟩, rfl⟩ ?_))))
    obtain ⟨y8, hy9, h⟩ := bindO_some h
    refine JO.call rfl rfl rfl rfl (ok_s_GridOk x0 a4 c5 x0.2.2.1.length rfl _ hy9) rfl [0] rfl rfl fun _ _ => JO.reg ttOk 1 [] [] [(10, .v (.bool (!y8)))] _ rfl ⟨⟨rfl, trivial⟩, rfl⟩ (JO.done rfl ?_)
    refine JS.cond rfl (fun ht19 => ?_) (fun ht19 => ?_)
    · have h := condT h ht19
      refine JS.rgB ttOk 2 [] [] [] (.new 3 25 (cl25 (0, 0, [], 0, 0, false) none 0) .nil) ⟨trivial, (Bs rfl rfl)⟩ rfl rfl ?_
      cases h
      refine JS.nilO (.int .i64) Sl.nil rfl rfl (JS.ret ttOk (none, 0) trivial rfl rfl [0] rfl)
    have h := condF h ht19
    refine JS.skip (JS.seq (JS.region (JO.reg ttOk 1 [] [] [(12, .v (.agg (cl25 x0 a4 c5).toArray))] _ rfl ⟨⟨rfl, trivial⟩, rfl⟩ ?_)))
    obtain ⟨y10, hy11, h⟩ := bindO_some h
    refine JO.call rfl rfl rfl rfl (ok_s_l08Copy x0 a4 c5 x0.2.2.1.length rfl _ hy11) rfl [0] rfl rfl ?_
    rintro ⟨a12, c13⟩ -
    refine JO.regB ttOk 2 [] [11] [(7, .bp 11 0)] (.new 2 25 (cl25 x0 a4 c5) (.new 3 25 (cl25 (0, 0, [], 0, 0, false) none 0) (.new 11 25 (cl25 y10 a12 c13) .nil))) rfl ⟨⟨rfl, trivial⟩, (Bs rfl rfl)⟩ (JO.done rfl (JS.seq (JS.region (JO.reg ttOk 4 [(W (x0.1 - 1))] [] [(14, .v (.int .i64 x1)), (17, .v (.int .i64 (W (x0.1 - 1))))] _ rfl ⟨⟨trivial, rfl⟩, (Es rfl), rfl⟩ ?_))))
    obtain ⟨y14, hy15, h⟩ := bindO_some h
    refine JO.call rfl rfl rfl rfl (ok_s_l08Clamp x1 (W (x0.1 - 1)) _ hy15) rfl [] rfl rfl fun _ _ => JO.regB ttOk 2 [] [] [] (.new 2 25 (cl25 x0 a4 c5) (.new 3 25 (cl25 (0, 0, [], 0, 0, false) none 0) (.new 11 25 (cl25 (y10.1, y10.2.1, y10.2.2.1, y14, y10.2.2.2.2.1, y10.2.2.2.2.2) a12 c13) .nil))) rfl ⟨trivial, (Bs rfl rfl)⟩ (JO.done rfl (JS.seq (JS.region (JO.reg ttOk 4 [(W (x0.2.1 - 1))] [] [(20, .v (.int .i64 x2)), (23, .v (.int .i64 (W (x0.2.1 - 1))))] _ rfl ⟨⟨trivial, rfl⟩, (Es rfl), rfl⟩ ?_))))
    obtain ⟨y16, hy17, h⟩ := bindO_some h
    refine JO.call rfl rfl rfl rfl (ok_s_l08Clamp x2 (W (x0.2.1 - 1)) _ hy17) rfl [] rfl rfl fun _ _ => JO.regB ttOk 2 [] [] [] (.new 3 25 (cl25 (0, 0, [], 0, 0, false) none 0) (.new 11 25 (cl25 (y10.1, y10.2.1, y10.2.2.1, y14, y16, y10.2.2.2.2.2) a12 c13) .nil)) rfl ⟨trivial, (Bs rfl rfl)⟩ (JO.done rfl (JS.rgB ttOk 2 [] [] [] (.new 3 25 (cl25 (0, 0, [], 0, 0, false) none 0) (.new 11 25 (cl25 (y10.1, y10.2.1, y10.2.2.1, y14, y16, false) a12 c13) .nil)) ⟨trivial, (Bs rfl rfl)⟩ rfl rfl (JS.rgB ttOk 2 [] [] [] (.new 3 25 (cl25 (y10.1, y10.2.1, y10.2.2.1, y14, y16, false) a12 c13) .nil) ⟨trivial, (Bs rfl rfl)⟩ rfl rfl ?_)))
    cases h
    exact JS.ret ttOk (a12, c13) trivial rfl rfl [0] rfl

def M_s_GridClear_L1 (x0 : Int × Int × List Int × Int × Int × Bool) (x1 : Int) (x2 : Int) (j93 : (List Int) → Option (Int × Int × List Int × Int × Int × Bool)) (k79 : (Int × List Int) → Option (Int × Int × List Int × Int × Int × Bool)) : (Int × List Int) → Option (Int × Int × List Int × Int × Int × Bool) := fun (x14, x25) =>
  (bif (decide (x14 < (x0.2.2.1.length : Int))) then
  (joinO (fun (x48 : List Int) =>
  k79 ((W (x14 + 1)), x48)) fun j51 =>
  (guardO (0 ≤ x14 ∧ x14 < (x0.2.2.1.length : Int)) <|
  (joinO (fun (x34 : Int) =>
  (joinO (fun (x40 : Int) =>
  (bif (bif (bif (decide (x1 ≤ x14)) then (decide (x14 < x2)) else false) then true else (bif (decide (x1 ≤ x40)) then (decide (x40 < x2)) else false)) then
  (guardO (0 ≤ x14 ∧ x14 < (x25.length : Int)) <|
  j51 (List.set x25 (Int.toNat x14) 32))
  else
  j51 x25)) fun j41 =>
  (bindO (M_s_Width (at' x0.2.2.1 x14)) fun (y37 : Int) =>
  (bif (decide (y37 = 2)) then
  j41 (W (x14 + 1))
  else
  j41 x34)))) fun j35 =>
  (bif (decide ((at' x0.2.2.1 x14) = (-1))) then
  j35 (W (x14 - 1))
  else
  j35 x14))))
  else
  j93 x25)

def M_s_GridClear (x0 : Int × Int × List Int × Int × Int × Bool) (x1 : Int) (x2 : Int) : Option (Int × Int × List Int × Int × Int × Bool) :=
  (bindO (M_s_GridOk x0) fun (y8 : Bool) =>
  (bif (!y8) then
  some (0, 0, [], 0, 0, false)
  else
  (bindO (M_s_l08Copy x0) fun (y10 : Int × Int × List Int × Int × Int × Bool) =>
  (joinO (fun (x90 : List Int) =>
  some (y10.1, y10.2.1, x90, y10.2.2.2.1, y10.2.2.2.2.1, y10.2.2.2.2.2)) fun j93 =>
  (fixF (M_s_GridClear_L1 x0 x1 x2 j93) FUEL (0, y10.2.2.1))))))

theorem ok_s_GridClear (x0 : Int × Int × List Int × Int × Int × Bool) (x1 : Int) (x2 : Int) (a4 : Option Addr) (c5 : Nat) (l6 : Nat) (hl7 : x0.2.2.1.length = l6) (r : Int × Int × List Int × Int × Int × Bool) (h : M_s_GridClear x0 x1 x2 = some r) :
    FC Tryd.prog 43 [.agg #[.int .i64 x0.1, .int .i64 x0.2.1, .slice a4 l6 c5, .int .i64 x0.2.2.2.1, .int .i64 x0.2.2.2.2.1, .bool x0.2.2.2.2.2], .int .i64 x1, .int .i64 x2] [⟨(.int .i64), ⟨a4, l6, c5⟩, x0.2.2.1⟩] (fun _ : Option Addr × Nat => True) (fun q => .agg (cl25 r q.1 q.2).toArray) (fun q => [⟨(.int .i64), ⟨q.1, r.2.2.1.length, q.2⟩, r.2.2.1⟩]) :=
  by
    subst hl7
    refine FC.of (T := TTx) Tryd.call43 Tryd.func43 rfl rfl fun w0 => ?_
    unfold M_s_GridClear at h
    refine JS.rgB ttOk 2 [] [2, 3] [(3, .bp 2 0), (6, .bp 3 0)] (.new 2 25 (cl25 x0 a4 c5) (.new 3 25 (cl25 (0, 0, [], 0, 0, false) none 0) .nil)) ⟨(Es rfl), (Bs rfl rfl)⟩ rfl rfl (JS.seq (JS.seq (JS.region (JO.reg ttOk 1 [] [] [(11, .v (.agg (cl25 x0 a4 c5).toArray))] _ rfl ⟨⟨rfl, trivial⟩, rfl⟩ ?_))))
    obtain ⟨y8, hy9, h⟩ := bindO_some h
    refine JO.call rfl rfl rfl rfl (ok_s_GridOk x0 a4 c5 x0.2.2.1.length rfl _ hy9) rfl [0] rfl rfl fun _ _ => JO.reg ttOk 1 [] [] [(13, .v (.bool (!y8)))] _ rfl ⟨⟨rfl, trivial⟩, rfl⟩ (JO.done rfl ?_)
    refine JS.cond rfl (fun ht115 => ?_) (fun ht115 => ?_)
    · have h := condT h ht115
      refine JS.rgB ttOk 2 [] [] [] (.new 3 25 (cl25 (0, 0, [], 0, 0, false) none 0) .nil) ⟨trivial, (Bs rfl rfl)⟩ rfl rfl ?_
      cases h
      refine JS.nilO (.int .i64) Sl.nil rfl rfl (JS.ret ttOk (none, 0) trivial rfl rfl [0] rfl)
    have h := condF h ht115
    refine JS.skip (JS.seq (JS.region (JO.reg ttOk 1 [] [] [(15, .v (.agg (cl25 x0 a4 c5).toArray))] _ rfl ⟨⟨rfl, trivial⟩, rfl⟩ ?_)))
    obtain ⟨y10, hy11, h⟩ := bindO_some h
    refine JO.call rfl rfl rfl rfl (ok_s_l08Copy x0 a4 c5 x0.2.2.1.length rfl _ hy11) rfl [0] rfl rfl ?_
    rintro ⟨a12, c13⟩ -
    refine JO.regB ttOk 2 [] [11] [(7, .bp 11 0)] (.new 2 25 (cl25 x0 a4 c5) (.new 3 25 (cl25 (0, 0, [], 0, 0, false) none 0) (.new 11 25 (cl25 y10 a12 c13) .nil))) rfl ⟨⟨rfl, trivial⟩, (Bs rfl rfl)⟩ (JO.done rfl (JS.seq (JS.rg0 ttOk 4 [(18, .v (.slice a4 x0.2.2.1.length c5)), (19, .v (.int .i64 (x0.2.2.1.length : Int))), (20, .v (.int .i64 0))] ⟨(Es rfl), rfl⟩ rfl rfl ?_)))
    obtain ⟨j93, hj114, h⟩ := joinO_some h
    refine JS.blockJ (ι := List Int × Option Addr × Nat) ⟨fun z => j93 z.1 = some r, fun z => [(6, .bp 3 0), (7, .bp 11 0)], fun z => (.new 3 25 (cl25 (0, 0, [], 0, 0, false) none 0) (.new 11 25 (cl25 (y10.1, y10.2.1, z.1, y10.2.2.2.1, y10.2.2.2.2.1, y10.2.2.2.2.2) z.2.1 z.2.2) .nil)), fun z => [], fun z => [⟨(.int .i64), ⟨z.2.1, z.1.length, z.2.2⟩, z.1⟩], fun z => 0⟩ ?_ ?_
    · refine JS.loop (ι := Nat × Int × List Int × Option Addr × Nat) ⟨fun z => fixF (M_s_GridClear_L1 x0 x1 x2 j93) z.1 (z.2.1, z.2.2.1) = some r, fun z => [(1, .v (.int .i64 x1)), (2, .v (.int .i64 x2)), (6, .bp 3 0), (7, .bp 11 0), (18, .v (.slice a4 x0.2.2.1.length c5)), (19, .v (.int .i64 (x0.2.2.1.length : Int))), (20, .v (.int .i64 z.2.1))], fun z => (.new 3 25 (cl25 (0, 0, [], 0, 0, false) none 0) (.new 11 25 (cl25 (y10.1, y10.2.1, z.2.2.1, y10.2.2.2.1, y10.2.2.2.2.1, y10.2.2.2.2.2) z.2.2.2.1 z.2.2.2.2) .nil)), fun z => [⟨(.int .i64), ⟨a4, x0.2.2.1.length, c5⟩, x0.2.2.1⟩], fun z => [⟨(.int .i64), ⟨z.2.2.2.1, z.2.2.1.length, z.2.2.2.2⟩, z.2.2.1⟩], fun z => z.1⟩ (FUEL, 0, y10.2.2.1, a12, c13) h (Es rfl) (Bs rfl rfl) [0] rfl [0] rfl ?_
      rintro ⟨n80, x14, x25, a26, c27⟩ h
      obtain ⟨n80, rfl, h⟩ := fixF_some h
      rw [M_s_GridClear_L1] at h
      refine JS.rg0 ttOk 1 [(21, .v (.bool (decide (x14 < (x0.2.2.1.length : Int)))))] ⟨⟨rfl, trivial⟩, rfl⟩ rfl rfl (JS.seq ?_)
      refine JS.cond rfl (fun ht113 => ?_) (fun ht113 => ?_)
      · have h := condT h ht113
        refine JS.skip (JS.seq ?_)
        obtain ⟨j51, hj112, h⟩ := joinO_some h
        refine JS.blockJ (ι := List Int × Option Addr × Nat) ⟨fun z => j51 z.1 = some r, fun z => [(1, .v (.int .i64 x1)), (2, .v (.int .i64 x2)), (6, .bp 3 0), (7, .bp 11 0), (18, .v (.slice a4 x0.2.2.1.length c5)), (19, .v (.int .i64 (x0.2.2.1.length : Int))), (20, .v (.int .i64 x14))], fun z => (.new 3 25 (cl25 (0, 0, [], 0, 0, false) none 0) (.new 11 25 (cl25 (y10.1, y10.2.1, z.1, y10.2.2.2.1, y10.2.2.2.2.1, y10.2.2.2.2.2) z.2.1 z.2.2) .nil)), fun z => [⟨(.int .i64), ⟨a4, x0.2.2.1.length, c5⟩, x0.2.2.1⟩], fun z => [⟨(.int .i64), ⟨z.2.1, z.1.length, z.2.2⟩, z.1⟩], fun z => 0⟩ ?_ ?_
        · refine JS.seq (JS.region (JO.know 0 rfl fun hs105 => ?_))
          obtain ⟨g32, h⟩ := guardO_some h
          refine JO.reg ttOk 2 [] [] [(22, .v (.int .i64 x14)), (23, .ep ⟨a4, x0.2.2.1.length, c5⟩ (Int.toNat x14 * 1))] _ rfl ⟨hs105.ix g32, (Es rfl), rfl⟩ (JO.load ttOk rfl rfl rfl rfl rfl rfl rfl 0 rfl rfl (Int.toNat x14) 0 (at' x0.2.2.1 x14) ⟨at_some g32, rfl⟩ rfl rfl (JO.reg ttOk 2 [] [] [(8, .v (.int .i64 x14)), (9, .v (.int .i64 (at' x0.2.2.1 x14)))] _ rfl ⟨(Es rfl), rfl⟩ (JO.done rfl (JS.rg0 ttOk 2 [(10, .v (.int .i64 x14))] ⟨⟨rfl, trivial⟩, rfl⟩ rfl rfl ?_))))
          obtain ⟨j35, hj111, h⟩ := joinO_some h
          refine JS.seqJ (ι := Int) ⟨fun z => j35 z = some r, fun z => [(1, .v (.int .i64 x1)), (2, .v (.int .i64 x2)), (6, .bp 3 0), (7, .bp 11 0), (8, .v (.int .i64 x14)), (9, .v (.int .i64 (at' x0.2.2.1 x14))), (10, .v (.int .i64 z)), (18, .v (.slice a4 x0.2.2.1.length c5)), (19, .v (.int .i64 (x0.2.2.1.length : Int))), (20, .v (.int .i64 x14))], fun z => (.new 3 25 (cl25 (0, 0, [], 0, 0, false) none 0) (.new 11 25 (cl25 (y10.1, y10.2.1, x25, y10.2.2.2.1, y10.2.2.2.2.1, y10.2.2.2.2.2) a26 c27) .nil)), fun z => [⟨(.int .i64), ⟨a4, x0.2.2.1.length, c5⟩, x0.2.2.1⟩], fun z => [⟨(.int .i64), ⟨a26, x25.length, c27⟩, x25⟩], fun z => 0⟩ ?_ ?_
          · refine JS.rg0 ttOk 2 [(27, .v (.bool (decide ((at' x0.2.2.1 x14) = (-1)))))] ⟨⟨rfl, trivial⟩, rfl⟩ rfl rfl ?_
            refine JS.cond rfl (fun ht106 => ?_) (fun ht106 => ?_)
            · have h := condT h ht106
              refine JS.re ttOk 3 [(W (x14 - 1))] [] [(10, .v (.int .i64 (W (x14 - 1))))] _ ⟨⟨trivial, rfl⟩, ⟨rfl, trivial⟩, rfl⟩ rfl rfl (JS.endJ (W (x14 - 1)) h (Es rfl) (Bs rfl rfl) [0] rfl [0] rfl)
            have h := condF h ht106
            refine JS.skip (JS.endJ x14 h (Es rfl) (Bs rfl rfl) [0] rfl [0] rfl)
          rintro x34 h
          subst hj111
          obtain ⟨j41, hj110, h⟩ := joinO_some h
          refine JS.seqJ (ι := Int) ⟨fun z => j41 z = some r, fun z => [(1, .v (.int .i64 x1)), (2, .v (.int .i64 x2)), (6, .bp 3 0), (7, .bp 11 0), (8, .v (.int .i64 x14)), (10, .v (.int .i64 z)), (18, .v (.slice a4 x0.2.2.1.length c5)), (19, .v (.int .i64 (x0.2.2.1.length : Int))), (20, .v (.int .i64 x14))], fun z => (.new 3 25 (cl25 (0, 0, [], 0, 0, false) none 0) (.new 11 25 (cl25 (y10.1, y10.2.1, x25, y10.2.2.2.1, y10.2.2.2.2.1, y10.2.2.2.2.2) a26 c27) .nil)), fun z => [⟨(.int .i64), ⟨a4, x0.2.2.1.length, c5⟩, x0.2.2.1⟩], fun z => [⟨(.int .i64), ⟨a26, x25.length, c27⟩, x25⟩], fun z => 0⟩ ?_ ?_
          · refine JS.seq (JS.region (JO.reg ttOk 1 [] [] [(30, .v (.int .i64 (at' x0.2.2.1 x14)))] _ rfl ⟨⟨rfl, trivial⟩, rfl⟩ ?_))
            obtain ⟨y37, hy38, h⟩ := bindO_some h
            refine JO.call rfl rfl rfl rfl (ok_s_Width (at' x0.2.2.1 x14) _ hy38) rfl [] rfl rfl fun _ _ => JO.reg ttOk 1 [] [] [(32, .v (.bool (decide (y37 = 2))))] _ rfl ⟨⟨rfl, trivial⟩, rfl⟩ (JO.done rfl ?_)
            refine JS.cond rfl (fun ht107 => ?_) (fun ht107 => ?_)
            · have h := condT h ht107
              refine JS.re ttOk 3 [(W (x14 + 1))] [] [(10, .v (.int .i64 (W (x14 + 1))))] _ ⟨⟨trivial, rfl⟩, ⟨rfl, trivial⟩, rfl⟩ rfl rfl (JS.endJ (W (x14 + 1)) h (Es rfl) (Bs rfl rfl) [0] rfl [0] rfl)
            have h := condF h ht107
            refine JS.skip (JS.endJ x34 h (Es rfl) (Bs rfl rfl) [0] rfl [0] rfl)
          rintro x40 h
          subst hj110
          refine JS.rg0 ttOk 18 [(52, .v (.bool (bif (bif (decide (x1 ≤ x14)) then (decide (x14 < x2)) else false) then true else (bif (decide (x1 ≤ x40)) then (decide (x40 < x2)) else false))))] ⟨⟨rfl, trivial⟩, rfl⟩ rfl rfl ?_
          refine JS.cond rfl (fun ht109 => ?_) (fun ht109 => ?_)
          · have h := condT h ht109
            refine JS.region (JO.know 1 rfl fun hs108 => ?_)
            obtain ⟨g44, h⟩ := guardO_some h
            refine JO.reg ttOk 4 [] [] [(56, .ep ⟨a26, x25.length, c27⟩ (Int.toNat x14 * 1))] _ rfl ⟨hs108.ix g44, ⟨rfl, trivial⟩, rfl⟩ (JO.storeE ttOk rfl rfl rfl rfl rfl rfl rfl rfl rfl [0] (fs := []) rfl (Int.toNat x14) 0 (at' x25 x14) 32 ⟨at_some g44, rfl⟩ ⟨rfl, rfl, rfl⟩ (JO.done rfl (JS.endB (JS.endJ ((List.set x25 (Int.toNat x14) 32), a26, c27) h (Es rfl) ⟨rfl, rfl, rfl, rfl, rfl, (congrArg (fun n => ([.int .i64 y10.1, .int .i64 y10.2.1, .slice a26 n c27, .int .i64 y10.2.2.2.1, .int .i64 y10.2.2.2.2.1, .bool y10.2.2.2.2.2] : List Value)) (List.length_set.trans rfl)), rfl, rfl, trivial⟩ [0] rfl [0] (by simp only [List.length_set, List.length_replicate, pickO, getF, cl25, cl31]; rfl)))))
          have h := condF h ht109
          refine JS.skip (JS.endB (JS.endJ (x25, a26, c27) h (Es rfl) (Bs rfl rfl) [0] rfl [0] rfl))
        rintro ⟨x48, a49, c50⟩ h
        subst hj112
        refine JS.re ttOk 2 [(W (x14 + 1))] [] [(20, .v (.int .i64 (W (x14 + 1))))] _ ⟨⟨trivial, rfl⟩, ⟨rfl, trivial⟩, rfl⟩ rfl rfl (JS.endL (n80, (W (x14 + 1)), x48, a49, c50) h (Nat.lt_succ_self _) (Es rfl) (Bs rfl rfl) [0] rfl [0] rfl)
      have h := condF h ht113
      refine JS.exit rfl (JS.endJ (x25, a26, c27) h (Es rfl) (Bs rfl rfl) [] rfl [0] rfl)
    rintro ⟨x90, a91, c92⟩ h
    subst hj114
    refine JS.rgB ttOk 2 [] [] [] (.new 3 25 (cl25 (y10.1, y10.2.1, x90, y10.2.2.2.1, y10.2.2.2.2.1, y10.2.2.2.2.2) a91 c92) .nil) ⟨trivial, (Bs rfl rfl)⟩ rfl rfl ?_
    cases h
    exact JS.ret ttOk (a91, c92) trivial rfl rfl [0] rfl

def M_s_GridPut (x0 : Int × Int × List Int × Int × Int × Bool) (x1 : Int) : Option (Int × Int × List Int × Int × Int × Bool) :=
  (bindO (M_s_GridOk x0) fun (y7 : Bool) =>
  (bif (!y7) then
  some (0, 0, [], 0, 0, false)
  else
  (bindO (M_s_Width x1) fun (y9 : Int) =>
  (bindO (M_s_l08Copy x0) fun (y11 : Int × Int × List Int × Int × Int × Bool) =>
  (bif (decide (y9 = 0)) then
  some y11
  else
  (joinO (fun ((x38, x39, x40, x43, x44, x45) : Int × Int × List Int × Int × Int × Bool) =>
  (bindO (M_s_GridClear (x38, x39, x40, x43, x44, x45) (W ((W (x44 * x0.1)) + x43)) (W ((W ((W (x44 * x0.1)) + x43)) + y9))) fun (y52 : Int × Int × List Int × Int × Int × Bool) =>
  (guardO (0 ≤ (W ((W (x44 * x0.1)) + x43)) ∧ (W ((W (x44 * x0.1)) + x43)) < (y52.2.2.1.length : Int)) <|
  (joinO (fun (x60 : List Int) =>
  (joinO (fun ((x66, x67) : Int × Bool) =>
  some (y52.1, y52.2.1, x60, x66, y52.2.2.2.2.1, x67)) fun j68 =>
  (bif (decide (x0.1 ≤ (W (y52.2.2.2.1 + y9)))) then
  j68 ((W (x0.1 - 1)), true)
  else
  j68 ((W (y52.2.2.2.1 + y9)), y52.2.2.2.2.2)))) fun j63 =>
  (bif (decide (y9 = 2)) then
  (guardO (0 ≤ (W ((W ((W (x44 * x0.1)) + x43)) + 1)) ∧ (W ((W ((W (x44 * x0.1)) + x43)) + 1)) < (y52.2.2.1.length : Int)) <|
  j63 (List.set (List.set y52.2.2.1 (Int.toNat (W ((W (x44 * x0.1)) + x43))) x1) (Int.toNat (W ((W ((W (x44 * x0.1)) + x43)) + 1))) (-1)))
  else
  j63 (List.set y52.2.2.1 (Int.toNat (W ((W (x44 * x0.1)) + x43))) x1)))))) fun j46 =>
  (bif (bif x0.2.2.2.2.2 then true else (bif (decide (y9 = 2)) then (decide (x0.2.2.2.1 = (W (x0.1 - 1)))) else false)) then
  (joinO (fun ((x22, x23, x24, x27, x28, x29) : Int × Int × List Int × Int × Int × Bool) =>
  (bindO (M_s_GridGo (x22, x23, x24, x27, x28, x29) 0 (W (x0.2.2.2.2.1 + 1))) fun (y32 : Int × Int × List Int × Int × Int × Bool) =>
  j46 (y32.1, y32.2.1, y32.2.2.1, y32.2.2.2.1, y32.2.2.2.2.1, y32.2.2.2.2.2))) fun j30 =>
  (bif (decide (x0.2.2.2.2.1 = (W (x0.2.1 - 1)))) then
  (bindO (M_s_GridScroll y11) fun (y17 : Int × Int × List Int × Int × Int × Bool) =>
  j30 (y17.1, y17.2.1, y17.2.2.1, y17.2.2.2.1, y17.2.2.2.2.1, y17.2.2.2.2.2))
  else
  j30 (y11.1, y11.2.1, y11.2.2.1, y11.2.2.2.1, y11.2.2.2.2.1, y11.2.2.2.2.2)))
  else
  j46 (y11.1, y11.2.1, y11.2.2.1, y11.2.2.2.1, y11.2.2.2.2.1, y11.2.2.2.2.2))))))))

theorem ok_s_GridPut (x0 : Int × Int × List Int × Int × Int × Bool) (x1 : Int) (a3 : Option Addr) (c4 : Nat) (l5 : Nat) (hl6 : x0.2.2.1.length = l5) (r : Int × Int × List Int × Int × Int × Bool) (h : M_s_GridPut x0 x1 = some r) :
    FC Tryd.prog 29 [.agg #[.int .i64 x0.1, .int .i64 x0.2.1, .slice a3 l5 c4, .int .i64 x0.2.2.2.1, .int .i64 x0.2.2.2.2.1, .bool x0.2.2.2.2.2], .int .i64 x1] [⟨(.int .i64), ⟨a3, l5, c4⟩, x0.2.2.1⟩] (fun _ : Option Addr × Nat => True) (fun q => .agg (cl25 r q.1 q.2).toArray) (fun q => [⟨(.int .i64), ⟨q.1, r.2.2.1.length, q.2⟩, r.2.2.1⟩]) :=
  by
    subst hl6
    refine FC.of (T := TTx) Tryd.call29 Tryd.func29 rfl rfl fun w0 => ?_
    unfold M_s_GridPut at h
    refine JS.rgB ttOk 2 [] [2, 3] [(2, .bp 2 0), (4, .bp 3 0)] (.new 2 25 (cl25 x0 a3 c4) (.new 3 25 (cl25 (0, 0, [], 0, 0, false) none 0) .nil)) ⟨(Es rfl), (Bs rfl rfl)⟩ rfl rfl (JS.seq (JS.seq (JS.region (JO.reg ttOk 1 [] [] [(8, .v (.agg (cl25 x0 a3 c4).toArray))] _ rfl ⟨⟨rfl, trivial⟩, rfl⟩ ?_))))
    obtain ⟨y7, hy8, h⟩ := bindO_some h
    refine JO.call rfl rfl rfl rfl (ok_s_GridOk x0 a3 c4 x0.2.2.1.length rfl _ hy8) rfl [0] rfl rfl fun _ _ => JO.reg ttOk 1 [] [] [(10, .v (.bool (!y7)))] _ rfl ⟨⟨rfl, trivial⟩, rfl⟩ (JO.done rfl ?_)
    refine JS.cond rfl (fun ht87 => ?_) (fun ht87 => ?_)
    · have h := condT h ht87
      refine JS.rgB ttOk 2 [] [] [] (.new 3 25 (cl25 (0, 0, [], 0, 0, false) none 0) .nil) ⟨trivial, (Bs rfl rfl)⟩ rfl rfl ?_
      cases h
      refine JS.nilO (.int .i64) Sl.nil rfl rfl (JS.ret ttOk (none, 0) trivial rfl rfl [0] rfl)
    have h := condF h ht87
    refine JS.skip (JS.seq (JS.region (JO.reg ttOk 1 [] [] [(12, .v (.int .i64 x1))] _ rfl ⟨⟨rfl, trivial⟩, rfl⟩ ?_)))
    obtain ⟨y9, hy10, h⟩ := bindO_some h
    refine JO.call rfl rfl rfl rfl (ok_s_Width x1 _ hy10) rfl [] rfl rfl fun _ _ => JO.reg ttOk 1 [] [] [(5, .v (.int .i64 y9))] _ rfl ⟨⟨rfl, trivial⟩, rfl⟩ (JO.done rfl (JS.seq (JS.region (JO.reg ttOk 1 [] [] [(14, .v (.agg (cl25 x0 a3 c4).toArray))] _ rfl ⟨⟨rfl, trivial⟩, rfl⟩ ?_))))
    obtain ⟨y11, hy12, h⟩ := bindO_some h
    refine JO.call rfl rfl rfl rfl (ok_s_l08Copy x0 a3 c4 x0.2.2.1.length rfl _ hy12) rfl [0] rfl rfl ?_
    rintro ⟨a13, c14⟩ -
    refine JO.regB ttOk 2 [] [13] [(6, .bp 13 0)] (.new 2 25 (cl25 x0 a3 c4) (.new 3 25 (cl25 (0, 0, [], 0, 0, false) none 0) (.new 13 25 (cl25 y11 a13 c14) .nil))) rfl ⟨⟨rfl, trivial⟩, (Bs rfl rfl)⟩ (JO.done rfl (JS.seq (JS.rg0 ttOk 2 [(17, .v (.bool (decide (y9 = 0))))] ⟨⟨rfl, trivial⟩, rfl⟩ rfl rfl ?_)))
    refine JS.cond rfl (fun ht86 => ?_) (fun ht86 => ?_)
    · have h := condT h ht86
      refine JS.rgB ttOk 2 [] [] [] (.new 3 25 (cl25 y11 a13 c14) .nil) ⟨trivial, (Bs rfl rfl)⟩ rfl rfl ?_
      cases h
      exact JS.ret ttOk (a13, c14) trivial rfl rfl [0] rfl
    have h := condF h ht86
    refine JS.skip ?_
    obtain ⟨j46, hj85, h⟩ := joinO_some h
    refine JS.seqJ (ι := Int × Int × List Int × Int × Int × Bool × Option Addr × Nat) ⟨fun z => j46 (z.1, z.2.1, z.2.2.1, z.2.2.2.1, z.2.2.2.2.1, z.2.2.2.2.2.1) = some r, fun z => [(1, .v (.int .i64 x1)), (2, .bp 2 0), (4, .bp 3 0), (5, .v (.int .i64 y9)), (6, .bp 13 0)], fun z => (.new 2 25 (cl25 x0 a3 c4) (.new 3 25 (cl25 (0, 0, [], 0, 0, false) none 0) (.new 13 25 (cl25 (z.1, z.2.1, z.2.2.1, z.2.2.2.1, z.2.2.2.2.1, z.2.2.2.2.2.1) z.2.2.2.2.2.2.1 z.2.2.2.2.2.2.2) .nil))), fun z => [⟨(.int .i64), ⟨a3, x0.2.2.1.length, c4⟩, x0.2.2.1⟩], fun z => [⟨(.int .i64), ⟨z.2.2.2.2.2.2.1, z.2.2.1.length, z.2.2.2.2.2.2.2⟩, z.2.2.1⟩], fun z => 0⟩ ?_ ?_
    · refine JS.rg ttOk 14 [(W (x0.1 - 1))] [] [(32, .v (.bool (bif x0.2.2.2.2.2 then true else (bif (decide (y9 = 2)) then (decide (x0.2.2.2.1 = (W (x0.1 - 1)))) else false))))] _ ⟨(fun q75 q76 => ⟨trivial, rfl⟩), ⟨rfl, trivial⟩, rfl⟩ rfl rfl ?_
      refine JS.cond rfl (fun ht79 => ?_) (fun ht79 => ?_)
      · have h := condT h ht79
        obtain ⟨j30, hj78, h⟩ := joinO_some h
        refine JS.seqJ (ι := Int × Int × List Int × Int × Int × Bool × Option Addr × Nat) ⟨fun z => j30 (z.1, z.2.1, z.2.2.1, z.2.2.2.1, z.2.2.2.2.1, z.2.2.2.2.2.1) = some r, fun z => [(1, .v (.int .i64 x1)), (2, .bp 2 0), (4, .bp 3 0), (5, .v (.int .i64 y9)), (6, .bp 13 0)], fun z => (.new 2 25 (cl25 x0 a3 c4) (.new 3 25 (cl25 (0, 0, [], 0, 0, false) none 0) (.new 13 25 (cl25 (z.1, z.2.1, z.2.2.1, z.2.2.2.1, z.2.2.2.2.1, z.2.2.2.2.2.1) z.2.2.2.2.2.2.1 z.2.2.2.2.2.2.2) .nil))), fun z => [⟨(.int .i64), ⟨a3, x0.2.2.1.length, c4⟩, x0.2.2.1⟩], fun z => [⟨(.int .i64), ⟨z.2.2.2.2.2.2.1, z.2.2.1.length, z.2.2.2.2.2.2.2⟩, z.2.2.1⟩], fun z => 0⟩ ?_ ?_
        · refine JS.rg ttOk 6 [(W (x0.2.1 - 1))] [] [(38, .v (.bool (decide (x0.2.2.2.2.1 = (W (x0.2.1 - 1))))))] _ ⟨⟨trivial, rfl⟩, ⟨rfl, trivial⟩, rfl⟩ rfl rfl ?_
          refine JS.cond rfl (fun ht77 => ?_) (fun ht77 => ?_)
          · have h := condT h ht77
            refine JS.region (JO.reg ttOk 1 [] [] [(39, .v (.agg (cl25 y11 a13 c14).toArray))] _ rfl ⟨⟨rfl, trivial⟩, rfl⟩ ?_)
            obtain ⟨y17, hy18, h⟩ := bindO_some h
            refine JO.call rfl rfl rfl rfl (ok_s_GridScroll y11 a13 c14 y11.2.2.1.length rfl _ hy18) rfl [1] rfl rfl ?_
            rintro ⟨a19, c20⟩ -
            refine JO.regB ttOk 1 [] [] [] (.new 2 25 (cl25 x0 a3 c4) (.new 3 25 (cl25 (0, 0, [], 0, 0, false) none 0) (.new 13 25 (cl25 y17 a19 c20) .nil))) rfl ⟨trivial, (Bs rfl rfl)⟩ (JO.done rfl (JS.endJ (y17.1, y17.2.1, y17.2.2.1, y17.2.2.2.1, y17.2.2.2.2.1, y17.2.2.2.2.2, a19, c20) h (Es rfl) (Bs rfl rfl) [0] rfl [0] rfl))
          have h := condF h ht77
          refine JS.skip (JS.endJ (y11.1, y11.2.1, y11.2.2.1, y11.2.2.2.1, y11.2.2.2.2.1, y11.2.2.2.2.2, a13, c14) h (Es rfl) (Bs rfl rfl) [0] rfl [0] rfl)
        rintro ⟨x22, x23, x24, x27, x28, x29, a25, c26⟩ h
        subst hj78
        refine JS.region (JO.reg ttOk 4 [(W (x0.2.2.2.2.1 + 1))] [] [(41, .v (.agg (cl25 (x22, x23, x24, x27, x28, x29) a25 c26).toArray)), (44, .v (.int .i64 (W (x0.2.2.2.2.1 + 1))))] _ rfl ⟨⟨trivial, rfl⟩, (Es rfl), rfl⟩ ?_)
        obtain ⟨y32, hy33, h⟩ := bindO_some h
        refine JO.call rfl rfl rfl rfl (ok_s_GridGo (x22, x23, x24, x27, x28, x29) 0 (W (x0.2.2.2.2.1 + 1)) a25 c26 x24.length rfl _ hy33) rfl [1] rfl rfl ?_
        rintro ⟨a34, c35⟩ -
        refine JO.regB ttOk 1 [] [] [] (.new 2 25 (cl25 x0 a3 c4) (.new 3 25 (cl25 (0, 0, [], 0, 0, false) none 0) (.new 13 25 (cl25 y32 a34 c35) .nil))) rfl ⟨trivial, (Bs rfl rfl)⟩ (JO.done rfl (JS.endJ (y32.1, y32.2.1, y32.2.2.1, y32.2.2.2.1, y32.2.2.2.2.1, y32.2.2.2.2.2, a34, c35) h (Es rfl) (Bs rfl rfl) [0] rfl [0] rfl))
      have h := condF h ht79
      refine JS.skip (JS.endJ (y11.1, y11.2.1, y11.2.2.1, y11.2.2.2.1, y11.2.2.2.2.1, y11.2.2.2.2.2, a13, c14) h (Es rfl) (Bs rfl rfl) [0] rfl [0] rfl)
    rintro ⟨x38, x39, x40, x43, x44, x45, a41, c42⟩ h
    subst hj85
    refine JS.rg ttOk 9 [(W (x44 * x0.1)), (W ((W (x44 * x0.1)) + x43))] [] [(7, .v (.int .i64 (W ((W (x44 * x0.1)) + x43))))] _ ⟨⟨trivial, rfl⟩, ⟨trivial, rfl⟩, ⟨rfl, trivial⟩, rfl⟩ rfl rfl (JS.seq (JS.region (JO.reg ttOk 5 [(W ((W ((W (x44 * x0.1)) + x43)) + y9))] [] [(54, .v (.agg (cl25 (x38, x39, x40, x43, x44, x45) a41 c42).toArray)), (55, .v (.int .i64 (W ((W (x44 * x0.1)) + x43)))), (58, .v (.int .i64 (W ((W ((W (x44 * x0.1)) + x43)) + y9))))] _ rfl ⟨⟨trivial, rfl⟩, (Es rfl), rfl⟩ ?_)))
    obtain ⟨y52, hy53, h⟩ := bindO_some h
    refine JO.call rfl rfl rfl rfl (ok_s_GridClear (x38, x39, x40, x43, x44, x45) (W ((W (x44 * x0.1)) + x43)) (W ((W ((W (x44 * x0.1)) + x43)) + y9)) a41 c42 x40.length rfl _ hy53) rfl [1] rfl rfl ?_
    rintro ⟨a54, c55⟩ -
    refine JO.regB ttOk 1 [] [] [] (.new 2 25 (cl25 x0 a3 c4) (.new 3 25 (cl25 (0, 0, [], 0, 0, false) none 0) (.new 13 25 (cl25 y52 a54 c55) .nil))) rfl ⟨trivial, (Bs rfl rfl)⟩ (JO.done rfl (JS.seq (JS.region (JO.know 1 rfl fun hs80 => ?_))))
    obtain ⟨g57, h⟩ := guardO_some h
    refine JO.reg ttOk 5 [] [] [(63, .v (.int .i64 x1)), (64, .ep ⟨a54, y52.2.2.1.length, c55⟩ (Int.toNat (W ((W (x44 * x0.1)) + x43)) * 1))] _ rfl ⟨hs80.ix g57, (Es rfl), rfl⟩ (JO.storeE ttOk rfl rfl rfl rfl rfl rfl rfl rfl rfl [0] (fs := []) rfl (Int.toNat (W ((W (x44 * x0.1)) + x43))) 0 (at' y52.2.2.1 (W ((W (x44 * x0.1)) + x43))) x1 ⟨at_some g57, rfl⟩ ⟨rfl, rfl, rfl⟩ (JO.done rfl ?_))
    obtain ⟨j63, hj84, h⟩ := joinO_some h
    refine JS.seqJ (ι := List Int × Option Addr × Nat) ⟨fun z => j63 z.1 = some r, fun z => [(2, .bp 2 0), (4, .bp 3 0), (5, .v (.int .i64 y9)), (6, .bp 13 0)], fun z => (.new 2 25 (cl25 x0 a3 c4) (.new 3 25 (cl25 (0, 0, [], 0, 0, false) none 0) (.new 13 25 (cl25 (y52.1, y52.2.1, z.1, y52.2.2.2.1, y52.2.2.2.2.1, y52.2.2.2.2.2) z.2.1 z.2.2) .nil))), fun z => [⟨(.int .i64), ⟨a3, x0.2.2.1.length, c4⟩, x0.2.2.1⟩], fun z => [⟨(.int .i64), ⟨z.2.1, z.1.length, z.2.2⟩, z.1⟩], fun z => 0⟩ ?_ ?_
    · refine JS.rg0 ttOk 2 [(66, .v (.bool (decide (y9 = 2))))] ⟨⟨rfl, trivial⟩, rfl⟩ rfl rfl ?_
      refine JS.cond rfl (fun ht81 => ?_) (fun ht81 => ?_)
      · have h := condT h ht81
        refine JS.region ?_
        obtain ⟨g58, h⟩ := guardO_some h
        refine JO.reg ttOk 5 [(W ((W ((W (x44 * x0.1)) + x43)) + 1))] [] [(71, .ep ⟨a54, y52.2.2.1.length, c55⟩ (Int.toNat (W ((W ((W (x44 * x0.1)) + x43)) + 1)) * 1))] _ rfl ⟨⟨trivial, rfl⟩, hs80.ix g58, ⟨rfl, trivial⟩, rfl⟩ (JO.storeE ttOk rfl rfl rfl rfl rfl rfl rfl rfl rfl [0] (fs := []) rfl (Int.toNat (W ((W ((W (x44 * x0.1)) + x43)) + 1))) 0 (at' (List.set y52.2.2.1 (Int.toNat (W ((W (x44 * x0.1)) + x43))) x1) (W ((W ((W (x44 * x0.1)) + x43)) + 1))) (-1) ⟨at_someL (List.length_set.trans rfl) g58, rfl⟩ ⟨rfl, rfl, rfl⟩ (JO.done rfl (JS.endJ ((List.set (List.set y52.2.2.1 (Int.toNat (W ((W (x44 * x0.1)) + x43))) x1) (Int.toNat (W ((W ((W (x44 * x0.1)) + x43)) + 1))) (-1)), a54, c55) h (Es rfl) ⟨rfl, rfl, rfl, rfl, rfl, rfl, rfl, rfl, rfl, (congrArg (fun n => ([.int .i64 y52.1, .int .i64 y52.2.1, .slice a54 n c55, .int .i64 y52.2.2.2.1, .int .i64 y52.2.2.2.2.1, .bool y52.2.2.2.2.2] : List Value)) (List.length_set.trans (List.length_set.trans rfl))), rfl, rfl, trivial⟩ [0] rfl [0] (by simp only [List.length_set, List.length_replicate, pickO, getF, cl25, cl31]; rfl))))
      have h := condF h ht81
      refine JS.skip (JS.endJ ((List.set y52.2.2.1 (Int.toNat (W ((W (x44 * x0.1)) + x43))) x1), a54, c55) h (Es rfl) ⟨rfl, rfl, rfl, rfl, rfl, rfl, rfl, rfl, rfl, (congrArg (fun n => ([.int .i64 y52.1, .int .i64 y52.2.1, .slice a54 n c55, .int .i64 y52.2.2.2.1, .int .i64 y52.2.2.2.2.1, .bool y52.2.2.2.2.2] : List Value)) (List.length_set.trans rfl)), rfl, rfl, trivial⟩ [0] rfl [0] (by simp only [List.length_set, List.length_replicate, pickO, getF, cl25, cl31]; rfl))
    rintro ⟨x60, a61, c62⟩ h
    subst hj84
    obtain ⟨j68, hj83, h⟩ := joinO_some h
    refine JS.seqJ (ι := Int × Bool) ⟨fun z => j68 (z.1, z.2) = some r, fun z => [(4, .bp 3 0), (6, .bp 13 0)], fun z => (.new 3 25 (cl25 (0, 0, [], 0, 0, false) none 0) (.new 13 25 (cl25 (y52.1, y52.2.1, x60, z.1, y52.2.2.2.2.1, z.2) a61 c62) .nil)), fun z => [], fun z => [⟨(.int .i64), ⟨a61, x60.length, c62⟩, x60⟩], fun z => 0⟩ ?_ ?_
    · refine JS.rg ttOk 7 [(W (y52.2.2.2.1 + y9))] [] [(78, .v (.bool (decide (x0.1 ≤ (W (y52.2.2.2.1 + y9))))))] _ ⟨⟨trivial, rfl⟩, ⟨rfl, trivial⟩, rfl⟩ rfl rfl ?_
      refine JS.cond rfl (fun ht82 => ?_) (fun ht82 => ?_)
      · have h := condT h ht82
        refine JS.rgB ttOk 5 [(W (x0.1 - 1))] [] [] (.new 3 25 (cl25 (0, 0, [], 0, 0, false) none 0) (.new 13 25 (cl25 (y52.1, y52.2.1, x60, (W (x0.1 - 1)), y52.2.2.2.2.1, y52.2.2.2.2.2) a61 c62) .nil)) ⟨⟨trivial, rfl⟩, trivial, (Bs rfl rfl)⟩ rfl rfl (JS.reB ttOk 2 [] [] [] (.new 3 25 (cl25 (0, 0, [], 0, 0, false) none 0) (.new 13 25 (cl25 (y52.1, y52.2.1, x60, (W (x0.1 - 1)), y52.2.2.2.2.1, true) a61 c62) .nil)) ⟨trivial, (Bs rfl rfl)⟩ rfl rfl (JS.endJ ((W (x0.1 - 1)), true) h (Es rfl) (Bs rfl rfl) [] rfl [0] rfl))
      have h := condF h ht82
      refine JS.reB ttOk 6 [(W (y52.2.2.2.1 + y9))] [] [] (.new 3 25 (cl25 (0, 0, [], 0, 0, false) none 0) (.new 13 25 (cl25 (y52.1, y52.2.1, x60, (W (y52.2.2.2.1 + y9)), y52.2.2.2.2.1, y52.2.2.2.2.2) a61 c62) .nil)) ⟨⟨trivial, rfl⟩, trivial, (Bs rfl rfl)⟩ rfl rfl (JS.endJ ((W (y52.2.2.2.1 + y9)), y52.2.2.2.2.2) h (Es rfl) (Bs rfl rfl) [] rfl [0] rfl)
    rintro ⟨x66, x67⟩ h
    subst hj83
    refine JS.rgB ttOk 2 [] [] [] (.new 3 25 (cl25 (y52.1, y52.2.1, x60, x66, y52.2.2.2.2.1, x67) a61 c62) .nil) ⟨trivial, (Bs rfl rfl)⟩ rfl rfl ?_
    cases h
    exact JS.ret ttOk (a61, c62) trivial rfl rfl [0] rfl

def M_s_l08Fill_L1 (x0 : List UInt8 × Int × Int) (j96 : (Int × Int × List Int × Int × Int × Bool × Int × Int) → Option ((Int × Int × List Int × Int × Int × Bool) × List UInt8 × Int × Int)) (k81 : (Int × Int × Int × List Int × Int × Int × Bool × Int × Int) → Option ((Int × Int × List Int × Int × Int × Bool) × List UInt8 × Int × Int)) : (Int × Int × Int × List Int × Int × Int × Bool × Int × Int) → Option ((Int × Int × List Int × Int × Int × Bool) × List UInt8 × Int × Int) := fun (x17, x18, x19, x74, x20, x21, x22, x34, x35) =>
  (bif (decide (0 < x17)) then
  (joinO (fun ((x60, x61, x62, x65, x66, x67, x68, x69) : Int × Int × List Int × Int × Int × Bool × Int × Int) =>
  k81 ((W (x17 - 1)), x60, x61, x62, x65, x66, x67, x68, x69)) fun j70 =>
  (bindO (M_s_l02Rune (x0.1, x34, x35)) fun (y37, y38) =>
  (bindO (M_s_GridPut (x18, x19, x74, x20, x21, x22) y37) fun (y40 : Int × Int × List Int × Int × Int × Bool) =>
  (bindO (M_s_l01Below (x0.1, y38.2.1, y38.2.2) 5) fun (y45, y46) =>
  (bif (decide (y45 = 0)) then
  (bindO (M_s_l01Below (x0.1, y46.2.1, y46.2.2) y40.1) fun (y48, y49) =>
  (bindO (M_s_l01Below (x0.1, y49.2.1, y49.2.2) y40.2.1) fun (y51, y52) =>
  (bindO (M_s_GridGo y40 y48 y51) fun (y54 : Int × Int × List Int × Int × Int × Bool) =>
  j70 (y54.1, y54.2.1, y54.2.2.1, y54.2.2.2.1, y54.2.2.2.2.1, y54.2.2.2.2.2, y52.2.1, y52.2.2))))
  else
  j70 (y40.1, y40.2.1, y40.2.2.1, y40.2.2.2.1, y40.2.2.2.2.1, y40.2.2.2.2.2, y46.2.1, y46.2.2))))))
  else
  j96 (x18, x19, x74, x20, x21, x22, x34, x35))

def M_s_l08Fill (x0 : List UInt8 × Int × Int) (x1 : Int × Int × List Int × Int × Int × Bool) (x2 : Int) : Option ((Int × Int × List Int × Int × Int × Bool) × List UInt8 × Int × Int) :=
  (bindO (M_s_l01Below x0 (W (x2 + 1))) fun (y13, y14) =>
  (joinO (fun ((x86, x87, x88, x91, x92, x93, x94, x95) : Int × Int × List Int × Int × Int × Bool × Int × Int) =>
  some ((x86, x87, x88, x91, x92, x93), (x0.1, x94, x95))) fun j96 =>
  (fixF (M_s_l08Fill_L1 x0 j96) FUEL (y13, x1.1, x1.2.1, x1.2.2.1, x1.2.2.2.1, x1.2.2.2.2.1, x1.2.2.2.2.2, y14.2.1, y14.2.2))))

theorem ok_s_l08Fill (x0 : List UInt8 × Int × Int) (x1 : Int × Int × List Int × Int × Int × Bool) (x2 : Int) (a4 : Option Addr) (a5 : Option Addr) (c6 : Nat) (l7 : Nat) (hl8 : x0.1.length = l7) (a9 : Option Addr) (c10 : Nat) (l11 : Nat) (hl12 : x1.2.2.1.length = l11) (r : (Int × Int × List Int × Int × Int × Bool) × List UInt8 × Int × Int) (h : M_s_l08Fill x0 x1 x2 = some r) :
    FX Tryd.prog 15 [.pointer a4, .agg #[.int .i64 x1.1, .int .i64 x1.2.1, .slice a9 l11 c10, .int .i64 x1.2.2.2.1, .int .i64 x1.2.2.2.2.1, .bool x1.2.2.2.2.2], .int .i64 x2] [⟨.byte, ⟨a5, l7, c6⟩, x0.1⟩] [⟨(.pair .val (.pair (.int .i64) (.int .i64))), ⟨a4, 1, 1⟩, [((Sl.v ⟨a5, l7, c6⟩), x0.2.1, x0.2.2)]⟩, ⟨(.int .i64), ⟨a9, l11, c10⟩, x1.2.2.1⟩] (fun _ : Option Addr × Nat => True) (fun q => .agg (cl25 r.1 q.1 q.2).toArray) (fun q => [⟨(.pair .val (.pair (.int .i64) (.int .i64))), ⟨a4, 1, 1⟩, [((Sl.v ⟨a5, l7, c6⟩), r.2.2.1, r.2.2.2)]⟩, ⟨(.int .i64), ⟨q.1, r.1.2.2.1.length, q.2⟩, r.1.2.2.1⟩]) :=
  by
    subst hl8
    subst hl12
    refine FX.of (T := TTx) Tryd.call15 Tryd.func15 rfl rfl fun w0 L0 => ?_
    unfold M_s_l08Fill at h
    refine JS.ptr 0 a4 rfl ?_
    refine JS.rgB ttOk 2 [] [4, 5] [(4, .bp 4 0), (6, .bp 5 0)] (.new 4 25 (cl25 x1 a9 c10) (.new 5 25 (cl25 (0, 0, [], 0, 0, false) none 0) .nil)) ⟨(Es rfl), (Bs rfl rfl)⟩ rfl rfl (JS.seq (JS.seq (JS.region (JO.reg ttOk 3 [(W (x2 + 1))] [] [(8, .ep ⟨a4, 1, 1⟩ 0), (10, .v (.int .i64 (W (x2 + 1))))] _ rfl ⟨⟨trivial, rfl⟩, (Es rfl), rfl⟩ ?_))))
    obtain ⟨⟨y13, y14⟩, hy15, h⟩ := bindO_some h
    refine JO.callX rfl rfl rfl rfl (ok_s_l01Below x0 (W (x2 + 1)) a4 a5 c6 x0.1.length rfl _ hy15) rfl [0] rfl [0] rfl rfl fun _ _ => JO.reg ttOk 1 [] [] [(7, .v (.int .i64 y13))] _ rfl ⟨⟨rfl, trivial⟩, rfl⟩ (JO.done rfl ?_)
    obtain ⟨j96, hj104, h⟩ := joinO_some h
    refine JS.blockJ (ι := Int × Int × List Int × Int × Int × Bool × Int × Int × Option Addr × Nat) ⟨fun z => j96 (z.1, z.2.1, z.2.2.1, z.2.2.2.1, z.2.2.2.2.1, z.2.2.2.2.2.1, z.2.2.2.2.2.2.1, z.2.2.2.2.2.2.2.1) = some r, fun z => [(4, .bp 4 0), (6, .bp 5 0)], fun z => (.new 4 25 (cl25 (z.1, z.2.1, z.2.2.1, z.2.2.2.1, z.2.2.2.2.1, z.2.2.2.2.2.1) z.2.2.2.2.2.2.2.2.1 z.2.2.2.2.2.2.2.2.2) (.new 5 25 (cl25 (0, 0, [], 0, 0, false) none 0) .nil)), fun z => [⟨.byte, ⟨a5, x0.1.length, c6⟩, x0.1⟩], fun z => [⟨(.int .i64), ⟨z.2.2.2.2.2.2.2.2.1, z.2.2.1.length, z.2.2.2.2.2.2.2.2.2⟩, z.2.2.1⟩, ⟨(.pair .val (.pair (.int .i64) (.int .i64))), ⟨a4, 1, 1⟩, [((Sl.v ⟨a5, x0.1.length, c6⟩), z.2.2.2.2.2.2.1, z.2.2.2.2.2.2.2.1)]⟩], fun z => 0⟩ ?_ ?_
    · refine JS.loop (ι := Nat × Int × Int × Int × List Int × Int × Int × Bool × Int × Int × Option Addr × Nat) ⟨fun z => fixF (M_s_l08Fill_L1 x0 j96) z.1 (z.2.1, z.2.2.1, z.2.2.2.1, z.2.2.2.2.1, z.2.2.2.2.2.1, z.2.2.2.2.2.2.1, z.2.2.2.2.2.2.2.1, z.2.2.2.2.2.2.2.2.1, z.2.2.2.2.2.2.2.2.2.1) = some r, fun z => [(0, .ep ⟨a4, 1, 1⟩ 0), (4, .bp 4 0), (6, .bp 5 0), (7, .v (.int .i64 z.2.1))], fun z => (.new 4 25 (cl25 (z.2.2.1, z.2.2.2.1, z.2.2.2.2.1, z.2.2.2.2.2.1, z.2.2.2.2.2.2.1, z.2.2.2.2.2.2.2.1) z.2.2.2.2.2.2.2.2.2.2.1 z.2.2.2.2.2.2.2.2.2.2.2) (.new 5 25 (cl25 (0, 0, [], 0, 0, false) none 0) .nil)), fun z => [⟨.byte, ⟨a5, x0.1.length, c6⟩, x0.1⟩], fun z => [⟨(.int .i64), ⟨z.2.2.2.2.2.2.2.2.2.2.1, z.2.2.2.2.1.length, z.2.2.2.2.2.2.2.2.2.2.2⟩, z.2.2.2.2.1⟩, ⟨(.pair .val (.pair (.int .i64) (.int .i64))), ⟨a4, 1, 1⟩, [((Sl.v ⟨a5, x0.1.length, c6⟩), z.2.2.2.2.2.2.2.2.1, z.2.2.2.2.2.2.2.2.2.1)]⟩], fun z => z.1⟩ (FUEL, y13, x1.1, x1.2.1, x1.2.2.1, x1.2.2.2.1, x1.2.2.2.2.1, x1.2.2.2.2.2, y14.2.1, y14.2.2, a9, c10) h (Es rfl) (Bs rfl rfl) [0] rfl [1, 0] rfl ?_
      rintro ⟨n82, x17, x18, x19, x74, x20, x21, x22, x34, x35, a75, c76⟩ h
      obtain ⟨n82, rfl, h⟩ := fixF_some h
      rw [M_s_l08Fill_L1] at h
      refine JS.seq (JS.rg0 ttOk 2 [(13, .v (.bool (decide (0 < x17))))] ⟨⟨rfl, trivial⟩, rfl⟩ rfl rfl ?_)
      refine JS.cond rfl (fun ht103 => ?_) (fun ht103 => ?_)
      · have h := condT h ht103
        refine JS.skip (JS.seq ?_)
        obtain ⟨j70, hj102, h⟩ := joinO_some h
        refine JS.blockJ (ι := Int × Int × List Int × Int × Int × Bool × Int × Int × Option Addr × Nat) ⟨fun z => j70 (z.1, z.2.1, z.2.2.1, z.2.2.2.1, z.2.2.2.2.1, z.2.2.2.2.2.1, z.2.2.2.2.2.2.1, z.2.2.2.2.2.2.2.1) = some r, fun z => [(0, .ep ⟨a4, 1, 1⟩ 0), (4, .bp 4 0), (6, .bp 5 0), (7, .v (.int .i64 x17))], fun z => (.new 4 25 (cl25 (z.1, z.2.1, z.2.2.1, z.2.2.2.1, z.2.2.2.2.1, z.2.2.2.2.2.1) z.2.2.2.2.2.2.2.2.1 z.2.2.2.2.2.2.2.2.2) (.new 5 25 (cl25 (0, 0, [], 0, 0, false) none 0) .nil)), fun z => [⟨.byte, ⟨a5, x0.1.length, c6⟩, x0.1⟩], fun z => [⟨(.int .i64), ⟨z.2.2.2.2.2.2.2.2.1, z.2.2.1.length, z.2.2.2.2.2.2.2.2.2⟩, z.2.2.1⟩, ⟨(.pair .val (.pair (.int .i64) (.int .i64))), ⟨a4, 1, 1⟩, [((Sl.v ⟨a5, x0.1.length, c6⟩), z.2.2.2.2.2.2.1, z.2.2.2.2.2.2.2.1)]⟩], fun z => 0⟩ ?_ ?_
        · refine JS.seq ?_
          obtain ⟨⟨y37, y38⟩, hy39, h⟩ := bindO_some h
          obtain ⟨y40, hy41, h⟩ := bindO_some h
          refine JS.regionA rfl (.new 4 25 (cl25 (x18, x19, x74, x20, x21, x22) a75 c76) .nil) [] [3, 4] ⟨rfl, rfl, rfl, rfl, trivial⟩ rfl (fun be44 => ?_)
          refine JA.reg ttOk panic_cxX true 3 [0, 1] rfl (by kernel_rfl) [] [(16, .v (.agg (cl25 (x18, x19, x74, x20, x21, x22) a75 c76).toArray)), (17, .ep ⟨a4, 1, 1⟩ 0)] ⟨rfl, rfl, rfl, rfl, trivial⟩ [] rfl rfl (Es rfl) (JA.one 2 (by kernel_rfl) (JK.callX rfl rfl rfl rfl (ok_s_l02Rune (x0.1, x34, x35) a4 a5 c6 x0.1.length rfl _ hy39) rfl [1] rfl [0] rfl rfl fun _ _ => JA.next ⟨rfl, rfl, rfl, rfl, trivial⟩ [] rfl (JA.one 3 (by kernel_rfl) (JK.call rfl rfl rfl rfl (ok_s_GridPut (x18, x19, x74, x20, x21, x22) y37 a75 c76 x74.length rfl _ hy41) rfl [2] rfl rfl ?_))))
          rintro ⟨a42, c43⟩ -
          refine JA.nextL rfl (JA.one 4 (by kernel_rfl) (JK.stBox ttOk rfl rfl rfl rfl rfl rfl rfl rfl (JA.nextL rfl (JA.done (by kernel_rfl) (JS.boxes (B' := (.new 4 25 (cl25 y40 a42 c43) (.new 5 25 (cl25 (0, 0, [], 0, 0, false) none 0) .nil))) (Bs rfl rfl) (JS.seq (JS.region (JO.reg ttOk 1 [] [] [(20, .ep ⟨a4, 1, 1⟩ 0)] _ rfl ⟨⟨rfl, trivial⟩, rfl⟩ ?_))))))))
          obtain ⟨⟨y45, y46⟩, hy47, h⟩ := bindO_some h
          refine JO.callX rfl rfl rfl rfl (ok_s_l01Below (x0.1, y38.2.1, y38.2.2) 5 a4 a5 c6 x0.1.length rfl _ hy47) rfl [1] rfl [0] rfl rfl fun _ _ => JO.reg ttOk 1 [] [] [(22, .v (.bool (decide (y45 = 0))))] _ rfl ⟨⟨rfl, trivial⟩, rfl⟩ (JO.done rfl ?_)
          refine JS.cond rfl (fun ht101 => ?_) (fun ht101 => ?_)
          · have h := condT h ht101
            obtain ⟨⟨y48, y49⟩, hy50, h⟩ := bindO_some h
            obtain ⟨⟨y51, y52⟩, hy53, h⟩ := bindO_some h
            obtain ⟨y54, hy55, h⟩ := bindO_some h
            refine JS.regionA rfl (.new 4 25 (cl25 y40 a42 c43) .nil) [] [9, 10] ⟨rfl, rfl, rfl, rfl, trivial⟩ rfl (fun be58 => ?_)
            refine JA.reg ttOk panic_cxX true 4 [0, 1, 2, 3, 5, 6, 7] rfl (by kernel_rfl) [] [(23, .v (.agg (cl25 y40 a42 c43).toArray)), (24, .ep ⟨a4, 1, 1⟩ 0), (26, .v (.int .i64 y40.1)), (28, .ep ⟨a4, 1, 1⟩ 0), (30, .v (.int .i64 y40.2.1))] ⟨rfl, rfl, rfl, rfl, trivial⟩ [] rfl rfl (Es rfl) (JA.one 4 (by kernel_rfl) (JK.callX rfl rfl rfl rfl (ok_s_l01Below (x0.1, y46.2.1, y46.2.2) y40.1 a4 a5 c6 x0.1.length rfl _ hy50) rfl [0] rfl [0] rfl rfl fun _ _ => JA.next ⟨rfl, rfl, rfl, rfl, trivial⟩ [] rfl (JA.one 8 (by kernel_rfl) (JK.callX rfl rfl rfl rfl (ok_s_l01Below (x0.1, y49.2.1, y49.2.2) y40.2.1 a4 a5 c6 x0.1.length rfl _ hy53) rfl [0] rfl [0] rfl rfl fun _ _ => JA.next ⟨rfl, rfl, rfl, rfl, trivial⟩ [] rfl (JA.one 9 (by kernel_rfl) (JK.call rfl rfl rfl rfl (ok_s_GridGo y40 y48 y51 a42 c43 y40.2.2.1.length rfl _ hy55) rfl [2] rfl rfl ?_))))))
            rintro ⟨a56, c57⟩ -
            refine JA.nextL rfl (JA.one 10 (by kernel_rfl) (JK.stBox ttOk rfl rfl rfl rfl rfl rfl rfl rfl (JA.nextL rfl (JA.done (by kernel_rfl) (JS.boxes (B' := (.new 4 25 (cl25 y54 a56 c57) (.new 5 25 (cl25 (0, 0, [], 0, 0, false) none 0) .nil))) (Bs rfl rfl) (JS.endB (JS.endJ (y54.1, y54.2.1, y54.2.2.1, y54.2.2.2.1, y54.2.2.2.2.1, y54.2.2.2.2.2, y52.2.1, y52.2.2, a56, c57) h (Es rfl) (Bs rfl rfl) [0] rfl [0, 0] rfl)))))))
          have h := condF h ht101
          refine JS.skip (JS.endB (JS.endJ (y40.1, y40.2.1, y40.2.2.1, y40.2.2.2.1, y40.2.2.2.2.1, y40.2.2.2.2.2, y46.2.1, y46.2.2, a42, c43) h (Es rfl) (Bs rfl rfl) [0] rfl [1, 0] rfl))
        rintro ⟨x60, x61, x62, x65, x66, x67, x68, x69, a63, c64⟩ h
        subst hj102
        refine JS.re ttOk 3 [(W (x17 - 1))] [] [(7, .v (.int .i64 (W (x17 - 1))))] _ ⟨⟨trivial, rfl⟩, ⟨rfl, trivial⟩, rfl⟩ rfl rfl (JS.endL (n82, (W (x17 - 1)), x60, x61, x62, x65, x66, x67, x68, x69, a63, c64) h (Nat.lt_succ_self _) (Es rfl) (Bs rfl rfl) [0] rfl [0, 0] rfl)
      have h := condF h ht103
      refine JS.exit rfl (JS.endJ (x18, x19, x74, x20, x21, x22, x34, x35, a75, c76) h (Es rfl) (Bs rfl rfl) [0] rfl [0, 0] rfl)
    rintro ⟨x86, x87, x88, x91, x92, x93, x94, x95, a89, c90⟩ h
    subst hj104
    refine JS.rgB ttOk 2 [] [] [] (.new 5 25 (cl25 (x86, x87, x88, x91, x92, x93) a89 c90) .nil) ⟨trivial, (Bs rfl rfl)⟩ rfl rfl ?_
    cases h
    exact JS.retX ttOk (a89, c90) trivial rfl rfl [1, 0] rfl

def M_s_l08Draw (x0 : List UInt8 × Int × Int) : Option ((Int × Int × List Int × Int × Int × Bool) × List UInt8 × Int × Int) :=
  (bindO (M_s_l08Sized x0) fun (y7, y8) =>
  (bindO (M_s_l08Fill (x0.1, y8.2.1, y8.2.2) y7 24) fun (y12, y13) =>
  some (y12, (x0.1, y13.2.1, y13.2.2))))

theorem ok_s_l08Draw (x0 : List UInt8 × Int × Int) (a2 : Option Addr) (a3 : Option Addr) (c4 : Nat) (l5 : Nat) (hl6 : x0.1.length = l5) (r : (Int × Int × List Int × Int × Int × Bool) × List UInt8 × Int × Int) (h : M_s_l08Draw x0 = some r) :
    FX Tryd.prog 11 [.pointer a2] [⟨.byte, ⟨a3, l5, c4⟩, x0.1⟩] [⟨(.pair .val (.pair (.int .i64) (.int .i64))), ⟨a2, 1, 1⟩, [((Sl.v ⟨a3, l5, c4⟩), x0.2.1, x0.2.2)]⟩] (fun _ : Option Addr × Nat => True) (fun q => .agg (cl25 r.1 q.1 q.2).toArray) (fun q => [⟨(.pair .val (.pair (.int .i64) (.int .i64))), ⟨a2, 1, 1⟩, [((Sl.v ⟨a3, l5, c4⟩), r.2.2.1, r.2.2.2)]⟩, ⟨(.int .i64), ⟨q.1, r.1.2.2.1.length, q.2⟩, r.1.2.2.1⟩]) :=
  by
    subst hl6
    refine FX.of (T := TTx) Tryd.call11 Tryd.func11 rfl rfl fun w0 L0 => ?_
    unfold M_s_l08Draw at h
    refine JS.ptr 0 a2 rfl ?_
    refine JS.rgB ttOk 1 [] [3] [(2, .bp 3 0)] (.new 3 25 (cl25 (0, 0, [], 0, 0, false) none 0) .nil) ⟨⟨rfl, trivial⟩, (Bs rfl rfl)⟩ rfl rfl (JS.seq (JS.region (JO.reg ttOk 1 [] [] [(4, .ep ⟨a2, 1, 1⟩ 0)] _ rfl ⟨⟨rfl, trivial⟩, rfl⟩ ?_)))
    obtain ⟨⟨y7, y8⟩, hy9, h⟩ := bindO_some h
    refine JO.callX rfl rfl rfl rfl (ok_s_l08Sized x0 a2 a3 c4 x0.1.length rfl _ hy9) rfl [0] rfl [0] rfl rfl ?_
    rintro ⟨a10, c11⟩ -
    refine JO.regB ttOk 2 [] [10] [(3, .bp 10 0)] (.new 3 25 (cl25 (0, 0, [], 0, 0, false) none 0) (.new 10 25 (cl25 y7 a10 c11) .nil)) rfl ⟨⟨rfl, trivial⟩, (Bs rfl rfl)⟩ (JO.done rfl (JS.seq (JS.region (JO.reg ttOk 2 [] [] [(6, .ep ⟨a2, 1, 1⟩ 0), (7, .v (.agg (cl25 y7 a10 c11).toArray))] _ rfl ⟨(Es rfl), rfl⟩ ?_))))
    obtain ⟨⟨y12, y13⟩, hy14, h⟩ := bindO_some h
    refine JO.callX rfl rfl rfl rfl (ok_s_l08Fill (x0.1, y8.2.1, y8.2.2) y7 24 a2 a3 c4 x0.1.length rfl a10 c11 y7.2.2.1.length rfl _ hy14) rfl [0, 0] rfl [0] rfl rfl ?_
    rintro ⟨a15, c16⟩ -
    refine JO.regB ttOk 1 [] [] [] (.new 3 25 (cl25 y12 a15 c16) .nil) rfl ⟨trivial, (Bs rfl rfl)⟩ (JO.done rfl ?_)
    cases h
    exact JS.retX ttOk (a15, c16) trivial rfl rfl [0, 0] rfl

def M_s_MakeGrids (x0 : List UInt8) : Option ((Int × Int × List Int × Int × Int × Bool) × Int × Int × List Int × Int × Int × Bool) :=
  (bindO (M_s_l01New x0) fun (y6 : List UInt8 × Int × Int) =>
  (bindO (M_s_l08Draw (x0, y6.2.1, y6.2.2)) fun (y9, y10) =>
  (bindO (M_s_l08Copy y9) fun (y14 : Int × Int × List Int × Int × Int × Bool) =>
  (joinO (fun ((x27, x28, x29, x32, x33, x34, x35, x36) : Int × Int × List Int × Int × Int × Bool × Int × Int) =>
  (bindO (M_s_l08Fill (x0, x35, x36) (x27, x28, x29, x32, x33, x34) 12) fun (y39, y40) =>
  (bindO (M_s_l01Below (x0, y40.2.1, y40.2.2) y39.1) fun (y44, y45) =>
  (bindO (M_s_l01Below (x0, y45.2.1, y45.2.2) y39.2.1) fun (y47, y48) =>
  (bindO (M_s_GridGo y39 y44 y47) fun (y50 : Int × Int × List Int × Int × Int × Bool) =>
  some (y9, y50)))))) fun j37 =>
  (bindO (M_s_l01Below (x0, y10.2.1, y10.2.2) 3) fun (y18, y19) =>
  (bif (decide (y18 = 0)) then
  (bindO (M_s_GridNew y9.1 y9.2.1) fun (y21, y22) =>
  j37 (y21.1, y21.2.1, y21.2.2.1, y21.2.2.2.1, y21.2.2.2.2.1, y21.2.2.2.2.2, y19.2.1, y19.2.2))
  else
  j37 (y14.1, y14.2.1, y14.2.2.1, y14.2.2.2.1, y14.2.2.2.2.1, y14.2.2.2.2.2, y19.2.1, y19.2.2)))))))

theorem ok_s_MakeGrids (x0 : List UInt8) (a2 : Option Addr) (c3 : Nat) (l4 : Nat) (hl5 : x0.length = l4) (r : (Int × Int × List Int × Int × Int × Bool) × Int × Int × List Int × Int × Int × Bool) (h : M_s_MakeGrids x0 = some r) :
    FC Tryd.prog 4 [.slice a2 l4 c3] [⟨.byte, ⟨a2, l4, c3⟩, x0⟩] (fun _ : Option Addr × Nat × Option Addr × Nat => True) (fun q => .tuple #[.agg (cl25 r.1 q.1 q.2.1).toArray, .agg (cl25 r.2 q.2.2.1 q.2.2.2).toArray]) (fun q => [⟨(.int .i64), ⟨q.1, r.1.2.2.1.length, q.2.1⟩, r.1.2.2.1⟩, ⟨(.int .i64), ⟨q.2.2.1, r.2.2.2.1.length, q.2.2.2⟩, r.2.2.2.1⟩]) :=
  by
    subst hl5
    refine FC.of (T := TTx) Tryd.call4 Tryd.func4 rfl rfl fun w0 => ?_
    unfold M_s_MakeGrids at h
    refine JS.rgB ttOk 2 [] [2, 3] [(2, .bp 2 0), (3, .bp 3 0)] (.new 2 25 (cl25 (0, 0, [], 0, 0, false) none 0) (.new 3 25 (cl25 (0, 0, [], 0, 0, false) none 0) .nil)) ⟨(Es rfl), (Bs rfl rfl)⟩ rfl rfl (JS.seq (JS.region (JO.reg ttOk 1 [] [] [(7, .v (.slice a2 x0.length c3))] _ rfl ⟨⟨rfl, trivial⟩, rfl⟩ ?_)))
    obtain ⟨y6, hy7, h⟩ := bindO_some h
    refine JO.call rfl rfl rfl rfl (ok_s_l01New x0 a2 c3 x0.length rfl _ hy7) rfl [0] rfl rfl fun a8 _ => JO.ptr 8 a8 rfl (JO.reg ttOk 1 [] [] [(4, .ep ⟨a8, 1, 1⟩ 0)] _ rfl ⟨⟨rfl, trivial⟩, rfl⟩ (JO.done rfl (JS.seq (JS.region (JO.reg ttOk 1 [] [] [(9, .ep ⟨a8, 1, 1⟩ 0)] _ rfl ⟨⟨rfl, trivial⟩, rfl⟩ ?_)))))
    obtain ⟨⟨y9, y10⟩, hy11, h⟩ := bindO_some h
    refine JO.callX rfl rfl rfl rfl (ok_s_l08Draw (x0, y6.2.1, y6.2.2) a8 a2 c3 x0.length rfl _ hy11) rfl [0] rfl [0] rfl rfl ?_
    rintro ⟨a12, c13⟩ -
    refine JO.regB ttOk 2 [] [14] [(5, .bp 14 0)] (.new 2 25 (cl25 (0, 0, [], 0, 0, false) none 0) (.new 3 25 (cl25 (0, 0, [], 0, 0, false) none 0) (.new 14 25 (cl25 y9 a12 c13) .nil))) rfl ⟨⟨rfl, trivial⟩, (Bs rfl rfl)⟩ (JO.done rfl (JS.seq (JS.region (JO.reg ttOk 1 [] [] [(11, .v (.agg (cl25 y9 a12 c13).toArray))] _ rfl ⟨⟨rfl, trivial⟩, rfl⟩ ?_))))
    obtain ⟨y14, hy15, h⟩ := bindO_some h
    refine JO.call rfl rfl rfl rfl (ok_s_l08Copy y9 a12 c13 y9.2.2.1.length rfl _ hy15) rfl [2] rfl rfl ?_
    rintro ⟨a16, c17⟩ -
    refine JO.regB ttOk 2 [] [20] [(6, .bp 20 0)] (.new 2 25 (cl25 (0, 0, [], 0, 0, false) none 0) (.new 3 25 (cl25 (0, 0, [], 0, 0, false) none 0) (.new 14 25 (cl25 y9 a12 c13) (.new 20 25 (cl25 y14 a16 c17) .nil)))) rfl ⟨⟨rfl, trivial⟩, (Bs rfl rfl)⟩ (JO.done rfl ?_)
    obtain ⟨j37, hj57, h⟩ := joinO_some h
    refine JS.seqJ (ι := Int × Int × List Int × Int × Int × Bool × Int × Int × Option Addr × Nat) ⟨fun z => j37 (z.1, z.2.1, z.2.2.1, z.2.2.2.1, z.2.2.2.2.1, z.2.2.2.2.2.1, z.2.2.2.2.2.2.1, z.2.2.2.2.2.2.2.1) = some r, fun z => [(2, .bp 2 0), (3, .bp 3 0), (4, .ep ⟨a8, 1, 1⟩ 0), (5, .bp 14 0), (6, .bp 20 0)], fun z => (.new 2 25 (cl25 (0, 0, [], 0, 0, false) none 0) (.new 3 25 (cl25 (0, 0, [], 0, 0, false) none 0) (.new 14 25 (cl25 y9 a12 c13) (.new 20 25 (cl25 (z.1, z.2.1, z.2.2.1, z.2.2.2.1, z.2.2.2.2.1, z.2.2.2.2.2.1) z.2.2.2.2.2.2.2.2.1 z.2.2.2.2.2.2.2.2.2) .nil)))), fun z => [⟨.byte, ⟨a2, x0.length, c3⟩, x0⟩], fun z => [⟨(.int .i64), ⟨z.2.2.2.2.2.2.2.2.1, z.2.2.1.length, z.2.2.2.2.2.2.2.2.2⟩, z.2.2.1⟩, ⟨(.pair .val (.pair (.int .i64) (.int .i64))), ⟨a8, 1, 1⟩, [((Sl.v ⟨a2, x0.length, c3⟩), z.2.2.2.2.2.2.1, z.2.2.2.2.2.2.2.1)]⟩, ⟨(.int .i64), ⟨a12, y9.2.2.1.length, c13⟩, y9.2.2.1⟩], fun z => 0⟩ ?_ ?_
    · refine JS.seq (JS.region (JO.reg ttOk 1 [] [] [(13, .ep ⟨a8, 1, 1⟩ 0)] _ rfl ⟨⟨rfl, trivial⟩, rfl⟩ ?_))
      obtain ⟨⟨y18, y19⟩, hy20, h⟩ := bindO_some h
      refine JO.callX rfl rfl rfl rfl (ok_s_l01Below (x0, y10.2.1, y10.2.2) 3 a8 a2 c3 x0.length rfl _ hy20) rfl [1] rfl [0] rfl rfl fun _ _ => JO.reg ttOk 1 [] [] [(15, .v (.bool (decide (y18 = 0))))] _ rfl ⟨⟨rfl, trivial⟩, rfl⟩ (JO.done rfl ?_)
      refine JS.cond rfl (fun ht56 => ?_) (fun ht56 => ?_)
      · have h := condT h ht56
        refine JS.region (JO.reg ttOk 4 [] [] [(18, .v (.int .i64 y9.1)), (20, .v (.int .i64 y9.2.1))] _ rfl ⟨(Es rfl), rfl⟩ ?_)
        obtain ⟨⟨y21, y22⟩, hy23, h⟩ := bindO_some h
        refine JO.call rfl rfl rfl rfl (ok_s_GridNew y9.1 y9.2.1 _ hy23) rfl [] rfl rfl ?_
        rintro ⟨a24, c25⟩ -
        refine JO.regB ttOk 4 [] [] [] (.new 2 25 (cl25 (0, 0, [], 0, 0, false) none 0) (.new 3 25 (cl25 (0, 0, [], 0, 0, false) none 0) (.new 14 25 (cl25 y9 a12 c13) (.new 20 25 (cl25 y21 a24 c25) .nil)))) rfl ⟨trivial, (Bs rfl rfl)⟩ (JO.done rfl (JS.endJA (y21.1, y21.2.1, y21.2.2.1, y21.2.2.2.1, y21.2.2.2.2.1, y21.2.2.2.2.2, y19.2.1, y19.2.2, a24, c25) h (Es rfl) (Bs rfl rfl) [0] rfl [0, 1, 3] rfl rfl))
      have h := condF h ht56
      refine JS.skip (JS.endJA (y14.1, y14.2.1, y14.2.2.1, y14.2.2.2.1, y14.2.2.2.2.1, y14.2.2.2.2.2, y19.2.1, y19.2.2, a16, c17) h (Es rfl) (Bs rfl rfl) [0] rfl [1, 0, 2] rfl rfl)
    rintro ⟨x27, x28, x29, x32, x33, x34, x35, x36, a30, c31⟩ h
    subst hj57
    refine JS.seq (JS.region (JO.reg ttOk 2 [] [] [(24, .ep ⟨a8, 1, 1⟩ 0), (25, .v (.agg (cl25 (x27, x28, x29, x32, x33, x34) a30 c31).toArray))] _ rfl ⟨(Es rfl), rfl⟩ ?_))
    obtain ⟨⟨y39, y40⟩, hy41, h⟩ := bindO_some h
    refine JO.callX rfl rfl rfl rfl (ok_s_l08Fill (x0, x35, x36) (x27, x28, x29, x32, x33, x34) 12 a8 a2 c3 x0.length rfl a30 c31 x29.length rfl _ hy41) rfl [1, 0] rfl [0] rfl rfl ?_
    rintro ⟨a42, c43⟩ -
    refine JO.regB ttOk 1 [] [] [] (.new 2 25 (cl25 (0, 0, [], 0, 0, false) none 0) (.new 3 25 (cl25 (0, 0, [], 0, 0, false) none 0) (.new 14 25 (cl25 y9 a12 c13) (.new 20 25 (cl25 y39 a42 c43) .nil)))) rfl ⟨trivial, (Bs rfl rfl)⟩ (JO.done rfl (JS.seq ?_))
    obtain ⟨⟨y44, y45⟩, hy46, h⟩ := bindO_some h
    obtain ⟨⟨y47, y48⟩, hy49, h⟩ := bindO_some h
    obtain ⟨y50, hy51, h⟩ := bindO_some h
    refine JS.regionA rfl (.new 14 25 (cl25 y9 a12 c13) (.new 20 25 (cl25 y39 a42 c43) .nil)) [] [11, 12] ⟨rfl, rfl, rfl, rfl, rfl, rfl, rfl, rfl, trivial⟩ rfl (fun be54 => ?_)
    refine JA.reg ttOk panic_cx true 5 [0, 1, 2, 3, 4, 6, 7, 8] rfl (by kernel_rfl) [] [(27, .v (.agg (cl25 y9 a12 c13).toArray)), (28, .v (.agg (cl25 y39 a42 c43).toArray)), (29, .ep ⟨a8, 1, 1⟩ 0), (31, .v (.int .i64 y39.1)), (33, .ep ⟨a8, 1, 1⟩ 0), (35, .v (.int .i64 y39.2.1))] ⟨rfl, rfl, rfl, rfl, rfl, rfl, rfl, rfl, trivial⟩ [] rfl rfl (Es rfl) (JA.one 5 (by kernel_rfl) (JK.callX rfl rfl rfl rfl (ok_s_l01Below (x0, y40.2.1, y40.2.2) y39.1 a8 a2 c3 x0.length rfl _ hy46) rfl [0] rfl [0] rfl rfl fun _ _ => JA.next ⟨rfl, rfl, rfl, rfl, rfl, rfl, rfl, rfl, trivial⟩ [] rfl (JA.one 9 (by kernel_rfl) (JK.callX rfl rfl rfl rfl (ok_s_l01Below (x0, y45.2.1, y45.2.2) y39.2.1 a8 a2 c3 x0.length rfl _ hy49) rfl [0] rfl [0] rfl rfl fun _ _ => JA.next ⟨rfl, rfl, rfl, rfl, rfl, rfl, rfl, rfl, trivial⟩ [] rfl (JA.one 10 (by kernel_rfl) (JK.call rfl rfl rfl rfl (ok_s_GridGo y39 y44 y47 a42 c43 y39.2.2.1.length rfl _ hy51) rfl [2] rfl rfl ?_))))))
    rintro ⟨a52, c53⟩ -
    refine JA.next ⟨rfl, rfl, rfl, rfl, rfl, rfl, rfl, rfl, trivial⟩ [] rfl (JA.one 11 (by kernel_rfl) (JK.stBox ttOk rfl rfl rfl rfl rfl rfl rfl rfl (JA.nextL rfl (JA.one 12 (by kernel_rfl) (JK.stBox ttOk rfl rfl rfl rfl rfl rfl rfl rfl (JA.nextL rfl (JA.done (by kernel_rfl) (JS.boxes (B' := (.new 2 25 (cl25 y9 a12 c13) (.new 3 25 (cl25 y50 a52 c53) .nil))) (Bs rfl rfl) ?_))))))))
    cases h
    exact JS.ret ttOk (a12, c13, a52, c53) trivial rfl rfl [3, 0] rfl

def M_i_in (x0 : Int) (x1 : Int) (x2 : Int) : Option Bool :=
  some (bif (decide (x1 ≤ x0)) then (decide (x0 ≤ x2)) else false)

theorem ok_i_in (x0 : Int) (x1 : Int) (x2 : Int) (r : Bool) (h : M_i_in x0 x1 x2 = some r) :
    FC Tryd.prog 17 [.int .i64 x0, .int .i64 x1, .int .i64 x2] [] (fun _ : Unit => True) (fun _ => .bool r) (fun _ => []) :=
  by
    refine FC.of (T := TTx) Tryd.call17 Tryd.func17 rfl rfl fun w0 => ?_
    unfold M_i_in at h
    refine JS.rg0 ttOk 1 [] ⟨trivial, rfl⟩ rfl rfl (JS.rg0 ttOk 9 [(6, .v (.bool (bif (decide (x1 ≤ x0)) then (decide (x0 ≤ x2)) else false)))] ⟨⟨rfl, trivial⟩, rfl⟩ rfl rfl ?_)
    cases h
    exact JS.ret ttOk () trivial rfl rfl [] rfl

def M_i_RuneOk (x0 : Int) : Option Bool :=
  (bindO (M_i_in x0 0 1114111) fun (y2 : Bool) =>
  (callO (y2 = true) (M_i_in x0 55296 57343) false fun (y4 : Bool) =>
  some (bif y2 then (!y4) else false)))

theorem ok_i_RuneOk (x0 : Int) (r : Bool) (h : M_i_RuneOk x0 = some r) :
    FC Tryd.prog 61 [.int .i64 x0] [] (fun _ : Unit => True) (fun _ => .bool r) (fun _ => []) :=
  by
    refine FC.of (T := TTx) Tryd.call61 Tryd.func61 rfl rfl fun w0 => ?_
    unfold M_i_RuneOk at h
    refine JS.rg0 ttOk 1 [] ⟨trivial, rfl⟩ rfl rfl (JS.seq (JS.region (JO.reg ttOk 1 [] [] [(3, .v (.int .i64 x0))] _ rfl ⟨⟨rfl, trivial⟩, rfl⟩ ?_)))
    obtain ⟨y2, hy3, h⟩ := bindO_some h
    refine JO.call rfl rfl rfl rfl (ok_i_in x0 0 1114111 _ hy3) rfl [] rfl rfl fun _ _ => JO.reg ttOk 2 [] [] [(5, .v (.bool y2)), (6, .cd [(5, true)] (.v (.int .i64 x0)))] _ rfl ⟨(Es rfl), rfl⟩ ?_
    obtain ⟨y4, hy5, -, h⟩ := callO_some h
    refine JO.callg rfl rfl rfl rfl (fun q7 => ok_i_in x0 55296 57343 _ (hy5 q7)) rfl [] rfl rfl (JO.reg ttOk 3 [] [] [(2, .v (.bool (bif y2 then (!y4) else false)))] _ rfl ⟨⟨rfl, trivial⟩, rfl⟩ (JO.done rfl ?_))
    cases h
    exact JS.ret ttOk () trivial rfl rfl [] rfl

def M_i_Printable (x0 : Int) : Option Bool :=
  (bindO (M_i_RuneOk x0) fun (y2 : Bool) =>
  (callO ((bif y2 then (decide (32 ≤ x0)) else false) = true) (M_i_in x0 127 159) false fun (y4 : Bool) =>
  some (bif (bif y2 then (decide (32 ≤ x0)) else false) then (!y4) else false)))

theorem ok_i_Printable (x0 : Int) (r : Bool) (h : M_i_Printable x0 = some r) :
    FC Tryd.prog 54 [.int .i64 x0] [] (fun _ : Unit => True) (fun _ => .bool r) (fun _ => []) :=
  by
    refine FC.of (T := TTx) Tryd.call54 Tryd.func54 rfl rfl fun w0 => ?_
    unfold M_i_Printable at h
    refine JS.rg0 ttOk 1 [] ⟨trivial, rfl⟩ rfl rfl (JS.seq (JS.region (JO.reg ttOk 1 [] [] [(3, .v (.int .i64 x0))] _ rfl ⟨⟨rfl, trivial⟩, rfl⟩ ?_)))
    obtain ⟨y2, hy3, h⟩ := bindO_some h
    refine JO.call rfl rfl rfl rfl (ok_i_RuneOk x0 _ hy3) rfl [] rfl rfl fun _ _ => JO.reg ttOk 6 [] [] [(9, .v (.bool (bif y2 then (decide (32 ≤ x0)) else false))), (10, .cd [(9, true)] (.v (.int .i64 x0)))] _ rfl ⟨(Es rfl), rfl⟩ ?_
    obtain ⟨y4, hy5, -, h⟩ := callO_some h
    refine JO.callg rfl rfl rfl rfl (fun q7 => ok_i_in x0 127 159 _ (hy5 q7)) rfl [] rfl rfl (JO.reg ttOk 3 [] [] [(2, .v (.bool (bif (bif y2 then (decide (32 ≤ x0)) else false) then (!y4) else false)))] _ rfl ⟨⟨rfl, trivial⟩, rfl⟩ (JO.done rfl ?_))
    cases h
    exact JS.ret ttOk () trivial rfl rfl [] rfl

def M_i_Width_L1 (x0 : Int) (j23 : Unit → Option Int) (k18 : Int → Option Int) : Int → Option Int := fun x8 =>
  (bif (decide (x8 < (([(4352, 4447), (11904, 42191), (44032, 55203), (63744, 64255), (65280, 65376), (65504, 65510), (127744, 129791), (131072, 262141)] : List (Int × Int)).length : Int))) then
  (guardO (0 ≤ x8 ∧ x8 < (([(4352, 4447), (11904, 42191), (44032, 55203), (63744, 64255), (65280, 65376), (65504, 65510), (127744, 129791), (131072, 262141)] : List (Int × Int)).length : Int)) <|
  (bindO (M_i_in x0 ((at' ([(4352, 4447), (11904, 42191), (44032, 55203), (63744, 64255), (65280, 65376), (65504, 65510), (127744, 129791), (131072, 262141)] : List (Int × Int)) x8).1) ((at' ([(4352, 4447), (11904, 42191), (44032, 55203), (63744, 64255), (65280, 65376), (65504, 65510), (127744, 129791), (131072, 262141)] : List (Int × Int)) x8).2)) fun (y11 : Bool) =>
  (bif y11 then
  some 2
  else
  k18 (W (x8 + 1)))))
  else
  j23 ())

def M_i_Width (x0 : Int) : Option Int :=
  (bindO (M_i_Printable x0) fun (y2 : Bool) =>
  (bif (!y2) then
  some 0
  else
  (joinO (fun (_ : Unit) =>
  some 1) fun j23 =>
  (fixF (M_i_Width_L1 x0 j23) FUEL 0))))

theorem ok_i_Width (x0 : Int) (r : Int) (h : M_i_Width x0 = some r) :
    FC Tryd.prog 44 [.int .i64 x0] [] (fun _ : Unit => True) (fun _ => .int .i64 r) (fun _ => []) :=
  by
    refine FC.of (T := TTx) Tryd.call44 Tryd.func44 rfl rfl fun w0 => ?_
    unfold M_i_Width at h
    refine JS.rg0 ttOk 1 [] ⟨trivial, rfl⟩ rfl rfl (JS.seq (JS.seq (JS.region (JO.reg ttOk 1 [] [] [(5, .v (.int .i64 x0))] _ rfl ⟨⟨rfl, trivial⟩, rfl⟩ ?_))))
    obtain ⟨y2, hy3, h⟩ := bindO_some h
    refine JO.call rfl rfl rfl rfl (ok_i_Printable x0 _ hy3) rfl [] rfl rfl fun _ _ => JO.reg ttOk 1 [] [] [(7, .v (.bool (!y2)))] _ rfl ⟨⟨rfl, trivial⟩, rfl⟩ (JO.done rfl ?_)
    refine JS.cond rfl (fun ht33 => ?_) (fun ht33 => ?_)
    · have h := condT h ht33
      refine JS.rg0 ttOk 1 [(2, .v (.int .i64 0))] ⟨⟨rfl, trivial⟩, rfl⟩ rfl rfl ?_
      cases h
      exact JS.ret ttOk () trivial rfl rfl [] rfl
    have h := condF h ht33
    refine JS.skip (JS.seq (JS.seq (JS.region (JO.reg ttOk 8 [] [] [(8, .v (.agg #[.int .i64 4352, .int .i64 4447])), (9, .v (.agg #[.int .i64 11904, .int .i64 42191])), (10, .v (.agg #[.int .i64 44032, .int .i64 55203])), (11, .v (.agg #[.int .i64 63744, .int .i64 64255])), (12, .v (.agg #[.int .i64 65280, .int .i64 65376])), (13, .v (.agg #[.int .i64 65504, .int .i64 65510])), (14, .v (.agg #[.int .i64 127744, .int .i64 129791])), (15, .v (.agg #[.int .i64 131072, .int .i64 262141]))] _ rfl ⟨(Es rfl), rfl⟩ ?_))))
    refine JO.ofK rfl (JK.buildSlice ttOk rfl rfl rfl rfl rfl rfl rfl rfl rfl rfl rfl [] rfl (.pair (.int .i64) (.int .i64)) [(4352, 4447), (11904, 42191), (44032, 55203), (63744, 64255), (65280, 65376), (65504, 65510), (127744, 129791), (131072, 262141)] ⟨rfl, rfl⟩ rfl rfl fun a4 => JO.toK ?_)
    refine JO.reg ttOk 2 [] [] [(17, .v (.int .i64 (([(4352, 4447), (11904, 42191), (44032, 55203), (63744, 64255), (65280, 65376), (65504, 65510), (127744, 129791), (131072, 262141)] : List (Int × Int)).length : Int))), (18, .v (.int .i64 0))] _ rfl ⟨(Es rfl), rfl⟩ (JO.done rfl ?_)
    obtain ⟨j23, hj32, h⟩ := joinO_some h
    refine JS.blockJ (ι := Unit) ⟨fun _ => j23 () = some r, fun _ => [], fun _ => .nil, fun _ => [], fun _ => [], fun _ => 0⟩ ?_ ?_
    · refine JS.loop (ι := Nat × Int) ⟨fun z => fixF (M_i_Width_L1 x0 j23) z.1 z.2 = some r, fun z => [(0, .v (.int .i64 x0)), (16, .v (.slice a4 ([(4352, 4447), (11904, 42191), (44032, 55203), (63744, 64255), (65280, 65376), (65504, 65510), (127744, 129791), (131072, 262141)] : List (Int × Int)).length ([(4352, 4447), (11904, 42191), (44032, 55203), (63744, 64255), (65280, 65376), (65504, 65510), (127744, 129791), (131072, 262141)] : List (Int × Int)).length)), (17, .v (.int .i64 (([(4352, 4447), (11904, 42191), (44032, 55203), (63744, 64255), (65280, 65376), (65504, 65510), (127744, 129791), (131072, 262141)] : List (Int × Int)).length : Int))), (18, .v (.int .i64 z.2))], fun z => .nil, fun z => [], fun z => [⟨(.pair (.int .i64) (.int .i64)), ⟨a4, ([(4352, 4447), (11904, 42191), (44032, 55203), (63744, 64255), (65280, 65376), (65504, 65510), (127744, 129791), (131072, 262141)] : List (Int × Int)).length, ([(4352, 4447), (11904, 42191), (44032, 55203), (63744, 64255), (65280, 65376), (65504, 65510), (127744, 129791), (131072, 262141)] : List (Int × Int)).length⟩, ([(4352, 4447), (11904, 42191), (44032, 55203), (63744, 64255), (65280, 65376), (65504, 65510), (127744, 129791), (131072, 262141)] : List (Int × Int))⟩], fun z => z.1⟩ (FUEL, 0) h (Es rfl) trivial [] rfl [0] rfl ?_
      rintro ⟨n19, x8⟩ h
      obtain ⟨n19, rfl, h⟩ := fixF_some h
      rw [M_i_Width_L1] at h
      refine JS.rg0 ttOk 1 [(19, .v (.bool (decide (x8 < (([(4352, 4447), (11904, 42191), (44032, 55203), (63744, 64255), (65280, 65376), (65504, 65510), (127744, 129791), (131072, 262141)] : List (Int × Int)).length : Int)))))] ⟨⟨rfl, trivial⟩, rfl⟩ rfl rfl (JS.seq ?_)
      refine JS.cond rfl (fun ht31 => ?_) (fun ht31 => ?_)
      · have h := condT h ht31
        refine JS.skip (JS.seq (JS.block (JS.seq (JS.region (JO.know 0 rfl fun hs29 => ?_)))))
        obtain ⟨g10, h⟩ := guardO_some h
        refine JO.reg ttOk 1 [] [] [(20, .ep ⟨a4, ([(4352, 4447), (11904, 42191), (44032, 55203), (63744, 64255), (65280, 65376), (65504, 65510), (127744, 129791), (131072, 262141)] : List (Int × Int)).length, ([(4352, 4447), (11904, 42191), (44032, 55203), (63744, 64255), (65280, 65376), (65504, 65510), (127744, 129791), (131072, 262141)] : List (Int × Int)).length⟩ (Int.toNat x8 * 2))] _ rfl ⟨hs29.ix g10, ⟨rfl, trivial⟩, rfl⟩ (JO.loadV ttOk rfl rfl rfl rfl rfl rfl 0 rfl rfl (Int.toNat x8) 0 (at' ([(4352, 4447), (11904, 42191), (44032, 55203), (63744, 64255), (65280, 65376), (65504, 65510), (127744, 129791), (131072, 262141)] : List (Int × Int)) x8) ⟨at_some g10, rfl⟩ rfl rfl rfl (JO.regB ttOk 2 [] [11] [(4, .bp 11 0)] (.new 11 72 [.int .i64 (at' ([(4352, 4447), (11904, 42191), (44032, 55203), (63744, 64255), (65280, 65376), (65504, 65510), (127744, 129791), (131072, 262141)] : List (Int × Int)) x8).1, .int .i64 (at' ([(4352, 4447), (11904, 42191), (44032, 55203), (63744, 64255), (65280, 65376), (65504, 65510), (127744, 129791), (131072, 262141)] : List (Int × Int)) x8).2] .nil) rfl ⟨⟨rfl, trivial⟩, (Bs rfl rfl)⟩ (JO.done rfl (JS.seq (JS.region (JO.reg ttOk 5 [] [] [(22, .v (.int .i64 x0)), (24, .v (.int .i64 (at' ([(4352, 4447), (11904, 42191), (44032, 55203), (63744, 64255), (65280, 65376), (65504, 65510), (127744, 129791), (131072, 262141)] : List (Int × Int)) x8).1)), (26, .v (.int .i64 (at' ([(4352, 4447), (11904, 42191), (44032, 55203), (63744, 64255), (65280, 65376), (65504, 65510), (127744, 129791), (131072, 262141)] : List (Int × Int)) x8).2))] _ rfl ⟨⟨by decide, by decide⟩, ⟨by decide, by decide⟩, (Es rfl), rfl⟩ ?_))))))
        obtain ⟨y11, hy12, h⟩ := bindO_some h
        refine JO.call rfl rfl rfl rfl (ok_i_in x0 ((at' ([(4352, 4447), (11904, 42191), (44032, 55203), (63744, 64255), (65280, 65376), (65504, 65510), (127744, 129791), (131072, 262141)] : List (Int × Int)) x8).1) ((at' ([(4352, 4447), (11904, 42191), (44032, 55203), (63744, 64255), (65280, 65376), (65504, 65510), (127744, 129791), (131072, 262141)] : List (Int × Int)) x8).2) _ hy12) rfl [] rfl rfl fun _ _ => JO.done rfl ?_
        refine JS.cond rfl (fun ht30 => ?_) (fun ht30 => ?_)
        · have h := condT h ht30
          refine JS.rg0 ttOk 1 [(2, .v (.int .i64 2))] ⟨⟨rfl, trivial⟩, rfl⟩ rfl rfl ?_
          cases h
          exact JS.ret ttOk () trivial rfl rfl [] rfl
        have h := condF h ht30
        refine JS.skip (JS.endB (JS.re ttOk 2 [(W (x8 + 1))] [] [(18, .v (.int .i64 (W (x8 + 1))))] _ ⟨⟨trivial, rfl⟩, ⟨rfl, trivial⟩, rfl⟩ rfl rfl (JS.endL (n19, (W (x8 + 1))) h (Nat.lt_succ_self _) (Es rfl) trivial [] rfl [0] rfl)))
      have h := condF h ht31
      refine JS.exit rfl (JS.endJ () h trivial trivial [] rfl [] rfl)
    rintro _ h
    subst hj32
    refine JS.rg0 ttOk 1 [(2, .v (.int .i64 1))] ⟨⟨rfl, trivial⟩, rfl⟩ rfl rfl ?_
    cases h
    exact JS.ret ttOk () trivial rfl rfl [] rfl

def M_i_cellOk (x0 : Int × Int × List Int × Int × Int × Bool) (x1 : Int) : Option Bool :=
  (guardO (0 ≤ x1 ∧ x1 < (x0.2.2.1.length : Int)) <|
  (guardO (x0.1 ≠ 0) <|
  (bif (decide ((at' x0.2.2.1 x1) = (-1))) then
  (guardO (((decide (0 < (Int.tmod x1 x0.1))) = true) → 0 ≤ (W (x1 - 1)) ∧ (W (x1 - 1)) < (x0.2.2.1.length : Int)) <|
  (callO ((decide (0 < (Int.tmod x1 x0.1))) = true) (M_i_Width (at' x0.2.2.1 (W (x1 - 1)))) (0 : Int) fun (y15 : Int) =>
  some (bif (decide (0 < (Int.tmod x1 x0.1))) then (decide (y15 = 2)) else false)))
  else
  (bindO (M_i_Width (at' x0.2.2.1 x1)) fun (y18 : Int) =>
  (bif (decide (y18 = 2)) then
  (guardO (((decide ((W ((Int.tmod x1 x0.1) + 1)) < x0.1)) = true) → 0 ≤ (W (x1 + 1)) ∧ (W (x1 + 1)) < (x0.2.2.1.length : Int)) <|
  some (bif (decide ((W ((Int.tmod x1 x0.1) + 1)) < x0.1)) then (decide ((at' x0.2.2.1 (W (x1 + 1))) = (-1))) else false))
  else
  (bindO (M_i_Width (at' x0.2.2.1 x1)) fun (y24 : Int) =>
  some (decide (y24 = 1))))))))

theorem ok_i_cellOk (x0 : Int × Int × List Int × Int × Int × Bool) (x1 : Int) (a3 : Option Addr) (c4 : Nat) (l5 : Nat) (hl6 : x0.2.2.1.length = l5) (r : Bool) (h : M_i_cellOk x0 x1 = some r) :
    FC Tryd.prog 31 [.agg #[.int .i64 x0.1, .int .i64 x0.2.1, .slice a3 l5 c4, .int .i64 x0.2.2.2.1, .int .i64 x0.2.2.2.2.1, .bool x0.2.2.2.2.2], .int .i64 x1] [⟨(.int .i64), ⟨a3, l5, c4⟩, x0.2.2.1⟩] (fun _ : Unit => True) (fun _ => .bool r) (fun _ => []) :=
  by
    subst hl6
    refine FC.of (T := TTx) Tryd.call31 Tryd.func31 rfl rfl fun w0 => ?_
    unfold M_i_cellOk at h
    refine JS.rgB ttOk 2 [] [2] [(2, .bp 2 0)] (.new 2 25 (cl25 x0 a3 c4) .nil) ⟨⟨rfl, trivial⟩, (Bs rfl rfl)⟩ rfl rfl (JS.seq ?_)
    obtain ⟨g8, h⟩ := guardO_some h
    obtain ⟨g9, h⟩ := guardO_some h
    refine JS.know 0 rfl fun hs29 => JS.regionQ rfl (by kernel_rfl) (JQ.reg ttOk 4 [] [(10, .ep ⟨a3, x0.2.2.1.length, c4⟩ (Int.toNat x1 * 1))] rfl ⟨hs29.ix g8, ⟨rfl, trivial⟩⟩ (JQ.load ttOk rfl rfl rfl rfl rfl rfl rfl 0 rfl rfl (Int.toNat x1) 0 (at' x0.2.2.1 x1) ⟨at_some g8, rfl⟩ rfl rfl (JQ.reg ttOk 6 [] [(5, .v (.int .i64 (at' x0.2.2.1 x1))), (6, .v (.int .i64 (Int.tmod x1 x0.1)))] rfl ⟨g9, (Es rfl)⟩ (JQ.done rfl (JS.seq (JS.block (JS.rg0 ttOk 3 [(16, .v (.bool (decide ((at' x0.2.2.1 x1) = (-1)))))] ⟨⟨rfl, trivial⟩, rfl⟩ rfl rfl ?_)))))))
    refine JS.cond rfl (fun ht38 => ?_) (fun ht38 => ?_)
    · have h := condT h ht38
      refine JS.seq (JS.region ?_)
      obtain ⟨g12, h⟩ := guardO_some h
      refine JO.reg ttOk 8 [(W (x1 - 1))] [] [(21, .v (.bool (decide (0 < (Int.tmod x1 x0.1))))), (26, .cd [(21, true)] (.ep ⟨a3, x0.2.2.1.length, c4⟩ (Int.toNat (W (x1 - 1)) * 1)))] _ rfl ⟨(fun q30 => ⟨trivial, rfl⟩), (fun q31 => hs29.ix (g12 q31)), (Es rfl), rfl⟩ (JO.load ttOk rfl rfl rfl rfl rfl rfl rfl 0 rfl rfl (Int.toNat (W (x1 - 1))) 0 (at' x0.2.2.1 (W (x1 - 1))) (fun q32 => ⟨at_some (g12 q32), rfl⟩) rfl rfl ?_)
      obtain ⟨y15, hy16, -, h⟩ := callO_some h
      refine JO.callg rfl rfl rfl rfl (fun q33 => ok_i_Width (at' x0.2.2.1 (W (x1 - 1))) _ (hy16 q33)) rfl [] rfl rfl (JO.reg ttOk 3 [] [] [(4, .v (.bool (bif (decide (0 < (Int.tmod x1 x0.1))) then (decide (y15 = 2)) else false)))] _ rfl ⟨⟨rfl, trivial⟩, rfl⟩ (JO.done rfl ?_))
      cases h
      exact JS.ret ttOk () trivial rfl rfl [] rfl
    have h := condF h ht38
    refine JS.seq (JS.region (JO.reg ttOk 1 [] [] [(32, .v (.int .i64 (at' x0.2.2.1 x1)))] _ rfl ⟨⟨rfl, trivial⟩, rfl⟩ ?_))
    obtain ⟨y18, hy19, h⟩ := bindO_some h
    refine JO.call rfl rfl rfl rfl (ok_i_Width (at' x0.2.2.1 x1) _ hy19) rfl [] rfl rfl fun _ _ => JO.reg ttOk 2 [] [] [(31, .v (.bool (decide (y18 = 2))))] _ rfl ⟨⟨rfl, trivial⟩, rfl⟩ (JO.done rfl ?_)
    refine JS.cond rfl (fun ht37 => ?_) (fun ht37 => ?_)
    · have h := condT h ht37
      refine JS.seq (JS.region ?_)
      obtain ⟨g21, h⟩ := guardO_some h
      refine JO.reg ttOk 11 [(W ((Int.tmod x1 x0.1) + 1)), (W (x1 + 1))] [] [(40, .v (.bool (decide ((W ((Int.tmod x1 x0.1) + 1)) < x0.1)))), (45, .cd [(40, true)] (.ep ⟨a3, x0.2.2.1.length, c4⟩ (Int.toNat (W (x1 + 1)) * 1)))] _ rfl ⟨⟨trivial, rfl⟩, (fun q34 => ⟨trivial, rfl⟩), (fun q35 => hs29.ix (g21 q35)), (Es rfl), rfl⟩ (JO.load ttOk rfl rfl rfl rfl rfl rfl rfl 0 rfl rfl (Int.toNat (W (x1 + 1))) 0 (at' x0.2.2.1 (W (x1 + 1))) (fun q36 => ⟨at_some (g21 q36), rfl⟩) rfl rfl (JO.reg ttOk 3 [] [] [(4, .v (.bool (bif (decide ((W ((Int.tmod x1 x0.1) + 1)) < x0.1)) then (decide ((at' x0.2.2.1 (W (x1 + 1))) = (-1))) else false)))] _ rfl ⟨⟨rfl, trivial⟩, rfl⟩ (JO.done rfl ?_)))
      cases h
      exact JS.ret ttOk () trivial rfl rfl [] rfl
    have h := condF h ht37
    refine JS.skip (JS.endB (JS.seq (JS.region (JO.reg ttOk 1 [] [] [(49, .v (.int .i64 (at' x0.2.2.1 x1)))] _ rfl ⟨⟨rfl, trivial⟩, rfl⟩ ?_))))
    obtain ⟨y24, hy25, h⟩ := bindO_some h
    refine JO.call rfl rfl rfl rfl (ok_i_Width (at' x0.2.2.1 x1) _ hy25) rfl [] rfl rfl fun _ _ => JO.reg ttOk 2 [] [] [(4, .v (.bool (decide (y24 = 1))))] _ rfl ⟨⟨rfl, trivial⟩, rfl⟩ (JO.done rfl ?_)
    cases h
    exact JS.ret ttOk () trivial rfl rfl [] rfl

def M_i_GridOk_L1 (x0 : Int × Int × List Int × Int × Int × Bool) (j40 : Unit → Option Bool) (k36 : Int → Option Bool) : Int → Option Bool := fun x21 =>
  (bif (decide (x21 < (x0.2.2.1.length : Int))) then
  (bindO (M_i_cellOk x0 x21) fun (y30 : Bool) =>
  (bif (!y30) then
  some false
  else
  k36 (W (x21 + 1))))
  else
  j40 ())

def M_i_GridOk (x0 : Int × Int × List Int × Int × Int × Bool) : Option Bool :=
  (bindO (M_i_in x0.1 2 200) fun (y6 : Bool) =>
  (callO ((!y6) = false) (M_i_in x0.2.1 1 200) false fun (y8 : Bool) =>
  (bif (bif (bif (bif (!y6) then true else (!y8)) then true else (decide (8000 < (W (x0.1 * x0.2.1))))) then true else (!(decide ((x0.2.2.1.length : Int) = (W (x0.1 * x0.2.1)))))) then
  some false
  else
  (bindO (M_i_in x0.2.2.2.1 0 (W (x0.1 - 1))) fun (y13 : Bool) =>
  (callO ((!y13) = false) (M_i_in x0.2.2.2.2.1 0 (W (x0.2.1 - 1))) false fun (y16 : Bool) =>
  (bif (bif (bif (!y13) then true else (!y16)) then true else (bif x0.2.2.2.2.2 then (!(decide (x0.2.2.2.1 = (W (x0.1 - 1))))) else false)) then
  some false
  else
  (joinO (fun (_ : Unit) =>
  some true) fun j40 =>
  (fixF (M_i_GridOk_L1 x0 j40) FUEL 0))))))))

theorem ok_i_GridOk (x0 : Int × Int × List Int × Int × Int × Bool) (a2 : Option Addr) (c3 : Nat) (l4 : Nat) (hl5 : x0.2.2.1.length = l4) (r : Bool) (h : M_i_GridOk x0 = some r) :
    FC Tryd.prog 16 [.agg #[.int .i64 x0.1, .int .i64 x0.2.1, .slice a2 l4 c3, .int .i64 x0.2.2.2.1, .int .i64 x0.2.2.2.2.1, .bool x0.2.2.2.2.2]] [⟨(.int .i64), ⟨a2, l4, c3⟩, x0.2.2.1⟩] (fun _ : Unit => True) (fun _ => .bool r) (fun _ => []) :=
  by
    subst hl5
    refine FC.of (T := TTx) Tryd.call16 Tryd.func16 rfl rfl fun w0 => ?_
    unfold M_i_GridOk at h
    refine JS.rgB ttOk 2 [] [2] [(1, .bp 2 0)] (.new 2 25 (cl25 x0 a2 c3) .nil) ⟨⟨rfl, trivial⟩, (Bs rfl rfl)⟩ rfl rfl (JS.seq (JS.seq (JS.region (JO.reg ttOk 2 [] [] [(5, .v (.int .i64 x0.1))] _ rfl ⟨⟨rfl, trivial⟩, rfl⟩ ?_))))
    obtain ⟨y6, hy7, h⟩ := bindO_some h
    refine JO.call rfl rfl rfl rfl (ok_i_in x0.1 2 200 _ hy7) rfl [] rfl rfl fun _ _ => JO.reg ttOk 4 [] [] [(8, .v (.bool (!y6))), (10, .cd [(8, false)] (.v (.int .i64 x0.2.1)))] _ rfl ⟨(Es rfl), rfl⟩ ?_
    obtain ⟨y8, hy9, -, h⟩ := callO_some h
    refine JO.callg rfl rfl rfl rfl (fun q46 => ok_i_in x0.2.1 1 200 _ (hy9 q46)) rfl [] rfl rfl (JO.reg ttOk 21 [(W (x0.1 * x0.2.1)), (W (x0.1 * x0.2.1))] [] [(32, .v (.bool (bif (bif (bif (!y6) then true else (!y8)) then true else (decide (8000 < (W (x0.1 * x0.2.1))))) then true else (!(decide ((x0.2.2.1.length : Int) = (W (x0.1 * x0.2.1))))))))] _ rfl ⟨(fun q47 => ⟨trivial, rfl⟩), (fun q48 => ⟨trivial, rfl⟩), ⟨rfl, trivial⟩, rfl⟩ (JO.done rfl ?_))
    refine JS.cond rfl (fun ht57 => ?_) (fun ht57 => ?_)
    · have h := condT h ht57
      refine JS.rg0 ttOk 1 [(2, .v (.bool false))] ⟨⟨rfl, trivial⟩, rfl⟩ rfl rfl ?_
      cases h
      exact JS.ret ttOk () trivial rfl rfl [] rfl
    have h := condF h ht57
    refine JS.skip (JS.seq (JS.seq (JS.region (JO.reg ttOk 5 [(W (x0.1 - 1))] [] [(34, .v (.int .i64 x0.2.2.2.1)), (37, .v (.int .i64 (W (x0.1 - 1))))] _ rfl ⟨⟨trivial, rfl⟩, (Es rfl), rfl⟩ ?_))))
    obtain ⟨y13, hy14, h⟩ := bindO_some h
    refine JO.call rfl rfl rfl rfl (ok_i_in x0.2.2.2.1 0 (W (x0.1 - 1)) _ hy14) rfl [] rfl rfl fun _ _ => JO.reg ttOk 7 [(W (x0.2.1 - 1))] [] [(40, .v (.bool (!y13))), (42, .cd [(40, false)] (.v (.int .i64 x0.2.2.2.2.1))), (45, .cd [(40, false)] (.v (.int .i64 (W (x0.2.1 - 1)))))] _ rfl ⟨(fun q49 => ⟨trivial, rfl⟩), (Es rfl), rfl⟩ ?_
    obtain ⟨y16, hy17, -, h⟩ := callO_some h
    refine JO.callg rfl rfl rfl rfl (fun q50 => ok_i_in x0.2.2.2.2.1 0 (W (x0.2.1 - 1)) _ (hy17 q50)) rfl [] rfl rfl (JO.reg ttOk 14 [(W (x0.1 - 1))] [] [(60, .v (.bool (bif (bif (!y13) then true else (!y16)) then true else (bif x0.2.2.2.2.2 then (!(decide (x0.2.2.2.1 = (W (x0.1 - 1))))) else false))))] _ rfl ⟨(fun q51 q52 => ⟨trivial, rfl⟩), ⟨rfl, trivial⟩, rfl⟩ (JO.done rfl ?_))
    refine JS.cond rfl (fun ht56 => ?_) (fun ht56 => ?_)
    · have h := condT h ht56
      refine JS.rg0 ttOk 1 [(2, .v (.bool false))] ⟨⟨rfl, trivial⟩, rfl⟩ rfl rfl ?_
      cases h
      exact JS.ret ttOk () trivial rfl rfl [] rfl
    have h := condF h ht56
    refine JS.skip (JS.seq (JS.rg0 ttOk 4 [(63, .v (.int .i64 (x0.2.2.1.length : Int))), (64, .v (.int .i64 0))] ⟨(Es rfl), rfl⟩ rfl rfl ?_))
    obtain ⟨j40, hj55, h⟩ := joinO_some h
    refine JS.blockJ (ι := Unit) ⟨fun _ => j40 () = some r, fun _ => [], fun _ => .nil, fun _ => [], fun _ => [], fun _ => 0⟩ ?_ ?_
    · refine JS.loop (ι := Nat × Int) ⟨fun z => fixF (M_i_GridOk_L1 x0 j40) z.1 z.2 = some r, fun z => [(1, .bp 2 0), (63, .v (.int .i64 (x0.2.2.1.length : Int))), (64, .v (.int .i64 z.2))], fun z => (.new 2 25 (cl25 x0 a2 c3) .nil), fun z => [⟨(.int .i64), ⟨a2, x0.2.2.1.length, c3⟩, x0.2.2.1⟩], fun z => [], fun z => z.1⟩ (FUEL, 0) h (Es rfl) (Bs rfl rfl) [0] rfl [] rfl ?_
      rintro ⟨n37, x21⟩ h
      obtain ⟨n37, rfl, h⟩ := fixF_some h
      rw [M_i_GridOk_L1] at h
      refine JS.rg0 ttOk 1 [(65, .v (.bool (decide (x21 < (x0.2.2.1.length : Int)))))] ⟨⟨rfl, trivial⟩, rfl⟩ rfl rfl (JS.seq ?_)
      refine JS.cond rfl (fun ht54 => ?_) (fun ht54 => ?_)
      · have h := condT h ht54
        refine JS.skip (JS.seq (JS.block (JS.rg0 ttOk 2 [(3, .v (.int .i64 x21))] ⟨⟨rfl, trivial⟩, rfl⟩ rfl rfl (JS.seq (JS.region (JO.reg ttOk 2 [] [] [(67, .v (.agg (cl25 x0 a2 c3).toArray)), (68, .v (.int .i64 x21))] _ rfl ⟨(Es rfl), rfl⟩ ?_))))))
        obtain ⟨y30, hy31, h⟩ := bindO_some h
        refine JO.call rfl rfl rfl rfl (ok_i_cellOk x0 x21 a2 c3 x0.2.2.1.length rfl _ hy31) rfl [0] rfl rfl fun _ _ => JO.reg ttOk 1 [] [] [(70, .v (.bool (!y30)))] _ rfl ⟨⟨rfl, trivial⟩, rfl⟩ (JO.done rfl ?_)
        refine JS.cond rfl (fun ht53 => ?_) (fun ht53 => ?_)
        · have h := condT h ht53
          refine JS.rg0 ttOk 1 [(2, .v (.bool false))] ⟨⟨rfl, trivial⟩, rfl⟩ rfl rfl ?_
          cases h
          exact JS.ret ttOk () trivial rfl rfl [] rfl
        have h := condF h ht53
        refine JS.skip (JS.endB (JS.re ttOk 2 [(W (x21 + 1))] [] [(64, .v (.int .i64 (W (x21 + 1))))] _ ⟨⟨trivial, rfl⟩, ⟨rfl, trivial⟩, rfl⟩ rfl rfl (JS.endL (n37, (W (x21 + 1))) h (Nat.lt_succ_self _) (Es rfl) (Bs rfl rfl) [0] rfl [] rfl)))
      have h := condF h ht54
      refine JS.exit rfl (JS.endJ () h trivial trivial [] rfl [] rfl)
    rintro _ h
    subst hj55
    refine JS.rg0 ttOk 1 [(2, .v (.bool true))] ⟨⟨rfl, trivial⟩, rfl⟩ rfl rfl ?_
    cases h
    exact JS.ret ttOk () trivial rfl rfl [] rfl

def M_i_isNumber (x0 : Int) : Option Bool :=
  (bindO (M_i_in x0 0 4294967295) fun (y2 : Bool) =>
  some y2)

theorem ok_i_isNumber (x0 : Int) (r : Bool) (h : M_i_isNumber x0 = some r) :
    FC Tryd.prog 39 [.int .i64 x0] [] (fun _ : Unit => True) (fun _ => .bool r) (fun _ => []) :=
  by
    refine FC.of (T := TTx) Tryd.call39 Tryd.func39 rfl rfl fun w0 => ?_
    unfold M_i_isNumber at h
    refine JS.rg0 ttOk 1 [] ⟨trivial, rfl⟩ rfl rfl (JS.seq (JS.region (JO.reg ttOk 1 [] [] [(3, .v (.int .i64 x0))] _ rfl ⟨⟨rfl, trivial⟩, rfl⟩ ?_)))
    obtain ⟨y2, hy3, h⟩ := bindO_some h
    refine JO.call rfl rfl rfl rfl (ok_i_in x0 0 4294967295 _ hy3) rfl [] rfl rfl fun _ _ => JO.reg ttOk 1 [] [] [(2, .v (.bool y2))] _ rfl ⟨⟨rfl, trivial⟩, rfl⟩ (JO.done rfl ?_)
    cases h
    exact JS.ret ttOk () trivial rfl rfl [] rfl

def M_internal_strconv_small (x0 : Int) : Option (List UInt8) :=
  (bif (decide (x0 < 10)) then
  (guardO (0 ≤ x0 ∧ x0 ≤ (W (x0 + 1)) ∧ (W (x0 + 1)) ≤ (([48, 49, 50, 51, 52, 53, 54, 55, 56, 57, 97, 98, 99, 100, 101, 102, 103, 104, 105, 106, 107, 108, 109, 110, 111, 112, 113, 114, 115, 116, 117, 118, 119, 120, 121, 122] : List UInt8).length : Int)) <|
  some (sub' ([48, 49, 50, 51, 52, 53, 54, 55, 56, 57, 97, 98, 99, 100, 101, 102, 103, 104, 105, 106, 107, 108, 109, 110, 111, 112, 113, 114, 115, 116, 117, 118, 119, 120, 121, 122] : List UInt8) x0 (W (x0 + 1))))
  else
  (guardO (0 ≤ (W (x0 * 2)) ∧ (W (x0 * 2)) ≤ (W ((W (x0 * 2)) + 2)) ∧ (W ((W (x0 * 2)) + 2)) ≤ (([48, 48, 48, 49, 48, 50, 48, 51, 48, 52, 48, 53, 48, 54, 48, 55, 48, 56, 48, 57, 49, 48, 49, 49, 49, 50, 49, 51, 49, 52, 49, 53, 49, 54, 49, 55, 49, 56, 49, 57, 50, 48, 50, 49, 50, 50, 50, 51, 50, 52, 50, 53, 50, 54, 50, 55, 50, 56, 50, 57, 51, 48, 51, 49, 51, 50, 51, 51, 51, 52, 51, 53, 51, 54, 51, 55, 51, 56, 51, 57, 52, 48, 52, 49, 52, 50, 52, 51, 52, 52, 52, 53, 52, 54, 52, 55, 52, 56, 52, 57, 53, 48, 53, 49, 53, 50, 53, 51, 53, 52, 53, 53, 53, 54, 53, 55, 53, 56, 53, 57, 54, 48, 54, 49, 54, 50, 54, 51, 54, 52, 54, 53, 54, 54, 54, 55, 54, 56, 54, 57, 55, 48, 55, 49, 55, 50, 55, 51, 55, 52, 55, 53, 55, 54, 55, 55, 55, 56, 55, 57, 56, 48, 56, 49, 56, 50, 56, 51, 56, 52, 56, 53, 56, 54, 56, 55, 56, 56, 56, 57, 57, 48, 57, 49, 57, 50, 57, 51, 57, 52, 57, 53, 57, 54, 57, 55, 57, 56, 57, 57] : List UInt8).length : Int)) <|
  some (sub' ([48, 48, 48, 49, 48, 50, 48, 51, 48, 52, 48, 53, 48, 54, 48, 55, 48, 56, 48, 57, 49, 48, 49, 49, 49, 50, 49, 51, 49, 52, 49, 53, 49, 54, 49, 55, 49, 56, 49, 57, 50, 48, 50, 49, 50, 50, 50, 51, 50, 52, 50, 53, 50, 54, 50, 55, 50, 56, 50, 57, 51, 48, 51, 49, 51, 50, 51, 51, 51, 52, 51, 53, 51, 54, 51, 55, 51, 56, 51, 57, 52, 48, 52, 49, 52, 50, 52, 51, 52, 52, 52, 53, 52, 54, 52, 55, 52, 56, 52, 57, 53, 48, 53, 49, 53, 50, 53, 51, 53, 52, 53, 53, 53, 54, 53, 55, 53, 56, 53, 57, 54, 48, 54, 49, 54, 50, 54, 51, 54, 52, 54, 53, 54, 54, 54, 55, 54, 56, 54, 57, 55, 48, 55, 49, 55, 50, 55, 51, 55, 52, 55, 53, 55, 54, 55, 55, 55, 56, 55, 57, 56, 48, 56, 49, 56, 50, 56, 51, 56, 52, 56, 53, 56, 54, 56, 55, 56, 56, 56, 57, 57, 48, 57, 49, 57, 50, 57, 51, 57, 52, 57, 53, 57, 54, 57, 55, 57, 56, 57, 57] : List UInt8) (W (x0 * 2)) (W ((W (x0 * 2)) + 2)))))

theorem ok_internal_strconv_small (x0 : Int) (r : List UInt8) (h : M_internal_strconv_small x0 = some r) :
    FC Tryd.prog 62 [.int .i64 x0] [] (fun _ : Unit => True) (fun _ => .string (bs r)) (fun _ => []) :=
  by
    refine FC.of (T := TTx) Tryd.call62 Tryd.func62 rfl rfl fun w0 => ?_
    unfold M_internal_strconv_small at h
    refine JS.rg0 ttOk 1 [] ⟨trivial, rfl⟩ rfl rfl (JS.seq (JS.rg0 ttOk 2 [(4, .v (.bool (decide (x0 < 10))))] ⟨⟨rfl, trivial⟩, rfl⟩ rfl rfl ?_))
    refine JS.cond rfl (fun ht5 => ?_) (fun ht5 => ?_)
    · have h := condT h ht5
      refine JS.seq (JS.region ?_)
      obtain ⟨g2, h⟩ := guardO_some h
      refine JO.reg ttOk 5 [(W (x0 + 1))] [] [(2, .v (.string (bs (sub' ([48, 49, 50, 51, 52, 53, 54, 55, 56, 57, 97, 98, 99, 100, 101, 102, 103, 104, 105, 106, 107, 108, 109, 110, 111, 112, 113, 114, 115, 116, 117, 118, 119, 120, 121, 122] : List UInt8) x0 (W (x0 + 1))))))] _ rfl ⟨⟨trivial, rfl⟩, g2, ⟨rfl, trivial⟩, rfl⟩ (JO.done rfl ?_)
      cases h
      exact JS.ret ttOk () trivial rfl rfl [] rfl
    have h := condF h ht5
    refine JS.skip (JS.seq (JS.region ?_))
    obtain ⟨g3, h⟩ := guardO_some h
    refine JO.reg ttOk 7 [(W (x0 * 2)), (W (x0 * 2)), (W ((W (x0 * 2)) + 2))] [] [(2, .v (.string (bs (sub' ([48, 48, 48, 49, 48, 50, 48, 51, 48, 52, 48, 53, 48, 54, 48, 55, 48, 56, 48, 57, 49, 48, 49, 49, 49, 50, 49, 51, 49, 52, 49, 53, 49, 54, 49, 55, 49, 56, 49, 57, 50, 48, 50, 49, 50, 50, 50, 51, 50, 52, 50, 53, 50, 54, 50, 55, 50, 56, 50, 57, 51, 48, 51, 49, 51, 50, 51, 51, 51, 52, 51, 53, 51, 54, 51, 55, 51, 56, 51, 57, 52, 48, 52, 49, 52, 50, 52, 51, 52, 52, 52, 53, 52, 54, 52, 55, 52, 56, 52, 57, 53, 48, 53, 49, 53, 50, 53, 51, 53, 52, 53, 53, 53, 54, 53, 55, 53, 56, 53, 57, 54, 48, 54, 49, 54, 50, 54, 51, 54, 52, 54, 53, 54, 54, 54, 55, 54, 56, 54, 57, 55, 48, 55, 49, 55, 50, 55, 51, 55, 52, 55, 53, 55, 54, 55, 55, 55, 56, 55, 57, 56, 48, 56, 49, 56, 50, 56, 51, 56, 52, 56, 53, 56, 54, 56, 55, 56, 56, 56, 57, 57, 48, 57, 49, 57, 50, 57, 51, 57, 52, 57, 53, 57, 54, 57, 55, 57, 56, 57, 57] : List UInt8) (W (x0 * 2)) (W ((W (x0 * 2)) + 2))))))] _ rfl ⟨⟨trivial, rfl⟩, ⟨trivial, rfl⟩, ⟨trivial, rfl⟩, g3, ⟨rfl, trivial⟩, rfl⟩ (JO.done rfl ?_)
    cases h
    exact JS.ret ttOk () trivial rfl rfl [] rfl

def M_internal_strconv_FormatInt (x0 : Int) (x1 : Int) : Option (List UInt8) :=
  (bif (decide (x1 = 10)) then
  (bif (bif (decide (0 ≤ x0)) then (decide (x0 < 100)) else false) then
  (bindO (M_internal_strconv_small x0) fun (y3 : List UInt8) =>
  some y3)
  else
  none)
  else
  none)

theorem ok_internal_strconv_FormatInt (x0 : Int) (x1 : Int) (r : List UInt8) (h : M_internal_strconv_FormatInt x0 x1 = some r) :
    FC Tryd.prog 59 [.int .i64 x0, .int .i64 x1] [] (fun _ : Unit => True) (fun _ => .string (bs r)) (fun _ => []) :=
  by
    refine FC.of (T := TTx) Tryd.call59 Tryd.func59 rfl rfl fun w0 => ?_
    unfold M_internal_strconv_FormatInt at h
    refine JS.rg0 ttOk 1 [] ⟨trivial, rfl⟩ rfl rfl (JS.seq (JS.rg0 ttOk 2 [(11, .v (.bool (decide (x1 = 10))))] ⟨⟨rfl, trivial⟩, rfl⟩ rfl rfl ?_))
    refine JS.cond rfl (fun ht8 => ?_) (fun ht8 => ?_)
    · have h := condT h ht8
      refine JS.seq (JS.rg0 ttOk 6 [(17, .v (.bool (bif (decide (0 ≤ x0)) then (decide (x0 < 100)) else false)))] ⟨⟨rfl, trivial⟩, rfl⟩ rfl rfl ?_)
      refine JS.cond rfl (fun ht7 => ?_) (fun ht7 => ?_)
      · have h := condT h ht7
        refine JS.seq (JS.region (JO.reg ttOk 1 [] [] [(18, .v (.int .i64 x0))] _ rfl ⟨⟨rfl, trivial⟩, rfl⟩ ?_))
        obtain ⟨y3, hy4, h⟩ := bindO_some h
        refine JO.call rfl rfl rfl rfl (ok_internal_strconv_small x0 _ hy4) rfl [] rfl rfl fun _ _ => JO.reg ttOk 1 [] [] [(4, .v (.string (bs y3)))] _ rfl ⟨⟨rfl, trivial⟩, rfl⟩ (JO.done rfl ?_)
        cases h
        exact JS.ret ttOk () trivial rfl rfl [] rfl
      have h := condF h ht7
      refine JS.skip (JS.seq ?_)
      cases h
    have h := condF h ht8
    refine JS.skip (JS.seq ?_)
    cases h

def M_internal_strconv_Itoa (x0 : Int) : Option (List UInt8) :=
  (bindO (M_internal_strconv_FormatInt x0 10) fun (y2 : List UInt8) =>
  some y2)

theorem ok_internal_strconv_Itoa (x0 : Int) (r : List UInt8) (h : M_internal_strconv_Itoa x0 = some r) :
    FC Tryd.prog 51 [.int .i64 x0] [] (fun _ : Unit => True) (fun _ => .string (bs r)) (fun _ => []) :=
  by
    refine FC.of (T := TTx) Tryd.call51 Tryd.func51 rfl rfl fun w0 => ?_
    unfold M_internal_strconv_Itoa at h
    refine JS.rg0 ttOk 1 [] ⟨trivial, rfl⟩ rfl rfl (JS.seq (JS.region (JO.reg ttOk 1 [] [] [(3, .v (.int .i64 x0))] _ rfl ⟨⟨rfl, trivial⟩, rfl⟩ ?_)))
    obtain ⟨y2, hy3, h⟩ := bindO_some h
    refine JO.call rfl rfl rfl rfl (ok_internal_strconv_FormatInt x0 10 _ hy3) rfl [] rfl rfl fun _ _ => JO.reg ttOk 1 [] [] [(2, .v (.string (bs y2)))] _ rfl ⟨⟨rfl, trivial⟩, rfl⟩ (JO.done rfl ?_)
    cases h
    exact JS.ret ttOk () trivial rfl rfl [] rfl

def M_strconv_Itoa (x0 : Int) : Option (List UInt8) :=
  (bindO (M_internal_strconv_Itoa x0) fun (y2 : List UInt8) =>
  some y2)

theorem ok_strconv_Itoa (x0 : Int) (r : List UInt8) (h : M_strconv_Itoa x0 = some r) :
    FC Tryd.prog 40 [.int .i64 x0] [] (fun _ : Unit => True) (fun _ => .string (bs r)) (fun _ => []) :=
  by
    refine FC.of (T := TTx) Tryd.call40 Tryd.func40 rfl rfl fun w0 => ?_
    unfold M_strconv_Itoa at h
    refine JS.rg0 ttOk 1 [] ⟨trivial, rfl⟩ rfl rfl (JS.seq (JS.region (JO.reg ttOk 1 [] [] [(3, .v (.int .i64 x0))] _ rfl ⟨⟨rfl, trivial⟩, rfl⟩ ?_)))
    obtain ⟨y2, hy3, h⟩ := bindO_some h
    refine JO.call rfl rfl rfl rfl (ok_internal_strconv_Itoa x0 _ hy3) rfl [] rfl rfl fun _ _ => JO.reg ttOk 1 [] [] [(2, .v (.string (bs y2)))] _ rfl ⟨⟨rfl, trivial⟩, rfl⟩ (JO.done rfl ?_)
    cases h
    exact JS.ret ttOk () trivial rfl rfl [] rfl

def M_i_NumText (x0 : Int) : Option (List UInt8) :=
  (bindO (M_i_isNumber x0) fun (y2 : Bool) =>
  (bif (!y2) then
  some ([])
  else
  (bindO (M_strconv_Itoa x0) fun (y4 : List UInt8) =>
  some y4)))

theorem ok_i_NumText (x0 : Int) (r : List UInt8) (h : M_i_NumText x0 = some r) :
    FC Tryd.prog 23 [.int .i64 x0] [] (fun _ : Unit => True) (fun _ => .string (bs r)) (fun _ => []) :=
  by
    refine FC.of (T := TTx) Tryd.call23 Tryd.func23 rfl rfl fun w0 => ?_
    unfold M_i_NumText at h
    refine JS.rg0 ttOk 1 [] ⟨trivial, rfl⟩ rfl rfl (JS.seq (JS.seq (JS.region (JO.reg ttOk 1 [] [] [(3, .v (.int .i64 x0))] _ rfl ⟨⟨rfl, trivial⟩, rfl⟩ ?_))))
    obtain ⟨y2, hy3, h⟩ := bindO_some h
    refine JO.call rfl rfl rfl rfl (ok_i_isNumber x0 _ hy3) rfl [] rfl rfl fun _ _ => JO.reg ttOk 1 [] [] [(5, .v (.bool (!y2)))] _ rfl ⟨⟨rfl, trivial⟩, rfl⟩ (JO.done rfl ?_)
    refine JS.cond rfl (fun ht7 => ?_) (fun ht7 => ?_)
    · have h := condT h ht7
      refine JS.rg0 ttOk 1 [(2, .v (.string (bs [])))] ⟨⟨rfl, trivial⟩, rfl⟩ rfl rfl ?_
      cases h
      exact JS.ret ttOk () trivial rfl rfl [] rfl
    have h := condF h ht7
    refine JS.skip (JS.seq (JS.region (JO.reg ttOk 1 [] [] [(6, .v (.int .i64 x0))] _ rfl ⟨⟨rfl, trivial⟩, rfl⟩ ?_)))
    obtain ⟨y4, hy5, h⟩ := bindO_some h
    refine JO.call rfl rfl rfl rfl (ok_strconv_Itoa x0 _ hy5) rfl [] rfl rfl fun _ _ => JO.reg ttOk 1 [] [] [(2, .v (.string (bs y4)))] _ rfl ⟨⟨rfl, trivial⟩, rfl⟩ (JO.done rfl ?_)
    cases h
    exact JS.ret ttOk () trivial rfl rfl [] rfl

def M_i_escape (x0 : List UInt8) : Option (List UInt8) :=
  (guardO (([(27 : UInt8), (91 : UInt8)] : List UInt8).length + x0.length ≤ 536870912) <|
  some (([(27 : UInt8), (91 : UInt8)] : List UInt8) ++ x0))

theorem ok_i_escape (x0 : List UInt8) (r : List UInt8) (h : M_i_escape x0 = some r) :
    FC Tryd.prog 22 [.string (bs x0)] [] (fun _ : Option Addr × Nat => True) (fun q => .slice q.1 r.length q.2) (fun q => [⟨.byte, ⟨q.1, r.length, q.2⟩, r⟩]) :=
  by
    refine FC.of (T := TTx) Tryd.call22 Tryd.func22 rfl rfl fun w0 => ?_
    unfold M_i_escape at h
    refine JS.rg0 ttOk 1 [] ⟨trivial, rfl⟩ rfl rfl (JS.seq (JS.region ?_))
    refine JO.ofK rfl (JK.buildSlice ttOk rfl rfl rfl rfl rfl rfl rfl rfl rfl rfl rfl [] rfl .byte [(27 : UInt8), (91 : UInt8)] ⟨rfl, rfl⟩ rfl rfl fun a2 => JO.toK ?_)
    refine JO.reg ttOk 1 [] [] [(4, .v (.string (bs x0)))] _ rfl ⟨⟨rfl, trivial⟩, rfl⟩ ?_
    obtain ⟨g3, h⟩ := guardO_some h
    refine JO.appendS' ttOk rfl rfl rfl rfl ⟨rfl, rfl, rfl, rfl, trivial, rfl, rfl, rfl, rfl⟩ rfl rfl [0] rfl g3 rfl fun a4 c5 => JO.reg ttOk 1 [] [] [(2, .v (.slice a4 (([(27 : UInt8), (91 : UInt8)] : List UInt8) ++ x0).length c5))] _ rfl ⟨⟨rfl, trivial⟩, rfl⟩ (JO.done rfl ?_)
    cases h
    exact JS.ret ttOk (a4, c5) trivial rfl rfl [0] rfl

def M_i_EmitGoto (x0 : Int) (x1 : Int) : Option (List UInt8) :=
  (bindO (M_i_in x0 0 199) fun (y3 : Bool) =>
  (callO ((!y3) = false) (M_i_in x1 0 199) false fun (y5 : Bool) =>
  (bif (bif (!y3) then true else (!y5)) then
  some ([])
  else
  (bindO (M_i_NumText (W (x1 + 1))) fun (y8 : List UInt8) =>
  (guardO (((y8.length + ([59] : List UInt8).length : Nat) : Int) ≤ 9223372036854775807) <|
  (bindO (M_i_NumText (W (x0 + 1))) fun (y11 : List UInt8) =>
  (guardO ((((y8 ++ ([59] : List UInt8)).length + y11.length : Nat) : Int) ≤ 9223372036854775807) <|
  (guardO (((((y8 ++ ([59] : List UInt8)) ++ y11).length + ([72] : List UInt8).length : Nat) : Int) ≤ 9223372036854775807) <|
  (bindO (M_i_escape (((y8 ++ ([59] : List UInt8)) ++ y11) ++ ([72] : List UInt8))) fun (y15 : List UInt8) =>
  some y15)))))))))

theorem ok_i_EmitGoto (x0 : Int) (x1 : Int) (r : List UInt8) (h : M_i_EmitGoto x0 x1 = some r) :
    FC Tryd.prog 7 [.int .i64 x0, .int .i64 x1] [] (fun _ : Option Addr × Nat => True) (fun q => .slice q.1 r.length q.2) (fun q => [⟨.byte, ⟨q.1, r.length, q.2⟩, r⟩]) :=
  by
    refine FC.of (T := TTx) Tryd.call7 Tryd.func7 rfl rfl fun w0 => ?_
    unfold M_i_EmitGoto at h
    refine JS.rg0 ttOk 1 [] ⟨trivial, rfl⟩ rfl rfl (JS.seq (JS.seq (JS.region (JO.reg ttOk 1 [] [] [(5, .v (.int .i64 x0))] _ rfl ⟨⟨rfl, trivial⟩, rfl⟩ ?_))))
    obtain ⟨y3, hy4, h⟩ := bindO_some h
    refine JO.call rfl rfl rfl rfl (ok_i_in x0 0 199 _ hy4) rfl [] rfl rfl fun _ _ => JO.reg ttOk 3 [] [] [(8, .v (.bool (!y3))), (9, .cd [(8, false)] (.v (.int .i64 x1)))] _ rfl ⟨(Es rfl), rfl⟩ ?_
    obtain ⟨y5, hy6, -, h⟩ := callO_some h
    refine JO.callg rfl rfl rfl rfl (fun q20 => ok_i_in x1 0 199 _ (hy6 q20)) rfl [] rfl rfl (JO.reg ttOk 2 [] [] [(12, .v (.bool (bif (!y3) then true else (!y5))))] _ rfl ⟨⟨rfl, trivial⟩, rfl⟩ (JO.done rfl ?_))
    refine JS.cond rfl (fun ht21 => ?_) (fun ht21 => ?_)
    · have h := condT h ht21
      refine JS.rg0 ttOk 1 [(4, .v (.slice none 0 0))] ⟨⟨rfl, trivial⟩, rfl⟩ rfl rfl ?_
      cases h
      refine JS.nilO .byte Sl.nil rfl rfl (JS.ret ttOk (none, 0) trivial rfl rfl [0] rfl)
    have h := condF h ht21
    refine JS.skip (JS.seq (JS.region (JO.reg ttOk 2 [(W (x1 + 1))] [] [(14, .v (.int .i64 (W (x1 + 1))))] _ rfl ⟨⟨trivial, rfl⟩, ⟨rfl, trivial⟩, rfl⟩ ?_)))
    obtain ⟨y8, hy9, h⟩ := bindO_some h
    refine JO.call rfl rfl rfl rfl (ok_i_NumText (W (x1 + 1)) _ hy9) rfl [] rfl rfl fun _ _ => ?_
    obtain ⟨g10, h⟩ := guardO_some h
    refine JO.reg ttOk 3 [(W (x0 + 1))] [] [(16, .v (.string (bs (y8 ++ ([59] : List UInt8))))), (18, .v (.int .i64 (W (x0 + 1))))] _ rfl ⟨g10, ⟨trivial, rfl⟩, (Es rfl), rfl⟩ ?_
    obtain ⟨y11, hy12, h⟩ := bindO_some h
    refine JO.call rfl rfl rfl rfl (ok_i_NumText (W (x0 + 1)) _ hy12) rfl [] rfl rfl fun _ _ => ?_
    obtain ⟨g13, h⟩ := guardO_some h
    obtain ⟨g14, h⟩ := guardO_some h
    refine JO.reg ttOk 2 [] [] [(21, .v (.string (bs (((y8 ++ ([59] : List UInt8)) ++ y11) ++ ([72] : List UInt8)))))] _ rfl ⟨g13, g14, ⟨rfl, trivial⟩, rfl⟩ ?_
    obtain ⟨y15, hy16, h⟩ := bindO_some h
    refine JO.call rfl rfl rfl rfl (ok_i_escape (((y8 ++ ([59] : List UInt8)) ++ y11) ++ ([72] : List UInt8)) _ hy16) rfl [] rfl rfl ?_
    rintro ⟨a17, c18⟩ -
    refine JO.reg ttOk 1 [] [] [(4, .v (.slice a17 y15.length c18))] _ rfl ⟨⟨rfl, trivial⟩, rfl⟩ (JO.done rfl ?_)
    cases h
    exact JS.ret ttOk (a17, c18) trivial rfl rfl [0] rfl

def M_i_emitStep1 (x0 : List UInt8) (x1 : List UInt8) : Option (List UInt8) :=
  (bif (decide ((x0.length : Int) ≤ (x1.length : Int))) then
  some x0
  else
  some x1)

theorem ok_i_emitStep1 (x0 : List UInt8) (x1 : List UInt8) (a3 : Option Addr) (c4 : Nat) (l5 : Nat) (hl6 : x0.length = l5) (a7 : Option Addr) (a8 : Option Addr) (c9 : Nat) (l10 : Nat) (hl11 : x1.length = l10) (r : List UInt8) (h : M_i_emitStep1 x0 x1 = some r) :
    FX Tryd.prog 32 [.slice a3 l5 c4, .pointer a7] [] [⟨.byte, ⟨a3, l5, c4⟩, x0⟩, ⟨.val, ⟨a7, 1, 1⟩, [(Sl.v ⟨a8, l10, c9⟩)]⟩, ⟨.byte, ⟨a8, l10, c9⟩, x1⟩] (fun _ : Option Addr × Nat => True) (fun q => .tuple #[]) (fun q => [⟨.val, ⟨a7, 1, 1⟩, [(Sl.v ⟨q.1, r.length, q.2⟩)]⟩, ⟨.byte, ⟨q.1, r.length, q.2⟩, r⟩]) :=
  by
    subst hl6
    subst hl11
    refine FX.of (T := TTx) Tryd.call32 Tryd.func32 rfl rfl fun w0 L0 => ?_
    unfold M_i_emitStep1 at h
    refine JS.ptr 1 a7 rfl ?_
    refine JS.seq (JS.region (JO.reg ttOk 2 [] [] [(4, .v (.int .i64 (x0.length : Int)))] _ rfl ⟨⟨rfl, trivial⟩, rfl⟩ (JO.loadV ttOk rfl rfl rfl rfl rfl rfl 1 rfl rfl 0 0 (Sl.v ⟨a8, x1.length, c9⟩) ⟨rfl, rfl⟩ rfl rfl rfl (JO.reg ttOk 2 [] [] [(7, .v (.bool (decide ((x0.length : Int) ≤ (x1.length : Int)))))] _ rfl ⟨⟨rfl, trivial⟩, rfl⟩ (JO.done rfl ?_)))))
    refine JS.cond rfl (fun ht13 => ?_) (fun ht13 => ?_)
    · have h := condT h ht13
      refine JS.region (JO.reg ttOk 1 [] [] [(8, .v (.slice a3 x0.length c4))] _ rfl ⟨⟨rfl, trivial⟩, rfl⟩ (JO.storeE ttOk rfl rfl rfl rfl rfl rfl rfl rfl rfl [1] (fs := []) rfl 0 0 (Sl.v ⟨a8, x1.length, c9⟩) (Sl.v ⟨a3, x0.length, c4⟩) ⟨rfl, rfl⟩ ⟨rfl, rfl, rfl, rfl⟩ (JO.done rfl ?_)))
      cases h
      exact JS.fallX ttOk (a3, c4) trivial rfl rfl [0, 0] rfl
    have h := condF h ht13
    refine JS.skip ?_
    cases h
    exact JS.fallX ttOk (a8, c9) trivial rfl rfl [1, 1] rfl

def M_i_emitStep (x0 : Int × Int × List Int × Int × Int × Bool) (x1 : Int) (x2 : Int) : Option (List UInt8) :=
  (bif (bif (bif (decide (x1 = x0.2.2.2.1)) then (decide (x2 = x0.2.2.2.2.1)) else false) then (!x0.2.2.2.2.2) else false) then
  some ([])
  else
  (bindO (M_i_EmitGoto x1 x2) fun (y8 : List UInt8) =>
  (joinO (fun (x25 : List UInt8) =>
  (joinO (fun (x42 : List UInt8) =>
  (joinO (fun (x59 : List UInt8) =>
  (joinO (fun (x71 : List UInt8) =>
  some x71) fun j74 =>
  (bif (bif (decide (x1 = 0)) then (decide (x2 = x0.2.2.2.2.1)) else false) then
  (bindO (M_i_emitStep1 ([(13 : UInt8)] : List UInt8) x59) fun (y66 : List UInt8) =>
  j74 y66)
  else
  j74 x59))) fun j62 =>
  (callO ((bif (decide (x2 = x0.2.2.2.2.1)) then (!x0.2.2.2.2.2) else false) = true) (M_i_in (W (x0.2.2.2.1 - x1)) 1 3) false fun (y47 : Bool) =>
  (bif (bif (bif (decide (x2 = x0.2.2.2.2.1)) then (!x0.2.2.2.2.2) else false) then y47 else false) then
  (guardO (0 ≤ (0 : Int) ∧ (0 : Int) ≤ (W (x0.2.2.2.1 - x1)) ∧ (W (x0.2.2.2.1 - x1)) ≤ (([(8 : UInt8), (8 : UInt8), (8 : UInt8)] : List UInt8).length : Int)) <|
  (bindO (M_i_emitStep1 (sub' ([(8 : UInt8), (8 : UInt8), (8 : UInt8)] : List UInt8) 0 (W (x0.2.2.2.1 - x1))) x42) fun (y54 : List UInt8) =>
  j62 y54))
  else
  j62 x42)))) fun j45 =>
  (bif (bif (bif (decide (x2 = x0.2.2.2.2.1)) then (!x0.2.2.2.2.2) else false) then (decide (0 < (W (x1 - x0.2.2.2.1)))) else false) then
  (bindO (M_i_NumText (W (x1 - x0.2.2.2.1))) fun (y30 : List UInt8) =>
  (guardO (((y30.length + ([67] : List UInt8).length : Nat) : Int) ≤ 9223372036854775807) <|
  (bindO (M_i_escape (y30 ++ ([67] : List UInt8))) fun (y33 : List UInt8) =>
  (bindO (M_i_emitStep1 y33 x25) fun (y37 : List UInt8) =>
  j45 y37))))
  else
  j45 x25))) fun j28 =>
  (bif (bif (bif (decide (x2 = x0.2.2.2.2.1)) then (!x0.2.2.2.2.2) else false) then (decide (0 < (W (x0.2.2.2.1 - x1)))) else false) then
  (bindO (M_i_NumText (W (x0.2.2.2.1 - x1))) fun (y13 : List UInt8) =>
  (guardO (((y13.length + ([68] : List UInt8).length : Nat) : Int) ≤ 9223372036854775807) <|
  (bindO (M_i_escape (y13 ++ ([68] : List UInt8))) fun (y16 : List UInt8) =>
  (bindO (M_i_emitStep1 y16 y8) fun (y20 : List UInt8) =>
  j28 y20))))
  else
  j28 y8))))

theorem ok_i_emitStep (x0 : Int × Int × List Int × Int × Int × Bool) (x1 : Int) (x2 : Int) (a4 : Option Addr) (c5 : Nat) (l6 : Nat) (hl7 : x0.2.2.1.length = l6) (r : List UInt8) (h : M_i_emitStep x0 x1 x2 = some r) :
    FC Tryd.prog 18 [.agg #[.int .i64 x0.1, .int .i64 x0.2.1, .slice a4 l6 c5, .int .i64 x0.2.2.2.1, .int .i64 x0.2.2.2.2.1, .bool x0.2.2.2.2.2], .int .i64 x1, .int .i64 x2] [⟨(.int .i64), ⟨a4, l6, c5⟩, x0.2.2.1⟩] (fun _ : Option Addr × Nat => True) (fun q => .slice q.1 r.length q.2) (fun q => [⟨.byte, ⟨q.1, r.length, q.2⟩, r⟩]) :=
  by
    subst hl7
    refine FC.of (T := TTx) Tryd.call18 Tryd.func18 rfl rfl fun w0 => ?_
    unfold M_i_emitStep at h
    refine JS.rgB ttOk 2 [] [2] [(3, .bp 2 0)] (.new 2 25 (cl25 x0 a4 c5) .nil) ⟨⟨rfl, trivial⟩, (Bs rfl rfl)⟩ rfl rfl (JS.seq (JS.rg0 ttOk 15 [(27, .v (.bool (bif (bif (decide (x1 = x0.2.2.2.1)) then (decide (x2 = x0.2.2.2.2.1)) else false) then (!x0.2.2.2.2.2) else false)))] ⟨⟨rfl, trivial⟩, rfl⟩ rfl rfl ?_))
    refine JS.cond rfl (fun ht90 => ?_) (fun ht90 => ?_)
    · have h := condT h ht90
      refine JS.rg0 ttOk 1 [(6, .v (.slice none 0 0))] ⟨⟨rfl, trivial⟩, rfl⟩ rfl rfl ?_
      cases h
      refine JS.nilO .byte Sl.nil rfl rfl (JS.ret ttOk (none, 0) trivial rfl rfl [0] rfl)
    have h := condF h ht90
    refine JS.skip (JS.seq (JS.region (JO.reg ttOk 2 [] [] [(28, .v (.int .i64 x1)), (29, .v (.int .i64 x2))] _ rfl ⟨(Es rfl), rfl⟩ ?_)))
    obtain ⟨y8, hy9, h⟩ := bindO_some h
    refine JO.call rfl rfl rfl rfl (ok_i_EmitGoto x1 x2 _ hy9) rfl [] rfl rfl ?_
    rintro ⟨a10, c11⟩ -
    refine JO.regB ttOk 2 [] [8] [(7, .bp 8 0)] (.new 2 25 (cl25 x0 a4 c5) (.new 8 22 [.slice a10 y8.length c11] .nil)) rfl ⟨⟨rfl, trivial⟩, (Bs rfl rfl)⟩ (JO.done rfl (JS.seq (JS.region (JO.unbox 8 rfl (B' := (.new 2 25 (cl25 x0 a4 c5) .nil)) (Bs rfl rfl) rfl .val (Sl.v ⟨a10, y8.length, c11⟩) ⟨rfl, rfl, rfl⟩ (fun a12 => [(0, .v (.agg (cl25 x0 a4 c5).toArray)), (1, .v (.int .i64 x1)), (2, .v (.int .i64 x2)), (3, .bp 2 0), (7, .ep ⟨a12, 1, 1⟩ 0), (27, .v (.bool (bif (bif (decide (x1 = x0.2.2.2.1)) then (decide (x2 = x0.2.2.2.2.1)) else false) then (!x0.2.2.2.2.2) else false))), (28, .v (.int .i64 x1)), (29, .v (.int .i64 x2)), (30, .v (.slice a10 y8.length c11))]) (fun _ => (Es rfl)) fun a12 => JO.mkFunc rfl rfl rfl rfl rfl rfl (JO.reg ttOk 1 [] [] [(8, .v (.func (.func 32) #[] #[.pointer a12]))] _ rfl ⟨⟨rfl, trivial⟩, rfl⟩ (JO.done rfl (JS.rg0 ttOk 10 [(9, .v (.bool (bif (decide (x2 = x0.2.2.2.2.1)) then (!x0.2.2.2.2.2) else false)))] ⟨⟨rfl, trivial⟩, rfl⟩ rfl rfl ?_)))))))
    obtain ⟨j28, hj89, h⟩ := joinO_some h
    refine JS.seqJ (ι := List UInt8 × Option Addr × Nat) ⟨fun z => j28 z.1 = some r, fun z => [(1, .v (.int .i64 x1)), (2, .v (.int .i64 x2)), (3, .bp 2 0), (7, .ep ⟨a12, 1, 1⟩ 0), (8, .v (.func (.func 32) #[] #[.pointer a12])), (9, .v (.bool (bif (decide (x2 = x0.2.2.2.2.1)) then (!x0.2.2.2.2.2) else false)))], fun z => (.new 2 25 (cl25 x0 a4 c5) .nil), fun z => [⟨(.int .i64), ⟨a4, x0.2.2.1.length, c5⟩, x0.2.2.1⟩], fun z => [⟨.byte, ⟨z.2.1, z.1.length, z.2.2⟩, z.1⟩, ⟨.val, ⟨a12, 1, 1⟩, [(Sl.v ⟨z.2.1, z.1.length, z.2.2⟩)]⟩], fun z => 0⟩ ?_ ?_
    · refine JS.rg ttOk 5 [(W (x0.2.2.2.1 - x1))] [] [(10, .v (.int .i64 (W (x0.2.2.2.1 - x1))))] _ ⟨⟨trivial, rfl⟩, ⟨rfl, trivial⟩, rfl⟩ rfl rfl (JS.rg0 ttOk 5 [(49, .v (.bool (bif (bif (decide (x2 = x0.2.2.2.2.1)) then (!x0.2.2.2.2.2) else false) then (decide (0 < (W (x0.2.2.2.1 - x1)))) else false)))] ⟨⟨rfl, trivial⟩, rfl⟩ rfl rfl ?_)
      refine JS.cond rfl (fun ht81 => ?_) (fun ht81 => ?_)
      · have h := condT h ht81
        refine JS.region (JO.reg ttOk 2 [] [] [(50, .v (.func (.func 32) #[] #[.pointer a12])), (51, .v (.int .i64 (W (x0.2.2.2.1 - x1))))] _ rfl ⟨(Es rfl), rfl⟩ ?_)
        obtain ⟨y13, hy14, h⟩ := bindO_some h
        refine JO.call rfl rfl rfl rfl (ok_i_NumText (W (x0.2.2.2.1 - x1)) _ hy14) rfl [] rfl rfl fun _ _ => ?_
        obtain ⟨g15, h⟩ := guardO_some h
        refine JO.reg ttOk 1 [] [] [(53, .v (.string (bs (y13 ++ ([68] : List UInt8)))))] _ rfl ⟨g15, ⟨rfl, trivial⟩, rfl⟩ ?_
        obtain ⟨y16, hy17, h⟩ := bindO_some h
        refine JO.call rfl rfl rfl rfl (ok_i_escape (y13 ++ ([68] : List UInt8)) _ hy17) rfl [] rfl rfl ?_
        rintro ⟨a18, c19⟩ -
        obtain ⟨y20, hy21, h⟩ := bindO_some h
        refine JO.callXV (vs0 := [.slice a18 y16.length c19]) (caps := [.pointer a12]) rfl rfl rfl rfl rfl (ok_i_emitStep1 y16 y8 a18 c19 y16.length rfl a12 a10 c11 y8.length rfl _ hy21) rfl [0, 0, 0] rfl [] rfl rfl ?_
        rintro ⟨a22, c23⟩ -
        refine JO.done rfl (JS.endJ (y20, a22, c23) h (Es rfl) (Bs rfl rfl) [0] rfl [1, 0] rfl)
      have h := condF h ht81
      refine JS.skip (JS.endJ (y8, a10, c11) h (Es rfl) (Bs rfl rfl) [0] rfl [1, 0] rfl)
    rintro ⟨x25, a26, c27⟩ h
    subst hj89
    obtain ⟨j45, hj88, h⟩ := joinO_some h
    refine JS.seqJ (ι := List UInt8 × Option Addr × Nat) ⟨fun z => j45 z.1 = some r, fun z => [(1, .v (.int .i64 x1)), (2, .v (.int .i64 x2)), (3, .bp 2 0), (7, .ep ⟨a12, 1, 1⟩ 0), (8, .v (.func (.func 32) #[] #[.pointer a12])), (9, .v (.bool (bif (decide (x2 = x0.2.2.2.2.1)) then (!x0.2.2.2.2.2) else false)))], fun z => (.new 2 25 (cl25 x0 a4 c5) .nil), fun z => [⟨(.int .i64), ⟨a4, x0.2.2.1.length, c5⟩, x0.2.2.1⟩], fun z => [⟨.byte, ⟨z.2.1, z.1.length, z.2.2⟩, z.1⟩, ⟨.val, ⟨a12, 1, 1⟩, [(Sl.v ⟨z.2.1, z.1.length, z.2.2⟩)]⟩], fun z => 0⟩ ?_ ?_
    · refine JS.rg ttOk 5 [(W (x1 - x0.2.2.2.1))] [] [(11, .v (.int .i64 (W (x1 - x0.2.2.2.1))))] _ ⟨⟨trivial, rfl⟩, ⟨rfl, trivial⟩, rfl⟩ rfl rfl (JS.rg0 ttOk 5 [(64, .v (.bool (bif (bif (decide (x2 = x0.2.2.2.2.1)) then (!x0.2.2.2.2.2) else false) then (decide (0 < (W (x1 - x0.2.2.2.1)))) else false)))] ⟨⟨rfl, trivial⟩, rfl⟩ rfl rfl ?_)
      refine JS.cond rfl (fun ht82 => ?_) (fun ht82 => ?_)
      · have h := condT h ht82
        refine JS.region (JO.reg ttOk 2 [] [] [(65, .v (.func (.func 32) #[] #[.pointer a12])), (66, .v (.int .i64 (W (x1 - x0.2.2.2.1))))] _ rfl ⟨(Es rfl), rfl⟩ ?_)
        obtain ⟨y30, hy31, h⟩ := bindO_some h
        refine JO.call rfl rfl rfl rfl (ok_i_NumText (W (x1 - x0.2.2.2.1)) _ hy31) rfl [] rfl rfl fun _ _ => ?_
        obtain ⟨g32, h⟩ := guardO_some h
        refine JO.reg ttOk 1 [] [] [(68, .v (.string (bs (y30 ++ ([67] : List UInt8)))))] _ rfl ⟨g32, ⟨rfl, trivial⟩, rfl⟩ ?_
        obtain ⟨y33, hy34, h⟩ := bindO_some h
        refine JO.call rfl rfl rfl rfl (ok_i_escape (y30 ++ ([67] : List UInt8)) _ hy34) rfl [] rfl rfl ?_
        rintro ⟨a35, c36⟩ -
        obtain ⟨y37, hy38, h⟩ := bindO_some h
        refine JO.callXV (vs0 := [.slice a35 y33.length c36]) (caps := [.pointer a12]) rfl rfl rfl rfl rfl (ok_i_emitStep1 y33 x25 a35 c36 y33.length rfl a12 a26 c27 x25.length rfl _ hy38) rfl [0, 1, 0] rfl [] rfl rfl ?_
        rintro ⟨a39, c40⟩ -
        refine JO.done rfl (JS.endJ (y37, a39, c40) h (Es rfl) (Bs rfl rfl) [0] rfl [1, 0] rfl)
      have h := condF h ht82
      refine JS.skip (JS.endJ (x25, a26, c27) h (Es rfl) (Bs rfl rfl) [0] rfl [0, 0] rfl)
    rintro ⟨x42, a43, c44⟩ h
    subst hj88
    obtain ⟨j62, hj87, h⟩ := joinO_some h
    refine JS.seqJ (ι := List UInt8 × Option Addr × Nat) ⟨fun z => j62 z.1 = some r, fun z => [(1, .v (.int .i64 x1)), (2, .v (.int .i64 x2)), (3, .bp 2 0), (7, .ep ⟨a12, 1, 1⟩ 0), (8, .v (.func (.func 32) #[] #[.pointer a12]))], fun z => (.new 2 25 (cl25 x0 a4 c5) .nil), fun z => [⟨(.int .i64), ⟨a4, x0.2.2.1.length, c5⟩, x0.2.2.1⟩], fun z => [⟨.byte, ⟨z.2.1, z.1.length, z.2.2⟩, z.1⟩, ⟨.val, ⟨a12, 1, 1⟩, [(Sl.v ⟨z.2.1, z.1.length, z.2.2⟩)]⟩], fun z => 0⟩ ?_ ?_
    · refine JS.rg ttOk 5 [(W (x0.2.2.2.1 - x1))] [] [(12, .v (.int .i64 (W (x0.2.2.2.1 - x1))))] _ ⟨⟨trivial, rfl⟩, ⟨rfl, trivial⟩, rfl⟩ rfl rfl (JS.seq (JS.region (JO.reg ttOk 3 [] [] [(76, .v (.bool (bif (decide (x2 = x0.2.2.2.2.1)) then (!x0.2.2.2.2.2) else false))), (77, .cd [(76, true)] (.v (.int .i64 (W (x0.2.2.2.1 - x1)))))] _ rfl ⟨(Es rfl), rfl⟩ ?_)))
      obtain ⟨y47, hy48, -, h⟩ := callO_some h
      refine JO.callg rfl rfl rfl rfl (fun q83 => ok_i_in (W (x0.2.2.2.1 - x1)) 1 3 _ (hy48 q83)) rfl [] rfl rfl (JO.reg ttOk 1 [] [] [(79, .v (.bool (bif (bif (decide (x2 = x0.2.2.2.2.1)) then (!x0.2.2.2.2.2) else false) then y47 else false)))] _ rfl ⟨⟨rfl, trivial⟩, rfl⟩ (JO.done rfl ?_))
      refine JS.cond rfl (fun ht84 => ?_) (fun ht84 => ?_)
      · have h := condT h ht84
        refine JS.region (JO.reg ttOk 1 [] [] [(80, .v (.func (.func 32) #[] #[.pointer a12]))] _ rfl ⟨⟨rfl, trivial⟩, rfl⟩ ?_)
        refine JO.ofK rfl (JK.buildSlice ttOk rfl rfl rfl rfl rfl rfl rfl rfl rfl rfl rfl [] rfl .byte [(8 : UInt8), (8 : UInt8), (8 : UInt8)] ⟨rfl, rfl⟩ rfl rfl fun a50 => JO.toK ?_)
        refine JO.reg ttOk 1 [] [] [(82, .v (.int .i64 (W (x0.2.2.2.1 - x1))))] _ rfl ⟨⟨rfl, trivial⟩, rfl⟩ ?_
        obtain ⟨g51, h⟩ := guardO_some h
        refine JO.sliceO' ttOk rfl rfl rfl rfl rfl rfl rfl rfl [0] rfl (0 : Int) (W (x0.2.2.2.1 - x1)) rfl rfl g51 rfl fun a52 c53 => ?_
        obtain ⟨y54, hy55, h⟩ := bindO_some h
        refine JO.callXV (vs0 := [.slice a52 (sub' ([(8 : UInt8), (8 : UInt8), (8 : UInt8)] : List UInt8) 0 (W (x0.2.2.2.1 - x1))).length c53]) (caps := [.pointer a12]) rfl rfl rfl rfl rfl (ok_i_emitStep1 (sub' ([(8 : UInt8), (8 : UInt8), (8 : UInt8)] : List UInt8) 0 (W (x0.2.2.2.1 - x1))) x42 a52 c53 ((sub' ([(8 : UInt8), (8 : UInt8), (8 : UInt8)] : List UInt8) 0 (W (x0.2.2.2.1 - x1))).length) rfl a12 a43 c44 x42.length rfl _ hy55) rfl [0, 1, 0] rfl [] rfl rfl ?_
        rintro ⟨a56, c57⟩ -
        refine JO.done rfl (JS.endJ (y54, a56, c57) h (Es rfl) (Bs rfl rfl) [0] rfl [1, 0] rfl)
      have h := condF h ht84
      refine JS.skip (JS.endJ (x42, a43, c44) h (Es rfl) (Bs rfl rfl) [0] rfl [0, 0] rfl)
    rintro ⟨x59, a60, c61⟩ h
    subst hj87
    obtain ⟨j74, hj86, h⟩ := joinO_some h
    refine JS.seqJ (ι := List UInt8 × Option Addr × Nat) ⟨fun z => j74 z.1 = some r, fun z => [(7, .ep ⟨a12, 1, 1⟩ 0)], fun z => .nil, fun z => [], fun z => [⟨.byte, ⟨z.2.1, z.1.length, z.2.2⟩, z.1⟩, ⟨.val, ⟨a12, 1, 1⟩, [(Sl.v ⟨z.2.1, z.1.length, z.2.2⟩)]⟩], fun z => 0⟩ ?_ ?_
    · refine JS.rg0 ttOk 8 [(92, .v (.bool (bif (decide (x1 = 0)) then (decide (x2 = x0.2.2.2.2.1)) else false)))] ⟨⟨rfl, trivial⟩, rfl⟩ rfl rfl ?_
      refine JS.cond rfl (fun ht85 => ?_) (fun ht85 => ?_)
      · have h := condT h ht85
        refine JS.region (JO.reg ttOk 1 [] [] [(93, .v (.func (.func 32) #[] #[.pointer a12]))] _ rfl ⟨⟨rfl, trivial⟩, rfl⟩ ?_)
        refine JO.ofK rfl (JK.buildSlice ttOk rfl rfl rfl rfl rfl rfl rfl rfl rfl rfl rfl [] rfl .byte [(13 : UInt8)] ⟨rfl, rfl⟩ rfl rfl fun a65 => JO.toK ?_)
        obtain ⟨y66, hy67, h⟩ := bindO_some h
        refine JO.callXV (vs0 := [.slice a65 ([(13 : UInt8)] : List UInt8).length ([(13 : UInt8)] : List UInt8).length]) (caps := [.pointer a12]) rfl rfl rfl rfl rfl (ok_i_emitStep1 ([(13 : UInt8)] : List UInt8) x59 a65 (([(13 : UInt8)] : List UInt8).length) (([(13 : UInt8)] : List UInt8).length) rfl a12 a60 c61 x59.length rfl _ hy67) rfl [0, 1, 0] rfl [] rfl rfl ?_
        rintro ⟨a68, c69⟩ -
        refine JO.done rfl (JS.endJ (y66, a68, c69) h ⟨rfl, trivial⟩ trivial [] rfl [1, 0] rfl)
      have h := condF h ht85
      refine JS.skip (JS.endJ (x59, a60, c61) h ⟨rfl, trivial⟩ trivial [] rfl [0, 0] rfl)
    rintro ⟨x71, a72, c73⟩ h
    subst hj86
    refine JS.seq (JS.region (JO.loadV ttOk rfl rfl rfl rfl rfl rfl 1 rfl rfl 0 0 (Sl.v ⟨a72, x71.length, c73⟩) ⟨rfl, rfl⟩ rfl rfl rfl (JO.reg ttOk 1 [] [] [(6, .v (.slice a72 x71.length c73))] _ rfl ⟨⟨rfl, trivial⟩, rfl⟩ (JO.done rfl ?_))))
    cases h
    exact JS.ret ttOk (a72, c73) trivial rfl rfl [0] rfl

def M_i_EmitStep (x0 : Int × Int × List Int × Int × Int × Bool) (x1 : Int) (x2 : Int) : Option (List UInt8 × Bool) :=
  (bindO (M_i_GridOk x0) fun (y8 : Bool) =>
  (callO ((!y8) = false) (M_i_in x1 0 (W (x0.1 - 1))) false fun (y11 : Bool) =>
  (callO ((bif (!y8) then true else (!y11)) = false) (M_i_in x2 0 (W (x0.2.1 - 1))) false fun (y15 : Bool) =>
  (bif (bif (bif (!y8) then true else (!y11)) then true else (!y15)) then
  some ([], false)
  else
  (bindO (M_i_emitStep x0 x1 x2) fun (y18 : List UInt8) =>
  some (y18, true))))))

theorem ok_i_EmitStep (x0 : Int × Int × List Int × Int × Int × Bool) (x1 : Int) (x2 : Int) (a4 : Option Addr) (c5 : Nat) (l6 : Nat) (hl7 : x0.2.2.1.length = l6) (r : List UInt8 × Bool) (h : M_i_EmitStep x0 x1 x2 = some r) :
    FC Tryd.prog 5 [.agg #[.int .i64 x0.1, .int .i64 x0.2.1, .slice a4 l6 c5, .int .i64 x0.2.2.2.1, .int .i64 x0.2.2.2.2.1, .bool x0.2.2.2.2.2], .int .i64 x1, .int .i64 x2] [⟨(.int .i64), ⟨a4, l6, c5⟩, x0.2.2.1⟩] (fun _ : Option Addr × Nat => True) (fun q => .tuple #[.slice q.1 r.1.length q.2, .bool r.2]) (fun q => [⟨.byte, ⟨q.1, r.1.length, q.2⟩, r.1⟩]) :=
  by
    subst hl7
    refine FC.of (T := TTx) Tryd.call5 Tryd.func5 rfl rfl fun w0 => ?_
    unfold M_i_EmitStep at h
    refine JS.rgB ttOk 3 [] [2] [(3, .bp 2 0)] (.new 2 25 (cl25 x0 a4 c5) .nil) ⟨⟨rfl, trivial⟩, (Bs rfl rfl)⟩ rfl rfl (JS.seq (JS.seq (JS.region (JO.reg ttOk 1 [] [] [(8, .v (.agg (cl25 x0 a4 c5).toArray))] _ rfl ⟨⟨rfl, trivial⟩, rfl⟩ ?_))))
    obtain ⟨y8, hy9, h⟩ := bindO_some h
    refine JO.call rfl rfl rfl rfl (ok_i_GridOk x0 a4 c5 x0.2.2.1.length rfl _ hy9) rfl [0] rfl rfl fun _ _ => JO.reg ttOk 6 [(W (x0.1 - 1))] [] [(11, .v (.bool (!y8))), (12, .cd [(11, false)] (.v (.int .i64 x1))), (15, .cd [(11, false)] (.v (.int .i64 (W (x0.1 - 1)))))] _ rfl ⟨(fun q23 => ⟨trivial, rfl⟩), (Es rfl), rfl⟩ ?_
    obtain ⟨y11, hy12, -, h⟩ := callO_some h
    refine JO.callg rfl rfl rfl rfl (fun q24 => ok_i_in x1 0 (W (x0.1 - 1)) _ (hy12 q24)) rfl [] rfl rfl (JO.reg ttOk 7 [(W (x0.2.1 - 1))] [] [(19, .v (.bool (bif (!y8) then true else (!y11)))), (20, .cd [(19, false)] (.v (.int .i64 x2))), (23, .cd [(19, false)] (.v (.int .i64 (W (x0.2.1 - 1)))))] _ rfl ⟨(fun q25 => ⟨trivial, rfl⟩), (Es rfl), rfl⟩ ?_)
    obtain ⟨y15, hy16, -, h⟩ := callO_some h
    refine JO.callg rfl rfl rfl rfl (fun q26 => ok_i_in x2 0 (W (x0.2.1 - 1)) _ (hy16 q26)) rfl [] rfl rfl (JO.reg ttOk 2 [] [] [(26, .v (.bool (bif (bif (!y8) then true else (!y11)) then true else (!y15))))] _ rfl ⟨⟨rfl, trivial⟩, rfl⟩ (JO.done rfl ?_))
    refine JS.cond rfl (fun ht27 => ?_) (fun ht27 => ?_)
    · have h := condT h ht27
      refine JS.rg0 ttOk 2 [(6, .v (.slice none 0 0)), (7, .v (.bool false))] ⟨(Es rfl), rfl⟩ rfl rfl ?_
      cases h
      refine JS.nilO .byte Sl.nil rfl rfl (JS.ret ttOk (none, 0) trivial rfl rfl [0] rfl)
    have h := condF h ht27
    refine JS.skip (JS.seq (JS.region (JO.reg ttOk 3 [] [] [(27, .v (.agg (cl25 x0 a4 c5).toArray)), (28, .v (.int .i64 x1)), (29, .v (.int .i64 x2))] _ rfl ⟨(Es rfl), rfl⟩ ?_)))
    obtain ⟨y18, hy19, h⟩ := bindO_some h
    refine JO.call rfl rfl rfl rfl (ok_i_emitStep x0 x1 x2 a4 c5 x0.2.2.1.length rfl _ hy19) rfl [0] rfl rfl ?_
    rintro ⟨a20, c21⟩ -
    refine JO.reg ttOk 2 [] [] [(6, .v (.slice a20 y18.length c21)), (7, .v (.bool true))] _ rfl ⟨(Es rfl), rfl⟩ (JO.done rfl ?_)
    cases h
    exact JS.ret ttOk (a20, c21) trivial rfl rfl [0] rfl

def M_i_RuneBegin_L1 (x0 : List UInt8) (x20 : Int) (j54 : (Int × Int) → Option Bool) (k45 : (Int × Int × Int) → Option Bool) : (Int × Int × Int) → Option Bool := fun (x26, x27, x28) =>
  (bif (decide (x28 < x20)) then
  (joinO (fun ((x37, x38) : Int × Int) =>
  k45 (x37, x38, (W (x28 + 1)))) fun j39 =>
  (bif (decide (x28 < (x0.length : Int))) then
  (guardO (0 ≤ x28 ∧ x28 < (x0.length : Int)) <|
  (bindO (M_i_in ((at' x0 x28).toNat : Int) 128 191) fun (y31 : Bool) =>
  (bif (!y31) then
  some false
  else
  (guardO (0 ≤ x28 ∧ x28 < (x0.length : Int)) <|
  (guardO (0 ≤ x28 ∧ x28 < (x0.length : Int)) <|
  j39 ((W ((W ((W (x26 * 64)) + ((at' x0 x28).toNat : Int))) - 128)), (W ((W ((W (x27 * 64)) + ((at' x0 x28).toNat : Int))) - 128))))))))
  else
  j39 ((W (x26 * 64)), (W ((W (x27 * 64)) + 63)))))
  else
  j54 (x26, x27))

def M_i_RuneBegin (x0 : List UInt8) : Option Bool :=
  (bindO (M_i_in (x0.length : Int) 1 3) fun (y6 : Bool) =>
  (bif (!y6) then
  some false
  else
  (guardO (0 ≤ (0 : Int) ∧ 0 < (x0.length : Int)) <|
  (joinO (fun ((x20, x21) : Int × Int) =>
  (bif (decide (x20 ≤ (x0.length : Int))) then
  some false
  else
  (joinO (fun ((x52, x53) : Int × Int) =>
  (guardO (0 ≤ x20 ∧ x20 < (([0, 0, 128, 2048, 65536] : List Int).length : Int)) <|
  some (bif (decide ((max x52 (at' ([0, 0, 128, 2048, 65536] : List Int) x20)) ≤ (min x53 1114111))) then (!(bif (decide (55296 ≤ (max x52 (at' ([0, 0, 128, 2048, 65536] : List Int) x20)))) then (decide ((min x53 1114111) ≤ 57343)) else false)) else false))) fun j54 =>
  (fixF (M_i_RuneBegin_L1 x0 x20 j54) FUEL (x21, x21, 1))))) fun j22 =>
  (bindO (M_i_in ((at' x0 0).toNat : Int) 192 223) fun (y11 : Bool) =>
  (bif y11 then
  j22 (2, (W (((at' x0 0).toNat : Int) - 192)))
  else
  (bindO (M_i_in ((at' x0 0).toNat : Int) 224 239) fun (y13 : Bool) =>
  (bif y13 then
  j22 (3, (W (((at' x0 0).toNat : Int) - 224)))
  else
  (bindO (M_i_in ((at' x0 0).toNat : Int) 240 247) fun (y15 : Bool) =>
  (bif y15 then
  j22 (4, (W (((at' x0 0).toNat : Int) - 240)))
  else
  j22 (0, ((at' x0 0).toNat : Int))))))))))))

theorem ok_i_RuneBegin (x0 : List UInt8) (a2 : Option Addr) (c3 : Nat) (l4 : Nat) (hl5 : x0.length = l4) (r : Bool) (h : M_i_RuneBegin x0 = some r) :
    FC Tryd.prog 33 [.slice a2 l4 c3] [⟨.byte, ⟨a2, l4, c3⟩, x0⟩] (fun _ : Unit => True) (fun _ => .bool r) (fun _ => []) :=
  by
    subst hl5
    refine FC.of (T := TTx) Tryd.call33 Tryd.func33 rfl rfl fun w0 => ?_
    unfold M_i_RuneBegin at h
    refine JS.rg0 ttOk 1 [] ⟨trivial, rfl⟩ rfl rfl (JS.seq (JS.seq (JS.region (JO.reg ttOk 2 [] [] [(10, .v (.int .i64 (x0.length : Int)))] _ rfl ⟨⟨rfl, trivial⟩, rfl⟩ ?_))))
    obtain ⟨y6, hy7, h⟩ := bindO_some h
    refine JO.call rfl rfl rfl rfl (ok_i_in (x0.length : Int) 1 3 _ hy7) rfl [] rfl rfl fun _ _ => JO.reg ttOk 1 [] [] [(12, .v (.bool (!y6)))] _ rfl ⟨⟨rfl, trivial⟩, rfl⟩ (JO.done rfl ?_)
    refine JS.cond rfl (fun ht81 => ?_) (fun ht81 => ?_)
    · have h := condT h ht81
      refine JS.rg0 ttOk 1 [(2, .v (.bool false))] ⟨⟨rfl, trivial⟩, rfl⟩ rfl rfl ?_
      cases h
      exact JS.ret ttOk () trivial rfl rfl [] rfl
    have h := condF h ht81
    refine JS.skip (JS.seq ?_)
    obtain ⟨g9, h⟩ := guardO_some h
    refine JS.know 0 rfl fun hs68 => JS.regionQ rfl (by kernel_rfl) (JQ.reg ttOk 2 [] [(14, .ep ⟨a2, x0.length, c3⟩ (Int.toNat 0 * 1))] rfl ⟨hs68.ix g9, ⟨rfl, trivial⟩⟩ (JQ.load ttOk rfl rfl rfl rfl rfl rfl rfl 0 rfl rfl (Int.toNat 0) 0 (at' x0 0) ⟨at_some g9, rfl⟩ rfl rfl (JQ.reg ttOk 3 [((at' x0 0).toNat : Int)] [(3, .v (.int .i64 0)), (4, .v (.int .i64 ((at' x0 0).toNat : Int)))] rfl ⟨⟨trivial, W_byte _⟩, (Es rfl)⟩ (JQ.done rfl (JS.seq ?_)))))
    obtain ⟨j22, hj80, h⟩ := joinO_some h
    refine JS.blockJ (ι := Int × Int) ⟨fun z => j22 (z.1, z.2) = some r, fun z => [(0, .v (.slice a2 x0.length c3)), (3, .v (.int .i64 z.1)), (4, .v (.int .i64 z.2))], fun z => .nil, fun z => [⟨.byte, ⟨a2, x0.length, c3⟩, x0⟩], fun z => [], fun z => 0⟩ ?_ ?_
    · refine JS.seq (JS.region (JO.reg ttOk 1 [] [] [(18, .v (.int .i64 ((at' x0 0).toNat : Int)))] _ rfl ⟨⟨rfl, trivial⟩, rfl⟩ ?_))
      obtain ⟨y11, hy12, h⟩ := bindO_some h
      refine JO.call rfl rfl rfl rfl (ok_i_in ((at' x0 0).toNat : Int) 192 223 _ hy12) rfl [] rfl rfl fun _ _ => JO.reg ttOk 1 [] [] [(17, .v (.bool y11))] _ rfl ⟨⟨rfl, trivial⟩, rfl⟩ (JO.done rfl ?_)
      refine JS.cond rfl (fun ht71 => ?_) (fun ht71 => ?_)
      · have h := condT h ht71
        refine JS.re ttOk 4 [(W (((at' x0 0).toNat : Int) - 192))] [] [(3, .v (.int .i64 2)), (4, .v (.int .i64 (W (((at' x0 0).toNat : Int) - 192))))] _ ⟨⟨trivial, rfl⟩, (Es rfl), rfl⟩ rfl rfl (JS.endB (JS.endJ (2, (W (((at' x0 0).toNat : Int) - 192))) h (Es rfl) trivial [0] rfl [] rfl))
      have h := condF h ht71
      refine JS.seq (JS.region (JO.reg ttOk 1 [] [] [(23, .v (.int .i64 ((at' x0 0).toNat : Int)))] _ rfl ⟨⟨rfl, trivial⟩, rfl⟩ ?_))
      obtain ⟨y13, hy14, h⟩ := bindO_some h
      refine JO.call rfl rfl rfl rfl (ok_i_in ((at' x0 0).toNat : Int) 224 239 _ hy14) rfl [] rfl rfl fun _ _ => JO.reg ttOk 1 [] [] [(22, .v (.bool y13))] _ rfl ⟨⟨rfl, trivial⟩, rfl⟩ (JO.done rfl ?_)
      refine JS.cond rfl (fun ht70 => ?_) (fun ht70 => ?_)
      · have h := condT h ht70
        refine JS.re ttOk 4 [(W (((at' x0 0).toNat : Int) - 224))] [] [(3, .v (.int .i64 3)), (4, .v (.int .i64 (W (((at' x0 0).toNat : Int) - 224))))] _ ⟨⟨trivial, rfl⟩, (Es rfl), rfl⟩ rfl rfl (JS.endB (JS.endJ (3, (W (((at' x0 0).toNat : Int) - 224))) h (Es rfl) trivial [0] rfl [] rfl))
      have h := condF h ht70
      refine JS.seq (JS.region (JO.reg ttOk 1 [] [] [(28, .v (.int .i64 ((at' x0 0).toNat : Int)))] _ rfl ⟨⟨rfl, trivial⟩, rfl⟩ ?_))
      obtain ⟨y15, hy16, h⟩ := bindO_some h
      refine JO.call rfl rfl rfl rfl (ok_i_in ((at' x0 0).toNat : Int) 240 247 _ hy16) rfl [] rfl rfl fun _ _ => JO.reg ttOk 1 [] [] [(27, .v (.bool y15))] _ rfl ⟨⟨rfl, trivial⟩, rfl⟩ (JO.done rfl ?_)
      refine JS.cond rfl (fun ht69 => ?_) (fun ht69 => ?_)
      · have h := condT h ht69
        refine JS.re ttOk 4 [(W (((at' x0 0).toNat : Int) - 240))] [] [(3, .v (.int .i64 4)), (4, .v (.int .i64 (W (((at' x0 0).toNat : Int) - 240))))] _ ⟨⟨trivial, rfl⟩, (Es rfl), rfl⟩ rfl rfl (JS.endB (JS.endJ (4, (W (((at' x0 0).toNat : Int) - 240))) h (Es rfl) trivial [0] rfl [] rfl))
      have h := condF h ht69
      refine JS.skip (JS.endB (JS.endJ (0, ((at' x0 0).toNat : Int)) h (Es rfl) trivial [0] rfl [] rfl))
    rintro ⟨x20, x21⟩ h
    subst hj80
    refine JS.seq (JS.rg0 ttOk 4 [(35, .v (.bool (decide (x20 ≤ (x0.length : Int)))))] ⟨⟨rfl, trivial⟩, rfl⟩ rfl rfl ?_)
    refine JS.cond rfl (fun ht79 => ?_) (fun ht79 => ?_)
    · have h := condT h ht79
      refine JS.rg0 ttOk 1 [(2, .v (.bool false))] ⟨⟨rfl, trivial⟩, rfl⟩ rfl rfl ?_
      cases h
      exact JS.ret ttOk () trivial rfl rfl [] rfl
    have h := condF h ht79
    refine JS.skip (JS.rg0 ttOk 4 [(5, .v (.int .i64 x21)), (6, .v (.int .i64 x21))] ⟨(Es rfl), rfl⟩ rfl rfl (JS.seq (JS.rg0 ttOk 1 [(7, .v (.int .i64 1))] ⟨⟨rfl, trivial⟩, rfl⟩ rfl rfl ?_)))
    obtain ⟨j54, hj78, h⟩ := joinO_some h
    refine JS.blockJ (ι := Int × Int) ⟨fun z => j54 (z.1, z.2) = some r, fun z => [(3, .v (.int .i64 x20)), (5, .v (.int .i64 z.1)), (6, .v (.int .i64 z.2))], fun z => .nil, fun z => [], fun z => [], fun z => 0⟩ ?_ ?_
    · refine JS.loop (ι := Nat × Int × Int × Int) ⟨fun z => fixF (M_i_RuneBegin_L1 x0 x20 j54) z.1 (z.2.1, z.2.2.1, z.2.2.2) = some r, fun z => [(0, .v (.slice a2 x0.length c3)), (3, .v (.int .i64 x20)), (5, .v (.int .i64 z.2.1)), (6, .v (.int .i64 z.2.2.1)), (7, .v (.int .i64 z.2.2.2))], fun z => .nil, fun z => [⟨.byte, ⟨a2, x0.length, c3⟩, x0⟩], fun z => [], fun z => z.1⟩ (FUEL, x21, x21, 1) h (Es rfl) trivial [0] rfl [] rfl ?_
      rintro ⟨n46, x26, x27, x28⟩ h
      obtain ⟨n46, rfl, h⟩ := fixF_some h
      rw [M_i_RuneBegin_L1] at h
      refine JS.seq (JS.rg0 ttOk 3 [(40, .v (.bool (decide (x28 < x20))))] ⟨⟨rfl, trivial⟩, rfl⟩ rfl rfl ?_)
      refine JS.cond rfl (fun ht76 => ?_) (fun ht76 => ?_)
      · have h := condT h ht76
        refine JS.skip (JS.seq ?_)
        obtain ⟨j39, hj75, h⟩ := joinO_some h
        refine JS.blockJ (ι := Int × Int) ⟨fun z => j39 (z.1, z.2) = some r, fun z => [(0, .v (.slice a2 x0.length c3)), (3, .v (.int .i64 x20)), (5, .v (.int .i64 z.1)), (6, .v (.int .i64 z.2)), (7, .v (.int .i64 x28))], fun z => .nil, fun z => [⟨.byte, ⟨a2, x0.length, c3⟩, x0⟩], fun z => [], fun z => 0⟩ ?_ ?_
        · refine JS.rg0 ttOk 4 [(46, .v (.bool (decide (x28 < (x0.length : Int)))))] ⟨⟨rfl, trivial⟩, rfl⟩ rfl rfl ?_
          refine JS.cond rfl (fun ht74 => ?_) (fun ht74 => ?_)
          · have h := condT h ht74
            refine JS.seq (JS.seq (JS.region (JO.know 0 rfl fun hs72 => ?_)))
            obtain ⟨g30, h⟩ := guardO_some h
            refine JO.reg ttOk 3 [] [] [(49, .ep ⟨a2, x0.length, c3⟩ (Int.toNat x28 * 1))] _ rfl ⟨hs72.ix g30, ⟨rfl, trivial⟩, rfl⟩ (JO.load ttOk rfl rfl rfl rfl rfl rfl rfl 0 rfl rfl (Int.toNat x28) 0 (at' x0 x28) ⟨at_some g30, rfl⟩ rfl rfl (JO.reg ttOk 1 [((at' x0 x28).toNat : Int)] [] [(51, .v (.int .i64 ((at' x0 x28).toNat : Int)))] _ rfl ⟨⟨trivial, W_byte _⟩, ⟨rfl, trivial⟩, rfl⟩ ?_))
            obtain ⟨y31, hy32, h⟩ := bindO_some h
            refine JO.call rfl rfl rfl rfl (ok_i_in ((at' x0 x28).toNat : Int) 128 191 _ hy32) rfl [] rfl rfl fun _ _ => JO.reg ttOk 1 [] [] [(53, .v (.bool (!y31)))] _ rfl ⟨⟨rfl, trivial⟩, rfl⟩ (JO.done rfl ?_)
            refine JS.cond rfl (fun ht73 => ?_) (fun ht73 => ?_)
            · have h := condT h ht73
              refine JS.rg0 ttOk 1 [(2, .v (.bool false))] ⟨⟨rfl, trivial⟩, rfl⟩ rfl rfl ?_
              cases h
              exact JS.ret ttOk () trivial rfl rfl [] rfl
            have h := condF h ht73
            refine JS.skip ?_
            obtain ⟨g33, h⟩ := guardO_some h
            obtain ⟨g34, h⟩ := guardO_some h
            refine JS.regionQ rfl (by kernel_rfl) (JQ.reg ttOk 5 [(W (x26 * 64))] [(55, .v (.int .i64 (W (x26 * 64)))), (58, .ep ⟨a2, x0.length, c3⟩ (Int.toNat x28 * 1))] rfl ⟨⟨trivial, rfl⟩, hs72.ix g33, (Es rfl)⟩ (JQ.load ttOk rfl rfl rfl rfl rfl rfl rfl 0 rfl rfl (Int.toNat x28) 0 (at' x0 x28) ⟨at_some g33, rfl⟩ rfl rfl (JQ.reg ttOk 8 [((at' x0 x28).toNat : Int), (W ((W (x26 * 64)) + ((at' x0 x28).toNat : Int))), (W ((W ((W (x26 * 64)) + ((at' x0 x28).toNat : Int))) - 128)), (W (x27 * 64))] [(62, .v (.int .i64 (W ((W ((W (x26 * 64)) + ((at' x0 x28).toNat : Int))) - 128)))), (64, .v (.int .i64 (W (x27 * 64)))), (67, .ep ⟨a2, x0.length, c3⟩ (Int.toNat x28 * 1))] rfl ⟨⟨trivial, W_byte _⟩, ⟨trivial, rfl⟩, ⟨trivial, rfl⟩, ⟨trivial, rfl⟩, hs72.ix g34, (Es rfl)⟩ (JQ.load ttOk rfl rfl rfl rfl rfl rfl rfl 0 rfl rfl (Int.toNat x28) 0 (at' x0 x28) ⟨at_some g34, rfl⟩ rfl rfl (JQ.reg ttOk 5 [((at' x0 x28).toNat : Int), (W ((W (x27 * 64)) + ((at' x0 x28).toNat : Int))), (W ((W ((W (x27 * 64)) + ((at' x0 x28).toNat : Int))) - 128))] [(5, .v (.int .i64 (W ((W ((W (x26 * 64)) + ((at' x0 x28).toNat : Int))) - 128)))), (6, .v (.int .i64 (W ((W ((W (x27 * 64)) + ((at' x0 x28).toNat : Int))) - 128))))] rfl ⟨⟨trivial, W_byte _⟩, ⟨trivial, rfl⟩, ⟨trivial, rfl⟩, (Es rfl)⟩ (JQ.done rfl (JS.endB (JS.endJ ((W ((W ((W (x26 * 64)) + ((at' x0 x28).toNat : Int))) - 128)), (W ((W ((W (x27 * 64)) + ((at' x0 x28).toNat : Int))) - 128))) h (Es rfl) trivial [0] rfl [] rfl))))))))
          have h := condF h ht74
          refine JS.re ttOk 7 [(W (x26 * 64)), (W (x27 * 64)), (W ((W (x27 * 64)) + 63))] [] [(5, .v (.int .i64 (W (x26 * 64)))), (6, .v (.int .i64 (W ((W (x27 * 64)) + 63))))] _ ⟨⟨trivial, rfl⟩, ⟨trivial, rfl⟩, ⟨trivial, rfl⟩, (Es rfl), rfl⟩ rfl rfl (JS.endB (JS.endJ ((W (x26 * 64)), (W ((W (x27 * 64)) + 63))) h (Es rfl) trivial [0] rfl [] rfl))
        rintro ⟨x37, x38⟩ h
        subst hj75
        refine JS.re ttOk 3 [(W (x28 + 1))] [] [(7, .v (.int .i64 (W (x28 + 1))))] _ ⟨⟨trivial, rfl⟩, ⟨rfl, trivial⟩, rfl⟩ rfl rfl (JS.endL (n46, x37, x38, (W (x28 + 1))) h (Nat.lt_succ_self _) (Es rfl) trivial [0] rfl [] rfl)
      have h := condF h ht76
      refine JS.exit rfl (JS.endJ (x26, x27) h (Es rfl) trivial [] rfl [] rfl)
    rintro ⟨x52, x53⟩ h
    subst hj78
    refine JS.seq (JS.region ?_)
    refine JO.ofK rfl (JK.buildSlice ttOk rfl rfl rfl rfl rfl rfl rfl rfl rfl rfl rfl [] rfl (.int .i64) [0, 0, 128, 2048, 65536] ⟨rfl, rfl⟩ rfl rfl fun a60 => JO.toK ?_)
    refine JO.know 0 rfl fun hs77 => ?_
    obtain ⟨g62, h⟩ := guardO_some h
    refine JO.reg ttOk 2 [] [] [(79, .ep ⟨a60, ([0, 0, 128, 2048, 65536] : List Int).length, ([0, 0, 128, 2048, 65536] : List Int).length⟩ (Int.toNat x20 * 1))] _ rfl ⟨hs77.ix g62, ⟨rfl, trivial⟩, rfl⟩ (JO.load ttOk rfl rfl rfl rfl rfl rfl rfl 0 rfl rfl (Int.toNat x20) 0 (at' ([0, 0, 128, 2048, 65536] : List Int) x20) ⟨at_some g62, rfl⟩ rfl rfl (JO.reg ttOk 1 [] [] [(8, .v (.int .i64 (at' ([0, 0, 128, 2048, 65536] : List Int) x20)))] _ rfl ⟨⟨rfl, trivial⟩, rfl⟩ (JO.done rfl (JS.rg0 ttOk 7 [(5, .v (.int .i64 (max x52 (at' ([0, 0, 128, 2048, 65536] : List Int) x20)))), (6, .v (.int .i64 (min x53 1114111)))] ⟨(Es rfl), rfl⟩ rfl rfl (JS.rg0 ttOk 13 [(2, .v (.bool (bif (decide ((max x52 (at' ([0, 0, 128, 2048, 65536] : List Int) x20)) ≤ (min x53 1114111))) then (!(bif (decide (55296 ≤ (max x52 (at' ([0, 0, 128, 2048, 65536] : List Int) x20)))) then (decide ((min x53 1114111) ≤ 57343)) else false)) else false)))] ⟨⟨rfl, trivial⟩, rfl⟩ rfl rfl ?_)))))
    cases h
    exact JS.ret ttOk () trivial rfl rfl [] rfl

def M_i_VtOk_L1 (x0 : (Int × Int × List Int × Int × Int × Bool) × Int × List Int × List UInt8 × Int) (j53 : Unit → Option Bool) (k48 : Int → Option Bool) : Int → Option Bool := fun x22 =>
  (bif (decide (x22 < (x0.2.2.1.length : Int))) then
  (guardO (0 ≤ x22 ∧ x22 < (x0.2.2.1.length : Int)) <|
  (bindO (M_i_in (at' x0.2.2.1 x22) 0 9999) fun (y41 : Bool) =>
  (bif (!y41) then
  some false
  else
  k48 (W (x22 + 1)))))
  else
  j53 ())

def M_i_VtOk (x0 : (Int × Int × List Int × Int × Int × Bool) × Int × List Int × List UInt8 × Int) : Option Bool :=
  (bindO (M_i_GridOk x0.1) fun (y14 : Bool) =>
  (callO ((!y14) = false) (M_i_in x0.2.1 0 2) false fun (y16 : Bool) =>
  (callO ((bif (bif (bif (!y14) then true else (!y16)) then true else (decide (4 < (x0.2.2.1.length : Int)))) then true else (bif (decide (0 < (x0.2.2.1.length : Int))) then (!(decide (x0.2.1 = 2))) else false)) = false) (M_i_in x0.2.2.2.2 0 1000000) false fun (y19 : Bool) =>
  (bif (bif (bif (bif (bif (!y14) then true else (!y16)) then true else (decide (4 < (x0.2.2.1.length : Int)))) then true else (bif (decide (0 < (x0.2.2.1.length : Int))) then (!(decide (x0.2.1 = 2))) else false)) then true else (!y19)) then
  some false
  else
  (joinO (fun (_ : Unit) =>
  (callO ((decide (x0.2.1 = 0)) = true ∧ (decide ((x0.2.2.2.1.length : Int) = 0)) = false) (M_i_RuneBegin x0.2.2.2.1) false fun (y57 : Bool) =>
  some (bif (decide ((x0.2.2.2.1.length : Int) = 0)) then true else (bif (decide (x0.2.1 = 0)) then y57 else false)))) fun j53 =>
  (fixF (M_i_VtOk_L1 x0 j53) FUEL 0))))))

theorem ok_i_VtOk (x0 : (Int × Int × List Int × Int × Int × Bool) × Int × List Int × List UInt8 × Int) (a2 : Option Addr) (c3 : Nat) (l4 : Nat) (hl5 : x0.1.2.2.1.length = l4) (a6 : Option Addr) (c7 : Nat) (l8 : Nat) (hl9 : x0.2.2.1.length = l8) (a10 : Option Addr) (c11 : Nat) (l12 : Nat) (hl13 : x0.2.2.2.1.length = l12) (r : Bool) (h : M_i_VtOk x0 = some r) :
    FC Tryd.prog 19 [.agg #[.int .i64 x0.1.1, .int .i64 x0.1.2.1, .slice a2 l4 c3, .int .i64 x0.1.2.2.2.1, .int .i64 x0.1.2.2.2.2.1, .bool x0.1.2.2.2.2.2, .int .i64 x0.2.1, .slice a6 l8 c7, .slice a10 l12 c11, .int .i64 x0.2.2.2.2]] [⟨(.int .i64), ⟨a2, l4, c3⟩, x0.1.2.2.1⟩, ⟨(.int .i64), ⟨a6, l8, c7⟩, x0.2.2.1⟩, ⟨.byte, ⟨a10, l12, c11⟩, x0.2.2.2.1⟩] (fun _ : Unit => True) (fun _ => .bool r) (fun _ => []) :=
  by
    subst hl5
    subst hl9
    subst hl13
    refine FC.of (T := TTx) Tryd.call19 Tryd.func19 rfl rfl fun w0 => ?_
    unfold M_i_VtOk at h
    refine JS.rgB ttOk 2 [] [4] [(1, .bp 4 0)] (.new 4 31 (cl31 x0 a2 c3 a6 c7 a10 c11) .nil) ⟨⟨rfl, trivial⟩, (Bs rfl rfl)⟩ rfl rfl (JS.seq (JS.seq (JS.region (JO.reg ttOk 2 [] [] [(6, .v (.agg (cl25 x0.1 a2 c3).toArray))] _ rfl ⟨⟨rfl, trivial⟩, rfl⟩ ?_))))
    obtain ⟨y14, hy15, h⟩ := bindO_some h
    refine JO.call rfl rfl rfl rfl (ok_i_GridOk x0.1 a2 c3 x0.1.2.2.1.length rfl _ hy15) rfl [0] rfl rfl fun _ _ => JO.reg ttOk 4 [] [] [(9, .v (.bool (!y14))), (11, .cd [(9, false)] (.v (.int .i64 x0.2.1)))] _ rfl ⟨(Es rfl), rfl⟩ ?_
    obtain ⟨y16, hy17, -, h⟩ := callO_some h
    refine JO.callg rfl rfl rfl rfl (fun q63 => ok_i_in x0.2.1 0 2 _ (hy17 q63)) rfl [] rfl rfl (JO.reg ttOk 22 [] [] [(32, .v (.bool (bif (bif (bif (!y14) then true else (!y16)) then true else (decide (4 < (x0.2.2.1.length : Int)))) then true else (bif (decide (0 < (x0.2.2.1.length : Int))) then (!(decide (x0.2.1 = 2))) else false)))), (34, .cd [(32, false)] (.v (.int .i64 x0.2.2.2.2)))] _ rfl ⟨(Es rfl), rfl⟩ ?_)
    obtain ⟨y19, hy20, -, h⟩ := callO_some h
    refine JO.callg rfl rfl rfl rfl (fun q64 => ok_i_in x0.2.2.2.2 0 1000000 _ (hy20 q64)) rfl [] rfl rfl (JO.reg ttOk 2 [] [] [(37, .v (.bool (bif (bif (bif (bif (!y14) then true else (!y16)) then true else (decide (4 < (x0.2.2.1.length : Int)))) then true else (bif (decide (0 < (x0.2.2.1.length : Int))) then (!(decide (x0.2.1 = 2))) else false)) then true else (!y19))))] _ rfl ⟨⟨rfl, trivial⟩, rfl⟩ (JO.done rfl ?_))
    refine JS.cond rfl (fun ht71 => ?_) (fun ht71 => ?_)
    · have h := condT h ht71
      refine JS.rg0 ttOk 1 [(2, .v (.bool false))] ⟨⟨rfl, trivial⟩, rfl⟩ rfl rfl ?_
      cases h
      exact JS.ret ttOk () trivial rfl rfl [] rfl
    have h := condF h ht71
    refine JS.skip (JS.seq (JS.rg0 ttOk 4 [(39, .v (.slice a6 x0.2.2.1.length c7)), (40, .v (.int .i64 (x0.2.2.1.length : Int))), (41, .v (.int .i64 0))] ⟨(Es rfl), rfl⟩ rfl rfl ?_))
    obtain ⟨j53, hj70, h⟩ := joinO_some h
    refine JS.blockJ (ι := Unit) ⟨fun _ => j53 () = some r, fun _ => [(1, .bp 4 0)], fun _ => (.new 4 31 (cl31 x0 a2 c3 a6 c7 a10 c11) .nil), fun _ => [⟨(.int .i64), ⟨a2, x0.1.2.2.1.length, c3⟩, x0.1.2.2.1⟩, ⟨(.int .i64), ⟨a6, x0.2.2.1.length, c7⟩, x0.2.2.1⟩, ⟨.byte, ⟨a10, x0.2.2.2.1.length, c11⟩, x0.2.2.2.1⟩], fun _ => [], fun _ => 0⟩ ?_ ?_
    · refine JS.loop (ι := Nat × Int) ⟨fun z => fixF (M_i_VtOk_L1 x0 j53) z.1 z.2 = some r, fun z => [(1, .bp 4 0), (39, .v (.slice a6 x0.2.2.1.length c7)), (40, .v (.int .i64 (x0.2.2.1.length : Int))), (41, .v (.int .i64 z.2))], fun z => (.new 4 31 (cl31 x0 a2 c3 a6 c7 a10 c11) .nil), fun z => [⟨(.int .i64), ⟨a6, x0.2.2.1.length, c7⟩, x0.2.2.1⟩, ⟨(.int .i64), ⟨a2, x0.1.2.2.1.length, c3⟩, x0.1.2.2.1⟩, ⟨.byte, ⟨a10, x0.2.2.2.1.length, c11⟩, x0.2.2.2.1⟩], fun z => [], fun z => z.1⟩ (FUEL, 0) h (Es rfl) (Bs rfl rfl) [1, 0, 2] rfl [] rfl ?_
      rintro ⟨n49, x22⟩ h
      obtain ⟨n49, rfl, h⟩ := fixF_some h
      rw [M_i_VtOk_L1] at h
      refine JS.rg0 ttOk 1 [(42, .v (.bool (decide (x22 < (x0.2.2.1.length : Int)))))] ⟨⟨rfl, trivial⟩, rfl⟩ rfl rfl (JS.seq ?_)
      refine JS.cond rfl (fun ht67 => ?_) (fun ht67 => ?_)
      · have h := condT h ht67
        refine JS.skip (JS.seq (JS.block (JS.seq (JS.region (JO.know 0 rfl fun hs65 => ?_)))))
        obtain ⟨g40, h⟩ := guardO_some h
        refine JO.reg ttOk 1 [] [] [(43, .ep ⟨a6, x0.2.2.1.length, c7⟩ (Int.toNat x22 * 1))] _ rfl ⟨hs65.ix g40, ⟨rfl, trivial⟩, rfl⟩ (JO.load ttOk rfl rfl rfl rfl rfl rfl rfl 0 rfl rfl (Int.toNat x22) 0 (at' x0.2.2.1 x22) ⟨at_some g40, rfl⟩ rfl rfl (JO.reg ttOk 1 [] [] [(4, .v (.int .i64 (at' x0.2.2.1 x22)))] _ rfl ⟨⟨rfl, trivial⟩, rfl⟩ (JO.done rfl (JS.seq (JS.region (JO.reg ttOk 1 [] [] [(45, .v (.int .i64 (at' x0.2.2.1 x22)))] _ rfl ⟨⟨rfl, trivial⟩, rfl⟩ ?_))))))
        obtain ⟨y41, hy42, h⟩ := bindO_some h
        refine JO.call rfl rfl rfl rfl (ok_i_in (at' x0.2.2.1 x22) 0 9999 _ hy42) rfl [] rfl rfl fun _ _ => JO.reg ttOk 1 [] [] [(47, .v (.bool (!y41)))] _ rfl ⟨⟨rfl, trivial⟩, rfl⟩ (JO.done rfl ?_)
        refine JS.cond rfl (fun ht66 => ?_) (fun ht66 => ?_)
        · have h := condT h ht66
          refine JS.rg0 ttOk 1 [(2, .v (.bool false))] ⟨⟨rfl, trivial⟩, rfl⟩ rfl rfl ?_
          cases h
          exact JS.ret ttOk () trivial rfl rfl [] rfl
        have h := condF h ht66
        refine JS.skip (JS.endB (JS.re ttOk 2 [(W (x22 + 1))] [] [(41, .v (.int .i64 (W (x22 + 1))))] _ ⟨⟨trivial, rfl⟩, ⟨rfl, trivial⟩, rfl⟩ rfl rfl (JS.endL (n49, (W (x22 + 1))) h (Nat.lt_succ_self _) (Es rfl) (Bs rfl rfl) [0, 1, 2] rfl [] rfl)))
      have h := condF h ht67
      refine JS.exit rfl (JS.endJ () h ⟨rfl, trivial⟩ (Bs rfl rfl) [1, 0, 2] rfl [] rfl)
    rintro _ h
    subst hj70
    refine JS.seq (JS.region (JO.reg ttOk 11 [] [] [(53, .v (.bool (decide ((x0.2.2.2.1.length : Int) = 0)))), (57, .cd [(53, false)] (.v (.bool (decide (x0.2.1 = 0))))), (59, .cd [(57, true), (53, false)] (.v (.slice a10 x0.2.2.2.1.length c11)))] _ rfl ⟨(Es rfl), rfl⟩ ?_))
    obtain ⟨y57, hy58, -, h⟩ := callO_some h
    refine JO.callg rfl rfl rfl rfl (fun q68 q69 => ok_i_RuneBegin x0.2.2.2.1 a10 c11 x0.2.2.2.1.length rfl _ (hy58 ⟨q68, q69⟩)) rfl [2] rfl rfl (JO.reg ttOk 3 [] [] [(2, .v (.bool (bif (decide ((x0.2.2.2.1.length : Int) = 0)) then true else (bif (decide (x0.2.1 = 0)) then y57 else false))))] _ rfl ⟨⟨rfl, trivial⟩, rfl⟩ (JO.done rfl ?_))
    cases h
    exact JS.ret ttOk () trivial rfl rfl [] rfl

def M_i_copyInts (x0 : List Int) : Option (List Int) :=
  (guardO (([] : List Int).length + x0.length ≤ 536870912) <|
  some (([] : List Int) ++ x0))

theorem ok_i_copyInts (x0 : List Int) (a2 : Option Addr) (c3 : Nat) (l4 : Nat) (hl5 : x0.length = l4) (r : List Int) (h : M_i_copyInts x0 = some r) :
    FC Tryd.prog 35 [.slice a2 l4 c3] [⟨(.int .i64), ⟨a2, l4, c3⟩, x0⟩] (fun _ : Option Addr × Nat => True) (fun q => .slice q.1 r.length q.2) (fun q => [⟨(.int .i64), ⟨q.1, r.length, q.2⟩, r⟩]) :=
  by
    subst hl5
    refine FC.of (T := TTx) Tryd.call35 Tryd.func35 rfl rfl fun w0 => ?_
    unfold M_i_copyInts at h
    refine JS.rg0 ttOk 1 [] ⟨trivial, rfl⟩ rfl rfl (JS.seq (JS.region (JO.reg ttOk 1 [] [] [(3, .v (.slice a2 x0.length c3))] _ rfl ⟨⟨rfl, trivial⟩, rfl⟩ ?_)))
    obtain ⟨g6, h⟩ := guardO_some h
    refine JO.nilO (.int .i64) Sl.nil rfl rfl (JO.appendR' ttOk rfl rfl rfl rfl ⟨rfl, rfl, rfl, rfl, trivial, rfl, rfl, rfl, rfl⟩ rfl rfl rfl [0] rfl 0 rfl g6 rfl fun a7 c8 => JO.reg ttOk 1 [] [] [(2, .v (.slice a7 (([] : List Int) ++ x0).length c8))] _ rfl ⟨⟨rfl, trivial⟩, rfl⟩ (JO.done rfl ?_))
    cases h
    exact JS.ret ttOk (a7, c8) trivial rfl rfl [0] rfl

def M_i_copyGrid (x0 : Int × Int × List Int × Int × Int × Bool) : Option (Int × Int × List Int × Int × Int × Bool) :=
  (bindO (M_i_copyInts x0.2.2.1) fun (y6 : List Int) =>
  some (x0.1, x0.2.1, y6, x0.2.2.2.1, x0.2.2.2.2.1, x0.2.2.2.2.2))

theorem ok_i_copyGrid (x0 : Int × Int × List Int × Int × Int × Bool) (a2 : Option Addr) (c3 : Nat) (l4 : Nat) (hl5 : x0.2.2.1.length = l4) (r : Int × Int × List Int × Int × Int × Bool) (h : M_i_copyGrid x0 = some r) :
    FC Tryd.prog 34 [.agg #[.int .i64 x0.1, .int .i64 x0.2.1, .slice a2 l4 c3, .int .i64 x0.2.2.2.1, .int .i64 x0.2.2.2.2.1, .bool x0.2.2.2.2.2]] [⟨(.int .i64), ⟨a2, l4, c3⟩, x0.2.2.1⟩] (fun _ : Option Addr × Nat => True) (fun q => .agg (cl25 r q.1 q.2).toArray) (fun q => [⟨(.int .i64), ⟨q.1, r.2.2.1.length, q.2⟩, r.2.2.1⟩]) :=
  by
    subst hl5
    refine FC.of (T := TTx) Tryd.call34 Tryd.func34 rfl rfl fun w0 => ?_
    unfold M_i_copyGrid at h
    refine JS.rgB ttOk 2 [] [2, 3] [(1, .bp 2 0), (2, .bp 3 0)] (.new 2 25 (cl25 x0 a2 c3) (.new 3 25 (cl25 (0, 0, [], 0, 0, false) none 0) .nil)) ⟨(Es rfl), (Bs rfl rfl)⟩ rfl rfl (JS.seq (JS.region (JO.reg ttOk 2 [] [] [(4, .v (.slice a2 x0.2.2.1.length c3))] _ rfl ⟨⟨rfl, trivial⟩, rfl⟩ ?_)))
    obtain ⟨y6, hy7, h⟩ := bindO_some h
    refine JO.call rfl rfl rfl rfl (ok_i_copyInts x0.2.2.1 a2 c3 x0.2.2.1.length rfl _ hy7) rfl [0] rfl rfl ?_
    rintro ⟨a8, c9⟩ -
    refine JO.regB ttOk 2 [] [] [] (.new 2 25 (cl25 (x0.1, x0.2.1, y6, x0.2.2.2.1, x0.2.2.2.2.1, x0.2.2.2.2.2) a8 c9) (.new 3 25 (cl25 (0, 0, [], 0, 0, false) none 0) .nil)) rfl ⟨trivial, (Bs rfl rfl)⟩ (JO.done rfl (JS.rgB ttOk 2 [] [] [] (.new 3 25 (cl25 (x0.1, x0.2.1, y6, x0.2.2.2.1, x0.2.2.2.2.1, x0.2.2.2.2.2) a8 c9) .nil) ⟨trivial, (Bs rfl rfl)⟩ rfl rfl ?_))
    cases h
    exact JS.ret ttOk (a8, c9) trivial rfl rfl [0] rfl

def M_i_copyBytes (x0 : List UInt8) : Option (List UInt8) :=
  (guardO (([] : List UInt8).length + x0.length ≤ 536870912) <|
  some (([] : List UInt8) ++ x0))

theorem ok_i_copyBytes (x0 : List UInt8) (a2 : Option Addr) (c3 : Nat) (l4 : Nat) (hl5 : x0.length = l4) (r : List UInt8) (h : M_i_copyBytes x0 = some r) :
    FC Tryd.prog 36 [.slice a2 l4 c3] [⟨.byte, ⟨a2, l4, c3⟩, x0⟩] (fun _ : Option Addr × Nat => True) (fun q => .slice q.1 r.length q.2) (fun q => [⟨.byte, ⟨q.1, r.length, q.2⟩, r⟩]) :=
  by
    subst hl5
    refine FC.of (T := TTx) Tryd.call36 Tryd.func36 rfl rfl fun w0 => ?_
    unfold M_i_copyBytes at h
    refine JS.rg0 ttOk 1 [] ⟨trivial, rfl⟩ rfl rfl (JS.seq (JS.region (JO.reg ttOk 1 [] [] [(3, .v (.slice a2 x0.length c3))] _ rfl ⟨⟨rfl, trivial⟩, rfl⟩ ?_)))
    obtain ⟨g6, h⟩ := guardO_some h
    refine JO.nilO .byte Sl.nil rfl rfl (JO.appendR' ttOk rfl rfl rfl rfl ⟨rfl, rfl, rfl, rfl, trivial, rfl, rfl, rfl, rfl⟩ rfl rfl rfl [0] rfl 0 rfl g6 rfl fun a7 c8 => JO.reg ttOk 1 [] [] [(2, .v (.slice a7 (([] : List UInt8) ++ x0).length c8))] _ rfl ⟨⟨rfl, trivial⟩, rfl⟩ (JO.done rfl ?_))
    cases h
    exact JS.ret ttOk (a7, c8) trivial rfl rfl [0] rfl

def M_i_copyVt (x0 : (Int × Int × List Int × Int × Int × Bool) × Int × List Int × List UInt8 × Int) : Option ((Int × Int × List Int × Int × Int × Bool) × Int × List Int × List UInt8 × Int) :=
  (bindO (M_i_copyGrid x0.1) fun (y14 : Int × Int × List Int × Int × Int × Bool) =>
  (bindO (M_i_copyInts x0.2.2.1) fun (y18 : List Int) =>
  (bindO (M_i_copyBytes x0.2.2.2.1) fun (y22 : List UInt8) =>
  some (y14, x0.2.1, y18, y22, x0.2.2.2.2))))

theorem ok_i_copyVt (x0 : (Int × Int × List Int × Int × Int × Bool) × Int × List Int × List UInt8 × Int) (a2 : Option Addr) (c3 : Nat) (l4 : Nat) (hl5 : x0.1.2.2.1.length = l4) (a6 : Option Addr) (c7 : Nat) (l8 : Nat) (hl9 : x0.2.2.1.length = l8) (a10 : Option Addr) (c11 : Nat) (l12 : Nat) (hl13 : x0.2.2.2.1.length = l12) (r : (Int × Int × List Int × Int × Int × Bool) × Int × List Int × List UInt8 × Int) (h : M_i_copyVt x0 = some r) :
    FC Tryd.prog 20 [.agg #[.int .i64 x0.1.1, .int .i64 x0.1.2.1, .slice a2 l4 c3, .int .i64 x0.1.2.2.2.1, .int .i64 x0.1.2.2.2.2.1, .bool x0.1.2.2.2.2.2, .int .i64 x0.2.1, .slice a6 l8 c7, .slice a10 l12 c11, .int .i64 x0.2.2.2.2]] [⟨(.int .i64), ⟨a2, l4, c3⟩, x0.1.2.2.1⟩, ⟨(.int .i64), ⟨a6, l8, c7⟩, x0.2.2.1⟩, ⟨.byte, ⟨a10, l12, c11⟩, x0.2.2.2.1⟩] (fun _ : Option Addr × Nat × Option Addr × Nat × Option Addr × Nat => True) (fun q => .agg (cl31 r q.1 q.2.1 q.2.2.1 q.2.2.2.1 q.2.2.2.2.1 q.2.2.2.2.2).toArray) (fun q => [⟨(.int .i64), ⟨q.1, r.1.2.2.1.length, q.2.1⟩, r.1.2.2.1⟩, ⟨(.int .i64), ⟨q.2.2.1, r.2.2.1.length, q.2.2.2.1⟩, r.2.2.1⟩, ⟨.byte, ⟨q.2.2.2.2.1, r.2.2.2.1.length, q.2.2.2.2.2⟩, r.2.2.2.1⟩]) :=
  by
    subst hl5
    subst hl9
    subst hl13
    refine FC.of (T := TTx) Tryd.call20 Tryd.func20 rfl rfl fun w0 => ?_
    unfold M_i_copyVt at h
    refine JS.rgB ttOk 2 [] [4, 5] [(1, .bp 4 0), (2, .bp 5 0)] (.new 4 31 (cl31 x0 a2 c3 a6 c7 a10 c11) (.new 5 31 (cl31 ((0, 0, [], 0, 0, false), 0, [], [], 0) none 0 none 0 none 0) .nil)) ⟨(Es rfl), (Bs rfl rfl)⟩ rfl rfl (JS.seq ?_)
    obtain ⟨y14, hy15, h⟩ := bindO_some h
    obtain ⟨y18, hy19, h⟩ := bindO_some h
    obtain ⟨y22, hy23, h⟩ := bindO_some h
    refine JS.regionA rfl (.new 4 31 (cl31 x0 a2 c3 a6 c7 a10 c11) .nil) [] [8, 9, 10, 11, 12, 13, 14] ⟨rfl, rfl, rfl, rfl, trivial⟩ rfl (fun be26 => ?_)
    refine JA.reg ttOk panic_cx true 9 [0, 1, 3, 4, 6, 7] rfl (by kernel_rfl) [] [(4, .v (.agg (cl25 x0.1 a2 c3).toArray)), (7, .v (.slice a6 x0.2.2.1.length c7)), (10, .v (.slice a10 x0.2.2.2.1.length c11))] ⟨rfl, rfl, rfl, rfl, trivial⟩ [] rfl rfl (Es rfl) (JA.one 2 (by kernel_rfl) (JK.call rfl rfl rfl rfl (ok_i_copyGrid x0.1 a2 c3 x0.1.2.2.1.length rfl _ hy15) rfl [0] rfl rfl ?_))
    rintro ⟨a16, c17⟩ -
    refine JA.next ⟨rfl, rfl, rfl, rfl, trivial⟩ [] rfl (JA.regL ttOk panic_cx 7 [9] rfl (by kernel_rfl) [] [(12, .bp 4 0)] rfl ⟨rfl, trivial⟩ (JA.one 5 (by kernel_rfl) (JK.call rfl rfl rfl rfl (ok_i_copyInts x0.2.2.1 a6 c7 x0.2.2.1.length rfl _ hy19) rfl [1] rfl rfl ?_)))
    rintro ⟨a20, c21⟩ -
    refine JA.next ⟨rfl, rfl, rfl, rfl, trivial⟩ [] rfl (JA.one 8 (by kernel_rfl) (JK.call rfl rfl rfl rfl (ok_i_copyBytes x0.2.2.2.1 a10 c11 x0.2.2.2.1.length rfl _ hy23) rfl [2] rfl rfl ?_))
    rintro ⟨a24, c25⟩ -
    refine JA.nextL rfl (JA.one 10 (by kernel_rfl) (JK.stBox ttOk rfl rfl rfl rfl rfl rfl rfl rfl (JA.nextL rfl (JA.regL ttOk panic_cx 3 [11] rfl (by kernel_rfl) [] [(13, .bp 4 7)] rfl ⟨rfl, trivial⟩ (JA.one 12 (by kernel_rfl) (JK.stBox ttOk rfl rfl rfl rfl rfl rfl rfl rfl (JA.nextL rfl (JA.regL ttOk panic_cx 1 [13] rfl (by kernel_rfl) [] [(14, .bp 4 8)] rfl ⟨rfl, trivial⟩ (JA.one 14 (by kernel_rfl) (JK.stBox ttOk rfl rfl rfl rfl rfl rfl rfl rfl (JA.nextL rfl (JA.done (by kernel_rfl) (JS.boxes (B' := (.new 4 31 (cl31 (y14, x0.2.1, y18, y22, x0.2.2.2.2) a16 c17 a20 c21 a24 c25) (.new 5 31 (cl31 ((0, 0, [], 0, 0, false), 0, [], [], 0) none 0 none 0 none 0) .nil))) (Bs rfl rfl) (JS.rgB ttOk 2 [] [] [] (.new 5 31 (cl31 (y14, x0.2.1, y18, y22, x0.2.2.2.2) a16 c17 a20 c21 a24 c25) .nil) ⟨trivial, (Bs rfl rfl)⟩ rfl rfl ?_))))))))))))))
    cases h
    exact JS.ret ttOk (a16, c17, a20, c21, a24, c25) trivial rfl rfl [2, 1, 0] rfl

def M_i_isDigit (x0 : Int) : Option Bool :=
  (bindO (M_i_in x0 48 57) fun (y2 : Bool) =>
  some y2)

theorem ok_i_isDigit (x0 : Int) (r : Bool) (h : M_i_isDigit x0 = some r) :
    FC Tryd.prog 49 [.int .i64 x0] [] (fun _ : Unit => True) (fun _ => .bool r) (fun _ => []) :=
  by
    refine FC.of (T := TTx) Tryd.call49 Tryd.func49 rfl rfl fun w0 => ?_
    unfold M_i_isDigit at h
    refine JS.rg0 ttOk 1 [] ⟨trivial, rfl⟩ rfl rfl (JS.seq (JS.region (JO.reg ttOk 1 [] [] [(3, .v (.int .i64 x0))] _ rfl ⟨⟨rfl, trivial⟩, rfl⟩ ?_)))
    obtain ⟨y2, hy3, h⟩ := bindO_some h
    refine JO.call rfl rfl rfl rfl (ok_i_in x0 48 57 _ hy3) rfl [] rfl rfl fun _ _ => JO.reg ttOk 1 [] [] [(2, .v (.bool y2))] _ rfl ⟨⟨rfl, trivial⟩, rfl⟩ (JO.done rfl ?_)
    cases h
    exact JS.ret ttOk () trivial rfl rfl [] rfl

def M_i_Vt_arg (x0 : (Int × Int × List Int × Int × Int × Bool) × Int × List Int × List UInt8 × Int) (x1 : Int) : Option (Int × (Int × Int × List Int × Int × Int × Bool) × Int × List Int × List UInt8 × Int) :=
  (guardO (((decide ((x0.2.2.1.length : Int) ≤ x1)) = false) → 0 ≤ x1 ∧ x1 < (x0.2.2.1.length : Int)) <|
  (bif (bif (decide ((x0.2.2.1.length : Int) ≤ x1)) then true else (decide ((at' x0.2.2.1 x1) = 0))) then
  some (1, x0)
  else
  (guardO (0 ≤ x1 ∧ x1 < (x0.2.2.1.length : Int)) <|
  some ((at' x0.2.2.1 x1), x0))))

theorem ok_i_Vt_arg (x0 : (Int × Int × List Int × Int × Int × Bool) × Int × List Int × List UInt8 × Int) (x1 : Int) (a3 : Option Addr) (a4 : Option Addr) (c5 : Nat) (l6 : Nat) (hl7 : x0.1.2.2.1.length = l6) (a8 : Option Addr) (c9 : Nat) (l10 : Nat) (hl11 : x0.2.2.1.length = l10) (a12 : Option Addr) (c13 : Nat) (l14 : Nat) (hl15 : x0.2.2.2.1.length = l14) (r : Int × (Int × Int × List Int × Int × Int × Bool) × Int × List Int × List UInt8 × Int) (h : M_i_Vt_arg x0 x1 = some r) :
    FX Tryd.prog 57 [.pointer a3, .int .i64 x1] [] [⟨(.pair (.pair (.int .i64) (.pair (.int .i64) (.pair .val (.pair (.int .i64) (.pair (.int .i64) .bool))))) (.pair (.int .i64) (.pair .val (.pair .val (.int .i64))))), ⟨a3, 1, 1⟩, [((x0.1.1, x0.1.2.1, (Sl.v ⟨a4, l6, c5⟩), x0.1.2.2.2.1, x0.1.2.2.2.2.1, x0.1.2.2.2.2.2), x0.2.1, (Sl.v ⟨a8, l10, c9⟩), (Sl.v ⟨a12, l14, c13⟩), x0.2.2.2.2)]⟩, ⟨(.int .i64), ⟨a4, l6, c5⟩, x0.1.2.2.1⟩, ⟨(.int .i64), ⟨a8, l10, c9⟩, x0.2.2.1⟩, ⟨.byte, ⟨a12, l14, c13⟩, x0.2.2.2.1⟩] (fun _ : Option Addr × Nat × Option Addr × Nat × Option Addr × Nat => True) (fun q => .int .i64 r.1) (fun q => [⟨(.pair (.pair (.int .i64) (.pair (.int .i64) (.pair .val (.pair (.int .i64) (.pair (.int .i64) .bool))))) (.pair (.int .i64) (.pair .val (.pair .val (.int .i64))))), ⟨a3, 1, 1⟩, [((r.2.1.1, r.2.1.2.1, (Sl.v ⟨q.1, r.2.1.2.2.1.length, q.2.1⟩), r.2.1.2.2.2.1, r.2.1.2.2.2.2.1, r.2.1.2.2.2.2.2), r.2.2.1, (Sl.v ⟨q.2.2.1, r.2.2.2.1.length, q.2.2.2.1⟩), (Sl.v ⟨q.2.2.2.2.1, r.2.2.2.2.1.length, q.2.2.2.2.2⟩), r.2.2.2.2.2)]⟩, ⟨(.int .i64), ⟨q.1, r.2.1.2.2.1.length, q.2.1⟩, r.2.1.2.2.1⟩, ⟨(.int .i64), ⟨q.2.2.1, r.2.2.2.1.length, q.2.2.2.1⟩, r.2.2.2.1⟩, ⟨.byte, ⟨q.2.2.2.2.1, r.2.2.2.2.1.length, q.2.2.2.2.2⟩, r.2.2.2.2.1⟩]) :=
  by
    subst hl7
    subst hl11
    subst hl15
    refine FX.of (T := TTx) Tryd.call57 Tryd.func57 rfl rfl fun w0 L0 => ?_
    unfold M_i_Vt_arg at h
    refine JS.ptr 0 a3 rfl ?_
    refine JS.rg0 ttOk 1 [] ⟨trivial, rfl⟩ rfl rfl (JS.seq (JS.seq (JS.region (JO.know 0 rfl fun hs26 => JO.reg ttOk 4 [] [] [(5, .v (.int .i64 x1)), (8, .ep ⟨a3, 1, 1⟩ 7)] _ rfl ⟨(hs26.fa ptr0).1, hs26.fa ptr0, (Es rfl), rfl⟩ (JO.loadV ttOk rfl rfl rfl rfl rfl rfl 0 rfl rfl 0 7 ((x0.1.1, x0.1.2.1, (Sl.v ⟨a4, x0.1.2.2.1.length, c5⟩), x0.1.2.2.2.1, x0.1.2.2.2.2.1, x0.1.2.2.2.2.2), x0.2.1, (Sl.v ⟨a8, x0.2.2.1.length, c9⟩), (Sl.v ⟨a12, x0.2.2.2.1.length, c13⟩), x0.2.2.2.2) ⟨rfl, rfl⟩ rfl rfl rfl (JO.reg ttOk 6 [] [] [(12, .v (.bool (decide ((x0.2.2.1.length : Int) ≤ x1)))), (15, .cd [(12, false)] (.ep ⟨a3, 1, 1⟩ 7))] _ rfl ⟨(fun q27 => (hs26.fa ptr0).1), (fun q28 => hs26.fa ptr0), (Es rfl), rfl⟩ (JO.loadV ttOk rfl rfl rfl rfl rfl rfl 0 rfl rfl 0 7 ((x0.1.1, x0.1.2.1, (Sl.v ⟨a4, x0.1.2.2.1.length, c5⟩), x0.1.2.2.2.1, x0.1.2.2.2.2.1, x0.1.2.2.2.2.2), x0.2.1, (Sl.v ⟨a8, x0.2.2.1.length, c9⟩), (Sl.v ⟨a12, x0.2.2.2.1.length, c13⟩), x0.2.2.2.2) (fun q29 => ⟨rfl, rfl⟩) rfl rfl rfl (JO.know 2 rfl fun hs30 => ?_))))))))
    obtain ⟨g21, h⟩ := guardO_some h
    refine JO.reg ttOk 2 [] [] [(18, .cd [(12, false)] (.ep ⟨a8, x0.2.2.1.length, c9⟩ (Int.toNat x1 * 1)))] _ rfl ⟨(fun q31 => hs30.ix (g21 q31)), ⟨rfl, trivial⟩, rfl⟩ (JO.load ttOk rfl rfl rfl rfl rfl rfl rfl 2 rfl rfl (Int.toNat x1) 0 (at' x0.2.2.1 x1) (fun q32 => ⟨at_some (g21 q32), rfl⟩) rfl rfl (JO.reg ttOk 2 [] [] [(21, .v (.bool (bif (decide ((x0.2.2.1.length : Int) ≤ x1)) then true else (decide ((at' x0.2.2.1 x1) = 0)))))] _ rfl ⟨⟨rfl, trivial⟩, rfl⟩ (JO.done rfl ?_)))
    refine JS.cond rfl (fun ht33 => ?_) (fun ht33 => ?_)
    · have h := condT h ht33
      refine JS.rg0 ttOk 1 [(4, .v (.int .i64 1))] ⟨⟨rfl, trivial⟩, rfl⟩ rfl rfl ?_
      cases h
      exact JS.retX ttOk (a4, c5, a8, c9, a12, c13) trivial rfl rfl [0, 0, 0, 0] rfl
    have h := condF h ht33
    refine JS.skip (JS.seq (JS.region (JO.reg ttOk 3 [] [] [(24, .ep ⟨a3, 1, 1⟩ 7)] _ rfl ⟨(hs26.fa ptr0).1, hs26.fa ptr0, ⟨rfl, trivial⟩, rfl⟩ (JO.loadV ttOk rfl rfl rfl rfl rfl rfl 0 rfl rfl 0 7 ((x0.1.1, x0.1.2.1, (Sl.v ⟨a4, x0.1.2.2.1.length, c5⟩), x0.1.2.2.2.1, x0.1.2.2.2.2.1, x0.1.2.2.2.2.2), x0.2.1, (Sl.v ⟨a8, x0.2.2.1.length, c9⟩), (Sl.v ⟨a12, x0.2.2.2.1.length, c13⟩), x0.2.2.2.2) ⟨rfl, rfl⟩ rfl rfl rfl ?_))))
    obtain ⟨g24, h⟩ := guardO_some h
    refine JO.reg ttOk 2 [] [] [(27, .ep ⟨a8, x0.2.2.1.length, c9⟩ (Int.toNat x1 * 1))] _ rfl ⟨hs30.ix g24, ⟨rfl, trivial⟩, rfl⟩ (JO.load ttOk rfl rfl rfl rfl rfl rfl rfl 2 rfl rfl (Int.toNat x1) 0 (at' x0.2.2.1 x1) ⟨at_some g24, rfl⟩ rfl rfl (JO.reg ttOk 1 [] [] [(4, .v (.int .i64 (at' x0.2.2.1 x1)))] _ rfl ⟨⟨rfl, trivial⟩, rfl⟩ (JO.done rfl ?_)))
    cases h
    exact JS.retX ttOk (a4, c5, a8, c9, a12, c13) trivial rfl rfl [0, 0, 0, 0] rfl

def M_i_Grid_erase_L1 (x0 : Int × Int × List Int × Int × Int × Bool) (x2 : Int) (j67 : (List Int) → Option (Int × Int × List Int × Int × Int × Bool)) (k59 : (Int × List Int) → Option (Int × Int × List Int × Int × Int × Bool)) : (Int × List Int) → Option (Int × Int × List Int × Int × Int × Bool) := fun (x43, x46) =>
  (bif (decide (x43 < (min x2 (x0.2.2.1.length : Int)))) then
  (guardO (0 ≤ x43 ∧ x43 < (x46.length : Int)) <|
  k59 ((W (x43 + 1)), (List.set x46 (Int.toNat x43) 32)))
  else
  j67 x46)

def M_i_Grid_erase (x0 : Int × Int × List Int × Int × Int × Bool) (x1 : Int) (x2 : Int) : Option (Int × Int × List Int × Int × Int × Bool) :=
  (bif (decide ((min x2 (x0.2.2.1.length : Int)) ≤ (max x1 0))) then
  some x0
  else
  (joinO (fun (x15 : List Int) =>
  (joinO (fun (x31 : List Int) =>
  (joinO (fun (x64 : List Int) =>
  some (x0.1, x0.2.1, x64, x0.2.2.2.1, x0.2.2.2.2.1, x0.2.2.2.2.2)) fun j67 =>
  (fixF (M_i_Grid_erase_L1 x0 x2 j67) FUEL ((max x1 0), x31)))) fun j34 =>
  (guardO (((decide ((min x2 (x0.2.2.1.length : Int)) < (x15.length : Int))) = true) → 0 ≤ (min x2 (x0.2.2.1.length : Int)) ∧ (min x2 (x0.2.2.1.length : Int)) < (x15.length : Int)) <|
  (bif (bif (decide ((min x2 (x0.2.2.1.length : Int)) < (x15.length : Int))) then (decide ((at' x15 (min x2 (x0.2.2.1.length : Int))) = (-1))) else false) then
  (guardO (0 ≤ (min x2 (x0.2.2.1.length : Int)) ∧ (min x2 (x0.2.2.1.length : Int)) < (x15.length : Int)) <|
  j34 (List.set x15 (Int.toNat (min x2 (x0.2.2.1.length : Int))) 32))
  else
  j34 x15)))) fun j18 =>
  (guardO (0 ≤ (max x1 0) ∧ (max x1 0) < (x0.2.2.1.length : Int)) <|
  (bif (decide ((at' x0.2.2.1 (max x1 0)) = (-1))) then
  (guardO (0 ≤ (W ((max x1 0) - 1)) ∧ (W ((max x1 0) - 1)) < (x0.2.2.1.length : Int)) <|
  j18 (List.set x0.2.2.1 (Int.toNat (W ((max x1 0) - 1))) 32))
  else
  j18 x0.2.2.1))))

theorem ok_i_Grid_erase (x0 : Int × Int × List Int × Int × Int × Bool) (x1 : Int) (x2 : Int) (a4 : Option Addr) (a5 : Option Addr) (c6 : Nat) (l7 : Nat) (hl8 : x0.2.2.1.length = l7) (r : Int × Int × List Int × Int × Int × Bool) (h : M_i_Grid_erase x0 x1 x2 = some r) :
    FX Tryd.prog 56 [.pointer a4, .int .i64 x1, .int .i64 x2] [] [⟨(.pair (.int .i64) (.pair (.int .i64) (.pair .val (.pair (.int .i64) (.pair (.int .i64) .bool))))), ⟨a4, 1, 1⟩, [(x0.1, x0.2.1, (Sl.v ⟨a5, l7, c6⟩), x0.2.2.2.1, x0.2.2.2.2.1, x0.2.2.2.2.2)]⟩, ⟨(.int .i64), ⟨a5, l7, c6⟩, x0.2.2.1⟩] (fun _ : Option Addr × Nat => True) (fun q => .tuple #[]) (fun q => [⟨(.pair (.int .i64) (.pair (.int .i64) (.pair .val (.pair (.int .i64) (.pair (.int .i64) .bool))))), ⟨a4, 1, 1⟩, [(r.1, r.2.1, (Sl.v ⟨q.1, r.2.2.1.length, q.2⟩), r.2.2.2.1, r.2.2.2.2.1, r.2.2.2.2.2)]⟩, ⟨(.int .i64), ⟨q.1, r.2.2.1.length, q.2⟩, r.2.2.1⟩]) :=
  by
    subst hl8
    refine FX.of (T := TTx) Tryd.call56 Tryd.func56 rfl rfl fun w0 L0 => ?_
    unfold M_i_Grid_erase at h
    refine JS.ptr 0 a4 rfl ?_
    refine JS.seq (JS.know 0 rfl fun hs76 => JS.regionQ rfl (by kernel_rfl) (JQ.reg ttOk 6 [] [(8, .v (.int .i64 (max x1 0))), (9, .v (.int .i64 x2)), (12, .ep ⟨a4, 1, 1⟩ 2)] rfl ⟨(hs76.fa ptr0).1, hs76.fa ptr0, (Es rfl)⟩ (JQ.loadV ttOk rfl rfl rfl rfl rfl rfl 0 rfl rfl 0 2 (x0.1, x0.2.1, (Sl.v ⟨a5, x0.2.2.1.length, c6⟩), x0.2.2.2.1, x0.2.2.2.2.1, x0.2.2.2.2.2) ⟨rfl, rfl⟩ rfl rfl rfl (JQ.reg ttOk 4 [] [(1, .v (.int .i64 (max x1 0))), (2, .v (.int .i64 (min x2 (x0.2.2.1.length : Int))))] rfl (Es rfl) (JQ.done rfl (JS.seq (JS.rg0 ttOk 3 [(18, .v (.bool (decide ((min x2 (x0.2.2.1.length : Int)) ≤ (max x1 0)))))] ⟨⟨rfl, trivial⟩, rfl⟩ rfl rfl ?_)))))))
    refine JS.cond rfl (fun ht93 => ?_) (fun ht93 => ?_)
    · have h := condT h ht93
      cases h
      exact JS.retX ttOk (a5, c6) trivial rfl rfl [0, 0] rfl
    have h := condF h ht93
    refine JS.skip ?_
    obtain ⟨j18, hj92, h⟩ := joinO_some h
    refine JS.seqJ (ι := List Int × Option Addr × Nat) ⟨fun z => j18 z.1 = some r, fun z => [(0, .ep ⟨a4, 1, 1⟩ 0), (1, .v (.int .i64 (max x1 0))), (2, .v (.int .i64 (min x2 (x0.2.2.1.length : Int))))], fun z => .nil, fun z => [], fun z => [⟨(.int .i64), ⟨z.2.1, z.1.length, z.2.2⟩, z.1⟩, ⟨(.pair (.int .i64) (.pair (.int .i64) (.pair .val (.pair (.int .i64) (.pair (.int .i64) .bool))))), ⟨a4, 1, 1⟩, [(x0.1, x0.2.1, (Sl.v ⟨z.2.1, z.1.length, z.2.2⟩), x0.2.2.2.1, x0.2.2.2.2.1, x0.2.2.2.2.2)]⟩], fun z => 0⟩ ?_ ?_
    · refine JS.seq (JS.region (JO.reg ttOk 3 [] [] [(21, .ep ⟨a4, 1, 1⟩ 2)] _ rfl ⟨(hs76.fa ptr0).1, hs76.fa ptr0, ⟨rfl, trivial⟩, rfl⟩ (JO.loadV ttOk rfl rfl rfl rfl rfl rfl 0 rfl rfl 0 2 (x0.1, x0.2.1, (Sl.v ⟨a5, x0.2.2.1.length, c6⟩), x0.2.2.2.1, x0.2.2.2.2.1, x0.2.2.2.2.2) ⟨rfl, rfl⟩ rfl rfl rfl (JO.know 1 rfl fun hs77 => ?_))))
      obtain ⟨g12, h⟩ := guardO_some h
      refine JO.reg ttOk 2 [] [] [(24, .ep ⟨a5, x0.2.2.1.length, c6⟩ (Int.toNat (max x1 0) * 1))] _ rfl ⟨hs77.ix g12, ⟨rfl, trivial⟩, rfl⟩ (JO.load ttOk rfl rfl rfl rfl rfl rfl rfl 1 rfl rfl (Int.toNat (max x1 0)) 0 (at' x0.2.2.1 (max x1 0)) ⟨at_some g12, rfl⟩ rfl rfl (JO.reg ttOk 1 [] [] [(26, .v (.bool (decide ((at' x0.2.2.1 (max x1 0)) = (-1)))))] _ rfl ⟨⟨rfl, trivial⟩, rfl⟩ (JO.done rfl ?_)))
      refine JS.cond rfl (fun ht78 => ?_) (fun ht78 => ?_)
      · have h := condT h ht78
        refine JS.region (JO.reg ttOk 3 [] [] [(29, .ep ⟨a4, 1, 1⟩ 2)] _ rfl ⟨(hs76.fa ptr0).1, hs76.fa ptr0, ⟨rfl, trivial⟩, rfl⟩ (JO.loadV ttOk rfl rfl rfl rfl rfl rfl 0 rfl rfl 0 2 (x0.1, x0.2.1, (Sl.v ⟨a5, x0.2.2.1.length, c6⟩), x0.2.2.2.1, x0.2.2.2.2.1, x0.2.2.2.2.2) ⟨rfl, rfl⟩ rfl rfl rfl ?_))
        obtain ⟨g13, h⟩ := guardO_some h
        refine JO.reg ttOk 3 [(W ((max x1 0) - 1))] [] [(33, .ep ⟨a5, x0.2.2.1.length, c6⟩ (Int.toNat (W ((max x1 0) - 1)) * 1))] _ rfl ⟨⟨trivial, rfl⟩, hs77.ix g13, ⟨rfl, trivial⟩, rfl⟩ (JO.storeE ttOk rfl rfl rfl rfl rfl rfl rfl rfl rfl [1] (fs := []) rfl (Int.toNat (W ((max x1 0) - 1))) 0 (at' x0.2.2.1 (W ((max x1 0) - 1))) 32 ⟨at_some g13, rfl⟩ ⟨rfl, rfl, rfl⟩ (JO.done rfl (JS.endJ ((List.set x0.2.2.1 (Int.toNat (W ((max x1 0) - 1))) 32), a5, c6) h (Es rfl) trivial [] rfl [0, 0] (by simp only [List.length_set, List.length_replicate, pickO, getF, cl25, cl31]; rfl))))
      have h := condF h ht78
      refine JS.skip (JS.endJ (x0.2.2.1, a5, c6) h (Es rfl) trivial [] rfl [1, 0] rfl)
    rintro ⟨x15, a16, c17⟩ h
    subst hj92
    obtain ⟨j34, hj91, h⟩ := joinO_some h
    refine JS.seqJ (ι := List Int × Option Addr × Nat) ⟨fun z => j34 z.1 = some r, fun z => [(0, .ep ⟨a4, 1, 1⟩ 0), (1, .v (.int .i64 (max x1 0))), (2, .v (.int .i64 (min x2 (x0.2.2.1.length : Int))))], fun z => .nil, fun z => [], fun z => [⟨(.int .i64), ⟨z.2.1, z.1.length, z.2.2⟩, z.1⟩, ⟨(.pair (.int .i64) (.pair (.int .i64) (.pair .val (.pair (.int .i64) (.pair (.int .i64) .bool))))), ⟨a4, 1, 1⟩, [(x0.1, x0.2.1, (Sl.v ⟨z.2.1, z.1.length, z.2.2⟩), x0.2.2.2.1, x0.2.2.2.2.1, x0.2.2.2.2.2)]⟩], fun z => 0⟩ ?_ ?_
    · refine JS.seq (JS.region (JO.know 1 rfl fun hs79 => JO.reg ttOk 4 [] [] [(34, .v (.int .i64 (min x2 (x0.2.2.1.length : Int)))), (37, .ep ⟨a4, 1, 1⟩ 2)] _ rfl ⟨(hs79.fa ptr0).1, hs79.fa ptr0, (Es rfl), rfl⟩ (JO.loadV ttOk rfl rfl rfl rfl rfl rfl 1 rfl rfl 0 2 (x0.1, x0.2.1, (Sl.v ⟨a16, x15.length, c17⟩), x0.2.2.2.1, x0.2.2.2.2.1, x0.2.2.2.2.2) ⟨rfl, rfl⟩ rfl rfl rfl (JO.reg ttOk 6 [] [] [(41, .v (.bool (decide ((min x2 (x0.2.2.1.length : Int)) < (x15.length : Int))))), (44, .cd [(41, true)] (.ep ⟨a4, 1, 1⟩ 2))] _ rfl ⟨(fun q80 => (hs79.fa ptr0).1), (fun q81 => hs79.fa ptr0), (Es rfl), rfl⟩ (JO.loadV ttOk rfl rfl rfl rfl rfl rfl 1 rfl rfl 0 2 (x0.1, x0.2.1, (Sl.v ⟨a16, x15.length, c17⟩), x0.2.2.2.1, x0.2.2.2.2.1, x0.2.2.2.2.2) (fun q82 => ⟨rfl, rfl⟩) rfl rfl rfl (JO.know 0 rfl fun hs83 => ?_))))))
      obtain ⟨g26, h⟩ := guardO_some h
      refine JO.reg ttOk 2 [] [] [(47, .cd [(41, true)] (.ep ⟨a16, x15.length, c17⟩ (Int.toNat (min x2 (x0.2.2.1.length : Int)) * 1)))] _ rfl ⟨(fun q84 => hs83.ix (g26 q84)), ⟨rfl, trivial⟩, rfl⟩ (JO.load ttOk rfl rfl rfl rfl rfl rfl rfl 0 rfl rfl (Int.toNat (min x2 (x0.2.2.1.length : Int))) 0 (at' x15 (min x2 (x0.2.2.1.length : Int))) (fun q85 => ⟨at_some (g26 q85), rfl⟩) rfl rfl (JO.reg ttOk 2 [] [] [(50, .v (.bool (bif (decide ((min x2 (x0.2.2.1.length : Int)) < (x15.length : Int))) then (decide ((at' x15 (min x2 (x0.2.2.1.length : Int))) = (-1))) else false)))] _ rfl ⟨⟨rfl, trivial⟩, rfl⟩ (JO.done rfl ?_)))
      refine JS.cond rfl (fun ht86 => ?_) (fun ht86 => ?_)
      · have h := condT h ht86
        refine JS.region (JO.reg ttOk 3 [] [] [(53, .ep ⟨a4, 1, 1⟩ 2)] _ rfl ⟨(hs79.fa ptr0).1, hs79.fa ptr0, ⟨rfl, trivial⟩, rfl⟩ (JO.loadV ttOk rfl rfl rfl rfl rfl rfl 1 rfl rfl 0 2 (x0.1, x0.2.1, (Sl.v ⟨a16, x15.length, c17⟩), x0.2.2.2.1, x0.2.2.2.2.1, x0.2.2.2.2.2) ⟨rfl, rfl⟩ rfl rfl rfl ?_))
        obtain ⟨g29, h⟩ := guardO_some h
        refine JO.reg ttOk 2 [] [] [(56, .ep ⟨a16, x15.length, c17⟩ (Int.toNat (min x2 (x0.2.2.1.length : Int)) * 1))] _ rfl ⟨hs83.ix g29, ⟨rfl, trivial⟩, rfl⟩ (JO.storeE ttOk rfl rfl rfl rfl rfl rfl rfl rfl rfl [0] (fs := []) rfl (Int.toNat (min x2 (x0.2.2.1.length : Int))) 0 (at' x15 (min x2 (x0.2.2.1.length : Int))) 32 ⟨at_some g29, rfl⟩ ⟨rfl, rfl, rfl⟩ (JO.done rfl (JS.endJ ((List.set x15 (Int.toNat (min x2 (x0.2.2.1.length : Int))) 32), a16, c17) h (Es rfl) trivial [] rfl [0, 0] (by simp only [List.length_set, List.length_replicate, pickO, getF, cl25, cl31]; rfl))))
      have h := condF h ht86
      refine JS.skip (JS.endJ (x15, a16, c17) h (Es rfl) trivial [] rfl [0, 0] rfl)
    rintro ⟨x31, a32, c33⟩ h
    subst hj91
    refine JS.rg0 ttOk 2 [(6, .v (.int .i64 (max x1 0)))] ⟨⟨rfl, trivial⟩, rfl⟩ rfl rfl ?_
    obtain ⟨j67, hj90, h⟩ := joinO_some h
    refine JS.blockJ (ι := List Int × Option Addr × Nat) ⟨fun z => j67 z.1 = some r, fun z => [], fun z => .nil, fun z => [], fun z => [⟨(.int .i64), ⟨z.2.1, z.1.length, z.2.2⟩, z.1⟩, ⟨(.pair (.int .i64) (.pair (.int .i64) (.pair .val (.pair (.int .i64) (.pair (.int .i64) .bool))))), ⟨a4, 1, 1⟩, [(x0.1, x0.2.1, (Sl.v ⟨z.2.1, z.1.length, z.2.2⟩), x0.2.2.2.1, x0.2.2.2.2.1, x0.2.2.2.2.2)]⟩], fun z => 0⟩ ?_ ?_
    · refine JS.loop (ι := Nat × Int × List Int × Option Addr × Nat) ⟨fun z => fixF (M_i_Grid_erase_L1 x0 x2 j67) z.1 (z.2.1, z.2.2.1) = some r, fun z => [(0, .ep ⟨a4, 1, 1⟩ 0), (2, .v (.int .i64 (min x2 (x0.2.2.1.length : Int)))), (6, .v (.int .i64 z.2.1))], fun z => .nil, fun z => [], fun z => [⟨(.int .i64), ⟨z.2.2.2.1, z.2.2.1.length, z.2.2.2.2⟩, z.2.2.1⟩, ⟨(.pair (.int .i64) (.pair (.int .i64) (.pair .val (.pair (.int .i64) (.pair (.int .i64) .bool))))), ⟨a4, 1, 1⟩, [(x0.1, x0.2.1, (Sl.v ⟨z.2.2.2.1, z.2.2.1.length, z.2.2.2.2⟩), x0.2.2.2.1, x0.2.2.2.2.1, x0.2.2.2.2.2)]⟩], fun z => z.1⟩ (FUEL, (max x1 0), x31, a32, c33) h (Es rfl) trivial [] rfl [0, 0] rfl ?_
      rintro ⟨n60, x43, x46, a47, c48⟩ h
      obtain ⟨n60, rfl, h⟩ := fixF_some h
      rw [M_i_Grid_erase_L1] at h
      refine JS.seq (JS.rg0 ttOk 3 [(60, .v (.bool (decide (x43 < (min x2 (x0.2.2.1.length : Int))))))] ⟨⟨rfl, trivial⟩, rfl⟩ rfl rfl ?_)
      refine JS.cond rfl (fun ht89 => ?_) (fun ht89 => ?_)
      · have h := condT h ht89
        refine JS.skip (JS.seq (JS.block (JS.region (JO.know 1 rfl fun hs87 => JO.reg ttOk 3 [] [] [(65, .ep ⟨a4, 1, 1⟩ 2)] _ rfl ⟨(hs87.fa ptr0).1, hs87.fa ptr0, ⟨rfl, trivial⟩, rfl⟩ (JO.loadV ttOk rfl rfl rfl rfl rfl rfl 1 rfl rfl 0 2 (x0.1, x0.2.1, (Sl.v ⟨a47, x46.length, c48⟩), x0.2.2.2.1, x0.2.2.2.2.1, x0.2.2.2.2.2) ⟨rfl, rfl⟩ rfl rfl rfl (JO.know 0 rfl fun hs88 => ?_))))))
        obtain ⟨g54, h⟩ := guardO_some h
        refine JO.reg ttOk 2 [] [] [(68, .ep ⟨a47, x46.length, c48⟩ (Int.toNat x43 * 1))] _ rfl ⟨hs88.ix g54, ⟨rfl, trivial⟩, rfl⟩ (JO.storeE ttOk rfl rfl rfl rfl rfl rfl rfl rfl rfl [0] (fs := []) rfl (Int.toNat x43) 0 (at' x46 x43) 32 ⟨at_some g54, rfl⟩ ⟨rfl, rfl, rfl⟩ (JO.done rfl (JS.endB (JS.re ttOk 3 [(W (x43 + 1))] [] [(6, .v (.int .i64 (W (x43 + 1))))] _ ⟨⟨trivial, rfl⟩, ⟨rfl, trivial⟩, rfl⟩ rfl rfl (JS.endL (n60, (W (x43 + 1)), (List.set x46 (Int.toNat x43) 32), a47, c48) h (Nat.lt_succ_self _) (Es rfl) trivial [] rfl [0, 0] (by simp only [List.length_set, List.length_replicate, pickO, getF, cl25, cl31]; rfl))))))
      have h := condF h ht89
      refine JS.exit rfl (JS.endJ (x46, a47, c48) h trivial trivial [] rfl [0, 0] rfl)
    rintro ⟨x64, a65, c66⟩ h
    subst hj90
    cases h
    exact JS.fallX ttOk (a65, c66) trivial rfl rfl [1, 0] rfl

def M_i_Grid_erase_in31_L1 (x0 : (Int × Int × List Int × Int × Int × Bool) × Int × List Int × List UInt8 × Int) (x2 : Int) (j83 : (List Int) → Option ((Int × Int × List Int × Int × Int × Bool) × Int × List Int × List UInt8 × Int)) (k75 : (Int × List Int) → Option ((Int × Int × List Int × Int × Int × Bool) × Int × List Int × List UInt8 × Int)) : (Int × List Int) → Option ((Int × Int × List Int × Int × Int × Bool) × Int × List Int × List UInt8 × Int) := fun (x51, x54) =>
  (bif (decide (x51 < (min x2 (x0.1.2.2.1.length : Int)))) then
  (guardO (0 ≤ x51 ∧ x51 < (x54.length : Int)) <|
  k75 ((W (x51 + 1)), (List.set x54 (Int.toNat x51) 32)))
  else
  j83 x54)

def M_i_Grid_erase_in31 (x0 : (Int × Int × List Int × Int × Int × Bool) × Int × List Int × List UInt8 × Int) (x1 : Int) (x2 : Int) : Option ((Int × Int × List Int × Int × Int × Bool) × Int × List Int × List UInt8 × Int) :=
  (bif (decide ((min x2 (x0.1.2.2.1.length : Int)) ≤ (max x1 0))) then
  some x0
  else
  (joinO (fun (x23 : List Int) =>
  (joinO (fun (x39 : List Int) =>
  (joinO (fun (x80 : List Int) =>
  some ((x0.1.1, x0.1.2.1, x80, x0.1.2.2.2.1, x0.1.2.2.2.2.1, x0.1.2.2.2.2.2), x0.2.1, x0.2.2.1, x0.2.2.2.1, x0.2.2.2.2)) fun j83 =>
  (fixF (M_i_Grid_erase_in31_L1 x0 x2 j83) FUEL ((max x1 0), x39)))) fun j42 =>
  (guardO (((decide ((min x2 (x0.1.2.2.1.length : Int)) < (x23.length : Int))) = true) → 0 ≤ (min x2 (x0.1.2.2.1.length : Int)) ∧ (min x2 (x0.1.2.2.1.length : Int)) < (x23.length : Int)) <|
  (bif (bif (decide ((min x2 (x0.1.2.2.1.length : Int)) < (x23.length : Int))) then (decide ((at' x23 (min x2 (x0.1.2.2.1.length : Int))) = (-1))) else false) then
  (guardO (0 ≤ (min x2 (x0.1.2.2.1.length : Int)) ∧ (min x2 (x0.1.2.2.1.length : Int)) < (x23.length : Int)) <|
  j42 (List.set x23 (Int.toNat (min x2 (x0.1.2.2.1.length : Int))) 32))
  else
  j42 x23)))) fun j26 =>
  (guardO (0 ≤ (max x1 0) ∧ (max x1 0) < (x0.1.2.2.1.length : Int)) <|
  (bif (decide ((at' x0.1.2.2.1 (max x1 0)) = (-1))) then
  (guardO (0 ≤ (W ((max x1 0) - 1)) ∧ (W ((max x1 0) - 1)) < (x0.1.2.2.1.length : Int)) <|
  j26 (List.set x0.1.2.2.1 (Int.toNat (W ((max x1 0) - 1))) 32))
  else
  j26 x0.1.2.2.1))))

theorem ok_i_Grid_erase_in31 (x0 : (Int × Int × List Int × Int × Int × Bool) × Int × List Int × List UInt8 × Int) (x1 : Int) (x2 : Int) (a4 : Option Addr) (a5 : Option Addr) (c6 : Nat) (l7 : Nat) (hl8 : x0.1.2.2.1.length = l7) (a9 : Option Addr) (c10 : Nat) (l11 : Nat) (hl12 : x0.2.2.1.length = l11) (a13 : Option Addr) (c14 : Nat) (l15 : Nat) (hl16 : x0.2.2.2.1.length = l15) (r : (Int × Int × List Int × Int × Int × Bool) × Int × List Int × List UInt8 × Int) (h : M_i_Grid_erase_in31 x0 x1 x2 = some r) :
    FX Tryd.prog 56 [.pointer a4, .int .i64 x1, .int .i64 x2] [] [⟨(.pair (.pair (.int .i64) (.pair (.int .i64) (.pair .val (.pair (.int .i64) (.pair (.int .i64) .bool))))) (.pair (.int .i64) (.pair .val (.pair .val (.int .i64))))), ⟨a4, 1, 1⟩, [((x0.1.1, x0.1.2.1, (Sl.v ⟨a5, l7, c6⟩), x0.1.2.2.2.1, x0.1.2.2.2.2.1, x0.1.2.2.2.2.2), x0.2.1, (Sl.v ⟨a9, l11, c10⟩), (Sl.v ⟨a13, l15, c14⟩), x0.2.2.2.2)]⟩, ⟨(.int .i64), ⟨a5, l7, c6⟩, x0.1.2.2.1⟩, ⟨(.int .i64), ⟨a9, l11, c10⟩, x0.2.2.1⟩, ⟨.byte, ⟨a13, l15, c14⟩, x0.2.2.2.1⟩] (fun _ : Option Addr × Nat × Option Addr × Nat × Option Addr × Nat => True) (fun q => .tuple #[]) (fun q => [⟨(.pair (.pair (.int .i64) (.pair (.int .i64) (.pair .val (.pair (.int .i64) (.pair (.int .i64) .bool))))) (.pair (.int .i64) (.pair .val (.pair .val (.int .i64))))), ⟨a4, 1, 1⟩, [((r.1.1, r.1.2.1, (Sl.v ⟨q.1, r.1.2.2.1.length, q.2.1⟩), r.1.2.2.2.1, r.1.2.2.2.2.1, r.1.2.2.2.2.2), r.2.1, (Sl.v ⟨q.2.2.1, r.2.2.1.length, q.2.2.2.1⟩), (Sl.v ⟨q.2.2.2.2.1, r.2.2.2.1.length, q.2.2.2.2.2⟩), r.2.2.2.2)]⟩, ⟨(.int .i64), ⟨q.1, r.1.2.2.1.length, q.2.1⟩, r.1.2.2.1⟩, ⟨(.int .i64), ⟨q.2.2.1, r.2.2.1.length, q.2.2.2.1⟩, r.2.2.1⟩, ⟨.byte, ⟨q.2.2.2.2.1, r.2.2.2.1.length, q.2.2.2.2.2⟩, r.2.2.2.1⟩]) :=
  by
    subst hl8
    subst hl12
    subst hl16
    refine FX.of (T := TTx) Tryd.call56 Tryd.func56 rfl rfl fun w0 L0 => ?_
    unfold M_i_Grid_erase_in31 at h
    refine JS.ptr 0 a4 rfl ?_
    refine JS.seq (JS.know 0 rfl fun hs92 => JS.regionQ rfl (by kernel_rfl) (JQ.reg ttOk 6 [] [(8, .v (.int .i64 (max x1 0))), (9, .v (.int .i64 x2)), (12, .ep ⟨a4, 1, 1⟩ 2)] rfl ⟨(hs92.fa ptr0).1, hs92.fa ptr0, (Es rfl)⟩ (JQ.loadV ttOk rfl rfl rfl rfl rfl rfl 0 rfl rfl 0 2 ((x0.1.1, x0.1.2.1, (Sl.v ⟨a5, x0.1.2.2.1.length, c6⟩), x0.1.2.2.2.1, x0.1.2.2.2.2.1, x0.1.2.2.2.2.2), x0.2.1, (Sl.v ⟨a9, x0.2.2.1.length, c10⟩), (Sl.v ⟨a13, x0.2.2.2.1.length, c14⟩), x0.2.2.2.2) ⟨rfl, rfl⟩ rfl rfl rfl (JQ.reg ttOk 4 [] [(1, .v (.int .i64 (max x1 0))), (2, .v (.int .i64 (min x2 (x0.1.2.2.1.length : Int))))] rfl (Es rfl) (JQ.done rfl (JS.seq (JS.rg0 ttOk 3 [(18, .v (.bool (decide ((min x2 (x0.1.2.2.1.length : Int)) ≤ (max x1 0)))))] ⟨⟨rfl, trivial⟩, rfl⟩ rfl rfl ?_)))))))
    refine JS.cond rfl (fun ht109 => ?_) (fun ht109 => ?_)
    · have h := condT h ht109
      cases h
      exact JS.retX ttOk (a5, c6, a9, c10, a13, c14) trivial rfl rfl [0, 0, 0, 0] rfl
    have h := condF h ht109
    refine JS.skip ?_
    obtain ⟨j26, hj108, h⟩ := joinO_some h
    refine JS.seqJ (ι := List Int × Option Addr × Nat) ⟨fun z => j26 z.1 = some r, fun z => [(0, .ep ⟨a4, 1, 1⟩ 0), (1, .v (.int .i64 (max x1 0))), (2, .v (.int .i64 (min x2 (x0.1.2.2.1.length : Int))))], fun z => .nil, fun z => [], fun z => [⟨(.int .i64), ⟨z.2.1, z.1.length, z.2.2⟩, z.1⟩, ⟨(.pair (.pair (.int .i64) (.pair (.int .i64) (.pair .val (.pair (.int .i64) (.pair (.int .i64) .bool))))) (.pair (.int .i64) (.pair .val (.pair .val (.int .i64))))), ⟨a4, 1, 1⟩, [((x0.1.1, x0.1.2.1, (Sl.v ⟨z.2.1, z.1.length, z.2.2⟩), x0.1.2.2.2.1, x0.1.2.2.2.2.1, x0.1.2.2.2.2.2), x0.2.1, (Sl.v ⟨a9, x0.2.2.1.length, c10⟩), (Sl.v ⟨a13, x0.2.2.2.1.length, c14⟩), x0.2.2.2.2)]⟩, ⟨(.int .i64), ⟨a9, x0.2.2.1.length, c10⟩, x0.2.2.1⟩, ⟨.byte, ⟨a13, x0.2.2.2.1.length, c14⟩, x0.2.2.2.1⟩], fun z => 0⟩ ?_ ?_
    · refine JS.seq (JS.region (JO.reg ttOk 3 [] [] [(21, .ep ⟨a4, 1, 1⟩ 2)] _ rfl ⟨(hs92.fa ptr0).1, hs92.fa ptr0, ⟨rfl, trivial⟩, rfl⟩ (JO.loadV ttOk rfl rfl rfl rfl rfl rfl 0 rfl rfl 0 2 ((x0.1.1, x0.1.2.1, (Sl.v ⟨a5, x0.1.2.2.1.length, c6⟩), x0.1.2.2.2.1, x0.1.2.2.2.2.1, x0.1.2.2.2.2.2), x0.2.1, (Sl.v ⟨a9, x0.2.2.1.length, c10⟩), (Sl.v ⟨a13, x0.2.2.2.1.length, c14⟩), x0.2.2.2.2) ⟨rfl, rfl⟩ rfl rfl rfl (JO.know 1 rfl fun hs93 => ?_))))
      obtain ⟨g20, h⟩ := guardO_some h
      refine JO.reg ttOk 2 [] [] [(24, .ep ⟨a5, x0.1.2.2.1.length, c6⟩ (Int.toNat (max x1 0) * 1))] _ rfl ⟨hs93.ix g20, ⟨rfl, trivial⟩, rfl⟩ (JO.load ttOk rfl rfl rfl rfl rfl rfl rfl 1 rfl rfl (Int.toNat (max x1 0)) 0 (at' x0.1.2.2.1 (max x1 0)) ⟨at_some g20, rfl⟩ rfl rfl (JO.reg ttOk 1 [] [] [(26, .v (.bool (decide ((at' x0.1.2.2.1 (max x1 0)) = (-1)))))] _ rfl ⟨⟨rfl, trivial⟩, rfl⟩ (JO.done rfl ?_)))
      refine JS.cond rfl (fun ht94 => ?_) (fun ht94 => ?_)
      · have h := condT h ht94
        refine JS.region (JO.reg ttOk 3 [] [] [(29, .ep ⟨a4, 1, 1⟩ 2)] _ rfl ⟨(hs92.fa ptr0).1, hs92.fa ptr0, ⟨rfl, trivial⟩, rfl⟩ (JO.loadV ttOk rfl rfl rfl rfl rfl rfl 0 rfl rfl 0 2 ((x0.1.1, x0.1.2.1, (Sl.v ⟨a5, x0.1.2.2.1.length, c6⟩), x0.1.2.2.2.1, x0.1.2.2.2.2.1, x0.1.2.2.2.2.2), x0.2.1, (Sl.v ⟨a9, x0.2.2.1.length, c10⟩), (Sl.v ⟨a13, x0.2.2.2.1.length, c14⟩), x0.2.2.2.2) ⟨rfl, rfl⟩ rfl rfl rfl ?_))
        obtain ⟨g21, h⟩ := guardO_some h
        refine JO.reg ttOk 3 [(W ((max x1 0) - 1))] [] [(33, .ep ⟨a5, x0.1.2.2.1.length, c6⟩ (Int.toNat (W ((max x1 0) - 1)) * 1))] _ rfl ⟨⟨trivial, rfl⟩, hs93.ix g21, ⟨rfl, trivial⟩, rfl⟩ (JO.storeE ttOk rfl rfl rfl rfl rfl rfl rfl rfl rfl [1] (fs := []) rfl (Int.toNat (W ((max x1 0) - 1))) 0 (at' x0.1.2.2.1 (W ((max x1 0) - 1))) 32 ⟨at_some g21, rfl⟩ ⟨rfl, rfl, rfl⟩ (JO.done rfl (JS.endJA ((List.set x0.1.2.2.1 (Int.toNat (W ((max x1 0) - 1))) 32), a5, c6) h (Es rfl) trivial [] rfl [0, 1, 2, 3] (by simp only [List.length_set, List.length_replicate, pickO, getF, cl25, cl31]; rfl) rfl)))
      have h := condF h ht94
      refine JS.skip (JS.endJA (x0.1.2.2.1, a5, c6) h (Es rfl) trivial [] rfl [1, 0, 2, 3] rfl rfl)
    rintro ⟨x23, a24, c25⟩ h
    subst hj108
    obtain ⟨j42, hj107, h⟩ := joinO_some h
    refine JS.seqJ (ι := List Int × Option Addr × Nat) ⟨fun z => j42 z.1 = some r, fun z => [(0, .ep ⟨a4, 1, 1⟩ 0), (1, .v (.int .i64 (max x1 0))), (2, .v (.int .i64 (min x2 (x0.1.2.2.1.length : Int))))], fun z => .nil, fun z => [], fun z => [⟨(.int .i64), ⟨z.2.1, z.1.length, z.2.2⟩, z.1⟩, ⟨(.pair (.pair (.int .i64) (.pair (.int .i64) (.pair .val (.pair (.int .i64) (.pair (.int .i64) .bool))))) (.pair (.int .i64) (.pair .val (.pair .val (.int .i64))))), ⟨a4, 1, 1⟩, [((x0.1.1, x0.1.2.1, (Sl.v ⟨z.2.1, z.1.length, z.2.2⟩), x0.1.2.2.2.1, x0.1.2.2.2.2.1, x0.1.2.2.2.2.2), x0.2.1, (Sl.v ⟨a9, x0.2.2.1.length, c10⟩), (Sl.v ⟨a13, x0.2.2.2.1.length, c14⟩), x0.2.2.2.2)]⟩, ⟨(.int .i64), ⟨a9, x0.2.2.1.length, c10⟩, x0.2.2.1⟩, ⟨.byte, ⟨a13, x0.2.2.2.1.length, c14⟩, x0.2.2.2.1⟩], fun z => 0⟩ ?_ ?_
    · refine JS.seq (JS.region (JO.know 1 rfl fun hs95 => JO.reg ttOk 4 [] [] [(34, .v (.int .i64 (min x2 (x0.1.2.2.1.length : Int)))), (37, .ep ⟨a4, 1, 1⟩ 2)] _ rfl ⟨(hs95.fa ptr0).1, hs95.fa ptr0, (Es rfl), rfl⟩ (JO.loadV ttOk rfl rfl rfl rfl rfl rfl 1 rfl rfl 0 2 ((x0.1.1, x0.1.2.1, (Sl.v ⟨a24, x23.length, c25⟩), x0.1.2.2.2.1, x0.1.2.2.2.2.1, x0.1.2.2.2.2.2), x0.2.1, (Sl.v ⟨a9, x0.2.2.1.length, c10⟩), (Sl.v ⟨a13, x0.2.2.2.1.length, c14⟩), x0.2.2.2.2) ⟨rfl, rfl⟩ rfl rfl rfl (JO.reg ttOk 6 [] [] [(41, .v (.bool (decide ((min x2 (x0.1.2.2.1.length : Int)) < (x23.length : Int))))), (44, .cd [(41, true)] (.ep ⟨a4, 1, 1⟩ 2))] _ rfl ⟨(fun q96 => (hs95.fa ptr0).1), (fun q97 => hs95.fa ptr0), (Es rfl), rfl⟩ (JO.loadV ttOk rfl rfl rfl rfl rfl rfl 1 rfl rfl 0 2 ((x0.1.1, x0.1.2.1, (Sl.v ⟨a24, x23.length, c25⟩), x0.1.2.2.2.1, x0.1.2.2.2.2.1, x0.1.2.2.2.2.2), x0.2.1, (Sl.v ⟨a9, x0.2.2.1.length, c10⟩), (Sl.v ⟨a13, x0.2.2.2.1.length, c14⟩), x0.2.2.2.2) (fun q98 => ⟨rfl, rfl⟩) rfl rfl rfl (JO.know 0 rfl fun hs99 => ?_))))))
      obtain ⟨g34, h⟩ := guardO_some h
      refine JO.reg ttOk 2 [] [] [(47, .cd [(41, true)] (.ep ⟨a24, x23.length, c25⟩ (Int.toNat (min x2 (x0.1.2.2.1.length : Int)) * 1)))] _ rfl ⟨(fun q100 => hs99.ix (g34 q100)), ⟨rfl, trivial⟩, rfl⟩ (JO.load ttOk rfl rfl rfl rfl rfl rfl rfl 0 rfl rfl (Int.toNat (min x2 (x0.1.2.2.1.length : Int))) 0 (at' x23 (min x2 (x0.1.2.2.1.length : Int))) (fun q101 => ⟨at_some (g34 q101), rfl⟩) rfl rfl (JO.reg ttOk 2 [] [] [(50, .v (.bool (bif (decide ((min x2 (x0.1.2.2.1.length : Int)) < (x23.length : Int))) then (decide ((at' x23 (min x2 (x0.1.2.2.1.length : Int))) = (-1))) else false)))] _ rfl ⟨⟨rfl, trivial⟩, rfl⟩ (JO.done rfl ?_)))
      refine JS.cond rfl (fun ht102 => ?_) (fun ht102 => ?_)
      · have h := condT h ht102
        refine JS.region (JO.reg ttOk 3 [] [] [(53, .ep ⟨a4, 1, 1⟩ 2)] _ rfl ⟨(hs95.fa ptr0).1, hs95.fa ptr0, ⟨rfl, trivial⟩, rfl⟩ (JO.loadV ttOk rfl rfl rfl rfl rfl rfl 1 rfl rfl 0 2 ((x0.1.1, x0.1.2.1, (Sl.v ⟨a24, x23.length, c25⟩), x0.1.2.2.2.1, x0.1.2.2.2.2.1, x0.1.2.2.2.2.2), x0.2.1, (Sl.v ⟨a9, x0.2.2.1.length, c10⟩), (Sl.v ⟨a13, x0.2.2.2.1.length, c14⟩), x0.2.2.2.2) ⟨rfl, rfl⟩ rfl rfl rfl ?_))
        obtain ⟨g37, h⟩ := guardO_some h
        refine JO.reg ttOk 2 [] [] [(56, .ep ⟨a24, x23.length, c25⟩ (Int.toNat (min x2 (x0.1.2.2.1.length : Int)) * 1))] _ rfl ⟨hs99.ix g37, ⟨rfl, trivial⟩, rfl⟩ (JO.storeE ttOk rfl rfl rfl rfl rfl rfl rfl rfl rfl [0] (fs := []) rfl (Int.toNat (min x2 (x0.1.2.2.1.length : Int))) 0 (at' x23 (min x2 (x0.1.2.2.1.length : Int))) 32 ⟨at_some g37, rfl⟩ ⟨rfl, rfl, rfl⟩ (JO.done rfl (JS.endJA ((List.set x23 (Int.toNat (min x2 (x0.1.2.2.1.length : Int))) 32), a24, c25) h (Es rfl) trivial [] rfl [0, 1, 2, 3] (by simp only [List.length_set, List.length_replicate, pickO, getF, cl25, cl31]; rfl) rfl)))
      have h := condF h ht102
      refine JS.skip (JS.endJA (x23, a24, c25) h (Es rfl) trivial [] rfl [0, 1, 2, 3] rfl rfl)
    rintro ⟨x39, a40, c41⟩ h
    subst hj107
    refine JS.rg0 ttOk 2 [(6, .v (.int .i64 (max x1 0)))] ⟨⟨rfl, trivial⟩, rfl⟩ rfl rfl ?_
    obtain ⟨j83, hj106, h⟩ := joinO_some h
    refine JS.blockJ (ι := List Int × Option Addr × Nat) ⟨fun z => j83 z.1 = some r, fun z => [], fun z => .nil, fun z => [], fun z => [⟨(.int .i64), ⟨z.2.1, z.1.length, z.2.2⟩, z.1⟩, ⟨(.pair (.pair (.int .i64) (.pair (.int .i64) (.pair .val (.pair (.int .i64) (.pair (.int .i64) .bool))))) (.pair (.int .i64) (.pair .val (.pair .val (.int .i64))))), ⟨a4, 1, 1⟩, [((x0.1.1, x0.1.2.1, (Sl.v ⟨z.2.1, z.1.length, z.2.2⟩), x0.1.2.2.2.1, x0.1.2.2.2.2.1, x0.1.2.2.2.2.2), x0.2.1, (Sl.v ⟨a9, x0.2.2.1.length, c10⟩), (Sl.v ⟨a13, x0.2.2.2.1.length, c14⟩), x0.2.2.2.2)]⟩, ⟨(.int .i64), ⟨a9, x0.2.2.1.length, c10⟩, x0.2.2.1⟩, ⟨.byte, ⟨a13, x0.2.2.2.1.length, c14⟩, x0.2.2.2.1⟩], fun z => 0⟩ ?_ ?_
    · refine JS.loop (ι := Nat × Int × List Int × Option Addr × Nat) ⟨fun z => fixF (M_i_Grid_erase_in31_L1 x0 x2 j83) z.1 (z.2.1, z.2.2.1) = some r, fun z => [(0, .ep ⟨a4, 1, 1⟩ 0), (2, .v (.int .i64 (min x2 (x0.1.2.2.1.length : Int)))), (6, .v (.int .i64 z.2.1))], fun z => .nil, fun z => [], fun z => [⟨(.int .i64), ⟨z.2.2.2.1, z.2.2.1.length, z.2.2.2.2⟩, z.2.2.1⟩, ⟨(.pair (.pair (.int .i64) (.pair (.int .i64) (.pair .val (.pair (.int .i64) (.pair (.int .i64) .bool))))) (.pair (.int .i64) (.pair .val (.pair .val (.int .i64))))), ⟨a4, 1, 1⟩, [((x0.1.1, x0.1.2.1, (Sl.v ⟨z.2.2.2.1, z.2.2.1.length, z.2.2.2.2⟩), x0.1.2.2.2.1, x0.1.2.2.2.2.1, x0.1.2.2.2.2.2), x0.2.1, (Sl.v ⟨a9, x0.2.2.1.length, c10⟩), (Sl.v ⟨a13, x0.2.2.2.1.length, c14⟩), x0.2.2.2.2)]⟩, ⟨(.int .i64), ⟨a9, x0.2.2.1.length, c10⟩, x0.2.2.1⟩, ⟨.byte, ⟨a13, x0.2.2.2.1.length, c14⟩, x0.2.2.2.1⟩], fun z => z.1⟩ (FUEL, (max x1 0), x39, a40, c41) h (Es rfl) trivial [] rfl [0, 0, 0, 0] rfl ?_
      rintro ⟨n76, x51, x54, a55, c56⟩ h
      obtain ⟨n76, rfl, h⟩ := fixF_some h
      rw [M_i_Grid_erase_in31_L1] at h
      refine JS.seq (JS.rg0 ttOk 3 [(60, .v (.bool (decide (x51 < (min x2 (x0.1.2.2.1.length : Int))))))] ⟨⟨rfl, trivial⟩, rfl⟩ rfl rfl ?_)
      refine JS.cond rfl (fun ht105 => ?_) (fun ht105 => ?_)
      · have h := condT h ht105
        refine JS.skip (JS.seq (JS.block (JS.region (JO.know 1 rfl fun hs103 => JO.reg ttOk 3 [] [] [(65, .ep ⟨a4, 1, 1⟩ 2)] _ rfl ⟨(hs103.fa ptr0).1, hs103.fa ptr0, ⟨rfl, trivial⟩, rfl⟩ (JO.loadV ttOk rfl rfl rfl rfl rfl rfl 1 rfl rfl 0 2 ((x0.1.1, x0.1.2.1, (Sl.v ⟨a55, x54.length, c56⟩), x0.1.2.2.2.1, x0.1.2.2.2.2.1, x0.1.2.2.2.2.2), x0.2.1, (Sl.v ⟨a9, x0.2.2.1.length, c10⟩), (Sl.v ⟨a13, x0.2.2.2.1.length, c14⟩), x0.2.2.2.2) ⟨rfl, rfl⟩ rfl rfl rfl (JO.know 0 rfl fun hs104 => ?_))))))
        obtain ⟨g70, h⟩ := guardO_some h
        refine JO.reg ttOk 2 [] [] [(68, .ep ⟨a55, x54.length, c56⟩ (Int.toNat x51 * 1))] _ rfl ⟨hs104.ix g70, ⟨rfl, trivial⟩, rfl⟩ (JO.storeE ttOk rfl rfl rfl rfl rfl rfl rfl rfl rfl [0] (fs := []) rfl (Int.toNat x51) 0 (at' x54 x51) 32 ⟨at_some g70, rfl⟩ ⟨rfl, rfl, rfl⟩ (JO.done rfl (JS.endB (JS.re ttOk 3 [(W (x51 + 1))] [] [(6, .v (.int .i64 (W (x51 + 1))))] _ ⟨⟨trivial, rfl⟩, ⟨rfl, trivial⟩, rfl⟩ rfl rfl (JS.endLA (n76, (W (x51 + 1)), (List.set x54 (Int.toNat x51) 32), a55, c56) h (Nat.lt_succ_self _) (Es rfl) trivial [] rfl [0, 1, 2, 3] (by simp only [List.length_set, List.length_replicate, pickO, getF, cl25, cl31]; rfl) rfl)))))
      have h := condF h ht105
      refine JS.exit rfl (JS.endJA (x54, a55, c56) h trivial trivial [] rfl [0, 1, 2, 3] rfl rfl)
    rintro ⟨x80, a81, c82⟩ h
    subst hj106
    cases h
    exact JS.fallX ttOk (a81, c82, a9, c10, a13, c14) trivial rfl rfl [1, 0, 0, 0] rfl

def M_i_Vt_clear (x0 : (Int × Int × List Int × Int × Int × Bool) × Int × List Int × List UInt8 × Int) (x1 : Int) (x2 : Int) : Option ((Int × Int × List Int × Int × Int × Bool) × Int × List Int × List UInt8 × Int) :=
  (joinO (fun (x21 : Int) =>
  (joinO (fun ((x55, x56, x57, x60, x61, x62, x63, x64, x67, x70) : Int × Int × List Int × Int × Int × Bool × Int × List Int × List UInt8 × Int) =>
  some ((x55, x56, x57, x60, x61, x62), x63, x64, x67, x70)) fun j71 =>
  (bif (decide (x21 = 0)) then
  (bindO (M_i_Grid_erase_in31 x0 (W ((W (x0.1.2.2.2.2.1 * x0.1.1)) + x0.1.2.2.2.1)) x2) fun (y28 : (Int × Int × List Int × Int × Int × Bool) × Int × List Int × List UInt8 × Int) =>
  j71 (y28.1.1, y28.1.2.1, y28.1.2.2.1, y28.1.2.2.2.1, y28.1.2.2.2.2.1, y28.1.2.2.2.2.2, y28.2.1, y28.2.2.1, y28.2.2.2.1, y28.2.2.2.2))
  else
  (bif (decide (x21 = 1)) then
  (bindO (M_i_Grid_erase_in31 x0 x1 (W ((W ((W (x0.1.2.2.2.2.1 * x0.1.1)) + x0.1.2.2.2.1)) + 1))) fun (y36 : (Int × Int × List Int × Int × Int × Bool) × Int × List Int × List UInt8 × Int) =>
  j71 (y36.1.1, y36.1.2.1, y36.1.2.2.1, y36.1.2.2.2.1, y36.1.2.2.2.2.1, y36.1.2.2.2.2.2, y36.2.1, y36.2.2.1, y36.2.2.2.1, y36.2.2.2.2))
  else
  (bif (decide (x21 = 2)) then
  (bindO (M_i_Grid_erase_in31 x0 x1 x2) fun (y44 : (Int × Int × List Int × Int × Int × Bool) × Int × List Int × List UInt8 × Int) =>
  j71 (y44.1.1, y44.1.2.1, y44.1.2.2.1, y44.1.2.2.2.1, y44.1.2.2.2.2.1, y44.1.2.2.2.2.2, y44.2.1, y44.2.2.1, y44.2.2.2.1, y44.2.2.2.2))
  else
  j71 (x0.1.1, x0.1.2.1, x0.1.2.2.1, x0.1.2.2.2.1, x0.1.2.2.2.2.1, x0.1.2.2.2.2.2, x0.2.1, x0.2.2.1, x0.2.2.2.1, x0.2.2.2.2)))))) fun j22 =>
  (bif (decide (0 < (x0.2.2.1.length : Int))) then
  (guardO (0 ≤ (0 : Int) ∧ 0 < (x0.2.2.1.length : Int)) <|
  j22 (at' x0.2.2.1 0))
  else
  j22 0))

theorem ok_i_Vt_clear (x0 : (Int × Int × List Int × Int × Int × Bool) × Int × List Int × List UInt8 × Int) (x1 : Int) (x2 : Int) (a4 : Option Addr) (a5 : Option Addr) (c6 : Nat) (l7 : Nat) (hl8 : x0.1.2.2.1.length = l7) (a9 : Option Addr) (c10 : Nat) (l11 : Nat) (hl12 : x0.2.2.1.length = l11) (a13 : Option Addr) (c14 : Nat) (l15 : Nat) (hl16 : x0.2.2.2.1.length = l15) (r : (Int × Int × List Int × Int × Int × Bool) × Int × List Int × List UInt8 × Int) (h : M_i_Vt_clear x0 x1 x2 = some r) :
    FX Tryd.prog 58 [.pointer a4, .int .i64 x1, .int .i64 x2] [] [⟨(.pair (.pair (.int .i64) (.pair (.int .i64) (.pair .val (.pair (.int .i64) (.pair (.int .i64) .bool))))) (.pair (.int .i64) (.pair .val (.pair .val (.int .i64))))), ⟨a4, 1, 1⟩, [((x0.1.1, x0.1.2.1, (Sl.v ⟨a5, l7, c6⟩), x0.1.2.2.2.1, x0.1.2.2.2.2.1, x0.1.2.2.2.2.2), x0.2.1, (Sl.v ⟨a9, l11, c10⟩), (Sl.v ⟨a13, l15, c14⟩), x0.2.2.2.2)]⟩, ⟨(.int .i64), ⟨a5, l7, c6⟩, x0.1.2.2.1⟩, ⟨(.int .i64), ⟨a9, l11, c10⟩, x0.2.2.1⟩, ⟨.byte, ⟨a13, l15, c14⟩, x0.2.2.2.1⟩] (fun _ : Option Addr × Nat × Option Addr × Nat × Option Addr × Nat => True) (fun q => .tuple #[]) (fun q => [⟨(.pair (.pair (.int .i64) (.pair (.int .i64) (.pair .val (.pair (.int .i64) (.pair (.int .i64) .bool))))) (.pair (.int .i64) (.pair .val (.pair .val (.int .i64))))), ⟨a4, 1, 1⟩, [((r.1.1, r.1.2.1, (Sl.v ⟨q.1, r.1.2.2.1.length, q.2.1⟩), r.1.2.2.2.1, r.1.2.2.2.2.1, r.1.2.2.2.2.2), r.2.1, (Sl.v ⟨q.2.2.1, r.2.2.1.length, q.2.2.2.1⟩), (Sl.v ⟨q.2.2.2.2.1, r.2.2.2.1.length, q.2.2.2.2.2⟩), r.2.2.2.2)]⟩, ⟨(.int .i64), ⟨q.1, r.1.2.2.1.length, q.2.1⟩, r.1.2.2.1⟩, ⟨(.int .i64), ⟨q.2.2.1, r.2.2.1.length, q.2.2.2.1⟩, r.2.2.1⟩, ⟨.byte, ⟨q.2.2.2.2.1, r.2.2.2.1.length, q.2.2.2.2.2⟩, r.2.2.2.1⟩]) :=
  by
    subst hl8
    subst hl12
    subst hl16
    refine FX.of (T := TTx) Tryd.call58 Tryd.func58 rfl rfl fun w0 L0 => ?_
    unfold M_i_Vt_clear at h
    refine JS.ptr 0 a4 rfl ?_
    refine JS.rg0 ttOk 1 [(6, .v (.int .i64 0))] ⟨⟨rfl, trivial⟩, rfl⟩ rfl rfl ?_
    obtain ⟨j22, hj86, h⟩ := joinO_some h
    refine JS.seqJ (ι := Int) ⟨fun z => j22 z = some r, fun z => [(0, .ep ⟨a4, 1, 1⟩ 0), (1, .v (.int .i64 x1)), (2, .v (.int .i64 x2)), (6, .v (.int .i64 z))], fun z => .nil, fun z => [], fun z => [⟨(.pair (.pair (.int .i64) (.pair (.int .i64) (.pair .val (.pair (.int .i64) (.pair (.int .i64) .bool))))) (.pair (.int .i64) (.pair .val (.pair .val (.int .i64))))), ⟨a4, 1, 1⟩, [((x0.1.1, x0.1.2.1, (Sl.v ⟨a5, x0.1.2.2.1.length, c6⟩), x0.1.2.2.2.1, x0.1.2.2.2.2.1, x0.1.2.2.2.2.2), x0.2.1, (Sl.v ⟨a9, x0.2.2.1.length, c10⟩), (Sl.v ⟨a13, x0.2.2.2.1.length, c14⟩), x0.2.2.2.2)]⟩, ⟨(.int .i64), ⟨a5, x0.1.2.2.1.length, c6⟩, x0.1.2.2.1⟩, ⟨(.int .i64), ⟨a9, x0.2.2.1.length, c10⟩, x0.2.2.1⟩, ⟨.byte, ⟨a13, x0.2.2.2.1.length, c14⟩, x0.2.2.2.1⟩], fun z => 0⟩ ?_ ?_
    · refine JS.seq (JS.region (JO.know 0 rfl fun hs77 => JO.reg ttOk 3 [] [] [(10, .ep ⟨a4, 1, 1⟩ 7)] _ rfl ⟨(hs77.fa ptr0).1, hs77.fa ptr0, ⟨rfl, trivial⟩, rfl⟩ (JO.loadV ttOk rfl rfl rfl rfl rfl rfl 0 rfl rfl 0 7 ((x0.1.1, x0.1.2.1, (Sl.v ⟨a5, x0.1.2.2.1.length, c6⟩), x0.1.2.2.2.1, x0.1.2.2.2.2.1, x0.1.2.2.2.2.2), x0.2.1, (Sl.v ⟨a9, x0.2.2.1.length, c10⟩), (Sl.v ⟨a13, x0.2.2.2.1.length, c14⟩), x0.2.2.2.2) ⟨rfl, rfl⟩ rfl rfl rfl (JO.reg ttOk 2 [] [] [(13, .v (.bool (decide (0 < (x0.2.2.1.length : Int)))))] _ rfl ⟨⟨rfl, trivial⟩, rfl⟩ (JO.done rfl ?_)))))
      refine JS.cond rfl (fun ht79 => ?_) (fun ht79 => ?_)
      · have h := condT h ht79
        refine JS.region (JO.reg ttOk 3 [] [] [(16, .ep ⟨a4, 1, 1⟩ 7)] _ rfl ⟨(hs77.fa ptr0).1, hs77.fa ptr0, ⟨rfl, trivial⟩, rfl⟩ (JO.loadV ttOk rfl rfl rfl rfl rfl rfl 0 rfl rfl 0 7 ((x0.1.1, x0.1.2.1, (Sl.v ⟨a5, x0.1.2.2.1.length, c6⟩), x0.1.2.2.2.1, x0.1.2.2.2.2.1, x0.1.2.2.2.2.2), x0.2.1, (Sl.v ⟨a9, x0.2.2.1.length, c10⟩), (Sl.v ⟨a13, x0.2.2.2.1.length, c14⟩), x0.2.2.2.2) ⟨rfl, rfl⟩ rfl rfl rfl (JO.know 2 rfl fun hs78 => ?_)))
        obtain ⟨g19, h⟩ := guardO_some h
        refine JO.reg ttOk 1 [] [] [(18, .ep ⟨a9, x0.2.2.1.length, c10⟩ (Int.toNat 0 * 1))] _ rfl ⟨hs78.ix g19, ⟨rfl, trivial⟩, rfl⟩ (JO.load ttOk rfl rfl rfl rfl rfl rfl rfl 2 rfl rfl (Int.toNat 0) 0 (at' x0.2.2.1 0) ⟨at_some g19, rfl⟩ rfl rfl (JO.reg ttOk 1 [] [] [(6, .v (.int .i64 (at' x0.2.2.1 0)))] _ rfl ⟨⟨rfl, trivial⟩, rfl⟩ (JO.done rfl (JS.endJA (at' x0.2.2.1 0) h (Es rfl) trivial [] rfl [0, 1, 2, 3] rfl rfl))))
      have h := condF h ht79
      refine JS.skip (JS.endJA 0 h (Es rfl) trivial [] rfl [0, 1, 2, 3] rfl rfl)
    rintro x21 h
    subst hj86
    refine JS.seq (JS.know 0 rfl fun hs81 => JS.regionQ rfl (by kernel_rfl) (JQ.reg ttOk 4 [] [(23, .ep ⟨a4, 1, 1⟩ 4)] rfl ⟨(hs81.fa ptr0).1, hs81.fa ptr0, hs81.fa ptr0, ⟨rfl, trivial⟩⟩ (JQ.loadV ttOk rfl rfl rfl rfl rfl rfl 0 rfl rfl 0 4 ((x0.1.1, x0.1.2.1, (Sl.v ⟨a5, x0.1.2.2.1.length, c6⟩), x0.1.2.2.2.1, x0.1.2.2.2.2.1, x0.1.2.2.2.2.2), x0.2.1, (Sl.v ⟨a9, x0.2.2.1.length, c10⟩), (Sl.v ⟨a13, x0.2.2.2.1.length, c14⟩), x0.2.2.2.2) ⟨rfl, rfl⟩ rfl rfl rfl (JQ.reg ttOk 4 [] [(28, .ep ⟨a4, 1, 1⟩ 0)] rfl ⟨(hs81.fa ptr0).1, hs81.fa ptr0, hs81.fa ptr0, ⟨rfl, trivial⟩⟩ (JQ.loadV ttOk rfl rfl rfl rfl rfl rfl 0 rfl rfl 0 0 ((x0.1.1, x0.1.2.1, (Sl.v ⟨a5, x0.1.2.2.1.length, c6⟩), x0.1.2.2.2.1, x0.1.2.2.2.2.1, x0.1.2.2.2.2.2), x0.2.1, (Sl.v ⟨a9, x0.2.2.1.length, c10⟩), (Sl.v ⟨a13, x0.2.2.2.1.length, c14⟩), x0.2.2.2.2) ⟨rfl, rfl⟩ rfl rfl rfl (JQ.reg ttOk 5 [(W (x0.1.2.2.2.2.1 * x0.1.1))] [(30, .v (.int .i64 (W (x0.1.2.2.2.2.1 * x0.1.1)))), (34, .ep ⟨a4, 1, 1⟩ 3)] rfl ⟨⟨trivial, rfl⟩, (hs81.fa ptr0).1, hs81.fa ptr0, hs81.fa ptr0, (Es rfl)⟩ (JQ.loadV ttOk rfl rfl rfl rfl rfl rfl 0 rfl rfl 0 3 ((x0.1.1, x0.1.2.1, (Sl.v ⟨a5, x0.1.2.2.1.length, c6⟩), x0.1.2.2.2.1, x0.1.2.2.2.2.1, x0.1.2.2.2.2.2), x0.2.1, (Sl.v ⟨a9, x0.2.2.1.length, c10⟩), (Sl.v ⟨a13, x0.2.2.2.1.length, c14⟩), x0.2.2.2.2) ⟨rfl, rfl⟩ rfl rfl rfl (JQ.reg ttOk 2 [(W ((W (x0.1.2.2.2.2.1 * x0.1.1)) + x0.1.2.2.2.1))] [(7, .v (.int .i64 (W ((W (x0.1.2.2.2.2.1 * x0.1.1)) + x0.1.2.2.2.1))))] rfl ⟨⟨trivial, rfl⟩, ⟨rfl, trivial⟩⟩ (JQ.done rfl (JS.rg0 ttOk 1 [(37, .v (.int .i64 x21))] ⟨⟨rfl, trivial⟩, rfl⟩ rfl rfl ?_))))))))))
    obtain ⟨j71, hj85, h⟩ := joinO_some h
    refine JS.blockJ (ι := Int × Int × List Int × Int × Int × Bool × Int × List Int × List UInt8 × Int × Option Addr × Nat × Option Addr × Nat × Option Addr × Nat) ⟨fun z => j71 (z.1, z.2.1, z.2.2.1, z.2.2.2.1, z.2.2.2.2.1, z.2.2.2.2.2.1, z.2.2.2.2.2.2.1, z.2.2.2.2.2.2.2.1, z.2.2.2.2.2.2.2.2.1, z.2.2.2.2.2.2.2.2.2.1) = some r, fun z => [], fun z => .nil, fun z => [], fun z => [⟨(.int .i64), ⟨z.2.2.2.2.2.2.2.2.2.2.1, z.2.2.1.length, z.2.2.2.2.2.2.2.2.2.2.2.1⟩, z.2.2.1⟩, ⟨(.int .i64), ⟨z.2.2.2.2.2.2.2.2.2.2.2.2.1, z.2.2.2.2.2.2.2.1.length, z.2.2.2.2.2.2.2.2.2.2.2.2.2.1⟩, z.2.2.2.2.2.2.2.1⟩, ⟨.byte, ⟨z.2.2.2.2.2.2.2.2.2.2.2.2.2.2.1, z.2.2.2.2.2.2.2.2.1.length, z.2.2.2.2.2.2.2.2.2.2.2.2.2.2.2⟩, z.2.2.2.2.2.2.2.2.1⟩, ⟨(.pair (.pair (.int .i64) (.pair (.int .i64) (.pair .val (.pair (.int .i64) (.pair (.int .i64) .bool))))) (.pair (.int .i64) (.pair .val (.pair .val (.int .i64))))), ⟨a4, 1, 1⟩, [((z.1, z.2.1, (Sl.v ⟨z.2.2.2.2.2.2.2.2.2.2.1, z.2.2.1.length, z.2.2.2.2.2.2.2.2.2.2.2.1⟩), z.2.2.2.1, z.2.2.2.2.1, z.2.2.2.2.2.1), z.2.2.2.2.2.2.1, (Sl.v ⟨z.2.2.2.2.2.2.2.2.2.2.2.2.1, z.2.2.2.2.2.2.2.1.length, z.2.2.2.2.2.2.2.2.2.2.2.2.2.1⟩), (Sl.v ⟨z.2.2.2.2.2.2.2.2.2.2.2.2.2.2.1, z.2.2.2.2.2.2.2.2.1.length, z.2.2.2.2.2.2.2.2.2.2.2.2.2.2.2⟩), z.2.2.2.2.2.2.2.2.2.1)]⟩], fun z => 0⟩ ?_ ?_
    · refine JS.rg0 ttOk 2 [(38, .v (.bool (decide (x21 = 0))))] ⟨⟨rfl, trivial⟩, rfl⟩ rfl rfl ?_
      refine JS.cond rfl (fun ht84 => ?_) (fun ht84 => ?_)
      · have h := condT h ht84
        refine JS.region (JO.reg ttOk 5 [] [] [(42, .ep ⟨a4, 1, 1⟩ 0), (43, .v (.int .i64 (W ((W (x0.1.2.2.2.2.1 * x0.1.1)) + x0.1.2.2.2.1)))), (44, .v (.int .i64 x2))] _ rfl ⟨(hs81.fa ptr0).1, hs81.fa ptr0, (Es rfl), rfl⟩ ?_)
        obtain ⟨y28, hy29, h⟩ := bindO_some h
        refine JO.callX rfl rfl rfl rfl (ok_i_Grid_erase_in31 x0 (W ((W (x0.1.2.2.2.2.1 * x0.1.1)) + x0.1.2.2.2.1)) x2 a4 a5 c6 x0.1.2.2.1.length rfl a9 c10 x0.2.2.1.length rfl a13 c14 x0.2.2.2.1.length rfl _ hy29) rfl [0, 0, 0, 0] rfl [] rfl rfl ?_
        rintro ⟨a30, c31, a32, c33, a34, c35⟩ -
        refine JO.done rfl (JS.endB (JS.endJA (y28.1.1, y28.1.2.1, y28.1.2.2.1, y28.1.2.2.2.1, y28.1.2.2.2.2.1, y28.1.2.2.2.2.2, y28.2.1, y28.2.2.1, y28.2.2.2.1, y28.2.2.2.2, a30, c31, a32, c33, a34, c35) h trivial trivial [] rfl [1, 2, 3, 0] rfl rfl))
      have h := condF h ht84
      refine JS.rg0 ttOk 2 [(46, .v (.bool (decide (x21 = 1))))] ⟨⟨rfl, trivial⟩, rfl⟩ rfl rfl ?_
      refine JS.cond rfl (fun ht83 => ?_) (fun ht83 => ?_)
      · have h := condT h ht83
        refine JS.region (JO.reg ttOk 6 [(W ((W ((W (x0.1.2.2.2.2.1 * x0.1.1)) + x0.1.2.2.2.1)) + 1))] [] [(50, .ep ⟨a4, 1, 1⟩ 0), (51, .v (.int .i64 x1)), (53, .v (.int .i64 (W ((W ((W (x0.1.2.2.2.2.1 * x0.1.1)) + x0.1.2.2.2.1)) + 1))))] _ rfl ⟨(hs81.fa ptr0).1, hs81.fa ptr0, ⟨trivial, rfl⟩, (Es rfl), rfl⟩ ?_)
        obtain ⟨y36, hy37, h⟩ := bindO_some h
        refine JO.callX rfl rfl rfl rfl (ok_i_Grid_erase_in31 x0 x1 (W ((W ((W (x0.1.2.2.2.2.1 * x0.1.1)) + x0.1.2.2.2.1)) + 1)) a4 a5 c6 x0.1.2.2.1.length rfl a9 c10 x0.2.2.1.length rfl a13 c14 x0.2.2.2.1.length rfl _ hy37) rfl [0, 0, 0, 0] rfl [] rfl rfl ?_
        rintro ⟨a38, c39, a40, c41, a42, c43⟩ -
        refine JO.done rfl (JS.endB (JS.endJA (y36.1.1, y36.1.2.1, y36.1.2.2.1, y36.1.2.2.2.1, y36.1.2.2.2.2.1, y36.1.2.2.2.2.2, y36.2.1, y36.2.2.1, y36.2.2.2.1, y36.2.2.2.2, a38, c39, a40, c41, a42, c43) h trivial trivial [] rfl [1, 2, 3, 0] rfl rfl))
      have h := condF h ht83
      refine JS.rg0 ttOk 2 [(55, .v (.bool (decide (x21 = 2))))] ⟨⟨rfl, trivial⟩, rfl⟩ rfl rfl ?_
      refine JS.cond rfl (fun ht82 => ?_) (fun ht82 => ?_)
      · have h := condT h ht82
        refine JS.region (JO.reg ttOk 5 [] [] [(59, .ep ⟨a4, 1, 1⟩ 0), (60, .v (.int .i64 x1)), (61, .v (.int .i64 x2))] _ rfl ⟨(hs81.fa ptr0).1, hs81.fa ptr0, (Es rfl), rfl⟩ ?_)
        obtain ⟨y44, hy45, h⟩ := bindO_some h
        refine JO.callX rfl rfl rfl rfl (ok_i_Grid_erase_in31 x0 x1 x2 a4 a5 c6 x0.1.2.2.1.length rfl a9 c10 x0.2.2.1.length rfl a13 c14 x0.2.2.2.1.length rfl _ hy45) rfl [0, 0, 0, 0] rfl [] rfl rfl ?_
        rintro ⟨a46, c47, a48, c49, a50, c51⟩ -
        refine JO.done rfl (JS.endB (JS.endJA (y44.1.1, y44.1.2.1, y44.1.2.2.1, y44.1.2.2.2.1, y44.1.2.2.2.2.1, y44.1.2.2.2.2.2, y44.2.1, y44.2.2.1, y44.2.2.2.1, y44.2.2.2.2, a46, c47, a48, c49, a50, c51) h trivial trivial [] rfl [1, 2, 3, 0] rfl rfl))
      have h := condF h ht82
      refine JS.skip (JS.endB (JS.endJA (x0.1.1, x0.1.2.1, x0.1.2.2.1, x0.1.2.2.2.1, x0.1.2.2.2.2.1, x0.1.2.2.2.2.2, x0.2.1, x0.2.2.1, x0.2.2.2.1, x0.2.2.2.2, a5, c6, a9, c10, a13, c14) h trivial trivial [] rfl [1, 2, 3, 0] rfl rfl))
    rintro ⟨x55, x56, x57, x60, x61, x62, x63, x64, x67, x70, a58, c59, a65, c66, a68, c69⟩ h
    subst hj85
    cases h
    exact JS.fallX ttOk (a58, c59, a65, c66, a68, c69) trivial rfl rfl [3, 0, 0, 0] rfl

end
end Go.Eng
