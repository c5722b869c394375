/- The walks of the functions that FnKey reaches: what each computes, as a plain function (M_..), and that the model computes it (ok_..). Condition of each: that the plain function answers. -/
import Derived.Test.YtgpolgjhiknefaaDoorEngB
import Derived.Test.YtgpolgjhiknefaaDoorChecked
import Derived.Lib.Strings
import Derived.Lib.Slices
import Derived.Lib.Walk
import Derived.Lib.Bytealg
set_option linter.unusedVariables false
set_option linter.unusedSimpArgs false
namespace Go.Proofs

set_option maxHeartbeats 1000000 in
set_option maxRecDepth 100000 in
/-- internal/stringslite.IndexByte (what strings.IndexByte calls): IT RETURNS 'Lib.indexByte s c'; the world is as it was. -/
theorem Tryd.stringslite_IndexByte (s : ByteArray) (c : Int) (w : World) :
    Calls Tryd.prog 45 #[.string s, .int .u8 c] w fun e w' => e = .returned (.int .i64 (Lib.indexByte s.data.toList c.toNat.toUInt8)) ∧ w' = w := by
  go_enter Tryd.func45, Tryd.ntmps45
  go_wp2
  rw [run_callFunc_extern Tryd.func49 (by kernel_rfl) (by kernel_rfl) (by kernel_rfl) (e := Extern.BytealgIndexByte.indexByte) (by kernel_rfl), Lib.run_indexByteString]
  simp only [Result.andThen]
  rw [Oper.upon_value]
  go_wp2
  go_ret
  exact ⟨rfl, rfl⟩

end Go.Proofs

namespace Go.Proofs

set_option maxHeartbeats 2000000 in
set_option maxRecDepth 100000 in
/-- internal/stringslite.Index (what strings.Index calls) AT A substr OF ONE BYTE c: IT RETURNS 'Lib.indexByte s c'; the world is as it was. -/
theorem Tryd.stringslite_Index_one (s : ByteArray) (c : UInt8) (w : World) :
    Calls Tryd.prog 43 #[.string s, .string ⟨#[c]⟩] w fun e w' => e = .returned (.int .i64 (Lib.indexByte s.data.toList c)) ∧ w' = w := by
  go_enter Tryd.func43, Tryd.ntmps43
  go_wp2_with (go_at_call 45; refine (Tryd.stringslite_IndexByte _ _ _).mono ?_; rintro e w' ⟨rfl, rfl⟩)
  · have h : ([c] == s.toList) = true := by assumption
    go_ret
    refine ⟨?_, rfl⟩
    have e : s.data.toList = [c] := by rw [← Lib.toList_data]; exact (beq_iff_eq.1 h).symm
    rw [e]
    simp [Lib.indexByte]
  · go_ret
    exact ⟨rfl, rfl⟩

end Go.Proofs

namespace Go.Proofs

set_option maxHeartbeats 1000000 in
/-- strings.Index: "Index returns the index of the first instance of substr in s, or -1 if substr is not present in s.": AT A substr OF ONE BYTE c: IT RETURNS 'Lib.indexByte s c'; the world is as it was. -/
theorem Tryd.strings_Index_one (s : ByteArray) (c : UInt8) (w : World) :
    Calls Tryd.prog 39 #[.string s, .string ⟨#[c]⟩] w fun e w' => e = .returned (.int .i64 (Lib.indexByte s.data.toList c)) ∧ w' = w := by
  go_enter Tryd.func39, Tryd.ntmps39
  go_wp2_with (go_at_call 43; refine (Tryd.stringslite_Index_one _ _ _).mono ?_; rintro e w' ⟨rfl, rfl⟩)
  go_ret
  exact ⟨rfl, rfl⟩

end Go.Proofs

namespace Go.Proofs

set_option maxHeartbeats 1000000 in
set_option maxRecDepth 100000 in
/-- strings.Count AT A substr OF ONE BYTE ('hp'): "Count counts the number of non-overlapping instances of substr in s.": IT RETURNS 'Lib.countByte s (that byte)'; the world is as it was. ✋ NO CONTRACT HERE YET at an empty substr (utf8.RuneCountInString) or at a longer one (a loop over strings.Index). -/
theorem Tryd.strings_Count_one (s : ByteArray) (c : UInt8) (w : World) :
    Calls Tryd.prog 38 #[.string s, .string ⟨#[c]⟩] w fun e w' => e = .returned (.int .i64 (Lib.countByte s.data.toList c)) ∧ w' = w := by
  go_enter Tryd.func38, Tryd.ntmps38
  go_wp2
  rw [run_callFunc_extern Tryd.func42 (by kernel_rfl) (by kernel_rfl) (by kernel_rfl) (e := Extern.BytealgCount.count) (by kernel_rfl), Lib.run_countString]
  simp only [Result.andThen]
  rw [Oper.upon_value]
  go_wp2
  go_ret
  exact ⟨rfl, rfl⟩

end Go.Proofs

namespace Go.Eng
open Go Go.Proofs
noncomputable section


def TTx : TT := [
  (2, ⟨.int .i64, 1, 8, [.int .i64 0]⟩),
  (3, ⟨.int .i64, 1, 8, [.int .i64 0]⟩),
  (4, ⟨.bool, 1, 1, [.bool false]⟩),
  (5, ⟨.int .u8, 1, 1, [.int .u8 0]⟩),
  (6, ⟨.int .u8, 1, 1, [.int .u8 0]⟩),
  (7, ⟨.struct [(0, 2), (1, 3), (2, 4), (3, 6)], 4, 24, [.int .i64 0, .int .i64 0, .bool false, .int .u8 0]⟩),
  (8, ⟨.struct [(0, 2), (1, 3), (2, 4), (3, 6)], 4, 24, [.int .i64 0, .int .i64 0, .bool false, .int .u8 0]⟩),
  (9, ⟨.str, 1, 16, [.string ByteArray.empty]⟩),
  (10, ⟨.str, 1, 16, [.string ByteArray.empty]⟩),
  (11, ⟨.str, 1, 16, [.string ByteArray.empty]⟩),
  (12, ⟨.int .u64, 1, 8, [.int .u64 0]⟩),
  (13, ⟨.struct [(0, 9), (1, 12)], 2, 24, [.string ByteArray.empty, .int .u64 0]⟩),
  (14, ⟨.struct [(0, 9), (1, 12)], 2, 24, [.string ByteArray.empty, .int .u64 0]⟩),
  (21, ⟨.int .i32, 1, 4, [.int .i32 0]⟩),
  (22, ⟨.slice 5, 1, 24, [.slice none 0 0]⟩),
  (23, ⟨.struct [(0, 3), (1, 3)], 2, 16, [.int .i64 0, .int .i64 0]⟩),
  (24, ⟨.struct [(0, 3), (1, 3)], 2, 16, [.int .i64 0, .int .i64 0]⟩),
  (26, ⟨.struct [(0, 3), (1, 22)], 2, 32, [.int .i64 0, .slice none 0 0]⟩),
  (27, ⟨.struct [(0, 3), (1, 22)], 2, 32, [.int .i64 0, .slice none 0 0]⟩),
  (28, ⟨.slice 24, 1, 24, [.slice none 0 0]⟩),
  (46, ⟨.slice 9, 1, 24, [.slice none 0 0]⟩),
  (48, ⟨.slice 3, 1, 24, [.slice none 0 0]⟩),
  (54, ⟨.struct [(0, 22), (1, 3), (2, 3)], 3, 40, [.slice none 0 0, .int .i64 0, .int .i64 0]⟩),
  (55, ⟨.struct [(0, 22), (1, 3), (2, 3)], 3, 40, [.slice none 0 0, .int .i64 0, .int .i64 0]⟩),
  (66, ⟨.int .u64, 1, 8, [.int .u64 0]⟩),
  (73, ⟨.struct [(0, 5), (1, 5)], 2, 2, [.int .u8 0, .int .u8 0]⟩),
  (74, ⟨.struct [(0, 5), (1, 5)], 2, 2, [.int .u8 0, .int .u8 0]⟩),
  (76, ⟨.int .u32, 1, 4, [.int .u32 0]⟩),
  (86, ⟨.int .u8, 1, 1, [.int .u8 0]⟩),
  (87, ⟨.int .u8, 1, 1, [.int .u8 0]⟩),
  (90, ⟨.int .i32, 1, 4, [.int .i32 0]⟩),
  (91, ⟨.int .i32, 1, 4, [.int .i32 0]⟩)]

set_option maxRecDepth 100000 in
theorem ttOk : TTok Tryd.prog TTx := TTok.of (by
  simp only [TTx, List.forall_mem_cons]
  exact ⟨⟨⟨_, _, rfl, rfl, rfl, rfl, rfl⟩, rfl⟩, ⟨⟨_, _, rfl, rfl, rfl, rfl, rfl⟩, rfl⟩, ⟨⟨_, _, rfl, rfl, rfl, rfl, rfl⟩, rfl⟩, ⟨⟨_, _, rfl, rfl, rfl, rfl, rfl⟩, rfl⟩, ⟨⟨_, _, rfl, rfl, rfl, rfl, rfl⟩, rfl⟩, ⟨⟨_, _, rfl, rfl, rfl, rfl, rfl⟩, ⟨_, rfl, rfl⟩⟩, ⟨⟨_, _, rfl, rfl, rfl, rfl, rfl⟩, ⟨_, rfl, rfl⟩⟩, ⟨⟨_, _, rfl, rfl, rfl, rfl, rfl⟩, rfl⟩, ⟨⟨_, _, rfl, rfl, rfl, rfl, rfl⟩, rfl⟩, ⟨⟨_, _, rfl, rfl, rfl, rfl, rfl⟩, rfl⟩, ⟨⟨_, _, rfl, rfl, rfl, rfl, rfl⟩, rfl⟩, ⟨⟨_, _, rfl, rfl, rfl, rfl, rfl⟩, ⟨_, rfl, rfl⟩⟩, ⟨⟨_, _, rfl, rfl, rfl, rfl, rfl⟩, ⟨_, rfl, rfl⟩⟩, ⟨⟨_, _, rfl, rfl, rfl, rfl, rfl⟩, rfl⟩, ⟨⟨_, _, rfl, rfl, rfl, rfl, rfl⟩, rfl⟩, ⟨⟨_, _, rfl, rfl, rfl, rfl, rfl⟩, ⟨_, rfl, rfl⟩⟩, ⟨⟨_, _, rfl, rfl, rfl, rfl, rfl⟩, ⟨_, rfl, rfl⟩⟩, ⟨⟨_, _, rfl, rfl, rfl, rfl, rfl⟩, ⟨_, rfl, rfl⟩⟩, ⟨⟨_, _, rfl, rfl, rfl, rfl, rfl⟩, ⟨_, rfl, rfl⟩⟩, ⟨⟨_, _, rfl, rfl, rfl, rfl, rfl⟩, rfl⟩, ⟨⟨_, _, rfl, rfl, rfl, rfl, rfl⟩, rfl⟩, ⟨⟨_, _, rfl, rfl, rfl, rfl, rfl⟩, rfl⟩, ⟨⟨_, _, rfl, rfl, rfl, rfl, rfl⟩, ⟨_, rfl, rfl⟩⟩, ⟨⟨_, _, rfl, rfl, rfl, rfl, rfl⟩, ⟨_, rfl, rfl⟩⟩, ⟨⟨_, _, rfl, rfl, rfl, rfl, rfl⟩, rfl⟩, ⟨⟨_, _, rfl, rfl, rfl, rfl, rfl⟩, ⟨_, rfl, rfl⟩⟩, ⟨⟨_, _, rfl, rfl, rfl, rfl, rfl⟩, ⟨_, rfl, rfl⟩⟩, ⟨⟨_, _, rfl, rfl, rfl, rfl, rfl⟩, rfl⟩, ⟨⟨_, _, rfl, rfl, rfl, rfl, rfl⟩, rfl⟩, ⟨⟨_, _, rfl, rfl, rfl, rfl, rfl⟩, rfl⟩, ⟨⟨_, _, rfl, rfl, rfl, rfl, rfl⟩, rfl⟩, ⟨⟨_, _, rfl, rfl, rfl, rfl, rfl⟩, rfl⟩, by simp⟩)

def M_s_l01New_L1 (x0 : List UInt8) (j16 : Int → Option (List UInt8 × Int × Int)) (k11 : (Int × Int) → Option (List UInt8 × Int × Int)) : (Int × Int) → Option (List UInt8 × Int × Int) := fun (x6, x7) =>
  (bif (bif (decide (x7 < (x0.length : Int))) then (decide (x7 < 4000)) else false) then
  (guardO (0 ≤ x7 ∧ x7 < (x0.length : Int)) <|
  k11 ((W (((BitVec.ofInt (IntKind.bits .i64) (W ((W ((W (x6 * 137)) + ((at' x0 x7).toNat : Int))) + 7)) &&& BitVec.ofInt (IntKind.bits .i64) 1073741823).toNat : Int))), (W (x7 + 1))))
  else
  j16 x6)

def M_s_l01New (x0 : List UInt8) : Option (List UInt8 × Int × Int) :=
  (joinO (fun (x15 : Int) =>
  some (x0, 0, x15)) fun j16 =>
  (fixF (M_s_l01New_L1 x0 j16) FUEL ((W (600128 + (x0.length : Int))), 0)))

theorem ok_s_l01New (x0 : List UInt8) (a2 : Option Addr) (c3 : Nat) (l4 : Nat) (hl5 : x0.length = l4) (r : List UInt8 × Int × Int) (h : M_s_l01New x0 = some r) :
    FC Tryd.prog 11 [.slice a2 l4 c3] [⟨.byte, ⟨a2, l4, c3⟩, x0⟩] (fun _ : Option Addr => True) (fun q => .pointer q) (fun q => [⟨(.pair .val (.pair (.int .i64) (.int .i64))), ⟨q, 1, 1⟩, [((Sl.v ⟨a2, l4, c3⟩), r.2.1, r.2.2)]⟩]) :=
  by
    subst hl5
    refine FC.of (T := TTx) Tryd.call11 Tryd.func11 rfl rfl fun w0 => ?_
    unfold M_s_l01New at h
    refine JS.seq (JS.region (JO.reg ttOk 1 [] [] [] _ rfl ⟨trivial, rfl⟩ (JO.done rfl (JS.seq (JS.region (JO.reg ttOk 4 [(W (600128 + (x0.length : Int)))] [] [(3, .v (.int .i64 (W (600128 + (x0.length : Int)))))] _ rfl ⟨⟨trivial, rfl⟩, ⟨rfl, trivial⟩, rfl⟩ (JO.done rfl (JS.seq (JS.seq (JS.region (JO.reg ttOk 1 [] [] [(4, .v (.int .i64 0))] _ rfl ⟨⟨rfl, trivial⟩, rfl⟩ (JO.done rfl ?_))))))))))))
    obtain ⟨j16, hj23, h⟩ := joinO_some h
    refine JS.blockJ (ι := Int) ⟨fun z => j16 z = some r, fun z => [(0, .v (.slice a2 x0.length c3)), (3, .v (.int .i64 z))], fun z => .nil, fun z => [⟨.byte, ⟨a2, x0.length, c3⟩, x0⟩], fun z => [], fun z => 0⟩ ?_ ?_
    · refine JS.loop (ι := Nat × Int × Int) ⟨fun z => fixF (M_s_l01New_L1 x0 j16) z.1 (z.2.1, z.2.2) = some r, fun z => [(0, .v (.slice a2 x0.length c3)), (3, .v (.int .i64 z.2.1)), (4, .v (.int .i64 z.2.2))], fun z => .nil, fun z => [⟨.byte, ⟨a2, x0.length, c3⟩, x0⟩], fun z => [], fun z => z.1⟩ (FUEL, (W (600128 + (x0.length : Int))), 0) h ⟨rfl, rfl, rfl, trivial⟩ trivial [0] rfl [] rfl ?_
      rintro ⟨n12, x6, x7⟩ h
      obtain ⟨n12, rfl, h⟩ := fixF_some h
      rw [M_s_l01New_L1] at h
      refine JS.seq (JS.seq (JS.region (JO.reg ttOk 8 [] [] [(15, .v (.bool (bif (decide (x7 < (x0.length : Int))) then (decide (x7 < 4000)) else false)))] _ rfl ⟨⟨rfl, trivial⟩, rfl⟩ (JO.done rfl ?_))))
      refine JS.cond rfl (fun ht22 => ?_) (fun ht22 => ?_)
      · have h := condT h ht22
        refine JS.skip (JS.seq (JS.block (JS.region (JO.know 0 rfl fun hs21 => ?_))))
        obtain ⟨g9, h⟩ := guardO_some h
        refine JO.reg ttOk 5 [(W (x6 * 137))] [] [(19, .v (.int .i64 (W (x6 * 137)))), (22, .ep ⟨a2, x0.length, c3⟩ (Int.toNat x7 * 1))] _ rfl ⟨⟨trivial, rfl⟩, hs21.ix g9, ⟨rfl, rfl, trivial⟩, rfl⟩ (JO.load ttOk rfl rfl rfl rfl rfl rfl rfl 0 rfl rfl (Int.toNat x7) 0 (at' x0 x7) ⟨at_some g9, rfl⟩ rfl rfl (JO.reg ttOk 5 [((at' x0 x7).toNat : Int), (W ((W (x6 * 137)) + ((at' x0 x7).toNat : Int))), (W ((W ((W (x6 * 137)) + ((at' x0 x7).toNat : Int))) + 7)), (W (((BitVec.ofInt (IntKind.bits .i64) (W ((W ((W (x6 * 137)) + ((at' x0 x7).toNat : Int))) + 7)) &&& BitVec.ofInt (IntKind.bits .i64) 1073741823).toNat : Int)))] [] [(3, .v (.int .i64 (W (((BitVec.ofInt (IntKind.bits .i64) (W ((W ((W (x6 * 137)) + ((at' x0 x7).toNat : Int))) + 7)) &&& BitVec.ofInt (IntKind.bits .i64) 1073741823).toNat : Int)))))] _ rfl ⟨⟨trivial, W_byte _⟩, ⟨trivial, rfl⟩, ⟨trivial, rfl⟩, ⟨trivial, rfl⟩, ⟨rfl, trivial⟩, rfl⟩ (JO.done rfl (JS.endB (JS.region (JO.reg ttOk 3 [(W (x7 + 1))] [] [(4, .v (.int .i64 (W (x7 + 1))))] _ rfl ⟨⟨trivial, rfl⟩, ⟨rfl, trivial⟩, rfl⟩ (JO.done rfl (JS.endL (n12, (W (((BitVec.ofInt (IntKind.bits .i64) (W ((W ((W (x6 * 137)) + ((at' x0 x7).toNat : Int))) + 7)) &&& BitVec.ofInt (IntKind.bits .i64) 1073741823).toNat : Int))), (W (x7 + 1))) h (Nat.lt_succ_self _) ⟨rfl, rfl, rfl, trivial⟩ trivial [0] rfl [] rfl))))))))
      have h := condF h ht22
      refine JS.exit rfl (JS.endJ x6 h ⟨rfl, rfl, trivial⟩ trivial [0] rfl [] rfl)
    rintro x15 h
    subst hj23
    refine JS.seq (JS.region (JO.regB ttOk 5 [] [9] [(2, .bp 9 0), (31, .bp 9 0)] (.new 9 55 [.slice a2 x0.length c3, .int .i64 0, .int .i64 x15] .nil) rfl ⟨⟨rfl, rfl, trivial⟩, ⟨rfl, rfl, rfl, rfl, trivial⟩⟩ (JO.done rfl (JS.unbox 9 rfl (B' := .nil) trivial rfl (.pair .val (.pair (.int .i64) (.int .i64))) ((Sl.v ⟨a2, x0.length, c3⟩), 0, x15) ⟨rfl, rfl, rfl⟩ (fun a19 => [(0, .v (.slice a2 x0.length c3)), (2, .ep ⟨a19, 1, 1⟩ 0), (3, .v (.int .i64 x15)), (31, .ep ⟨a19, 1, 1⟩ 0)]) (fun _ => ⟨rfl, rfl, rfl, rfl, trivial⟩) fun a19 => ?_))))
    cases h
    exact JS.ret ttOk a19 trivial rfl rfl [0] rfl

def M_s_l01Byte (x0 : List UInt8 × Int × Int) : Option (Int × List UInt8 × Int × Int) :=
  (joinO (fun ((x14, x15) : Int × Int) =>
  some (x14, (x0.1, x15, (W ((W (x0.2.2 * 6364136223846793005)) + 1442695040888963407))))) fun j16 =>
  (bif (decide (x0.2.1 < (x0.1.length : Int))) then
  (guardO (0 ≤ x0.2.1 ∧ x0.2.1 < (x0.1.length : Int)) <|
  j16 ((W (((BitVec.ofInt (IntKind.bits .i64) (W ((W (((BitVec.ofInt (IntKind.bits .i64) (W (((BitVec.ofInt (IntKind.bits .i64) (Int.fdiv (W ((W (x0.2.2 * 6364136223846793005)) + 1442695040888963407)) (2 ^ (min (Int.toNat 33) (IntKind.bits .i64)))) ^^^ BitVec.ofInt (IntKind.bits .i64) (Int.fdiv (W ((W (x0.2.2 * 6364136223846793005)) + 1442695040888963407)) (2 ^ (min (Int.toNat 45) (IntKind.bits .i64))))).toNat : Int))) &&& BitVec.ofInt (IntKind.bits .i64) 255).toNat : Int))) + ((at' x0.1 x0.2.1).toNat : Int))) &&& BitVec.ofInt (IntKind.bits .i64) 255).toNat : Int))), (W (x0.2.1 + 1))))
  else
  j16 ((W (((BitVec.ofInt (IntKind.bits .i64) (W (((BitVec.ofInt (IntKind.bits .i64) (Int.fdiv (W ((W (x0.2.2 * 6364136223846793005)) + 1442695040888963407)) (2 ^ (min (Int.toNat 33) (IntKind.bits .i64)))) ^^^ BitVec.ofInt (IntKind.bits .i64) (Int.fdiv (W ((W (x0.2.2 * 6364136223846793005)) + 1442695040888963407)) (2 ^ (min (Int.toNat 45) (IntKind.bits .i64))))).toNat : Int))) &&& BitVec.ofInt (IntKind.bits .i64) 255).toNat : Int))), x0.2.1)))

theorem ok_s_l01Byte (x0 : List UInt8 × Int × Int) (a2 : Option Addr) (a3 : Option Addr) (c4 : Nat) (l5 : Nat) (hl6 : x0.1.length = l5) (r : Int × List UInt8 × Int × Int) (h : M_s_l01Byte x0 = some r) :
    FX Tryd.prog 35 [.pointer a2] [⟨.byte, ⟨a3, l5, c4⟩, x0.1⟩] [⟨(.pair .val (.pair (.int .i64) (.int .i64))), ⟨a2, 1, 1⟩, [((Sl.v ⟨a3, l5, c4⟩), x0.2.1, x0.2.2)]⟩] (fun _ : Unit => True) (fun _ => .int .i64 r.1) (fun _ => [⟨(.pair .val (.pair (.int .i64) (.int .i64))), ⟨a2, 1, 1⟩, [((Sl.v ⟨a3, l5, c4⟩), r.2.2.1, r.2.2.2)]⟩]) :=
  by
    subst hl6
    refine FX.of (T := TTx) Tryd.call35 Tryd.func35 rfl rfl fun w0 L0 => ?_
    unfold M_s_l01Byte at h
    refine JS.ptr 0 a2 rfl ?_
    refine JS.seq (JS.region (JO.reg ttOk 1 [] [] [] _ rfl ⟨trivial, rfl⟩ (JO.done rfl (JS.seq (JS.region (JO.know 1 rfl fun hs21 => JO.reg ttOk 4 [] [] [(4, .ep ⟨a2, 1, 1⟩ 0), (7, .ep ⟨a2, 1, 1⟩ 2)] _ rfl ⟨(hs21.fa ptr0).1, hs21.fa ptr0, ⟨rfl, rfl, trivial⟩, rfl⟩ (JO.loadV ttOk rfl rfl rfl rfl rfl rfl 1 rfl rfl 0 2 ((Sl.v ⟨a3, x0.1.length, c4⟩), x0.2.1, x0.2.2) ⟨rfl, rfl⟩ rfl rfl rfl (JO.reg ttOk 4 [(W (x0.2.2 * 6364136223846793005)), (W ((W (x0.2.2 * 6364136223846793005)) + 1442695040888963407))] [] [(10, .v (.int .i64 (W ((W (x0.2.2 * 6364136223846793005)) + 1442695040888963407)))), (12, .ep ⟨a2, 1, 1⟩ 2)] _ rfl ⟨⟨trivial, rfl⟩, ⟨trivial, rfl⟩, (hs21.fa ptr0).1, hs21.fa ptr0, ⟨rfl, rfl, trivial⟩, rfl⟩ (JO.storeE ttOk rfl rfl rfl rfl rfl rfl rfl rfl rfl [0] (fs := []) rfl 0 2 ((Sl.v ⟨a3, x0.1.length, c4⟩), x0.2.1, x0.2.2) ((Sl.v ⟨a3, x0.1.length, c4⟩), x0.2.1, (W ((W (x0.2.2 * 6364136223846793005)) + 1442695040888963407))) ⟨rfl, rfl⟩ ⟨⟨⟨rfl, rfl, rfl⟩, rfl⟩, rfl⟩ (JO.done rfl (JS.seq ?_)))))))))))
    have g8 : (0 : Int) ≤ 33 := by decide
    have g9 : (0 : Int) ≤ 45 := by decide
    refine JS.regionQ rfl (by kernel_rfl) (JQ.reg ttOk 3 [] [(15, .ep ⟨a2, 1, 1⟩ 2)] rfl ⟨(hs21.fa ptr0).1, hs21.fa ptr0, ⟨rfl, trivial⟩⟩ (JQ.loadV ttOk rfl rfl rfl rfl rfl rfl 1 rfl rfl 0 2 ((Sl.v ⟨a3, x0.1.length, c4⟩), x0.2.1, (W ((W (x0.2.2 * 6364136223846793005)) + 1442695040888963407))) ⟨rfl, rfl⟩ rfl rfl rfl (JQ.reg ttOk 4 [] [(17, .v (.int .i64 (Int.fdiv (W ((W (x0.2.2 * 6364136223846793005)) + 1442695040888963407)) (2 ^ (min (Int.toNat 33) (IntKind.bits .i64)))))), (20, .ep ⟨a2, 1, 1⟩ 2)] rfl ⟨g8, (hs21.fa ptr0).1, hs21.fa ptr0, ⟨rfl, rfl, trivial⟩⟩ (JQ.loadV ttOk rfl rfl rfl rfl rfl rfl 1 rfl rfl 0 2 ((Sl.v ⟨a3, x0.1.length, c4⟩), x0.2.1, (W ((W (x0.2.2 * 6364136223846793005)) + 1442695040888963407))) ⟨rfl, rfl⟩ rfl rfl rfl (JQ.reg ttOk 4 [(W (((BitVec.ofInt (IntKind.bits .i64) (Int.fdiv (W ((W (x0.2.2 * 6364136223846793005)) + 1442695040888963407)) (2 ^ (min (Int.toNat 33) (IntKind.bits .i64)))) ^^^ BitVec.ofInt (IntKind.bits .i64) (Int.fdiv (W ((W (x0.2.2 * 6364136223846793005)) + 1442695040888963407)) (2 ^ (min (Int.toNat 45) (IntKind.bits .i64))))).toNat : Int))), (W (((BitVec.ofInt (IntKind.bits .i64) (W (((BitVec.ofInt (IntKind.bits .i64) (Int.fdiv (W ((W (x0.2.2 * 6364136223846793005)) + 1442695040888963407)) (2 ^ (min (Int.toNat 33) (IntKind.bits .i64)))) ^^^ BitVec.ofInt (IntKind.bits .i64) (Int.fdiv (W ((W (x0.2.2 * 6364136223846793005)) + 1442695040888963407)) (2 ^ (min (Int.toNat 45) (IntKind.bits .i64))))).toNat : Int))) &&& BitVec.ofInt (IntKind.bits .i64) 255).toNat : Int)))] [(3, .v (.int .i64 (W (((BitVec.ofInt (IntKind.bits .i64) (W (((BitVec.ofInt (IntKind.bits .i64) (Int.fdiv (W ((W (x0.2.2 * 6364136223846793005)) + 1442695040888963407)) (2 ^ (min (Int.toNat 33) (IntKind.bits .i64)))) ^^^ BitVec.ofInt (IntKind.bits .i64) (Int.fdiv (W ((W (x0.2.2 * 6364136223846793005)) + 1442695040888963407)) (2 ^ (min (Int.toNat 45) (IntKind.bits .i64))))).toNat : Int))) &&& BitVec.ofInt (IntKind.bits .i64) 255).toNat : Int)))))] rfl ⟨g9, ⟨trivial, rfl⟩, ⟨trivial, rfl⟩, ⟨rfl, trivial⟩⟩ (JQ.done rfl ?_))))))
    obtain ⟨j16, hj25, h⟩ := joinO_some h
    refine JS.seqJ (ι := Int × Int) ⟨fun z => j16 (z.1, z.2) = some r, fun z => [(3, .v (.int .i64 z.1))], fun z => .nil, fun z => [⟨.byte, ⟨a3, x0.1.length, c4⟩, x0.1⟩], fun z => [⟨(.pair .val (.pair (.int .i64) (.int .i64))), ⟨a2, 1, 1⟩, [((Sl.v ⟨a3, x0.1.length, c4⟩), z.2, (W ((W (x0.2.2 * 6364136223846793005)) + 1442695040888963407)))]⟩], fun z => 0⟩ ?_ ?_
    · refine JS.seq (JS.regionQ rfl (by kernel_rfl) (JQ.reg ttOk 3 [] [(27, .ep ⟨a2, 1, 1⟩ 1)] rfl ⟨(hs21.fa ptr0).1, hs21.fa ptr0, ⟨rfl, trivial⟩⟩ (JQ.loadV ttOk rfl rfl rfl rfl rfl rfl 1 rfl rfl 0 1 ((Sl.v ⟨a3, x0.1.length, c4⟩), x0.2.1, (W ((W (x0.2.2 * 6364136223846793005)) + 1442695040888963407))) ⟨rfl, rfl⟩ rfl rfl rfl (JQ.reg ttOk 3 [] [(31, .ep ⟨a2, 1, 1⟩ 0)] rfl ⟨(hs21.fa ptr0).1, hs21.fa ptr0, ⟨rfl, trivial⟩⟩ (JQ.loadV ttOk rfl rfl rfl rfl rfl rfl 1 rfl rfl 0 0 ((Sl.v ⟨a3, x0.1.length, c4⟩), x0.2.1, (W ((W (x0.2.2 * 6364136223846793005)) + 1442695040888963407))) ⟨rfl, rfl⟩ rfl rfl rfl (JQ.reg ttOk 2 [] [(34, .v (.bool (decide (x0.2.1 < (x0.1.length : Int)))))] rfl ⟨rfl, trivial⟩ (JQ.done rfl ?_)))))))
      refine JS.cond rfl (fun ht24 => ?_) (fun ht24 => ?_)
      · have h := condT h ht24
        refine JS.seq ?_
        obtain ⟨g11, h⟩ := guardO_some h
        refine JS.know 0 rfl fun hs23 => JS.regionQ rfl (by kernel_rfl) (JQ.reg ttOk 4 [] [(35, .v (.int .i64 (W (((BitVec.ofInt (IntKind.bits .i64) (W (((BitVec.ofInt (IntKind.bits .i64) (Int.fdiv (W ((W (x0.2.2 * 6364136223846793005)) + 1442695040888963407)) (2 ^ (min (Int.toNat 33) (IntKind.bits .i64)))) ^^^ BitVec.ofInt (IntKind.bits .i64) (Int.fdiv (W ((W (x0.2.2 * 6364136223846793005)) + 1442695040888963407)) (2 ^ (min (Int.toNat 45) (IntKind.bits .i64))))).toNat : Int))) &&& BitVec.ofInt (IntKind.bits .i64) 255).toNat : Int))))), (38, .ep ⟨a2, 1, 1⟩ 0)] rfl ⟨(hs21.fa ptr0).1, hs21.fa ptr0, ⟨rfl, rfl, trivial⟩⟩ (JQ.loadV ttOk rfl rfl rfl rfl rfl rfl 1 rfl rfl 0 0 ((Sl.v ⟨a3, x0.1.length, c4⟩), x0.2.1, (W ((W (x0.2.2 * 6364136223846793005)) + 1442695040888963407))) ⟨rfl, rfl⟩ rfl rfl rfl (JQ.reg ttOk 3 [] [(42, .ep ⟨a2, 1, 1⟩ 1)] rfl ⟨(hs21.fa ptr0).1, hs21.fa ptr0, ⟨rfl, trivial⟩⟩ (JQ.loadV ttOk rfl rfl rfl rfl rfl rfl 1 rfl rfl 0 1 ((Sl.v ⟨a3, x0.1.length, c4⟩), x0.2.1, (W ((W (x0.2.2 * 6364136223846793005)) + 1442695040888963407))) ⟨rfl, rfl⟩ rfl rfl rfl (JQ.reg ttOk 1 [] [(44, .ep ⟨a3, x0.1.length, c4⟩ (Int.toNat x0.2.1 * 1))] rfl ⟨hs23.ix g11, ⟨rfl, trivial⟩⟩ (JQ.load ttOk rfl rfl rfl rfl rfl rfl rfl 0 rfl rfl (Int.toNat x0.2.1) 0 (at' x0.1 x0.2.1) ⟨at_some g11, rfl⟩ rfl rfl (JQ.reg ttOk 4 [((at' x0.1 x0.2.1).toNat : Int), (W ((W (((BitVec.ofInt (IntKind.bits .i64) (W (((BitVec.ofInt (IntKind.bits .i64) (Int.fdiv (W ((W (x0.2.2 * 6364136223846793005)) + 1442695040888963407)) (2 ^ (min (Int.toNat 33) (IntKind.bits .i64)))) ^^^ BitVec.ofInt (IntKind.bits .i64) (Int.fdiv (W ((W (x0.2.2 * 6364136223846793005)) + 1442695040888963407)) (2 ^ (min (Int.toNat 45) (IntKind.bits .i64))))).toNat : Int))) &&& BitVec.ofInt (IntKind.bits .i64) 255).toNat : Int))) + ((at' x0.1 x0.2.1).toNat : Int))), (W (((BitVec.ofInt (IntKind.bits .i64) (W ((W (((BitVec.ofInt (IntKind.bits .i64) (W (((BitVec.ofInt (IntKind.bits .i64) (Int.fdiv (W ((W (x0.2.2 * 6364136223846793005)) + 1442695040888963407)) (2 ^ (min (Int.toNat 33) (IntKind.bits .i64)))) ^^^ BitVec.ofInt (IntKind.bits .i64) (Int.fdiv (W ((W (x0.2.2 * 6364136223846793005)) + 1442695040888963407)) (2 ^ (min (Int.toNat 45) (IntKind.bits .i64))))).toNat : Int))) &&& BitVec.ofInt (IntKind.bits .i64) 255).toNat : Int))) + ((at' x0.1 x0.2.1).toNat : Int))) &&& BitVec.ofInt (IntKind.bits .i64) 255).toNat : Int)))] [(3, .v (.int .i64 (W (((BitVec.ofInt (IntKind.bits .i64) (W ((W (((BitVec.ofInt (IntKind.bits .i64) (W (((BitVec.ofInt (IntKind.bits .i64) (Int.fdiv (W ((W (x0.2.2 * 6364136223846793005)) + 1442695040888963407)) (2 ^ (min (Int.toNat 33) (IntKind.bits .i64)))) ^^^ BitVec.ofInt (IntKind.bits .i64) (Int.fdiv (W ((W (x0.2.2 * 6364136223846793005)) + 1442695040888963407)) (2 ^ (min (Int.toNat 45) (IntKind.bits .i64))))).toNat : Int))) &&& BitVec.ofInt (IntKind.bits .i64) 255).toNat : Int))) + ((at' x0.1 x0.2.1).toNat : Int))) &&& BitVec.ofInt (IntKind.bits .i64) 255).toNat : Int)))))] rfl ⟨⟨trivial, W_byte _⟩, ⟨trivial, rfl⟩, ⟨trivial, rfl⟩, ⟨rfl, trivial⟩⟩ (JQ.done rfl (JS.region (JO.reg ttOk 4 [] [] [(49, .ep ⟨a2, 1, 1⟩ 0), (52, .ep ⟨a2, 1, 1⟩ 1)] _ rfl ⟨(hs21.fa ptr0).1, hs21.fa ptr0, ⟨rfl, rfl, trivial⟩, rfl⟩ (JO.loadV ttOk rfl rfl rfl rfl rfl rfl 1 rfl rfl 0 1 ((Sl.v ⟨a3, x0.1.length, c4⟩), x0.2.1, (W ((W (x0.2.2 * 6364136223846793005)) + 1442695040888963407))) ⟨rfl, rfl⟩ rfl rfl rfl (JO.reg ttOk 3 [(W (x0.2.1 + 1))] [] [(54, .v (.int .i64 (W (x0.2.1 + 1)))), (56, .ep ⟨a2, 1, 1⟩ 1)] _ rfl ⟨⟨trivial, rfl⟩, (hs21.fa ptr0).1, hs21.fa ptr0, ⟨rfl, rfl, trivial⟩, rfl⟩ (JO.storeE ttOk rfl rfl rfl rfl rfl rfl rfl rfl rfl [0] (fs := []) rfl 0 1 ((Sl.v ⟨a3, x0.1.length, c4⟩), x0.2.1, (W ((W (x0.2.2 * 6364136223846793005)) + 1442695040888963407))) ((Sl.v ⟨a3, x0.1.length, c4⟩), (W (x0.2.1 + 1)), (W ((W (x0.2.2 * 6364136223846793005)) + 1442695040888963407))) ⟨rfl, rfl⟩ ⟨⟨⟨rfl, rfl, rfl⟩, rfl⟩, rfl⟩ (JO.done rfl (JS.endJ ((W (((BitVec.ofInt (IntKind.bits .i64) (W ((W (((BitVec.ofInt (IntKind.bits .i64) (W (((BitVec.ofInt (IntKind.bits .i64) (Int.fdiv (W ((W (x0.2.2 * 6364136223846793005)) + 1442695040888963407)) (2 ^ (min (Int.toNat 33) (IntKind.bits .i64)))) ^^^ BitVec.ofInt (IntKind.bits .i64) (Int.fdiv (W ((W (x0.2.2 * 6364136223846793005)) + 1442695040888963407)) (2 ^ (min (Int.toNat 45) (IntKind.bits .i64))))).toNat : Int))) &&& BitVec.ofInt (IntKind.bits .i64) 255).toNat : Int))) + ((at' x0.1 x0.2.1).toNat : Int))) &&& BitVec.ofInt (IntKind.bits .i64) 255).toNat : Int))), (W (x0.2.1 + 1))) h ⟨rfl, trivial⟩ trivial [0] rfl [0] rfl)))))))))))))))
      have h := condF h ht24
      refine JS.skip (JS.endJ ((W (((BitVec.ofInt (IntKind.bits .i64) (W (((BitVec.ofInt (IntKind.bits .i64) (Int.fdiv (W ((W (x0.2.2 * 6364136223846793005)) + 1442695040888963407)) (2 ^ (min (Int.toNat 33) (IntKind.bits .i64)))) ^^^ BitVec.ofInt (IntKind.bits .i64) (Int.fdiv (W ((W (x0.2.2 * 6364136223846793005)) + 1442695040888963407)) (2 ^ (min (Int.toNat 45) (IntKind.bits .i64))))).toNat : Int))) &&& BitVec.ofInt (IntKind.bits .i64) 255).toNat : Int))), x0.2.1) h ⟨rfl, trivial⟩ trivial [0] rfl [0] rfl)
    rintro ⟨x14, x15⟩ h
    subst hj25
    refine JS.seq (JS.region (JO.reg ttOk 2 [] [] [(2, .v (.int .i64 x14))] _ rfl ⟨⟨rfl, trivial⟩, rfl⟩ (JO.done rfl ?_)))
    cases h
    exact JS.retX ttOk () trivial rfl rfl [0] rfl

def M_s_l01Below (x0 : List UInt8 × Int × Int) (x1 : Int) : Option (Int × List UInt8 × Int × Int) :=
  (bif (decide (x1 ≤ 0)) then
  some (0, x0)
  else
  (bif (decide (x1 ≤ 256)) then
  (bindO (M_s_l01Byte x0) fun (y8, y9) =>
  (guardO (x1 ≠ 0) <|
  some ((Int.tmod y8 x1), (x0.1, y9.2.1, y9.2.2))))
  else
  (bindO (M_s_l01Byte x0) fun (y12, y13) =>
  (bindO (M_s_l01Byte (x0.1, y13.2.1, y13.2.2)) fun (y15, y16) =>
  (bindO (M_s_l01Byte (x0.1, y16.2.1, y16.2.2)) fun (y18, y19) =>
  (bindO (M_s_l01Byte (x0.1, y19.2.1, y19.2.2)) fun (y21, y22) =>
  (guardO (x1 ≠ 0) <|
  some ((Int.tmod (W ((W ((W ((W (y12 * 16777216)) + (W (y15 * 65536)))) + (W (y18 * 256)))) + y21)) x1), (x0.1, y22.2.1, y22.2.2)))))))))

theorem ok_s_l01Below (x0 : List UInt8 × Int × Int) (x1 : Int) (a3 : Option Addr) (a4 : Option Addr) (c5 : Nat) (l6 : Nat) (hl7 : x0.1.length = l6) (r : Int × List UInt8 × Int × Int) (h : M_s_l01Below x0 x1 = some r) :
    FX Tryd.prog 24 [.pointer a3, .int .i64 x1] [⟨.byte, ⟨a4, l6, c5⟩, x0.1⟩] [⟨(.pair .val (.pair (.int .i64) (.int .i64))), ⟨a3, 1, 1⟩, [((Sl.v ⟨a4, l6, c5⟩), x0.2.1, x0.2.2)]⟩] (fun _ : Unit => True) (fun _ => .int .i64 r.1) (fun _ => [⟨(.pair .val (.pair (.int .i64) (.int .i64))), ⟨a3, 1, 1⟩, [((Sl.v ⟨a4, l6, c5⟩), r.2.2.1, r.2.2.2)]⟩]) :=
  by
    subst hl7
    refine FX.of (T := TTx) Tryd.call24 Tryd.func24 rfl rfl fun w0 L0 => ?_
    unfold M_s_l01Below at h
    refine JS.ptr 0 a3 rfl ?_
    refine JS.seq (JS.region (JO.reg ttOk 1 [] [] [] _ rfl ⟨trivial, rfl⟩ (JO.done rfl (JS.seq (JS.seq (JS.region (JO.reg ttOk 2 [] [] [(10, .v (.bool (decide (x1 ≤ 0))))] _ rfl ⟨⟨rfl, trivial⟩, rfl⟩ (JO.done rfl ?_))))))))
    refine JS.cond rfl (fun ht28 => ?_) (fun ht28 => ?_)
    · have h := condT h ht28
      refine JS.seq (JS.region (JO.reg ttOk 1 [] [] [(4, .v (.int .i64 0))] _ rfl ⟨⟨rfl, trivial⟩, rfl⟩ (JO.done rfl ?_)))
      cases h
      exact JS.retX ttOk () trivial rfl rfl [0] rfl
    have h := condF h ht28
    refine JS.skip (JS.seq (JS.seq (JS.region (JO.reg ttOk 2 [] [] [(12, .v (.bool (decide (x1 ≤ 256))))] _ rfl ⟨⟨rfl, trivial⟩, rfl⟩ (JO.done rfl ?_)))))
    refine JS.cond rfl (fun ht27 => ?_) (fun ht27 => ?_)
    · have h := condT h ht27
      refine JS.seq (JS.region (JO.reg ttOk 1 [] [] [(13, .ep ⟨a3, 1, 1⟩ 0)] _ rfl ⟨⟨rfl, trivial⟩, rfl⟩ ?_))
      obtain ⟨⟨y8, y9⟩, hy10, h⟩ := bindO_some h
      refine JO.callX rfl rfl rfl rfl (ok_s_l01Byte x0 a3 a4 c5 x0.1.length rfl _ hy10) rfl [0] rfl [0] rfl rfl fun _ _ => ?_
      obtain ⟨g11, h⟩ := guardO_some h
      refine JO.reg ttOk 3 [] [] [(4, .v (.int .i64 (Int.tmod y8 x1)))] _ rfl ⟨g11, ⟨rfl, trivial⟩, rfl⟩ (JO.done rfl ?_)
      cases h
      exact JS.retX ttOk () trivial rfl rfl [0] rfl
    have h := condF h ht27
    refine JS.skip (JS.seq (JS.region (JO.reg ttOk 1 [] [] [(17, .ep ⟨a3, 1, 1⟩ 0)] _ rfl ⟨⟨rfl, trivial⟩, rfl⟩ ?_)))
    obtain ⟨⟨y12, y13⟩, hy14, h⟩ := bindO_some h
    refine JO.callX rfl rfl rfl rfl (ok_s_l01Byte x0 a3 a4 c5 x0.1.length rfl _ hy14) rfl [0] rfl [0] rfl rfl fun _ _ => JO.reg ttOk 1 [] [] [(5, .v (.int .i64 y12))] _ rfl ⟨⟨rfl, trivial⟩, rfl⟩ (JO.done rfl (JS.seq (JS.region (JO.reg ttOk 1 [] [] [(19, .ep ⟨a3, 1, 1⟩ 0)] _ rfl ⟨⟨rfl, trivial⟩, rfl⟩ ?_))))
    obtain ⟨⟨y15, y16⟩, hy17, h⟩ := bindO_some h
    refine JO.callX rfl rfl rfl rfl (ok_s_l01Byte (x0.1, y13.2.1, y13.2.2) a3 a4 c5 x0.1.length rfl _ hy17) rfl [0] rfl [0] rfl rfl fun _ _ => JO.reg ttOk 1 [] [] [(6, .v (.int .i64 y15))] _ rfl ⟨⟨rfl, trivial⟩, rfl⟩ (JO.done rfl (JS.seq (JS.region (JO.reg ttOk 1 [] [] [(21, .ep ⟨a3, 1, 1⟩ 0)] _ rfl ⟨⟨rfl, trivial⟩, rfl⟩ ?_))))
    obtain ⟨⟨y18, y19⟩, hy20, h⟩ := bindO_some h
    refine JO.callX rfl rfl rfl rfl (ok_s_l01Byte (x0.1, y16.2.1, y16.2.2) a3 a4 c5 x0.1.length rfl _ hy20) rfl [0] rfl [0] rfl rfl fun _ _ => JO.reg ttOk 1 [] [] [(7, .v (.int .i64 y18))] _ rfl ⟨⟨rfl, trivial⟩, rfl⟩ (JO.done rfl (JS.seq (JS.region (JO.reg ttOk 1 [] [] [(23, .ep ⟨a3, 1, 1⟩ 0)] _ rfl ⟨⟨rfl, trivial⟩, rfl⟩ ?_))))
    obtain ⟨⟨y21, y22⟩, hy23, h⟩ := bindO_some h
    refine JO.callX rfl rfl rfl rfl (ok_s_l01Byte (x0.1, y19.2.1, y19.2.2) a3 a4 c5 x0.1.length rfl _ hy23) rfl [0] rfl [0] rfl rfl fun _ _ => JO.reg ttOk 1 [] [] [(8, .v (.int .i64 y21))] _ rfl ⟨⟨rfl, trivial⟩, rfl⟩ (JO.done rfl (JS.seq (JS.region ?_)))
    obtain ⟨g24, h⟩ := guardO_some h
    refine JO.reg ttOk 13 [(W (y12 * 16777216)), (W (y15 * 65536)), (W ((W (y12 * 16777216)) + (W (y15 * 65536)))), (W (y18 * 256)), (W ((W ((W (y12 * 16777216)) + (W (y15 * 65536)))) + (W (y18 * 256)))), (W ((W ((W ((W (y12 * 16777216)) + (W (y15 * 65536)))) + (W (y18 * 256)))) + y21))] [] [(4, .v (.int .i64 (Int.tmod (W ((W ((W ((W (y12 * 16777216)) + (W (y15 * 65536)))) + (W (y18 * 256)))) + y21)) x1)))] _ rfl ⟨⟨trivial, rfl⟩, ⟨trivial, rfl⟩, ⟨trivial, rfl⟩, ⟨trivial, rfl⟩, ⟨trivial, rfl⟩, ⟨trivial, rfl⟩, g24, ⟨rfl, trivial⟩, rfl⟩ (JO.done rfl ?_)
    cases h
    exact JS.retX ttOk () trivial rfl rfl [0] rfl

def M_s_l02Rune (x0 : List UInt8 × Int × Int) : Option (Int × List UInt8 × Int × Int) :=
  (bindO (M_s_l01Below x0 12) fun (y7, y8) =>
  (bif (decide (y7 < 9)) then
  (bindO (M_s_l01Below (x0.1, y8.2.1, y8.2.2) 16) fun (y11, y12) =>
  (guardO (0 ≤ y11 ∧ y11 < (([97, 98, 99, 120, 49, 50, 32, 32, 46, 45, 95, 233, 4352, 20013, 128512, 47] : List Int).length : Int)) <|
  some ((at' ([97, 98, 99, 120, 49, 50, 32, 32, 46, 45, 95, 233, 4352, 20013, 128512, 47] : List Int) y11), (x0.1, y12.2.1, y12.2.2))))
  else
  (bif (decide (y7 = 9)) then
  (bindO (M_s_l01Below (x0.1, y8.2.1, y8.2.2) 94) fun (y16, y17) =>
  some ((W (33 + y16)), (x0.1, y17.2.1, y17.2.2)))
  else
  (bif (decide (y7 = 10)) then
  (bindO (M_s_l01Below (x0.1, y8.2.1, y8.2.2) 300) fun (y19, y20) =>
  some ((W (160 + y19)), (x0.1, y20.2.1, y20.2.2)))
  else
  (bindO (M_s_l01Below (x0.1, y8.2.1, y8.2.2) 2000) fun (y22, y23) =>
  some ((W (19968 + y22)), (x0.1, y23.2.1, y23.2.2)))))))

theorem ok_s_l02Rune (x0 : List UInt8 × Int × Int) (a2 : Option Addr) (a3 : Option Addr) (c4 : Nat) (l5 : Nat) (hl6 : x0.1.length = l5) (r : Int × List UInt8 × Int × Int) (h : M_s_l02Rune x0 = some r) :
    FX Tryd.prog 25 [.pointer a2] [⟨.byte, ⟨a3, l5, c4⟩, x0.1⟩] [⟨(.pair .val (.pair (.int .i64) (.int .i64))), ⟨a2, 1, 1⟩, [((Sl.v ⟨a3, l5, c4⟩), x0.2.1, x0.2.2)]⟩] (fun _ : Unit => True) (fun _ => .int .i64 r.1) (fun _ => [⟨(.pair .val (.pair (.int .i64) (.int .i64))), ⟨a2, 1, 1⟩, [((Sl.v ⟨a3, l5, c4⟩), r.2.2.1, r.2.2.2)]⟩]) :=
  by
    subst hl6
    refine FX.of (T := TTx) Tryd.call25 Tryd.func25 rfl rfl fun w0 L0 => ?_
    unfold M_s_l02Rune at h
    refine JS.ptr 0 a2 rfl ?_
    refine JS.seq (JS.region (JO.reg ttOk 1 [] [] [] _ rfl ⟨trivial, rfl⟩ (JO.done rfl (JS.seq (JS.region (JO.reg ttOk 1 [] [] [(4, .ep ⟨a2, 1, 1⟩ 0)] _ rfl ⟨⟨rfl, trivial⟩, rfl⟩ ?_))))))
    obtain ⟨⟨y7, y8⟩, hy9, h⟩ := bindO_some h
    refine JO.callX rfl rfl rfl rfl (ok_s_l01Below x0 12 a2 a3 c4 x0.1.length rfl _ hy9) rfl [0] rfl [0] rfl rfl fun _ _ => JO.reg ttOk 1 [] [] [(3, .v (.int .i64 y7))] _ rfl ⟨⟨rfl, trivial⟩, rfl⟩ (JO.done rfl (JS.seq (JS.seq (JS.region (JO.reg ttOk 2 [] [] [(7, .v (.bool (decide (y7 < 9))))] _ rfl ⟨⟨rfl, trivial⟩, rfl⟩ (JO.done rfl ?_))))))
    refine JS.cond rfl (fun ht31 => ?_) (fun ht31 => ?_)
    · have h := condT h ht31
      refine JS.seq (JS.region ?_)
      refine JO.ofK rfl (JK.buildSlice ttOk rfl rfl rfl rfl rfl rfl rfl rfl rfl rfl rfl [] rfl (.int .i64) [97, 98, 99, 120, 49, 50, 32, 32, 46, 45, 95, 233, 4352, 20013, 128512, 47] ⟨rfl, rfl⟩ rfl rfl fun a10 => JO.toK ?_)
      refine JO.reg ttOk 1 [] [] [(9, .ep ⟨a2, 1, 1⟩ 0)] _ rfl ⟨⟨rfl, trivial⟩, rfl⟩ ?_
      obtain ⟨⟨y11, y12⟩, hy13, h⟩ := bindO_some h
      refine JO.callX rfl rfl rfl rfl (ok_s_l01Below (x0.1, y8.2.1, y8.2.2) 16 a2 a3 c4 x0.1.length rfl _ hy13) rfl [1] rfl [0] rfl rfl fun _ _ => JO.know 2 rfl fun hs28 => ?_
      obtain ⟨g15, h⟩ := guardO_some h
      refine JO.reg ttOk 1 [] [] [(11, .ep ⟨a10, ([97, 98, 99, 120, 49, 50, 32, 32, 46, 45, 95, 233, 4352, 20013, 128512, 47] : List Int).length, ([97, 98, 99, 120, 49, 50, 32, 32, 46, 45, 95, 233, 4352, 20013, 128512, 47] : List Int).length⟩ (Int.toNat y11 * 1))] _ rfl ⟨hs28.ix g15, ⟨rfl, trivial⟩, rfl⟩ (JO.load ttOk rfl rfl rfl rfl rfl rfl rfl 2 rfl rfl (Int.toNat y11) 0 (at' ([97, 98, 99, 120, 49, 50, 32, 32, 46, 45, 95, 233, 4352, 20013, 128512, 47] : List Int) y11) ⟨at_some g15, rfl⟩ rfl rfl (JO.reg ttOk 1 [] [] [(2, .v (.int .i64 (at' ([97, 98, 99, 120, 49, 50, 32, 32, 46, 45, 95, 233, 4352, 20013, 128512, 47] : List Int) y11)))] _ rfl ⟨⟨rfl, trivial⟩, rfl⟩ (JO.done rfl ?_)))
      cases h
      exact JS.retX ttOk () trivial rfl rfl [0] rfl
    have h := condF h ht31
    refine JS.skip (JS.seq (JS.seq (JS.region (JO.reg ttOk 2 [] [] [(14, .v (.bool (decide (y7 = 9))))] _ rfl ⟨⟨rfl, trivial⟩, rfl⟩ (JO.done rfl ?_)))))
    refine JS.cond rfl (fun ht30 => ?_) (fun ht30 => ?_)
    · have h := condT h ht30
      refine JS.seq (JS.region (JO.reg ttOk 1 [] [] [(15, .ep ⟨a2, 1, 1⟩ 0)] _ rfl ⟨⟨rfl, trivial⟩, rfl⟩ ?_))
      obtain ⟨⟨y16, y17⟩, hy18, h⟩ := bindO_some h
      refine JO.callX rfl rfl rfl rfl (ok_s_l01Below (x0.1, y8.2.1, y8.2.2) 94 a2 a3 c4 x0.1.length rfl _ hy18) rfl [0] rfl [0] rfl rfl fun _ _ => JO.reg ttOk 2 [(W (33 + y16))] [] [(2, .v (.int .i64 (W (33 + y16))))] _ rfl ⟨⟨trivial, rfl⟩, ⟨rfl, trivial⟩, rfl⟩ (JO.done rfl ?_)
      cases h
      exact JS.retX ttOk () trivial rfl rfl [0] rfl
    have h := condF h ht30
    refine JS.skip (JS.seq (JS.seq (JS.region (JO.reg ttOk 2 [] [] [(19, .v (.bool (decide (y7 = 10))))] _ rfl ⟨⟨rfl, trivial⟩, rfl⟩ (JO.done rfl ?_)))))
    refine JS.cond rfl (fun ht29 => ?_) (fun ht29 => ?_)
    · have h := condT h ht29
      refine JS.seq (JS.region (JO.reg ttOk 1 [] [] [(20, .ep ⟨a2, 1, 1⟩ 0)] _ rfl ⟨⟨rfl, trivial⟩, rfl⟩ ?_))
      obtain ⟨⟨y19, y20⟩, hy21, h⟩ := bindO_some h
      refine JO.callX rfl rfl rfl rfl (ok_s_l01Below (x0.1, y8.2.1, y8.2.2) 300 a2 a3 c4 x0.1.length rfl _ hy21) rfl [0] rfl [0] rfl rfl fun _ _ => JO.reg ttOk 2 [(W (160 + y19))] [] [(2, .v (.int .i64 (W (160 + y19))))] _ rfl ⟨⟨trivial, rfl⟩, ⟨rfl, trivial⟩, rfl⟩ (JO.done rfl ?_)
      cases h
      exact JS.retX ttOk () trivial rfl rfl [0] rfl
    have h := condF h ht29
    refine JS.skip (JS.seq (JS.region (JO.reg ttOk 1 [] [] [(23, .ep ⟨a2, 1, 1⟩ 0)] _ rfl ⟨⟨rfl, trivial⟩, rfl⟩ ?_)))
    obtain ⟨⟨y22, y23⟩, hy24, h⟩ := bindO_some h
    refine JO.callX rfl rfl rfl rfl (ok_s_l01Below (x0.1, y8.2.1, y8.2.2) 2000 a2 a3 c4 x0.1.length rfl _ hy24) rfl [0] rfl [0] rfl rfl fun _ _ => JO.reg ttOk 2 [(W (19968 + y22))] [] [(2, .v (.int .i64 (W (19968 + y22))))] _ rfl ⟨⟨trivial, rfl⟩, ⟨rfl, trivial⟩, rfl⟩ (JO.done rfl ?_)
    cases h
    exact JS.retX ttOk () trivial rfl rfl [0] rfl

def M_s_l11Key (x0 : List UInt8 × Int × Int) : Option ((Int × Int) × List UInt8 × Int × Int) :=
  (bindO (M_s_l01Below x0 12) fun (y7, y8) =>
  (bif (decide (y7 < 5)) then
  (bindO (M_s_l02Rune (x0.1, y8.2.1, y8.2.2)) fun (y10, y11) =>
  some ((1, y10), (x0.1, y11.2.1, y11.2.2)))
  else
  (bif (decide (y7 < 7)) then
  (bindO (M_s_l01Below (x0.1, y8.2.1, y8.2.2) 18) fun (y14, y15) =>
  (guardO (0 ≤ y14 ∧ y14 < (([97, 101, 107, 117, 119, 121, 98, 102, 100, 116, 114, 112, 110, 95, 103, 99, 108, 122] : List Int).length : Int)) <|
  some ((2, (at' ([97, 101, 107, 117, 119, 121, 98, 102, 100, 116, 114, 112, 110, 95, 103, 99, 108, 122] : List Int) y14)), (x0.1, y15.2.1, y15.2.2))))
  else
  (bif (decide (y7 = 7)) then
  (bindO (M_s_l01Below (x0.1, y8.2.1, y8.2.2) 12) fun (y20, y21) =>
  (guardO (0 ≤ y20 ∧ y20 < (([98, 102, 100, 121, 117, 108, 99, 91, 79, 51, 45, 126] : List Int).length : Int)) <|
  some ((3, (at' ([98, 102, 100, 121, 117, 108, 99, 91, 79, 51, 45, 126] : List Int) y20)), (x0.1, y21.2.1, y21.2.2))))
  else
  (bindO (M_s_l01Below (x0.1, y8.2.1, y8.2.2) 13) fun (y25, y26) =>
  some (((W (4 + y25)), 0), (x0.1, y26.2.1, y26.2.2)))))))

theorem ok_s_l11Key (x0 : List UInt8 × Int × Int) (a2 : Option Addr) (a3 : Option Addr) (c4 : Nat) (l5 : Nat) (hl6 : x0.1.length = l5) (r : (Int × Int) × List UInt8 × Int × Int) (h : M_s_l11Key x0 = some r) :
    FX Tryd.prog 12 [.pointer a2] [⟨.byte, ⟨a3, l5, c4⟩, x0.1⟩] [⟨(.pair .val (.pair (.int .i64) (.int .i64))), ⟨a2, 1, 1⟩, [((Sl.v ⟨a3, l5, c4⟩), x0.2.1, x0.2.2)]⟩] (fun _ : Unit => True) (fun _ => .agg #[.int .i64 r.1.1, .int .i64 r.1.2]) (fun _ => [⟨(.pair .val (.pair (.int .i64) (.int .i64))), ⟨a2, 1, 1⟩, [((Sl.v ⟨a3, l5, c4⟩), r.2.2.1, r.2.2.2)]⟩]) :=
  by
    subst hl6
    refine FX.of (T := TTx) Tryd.call12 Tryd.func12 rfl rfl fun w0 L0 => ?_
    unfold M_s_l11Key at h
    refine JS.ptr 0 a2 rfl ?_
    refine JS.seq (JS.region (JO.regB ttOk 1 [] [3] [(2, .bp 3 0)] (.new 3 24 [.int .i64 0, .int .i64 0] .nil) rfl ⟨⟨rfl, trivial⟩, ⟨rfl, rfl, rfl, rfl, trivial⟩⟩ (JO.done rfl (JS.seq (JS.region (JO.reg ttOk 1 [] [] [(4, .ep ⟨a2, 1, 1⟩ 0)] _ rfl ⟨⟨rfl, trivial⟩, rfl⟩ ?_))))))
    obtain ⟨⟨y7, y8⟩, hy9, h⟩ := bindO_some h
    refine JO.callX rfl rfl rfl rfl (ok_s_l01Below x0 12 a2 a3 c4 x0.1.length rfl _ hy9) rfl [0] rfl [0] rfl rfl fun _ _ => JO.reg ttOk 1 [] [] [(3, .v (.int .i64 y7))] _ rfl ⟨⟨rfl, trivial⟩, rfl⟩ (JO.done rfl (JS.seq (JS.seq (JS.region (JO.reg ttOk 2 [] [] [(7, .v (.bool (decide (y7 < 5))))] _ rfl ⟨⟨rfl, trivial⟩, rfl⟩ (JO.done rfl ?_))))))
    refine JS.cond rfl (fun ht35 => ?_) (fun ht35 => ?_)
    · have h := condT h ht35
      refine JS.seq (JS.region (JO.reg ttOk 1 [] [] [(8, .ep ⟨a2, 1, 1⟩ 0)] _ rfl ⟨⟨rfl, trivial⟩, rfl⟩ ?_))
      obtain ⟨⟨y10, y11⟩, hy12, h⟩ := bindO_some h
      refine JO.callX rfl rfl rfl rfl (ok_s_l02Rune (x0.1, y8.2.1, y8.2.2) a2 a3 c4 x0.1.length rfl _ hy12) rfl [0] rfl [0] rfl rfl fun _ _ => JO.regB ttOk 2 [] [] [] (.new 3 24 [.int .i64 1, .int .i64 y10] .nil) rfl ⟨trivial, ⟨rfl, rfl, rfl, rfl, trivial⟩⟩ (JO.done rfl ?_)
      cases h
      exact JS.retX ttOk () trivial rfl rfl [0] rfl
    have h := condF h ht35
    refine JS.skip (JS.seq (JS.seq (JS.region (JO.reg ttOk 2 [] [] [(12, .v (.bool (decide (y7 < 7))))] _ rfl ⟨⟨rfl, trivial⟩, rfl⟩ (JO.done rfl ?_)))))
    refine JS.cond rfl (fun ht34 => ?_) (fun ht34 => ?_)
    · have h := condT h ht34
      refine JS.seq (JS.region ?_)
      refine JO.ofK rfl (JK.buildSlice ttOk rfl rfl rfl rfl rfl rfl rfl rfl rfl rfl rfl [] rfl (.int .i64) [97, 101, 107, 117, 119, 121, 98, 102, 100, 116, 114, 112, 110, 95, 103, 99, 108, 122] ⟨rfl, rfl⟩ rfl rfl fun a13 => JO.toK ?_)
      refine JO.reg ttOk 1 [] [] [(14, .ep ⟨a2, 1, 1⟩ 0)] _ rfl ⟨⟨rfl, trivial⟩, rfl⟩ ?_
      obtain ⟨⟨y14, y15⟩, hy16, h⟩ := bindO_some h
      refine JO.callX rfl rfl rfl rfl (ok_s_l01Below (x0.1, y8.2.1, y8.2.2) 18 a2 a3 c4 x0.1.length rfl _ hy16) rfl [1] rfl [0] rfl rfl fun _ _ => JO.know 2 rfl fun hs31 => ?_
      obtain ⟨g18, h⟩ := guardO_some h
      refine JO.reg ttOk 1 [] [] [(16, .ep ⟨a13, ([97, 101, 107, 117, 119, 121, 98, 102, 100, 116, 114, 112, 110, 95, 103, 99, 108, 122] : List Int).length, ([97, 101, 107, 117, 119, 121, 98, 102, 100, 116, 114, 112, 110, 95, 103, 99, 108, 122] : List Int).length⟩ (Int.toNat y14 * 1))] _ rfl ⟨hs31.ix g18, ⟨rfl, trivial⟩, rfl⟩ (JO.load ttOk rfl rfl rfl rfl rfl rfl rfl 2 rfl rfl (Int.toNat y14) 0 (at' ([97, 101, 107, 117, 119, 121, 98, 102, 100, 116, 114, 112, 110, 95, 103, 99, 108, 122] : List Int) y14) ⟨at_some g18, rfl⟩ rfl rfl (JO.regB ttOk 2 [] [] [] (.new 3 24 [.int .i64 2, .int .i64 (at' ([97, 101, 107, 117, 119, 121, 98, 102, 100, 116, 114, 112, 110, 95, 103, 99, 108, 122] : List Int) y14)] .nil) rfl ⟨trivial, ⟨rfl, rfl, rfl, rfl, trivial⟩⟩ (JO.done rfl ?_)))
      cases h
      exact JS.retX ttOk () trivial rfl rfl [0] rfl
    have h := condF h ht34
    refine JS.skip (JS.seq (JS.seq (JS.region (JO.reg ttOk 2 [] [] [(20, .v (.bool (decide (y7 = 7))))] _ rfl ⟨⟨rfl, trivial⟩, rfl⟩ (JO.done rfl ?_)))))
    refine JS.cond rfl (fun ht33 => ?_) (fun ht33 => ?_)
    · have h := condT h ht33
      refine JS.seq (JS.region ?_)
      refine JO.ofK rfl (JK.buildSlice ttOk rfl rfl rfl rfl rfl rfl rfl rfl rfl rfl rfl [] rfl (.int .i64) [98, 102, 100, 121, 117, 108, 99, 91, 79, 51, 45, 126] ⟨rfl, rfl⟩ rfl rfl fun a19 => JO.toK ?_)
      refine JO.reg ttOk 1 [] [] [(22, .ep ⟨a2, 1, 1⟩ 0)] _ rfl ⟨⟨rfl, trivial⟩, rfl⟩ ?_
      obtain ⟨⟨y20, y21⟩, hy22, h⟩ := bindO_some h
      refine JO.callX rfl rfl rfl rfl (ok_s_l01Below (x0.1, y8.2.1, y8.2.2) 12 a2 a3 c4 x0.1.length rfl _ hy22) rfl [1] rfl [0] rfl rfl fun _ _ => JO.know 2 rfl fun hs32 => ?_
      obtain ⟨g24, h⟩ := guardO_some h
      refine JO.reg ttOk 1 [] [] [(24, .ep ⟨a19, ([98, 102, 100, 121, 117, 108, 99, 91, 79, 51, 45, 126] : List Int).length, ([98, 102, 100, 121, 117, 108, 99, 91, 79, 51, 45, 126] : List Int).length⟩ (Int.toNat y20 * 1))] _ rfl ⟨hs32.ix g24, ⟨rfl, trivial⟩, rfl⟩ (JO.load ttOk rfl rfl rfl rfl rfl rfl rfl 2 rfl rfl (Int.toNat y20) 0 (at' ([98, 102, 100, 121, 117, 108, 99, 91, 79, 51, 45, 126] : List Int) y20) ⟨at_some g24, rfl⟩ rfl rfl (JO.regB ttOk 2 [] [] [] (.new 3 24 [.int .i64 3, .int .i64 (at' ([98, 102, 100, 121, 117, 108, 99, 91, 79, 51, 45, 126] : List Int) y20)] .nil) rfl ⟨trivial, ⟨rfl, rfl, rfl, rfl, trivial⟩⟩ (JO.done rfl ?_)))
      cases h
      exact JS.retX ttOk () trivial rfl rfl [0] rfl
    have h := condF h ht33
    refine JS.skip (JS.seq (JS.region (JO.reg ttOk 1 [] [] [(27, .ep ⟨a2, 1, 1⟩ 0)] _ rfl ⟨⟨rfl, trivial⟩, rfl⟩ ?_)))
    obtain ⟨⟨y25, y26⟩, hy27, h⟩ := bindO_some h
    refine JO.callX rfl rfl rfl rfl (ok_s_l01Below (x0.1, y8.2.1, y8.2.2) 13 a2 a3 c4 x0.1.length rfl _ hy27) rfl [0] rfl [0] rfl rfl fun _ _ => JO.regB ttOk 3 [(W (4 + y25))] [] [] (.new 3 24 [.int .i64 (W (4 + y25)), .int .i64 0] .nil) rfl ⟨⟨trivial, rfl⟩, trivial, ⟨rfl, rfl, rfl, rfl, trivial⟩⟩ (JO.done rfl ?_)
    cases h
    exact JS.retX ttOk () trivial rfl rfl [0] rfl

def M_s_MakeKey (x0 : List UInt8) : Option (Int × Int) :=
  (bindO (M_s_l01New x0) fun (y6 : List UInt8 × Int × Int) =>
  (bindO (M_s_l11Key (x0, y6.2.1, y6.2.2)) fun (y9, y10) =>
  some y9))

theorem ok_s_MakeKey (x0 : List UInt8) (a2 : Option Addr) (c3 : Nat) (l4 : Nat) (hl5 : x0.length = l4) (r : Int × Int) (h : M_s_MakeKey x0 = some r) :
    FC Tryd.prog 4 [.slice a2 l4 c3] [⟨.byte, ⟨a2, l4, c3⟩, x0⟩] (fun _ : Unit => True) (fun _ => .agg #[.int .i64 r.1, .int .i64 r.2]) (fun _ => []) :=
  by
    subst hl5
    refine FC.of (T := TTx) Tryd.call4 Tryd.func4 rfl rfl fun w0 => ?_
    unfold M_s_MakeKey at h
    refine JS.seq (JS.region (JO.regB ttOk 1 [] [2] [(2, .bp 2 0)] (.new 2 24 [.int .i64 0, .int .i64 0] .nil) rfl ⟨⟨rfl, trivial⟩, ⟨rfl, rfl, rfl, rfl, trivial⟩⟩ (JO.done rfl (JS.seq (JS.region (JO.reg ttOk 1 [] [] [(5, .v (.slice a2 x0.length c3))] _ rfl ⟨⟨rfl, trivial⟩, rfl⟩ ?_))))))
    obtain ⟨y6, hy7, h⟩ := bindO_some h
    refine JO.call rfl rfl rfl rfl (ok_s_l01New x0 a2 c3 x0.length rfl _ hy7) rfl [0] rfl rfl fun a8 _ => JO.ptr 6 a8 rfl (JO.reg ttOk 1 [] [] [(3, .ep ⟨a8, 1, 1⟩ 0)] _ rfl ⟨⟨rfl, trivial⟩, rfl⟩ (JO.done rfl (JS.seq (JS.region (JO.reg ttOk 1 [] [] [(7, .ep ⟨a8, 1, 1⟩ 0)] _ rfl ⟨⟨rfl, trivial⟩, rfl⟩ ?_)))))
    obtain ⟨⟨y9, y10⟩, hy11, h⟩ := bindO_some h
    refine JO.callX rfl rfl rfl rfl (ok_s_l11Key (x0, y6.2.1, y6.2.2) a8 a2 c3 x0.length rfl _ hy11) rfl [0] rfl [0] rfl rfl fun _ _ => JO.regB ttOk 2 [] [10] [(4, .bp 10 0)] (.new 2 24 [.int .i64 0, .int .i64 0] (.new 10 24 [.int .i64 y9.1, .int .i64 y9.2] .nil)) rfl ⟨⟨rfl, trivial⟩, ⟨rfl, rfl, rfl, rfl, rfl, rfl, rfl, rfl, trivial⟩⟩ (JO.done rfl (JS.seq (JS.region (JO.regB ttOk 2 [] [] [] (.new 2 24 [.int .i64 y9.1, .int .i64 y9.2] .nil) rfl ⟨trivial, ⟨rfl, rfl, rfl, rfl, trivial⟩⟩ (JO.done rfl ?_)))))
    cases h
    exact JS.ret ttOk () trivial rfl rfl [] rfl

def M_i_in (x0 : Int) (x1 : Int) (x2 : Int) : Option Bool :=
  some (bif (decide (x1 ≤ x0)) then (decide (x0 ≤ x2)) else false)

theorem ok_i_in (x0 : Int) (x1 : Int) (x2 : Int) (r : Bool) (h : M_i_in x0 x1 x2 = some r) :
    FC Tryd.prog 23 [.int .i64 x0, .int .i64 x1, .int .i64 x2] [] (fun _ : Unit => True) (fun _ => .bool r) (fun _ => []) :=
  by
    refine FC.of (T := TTx) Tryd.call23 Tryd.func23 rfl rfl fun w0 => ?_
    unfold M_i_in at h
    refine JS.seq (JS.region (JO.reg ttOk 1 [] [] [] _ rfl ⟨trivial, rfl⟩ (JO.done rfl (JS.seq (JS.region (JO.reg ttOk 9 [] [] [(6, .v (.bool (bif (decide (x1 ≤ x0)) then (decide (x0 ≤ x2)) else false)))] _ rfl ⟨⟨rfl, trivial⟩, rfl⟩ (JO.done rfl ?_)))))))
    cases h
    exact JS.ret ttOk () trivial rfl rfl [] rfl

def M_i_isLower (x0 : Int) : Option Bool :=
  (bindO (M_i_in x0 97 122) fun (y2 : Bool) =>
  some y2)

theorem ok_i_isLower (x0 : Int) (r : Bool) (h : M_i_isLower x0 = some r) :
    FC Tryd.prog 22 [.int .i64 x0] [] (fun _ : Unit => True) (fun _ => .bool r) (fun _ => []) :=
  by
    refine FC.of (T := TTx) Tryd.call22 Tryd.func22 rfl rfl fun w0 => ?_
    unfold M_i_isLower at h
    refine JS.seq (JS.region (JO.reg ttOk 1 [] [] [] _ rfl ⟨trivial, rfl⟩ (JO.done rfl (JS.seq (JS.region (JO.reg ttOk 1 [] [] [(3, .v (.int .i64 x0))] _ rfl ⟨⟨rfl, trivial⟩, rfl⟩ ?_))))))
    obtain ⟨y2, hy3, h⟩ := bindO_some h
    refine JO.call rfl rfl rfl rfl (ok_i_in x0 97 122 _ hy3) rfl [] rfl rfl fun _ _ => JO.reg ttOk 1 [] [] [(2, .v (.bool y2))] _ rfl ⟨⟨rfl, trivial⟩, rfl⟩ (JO.done rfl ?_)
    cases h
    exact JS.ret ttOk () trivial rfl rfl [] rfl

def M_i_RuneOk (x0 : Int) : Option Bool :=
  (bindO (M_i_in x0 0 1114111) fun (y2 : Bool) =>
  (callO (y2 = true) (M_i_in x0 55296 57343) false fun (y4 : Bool) =>
  some (bif y2 then (!y4) else false)))

theorem ok_i_RuneOk (x0 : Int) (r : Bool) (h : M_i_RuneOk x0 = some r) :
    FC Tryd.prog 32 [.int .i64 x0] [] (fun _ : Unit => True) (fun _ => .bool r) (fun _ => []) :=
  by
    refine FC.of (T := TTx) Tryd.call32 Tryd.func32 rfl rfl fun w0 => ?_
    unfold M_i_RuneOk at h
    refine JS.seq (JS.region (JO.reg ttOk 1 [] [] [] _ rfl ⟨trivial, rfl⟩ (JO.done rfl (JS.seq (JS.region (JO.reg ttOk 1 [] [] [(3, .v (.int .i64 x0))] _ rfl ⟨⟨rfl, trivial⟩, rfl⟩ ?_))))))
    obtain ⟨y2, hy3, h⟩ := bindO_some h
    refine JO.call rfl rfl rfl rfl (ok_i_in x0 0 1114111 _ hy3) rfl [] rfl rfl fun _ _ => JO.reg ttOk 2 [] [] [(5, .v (.bool y2)), (6, .cd [(5, true)] (.v (.int .i64 x0)))] _ rfl ⟨⟨rfl, rfl, trivial⟩, rfl⟩ ?_
    obtain ⟨y4, hy5, -, h⟩ := callO_some h
    refine JO.callg rfl rfl rfl rfl (fun q7 => ok_i_in x0 55296 57343 _ (hy5 q7)) rfl [] rfl rfl (JO.reg ttOk 3 [] [] [(2, .v (.bool (bif y2 then (!y4) else false)))] _ rfl ⟨⟨rfl, trivial⟩, rfl⟩ (JO.done rfl ?_))
    cases h
    exact JS.ret ttOk () trivial rfl rfl [] rfl

def M_i_Printable (x0 : Int) : Option Bool :=
  (bindO (M_i_RuneOk x0) fun (y2 : Bool) =>
  (callO ((bif y2 then (decide (32 ≤ x0)) else false) = true) (M_i_in x0 127 159) false fun (y4 : Bool) =>
  some (bif (bif y2 then (decide (32 ≤ x0)) else false) then (!y4) else false)))

theorem ok_i_Printable (x0 : Int) (r : Bool) (h : M_i_Printable x0 = some r) :
    FC Tryd.prog 21 [.int .i64 x0] [] (fun _ : Unit => True) (fun _ => .bool r) (fun _ => []) :=
  by
    refine FC.of (T := TTx) Tryd.call21 Tryd.func21 rfl rfl fun w0 => ?_
    unfold M_i_Printable at h
    refine JS.seq (JS.region (JO.reg ttOk 1 [] [] [] _ rfl ⟨trivial, rfl⟩ (JO.done rfl (JS.seq (JS.region (JO.reg ttOk 1 [] [] [(3, .v (.int .i64 x0))] _ rfl ⟨⟨rfl, trivial⟩, rfl⟩ ?_))))))
    obtain ⟨y2, hy3, h⟩ := bindO_some h
    refine JO.call rfl rfl rfl rfl (ok_i_RuneOk x0 _ hy3) rfl [] rfl rfl fun _ _ => JO.reg ttOk 6 [] [] [(9, .v (.bool (bif y2 then (decide (32 ≤ x0)) else false))), (10, .cd [(9, true)] (.v (.int .i64 x0)))] _ rfl ⟨⟨rfl, rfl, trivial⟩, rfl⟩ ?_
    obtain ⟨y4, hy5, -, h⟩ := callO_some h
    refine JO.callg rfl rfl rfl rfl (fun q7 => ok_i_in x0 127 159 _ (hy5 q7)) rfl [] rfl rfl (JO.reg ttOk 3 [] [] [(2, .v (.bool (bif (bif y2 then (decide (32 ≤ x0)) else false) then (!y4) else false)))] _ rfl ⟨⟨rfl, trivial⟩, rfl⟩ (JO.done rfl ?_))
    cases h
    exact JS.ret ttOk () trivial rfl rfl [] rfl

def M_i_KeyOk (x0 : Int × Int) : Option Bool :=
  (bif (decide (x0.1 = 1)) then
  (bindO (M_i_Printable x0.2) fun (y2 : Bool) =>
  some y2)
  else
  (bif (decide (x0.1 = 2)) then
  (callO ((decide (x0.2 = 95)) = false) (M_i_isLower x0.2) false fun (y4 : Bool) =>
  some (bif (decide (x0.2 = 95)) then true else (bif (bif (bif (bif y4 then (!(decide (x0.2 = 104))) else false) then (!(decide (x0.2 = 105))) else false) then (!(decide (x0.2 = 106))) else false) then (!(decide (x0.2 = 109))) else false)))
  else
  (bif (decide (x0.1 = 3)) then
  (bindO (M_i_in x0.2 33 126) fun (y7 : Bool) =>
  some y7)
  else
  (bindO (M_i_in x0.1 4 16) fun (y9 : Bool) =>
  some (bif y9 then (decide (x0.2 = 0)) else false)))))

theorem ok_i_KeyOk (x0 : Int × Int) (r : Bool) (h : M_i_KeyOk x0 = some r) :
    FC Tryd.prog 10 [.agg #[.int .i64 x0.1, .int .i64 x0.2]] [] (fun _ : Unit => True) (fun _ => .bool r) (fun _ => []) :=
  by
    refine FC.of (T := TTx) Tryd.call10 Tryd.func10 rfl rfl fun w0 => ?_
    unfold M_i_KeyOk at h
    refine JS.seq (JS.region (JO.regB ttOk 2 [] [1] [(1, .bp 1 0)] (.new 1 24 [.int .i64 x0.1, .int .i64 x0.2] .nil) rfl ⟨⟨rfl, trivial⟩, ⟨rfl, rfl, rfl, rfl, trivial⟩⟩ (JO.done rfl (JS.seq (JS.seq (JS.region (JO.reg ttOk 2 [] [] [(4, .v (.int .i64 x0.1))] _ rfl ⟨⟨rfl, trivial⟩, rfl⟩ (JO.done rfl (JS.block (JS.seq (JS.region (JO.reg ttOk 2 [] [] [(5, .v (.bool (decide (x0.1 = 1))))] _ rfl ⟨⟨rfl, trivial⟩, rfl⟩ (JO.done rfl ?_)))))))))))))
    refine JS.cond rfl (fun ht17 => ?_) (fun ht17 => ?_)
    · have h := condT h ht17
      refine JS.seq (JS.region (JO.reg ttOk 2 [] [] [(8, .v (.int .i64 x0.2))] _ rfl ⟨⟨rfl, trivial⟩, rfl⟩ ?_))
      obtain ⟨y2, hy3, h⟩ := bindO_some h
      refine JO.call rfl rfl rfl rfl (ok_i_Printable x0.2 _ hy3) rfl [] rfl rfl fun _ _ => JO.reg ttOk 1 [] [] [(2, .v (.bool y2))] _ rfl ⟨⟨rfl, trivial⟩, rfl⟩ (JO.done rfl ?_)
      cases h
      exact JS.ret ttOk () trivial rfl rfl [] rfl
    have h := condF h ht17
    refine JS.seq (JS.region (JO.reg ttOk 2 [] [] [(10, .v (.bool (decide (x0.1 = 2))))] _ rfl ⟨⟨rfl, trivial⟩, rfl⟩ (JO.done rfl ?_)))
    refine JS.cond rfl (fun ht16 => ?_) (fun ht16 => ?_)
    · have h := condT h ht16
      refine JS.seq (JS.region (JO.reg ttOk 6 [] [] [(15, .v (.bool (decide (x0.2 = 95)))), (17, .cd [(15, false)] (.v (.int .i64 x0.2)))] _ rfl ⟨⟨rfl, rfl, trivial⟩, rfl⟩ ?_))
      obtain ⟨y4, hy5, -, h⟩ := callO_some h
      refine JO.callg rfl rfl rfl rfl (fun q14 => ok_i_isLower x0.2 _ (hy5 q14)) rfl [] rfl rfl (JO.reg ttOk 22 [] [] [(2, .v (.bool (bif (decide (x0.2 = 95)) then true else (bif (bif (bif (bif y4 then (!(decide (x0.2 = 104))) else false) then (!(decide (x0.2 = 105))) else false) then (!(decide (x0.2 = 106))) else false) then (!(decide (x0.2 = 109))) else false))))] _ rfl ⟨⟨rfl, trivial⟩, rfl⟩ (JO.done rfl ?_))
      cases h
      exact JS.ret ttOk () trivial rfl rfl [] rfl
    have h := condF h ht16
    refine JS.seq (JS.region (JO.reg ttOk 2 [] [] [(40, .v (.bool (decide (x0.1 = 3))))] _ rfl ⟨⟨rfl, trivial⟩, rfl⟩ (JO.done rfl ?_)))
    refine JS.cond rfl (fun ht15 => ?_) (fun ht15 => ?_)
    · have h := condT h ht15
      refine JS.seq (JS.region (JO.reg ttOk 2 [] [] [(43, .v (.int .i64 x0.2))] _ rfl ⟨⟨rfl, trivial⟩, rfl⟩ ?_))
      obtain ⟨y7, hy8, h⟩ := bindO_some h
      refine JO.call rfl rfl rfl rfl (ok_i_in x0.2 33 126 _ hy8) rfl [] rfl rfl fun _ _ => JO.reg ttOk 1 [] [] [(2, .v (.bool y7))] _ rfl ⟨⟨rfl, trivial⟩, rfl⟩ (JO.done rfl ?_)
      cases h
      exact JS.ret ttOk () trivial rfl rfl [] rfl
    have h := condF h ht15
    refine JS.skip (JS.endB (JS.seq (JS.region (JO.reg ttOk 2 [] [] [(46, .v (.int .i64 x0.1))] _ rfl ⟨⟨rfl, trivial⟩, rfl⟩ ?_))))
    obtain ⟨y9, hy10, h⟩ := bindO_some h
    refine JO.call rfl rfl rfl rfl (ok_i_in x0.1 4 16 _ hy10) rfl [] rfl rfl fun _ _ => JO.reg ttOk 6 [] [] [(2, .v (.bool (bif y9 then (decide (x0.2 = 0)) else false)))] _ rfl ⟨⟨rfl, trivial⟩, rfl⟩ (JO.done rfl ?_)
    cases h
    exact JS.ret ttOk () trivial rfl rfl [] rfl

def M_i_RuneBytes (x0 : Int) : Option (List UInt8) :=
  (bindO (M_i_RuneOk x0) fun (y2 : Bool) =>
  (bif (!y2) then
  some ([])
  else
  (bif (decide (x0 < 128)) then
  some ([(u8 (x0))] : List UInt8)
  else
  (bif (decide (x0 < 2048)) then
  some ([(u8 ((W (192 + (W (Int.tdiv x0 64)))))), (u8 ((W (128 + (Int.tmod x0 64)))))] : List UInt8)
  else
  (bif (decide (x0 < 65536)) then
  some ([(u8 ((W (224 + (W (Int.tdiv x0 4096)))))), (u8 ((W (128 + (Int.tmod (W (Int.tdiv x0 64)) 64))))), (u8 ((W (128 + (Int.tmod x0 64)))))] : List UInt8)
  else
  some ([(u8 ((W (240 + (W (Int.tdiv x0 262144)))))), (u8 ((W (128 + (Int.tmod (W (Int.tdiv x0 4096)) 64))))), (u8 ((W (128 + (Int.tmod (W (Int.tdiv x0 64)) 64))))), (u8 ((W (128 + (Int.tmod x0 64)))))] : List UInt8))))))

theorem ok_i_RuneBytes (x0 : Int) (r : List UInt8) (h : M_i_RuneBytes x0 = some r) :
    FC Tryd.prog 16 [.int .i64 x0] [] (fun _ : Option Addr × Nat => True) (fun q => .slice q.1 r.length q.2) (fun q => [⟨.byte, ⟨q.1, r.length, q.2⟩, r⟩]) :=
  by
    refine FC.of (T := TTx) Tryd.call16 Tryd.func16 rfl rfl fun w0 => ?_
    unfold M_i_RuneBytes at h
    refine JS.seq (JS.region (JO.reg ttOk 1 [] [] [] _ rfl ⟨trivial, rfl⟩ (JO.done rfl (JS.seq (JS.block (JS.seq (JS.region (JO.reg ttOk 1 [] [] [(4, .v (.int .i64 x0))] _ rfl ⟨⟨rfl, trivial⟩, rfl⟩ ?_))))))))
    obtain ⟨y2, hy3, h⟩ := bindO_some h
    refine JO.call rfl rfl rfl rfl (ok_i_RuneOk x0 _ hy3) rfl [] rfl rfl fun _ _ => JO.reg ttOk 2 [] [] [(3, .v (.bool (!y2)))] _ rfl ⟨⟨rfl, trivial⟩, rfl⟩ (JO.done rfl ?_)
    refine JS.cond rfl (fun ht27 => ?_) (fun ht27 => ?_)
    · have h := condT h ht27
      refine JS.seq (JS.region (JO.reg ttOk 1 [] [] [(2, .v (.slice none 0 0))] _ rfl ⟨⟨rfl, trivial⟩, rfl⟩ (JO.done rfl ?_)))
      cases h
      refine JS.nilO .byte Sl.nil rfl rfl (JS.ret ttOk (none, 0) trivial rfl rfl [0] rfl)
    have h := condF h ht27
    refine JS.seq (JS.region (JO.reg ttOk 3 [] [] [(7, .v (.bool (decide (x0 < 128))))] _ rfl ⟨⟨rfl, trivial⟩, rfl⟩ (JO.done rfl ?_)))
    refine JS.cond rfl (fun ht26 => ?_) (fun ht26 => ?_)
    · have h := condT h ht26
      refine JS.seq (JS.region (JO.reg ttOk 2 [((u8 (x0)).toNat : Int)] [] [(11, .v (.int .u8 ((u8 (x0)).toNat : Int)))] _ rfl ⟨⟨trivial, u8_wrap _⟩, ⟨rfl, trivial⟩, rfl⟩ ?_))
      refine JO.ofK rfl (JK.buildSlice ttOk rfl rfl rfl rfl rfl rfl rfl rfl rfl rfl rfl [] rfl .byte [(u8 (x0))] ⟨rfl, rfl⟩ rfl rfl fun a4 => JO.toK ?_)
      refine JO.reg ttOk 1 [] [] [(2, .v (.slice a4 ([(u8 (x0))] : List UInt8).length ([(u8 (x0))] : List UInt8).length))] _ rfl ⟨⟨rfl, trivial⟩, rfl⟩ (JO.done rfl ?_)
      cases h
      exact JS.ret ttOk (a4, ([(u8 (x0))] : List UInt8).length) trivial rfl rfl [0] rfl
    have h := condF h ht26
    refine JS.seq (JS.region (JO.reg ttOk 3 [] [] [(13, .v (.bool (decide (x0 < 2048))))] _ rfl ⟨⟨rfl, trivial⟩, rfl⟩ (JO.done rfl ?_)))
    refine JS.cond rfl (fun ht25 => ?_) (fun ht25 => ?_)
    · have h := condT h ht25
      refine JS.seq (JS.region ?_)
      have g5 : (64 : Int) ≠ 0 := by decide
      have g6 : (64 : Int) ≠ 0 := by decide
      refine JO.reg ttOk 8 [(W (Int.tdiv x0 64)), (W (192 + (W (Int.tdiv x0 64)))), ((u8 ((W (192 + (W (Int.tdiv x0 64)))))).toNat : Int), (W (128 + (Int.tmod x0 64))), ((u8 ((W (128 + (Int.tmod x0 64))))).toNat : Int)] [] [(19, .v (.int .u8 ((u8 ((W (192 + (W (Int.tdiv x0 64)))))).toNat : Int))), (23, .v (.int .u8 ((u8 ((W (128 + (Int.tmod x0 64))))).toNat : Int)))] _ rfl ⟨⟨g5, rfl⟩, ⟨trivial, rfl⟩, ⟨trivial, u8_wrap _⟩, g6, ⟨trivial, rfl⟩, ⟨trivial, u8_wrap _⟩, ⟨rfl, rfl, trivial⟩, rfl⟩ ?_
      refine JO.ofK rfl (JK.buildSlice ttOk rfl rfl rfl rfl rfl rfl rfl rfl rfl rfl rfl [] rfl .byte [(u8 ((W (192 + (W (Int.tdiv x0 64)))))), (u8 ((W (128 + (Int.tmod x0 64)))))] ⟨rfl, rfl⟩ rfl rfl fun a7 => JO.toK ?_)
      refine JO.reg ttOk 1 [] [] [(2, .v (.slice a7 ([(u8 ((W (192 + (W (Int.tdiv x0 64)))))), (u8 ((W (128 + (Int.tmod x0 64)))))] : List UInt8).length ([(u8 ((W (192 + (W (Int.tdiv x0 64)))))), (u8 ((W (128 + (Int.tmod x0 64)))))] : List UInt8).length))] _ rfl ⟨⟨rfl, trivial⟩, rfl⟩ (JO.done rfl ?_)
      cases h
      exact JS.ret ttOk (a7, ([(u8 ((W (192 + (W (Int.tdiv x0 64)))))), (u8 ((W (128 + (Int.tmod x0 64)))))] : List UInt8).length) trivial rfl rfl [0] rfl
    have h := condF h ht25
    refine JS.seq (JS.region (JO.reg ttOk 3 [] [] [(25, .v (.bool (decide (x0 < 65536))))] _ rfl ⟨⟨rfl, trivial⟩, rfl⟩ (JO.done rfl ?_)))
    refine JS.cond rfl (fun ht24 => ?_) (fun ht24 => ?_)
    · have h := condT h ht24
      refine JS.seq (JS.region ?_)
      have g8 : (4096 : Int) ≠ 0 := by decide
      have g9 : (64 : Int) ≠ 0 := by decide
      have g10 : (64 : Int) ≠ 0 := by decide
      have g11 : (64 : Int) ≠ 0 := by decide
      refine JO.reg ttOk 13 [(W (Int.tdiv x0 4096)), (W (224 + (W (Int.tdiv x0 4096)))), ((u8 ((W (224 + (W (Int.tdiv x0 4096)))))).toNat : Int), (W (Int.tdiv x0 64)), (W (128 + (Int.tmod (W (Int.tdiv x0 64)) 64))), ((u8 ((W (128 + (Int.tmod (W (Int.tdiv x0 64)) 64))))).toNat : Int), (W (128 + (Int.tmod x0 64))), ((u8 ((W (128 + (Int.tmod x0 64))))).toNat : Int)] [] [(31, .v (.int .u8 ((u8 ((W (224 + (W (Int.tdiv x0 4096)))))).toNat : Int))), (36, .v (.int .u8 ((u8 ((W (128 + (Int.tmod (W (Int.tdiv x0 64)) 64))))).toNat : Int))), (40, .v (.int .u8 ((u8 ((W (128 + (Int.tmod x0 64))))).toNat : Int)))] _ rfl ⟨⟨g8, rfl⟩, ⟨trivial, rfl⟩, ⟨trivial, u8_wrap _⟩, ⟨g9, rfl⟩, g10, ⟨trivial, rfl⟩, ⟨trivial, u8_wrap _⟩, g11, ⟨trivial, rfl⟩, ⟨trivial, u8_wrap _⟩, ⟨rfl, rfl, rfl, trivial⟩, rfl⟩ ?_
      refine JO.ofK rfl (JK.buildSlice ttOk rfl rfl rfl rfl rfl rfl rfl rfl rfl rfl rfl [] rfl .byte [(u8 ((W (224 + (W (Int.tdiv x0 4096)))))), (u8 ((W (128 + (Int.tmod (W (Int.tdiv x0 64)) 64))))), (u8 ((W (128 + (Int.tmod x0 64)))))] ⟨rfl, rfl⟩ rfl rfl fun a12 => JO.toK ?_)
      refine JO.reg ttOk 1 [] [] [(2, .v (.slice a12 ([(u8 ((W (224 + (W (Int.tdiv x0 4096)))))), (u8 ((W (128 + (Int.tmod (W (Int.tdiv x0 64)) 64))))), (u8 ((W (128 + (Int.tmod x0 64)))))] : List UInt8).length ([(u8 ((W (224 + (W (Int.tdiv x0 4096)))))), (u8 ((W (128 + (Int.tmod (W (Int.tdiv x0 64)) 64))))), (u8 ((W (128 + (Int.tmod x0 64)))))] : List UInt8).length))] _ rfl ⟨⟨rfl, trivial⟩, rfl⟩ (JO.done rfl ?_)
      cases h
      exact JS.ret ttOk (a12, ([(u8 ((W (224 + (W (Int.tdiv x0 4096)))))), (u8 ((W (128 + (Int.tmod (W (Int.tdiv x0 64)) 64))))), (u8 ((W (128 + (Int.tmod x0 64)))))] : List UInt8).length) trivial rfl rfl [0] rfl
    have h := condF h ht24
    refine JS.skip (JS.endB (JS.seq (JS.region ?_)))
    have g13 : (262144 : Int) ≠ 0 := by decide
    have g14 : (4096 : Int) ≠ 0 := by decide
    have g15 : (64 : Int) ≠ 0 := by decide
    have g16 : (64 : Int) ≠ 0 := by decide
    have g17 : (64 : Int) ≠ 0 := by decide
    have g18 : (64 : Int) ≠ 0 := by decide
    refine JO.reg ttOk 18 [(W (Int.tdiv x0 262144)), (W (240 + (W (Int.tdiv x0 262144)))), ((u8 ((W (240 + (W (Int.tdiv x0 262144)))))).toNat : Int), (W (Int.tdiv x0 4096)), (W (128 + (Int.tmod (W (Int.tdiv x0 4096)) 64))), ((u8 ((W (128 + (Int.tmod (W (Int.tdiv x0 4096)) 64))))).toNat : Int), (W (Int.tdiv x0 64)), (W (128 + (Int.tmod (W (Int.tdiv x0 64)) 64))), ((u8 ((W (128 + (Int.tmod (W (Int.tdiv x0 64)) 64))))).toNat : Int), (W (128 + (Int.tmod x0 64))), ((u8 ((W (128 + (Int.tmod x0 64))))).toNat : Int)] [] [(45, .v (.int .u8 ((u8 ((W (240 + (W (Int.tdiv x0 262144)))))).toNat : Int))), (50, .v (.int .u8 ((u8 ((W (128 + (Int.tmod (W (Int.tdiv x0 4096)) 64))))).toNat : Int))), (55, .v (.int .u8 ((u8 ((W (128 + (Int.tmod (W (Int.tdiv x0 64)) 64))))).toNat : Int))), (59, .v (.int .u8 ((u8 ((W (128 + (Int.tmod x0 64))))).toNat : Int)))] _ rfl ⟨⟨g13, rfl⟩, ⟨trivial, rfl⟩, ⟨trivial, u8_wrap _⟩, ⟨g14, rfl⟩, g15, ⟨trivial, rfl⟩, ⟨trivial, u8_wrap _⟩, ⟨g16, rfl⟩, g17, ⟨trivial, rfl⟩, ⟨trivial, u8_wrap _⟩, g18, ⟨trivial, rfl⟩, ⟨trivial, u8_wrap _⟩, ⟨rfl, rfl, rfl, rfl, trivial⟩, rfl⟩ ?_
    refine JO.ofK rfl (JK.buildSlice ttOk rfl rfl rfl rfl rfl rfl rfl rfl rfl rfl rfl [] rfl .byte [(u8 ((W (240 + (W (Int.tdiv x0 262144)))))), (u8 ((W (128 + (Int.tmod (W (Int.tdiv x0 4096)) 64))))), (u8 ((W (128 + (Int.tmod (W (Int.tdiv x0 64)) 64))))), (u8 ((W (128 + (Int.tmod x0 64)))))] ⟨rfl, rfl⟩ rfl rfl fun a19 => JO.toK ?_)
    refine JO.reg ttOk 1 [] [] [(2, .v (.slice a19 ([(u8 ((W (240 + (W (Int.tdiv x0 262144)))))), (u8 ((W (128 + (Int.tmod (W (Int.tdiv x0 4096)) 64))))), (u8 ((W (128 + (Int.tmod (W (Int.tdiv x0 64)) 64))))), (u8 ((W (128 + (Int.tmod x0 64)))))] : List UInt8).length ([(u8 ((W (240 + (W (Int.tdiv x0 262144)))))), (u8 ((W (128 + (Int.tmod (W (Int.tdiv x0 4096)) 64))))), (u8 ((W (128 + (Int.tmod (W (Int.tdiv x0 64)) 64))))), (u8 ((W (128 + (Int.tmod x0 64)))))] : List UInt8).length))] _ rfl ⟨⟨rfl, trivial⟩, rfl⟩ (JO.done rfl ?_)
    cases h
    exact JS.ret ttOk (a19, ([(u8 ((W (240 + (W (Int.tdiv x0 262144)))))), (u8 ((W (128 + (Int.tmod (W (Int.tdiv x0 4096)) 64))))), (u8 ((W (128 + (Int.tmod (W (Int.tdiv x0 64)) 64))))), (u8 ((W (128 + (Int.tmod x0 64)))))] : List UInt8).length) trivial rfl rfl [0] rfl

def M_i_KeyBytes (x0 : Int × Int) : Option (List UInt8) :=
  (bindO (M_i_KeyOk x0) fun (y2 : Bool) =>
  (bif (!y2) then
  some ([])
  else
  (bif (decide (x0.1 = 1)) then
  (bindO (M_i_RuneBytes x0.2) fun (y4 : List UInt8) =>
  some y4)
  else
  (bif (decide (x0.1 = 2)) then
  (bif (decide (x0.2 = 95)) then
  some ([(31 : UInt8)] : List UInt8)
  else
  some ([(u8 ((W (x0.2 - 96))))] : List UInt8))
  else
  (bif (decide (x0.1 = 3)) then
  some ([(27 : UInt8), (u8 (x0.2))] : List UInt8)
  else
  (bif (decide (x0.1 = 4)) then
  some ([(13 : UInt8)] : List UInt8)
  else
  (bif (decide (x0.1 = 5)) then
  some ([(127 : UInt8)] : List UInt8)
  else
  (bif (decide (x0.1 = 6)) then
  some ([(9 : UInt8)] : List UInt8)
  else
  (bif (decide (x0.1 = 7)) then
  some ([(27 : UInt8)] : List UInt8)
  else
  (bif (decide (x0.1 = 14)) then
  some ([(27 : UInt8), (91 : UInt8), (51 : UInt8), (126 : UInt8)] : List UInt8)
  else
  (bif (decide (x0.1 = 15)) then
  some ([(27 : UInt8), (127 : UInt8)] : List UInt8)
  else
  (bif (decide (x0.1 = 16)) then
  some ([(0 : UInt8)] : List UInt8)
  else
  (guardO (0 ≤ (W (x0.1 - 8)) ∧ (W (x0.1 - 8)) < (([65, 66, 67, 68, 72, 70] : List UInt8).length : Int)) <|
  some ([(27 : UInt8), (91 : UInt8), (at' ([65, 66, 67, 68, 72, 70] : List UInt8) (W (x0.1 - 8)))] : List UInt8))))))))))))))

theorem ok_i_KeyBytes (x0 : Int × Int) (r : List UInt8) (h : M_i_KeyBytes x0 = some r) :
    FC Tryd.prog 6 [.agg #[.int .i64 x0.1, .int .i64 x0.2]] [] (fun _ : Option Addr × Nat => True) (fun q => .slice q.1 r.length q.2) (fun q => [⟨.byte, ⟨q.1, r.length, q.2⟩, r⟩]) :=
  by
    refine FC.of (T := TTx) Tryd.call6 Tryd.func6 rfl rfl fun w0 => ?_
    unfold M_i_KeyBytes at h
    refine JS.seq (JS.region (JO.regB ttOk 2 [] [1] [(1, .bp 1 0)] (.new 1 24 [.int .i64 x0.1, .int .i64 x0.2] .nil) rfl ⟨⟨rfl, trivial⟩, ⟨rfl, rfl, rfl, rfl, trivial⟩⟩ (JO.done rfl (JS.seq (JS.seq (JS.region (JO.reg ttOk 1 [] [] [(3, .v (.agg #[.int .i64 x0.1, .int .i64 x0.2]))] _ rfl ⟨⟨rfl, trivial⟩, rfl⟩ ?_)))))))
    obtain ⟨y2, hy3, h⟩ := bindO_some h
    refine JO.call rfl rfl rfl rfl (ok_i_KeyOk x0 _ hy3) rfl [] rfl rfl fun _ _ => JO.reg ttOk 1 [] [] [(5, .v (.bool (!y2)))] _ rfl ⟨⟨rfl, trivial⟩, rfl⟩ (JO.done rfl ?_)
    refine JS.cond rfl (fun ht43 => ?_) (fun ht43 => ?_)
    · have h := condT h ht43
      refine JS.seq (JS.region (JO.reg ttOk 1 [] [] [(2, .v (.slice none 0 0))] _ rfl ⟨⟨rfl, trivial⟩, rfl⟩ (JO.done rfl ?_)))
      cases h
      refine JS.nilO .byte Sl.nil rfl rfl (JS.ret ttOk (none, 0) trivial rfl rfl [0] rfl)
    have h := condF h ht43
    refine JS.skip (JS.seq (JS.seq (JS.region (JO.reg ttOk 2 [] [] [(7, .v (.int .i64 x0.1))] _ rfl ⟨⟨rfl, trivial⟩, rfl⟩ (JO.done rfl (JS.block (JS.seq (JS.region (JO.reg ttOk 2 [] [] [(8, .v (.bool (decide (x0.1 = 1))))] _ rfl ⟨⟨rfl, trivial⟩, rfl⟩ (JO.done rfl ?_))))))))))
    refine JS.cond rfl (fun ht42 => ?_) (fun ht42 => ?_)
    · have h := condT h ht42
      refine JS.seq (JS.region (JO.reg ttOk 2 [] [] [(11, .v (.int .i64 x0.2))] _ rfl ⟨⟨rfl, trivial⟩, rfl⟩ ?_))
      obtain ⟨y4, hy5, h⟩ := bindO_some h
      refine JO.call rfl rfl rfl rfl (ok_i_RuneBytes x0.2 _ hy5) rfl [] rfl rfl ?_
      rintro ⟨a6, c7⟩ -
      refine JO.reg ttOk 1 [] [] [(2, .v (.slice a6 y4.length c7))] _ rfl ⟨⟨rfl, trivial⟩, rfl⟩ (JO.done rfl ?_)
      cases h
      exact JS.ret ttOk (a6, c7) trivial rfl rfl [0] rfl
    have h := condF h ht42
    refine JS.seq (JS.region (JO.reg ttOk 2 [] [] [(13, .v (.bool (decide (x0.1 = 2))))] _ rfl ⟨⟨rfl, trivial⟩, rfl⟩ (JO.done rfl ?_)))
    refine JS.cond rfl (fun ht41 => ?_) (fun ht41 => ?_)
    · have h := condT h ht41
      refine JS.seq (JS.seq (JS.region (JO.reg ttOk 3 [] [] [(17, .v (.bool (decide (x0.2 = 95))))] _ rfl ⟨⟨rfl, trivial⟩, rfl⟩ (JO.done rfl ?_))))
      refine JS.cond rfl (fun ht32 => ?_) (fun ht32 => ?_)
      · have h := condT h ht32
        refine JS.seq (JS.region ?_)
        refine JO.ofK rfl (JK.buildSlice ttOk rfl rfl rfl rfl rfl rfl rfl rfl rfl rfl rfl [] rfl .byte [(31 : UInt8)] ⟨rfl, rfl⟩ rfl rfl fun a8 => JO.toK ?_)
        refine JO.reg ttOk 1 [] [] [(2, .v (.slice a8 ([(31 : UInt8)] : List UInt8).length ([(31 : UInt8)] : List UInt8).length))] _ rfl ⟨⟨rfl, trivial⟩, rfl⟩ (JO.done rfl ?_)
        cases h
        exact JS.ret ttOk (a8, ([(31 : UInt8)] : List UInt8).length) trivial rfl rfl [0] rfl
      have h := condF h ht32
      refine JS.skip (JS.seq (JS.region (JO.reg ttOk 4 [(W (x0.2 - 96)), ((u8 ((W (x0.2 - 96)))).toNat : Int)] [] [(22, .v (.int .u8 ((u8 ((W (x0.2 - 96)))).toNat : Int)))] _ rfl ⟨⟨trivial, rfl⟩, ⟨trivial, u8_wrap _⟩, ⟨rfl, trivial⟩, rfl⟩ ?_)))
      refine JO.ofK rfl (JK.buildSlice ttOk rfl rfl rfl rfl rfl rfl rfl rfl rfl rfl rfl [] rfl .byte [(u8 ((W (x0.2 - 96))))] ⟨rfl, rfl⟩ rfl rfl fun a9 => JO.toK ?_)
      refine JO.reg ttOk 1 [] [] [(2, .v (.slice a9 ([(u8 ((W (x0.2 - 96))))] : List UInt8).length ([(u8 ((W (x0.2 - 96))))] : List UInt8).length))] _ rfl ⟨⟨rfl, trivial⟩, rfl⟩ (JO.done rfl ?_)
      cases h
      exact JS.ret ttOk (a9, ([(u8 ((W (x0.2 - 96))))] : List UInt8).length) trivial rfl rfl [0] rfl
    have h := condF h ht41
    refine JS.seq (JS.region (JO.reg ttOk 2 [] [] [(24, .v (.bool (decide (x0.1 = 3))))] _ rfl ⟨⟨rfl, trivial⟩, rfl⟩ (JO.done rfl ?_)))
    refine JS.cond rfl (fun ht40 => ?_) (fun ht40 => ?_)
    · have h := condT h ht40
      refine JS.seq (JS.region (JO.reg ttOk 3 [((u8 (x0.2)).toNat : Int)] [] [(28, .v (.int .u8 ((u8 (x0.2)).toNat : Int)))] _ rfl ⟨⟨trivial, u8_wrap _⟩, ⟨rfl, trivial⟩, rfl⟩ ?_))
      refine JO.ofK rfl (JK.buildSlice ttOk rfl rfl rfl rfl rfl rfl rfl rfl rfl rfl rfl [] rfl .byte [(27 : UInt8), (u8 (x0.2))] ⟨rfl, rfl⟩ rfl rfl fun a11 => JO.toK ?_)
      refine JO.reg ttOk 1 [] [] [(2, .v (.slice a11 ([(27 : UInt8), (u8 (x0.2))] : List UInt8).length ([(27 : UInt8), (u8 (x0.2))] : List UInt8).length))] _ rfl ⟨⟨rfl, trivial⟩, rfl⟩ (JO.done rfl ?_)
      cases h
      exact JS.ret ttOk (a11, ([(27 : UInt8), (u8 (x0.2))] : List UInt8).length) trivial rfl rfl [0] rfl
    have h := condF h ht40
    refine JS.seq (JS.region (JO.reg ttOk 2 [] [] [(30, .v (.bool (decide (x0.1 = 4))))] _ rfl ⟨⟨rfl, trivial⟩, rfl⟩ (JO.done rfl ?_)))
    refine JS.cond rfl (fun ht39 => ?_) (fun ht39 => ?_)
    · have h := condT h ht39
      refine JS.seq (JS.region ?_)
      refine JO.ofK rfl (JK.buildSlice ttOk rfl rfl rfl rfl rfl rfl rfl rfl rfl rfl rfl [] rfl .byte [(13 : UInt8)] ⟨rfl, rfl⟩ rfl rfl fun a12 => JO.toK ?_)
      refine JO.reg ttOk 1 [] [] [(2, .v (.slice a12 ([(13 : UInt8)] : List UInt8).length ([(13 : UInt8)] : List UInt8).length))] _ rfl ⟨⟨rfl, trivial⟩, rfl⟩ (JO.done rfl ?_)
      cases h
      exact JS.ret ttOk (a12, ([(13 : UInt8)] : List UInt8).length) trivial rfl rfl [0] rfl
    have h := condF h ht39
    refine JS.seq (JS.region (JO.reg ttOk 2 [] [] [(33, .v (.bool (decide (x0.1 = 5))))] _ rfl ⟨⟨rfl, trivial⟩, rfl⟩ (JO.done rfl ?_)))
    refine JS.cond rfl (fun ht38 => ?_) (fun ht38 => ?_)
    · have h := condT h ht38
      refine JS.seq (JS.region ?_)
      refine JO.ofK rfl (JK.buildSlice ttOk rfl rfl rfl rfl rfl rfl rfl rfl rfl rfl rfl [] rfl .byte [(127 : UInt8)] ⟨rfl, rfl⟩ rfl rfl fun a13 => JO.toK ?_)
      refine JO.reg ttOk 1 [] [] [(2, .v (.slice a13 ([(127 : UInt8)] : List UInt8).length ([(127 : UInt8)] : List UInt8).length))] _ rfl ⟨⟨rfl, trivial⟩, rfl⟩ (JO.done rfl ?_)
      cases h
      exact JS.ret ttOk (a13, ([(127 : UInt8)] : List UInt8).length) trivial rfl rfl [0] rfl
    have h := condF h ht38
    refine JS.seq (JS.region (JO.reg ttOk 2 [] [] [(36, .v (.bool (decide (x0.1 = 6))))] _ rfl ⟨⟨rfl, trivial⟩, rfl⟩ (JO.done rfl ?_)))
    refine JS.cond rfl (fun ht37 => ?_) (fun ht37 => ?_)
    · have h := condT h ht37
      refine JS.seq (JS.region ?_)
      refine JO.ofK rfl (JK.buildSlice ttOk rfl rfl rfl rfl rfl rfl rfl rfl rfl rfl rfl [] rfl .byte [(9 : UInt8)] ⟨rfl, rfl⟩ rfl rfl fun a14 => JO.toK ?_)
      refine JO.reg ttOk 1 [] [] [(2, .v (.slice a14 ([(9 : UInt8)] : List UInt8).length ([(9 : UInt8)] : List UInt8).length))] _ rfl ⟨⟨rfl, trivial⟩, rfl⟩ (JO.done rfl ?_)
      cases h
      exact JS.ret ttOk (a14, ([(9 : UInt8)] : List UInt8).length) trivial rfl rfl [0] rfl
    have h := condF h ht37
    refine JS.seq (JS.region (JO.reg ttOk 2 [] [] [(39, .v (.bool (decide (x0.1 = 7))))] _ rfl ⟨⟨rfl, trivial⟩, rfl⟩ (JO.done rfl ?_)))
    refine JS.cond rfl (fun ht36 => ?_) (fun ht36 => ?_)
    · have h := condT h ht36
      refine JS.seq (JS.region ?_)
      refine JO.ofK rfl (JK.buildSlice ttOk rfl rfl rfl rfl rfl rfl rfl rfl rfl rfl rfl [] rfl .byte [(27 : UInt8)] ⟨rfl, rfl⟩ rfl rfl fun a15 => JO.toK ?_)
      refine JO.reg ttOk 1 [] [] [(2, .v (.slice a15 ([(27 : UInt8)] : List UInt8).length ([(27 : UInt8)] : List UInt8).length))] _ rfl ⟨⟨rfl, trivial⟩, rfl⟩ (JO.done rfl ?_)
      cases h
      exact JS.ret ttOk (a15, ([(27 : UInt8)] : List UInt8).length) trivial rfl rfl [0] rfl
    have h := condF h ht36
    refine JS.seq (JS.region (JO.reg ttOk 2 [] [] [(42, .v (.bool (decide (x0.1 = 14))))] _ rfl ⟨⟨rfl, trivial⟩, rfl⟩ (JO.done rfl ?_)))
    refine JS.cond rfl (fun ht35 => ?_) (fun ht35 => ?_)
    · have h := condT h ht35
      refine JS.seq (JS.region ?_)
      refine JO.ofK rfl (JK.buildSlice ttOk rfl rfl rfl rfl rfl rfl rfl rfl rfl rfl rfl [] rfl .byte [(27 : UInt8), (91 : UInt8), (51 : UInt8), (126 : UInt8)] ⟨rfl, rfl⟩ rfl rfl fun a16 => JO.toK ?_)
      refine JO.reg ttOk 1 [] [] [(2, .v (.slice a16 ([(27 : UInt8), (91 : UInt8), (51 : UInt8), (126 : UInt8)] : List UInt8).length ([(27 : UInt8), (91 : UInt8), (51 : UInt8), (126 : UInt8)] : List UInt8).length))] _ rfl ⟨⟨rfl, trivial⟩, rfl⟩ (JO.done rfl ?_)
      cases h
      exact JS.ret ttOk (a16, ([(27 : UInt8), (91 : UInt8), (51 : UInt8), (126 : UInt8)] : List UInt8).length) trivial rfl rfl [0] rfl
    have h := condF h ht35
    refine JS.seq (JS.region (JO.reg ttOk 2 [] [] [(45, .v (.bool (decide (x0.1 = 15))))] _ rfl ⟨⟨rfl, trivial⟩, rfl⟩ (JO.done rfl ?_)))
    refine JS.cond rfl (fun ht34 => ?_) (fun ht34 => ?_)
    · have h := condT h ht34
      refine JS.seq (JS.region ?_)
      refine JO.ofK rfl (JK.buildSlice ttOk rfl rfl rfl rfl rfl rfl rfl rfl rfl rfl rfl [] rfl .byte [(27 : UInt8), (127 : UInt8)] ⟨rfl, rfl⟩ rfl rfl fun a17 => JO.toK ?_)
      refine JO.reg ttOk 1 [] [] [(2, .v (.slice a17 ([(27 : UInt8), (127 : UInt8)] : List UInt8).length ([(27 : UInt8), (127 : UInt8)] : List UInt8).length))] _ rfl ⟨⟨rfl, trivial⟩, rfl⟩ (JO.done rfl ?_)
      cases h
      exact JS.ret ttOk (a17, ([(27 : UInt8), (127 : UInt8)] : List UInt8).length) trivial rfl rfl [0] rfl
    have h := condF h ht34
    refine JS.seq (JS.region (JO.reg ttOk 2 [] [] [(48, .v (.bool (decide (x0.1 = 16))))] _ rfl ⟨⟨rfl, trivial⟩, rfl⟩ (JO.done rfl ?_)))
    refine JS.cond rfl (fun ht33 => ?_) (fun ht33 => ?_)
    · have h := condT h ht33
      refine JS.seq (JS.region ?_)
      refine JO.ofK rfl (JK.buildSlice ttOk rfl rfl rfl rfl rfl rfl rfl rfl rfl rfl rfl [] rfl .byte [(0 : UInt8)] ⟨rfl, rfl⟩ rfl rfl fun a18 => JO.toK ?_)
      refine JO.reg ttOk 1 [] [] [(2, .v (.slice a18 ([(0 : UInt8)] : List UInt8).length ([(0 : UInt8)] : List UInt8).length))] _ rfl ⟨⟨rfl, trivial⟩, rfl⟩ (JO.done rfl ?_)
      cases h
      exact JS.ret ttOk (a18, ([(0 : UInt8)] : List UInt8).length) trivial rfl rfl [0] rfl
    have h := condF h ht33
    refine JS.skip (JS.endB (JS.seq (JS.region ?_)))
    obtain ⟨g19, h⟩ := guardO_some h
    refine JO.reg ttOk 4 [(W (x0.1 - 8))] [] [(54, .v (.int .u8 ((at' ([65, 66, 67, 68, 72, 70] : List UInt8) (W (x0.1 - 8))).toNat : Int)))] _ rfl ⟨⟨trivial, rfl⟩, g19, ⟨rfl, trivial⟩, rfl⟩ ?_
    refine JO.ofK rfl (JK.buildSlice ttOk rfl rfl rfl rfl rfl rfl rfl rfl rfl rfl rfl [] rfl .byte [(27 : UInt8), (91 : UInt8), (at' ([65, 66, 67, 68, 72, 70] : List UInt8) (W (x0.1 - 8)))] ⟨rfl, rfl⟩ rfl rfl fun a20 => JO.toK ?_)
    refine JO.reg ttOk 1 [] [] [(2, .v (.slice a20 ([(27 : UInt8), (91 : UInt8), (at' ([65, 66, 67, 68, 72, 70] : List UInt8) (W (x0.1 - 8)))] : List UInt8).length ([(27 : UInt8), (91 : UInt8), (at' ([65, 66, 67, 68, 72, 70] : List UInt8) (W (x0.1 - 8)))] : List UInt8).length))] _ rfl ⟨⟨rfl, trivial⟩, rfl⟩ (JO.done rfl ?_)
    cases h
    exact JS.ret ttOk (a20, ([(27 : UInt8), (91 : UInt8), (at' ([65, 66, 67, 68, 72, 70] : List UInt8) (W (x0.1 - 8)))] : List UInt8).length) trivial rfl rfl [0] rfl

def M_i_isDigit (x0 : Int) : Option Bool :=
  (bindO (M_i_in x0 48 57) fun (y2 : Bool) =>
  some y2)

theorem ok_i_isDigit (x0 : Int) (r : Bool) (h : M_i_isDigit x0 = some r) :
    FC Tryd.prog 27 [.int .i64 x0] [] (fun _ : Unit => True) (fun _ => .bool r) (fun _ => []) :=
  by
    refine FC.of (T := TTx) Tryd.call27 Tryd.func27 rfl rfl fun w0 => ?_
    unfold M_i_isDigit at h
    refine JS.seq (JS.region (JO.reg ttOk 1 [] [] [] _ rfl ⟨trivial, rfl⟩ (JO.done rfl (JS.seq (JS.region (JO.reg ttOk 1 [] [] [(3, .v (.int .i64 x0))] _ rfl ⟨⟨rfl, trivial⟩, rfl⟩ ?_))))))
    obtain ⟨y2, hy3, h⟩ := bindO_some h
    refine JO.call rfl rfl rfl rfl (ok_i_in x0 48 57 _ hy3) rfl [] rfl rfl fun _ _ => JO.reg ttOk 1 [] [] [(2, .v (.bool y2))] _ rfl ⟨⟨rfl, trivial⟩, rfl⟩ (JO.done rfl ?_)
    cases h
    exact JS.ret ttOk () trivial rfl rfl [] rfl

def M_i_RuneBegin_L1 (x0 : List UInt8) (x20 : Int) (j54 : (Int × Int) → Option Bool) (k45 : (Int × Int × Int) → Option Bool) : (Int × Int × Int) → Option Bool := fun (x26, x27, x28) =>
  (bif (decide (x28 < x20)) then
  (joinO (fun ((x37, x38) : Int × Int) =>
  k45 (x37, x38, (W (x28 + 1)))) fun j39 =>
  (bif (decide (x28 < (x0.length : Int))) then
  (guardO (0 ≤ x28 ∧ x28 < (x0.length : Int)) <|
  (bindO (M_i_in ((at' x0 x28).toNat : Int) 128 191) fun (y31 : Bool) =>
  (bif (!y31) then
  some false
  else
  (guardO (0 ≤ x28 ∧ x28 < (x0.length : Int)) <|
  (guardO (0 ≤ x28 ∧ x28 < (x0.length : Int)) <|
  j39 ((W ((W ((W (x26 * 64)) + ((at' x0 x28).toNat : Int))) - 128)), (W ((W ((W (x27 * 64)) + ((at' x0 x28).toNat : Int))) - 128))))))))
  else
  j39 ((W (x26 * 64)), (W ((W (x27 * 64)) + 63)))))
  else
  j54 (x26, x27))

def M_i_RuneBegin (x0 : List UInt8) : Option Bool :=
  (bindO (M_i_in (x0.length : Int) 1 3) fun (y6 : Bool) =>
  (bif (!y6) then
  some false
  else
  (guardO (0 ≤ (0 : Int) ∧ 0 < (x0.length : Int)) <|
  (joinO (fun ((x20, x21) : Int × Int) =>
  (bif (decide (x20 ≤ (x0.length : Int))) then
  some false
  else
  (joinO (fun ((x52, x53) : Int × Int) =>
  (guardO (0 ≤ x20 ∧ x20 < (([0, 0, 128, 2048, 65536] : List Int).length : Int)) <|
  some (bif (decide ((max x52 (at' ([0, 0, 128, 2048, 65536] : List Int) x20)) ≤ (min x53 1114111))) then (!(bif (decide (55296 ≤ (max x52 (at' ([0, 0, 128, 2048, 65536] : List Int) x20)))) then (decide ((min x53 1114111) ≤ 57343)) else false)) else false))) fun j54 =>
  (fixF (M_i_RuneBegin_L1 x0 x20 j54) FUEL (x21, x21, 1))))) fun j22 =>
  (bindO (M_i_in ((at' x0 0).toNat : Int) 192 223) fun (y11 : Bool) =>
  (bif y11 then
  j22 (2, (W (((at' x0 0).toNat : Int) - 192)))
  else
  (bindO (M_i_in ((at' x0 0).toNat : Int) 224 239) fun (y13 : Bool) =>
  (bif y13 then
  j22 (3, (W (((at' x0 0).toNat : Int) - 224)))
  else
  (bindO (M_i_in ((at' x0 0).toNat : Int) 240 247) fun (y15 : Bool) =>
  (bif y15 then
  j22 (4, (W (((at' x0 0).toNat : Int) - 240)))
  else
  j22 (0, ((at' x0 0).toNat : Int))))))))))))

theorem ok_i_RuneBegin (x0 : List UInt8) (a2 : Option Addr) (c3 : Nat) (l4 : Nat) (hl5 : x0.length = l4) (r : Bool) (h : M_i_RuneBegin x0 = some r) :
    FC Tryd.prog 26 [.slice a2 l4 c3] [⟨.byte, ⟨a2, l4, c3⟩, x0⟩] (fun _ : Unit => True) (fun _ => .bool r) (fun _ => []) :=
  by
    subst hl5
    refine FC.of (T := TTx) Tryd.call26 Tryd.func26 rfl rfl fun w0 => ?_
    unfold M_i_RuneBegin at h
    refine JS.seq (JS.region (JO.reg ttOk 1 [] [] [] _ rfl ⟨trivial, rfl⟩ (JO.done rfl (JS.seq (JS.seq (JS.region (JO.reg ttOk 2 [] [] [(10, .v (.int .i64 (x0.length : Int)))] _ rfl ⟨⟨rfl, trivial⟩, rfl⟩ ?_)))))))
    obtain ⟨y6, hy7, h⟩ := bindO_some h
    refine JO.call rfl rfl rfl rfl (ok_i_in (x0.length : Int) 1 3 _ hy7) rfl [] rfl rfl fun _ _ => JO.reg ttOk 1 [] [] [(12, .v (.bool (!y6)))] _ rfl ⟨⟨rfl, trivial⟩, rfl⟩ (JO.done rfl ?_)
    refine JS.cond rfl (fun ht81 => ?_) (fun ht81 => ?_)
    · have h := condT h ht81
      refine JS.seq (JS.region (JO.reg ttOk 1 [] [] [(2, .v (.bool false))] _ rfl ⟨⟨rfl, trivial⟩, rfl⟩ (JO.done rfl ?_)))
      cases h
      exact JS.ret ttOk () trivial rfl rfl [] rfl
    have h := condF h ht81
    refine JS.skip (JS.seq ?_)
    obtain ⟨g9, h⟩ := guardO_some h
    refine JS.know 0 rfl fun hs68 => JS.regionQ rfl (by kernel_rfl) (JQ.reg ttOk 2 [] [(14, .ep ⟨a2, x0.length, c3⟩ (Int.toNat 0 * 1))] rfl ⟨hs68.ix g9, ⟨rfl, trivial⟩⟩ (JQ.load ttOk rfl rfl rfl rfl rfl rfl rfl 0 rfl rfl (Int.toNat 0) 0 (at' x0 0) ⟨at_some g9, rfl⟩ rfl rfl (JQ.reg ttOk 3 [((at' x0 0).toNat : Int)] [(3, .v (.int .i64 0)), (4, .v (.int .i64 ((at' x0 0).toNat : Int)))] rfl ⟨⟨trivial, W_byte _⟩, ⟨rfl, rfl, trivial⟩⟩ (JQ.done rfl (JS.seq ?_)))))
    obtain ⟨j22, hj80, h⟩ := joinO_some h
    refine JS.blockJ (ι := Int × Int) ⟨fun z => j22 (z.1, z.2) = some r, fun z => [(0, .v (.slice a2 x0.length c3)), (3, .v (.int .i64 z.1)), (4, .v (.int .i64 z.2))], fun z => .nil, fun z => [⟨.byte, ⟨a2, x0.length, c3⟩, x0⟩], fun z => [], fun z => 0⟩ ?_ ?_
    · refine JS.seq (JS.region (JO.reg ttOk 1 [] [] [(18, .v (.int .i64 ((at' x0 0).toNat : Int)))] _ rfl ⟨⟨rfl, trivial⟩, rfl⟩ ?_))
      obtain ⟨y11, hy12, h⟩ := bindO_some h
      refine JO.call rfl rfl rfl rfl (ok_i_in ((at' x0 0).toNat : Int) 192 223 _ hy12) rfl [] rfl rfl fun _ _ => JO.reg ttOk 1 [] [] [(17, .v (.bool y11))] _ rfl ⟨⟨rfl, trivial⟩, rfl⟩ (JO.done rfl ?_)
      refine JS.cond rfl (fun ht71 => ?_) (fun ht71 => ?_)
      · have h := condT h ht71
        refine JS.region (JO.reg ttOk 4 [(W (((at' x0 0).toNat : Int) - 192))] [] [(3, .v (.int .i64 2)), (4, .v (.int .i64 (W (((at' x0 0).toNat : Int) - 192))))] _ rfl ⟨⟨trivial, rfl⟩, ⟨rfl, rfl, trivial⟩, rfl⟩ (JO.done rfl (JS.endB (JS.endJ (2, (W (((at' x0 0).toNat : Int) - 192))) h ⟨rfl, rfl, rfl, trivial⟩ trivial [0] rfl [] rfl))))
      have h := condF h ht71
      refine JS.seq (JS.region (JO.reg ttOk 1 [] [] [(23, .v (.int .i64 ((at' x0 0).toNat : Int)))] _ rfl ⟨⟨rfl, trivial⟩, rfl⟩ ?_))
      obtain ⟨y13, hy14, h⟩ := bindO_some h
      refine JO.call rfl rfl rfl rfl (ok_i_in ((at' x0 0).toNat : Int) 224 239 _ hy14) rfl [] rfl rfl fun _ _ => JO.reg ttOk 1 [] [] [(22, .v (.bool y13))] _ rfl ⟨⟨rfl, trivial⟩, rfl⟩ (JO.done rfl ?_)
      refine JS.cond rfl (fun ht70 => ?_) (fun ht70 => ?_)
      · have h := condT h ht70
        refine JS.region (JO.reg ttOk 4 [(W (((at' x0 0).toNat : Int) - 224))] [] [(3, .v (.int .i64 3)), (4, .v (.int .i64 (W (((at' x0 0).toNat : Int) - 224))))] _ rfl ⟨⟨trivial, rfl⟩, ⟨rfl, rfl, trivial⟩, rfl⟩ (JO.done rfl (JS.endB (JS.endJ (3, (W (((at' x0 0).toNat : Int) - 224))) h ⟨rfl, rfl, rfl, trivial⟩ trivial [0] rfl [] rfl))))
      have h := condF h ht70
      refine JS.seq (JS.region (JO.reg ttOk 1 [] [] [(28, .v (.int .i64 ((at' x0 0).toNat : Int)))] _ rfl ⟨⟨rfl, trivial⟩, rfl⟩ ?_))
      obtain ⟨y15, hy16, h⟩ := bindO_some h
      refine JO.call rfl rfl rfl rfl (ok_i_in ((at' x0 0).toNat : Int) 240 247 _ hy16) rfl [] rfl rfl fun _ _ => JO.reg ttOk 1 [] [] [(27, .v (.bool y15))] _ rfl ⟨⟨rfl, trivial⟩, rfl⟩ (JO.done rfl ?_)
      refine JS.cond rfl (fun ht69 => ?_) (fun ht69 => ?_)
      · have h := condT h ht69
        refine JS.region (JO.reg ttOk 4 [(W (((at' x0 0).toNat : Int) - 240))] [] [(3, .v (.int .i64 4)), (4, .v (.int .i64 (W (((at' x0 0).toNat : Int) - 240))))] _ rfl ⟨⟨trivial, rfl⟩, ⟨rfl, rfl, trivial⟩, rfl⟩ (JO.done rfl (JS.endB (JS.endJ (4, (W (((at' x0 0).toNat : Int) - 240))) h ⟨rfl, rfl, rfl, trivial⟩ trivial [0] rfl [] rfl))))
      have h := condF h ht69
      refine JS.skip (JS.endB (JS.endJ (0, ((at' x0 0).toNat : Int)) h ⟨rfl, rfl, rfl, trivial⟩ trivial [0] rfl [] rfl))
    rintro ⟨x20, x21⟩ h
    subst hj80
    refine JS.seq (JS.seq (JS.region (JO.reg ttOk 4 [] [] [(35, .v (.bool (decide (x20 ≤ (x0.length : Int)))))] _ rfl ⟨⟨rfl, trivial⟩, rfl⟩ (JO.done rfl ?_))))
    refine JS.cond rfl (fun ht79 => ?_) (fun ht79 => ?_)
    · have h := condT h ht79
      refine JS.seq (JS.region (JO.reg ttOk 1 [] [] [(2, .v (.bool false))] _ rfl ⟨⟨rfl, trivial⟩, rfl⟩ (JO.done rfl ?_)))
      cases h
      exact JS.ret ttOk () trivial rfl rfl [] rfl
    have h := condF h ht79
    refine JS.skip (JS.seq (JS.region (JO.reg ttOk 4 [] [] [(5, .v (.int .i64 x21)), (6, .v (.int .i64 x21))] _ rfl ⟨⟨rfl, rfl, trivial⟩, rfl⟩ (JO.done rfl (JS.seq (JS.seq (JS.region (JO.reg ttOk 1 [] [] [(7, .v (.int .i64 1))] _ rfl ⟨⟨rfl, trivial⟩, rfl⟩ (JO.done rfl ?_)))))))))
    obtain ⟨j54, hj78, h⟩ := joinO_some h
    refine JS.blockJ (ι := Int × Int) ⟨fun z => j54 (z.1, z.2) = some r, fun z => [(3, .v (.int .i64 x20)), (5, .v (.int .i64 z.1)), (6, .v (.int .i64 z.2))], fun z => .nil, fun z => [], fun z => [], fun z => 0⟩ ?_ ?_
    · refine JS.loop (ι := Nat × Int × Int × Int) ⟨fun z => fixF (M_i_RuneBegin_L1 x0 x20 j54) z.1 (z.2.1, z.2.2.1, z.2.2.2) = some r, fun z => [(0, .v (.slice a2 x0.length c3)), (3, .v (.int .i64 x20)), (5, .v (.int .i64 z.2.1)), (6, .v (.int .i64 z.2.2.1)), (7, .v (.int .i64 z.2.2.2))], fun z => .nil, fun z => [⟨.byte, ⟨a2, x0.length, c3⟩, x0⟩], fun z => [], fun z => z.1⟩ (FUEL, x21, x21, 1) h ⟨rfl, rfl, rfl, rfl, rfl, trivial⟩ trivial [0] rfl [] rfl ?_
      rintro ⟨n46, x26, x27, x28⟩ h
      obtain ⟨n46, rfl, h⟩ := fixF_some h
      rw [M_i_RuneBegin_L1] at h
      refine JS.seq (JS.seq (JS.region (JO.reg ttOk 3 [] [] [(40, .v (.bool (decide (x28 < x20))))] _ rfl ⟨⟨rfl, trivial⟩, rfl⟩ (JO.done rfl ?_))))
      refine JS.cond rfl (fun ht76 => ?_) (fun ht76 => ?_)
      · have h := condT h ht76
        refine JS.skip (JS.seq ?_)
        obtain ⟨j39, hj75, h⟩ := joinO_some h
        refine JS.blockJ (ι := Int × Int) ⟨fun z => j39 (z.1, z.2) = some r, fun z => [(0, .v (.slice a2 x0.length c3)), (3, .v (.int .i64 x20)), (5, .v (.int .i64 z.1)), (6, .v (.int .i64 z.2)), (7, .v (.int .i64 x28))], fun z => .nil, fun z => [⟨.byte, ⟨a2, x0.length, c3⟩, x0⟩], fun z => [], fun z => 0⟩ ?_ ?_
        · refine JS.seq (JS.region (JO.reg ttOk 4 [] [] [(46, .v (.bool (decide (x28 < (x0.length : Int)))))] _ rfl ⟨⟨rfl, trivial⟩, rfl⟩ (JO.done rfl ?_)))
          refine JS.cond rfl (fun ht74 => ?_) (fun ht74 => ?_)
          · have h := condT h ht74
            refine JS.seq (JS.seq (JS.region (JO.know 0 rfl fun hs72 => ?_)))
            obtain ⟨g30, h⟩ := guardO_some h
            refine JO.reg ttOk 3 [] [] [(49, .ep ⟨a2, x0.length, c3⟩ (Int.toNat x28 * 1))] _ rfl ⟨hs72.ix g30, ⟨rfl, trivial⟩, rfl⟩ (JO.load ttOk rfl rfl rfl rfl rfl rfl rfl 0 rfl rfl (Int.toNat x28) 0 (at' x0 x28) ⟨at_some g30, rfl⟩ rfl rfl (JO.reg ttOk 1 [((at' x0 x28).toNat : Int)] [] [(51, .v (.int .i64 ((at' x0 x28).toNat : Int)))] _ rfl ⟨⟨trivial, W_byte _⟩, ⟨rfl, trivial⟩, rfl⟩ ?_))
            obtain ⟨y31, hy32, h⟩ := bindO_some h
            refine JO.call rfl rfl rfl rfl (ok_i_in ((at' x0 x28).toNat : Int) 128 191 _ hy32) rfl [] rfl rfl fun _ _ => JO.reg ttOk 1 [] [] [(53, .v (.bool (!y31)))] _ rfl ⟨⟨rfl, trivial⟩, rfl⟩ (JO.done rfl ?_)
            refine JS.cond rfl (fun ht73 => ?_) (fun ht73 => ?_)
            · have h := condT h ht73
              refine JS.seq (JS.region (JO.reg ttOk 1 [] [] [(2, .v (.bool false))] _ rfl ⟨⟨rfl, trivial⟩, rfl⟩ (JO.done rfl ?_)))
              cases h
              exact JS.ret ttOk () trivial rfl rfl [] rfl
            have h := condF h ht73
            refine JS.skip ?_
            obtain ⟨g33, h⟩ := guardO_some h
            obtain ⟨g34, h⟩ := guardO_some h
            refine JS.regionQ rfl (by kernel_rfl) (JQ.reg ttOk 5 [(W (x26 * 64))] [(55, .v (.int .i64 (W (x26 * 64)))), (58, .ep ⟨a2, x0.length, c3⟩ (Int.toNat x28 * 1))] rfl ⟨⟨trivial, rfl⟩, hs72.ix g33, ⟨rfl, rfl, trivial⟩⟩ (JQ.load ttOk rfl rfl rfl rfl rfl rfl rfl 0 rfl rfl (Int.toNat x28) 0 (at' x0 x28) ⟨at_some g33, rfl⟩ rfl rfl (JQ.reg ttOk 8 [((at' x0 x28).toNat : Int), (W ((W (x26 * 64)) + ((at' x0 x28).toNat : Int))), (W ((W ((W (x26 * 64)) + ((at' x0 x28).toNat : Int))) - 128)), (W (x27 * 64))] [(62, .v (.int .i64 (W ((W ((W (x26 * 64)) + ((at' x0 x28).toNat : Int))) - 128)))), (64, .v (.int .i64 (W (x27 * 64)))), (67, .ep ⟨a2, x0.length, c3⟩ (Int.toNat x28 * 1))] rfl ⟨⟨trivial, W_byte _⟩, ⟨trivial, rfl⟩, ⟨trivial, rfl⟩, ⟨trivial, rfl⟩, hs72.ix g34, ⟨rfl, rfl, rfl, trivial⟩⟩ (JQ.load ttOk rfl rfl rfl rfl rfl rfl rfl 0 rfl rfl (Int.toNat x28) 0 (at' x0 x28) ⟨at_some g34, rfl⟩ rfl rfl (JQ.reg ttOk 5 [((at' x0 x28).toNat : Int), (W ((W (x27 * 64)) + ((at' x0 x28).toNat : Int))), (W ((W ((W (x27 * 64)) + ((at' x0 x28).toNat : Int))) - 128))] [(5, .v (.int .i64 (W ((W ((W (x26 * 64)) + ((at' x0 x28).toNat : Int))) - 128)))), (6, .v (.int .i64 (W ((W ((W (x27 * 64)) + ((at' x0 x28).toNat : Int))) - 128))))] rfl ⟨⟨trivial, W_byte _⟩, ⟨trivial, rfl⟩, ⟨trivial, rfl⟩, ⟨rfl, rfl, trivial⟩⟩ (JQ.done rfl (JS.endB (JS.endJ ((W ((W ((W (x26 * 64)) + ((at' x0 x28).toNat : Int))) - 128)), (W ((W ((W (x27 * 64)) + ((at' x0 x28).toNat : Int))) - 128))) h ⟨rfl, rfl, rfl, rfl, rfl, trivial⟩ trivial [0] rfl [] rfl))))))))
          have h := condF h ht74
          refine JS.region (JO.reg ttOk 7 [(W (x26 * 64)), (W (x27 * 64)), (W ((W (x27 * 64)) + 63))] [] [(5, .v (.int .i64 (W (x26 * 64)))), (6, .v (.int .i64 (W ((W (x27 * 64)) + 63))))] _ rfl ⟨⟨trivial, rfl⟩, ⟨trivial, rfl⟩, ⟨trivial, rfl⟩, ⟨rfl, rfl, trivial⟩, rfl⟩ (JO.done rfl (JS.endB (JS.endJ ((W (x26 * 64)), (W ((W (x27 * 64)) + 63))) h ⟨rfl, rfl, rfl, rfl, rfl, trivial⟩ trivial [0] rfl [] rfl))))
        rintro ⟨x37, x38⟩ h
        subst hj75
        refine JS.region (JO.reg ttOk 3 [(W (x28 + 1))] [] [(7, .v (.int .i64 (W (x28 + 1))))] _ rfl ⟨⟨trivial, rfl⟩, ⟨rfl, trivial⟩, rfl⟩ (JO.done rfl (JS.endL (n46, x37, x38, (W (x28 + 1))) h (Nat.lt_succ_self _) ⟨rfl, rfl, rfl, rfl, rfl, trivial⟩ trivial [0] rfl [] rfl)))
      have h := condF h ht76
      refine JS.exit rfl (JS.endJ (x26, x27) h ⟨rfl, rfl, rfl, trivial⟩ trivial [] rfl [] rfl)
    rintro ⟨x52, x53⟩ h
    subst hj78
    refine JS.seq (JS.region ?_)
    refine JO.ofK rfl (JK.buildSlice ttOk rfl rfl rfl rfl rfl rfl rfl rfl rfl rfl rfl [] rfl (.int .i64) [0, 0, 128, 2048, 65536] ⟨rfl, rfl⟩ rfl rfl fun a60 => JO.toK ?_)
    refine JO.know 0 rfl fun hs77 => ?_
    obtain ⟨g62, h⟩ := guardO_some h
    refine JO.reg ttOk 2 [] [] [(79, .ep ⟨a60, ([0, 0, 128, 2048, 65536] : List Int).length, ([0, 0, 128, 2048, 65536] : List Int).length⟩ (Int.toNat x20 * 1))] _ rfl ⟨hs77.ix g62, ⟨rfl, trivial⟩, rfl⟩ (JO.load ttOk rfl rfl rfl rfl rfl rfl rfl 0 rfl rfl (Int.toNat x20) 0 (at' ([0, 0, 128, 2048, 65536] : List Int) x20) ⟨at_some g62, rfl⟩ rfl rfl (JO.reg ttOk 1 [] [] [(8, .v (.int .i64 (at' ([0, 0, 128, 2048, 65536] : List Int) x20)))] _ rfl ⟨⟨rfl, trivial⟩, rfl⟩ (JO.done rfl (JS.seq (JS.region (JO.reg ttOk 7 [] [] [(5, .v (.int .i64 (max x52 (at' ([0, 0, 128, 2048, 65536] : List Int) x20)))), (6, .v (.int .i64 (min x53 1114111)))] _ rfl ⟨⟨rfl, rfl, trivial⟩, rfl⟩ (JO.done rfl (JS.seq (JS.region (JO.reg ttOk 13 [] [] [(2, .v (.bool (bif (decide ((max x52 (at' ([0, 0, 128, 2048, 65536] : List Int) x20)) ≤ (min x53 1114111))) then (!(bif (decide (55296 ≤ (max x52 (at' ([0, 0, 128, 2048, 65536] : List Int) x20)))) then (decide ((min x53 1114111) ≤ 57343)) else false)) else false)))] _ rfl ⟨⟨rfl, trivial⟩, rfl⟩ (JO.done rfl ?_)))))))))))
    cases h
    exact JS.ret ttOk () trivial rfl rfl [] rfl

def M_i_DecOk_L1 (x0 : Int × List UInt8) (j28 : Unit → Option Bool) (k23 : Int → Option Bool) : Int → Option Bool := fun x9 =>
  (bif (decide (x9 < (x0.2.length : Int))) then
  (guardO (0 ≤ x9 ∧ x9 < (x0.2.length : Int)) <|
  (bindO (M_i_isDigit ((at' x0.2 x9).toNat : Int)) fun (y16 : Bool) =>
  (bif (bif (!y16) then (!(decide (((at' x0.2 x9).toNat : Int) = (59 : Int)))) else false) then
  some false
  else
  k23 (W (x9 + 1)))))
  else
  j28 ())

def M_i_DecOk (x0 : Int × List UInt8) : Option Bool :=
  (joinO (fun (_ : Unit) =>
  some false) fun j43 =>
  (bif (decide (x0.1 = 0)) then
  (callO ((decide ((x0.2.length : Int) = 0)) = false) (M_i_RuneBegin x0.2) false fun (y6 : Bool) =>
  some (bif (decide ((x0.2.length : Int) = 0)) then true else y6))
  else
  (bif (decide (x0.1 = 2)) then
  (joinO (fun (_ : Unit) =>
  some (decide ((x0.2.length : Int) ≤ 8))) fun j28 =>
  (fixF (M_i_DecOk_L1 x0 j28) FUEL 0))
  else
  (joinO (fun (x35 : Bool) =>
  (bif x35 then
  some (decide ((x0.2.length : Int) = 0))
  else
  j43 ())) fun j36 =>
  (bif (decide (x0.1 = 1)) then
  j36 (decide (x0.1 = 1))
  else
  (bif (decide (x0.1 = 3)) then
  j36 (decide (x0.1 = 3))
  else
  j36 (decide (x0.1 = 4))))))))

theorem ok_i_DecOk (x0 : Int × List UInt8) (a2 : Option Addr) (c3 : Nat) (l4 : Nat) (hl5 : x0.2.length = l4) (r : Bool) (h : M_i_DecOk x0 = some r) :
    FC Tryd.prog 13 [.agg #[.int .i64 x0.1, .slice a2 l4 c3]] [⟨.byte, ⟨a2, l4, c3⟩, x0.2⟩] (fun _ : Unit => True) (fun _ => .bool r) (fun _ => []) :=
  by
    subst hl5
    refine FC.of (T := TTx) Tryd.call13 Tryd.func13 rfl rfl fun w0 => ?_
    unfold M_i_DecOk at h
    refine JS.seq (JS.region (JO.regB ttOk 2 [] [2] [(1, .bp 2 0)] (.new 2 27 [.int .i64 x0.1, .slice a2 x0.2.length c3] .nil) rfl ⟨⟨rfl, trivial⟩, ⟨rfl, rfl, rfl, rfl, trivial⟩⟩ (JO.done rfl (JS.seq (JS.seq (JS.region (JO.reg ttOk 2 [] [] [(6, .v (.int .i64 x0.1))] _ rfl ⟨⟨rfl, trivial⟩, rfl⟩ (JO.done rfl ?_))))))))
    obtain ⟨j43, hj67, h⟩ := joinO_some h
    refine JS.blockJ (ι := Unit) ⟨fun _ => j43 () = some r, fun _ => [], fun _ => .nil, fun _ => [], fun _ => [], fun _ => 0⟩ ?_ ?_
    · refine JS.seq (JS.region (JO.reg ttOk 2 [] [] [(7, .v (.bool (decide (x0.1 = 0))))] _ rfl ⟨⟨rfl, trivial⟩, rfl⟩ (JO.done rfl ?_)))
      refine JS.cond rfl (fun ht66 => ?_) (fun ht66 => ?_)
      · have h := condT h ht66
        refine JS.seq (JS.region (JO.reg ttOk 7 [] [] [(13, .v (.bool (decide ((x0.2.length : Int) = 0)))), (15, .cd [(13, false)] (.v (.slice a2 x0.2.length c3)))] _ rfl ⟨⟨rfl, rfl, trivial⟩, rfl⟩ ?_))
        obtain ⟨y6, hy7, -, h⟩ := callO_some h
        refine JO.callg rfl rfl rfl rfl (fun q56 => ok_i_RuneBegin x0.2 a2 c3 x0.2.length rfl _ (hy7 q56)) rfl [0] rfl rfl (JO.reg ttOk 2 [] [] [(2, .v (.bool (bif (decide ((x0.2.length : Int) = 0)) then true else y6)))] _ rfl ⟨⟨rfl, trivial⟩, rfl⟩ (JO.done rfl ?_))
        cases h
        exact JS.ret ttOk () trivial rfl rfl [] rfl
      have h := condF h ht66
      refine JS.seq (JS.region (JO.reg ttOk 2 [] [] [(18, .v (.bool (decide (x0.1 = 2))))] _ rfl ⟨⟨rfl, trivial⟩, rfl⟩ (JO.done rfl ?_)))
      refine JS.cond rfl (fun ht65 => ?_) (fun ht65 => ?_)
      · have h := condT h ht65
        refine JS.seq (JS.seq (JS.region (JO.reg ttOk 4 [] [] [(21, .v (.slice a2 x0.2.length c3)), (22, .v (.int .i64 (x0.2.length : Int))), (23, .v (.int .i64 0))] _ rfl ⟨⟨rfl, rfl, rfl, trivial⟩, rfl⟩ (JO.done rfl ?_))))
        obtain ⟨j28, hj60, h⟩ := joinO_some h
        refine JS.blockJ (ι := Unit) ⟨fun _ => j28 () = some r, fun _ => [(1, .bp 2 0)], fun _ => (.new 2 27 [.int .i64 x0.1, .slice a2 x0.2.length c3] .nil), fun _ => [⟨.byte, ⟨a2, x0.2.length, c3⟩, x0.2⟩], fun _ => [], fun _ => 0⟩ ?_ ?_
        · refine JS.loop (ι := Nat × Int) ⟨fun z => fixF (M_i_DecOk_L1 x0 j28) z.1 z.2 = some r, fun z => [(1, .bp 2 0), (21, .v (.slice a2 x0.2.length c3)), (22, .v (.int .i64 (x0.2.length : Int))), (23, .v (.int .i64 z.2))], fun z => (.new 2 27 [.int .i64 x0.1, .slice a2 x0.2.length c3] .nil), fun z => [⟨.byte, ⟨a2, x0.2.length, c3⟩, x0.2⟩], fun z => [], fun z => z.1⟩ (FUEL, 0) h ⟨rfl, rfl, rfl, rfl, trivial⟩ ⟨rfl, rfl, rfl, rfl, trivial⟩ [0] rfl [] rfl ?_
          rintro ⟨n24, x9⟩ h
          obtain ⟨n24, rfl, h⟩ := fixF_some h
          rw [M_i_DecOk_L1] at h
          refine JS.seq (JS.region (JO.reg ttOk 1 [] [] [(24, .v (.bool (decide (x9 < (x0.2.length : Int)))))] _ rfl ⟨⟨rfl, trivial⟩, rfl⟩ (JO.done rfl (JS.seq ?_))))
          refine JS.cond rfl (fun ht59 => ?_) (fun ht59 => ?_)
          · have h := condT h ht59
            refine JS.skip (JS.seq (JS.block (JS.seq (JS.region (JO.know 0 rfl fun hs57 => ?_)))))
            obtain ⟨g15, h⟩ := guardO_some h
            refine JO.reg ttOk 1 [] [] [(25, .ep ⟨a2, x0.2.length, c3⟩ (Int.toNat x9 * 1))] _ rfl ⟨hs57.ix g15, ⟨rfl, trivial⟩, rfl⟩ (JO.load ttOk rfl rfl rfl rfl rfl rfl rfl 0 rfl rfl (Int.toNat x9) 0 (at' x0.2 x9) ⟨at_some g15, rfl⟩ rfl rfl (JO.reg ttOk 1 [] [] [(4, .v (.int .u8 ((at' x0.2 x9).toNat : Int)))] _ rfl ⟨⟨rfl, trivial⟩, rfl⟩ (JO.done rfl (JS.seq (JS.region (JO.reg ttOk 2 [((at' x0.2 x9).toNat : Int)] [] [(28, .v (.int .i64 ((at' x0.2 x9).toNat : Int)))] _ rfl ⟨⟨trivial, W_byte _⟩, ⟨rfl, trivial⟩, rfl⟩ ?_))))))
            obtain ⟨y16, hy17, h⟩ := bindO_some h
            refine JO.call rfl rfl rfl rfl (ok_i_isDigit ((at' x0.2 x9).toNat : Int) _ hy17) rfl [] rfl rfl fun _ _ => JO.reg ttOk 5 [] [] [(34, .v (.bool (bif (!y16) then (!(decide (((at' x0.2 x9).toNat : Int) = (59 : Int)))) else false)))] _ rfl ⟨⟨rfl, trivial⟩, rfl⟩ (JO.done rfl ?_)
            refine JS.cond rfl (fun ht58 => ?_) (fun ht58 => ?_)
            · have h := condT h ht58
              refine JS.seq (JS.region (JO.reg ttOk 1 [] [] [(2, .v (.bool false))] _ rfl ⟨⟨rfl, trivial⟩, rfl⟩ (JO.done rfl ?_)))
              cases h
              exact JS.ret ttOk () trivial rfl rfl [] rfl
            have h := condF h ht58
            refine JS.skip (JS.endB (JS.region (JO.reg ttOk 2 [(W (x9 + 1))] [] [(23, .v (.int .i64 (W (x9 + 1))))] _ rfl ⟨⟨trivial, rfl⟩, ⟨rfl, trivial⟩, rfl⟩ (JO.done rfl (JS.endL (n24, (W (x9 + 1))) h (Nat.lt_succ_self _) ⟨rfl, rfl, rfl, rfl, trivial⟩ ⟨rfl, rfl, rfl, rfl, trivial⟩ [0] rfl [] rfl)))))
          have h := condF h ht59
          refine JS.exit rfl (JS.endJ () h ⟨rfl, trivial⟩ ⟨rfl, rfl, rfl, rfl, trivial⟩ [0] rfl [] rfl)
        rintro _ h
        subst hj60
        refine JS.seq (JS.region (JO.reg ttOk 5 [] [] [(2, .v (.bool (decide ((x0.2.length : Int) ≤ 8))))] _ rfl ⟨⟨rfl, trivial⟩, rfl⟩ (JO.done rfl ?_)))
        cases h
        exact JS.ret ttOk () trivial rfl rfl [] rfl
      have h := condF h ht65
      obtain ⟨j36, hj64, h⟩ := joinO_some h
      refine JS.seqJ (ι := Bool) ⟨fun z => j36 z = some r, fun z => [(1, .bp 2 0), (40, .v (.bool z))], fun z => (.new 2 27 [.int .i64 x0.1, .slice a2 x0.2.length c3] .nil), fun z => [⟨.byte, ⟨a2, x0.2.length, c3⟩, x0.2⟩], fun z => [], fun z => 0⟩ ?_ ?_
      · refine JS.seq (JS.region (JO.reg ttOk 2 [] [] [(40, .v (.bool (decide (x0.1 = 1))))] _ rfl ⟨⟨rfl, trivial⟩, rfl⟩ (JO.done rfl ?_)))
        refine JS.cond rfl (fun ht62 => ?_) (fun ht62 => ?_)
        · have h := condT h ht62
          refine JS.skip (JS.endJ (decide (x0.1 = 1)) h ⟨rfl, rfl, trivial⟩ ⟨rfl, rfl, rfl, rfl, trivial⟩ [0] rfl [] rfl)
        have h := condF h ht62
        refine JS.seq (JS.region (JO.reg ttOk 2 [] [] [(40, .v (.bool (decide (x0.1 = 3))))] _ rfl ⟨⟨rfl, trivial⟩, rfl⟩ (JO.done rfl ?_)))
        refine JS.cond rfl (fun ht61 => ?_) (fun ht61 => ?_)
        · have h := condT h ht61
          refine JS.skip (JS.endJ (decide (x0.1 = 3)) h ⟨rfl, rfl, trivial⟩ ⟨rfl, rfl, rfl, rfl, trivial⟩ [0] rfl [] rfl)
        have h := condF h ht61
        refine JS.region (JO.reg ttOk 2 [] [] [(40, .v (.bool (decide (x0.1 = 4))))] _ rfl ⟨⟨rfl, trivial⟩, rfl⟩ (JO.done rfl (JS.endJ (decide (x0.1 = 4)) h ⟨rfl, rfl, trivial⟩ ⟨rfl, rfl, rfl, rfl, trivial⟩ [0] rfl [] rfl)))
      rintro x35 h
      subst hj64
      refine JS.cond rfl (fun ht63 => ?_) (fun ht63 => ?_)
      · have h := condT h ht63
        refine JS.seq (JS.region (JO.reg ttOk 5 [] [] [(2, .v (.bool (decide ((x0.2.length : Int) = 0))))] _ rfl ⟨⟨rfl, trivial⟩, rfl⟩ (JO.done rfl ?_)))
        cases h
        exact JS.ret ttOk () trivial rfl rfl [] rfl
      have h := condF h ht63
      refine JS.skip (JS.endB (JS.endJ () h trivial trivial [] rfl [] rfl))
    rintro _ h
    subst hj67
    refine JS.seq (JS.region (JO.reg ttOk 1 [] [] [(2, .v (.bool false))] _ rfl ⟨⟨rfl, trivial⟩, rfl⟩ (JO.done rfl ?_)))
    cases h
    exact JS.ret ttOk () trivial rfl rfl [] rfl

def M_i_copyBytes (x0 : List UInt8) : Option (List UInt8) :=
  (guardO (([] : List UInt8).length + x0.length ≤ 536870912) <|
  some (([] : List UInt8) ++ x0))

theorem ok_i_copyBytes (x0 : List UInt8) (a2 : Option Addr) (c3 : Nat) (l4 : Nat) (hl5 : x0.length = l4) (r : List UInt8) (h : M_i_copyBytes x0 = some r) :
    FC Tryd.prog 14 [.slice a2 l4 c3] [⟨.byte, ⟨a2, l4, c3⟩, x0⟩] (fun _ : Option Addr × Nat => True) (fun q => .slice q.1 r.length q.2) (fun q => [⟨.byte, ⟨q.1, r.length, q.2⟩, r⟩]) :=
  by
    subst hl5
    refine FC.of (T := TTx) Tryd.call14 Tryd.func14 rfl rfl fun w0 => ?_
    unfold M_i_copyBytes at h
    refine JS.seq (JS.region (JO.reg ttOk 1 [] [] [] _ rfl ⟨trivial, rfl⟩ (JO.done rfl (JS.seq (JS.region (JO.reg ttOk 1 [] [] [(3, .v (.slice a2 x0.length c3))] _ rfl ⟨⟨rfl, trivial⟩, rfl⟩ ?_))))))
    obtain ⟨g6, h⟩ := guardO_some h
    refine JO.nilO .byte Sl.nil rfl rfl (JO.appendR' ttOk rfl rfl rfl rfl ⟨rfl, rfl, rfl, rfl, trivial, rfl, rfl, rfl, rfl⟩ rfl rfl rfl [0] rfl 0 rfl g6 rfl fun a7 c8 => JO.reg ttOk 1 [] [] [(2, .v (.slice a7 (([] : List UInt8) ++ x0).length c8))] _ rfl ⟨⟨rfl, trivial⟩, rfl⟩ (JO.done rfl ?_))
    cases h
    exact JS.ret ttOk (a7, c8) trivial rfl rfl [0] rfl

def M_i_bad : Option (Int × Int) :=
  some (16, 0)

theorem ok_i_bad (r : Int × Int) (h : M_i_bad = some r) :
    FC Tryd.prog 17 [] [] (fun _ : Unit => True) (fun _ => .agg #[.int .i64 r.1, .int .i64 r.2]) (fun _ => []) :=
  by
    refine FC.of (T := TTx) Tryd.call17 Tryd.func17 rfl rfl fun w0 => ?_
    unfold M_i_bad at h
    refine JS.seq (JS.region (JO.regB ttOk 1 [] [1] [(0, .bp 1 0)] (.new 1 24 [.int .i64 0, .int .i64 0] .nil) rfl ⟨⟨rfl, trivial⟩, ⟨rfl, rfl, rfl, rfl, trivial⟩⟩ (JO.done rfl (JS.seq (JS.region (JO.regB ttOk 2 [] [] [] (.new 1 24 [.int .i64 16, .int .i64 0] .nil) rfl ⟨trivial, ⟨rfl, rfl, rfl, rfl, trivial⟩⟩ (JO.done rfl ?_)))))))
    cases h
    exact JS.ret ttOk () trivial rfl rfl [] rfl

def M_i_arrow_L1 (x0 : Int) (j14 : Unit → Option (Int × Int)) (k10 : Int → Option (Int × Int)) : Int → Option (Int × Int) := fun x2 =>
  (bif (decide (x2 < 6)) then
  (guardO (0 ≤ x2 ∧ x2 < (([65, 66, 67, 68, 72, 70] : List UInt8).length : Int)) <|
  (bif (decide (((at' ([65, 66, 67, 68, 72, 70] : List UInt8) x2).toNat : Int) = x0)) then
  some ((W (8 + x2)), 0)
  else
  k10 (W (x2 + 1))))
  else
  j14 ())

def M_i_arrow (x0 : Int) : Option (Int × Int) :=
  (joinO (fun (_ : Unit) =>
  (bindO (M_i_bad ) fun (y17 : Int × Int) =>
  some y17)) fun j14 =>
  (fixF (M_i_arrow_L1 x0 j14) FUEL 0))

theorem ok_i_arrow (x0 : Int) (r : Int × Int) (h : M_i_arrow x0 = some r) :
    FC Tryd.prog 31 [.int .i64 x0] [] (fun _ : Unit => True) (fun _ => .agg #[.int .i64 r.1, .int .i64 r.2]) (fun _ => []) :=
  by
    refine FC.of (T := TTx) Tryd.call31 Tryd.func31 rfl rfl fun w0 => ?_
    unfold M_i_arrow at h
    refine JS.seq (JS.region (JO.regB ttOk 1 [] [1] [(2, .bp 1 0)] (.new 1 24 [.int .i64 0, .int .i64 0] .nil) rfl ⟨⟨rfl, trivial⟩, ⟨rfl, rfl, rfl, rfl, trivial⟩⟩ (JO.done rfl (JS.seq (JS.seq (JS.region (JO.reg ttOk 1 [] [] [(4, .v (.int .i64 0))] _ rfl ⟨⟨rfl, trivial⟩, rfl⟩ (JO.done rfl ?_))))))))
    obtain ⟨j14, hj22, h⟩ := joinO_some h
    refine JS.blockJ (ι := Unit) ⟨fun _ => j14 () = some r, fun _ => [(2, .bp 1 0)], fun _ => (.new 1 24 [.int .i64 0, .int .i64 0] .nil), fun _ => [], fun _ => [], fun _ => 0⟩ ?_ ?_
    · refine JS.loop (ι := Nat × Int) ⟨fun z => fixF (M_i_arrow_L1 x0 j14) z.1 z.2 = some r, fun z => [(0, .v (.int .i64 x0)), (2, .bp 1 0), (4, .v (.int .i64 z.2))], fun z => (.new 1 24 [.int .i64 0, .int .i64 0] .nil), fun z => [], fun z => [], fun z => z.1⟩ (FUEL, 0) h ⟨rfl, rfl, rfl, trivial⟩ ⟨rfl, rfl, rfl, rfl, trivial⟩ [] rfl [] rfl ?_
      rintro ⟨n11, x2⟩ h
      obtain ⟨n11, rfl, h⟩ := fixF_some h
      rw [M_i_arrow_L1] at h
      refine JS.seq (JS.region (JO.reg ttOk 1 [] [] [(5, .v (.bool (decide (x2 < 6))))] _ rfl ⟨⟨rfl, trivial⟩, rfl⟩ (JO.done rfl (JS.seq ?_))))
      refine JS.cond rfl (fun ht21 => ?_) (fun ht21 => ?_)
      · have h := condT h ht21
        refine JS.skip (JS.seq (JS.block (JS.seq (JS.region (JO.reg ttOk 2 [] [] [(3, .v (.int .i64 x2))] _ rfl ⟨⟨rfl, trivial⟩, rfl⟩ (JO.done rfl (JS.seq (JS.region ?_))))))))
        obtain ⟨g5, h⟩ := guardO_some h
        refine JO.reg ttOk 5 [((at' ([65, 66, 67, 68, 72, 70] : List UInt8) x2).toNat : Int)] [] [(11, .v (.bool (decide (((at' ([65, 66, 67, 68, 72, 70] : List UInt8) x2).toNat : Int) = x0))))] _ rfl ⟨g5, ⟨trivial, W_byte _⟩, ⟨rfl, trivial⟩, rfl⟩ (JO.done rfl ?_)
        refine JS.cond rfl (fun ht20 => ?_) (fun ht20 => ?_)
        · have h := condT h ht20
          refine JS.seq (JS.region (JO.regB ttOk 4 [(W (8 + x2))] [] [] (.new 1 24 [.int .i64 (W (8 + x2)), .int .i64 0] .nil) rfl ⟨⟨trivial, rfl⟩, trivial, ⟨rfl, rfl, rfl, rfl, trivial⟩⟩ (JO.done rfl ?_)))
          cases h
          exact JS.ret ttOk () trivial rfl rfl [] rfl
        have h := condF h ht20
        refine JS.skip (JS.endB (JS.region (JO.reg ttOk 2 [(W (x2 + 1))] [] [(4, .v (.int .i64 (W (x2 + 1))))] _ rfl ⟨⟨trivial, rfl⟩, ⟨rfl, trivial⟩, rfl⟩ (JO.done rfl (JS.endL (n11, (W (x2 + 1))) h (Nat.lt_succ_self _) ⟨rfl, rfl, rfl, trivial⟩ ⟨rfl, rfl, rfl, rfl, trivial⟩ [] rfl [] rfl)))))
      have h := condF h ht21
      refine JS.exit rfl (JS.endJ () h ⟨rfl, trivial⟩ ⟨rfl, rfl, rfl, rfl, trivial⟩ [] rfl [] rfl)
    rintro _ h
    subst hj22
    refine JS.seq (JS.region ?_)
    obtain ⟨y17, hy18, h⟩ := bindO_some h
    refine JO.call rfl rfl rfl rfl (ok_i_bad  _ hy18) rfl [] rfl rfl fun _ _ => JO.regB ttOk 1 [] [] [] (.new 1 24 [.int .i64 y17.1, .int .i64 y17.2] .nil) rfl ⟨trivial, ⟨rfl, rfl, rfl, rfl, trivial⟩⟩ (JO.done rfl ?_)
    cases h
    exact JS.ret ttOk () trivial rfl rfl [] rfl

def M_i_decCsi (x0 : List UInt8) (x1 : Int) : Option ((Int × List UInt8) × List (Int × Int)) :=
  (bindO (M_i_isDigit x1) fun (y7 : Bool) =>
  (bif (bif y7 then true else (decide (x1 = 59))) then
  (bif (decide (8 ≤ (x0.length : Int))) then
  (bindO (M_i_bad ) fun (y9 : Int × Int) =>
  some ((4, []), ([y9] : List (Int × Int))))
  else
  (bindO (M_i_copyBytes x0) fun (y12 : List UInt8) =>
  (guardO (y12.length + ([(u8 (x1))] : List UInt8).length ≤ 536870912) <|
  some ((2, (y12 ++ ([(u8 (x1))] : List UInt8))), []))))
  else
  (bif (decide (x1 = 27)) then
  (bindO (M_i_bad ) fun (y21 : Int × Int) =>
  some ((1, []), ([y21] : List (Int × Int))))
  else
  (bif (decide ((x0.length : Int) = 0)) then
  (bindO (M_i_arrow x1) fun (y24 : Int × Int) =>
  some ((0, []), ([y24] : List (Int × Int))))
  else
  (joinO (fun (_ : Unit) =>
  (bindO (M_i_bad ) fun (y53 : Int × Int) =>
  some ((0, []), ([y53] : List (Int × Int))))) fun j44 =>
  (bif (decide (x1 = 126)) then
  (bif (decide (x0 = ([51] : List UInt8))) then
  some ((0, []), ([(14, 0)] : List (Int × Int)))
  else
  (joinO (fun (x29 : Bool) =>
  (bif x29 then
  some ((0, []), ([(12, 0)] : List (Int × Int)))
  else
  (joinO (fun (x34 : Bool) =>
  (bif x34 then
  some ((0, []), ([(13, 0)] : List (Int × Int)))
  else
  j44 ())) fun j35 =>
  (bif (decide (x0 = ([52] : List UInt8))) then
  j35 (decide (x0 = ([52] : List UInt8)))
  else
  j35 (decide (x0 = ([56] : List UInt8))))))) fun j30 =>
  (bif (decide (x0 = ([49] : List UInt8))) then
  j30 (decide (x0 = ([49] : List UInt8)))
  else
  j30 (decide (x0 = ([55] : List UInt8))))))
  else
  j44 ()))))))

theorem ok_i_decCsi (x0 : List UInt8) (x1 : Int) (a3 : Option Addr) (c4 : Nat) (l5 : Nat) (hl6 : x0.length = l5) (r : (Int × List UInt8) × List (Int × Int)) (h : M_i_decCsi x0 x1 = some r) :
    FC Tryd.prog 30 [.slice a3 l5 c4, .int .i64 x1] [⟨.byte, ⟨a3, l5, c4⟩, x0⟩] (fun _ : Option Addr × Nat × Option Addr × Nat => True) (fun q => .tuple #[.agg #[.int .i64 r.1.1, .slice q.1 r.1.2.length q.2.1], .slice q.2.2.1 r.2.length q.2.2.2]) (fun q => [⟨.byte, ⟨q.1, r.1.2.length, q.2.1⟩, r.1.2⟩, ⟨(.pair (.int .i64) (.int .i64)), ⟨q.2.2.1, r.2.length, q.2.2.2⟩, r.2⟩]) :=
  by
    subst hl6
    refine FC.of (T := TTx) Tryd.call30 Tryd.func30 rfl rfl fun w0 => ?_
    unfold M_i_decCsi at h
    refine JS.seq (JS.region (JO.regB ttOk 2 [] [2] [(4, .bp 2 0)] (.new 2 27 [.int .i64 0, .slice none 0 0] .nil) rfl ⟨⟨rfl, trivial⟩, ⟨rfl, rfl, rfl, rfl, trivial⟩⟩ (JO.done rfl (JS.seq (JS.block (JS.seq (JS.region (JO.reg ttOk 1 [] [] [(7, .v (.int .i64 x1))] _ rfl ⟨⟨rfl, trivial⟩, rfl⟩ ?_))))))))
    obtain ⟨y7, hy8, h⟩ := bindO_some h
    refine JO.call rfl rfl rfl rfl (ok_i_isDigit x1 _ hy8) rfl [] rfl rfl fun _ _ => JO.reg ttOk 5 [] [] [(6, .v (.bool (bif y7 then true else (decide (x1 = 59)))))] _ rfl ⟨⟨rfl, trivial⟩, rfl⟩ (JO.done rfl ?_)
    refine JS.cond rfl (fun ht72 => ?_) (fun ht72 => ?_)
    · have h := condT h ht72
      refine JS.seq (JS.seq (JS.region (JO.reg ttOk 3 [] [] [(15, .v (.bool (decide (8 ≤ (x0.length : Int)))))] _ rfl ⟨⟨rfl, trivial⟩, rfl⟩ (JO.done rfl ?_))))
      refine JS.cond rfl (fun ht60 => ?_) (fun ht60 => ?_)
      · have h := condT h ht60
        refine JS.seq (JS.region (JO.reg ttOk 1 [] [] [(16, .v (.agg #[.int .i64 4, .slice none 0 0]))] _ rfl ⟨⟨rfl, trivial⟩, rfl⟩ ?_))
        obtain ⟨y9, hy10, h⟩ := bindO_some h
        refine JO.call rfl rfl rfl rfl (ok_i_bad  _ hy10) rfl [] rfl rfl fun _ _ => ?_
        refine JO.ofK rfl (JK.buildSlice ttOk rfl rfl rfl rfl rfl rfl rfl rfl rfl rfl rfl [] rfl (.pair (.int .i64) (.int .i64)) [y9] ⟨rfl, rfl⟩ rfl rfl fun a11 => JO.toK ?_)
        refine JO.regB ttOk 2 [] [] [(5, .v (.slice a11 ([y9] : List (Int × Int)).length ([y9] : List (Int × Int)).length))] (.new 2 27 [.int .i64 4, .slice none 0 0] .nil) rfl ⟨⟨rfl, trivial⟩, ⟨rfl, rfl, rfl, rfl, trivial⟩⟩ (JO.done rfl ?_)
        cases h
        refine JS.nilO .byte Sl.nil rfl rfl (JS.ret ttOk (none, 0, a11, ([y9] : List (Int × Int)).length) trivial rfl rfl [0, 0] rfl)
      have h := condF h ht60
      refine JS.skip (JS.seq (JS.region (JO.reg ttOk 1 [] [] [(19, .v (.slice a3 x0.length c4))] _ rfl ⟨⟨rfl, trivial⟩, rfl⟩ ?_)))
      obtain ⟨y12, hy13, h⟩ := bindO_some h
      refine JO.call rfl rfl rfl rfl (ok_i_copyBytes x0 a3 c4 x0.length rfl _ hy13) rfl [0] rfl rfl ?_
      rintro ⟨a14, c15⟩ -
      refine JO.reg ttOk 2 [((u8 (x1)).toNat : Int)] [] [(22, .v (.int .u8 ((u8 (x1)).toNat : Int)))] _ rfl ⟨⟨trivial, u8_wrap _⟩, ⟨rfl, trivial⟩, rfl⟩ ?_
      refine JO.ofK rfl (JK.buildSlice ttOk rfl rfl rfl rfl rfl rfl rfl rfl rfl rfl rfl [] rfl .byte [(u8 (x1))] ⟨rfl, rfl⟩ rfl rfl fun a16 => JO.toK ?_)
      obtain ⟨g17, h⟩ := guardO_some h
      refine JO.appendR' ttOk rfl rfl rfl rfl ⟨rfl, rfl, rfl, rfl, trivial, rfl, rfl, rfl, rfl⟩ rfl rfl rfl [1] rfl 1 rfl g17 rfl fun a18 c19 => JO.regB ttOk 3 [] [] [(5, .v (.slice none 0 0))] (.new 2 27 [.int .i64 2, .slice a18 (y12 ++ ([(u8 (x1))] : List UInt8)).length c19] .nil) rfl ⟨⟨rfl, trivial⟩, ⟨rfl, rfl, rfl, rfl, trivial⟩⟩ (JO.done rfl ?_)
      cases h
      refine JS.nilO (.pair (.int .i64) (.int .i64)) Sl.nil rfl rfl (JS.ret ttOk (a18, c19, none, 0) trivial rfl rfl [1, 0] rfl)
    have h := condF h ht72
    refine JS.seq (JS.region (JO.reg ttOk 3 [] [] [(26, .v (.bool (decide (x1 = 27))))] _ rfl ⟨⟨rfl, trivial⟩, rfl⟩ (JO.done rfl ?_)))
    refine JS.cond rfl (fun ht71 => ?_) (fun ht71 => ?_)
    · have h := condT h ht71
      refine JS.seq (JS.region (JO.reg ttOk 1 [] [] [(29, .v (.agg #[.int .i64 1, .slice none 0 0]))] _ rfl ⟨⟨rfl, trivial⟩, rfl⟩ ?_))
      obtain ⟨y21, hy22, h⟩ := bindO_some h
      refine JO.call rfl rfl rfl rfl (ok_i_bad  _ hy22) rfl [] rfl rfl fun _ _ => ?_
      refine JO.ofK rfl (JK.buildSlice ttOk rfl rfl rfl rfl rfl rfl rfl rfl rfl rfl rfl [] rfl (.pair (.int .i64) (.int .i64)) [y21] ⟨rfl, rfl⟩ rfl rfl fun a23 => JO.toK ?_)
      refine JO.regB ttOk 2 [] [] [(5, .v (.slice a23 ([y21] : List (Int × Int)).length ([y21] : List (Int × Int)).length))] (.new 2 27 [.int .i64 1, .slice none 0 0] .nil) rfl ⟨⟨rfl, trivial⟩, ⟨rfl, rfl, rfl, rfl, trivial⟩⟩ (JO.done rfl ?_)
      cases h
      refine JS.nilO .byte Sl.nil rfl rfl (JS.ret ttOk (none, 0, a23, ([y21] : List (Int × Int)).length) trivial rfl rfl [0, 0] rfl)
    have h := condF h ht71
    refine JS.seq (JS.region (JO.reg ttOk 4 [] [] [(32, .v (.bool (decide ((x0.length : Int) = 0))))] _ rfl ⟨⟨rfl, trivial⟩, rfl⟩ (JO.done rfl ?_)))
    refine JS.cond rfl (fun ht70 => ?_) (fun ht70 => ?_)
    · have h := condT h ht70
      refine JS.seq (JS.region (JO.reg ttOk 2 [] [] [(36, .v (.agg #[.int .i64 0, .slice none 0 0])), (37, .v (.int .i64 x1))] _ rfl ⟨⟨rfl, rfl, trivial⟩, rfl⟩ ?_))
      obtain ⟨y24, hy25, h⟩ := bindO_some h
      refine JO.call rfl rfl rfl rfl (ok_i_arrow x1 _ hy25) rfl [] rfl rfl fun _ _ => ?_
      refine JO.ofK rfl (JK.buildSlice ttOk rfl rfl rfl rfl rfl rfl rfl rfl rfl rfl rfl [] rfl (.pair (.int .i64) (.int .i64)) [y24] ⟨rfl, rfl⟩ rfl rfl fun a26 => JO.toK ?_)
      refine JO.regB ttOk 2 [] [] [(5, .v (.slice a26 ([y24] : List (Int × Int)).length ([y24] : List (Int × Int)).length))] (.new 2 27 [.int .i64 0, .slice none 0 0] .nil) rfl ⟨⟨rfl, trivial⟩, ⟨rfl, rfl, rfl, rfl, trivial⟩⟩ (JO.done rfl ?_)
      cases h
      refine JS.nilO .byte Sl.nil rfl rfl (JS.ret ttOk (none, 0, a26, ([y24] : List (Int × Int)).length) trivial rfl rfl [0, 0] rfl)
    have h := condF h ht70
    refine JS.skip (JS.endB ?_)
    obtain ⟨j44, hj69, h⟩ := joinO_some h
    refine JS.seqJ (ι := Unit) ⟨fun _ => j44 () = some r, fun _ => [(4, .bp 2 0)], fun _ => (.new 2 27 [.int .i64 0, .slice none 0 0] .nil), fun _ => [], fun _ => [], fun _ => 0⟩ ?_ ?_
    · refine JS.seq (JS.region (JO.reg ttOk 2 [] [] [(41, .v (.bool (decide (x1 = 126))))] _ rfl ⟨⟨rfl, trivial⟩, rfl⟩ (JO.done rfl ?_)))
      refine JS.cond rfl (fun ht68 => ?_) (fun ht68 => ?_)
      · have h := condT h ht68
        refine JS.seq (JS.region (JO.reg ttOk 1 [] [] [(42, .v (.slice a3 x0.length c4))] _ rfl ⟨⟨rfl, trivial⟩, rfl⟩ (JO.strOf ttOk rfl rfl rfl rfl rfl rfl rfl rfl 0 rfl rfl (JO.done rfl (JS.block (JS.seq (JS.region (JO.reg ttOk 2 [] [] [(44, .v (.bool (decide (x0 = ([51] : List UInt8)))))] _ rfl ⟨⟨rfl, trivial⟩, rfl⟩ (JO.done rfl ?_)))))))))
        refine JS.cond rfl (fun ht67 => ?_) (fun ht67 => ?_)
        · have h := condT h ht67
          refine JS.seq (JS.region (JO.reg ttOk 2 [] [] [(46, .v (.agg #[.int .i64 0, .slice none 0 0])), (47, .v (.agg #[.int .i64 14, .int .i64 0]))] _ rfl ⟨⟨rfl, rfl, trivial⟩, rfl⟩ ?_))
          refine JO.ofK rfl (JK.buildSlice ttOk rfl rfl rfl rfl rfl rfl rfl rfl rfl rfl rfl [] rfl (.pair (.int .i64) (.int .i64)) [(14, 0)] ⟨rfl, rfl⟩ rfl rfl fun a27 => JO.toK ?_)
          refine JO.regB ttOk 2 [] [] [(5, .v (.slice a27 ([(14, 0)] : List (Int × Int)).length ([(14, 0)] : List (Int × Int)).length))] (.new 2 27 [.int .i64 0, .slice none 0 0] .nil) rfl ⟨⟨rfl, trivial⟩, ⟨rfl, rfl, rfl, rfl, trivial⟩⟩ (JO.done rfl ?_)
          cases h
          refine JS.nilO .byte Sl.nil rfl rfl (JS.ret ttOk (none, 0, a27, ([(14, 0)] : List (Int × Int)).length) trivial rfl rfl [0, 0] rfl)
        have h := condF h ht67
        obtain ⟨j30, hj66, h⟩ := joinO_some h
        refine JS.seqJ (ι := Bool) ⟨fun z => j30 z = some r, fun z => [(4, .bp 2 0), (43, .v (.string (bs x0))), (49, .v (.bool z))], fun z => (.new 2 27 [.int .i64 0, .slice none 0 0] .nil), fun z => [], fun z => [], fun z => 0⟩ ?_ ?_
        · refine JS.seq (JS.region (JO.reg ttOk 2 [] [] [(49, .v (.bool (decide (x0 = ([49] : List UInt8)))))] _ rfl ⟨⟨rfl, trivial⟩, rfl⟩ (JO.done rfl ?_)))
          refine JS.cond rfl (fun ht61 => ?_) (fun ht61 => ?_)
          · have h := condT h ht61
            refine JS.skip (JS.endJ (decide (x0 = ([49] : List UInt8))) h ⟨rfl, rfl, rfl, trivial⟩ ⟨rfl, rfl, rfl, rfl, trivial⟩ [] rfl [] rfl)
          have h := condF h ht61
          refine JS.region (JO.reg ttOk 2 [] [] [(49, .v (.bool (decide (x0 = ([55] : List UInt8)))))] _ rfl ⟨⟨rfl, trivial⟩, rfl⟩ (JO.done rfl (JS.endJ (decide (x0 = ([55] : List UInt8))) h ⟨rfl, rfl, rfl, trivial⟩ ⟨rfl, rfl, rfl, rfl, trivial⟩ [] rfl [] rfl)))
        rintro x29 h
        subst hj66
        refine JS.cond rfl (fun ht65 => ?_) (fun ht65 => ?_)
        · have h := condT h ht65
          refine JS.seq (JS.region (JO.reg ttOk 2 [] [] [(52, .v (.agg #[.int .i64 0, .slice none 0 0])), (53, .v (.agg #[.int .i64 12, .int .i64 0]))] _ rfl ⟨⟨rfl, rfl, trivial⟩, rfl⟩ ?_))
          refine JO.ofK rfl (JK.buildSlice ttOk rfl rfl rfl rfl rfl rfl rfl rfl rfl rfl rfl [] rfl (.pair (.int .i64) (.int .i64)) [(12, 0)] ⟨rfl, rfl⟩ rfl rfl fun a32 => JO.toK ?_)
          refine JO.regB ttOk 2 [] [] [(5, .v (.slice a32 ([(12, 0)] : List (Int × Int)).length ([(12, 0)] : List (Int × Int)).length))] (.new 2 27 [.int .i64 0, .slice none 0 0] .nil) rfl ⟨⟨rfl, trivial⟩, ⟨rfl, rfl, rfl, rfl, trivial⟩⟩ (JO.done rfl ?_)
          cases h
          refine JS.nilO .byte Sl.nil rfl rfl (JS.ret ttOk (none, 0, a32, ([(12, 0)] : List (Int × Int)).length) trivial rfl rfl [0, 0] rfl)
        have h := condF h ht65
        obtain ⟨j35, hj64, h⟩ := joinO_some h
        refine JS.seqJ (ι := Bool) ⟨fun z => j35 z = some r, fun z => [(4, .bp 2 0), (55, .v (.bool z))], fun z => (.new 2 27 [.int .i64 0, .slice none 0 0] .nil), fun z => [], fun z => [], fun z => 0⟩ ?_ ?_
        · refine JS.seq (JS.region (JO.reg ttOk 2 [] [] [(55, .v (.bool (decide (x0 = ([52] : List UInt8)))))] _ rfl ⟨⟨rfl, trivial⟩, rfl⟩ (JO.done rfl ?_)))
          refine JS.cond rfl (fun ht62 => ?_) (fun ht62 => ?_)
          · have h := condT h ht62
            refine JS.skip (JS.endJ (decide (x0 = ([52] : List UInt8))) h ⟨rfl, rfl, trivial⟩ ⟨rfl, rfl, rfl, rfl, trivial⟩ [] rfl [] rfl)
          have h := condF h ht62
          refine JS.region (JO.reg ttOk 2 [] [] [(55, .v (.bool (decide (x0 = ([56] : List UInt8)))))] _ rfl ⟨⟨rfl, trivial⟩, rfl⟩ (JO.done rfl (JS.endJ (decide (x0 = ([56] : List UInt8))) h ⟨rfl, rfl, trivial⟩ ⟨rfl, rfl, rfl, rfl, trivial⟩ [] rfl [] rfl)))
        rintro x34 h
        subst hj64
        refine JS.cond rfl (fun ht63 => ?_) (fun ht63 => ?_)
        · have h := condT h ht63
          refine JS.seq (JS.region (JO.reg ttOk 2 [] [] [(58, .v (.agg #[.int .i64 0, .slice none 0 0])), (59, .v (.agg #[.int .i64 13, .int .i64 0]))] _ rfl ⟨⟨rfl, rfl, trivial⟩, rfl⟩ ?_))
          refine JO.ofK rfl (JK.buildSlice ttOk rfl rfl rfl rfl rfl rfl rfl rfl rfl rfl rfl [] rfl (.pair (.int .i64) (.int .i64)) [(13, 0)] ⟨rfl, rfl⟩ rfl rfl fun a37 => JO.toK ?_)
          refine JO.regB ttOk 2 [] [] [(5, .v (.slice a37 ([(13, 0)] : List (Int × Int)).length ([(13, 0)] : List (Int × Int)).length))] (.new 2 27 [.int .i64 0, .slice none 0 0] .nil) rfl ⟨⟨rfl, trivial⟩, ⟨rfl, rfl, rfl, rfl, trivial⟩⟩ (JO.done rfl ?_)
          cases h
          refine JS.nilO .byte Sl.nil rfl rfl (JS.ret ttOk (none, 0, a37, ([(13, 0)] : List (Int × Int)).length) trivial rfl rfl [0, 0] rfl)
        have h := condF h ht63
        refine JS.skip (JS.endB (JS.endJ () h ⟨rfl, trivial⟩ ⟨rfl, rfl, rfl, rfl, trivial⟩ [] rfl [] rfl))
      have h := condF h ht68
      refine JS.skip (JS.endJ () h ⟨rfl, trivial⟩ ⟨rfl, rfl, rfl, rfl, trivial⟩ [] rfl [] rfl)
    rintro _ h
    subst hj69
    refine JS.seq (JS.region (JO.reg ttOk 1 [] [] [(61, .v (.agg #[.int .i64 0, .slice none 0 0]))] _ rfl ⟨⟨rfl, trivial⟩, rfl⟩ ?_))
    obtain ⟨y53, hy54, h⟩ := bindO_some h
    refine JO.call rfl rfl rfl rfl (ok_i_bad  _ hy54) rfl [] rfl rfl fun _ _ => ?_
    refine JO.ofK rfl (JK.buildSlice ttOk rfl rfl rfl rfl rfl rfl rfl rfl rfl rfl rfl [] rfl (.pair (.int .i64) (.int .i64)) [y53] ⟨rfl, rfl⟩ rfl rfl fun a55 => JO.toK ?_)
    refine JO.regB ttOk 2 [] [] [(5, .v (.slice a55 ([y53] : List (Int × Int)).length ([y53] : List (Int × Int)).length))] (.new 2 27 [.int .i64 0, .slice none 0 0] .nil) rfl ⟨⟨rfl, trivial⟩, ⟨rfl, rfl, rfl, rfl, trivial⟩⟩ (JO.done rfl ?_)
    cases h
    refine JS.nilO .byte Sl.nil rfl rfl (JS.ret ttOk (none, 0, a55, ([y53] : List (Int × Int)).length) trivial rfl rfl [0, 0] rfl)

def M_i_ByteKey (x0 : Int) : Option (Int × Int) :=
  (bindO (M_i_in x0 0 127) fun (y2 : Bool) =>
  (bif (!y2) then
  some (0, 0)
  else
  (bif (bif (decide (x0 = 8)) then true else (decide (x0 = 127))) then
  some (5, 0)
  else
  (bif (decide (x0 = 9)) then
  some (6, 0)
  else
  (bif (bif (decide (x0 = 10)) then true else (decide (x0 = 13))) then
  some (4, 0)
  else
  (bif (decide (x0 = 27)) then
  some (7, 0)
  else
  (bif (decide (x0 = 31)) then
  some (2, 95)
  else
  (bindO (M_i_in x0 1 26) fun (y4 : Bool) =>
  (bif y4 then
  some (2, (W (x0 + 96)))
  else
  (bif (decide (32 ≤ x0)) then
  some (1, x0)
  else
  some (16, 0)))))))))))

theorem ok_i_ByteKey (x0 : Int) (r : Int × Int) (h : M_i_ByteKey x0 = some r) :
    FC Tryd.prog 36 [.int .i64 x0] [] (fun _ : Unit => True) (fun _ => .agg #[.int .i64 r.1, .int .i64 r.2]) (fun _ => []) :=
  by
    refine FC.of (T := TTx) Tryd.call36 Tryd.func36 rfl rfl fun w0 => ?_
    unfold M_i_ByteKey at h
    refine JS.seq (JS.region (JO.regB ttOk 1 [] [1] [(2, .bp 1 0)] (.new 1 24 [.int .i64 0, .int .i64 0] .nil) rfl ⟨⟨rfl, trivial⟩, ⟨rfl, rfl, rfl, rfl, trivial⟩⟩ (JO.done rfl (JS.seq (JS.block (JS.seq (JS.region (JO.reg ttOk 1 [] [] [(4, .v (.int .i64 x0))] _ rfl ⟨⟨rfl, trivial⟩, rfl⟩ ?_))))))))
    obtain ⟨y2, hy3, h⟩ := bindO_some h
    refine JO.call rfl rfl rfl rfl (ok_i_in x0 0 127 _ hy3) rfl [] rfl rfl fun _ _ => JO.reg ttOk 2 [] [] [(3, .v (.bool (!y2)))] _ rfl ⟨⟨rfl, trivial⟩, rfl⟩ (JO.done rfl ?_)
    refine JS.cond rfl (fun ht21 => ?_) (fun ht21 => ?_)
    · have h := condT h ht21
      refine JS.seq (JS.region (JO.regB ttOk 2 [] [] [] (.new 1 24 [.int .i64 0, .int .i64 0] .nil) rfl ⟨trivial, ⟨rfl, rfl, rfl, rfl, trivial⟩⟩ (JO.done rfl ?_)))
      cases h
      exact JS.ret ttOk () trivial rfl rfl [] rfl
    have h := condF h ht21
    refine JS.seq (JS.region (JO.reg ttOk 7 [] [] [(8, .v (.bool (bif (decide (x0 = 8)) then true else (decide (x0 = 127)))))] _ rfl ⟨⟨rfl, trivial⟩, rfl⟩ (JO.done rfl ?_)))
    refine JS.cond rfl (fun ht20 => ?_) (fun ht20 => ?_)
    · have h := condT h ht20
      refine JS.seq (JS.region (JO.regB ttOk 2 [] [] [] (.new 1 24 [.int .i64 5, .int .i64 0] .nil) rfl ⟨trivial, ⟨rfl, rfl, rfl, rfl, trivial⟩⟩ (JO.done rfl ?_)))
      cases h
      exact JS.ret ttOk () trivial rfl rfl [] rfl
    have h := condF h ht20
    refine JS.seq (JS.region (JO.reg ttOk 3 [] [] [(16, .v (.bool (decide (x0 = 9))))] _ rfl ⟨⟨rfl, trivial⟩, rfl⟩ (JO.done rfl ?_)))
    refine JS.cond rfl (fun ht19 => ?_) (fun ht19 => ?_)
    · have h := condT h ht19
      refine JS.seq (JS.region (JO.regB ttOk 2 [] [] [] (.new 1 24 [.int .i64 6, .int .i64 0] .nil) rfl ⟨trivial, ⟨rfl, rfl, rfl, rfl, trivial⟩⟩ (JO.done rfl ?_)))
      cases h
      exact JS.ret ttOk () trivial rfl rfl [] rfl
    have h := condF h ht19
    refine JS.seq (JS.region (JO.reg ttOk 7 [] [] [(20, .v (.bool (bif (decide (x0 = 10)) then true else (decide (x0 = 13)))))] _ rfl ⟨⟨rfl, trivial⟩, rfl⟩ (JO.done rfl ?_)))
    refine JS.cond rfl (fun ht18 => ?_) (fun ht18 => ?_)
    · have h := condT h ht18
      refine JS.seq (JS.region (JO.regB ttOk 2 [] [] [] (.new 1 24 [.int .i64 4, .int .i64 0] .nil) rfl ⟨trivial, ⟨rfl, rfl, rfl, rfl, trivial⟩⟩ (JO.done rfl ?_)))
      cases h
      exact JS.ret ttOk () trivial rfl rfl [] rfl
    have h := condF h ht18
    refine JS.seq (JS.region (JO.reg ttOk 3 [] [] [(28, .v (.bool (decide (x0 = 27))))] _ rfl ⟨⟨rfl, trivial⟩, rfl⟩ (JO.done rfl ?_)))
    refine JS.cond rfl (fun ht17 => ?_) (fun ht17 => ?_)
    · have h := condT h ht17
      refine JS.seq (JS.region (JO.regB ttOk 2 [] [] [] (.new 1 24 [.int .i64 7, .int .i64 0] .nil) rfl ⟨trivial, ⟨rfl, rfl, rfl, rfl, trivial⟩⟩ (JO.done rfl ?_)))
      cases h
      exact JS.ret ttOk () trivial rfl rfl [] rfl
    have h := condF h ht17
    refine JS.seq (JS.region (JO.reg ttOk 3 [] [] [(32, .v (.bool (decide (x0 = 31))))] _ rfl ⟨⟨rfl, trivial⟩, rfl⟩ (JO.done rfl ?_)))
    refine JS.cond rfl (fun ht16 => ?_) (fun ht16 => ?_)
    · have h := condT h ht16
      refine JS.seq (JS.region (JO.regB ttOk 2 [] [] [] (.new 1 24 [.int .i64 2, .int .i64 95] .nil) rfl ⟨trivial, ⟨rfl, rfl, rfl, rfl, trivial⟩⟩ (JO.done rfl ?_)))
      cases h
      exact JS.ret ttOk () trivial rfl rfl [] rfl
    have h := condF h ht16
    refine JS.seq (JS.region (JO.reg ttOk 1 [] [] [(37, .v (.int .i64 x0))] _ rfl ⟨⟨rfl, trivial⟩, rfl⟩ ?_))
    obtain ⟨y4, hy5, h⟩ := bindO_some h
    refine JO.call rfl rfl rfl rfl (ok_i_in x0 1 26 _ hy5) rfl [] rfl rfl fun _ _ => JO.reg ttOk 1 [] [] [(36, .v (.bool y4))] _ rfl ⟨⟨rfl, trivial⟩, rfl⟩ (JO.done rfl ?_)
    refine JS.cond rfl (fun ht15 => ?_) (fun ht15 => ?_)
    · have h := condT h ht15
      refine JS.seq (JS.region (JO.regB ttOk 4 [(W (x0 + 96))] [] [] (.new 1 24 [.int .i64 2, .int .i64 (W (x0 + 96))] .nil) rfl ⟨⟨trivial, rfl⟩, trivial, ⟨rfl, rfl, rfl, rfl, trivial⟩⟩ (JO.done rfl ?_)))
      cases h
      exact JS.ret ttOk () trivial rfl rfl [] rfl
    have h := condF h ht15
    refine JS.seq (JS.region (JO.reg ttOk 3 [] [] [(42, .v (.bool (decide (32 ≤ x0))))] _ rfl ⟨⟨rfl, trivial⟩, rfl⟩ (JO.done rfl ?_)))
    refine JS.cond rfl (fun ht14 => ?_) (fun ht14 => ?_)
    · have h := condT h ht14
      refine JS.seq (JS.region (JO.regB ttOk 3 [] [] [] (.new 1 24 [.int .i64 1, .int .i64 x0] .nil) rfl ⟨trivial, ⟨rfl, rfl, rfl, rfl, trivial⟩⟩ (JO.done rfl ?_)))
      cases h
      exact JS.ret ttOk () trivial rfl rfl [] rfl
    have h := condF h ht14
    refine JS.skip (JS.endB (JS.seq (JS.region (JO.regB ttOk 2 [] [] [] (.new 1 24 [.int .i64 16, .int .i64 0] .nil) rfl ⟨trivial, ⟨rfl, rfl, rfl, rfl, trivial⟩⟩ (JO.done rfl ?_)))))
    cases h
    exact JS.ret ttOk () trivial rfl rfl [] rfl

def M_i_RuneRead_L1 (x0 : List UInt8) (x1 : Int) (x19 : Int) (j39 : Int → Option (Int × Int)) (k34 : (Int × Int) → Option (Int × Int)) : (Int × Int) → Option (Int × Int) := fun (x29, x30) =>
  (bif (decide (x30 < ((sub' x0 (W (x1 + 1)) (W (x1 + x19))).length : Int))) then
  (guardO (0 ≤ x30 ∧ x30 < ((sub' x0 (W (x1 + 1)) (W (x1 + x19))).length : Int)) <|
  k34 ((W ((W ((W (x29 * 64)) + ((at' (sub' x0 (W (x1 + 1)) (W (x1 + x19))) x30).toNat : Int))) - 128)), (W (x30 + 1))))
  else
  j39 x29)

def M_i_RuneRead (x0 : List UInt8) (x1 : Int) : Option (Int × Int) :=
  (bif (bif (decide (x1 < 0)) then true else (decide ((x0.length : Int) ≤ x1))) then
  some (0, 0)
  else
  (guardO (0 ≤ x1 ∧ x1 < (x0.length : Int)) <|
  (joinO (fun ((x19, x20) : Int × Int) =>
  (bif (decide ((W ((x0.length : Int) - x19)) < x1)) then
  some (0, 0)
  else
  (guardO (0 ≤ (W (x1 + 1)) ∧ (W (x1 + 1)) ≤ (W (x1 + x19)) ∧ (W (x1 + x19)) ≤ (x0.length : Int)) <|
  (joinO (fun (x38 : Int) =>
  (bindO (M_i_RuneBytes x38) fun (y42 : List UInt8) =>
  (guardO (0 ≤ x1 ∧ x1 ≤ (W (x1 + x19)) ∧ (W (x1 + x19)) ≤ (x0.length : Int)) <|
  (bif (!(decide (y42 = (sub' x0 x1 (W (x1 + x19)))))) then
  some (0, 0)
  else
  some (x38, x19))))) fun j39 =>
  (fixF (M_i_RuneRead_L1 x0 x1 x19 j39) FUEL (x20, 0)))))) fun j21 =>
  (bif (decide (((at' x0 x1).toNat : Int) < 128)) then
  some (((at' x0 x1).toNat : Int), 1)
  else
  (bindO (M_i_in ((at' x0 x1).toNat : Int) 192 223) fun (y9 : Bool) =>
  (bif y9 then
  j21 (2, (W (((at' x0 x1).toNat : Int) - 192)))
  else
  (bindO (M_i_in ((at' x0 x1).toNat : Int) 224 239) fun (y11 : Bool) =>
  (bif y11 then
  j21 (3, (W (((at' x0 x1).toNat : Int) - 224)))
  else
  (bindO (M_i_in ((at' x0 x1).toNat : Int) 240 247) fun (y13 : Bool) =>
  (bif y13 then
  j21 (4, (W (((at' x0 x1).toNat : Int) - 240)))
  else
  some (0, 0)))))))))))

theorem ok_i_RuneRead (x0 : List UInt8) (x1 : Int) (a3 : Option Addr) (c4 : Nat) (l5 : Nat) (hl6 : x0.length = l5) (r : Int × Int) (h : M_i_RuneRead x0 x1 = some r) :
    FC Tryd.prog 34 [.slice a3 l5 c4, .int .i64 x1] [⟨.byte, ⟨a3, l5, c4⟩, x0⟩] (fun _ : Unit => True) (fun _ => .tuple #[.int .i64 r.1, .int .i64 r.2]) (fun _ => []) :=
  by
    subst hl6
    refine FC.of (T := TTx) Tryd.call34 Tryd.func34 rfl rfl fun w0 => ?_
    unfold M_i_RuneRead at h
    refine JS.seq (JS.region (JO.reg ttOk 2 [] [] [] _ rfl ⟨trivial, rfl⟩ (JO.done rfl (JS.seq (JS.seq (JS.region (JO.reg ttOk 8 [] [] [(18, .v (.bool (bif (decide (x1 < 0)) then true else (decide ((x0.length : Int) ≤ x1)))))] _ rfl ⟨⟨rfl, trivial⟩, rfl⟩ (JO.done rfl ?_))))))))
    refine JS.cond rfl (fun ht73 => ?_) (fun ht73 => ?_)
    · have h := condT h ht73
      refine JS.seq (JS.region (JO.reg ttOk 2 [] [] [(4, .v (.int .i64 0)), (5, .v (.int .i64 0))] _ rfl ⟨⟨rfl, rfl, trivial⟩, rfl⟩ (JO.done rfl ?_)))
      cases h
      exact JS.ret ttOk () trivial rfl rfl [] rfl
    have h := condF h ht73
    refine JS.skip (JS.seq (JS.region (JO.know 0 rfl fun hs59 => ?_)))
    obtain ⟨g8, h⟩ := guardO_some h
    refine JO.reg ttOk 3 [] [] [(21, .ep ⟨a3, x0.length, c4⟩ (Int.toNat x1 * 1))] _ rfl ⟨hs59.ix g8, ⟨rfl, trivial⟩, rfl⟩ (JO.load ttOk rfl rfl rfl rfl rfl rfl rfl 0 rfl rfl (Int.toNat x1) 0 (at' x0 x1) ⟨at_some g8, rfl⟩ rfl rfl (JO.reg ttOk 2 [((at' x0 x1).toNat : Int)] [] [(6, .v (.int .i64 ((at' x0 x1).toNat : Int)))] _ rfl ⟨⟨trivial, W_byte _⟩, ⟨rfl, trivial⟩, rfl⟩ (JO.done rfl (JS.seq (JS.region (JO.reg ttOk 2 [] [] [] _ rfl ⟨trivial, rfl⟩ (JO.done rfl (JS.seq ?_))))))))
    obtain ⟨j21, hj72, h⟩ := joinO_some h
    refine JS.blockJ (ι := Int × Int) ⟨fun z => j21 (z.1, z.2) = some r, fun z => [(0, .v (.slice a3 x0.length c4)), (1, .v (.int .i64 x1)), (7, .v (.int .i64 z.1)), (8, .v (.int .i64 z.2))], fun z => .nil, fun z => [⟨.byte, ⟨a3, x0.length, c4⟩, x0⟩], fun z => [], fun z => 0⟩ ?_ ?_
    · refine JS.seq (JS.region (JO.reg ttOk 3 [] [] [(24, .v (.bool (decide (((at' x0 x1).toNat : Int) < 128))))] _ rfl ⟨⟨rfl, trivial⟩, rfl⟩ (JO.done rfl ?_)))
      refine JS.cond rfl (fun ht63 => ?_) (fun ht63 => ?_)
      · have h := condT h ht63
        refine JS.seq (JS.region (JO.reg ttOk 3 [] [] [(4, .v (.int .i64 ((at' x0 x1).toNat : Int))), (5, .v (.int .i64 1))] _ rfl ⟨⟨rfl, rfl, trivial⟩, rfl⟩ (JO.done rfl ?_)))
        cases h
        exact JS.ret ttOk () trivial rfl rfl [] rfl
      have h := condF h ht63
      refine JS.seq (JS.region (JO.reg ttOk 1 [] [] [(29, .v (.int .i64 ((at' x0 x1).toNat : Int)))] _ rfl ⟨⟨rfl, trivial⟩, rfl⟩ ?_))
      obtain ⟨y9, hy10, h⟩ := bindO_some h
      refine JO.call rfl rfl rfl rfl (ok_i_in ((at' x0 x1).toNat : Int) 192 223 _ hy10) rfl [] rfl rfl fun _ _ => JO.reg ttOk 1 [] [] [(28, .v (.bool y9))] _ rfl ⟨⟨rfl, trivial⟩, rfl⟩ (JO.done rfl ?_)
      refine JS.cond rfl (fun ht62 => ?_) (fun ht62 => ?_)
      · have h := condT h ht62
        refine JS.region (JO.reg ttOk 4 [(W (((at' x0 x1).toNat : Int) - 192))] [] [(7, .v (.int .i64 2)), (8, .v (.int .i64 (W (((at' x0 x1).toNat : Int) - 192))))] _ rfl ⟨⟨trivial, rfl⟩, ⟨rfl, rfl, trivial⟩, rfl⟩ (JO.done rfl (JS.endB (JS.endJ (2, (W (((at' x0 x1).toNat : Int) - 192))) h ⟨rfl, rfl, rfl, rfl, trivial⟩ trivial [0] rfl [] rfl))))
      have h := condF h ht62
      refine JS.seq (JS.region (JO.reg ttOk 1 [] [] [(34, .v (.int .i64 ((at' x0 x1).toNat : Int)))] _ rfl ⟨⟨rfl, trivial⟩, rfl⟩ ?_))
      obtain ⟨y11, hy12, h⟩ := bindO_some h
      refine JO.call rfl rfl rfl rfl (ok_i_in ((at' x0 x1).toNat : Int) 224 239 _ hy12) rfl [] rfl rfl fun _ _ => JO.reg ttOk 1 [] [] [(33, .v (.bool y11))] _ rfl ⟨⟨rfl, trivial⟩, rfl⟩ (JO.done rfl ?_)
      refine JS.cond rfl (fun ht61 => ?_) (fun ht61 => ?_)
      · have h := condT h ht61
        refine JS.region (JO.reg ttOk 4 [(W (((at' x0 x1).toNat : Int) - 224))] [] [(7, .v (.int .i64 3)), (8, .v (.int .i64 (W (((at' x0 x1).toNat : Int) - 224))))] _ rfl ⟨⟨trivial, rfl⟩, ⟨rfl, rfl, trivial⟩, rfl⟩ (JO.done rfl (JS.endB (JS.endJ (3, (W (((at' x0 x1).toNat : Int) - 224))) h ⟨rfl, rfl, rfl, rfl, trivial⟩ trivial [0] rfl [] rfl))))
      have h := condF h ht61
      refine JS.seq (JS.region (JO.reg ttOk 1 [] [] [(39, .v (.int .i64 ((at' x0 x1).toNat : Int)))] _ rfl ⟨⟨rfl, trivial⟩, rfl⟩ ?_))
      obtain ⟨y13, hy14, h⟩ := bindO_some h
      refine JO.call rfl rfl rfl rfl (ok_i_in ((at' x0 x1).toNat : Int) 240 247 _ hy14) rfl [] rfl rfl fun _ _ => JO.reg ttOk 1 [] [] [(38, .v (.bool y13))] _ rfl ⟨⟨rfl, trivial⟩, rfl⟩ (JO.done rfl ?_)
      refine JS.cond rfl (fun ht60 => ?_) (fun ht60 => ?_)
      · have h := condT h ht60
        refine JS.region (JO.reg ttOk 4 [(W (((at' x0 x1).toNat : Int) - 240))] [] [(7, .v (.int .i64 4)), (8, .v (.int .i64 (W (((at' x0 x1).toNat : Int) - 240))))] _ rfl ⟨⟨trivial, rfl⟩, ⟨rfl, rfl, trivial⟩, rfl⟩ (JO.done rfl (JS.endB (JS.endJ (4, (W (((at' x0 x1).toNat : Int) - 240))) h ⟨rfl, rfl, rfl, rfl, trivial⟩ trivial [0] rfl [] rfl))))
      have h := condF h ht60
      refine JS.seq (JS.region (JO.reg ttOk 2 [] [] [(4, .v (.int .i64 0)), (5, .v (.int .i64 0))] _ rfl ⟨⟨rfl, rfl, trivial⟩, rfl⟩ (JO.done rfl ?_)))
      cases h
      exact JS.ret ttOk () trivial rfl rfl [] rfl
    rintro ⟨x19, x20⟩ h
    subst hj72
    refine JS.seq (JS.seq (JS.region (JO.reg ttOk 6 [(W ((x0.length : Int) - x19))] [] [(48, .v (.bool (decide ((W ((x0.length : Int) - x19)) < x1))))] _ rfl ⟨⟨trivial, rfl⟩, ⟨rfl, trivial⟩, rfl⟩ (JO.done rfl ?_))))
    refine JS.cond rfl (fun ht71 => ?_) (fun ht71 => ?_)
    · have h := condT h ht71
      refine JS.seq (JS.region (JO.reg ttOk 2 [] [] [(4, .v (.int .i64 0)), (5, .v (.int .i64 0))] _ rfl ⟨⟨rfl, rfl, trivial⟩, rfl⟩ (JO.done rfl ?_)))
      cases h
      exact JS.ret ttOk () trivial rfl rfl [] rfl
    have h := condF h ht71
    refine JS.skip (JS.seq (JS.seq (JS.region (JO.reg ttOk 6 [(W (x1 + 1)), (W (x1 + x19))] [] [(49, .v (.slice a3 x0.length c4)), (51, .v (.int .i64 (W (x1 + 1)))), (54, .v (.int .i64 (W (x1 + x19))))] _ rfl ⟨⟨trivial, rfl⟩, ⟨trivial, rfl⟩, ⟨rfl, rfl, rfl, trivial⟩, rfl⟩ ?_))))
    obtain ⟨g26, h⟩ := guardO_some h
    refine JO.sliceR' ttOk rfl rfl rfl rfl rfl rfl rfl rfl 0 rfl (W (x1 + 1)) (W (x1 + x19)) rfl rfl g26 rfl fun a27 c28 => JO.reg ttOk 2 [] [] [(56, .v (.int .i64 ((sub' x0 (W (x1 + 1)) (W (x1 + x19))).length : Int))), (57, .v (.int .i64 0))] _ rfl ⟨⟨rfl, rfl, trivial⟩, rfl⟩ (JO.done rfl ?_)
    obtain ⟨j39, hj70, h⟩ := joinO_some h
    refine JS.blockJ (ι := Int) ⟨fun z => j39 z = some r, fun z => [(0, .v (.slice a3 x0.length c4)), (1, .v (.int .i64 x1)), (7, .v (.int .i64 x19)), (8, .v (.int .i64 z))], fun z => .nil, fun z => [⟨.byte, ⟨a3, x0.length, c4⟩, x0⟩], fun z => [], fun z => 0⟩ ?_ ?_
    · refine JS.loop (ι := Nat × Int × Int) ⟨fun z => fixF (M_i_RuneRead_L1 x0 x1 x19 j39) z.1 (z.2.1, z.2.2) = some r, fun z => [(0, .v (.slice a3 x0.length c4)), (1, .v (.int .i64 x1)), (7, .v (.int .i64 x19)), (8, .v (.int .i64 z.2.1)), (55, .v (.slice a27 (sub' x0 (W (x1 + 1)) (W (x1 + x19))).length c28)), (56, .v (.int .i64 ((sub' x0 (W (x1 + 1)) (W (x1 + x19))).length : Int))), (57, .v (.int .i64 z.2.2))], fun z => .nil, fun z => [⟨.byte, ⟨a3, x0.length, c4⟩, x0⟩, ⟨.byte, ⟨a27, (sub' x0 (W (x1 + 1)) (W (x1 + x19))).length, c28⟩, (sub' x0 (W (x1 + 1)) (W (x1 + x19)))⟩], fun z => [], fun z => z.1⟩ (FUEL, x20, 0) h ⟨rfl, rfl, rfl, rfl, rfl, rfl, rfl, trivial⟩ trivial [1, 0] rfl [] rfl ?_
      rintro ⟨n35, x29, x30⟩ h
      obtain ⟨n35, rfl, h⟩ := fixF_some h
      rw [M_i_RuneRead_L1] at h
      refine JS.seq (JS.region (JO.reg ttOk 1 [] [] [(58, .v (.bool (decide (x30 < ((sub' x0 (W (x1 + 1)) (W (x1 + x19))).length : Int)))))] _ rfl ⟨⟨rfl, trivial⟩, rfl⟩ (JO.done rfl (JS.seq ?_))))
      refine JS.cond rfl (fun ht65 => ?_) (fun ht65 => ?_)
      · have h := condT h ht65
        refine JS.skip (JS.seq (JS.block (JS.seq (JS.region (JO.know 1 rfl fun hs64 => ?_)))))
        obtain ⟨g32, h⟩ := guardO_some h
        refine JO.reg ttOk 1 [] [] [(59, .ep ⟨a27, (sub' x0 (W (x1 + 1)) (W (x1 + x19))).length, c28⟩ (Int.toNat x30 * 1))] _ rfl ⟨hs64.ix g32, ⟨rfl, trivial⟩, rfl⟩ (JO.load ttOk rfl rfl rfl rfl rfl rfl rfl 1 rfl rfl (Int.toNat x30) 0 (at' (sub' x0 (W (x1 + 1)) (W (x1 + x19))) x30) ⟨at_some g32, rfl⟩ rfl rfl (JO.reg ttOk 1 [] [] [(10, .v (.int .u8 ((at' (sub' x0 (W (x1 + 1)) (W (x1 + x19))) x30).toNat : Int)))] _ rfl ⟨⟨rfl, trivial⟩, rfl⟩ (JO.done rfl (JS.region (JO.reg ttOk 7 [(W (x29 * 64)), ((at' (sub' x0 (W (x1 + 1)) (W (x1 + x19))) x30).toNat : Int), (W ((W (x29 * 64)) + ((at' (sub' x0 (W (x1 + 1)) (W (x1 + x19))) x30).toNat : Int))), (W ((W ((W (x29 * 64)) + ((at' (sub' x0 (W (x1 + 1)) (W (x1 + x19))) x30).toNat : Int))) - 128))] [] [(8, .v (.int .i64 (W ((W ((W (x29 * 64)) + ((at' (sub' x0 (W (x1 + 1)) (W (x1 + x19))) x30).toNat : Int))) - 128))))] _ rfl ⟨⟨trivial, rfl⟩, ⟨trivial, W_byte _⟩, ⟨trivial, rfl⟩, ⟨trivial, rfl⟩, ⟨rfl, trivial⟩, rfl⟩ (JO.done rfl (JS.endB (JS.region (JO.reg ttOk 2 [(W (x30 + 1))] [] [(57, .v (.int .i64 (W (x30 + 1))))] _ rfl ⟨⟨trivial, rfl⟩, ⟨rfl, trivial⟩, rfl⟩ (JO.done rfl (JS.endL (n35, (W ((W ((W (x29 * 64)) + ((at' (sub' x0 (W (x1 + 1)) (W (x1 + x19))) x30).toNat : Int))) - 128)), (W (x30 + 1))) h (Nat.lt_succ_self _) ⟨rfl, rfl, rfl, rfl, rfl, rfl, rfl, trivial⟩ trivial [0, 1] rfl [] rfl)))))))))))
      have h := condF h ht65
      refine JS.exit rfl (JS.endJ x29 h ⟨rfl, rfl, rfl, rfl, trivial⟩ trivial [0] rfl [] rfl)
    rintro x38 h
    subst hj70
    refine JS.seq (JS.seq ?_)
    obtain ⟨y42, hy43, h⟩ := bindO_some h
    obtain ⟨g46, h⟩ := guardO_some h
    refine JS.subR 0 rfl x1 (W (x1 + x19)) fun a47 c48 hu49 => JS.know 1 rfl fun hs68 => ?_
    refine JS.regionA rfl .nil [0] [10] trivial rfl (fun be53 => ?_)
    refine JA.regL ttOk panic_cx 5 [0, 3, 4, 5, 6, 7] rfl (by kernel_rfl) [(W (x1 + x19))] [(68, .v (.int .i64 x38)), (71, .v (.slice a3 x0.length c4)), (72, .v (.int .i64 x1)), (73, .v (.int .i64 x1)), (74, .v (.int .i64 x19)), (75, .v (.int .i64 (W (x1 + x19))))] rfl ⟨⟨trivial, rfl⟩, ⟨rfl, rfl, rfl, rfl, rfl, rfl, trivial⟩⟩ (JA.sliceP ttOk panic_cx 8 rfl (by kernel_rfl) rfl rfl rfl rfl rfl rfl x1 (W (x1 + x19)) rfl rfl ⟨g46.1, g46.2.1, g46.2.2, hs68.cap, hu49 g46⟩ rfl (JA.strOf ttOk panic_cx 9 rfl (by kernel_rfl) rfl rfl rfl rfl rfl rfl rfl 0 rfl rfl trivial [0] rfl (JA.one 1 (by kernel_rfl) (JK.call rfl rfl rfl rfl (ok_i_RuneBytes x38 _ hy43) rfl [] rfl rfl ?_))))
    rintro ⟨a44, c45⟩ -
    refine JA.next trivial [0] rfl (JA.one 2 (by kernel_rfl) (JK.strOf ttOk rfl rfl rfl rfl rfl rfl rfl rfl 2 rfl rfl (JA.next trivial [0] rfl (JA.regL ttOk panic_cx 0 [10] rfl (by kernel_rfl) [] [(68, .v (.int .i64 x38)), (69, .v (.slice a44 y42.length c45)), (70, .v (.string (bs y42))), (71, .v (.slice a3 x0.length c4)), (72, .v (.int .i64 x1)), (73, .v (.int .i64 x1)), (74, .v (.int .i64 x19)), (75, .v (.int .i64 (W (x1 + x19)))), (76, .v (.slice a47 (sub' x0 x1 (W (x1 + x19))).length c48)), (77, .v (.string (bs (sub' x0 x1 (W (x1 + x19)))))), (78, .v (.bool (!(decide (y42 = (sub' x0 x1 (W (x1 + x19))))))))] rfl ⟨rfl, rfl, rfl, rfl, rfl, rfl, rfl, rfl, rfl, rfl, rfl, trivial⟩ (JA.done (by kernel_rfl) (JS.boxes (B' := .nil) trivial ?_))))))
    refine JS.cond rfl (fun ht69 => ?_) (fun ht69 => ?_)
    · have h := condT h ht69
      refine JS.seq (JS.region (JO.reg ttOk 2 [] [] [(4, .v (.int .i64 0)), (5, .v (.int .i64 0))] _ rfl ⟨⟨rfl, rfl, trivial⟩, rfl⟩ (JO.done rfl ?_)))
      cases h
      exact JS.ret ttOk () trivial rfl rfl [] rfl
    have h := condF h ht69
    refine JS.skip (JS.seq (JS.region (JO.reg ttOk 4 [] [] [(4, .v (.int .i64 x38)), (5, .v (.int .i64 x19))] _ rfl ⟨⟨rfl, rfl, trivial⟩, rfl⟩ (JO.done rfl ?_))))
    cases h
    exact JS.ret ttOk () trivial rfl rfl [] rfl

def M_i_decPlain (x0 : List UInt8) (x1 : Int) : Option ((Int × List UInt8) × List (Int × Int)) :=
  (bif (decide (x1 < 128)) then
  (joinO (fun (x14 : List (Int × Int)) =>
  (bif (decide (x1 = 27)) then
  some ((1, []), x14)
  else
  (bindO (M_i_ByteKey x1) fun (y19 : Int × Int) =>
  (guardO (x14.length + ([y19] : List (Int × Int)).length ≤ 536870912) <|
  some ((0, []), (x14 ++ ([y19] : List (Int × Int)))))))) fun j17 =>
  (bif (decide (0 < (x0.length : Int))) then
  (bindO (M_i_bad ) fun (y7 : Int × Int) =>
  (guardO (([] : List (Int × Int)).length + ([y7] : List (Int × Int)).length ≤ 536870912) <|
  j17 (([] : List (Int × Int)) ++ ([y7] : List (Int × Int)))))
  else
  j17 ([] : List (Int × Int))))
  else
  (bindO (M_i_copyBytes x0) fun (y27 : List UInt8) =>
  (guardO (y27.length + ([(u8 (x1))] : List UInt8).length ≤ 536870912) <|
  (bindO (M_i_RuneRead (y27 ++ ([(u8 (x1))] : List UInt8)) 0) fun (y35, y36) =>
  (bif (decide (y36 = ((y27 ++ ([(u8 (x1))] : List UInt8)).length : Int))) then
  (bindO (M_i_Printable y35) fun (y38 : Bool) =>
  (bif y38 then
  some ((0, []), ([(1, y35)] : List (Int × Int)))
  else
  (bindO (M_i_bad ) fun (y41 : Int × Int) =>
  some ((0, []), ([y41] : List (Int × Int))))))
  else
  (bindO (M_i_RuneBegin (y27 ++ ([(u8 (x1))] : List UInt8))) fun (y45 : Bool) =>
  (bif y45 then
  some ((0, (y27 ++ ([(u8 (x1))] : List UInt8))), [])
  else
  (callO ((decide (0 < (x0.length : Int))) = true) (M_i_RuneBegin ([(u8 (x1))] : List UInt8)) false fun (y48 : Bool) =>
  (bif (bif (decide (0 < (x0.length : Int))) then y48 else false) then
  (bindO (M_i_bad ) fun (y51 : Int × Int) =>
  some ((0, ([(u8 (x1))] : List UInt8)), ([y51] : List (Int × Int))))
  else
  (bindO (M_i_bad ) fun (y54 : Int × Int) =>
  some ((0, []), ([y54] : List (Int × Int)))))))))))))

theorem ok_i_decPlain (x0 : List UInt8) (x1 : Int) (a3 : Option Addr) (c4 : Nat) (l5 : Nat) (hl6 : x0.length = l5) (r : (Int × List UInt8) × List (Int × Int)) (h : M_i_decPlain x0 x1 = some r) :
    FC Tryd.prog 28 [.slice a3 l5 c4, .int .i64 x1] [⟨.byte, ⟨a3, l5, c4⟩, x0⟩] (fun _ : Option Addr × Nat × Option Addr × Nat => True) (fun q => .tuple #[.agg #[.int .i64 r.1.1, .slice q.1 r.1.2.length q.2.1], .slice q.2.2.1 r.2.length q.2.2.2]) (fun q => [⟨.byte, ⟨q.1, r.1.2.length, q.2.1⟩, r.1.2⟩, ⟨(.pair (.int .i64) (.int .i64)), ⟨q.2.2.1, r.2.length, q.2.2.2⟩, r.2⟩]) :=
  by
    subst hl6
    refine FC.of (T := TTx) Tryd.call28 Tryd.func28 rfl rfl fun w0 => ?_
    unfold M_i_decPlain at h
    refine JS.seq (JS.region (JO.regB ttOk 2 [] [2] [(4, .bp 2 0)] (.new 2 27 [.int .i64 0, .slice none 0 0] .nil) rfl ⟨⟨rfl, trivial⟩, ⟨rfl, rfl, rfl, rfl, trivial⟩⟩ (JO.done rfl (JS.seq (JS.seq (JS.region (JO.reg ttOk 2 [] [] [(12, .v (.bool (decide (x1 < 128))))] _ rfl ⟨⟨rfl, trivial⟩, rfl⟩ (JO.done rfl ?_))))))))
    refine JS.cond rfl (fun ht69 => ?_) (fun ht69 => ?_)
    · have h := condT h ht69
      refine JS.seq (JS.region (JO.reg ttOk 1 [] [] [(6, .v (.slice none 0 0))] _ rfl ⟨⟨rfl, trivial⟩, rfl⟩ (JO.done rfl ?_)))
      obtain ⟨j17, hj63, h⟩ := joinO_some h
      refine JS.seqJ (ι := (List (Int × Int)) × Option Addr × Nat) ⟨fun z => j17 z.1 = some r, fun z => [(1, .v (.int .i64 x1)), (4, .bp 2 0), (6, .v (.slice z.2.1 z.1.length z.2.2))], fun z => (.new 2 27 [.int .i64 0, .slice none 0 0] .nil), fun z => [], fun z => [⟨(.pair (.int .i64) (.int .i64)), ⟨z.2.1, z.1.length, z.2.2⟩, z.1⟩], fun z => 0⟩ ?_ ?_
      · refine JS.seq (JS.region (JO.reg ttOk 3 [] [] [(15, .v (.bool (decide (0 < (x0.length : Int)))))] _ rfl ⟨⟨rfl, trivial⟩, rfl⟩ (JO.done rfl ?_)))
        refine JS.cond rfl (fun ht61 => ?_) (fun ht61 => ?_)
        · have h := condT h ht61
          refine JS.region (JO.reg ttOk 1 [] [] [(16, .v (.slice none 0 0))] _ rfl ⟨⟨rfl, trivial⟩, rfl⟩ ?_)
          obtain ⟨y7, hy8, h⟩ := bindO_some h
          refine JO.call rfl rfl rfl rfl (ok_i_bad  _ hy8) rfl [] rfl rfl fun _ _ => ?_
          refine JO.ofK rfl (JK.buildSlice ttOk rfl rfl rfl rfl rfl rfl rfl rfl rfl rfl rfl [] rfl (.pair (.int .i64) (.int .i64)) [y7] ⟨rfl, rfl⟩ rfl rfl fun a9 => JO.toK ?_)
          obtain ⟨g10, h⟩ := guardO_some h
          refine JO.nilO (.pair (.int .i64) (.int .i64)) Sl.nil rfl rfl (JO.appendR' ttOk rfl rfl rfl rfl ⟨rfl, rfl, rfl, rfl, trivial, rfl, rfl, rfl, rfl⟩ rfl rfl rfl [0] rfl 2 rfl g10 rfl fun a11 c12 => JO.reg ttOk 1 [] [] [(6, .v (.slice a11 (([] : List (Int × Int)) ++ ([y7] : List (Int × Int))).length c12))] _ rfl ⟨⟨rfl, trivial⟩, rfl⟩ (JO.done rfl (JS.endJ ((([] : List (Int × Int)) ++ ([y7] : List (Int × Int))), a11, c12) h ⟨rfl, rfl, rfl, trivial⟩ ⟨rfl, rfl, rfl, rfl, trivial⟩ [] rfl [0] rfl)))
        have h := condF h ht61
        refine JS.skip (JS.nilO (.pair (.int .i64) (.int .i64)) Sl.nil rfl rfl (JS.endJ (([] : List (Int × Int)), none, 0) h ⟨rfl, rfl, rfl, trivial⟩ ⟨rfl, rfl, rfl, rfl, trivial⟩ [] rfl [0] rfl))
      rintro ⟨x14, a15, c16⟩ h
      subst hj63
      refine JS.seq (JS.seq (JS.region (JO.reg ttOk 2 [] [] [(21, .v (.bool (decide (x1 = 27))))] _ rfl ⟨⟨rfl, trivial⟩, rfl⟩ (JO.done rfl ?_))))
      refine JS.cond rfl (fun ht62 => ?_) (fun ht62 => ?_)
      · have h := condT h ht62
        refine JS.seq (JS.region (JO.regB ttOk 4 [] [] [(5, .v (.slice a15 x14.length c16))] (.new 2 27 [.int .i64 1, .slice none 0 0] .nil) rfl ⟨⟨rfl, trivial⟩, ⟨rfl, rfl, rfl, rfl, trivial⟩⟩ (JO.done rfl ?_)))
        cases h
        refine JS.nilO .byte Sl.nil rfl rfl (JS.ret ttOk (none, 0, a15, c16) trivial rfl rfl [0, 0] rfl)
      have h := condF h ht62
      refine JS.skip (JS.seq (JS.region (JO.reg ttOk 3 [] [] [(24, .v (.agg #[.int .i64 0, .slice none 0 0])), (25, .v (.slice a15 x14.length c16)), (26, .v (.int .i64 x1))] _ rfl ⟨⟨rfl, rfl, rfl, trivial⟩, rfl⟩ ?_)))
      obtain ⟨y19, hy20, h⟩ := bindO_some h
      refine JO.call rfl rfl rfl rfl (ok_i_ByteKey x1 _ hy20) rfl [] rfl rfl fun _ _ => ?_
      refine JO.ofK rfl (JK.buildSlice ttOk rfl rfl rfl rfl rfl rfl rfl rfl rfl rfl rfl [] rfl (.pair (.int .i64) (.int .i64)) [y19] ⟨rfl, rfl⟩ rfl rfl fun a21 => JO.toK ?_)
      obtain ⟨g22, h⟩ := guardO_some h
      refine JO.appendR' ttOk rfl rfl rfl rfl ⟨rfl, rfl, rfl, rfl, trivial, rfl, rfl, rfl, rfl⟩ rfl rfl rfl [1] rfl 0 rfl g22 rfl fun a23 c24 => JO.regB ttOk 2 [] [] [(5, .v (.slice a23 (x14 ++ ([y19] : List (Int × Int))).length c24))] (.new 2 27 [.int .i64 0, .slice none 0 0] .nil) rfl ⟨⟨rfl, trivial⟩, ⟨rfl, rfl, rfl, rfl, trivial⟩⟩ (JO.done rfl ?_)
      cases h
      refine JS.nilO .byte Sl.nil rfl rfl (JS.ret ttOk (none, 0, a23, c24) trivial rfl rfl [0, 0] rfl)
    have h := condF h ht69
    refine JS.skip (JS.seq (JS.region (JO.reg ttOk 1 [] [] [(30, .v (.slice a3 x0.length c4))] _ rfl ⟨⟨rfl, trivial⟩, rfl⟩ ?_)))
    obtain ⟨y27, hy28, h⟩ := bindO_some h
    refine JO.call rfl rfl rfl rfl (ok_i_copyBytes x0 a3 c4 x0.length rfl _ hy28) rfl [0] rfl rfl ?_
    rintro ⟨a29, c30⟩ -
    refine JO.reg ttOk 2 [((u8 (x1)).toNat : Int)] [] [(33, .v (.int .u8 ((u8 (x1)).toNat : Int)))] _ rfl ⟨⟨trivial, u8_wrap _⟩, ⟨rfl, trivial⟩, rfl⟩ ?_
    refine JO.ofK rfl (JK.buildSlice ttOk rfl rfl rfl rfl rfl rfl rfl rfl rfl rfl rfl [] rfl .byte [(u8 (x1))] ⟨rfl, rfl⟩ rfl rfl fun a31 => JO.toK ?_)
    obtain ⟨g32, h⟩ := guardO_some h
    refine JO.appendR' ttOk rfl rfl rfl rfl ⟨rfl, rfl, rfl, rfl, trivial, rfl, rfl, rfl, rfl⟩ rfl rfl rfl [1] rfl 1 rfl g32 rfl fun a33 c34 => JO.reg ttOk 1 [] [] [(7, .v (.slice a33 (y27 ++ ([(u8 (x1))] : List UInt8)).length c34))] _ rfl ⟨⟨rfl, trivial⟩, rfl⟩ (JO.done rfl (JS.seq (JS.seq (JS.region (JO.reg ttOk 1 [] [] [(37, .v (.slice a33 (y27 ++ ([(u8 (x1))] : List UInt8)).length c34))] _ rfl ⟨⟨rfl, trivial⟩, rfl⟩ ?_)))))
    obtain ⟨⟨y35, y36⟩, hy37, h⟩ := bindO_some h
    refine JO.call rfl rfl rfl rfl (ok_i_RuneRead (y27 ++ ([(u8 (x1))] : List UInt8)) 0 a33 c34 ((y27 ++ ([(u8 (x1))] : List UInt8)).length) rfl _ hy37) rfl [1] rfl rfl fun _ _ => JO.reg ttOk 5 [] [] [(8, .v (.int .i64 y35)), (9, .v (.int .i64 y36))] _ rfl ⟨⟨rfl, rfl, trivial⟩, rfl⟩ (JO.done rfl (JS.seq (JS.region (JO.reg ttOk 4 [] [] [(44, .v (.bool (decide (y36 = ((y27 ++ ([(u8 (x1))] : List UInt8)).length : Int)))))] _ rfl ⟨⟨rfl, trivial⟩, rfl⟩ (JO.done rfl ?_)))))
    refine JS.cond rfl (fun ht68 => ?_) (fun ht68 => ?_)
    · have h := condT h ht68
      refine JS.seq (JS.seq (JS.region (JO.reg ttOk 1 [] [] [(45, .v (.int .i64 y35))] _ rfl ⟨⟨rfl, trivial⟩, rfl⟩ ?_)))
      obtain ⟨y38, hy39, h⟩ := bindO_some h
      refine JO.call rfl rfl rfl rfl (ok_i_Printable y35 _ hy39) rfl [] rfl rfl fun _ _ => JO.done rfl ?_
      refine JS.cond rfl (fun ht64 => ?_) (fun ht64 => ?_)
      · have h := condT h ht64
        refine JS.seq (JS.region (JO.reg ttOk 3 [] [] [(47, .v (.agg #[.int .i64 0, .slice none 0 0])), (49, .v (.agg #[.int .i64 1, .int .i64 y35]))] _ rfl ⟨⟨rfl, rfl, trivial⟩, rfl⟩ ?_))
        refine JO.ofK rfl (JK.buildSlice ttOk rfl rfl rfl rfl rfl rfl rfl rfl rfl rfl rfl [] rfl (.pair (.int .i64) (.int .i64)) [(1, y35)] ⟨rfl, rfl⟩ rfl rfl fun a40 => JO.toK ?_)
        refine JO.regB ttOk 2 [] [] [(5, .v (.slice a40 ([(1, y35)] : List (Int × Int)).length ([(1, y35)] : List (Int × Int)).length))] (.new 2 27 [.int .i64 0, .slice none 0 0] .nil) rfl ⟨⟨rfl, trivial⟩, ⟨rfl, rfl, rfl, rfl, trivial⟩⟩ (JO.done rfl ?_)
        cases h
        refine JS.nilO .byte Sl.nil rfl rfl (JS.ret ttOk (none, 0, a40, ([(1, y35)] : List (Int × Int)).length) trivial rfl rfl [0, 0] rfl)
      have h := condF h ht64
      refine JS.skip (JS.seq (JS.region (JO.reg ttOk 1 [] [] [(51, .v (.agg #[.int .i64 0, .slice none 0 0]))] _ rfl ⟨⟨rfl, trivial⟩, rfl⟩ ?_)))
      obtain ⟨y41, hy42, h⟩ := bindO_some h
      refine JO.call rfl rfl rfl rfl (ok_i_bad  _ hy42) rfl [] rfl rfl fun _ _ => ?_
      refine JO.ofK rfl (JK.buildSlice ttOk rfl rfl rfl rfl rfl rfl rfl rfl rfl rfl rfl [] rfl (.pair (.int .i64) (.int .i64)) [y41] ⟨rfl, rfl⟩ rfl rfl fun a43 => JO.toK ?_)
      refine JO.regB ttOk 2 [] [] [(5, .v (.slice a43 ([y41] : List (Int × Int)).length ([y41] : List (Int × Int)).length))] (.new 2 27 [.int .i64 0, .slice none 0 0] .nil) rfl ⟨⟨rfl, trivial⟩, ⟨rfl, rfl, rfl, rfl, trivial⟩⟩ (JO.done rfl ?_)
      cases h
      refine JS.nilO .byte Sl.nil rfl rfl (JS.ret ttOk (none, 0, a43, ([y41] : List (Int × Int)).length) trivial rfl rfl [0, 0] rfl)
    have h := condF h ht68
    refine JS.skip (JS.seq (JS.seq (JS.region (JO.reg ttOk 1 [] [] [(54, .v (.slice a33 (y27 ++ ([(u8 (x1))] : List UInt8)).length c34))] _ rfl ⟨⟨rfl, trivial⟩, rfl⟩ ?_))))
    obtain ⟨y45, hy46, h⟩ := bindO_some h
    refine JO.call rfl rfl rfl rfl (ok_i_RuneBegin (y27 ++ ([(u8 (x1))] : List UInt8)) a33 c34 ((y27 ++ ([(u8 (x1))] : List UInt8)).length) rfl _ hy46) rfl [1] rfl rfl fun _ _ => JO.done rfl ?_
    refine JS.cond rfl (fun ht67 => ?_) (fun ht67 => ?_)
    · have h := condT h ht67
      refine JS.seq (JS.region (JO.regB ttOk 4 [] [] [(5, .v (.slice none 0 0))] (.new 2 27 [.int .i64 0, .slice a33 (y27 ++ ([(u8 (x1))] : List UInt8)).length c34] .nil) rfl ⟨⟨rfl, trivial⟩, ⟨rfl, rfl, rfl, rfl, trivial⟩⟩ (JO.done rfl ?_)))
      cases h
      refine JS.nilO (.pair (.int .i64) (.int .i64)) Sl.nil rfl rfl (JS.ret ttOk (a33, c34, none, 0) trivial rfl rfl [1, 0] rfl)
    have h := condF h ht67
    refine JS.skip (JS.seq (JS.seq (JS.region (JO.reg ttOk 2 [((u8 (x1)).toNat : Int)] [] [(59, .v (.int .u8 ((u8 (x1)).toNat : Int)))] _ rfl ⟨⟨trivial, u8_wrap _⟩, ⟨rfl, trivial⟩, rfl⟩ ?_))))
    refine JO.ofK rfl (JK.buildSlice ttOk rfl rfl rfl rfl rfl rfl rfl rfl rfl rfl rfl [] rfl .byte [(u8 (x1))] ⟨rfl, rfl⟩ rfl rfl fun a47 => JO.toK ?_)
    refine JO.reg ttOk 1 [] [] [(10, .v (.slice a47 ([(u8 (x1))] : List UInt8).length ([(u8 (x1))] : List UInt8).length))] _ rfl ⟨⟨rfl, trivial⟩, rfl⟩ (JO.done rfl (JS.seq (JS.region (JO.reg ttOk 5 [] [] [(64, .v (.bool (decide (0 < (x0.length : Int))))), (65, .cd [(64, true)] (.v (.slice a47 ([(u8 (x1))] : List UInt8).length ([(u8 (x1))] : List UInt8).length)))] _ rfl ⟨⟨rfl, rfl, trivial⟩, rfl⟩ ?_))))
    obtain ⟨y48, hy49, -, h⟩ := callO_some h
    refine JO.callg rfl rfl rfl rfl (fun q65 => ok_i_RuneBegin ([(u8 (x1))] : List UInt8) a47 (([(u8 (x1))] : List UInt8).length) (([(u8 (x1))] : List UInt8).length) rfl _ (hy49 q65)) rfl [1] rfl rfl (JO.reg ttOk 1 [] [] [(67, .v (.bool (bif (decide (0 < (x0.length : Int))) then y48 else false)))] _ rfl ⟨⟨rfl, trivial⟩, rfl⟩ (JO.done rfl ?_))
    refine JS.cond rfl (fun ht66 => ?_) (fun ht66 => ?_)
    · have h := condT h ht66
      refine JS.seq (JS.region (JO.reg ttOk 2 [] [] [(69, .v (.agg #[.int .i64 0, .slice a47 ([(u8 (x1))] : List UInt8).length ([(u8 (x1))] : List UInt8).length]))] _ rfl ⟨⟨rfl, trivial⟩, rfl⟩ ?_))
      obtain ⟨y51, hy52, h⟩ := bindO_some h
      refine JO.call rfl rfl rfl rfl (ok_i_bad  _ hy52) rfl [] rfl rfl fun _ _ => ?_
      refine JO.ofK rfl (JK.buildSlice ttOk rfl rfl rfl rfl rfl rfl rfl rfl rfl rfl rfl [] rfl (.pair (.int .i64) (.int .i64)) [y51] ⟨rfl, rfl⟩ rfl rfl fun a53 => JO.toK ?_)
      refine JO.regB ttOk 2 [] [] [(5, .v (.slice a53 ([y51] : List (Int × Int)).length ([y51] : List (Int × Int)).length))] (.new 2 27 [.int .i64 0, .slice a47 ([(u8 (x1))] : List UInt8).length ([(u8 (x1))] : List UInt8).length] .nil) rfl ⟨⟨rfl, trivial⟩, ⟨rfl, rfl, rfl, rfl, trivial⟩⟩ (JO.done rfl ?_)
      cases h
      exact JS.ret ttOk (a47, ([(u8 (x1))] : List UInt8).length, a53, ([y51] : List (Int × Int)).length) trivial rfl rfl [1, 0] rfl
    have h := condF h ht66
    refine JS.skip (JS.seq (JS.region (JO.reg ttOk 1 [] [] [(72, .v (.agg #[.int .i64 0, .slice none 0 0]))] _ rfl ⟨⟨rfl, trivial⟩, rfl⟩ ?_)))
    obtain ⟨y54, hy55, h⟩ := bindO_some h
    refine JO.call rfl rfl rfl rfl (ok_i_bad  _ hy55) rfl [] rfl rfl fun _ _ => ?_
    refine JO.ofK rfl (JK.buildSlice ttOk rfl rfl rfl rfl rfl rfl rfl rfl rfl rfl rfl [] rfl (.pair (.int .i64) (.int .i64)) [y54] ⟨rfl, rfl⟩ rfl rfl fun a56 => JO.toK ?_)
    refine JO.regB ttOk 2 [] [] [(5, .v (.slice a56 ([y54] : List (Int × Int)).length ([y54] : List (Int × Int)).length))] (.new 2 27 [.int .i64 0, .slice none 0 0] .nil) rfl ⟨⟨rfl, trivial⟩, ⟨rfl, rfl, rfl, rfl, trivial⟩⟩ (JO.done rfl ?_)
    cases h
    refine JS.nilO .byte Sl.nil rfl rfl (JS.ret ttOk (none, 0, a56, ([y54] : List (Int × Int)).length) trivial rfl rfl [0, 0] rfl)

def M_i_decEsc (x0 : Int) : Option ((Int × List UInt8) × List (Int × Int)) :=
  (bif (decide (x0 = 91)) then
  some ((2, []), [])
  else
  (bif (decide (x0 = 79)) then
  some ((3, []), [])
  else
  (bif (decide (x0 = 27)) then
  some ((1, []), ([(7, 0)] : List (Int × Int)))
  else
  (bif (bif (decide (x0 = 8)) then true else (decide (x0 = 127))) then
  some ((0, []), ([(15, 0)] : List (Int × Int)))
  else
  (bindO (M_i_in x0 33 126) fun (y4 : Bool) =>
  (bif y4 then
  some ((0, []), ([(3, x0)] : List (Int × Int)))
  else
  (bindO (M_i_decPlain ([] : List UInt8) x0) fun (y7, y8) =>
  (guardO (([(7, 0)] : List (Int × Int)).length + y8.length ≤ 536870912) <|
  some (y7, (([(7, 0)] : List (Int × Int)) ++ y8))))))))))

theorem ok_i_decEsc (x0 : Int) (r : (Int × List UInt8) × List (Int × Int)) (h : M_i_decEsc x0 = some r) :
    FC Tryd.prog 29 [.int .i64 x0] [] (fun _ : Option Addr × Nat × Option Addr × Nat => True) (fun q => .tuple #[.agg #[.int .i64 r.1.1, .slice q.1 r.1.2.length q.2.1], .slice q.2.2.1 r.2.length q.2.2.2]) (fun q => [⟨.byte, ⟨q.1, r.1.2.length, q.2.1⟩, r.1.2⟩, ⟨(.pair (.int .i64) (.int .i64)), ⟨q.2.2.1, r.2.length, q.2.2.2⟩, r.2⟩]) :=
  by
    refine FC.of (T := TTx) Tryd.call29 Tryd.func29 rfl rfl fun w0 => ?_
    unfold M_i_decEsc at h
    refine JS.seq (JS.region (JO.regB ttOk 2 [] [1] [(2, .bp 1 0)] (.new 1 27 [.int .i64 0, .slice none 0 0] .nil) rfl ⟨⟨rfl, trivial⟩, ⟨rfl, rfl, rfl, rfl, trivial⟩⟩ (JO.done rfl (JS.seq (JS.block (JS.seq (JS.region (JO.reg ttOk 3 [] [] [(6, .v (.bool (decide (x0 = 91))))] _ rfl ⟨⟨rfl, trivial⟩, rfl⟩ (JO.done rfl ?_)))))))))
    refine JS.cond rfl (fun ht28 => ?_) (fun ht28 => ?_)
    · have h := condT h ht28
      refine JS.seq (JS.region (JO.regB ttOk 3 [] [] [(3, .v (.slice none 0 0))] (.new 1 27 [.int .i64 2, .slice none 0 0] .nil) rfl ⟨⟨rfl, trivial⟩, ⟨rfl, rfl, rfl, rfl, trivial⟩⟩ (JO.done rfl ?_)))
      cases h
      refine JS.nilO .byte Sl.nil rfl rfl (JS.nilO (.pair (.int .i64) (.int .i64)) Sl.nil rfl rfl (JS.ret ttOk (none, 0, none, 0) trivial rfl rfl [1, 0] rfl))
    have h := condF h ht28
    refine JS.seq (JS.region (JO.reg ttOk 3 [] [] [(10, .v (.bool (decide (x0 = 79))))] _ rfl ⟨⟨rfl, trivial⟩, rfl⟩ (JO.done rfl ?_)))
    refine JS.cond rfl (fun ht27 => ?_) (fun ht27 => ?_)
    · have h := condT h ht27
      refine JS.seq (JS.region (JO.regB ttOk 3 [] [] [(3, .v (.slice none 0 0))] (.new 1 27 [.int .i64 3, .slice none 0 0] .nil) rfl ⟨⟨rfl, trivial⟩, ⟨rfl, rfl, rfl, rfl, trivial⟩⟩ (JO.done rfl ?_)))
      cases h
      refine JS.nilO .byte Sl.nil rfl rfl (JS.nilO (.pair (.int .i64) (.int .i64)) Sl.nil rfl rfl (JS.ret ttOk (none, 0, none, 0) trivial rfl rfl [1, 0] rfl))
    have h := condF h ht27
    refine JS.seq (JS.region (JO.reg ttOk 3 [] [] [(14, .v (.bool (decide (x0 = 27))))] _ rfl ⟨⟨rfl, trivial⟩, rfl⟩ (JO.done rfl ?_)))
    refine JS.cond rfl (fun ht26 => ?_) (fun ht26 => ?_)
    · have h := condT h ht26
      refine JS.seq (JS.region (JO.reg ttOk 2 [] [] [(17, .v (.agg #[.int .i64 1, .slice none 0 0])), (18, .v (.agg #[.int .i64 7, .int .i64 0]))] _ rfl ⟨⟨rfl, rfl, trivial⟩, rfl⟩ ?_))
      refine JO.ofK rfl (JK.buildSlice ttOk rfl rfl rfl rfl rfl rfl rfl rfl rfl rfl rfl [] rfl (.pair (.int .i64) (.int .i64)) [(7, 0)] ⟨rfl, rfl⟩ rfl rfl fun a2 => JO.toK ?_)
      refine JO.regB ttOk 2 [] [] [(3, .v (.slice a2 ([(7, 0)] : List (Int × Int)).length ([(7, 0)] : List (Int × Int)).length))] (.new 1 27 [.int .i64 1, .slice none 0 0] .nil) rfl ⟨⟨rfl, trivial⟩, ⟨rfl, rfl, rfl, rfl, trivial⟩⟩ (JO.done rfl ?_)
      cases h
      refine JS.nilO .byte Sl.nil rfl rfl (JS.ret ttOk (none, 0, a2, ([(7, 0)] : List (Int × Int)).length) trivial rfl rfl [0, 0] rfl)
    have h := condF h ht26
    refine JS.seq (JS.region (JO.reg ttOk 7 [] [] [(20, .v (.bool (bif (decide (x0 = 8)) then true else (decide (x0 = 127)))))] _ rfl ⟨⟨rfl, trivial⟩, rfl⟩ (JO.done rfl ?_)))
    refine JS.cond rfl (fun ht25 => ?_) (fun ht25 => ?_)
    · have h := condT h ht25
      refine JS.seq (JS.region (JO.reg ttOk 2 [] [] [(27, .v (.agg #[.int .i64 0, .slice none 0 0])), (28, .v (.agg #[.int .i64 15, .int .i64 0]))] _ rfl ⟨⟨rfl, rfl, trivial⟩, rfl⟩ ?_))
      refine JO.ofK rfl (JK.buildSlice ttOk rfl rfl rfl rfl rfl rfl rfl rfl rfl rfl rfl [] rfl (.pair (.int .i64) (.int .i64)) [(15, 0)] ⟨rfl, rfl⟩ rfl rfl fun a3 => JO.toK ?_)
      refine JO.regB ttOk 2 [] [] [(3, .v (.slice a3 ([(15, 0)] : List (Int × Int)).length ([(15, 0)] : List (Int × Int)).length))] (.new 1 27 [.int .i64 0, .slice none 0 0] .nil) rfl ⟨⟨rfl, trivial⟩, ⟨rfl, rfl, rfl, rfl, trivial⟩⟩ (JO.done rfl ?_)
      cases h
      refine JS.nilO .byte Sl.nil rfl rfl (JS.ret ttOk (none, 0, a3, ([(15, 0)] : List (Int × Int)).length) trivial rfl rfl [0, 0] rfl)
    have h := condF h ht25
    refine JS.seq (JS.region (JO.reg ttOk 1 [] [] [(31, .v (.int .i64 x0))] _ rfl ⟨⟨rfl, trivial⟩, rfl⟩ ?_))
    obtain ⟨y4, hy5, h⟩ := bindO_some h
    refine JO.call rfl rfl rfl rfl (ok_i_in x0 33 126 _ hy5) rfl [] rfl rfl fun _ _ => JO.reg ttOk 1 [] [] [(30, .v (.bool y4))] _ rfl ⟨⟨rfl, trivial⟩, rfl⟩ (JO.done rfl ?_)
    refine JS.cond rfl (fun ht24 => ?_) (fun ht24 => ?_)
    · have h := condT h ht24
      refine JS.seq (JS.region (JO.reg ttOk 3 [] [] [(33, .v (.agg #[.int .i64 0, .slice none 0 0])), (35, .v (.agg #[.int .i64 3, .int .i64 x0]))] _ rfl ⟨⟨rfl, rfl, trivial⟩, rfl⟩ ?_))
      refine JO.ofK rfl (JK.buildSlice ttOk rfl rfl rfl rfl rfl rfl rfl rfl rfl rfl rfl [] rfl (.pair (.int .i64) (.int .i64)) [(3, x0)] ⟨rfl, rfl⟩ rfl rfl fun a6 => JO.toK ?_)
      refine JO.regB ttOk 2 [] [] [(3, .v (.slice a6 ([(3, x0)] : List (Int × Int)).length ([(3, x0)] : List (Int × Int)).length))] (.new 1 27 [.int .i64 0, .slice none 0 0] .nil) rfl ⟨⟨rfl, trivial⟩, ⟨rfl, rfl, rfl, rfl, trivial⟩⟩ (JO.done rfl ?_)
      cases h
      refine JS.nilO .byte Sl.nil rfl rfl (JS.ret ttOk (none, 0, a6, ([(3, x0)] : List (Int × Int)).length) trivial rfl rfl [0, 0] rfl)
    have h := condF h ht24
    refine JS.skip (JS.endB (JS.seq (JS.region (JO.reg ttOk 1 [] [] [(38, .v (.int .i64 x0))] _ rfl ⟨⟨rfl, trivial⟩, rfl⟩ ?_))))
    obtain ⟨⟨y7, y8⟩, hy9, h⟩ := bindO_some h
    refine JO.nilR .byte Sl.nil rfl rfl (JO.call rfl rfl rfl rfl (ok_i_decPlain ([] : List UInt8) x0 none 0 (([] : List UInt8).length) rfl _ hy9) rfl [0] rfl rfl ?_)
    rintro ⟨a10, c11, a12, c13⟩ -
    refine JO.regB ttOk 6 [] [20] [(4, .bp 20 0), (5, .v (.slice a12 y8.length c13))] (.new 1 27 [.int .i64 0, .slice none 0 0] (.new 20 27 [.int .i64 y7.1, .slice a10 y7.2.length c11] .nil)) rfl ⟨⟨rfl, rfl, trivial⟩, ⟨rfl, rfl, rfl, rfl, rfl, rfl, rfl, rfl, trivial⟩⟩ (JO.done rfl (JS.seq ?_))
    obtain ⟨g15, h⟩ := guardO_some h
    refine JS.regionA rfl (.new 20 27 [.int .i64 y7.1, .slice a10 y7.2.length c11] .nil) [] [5, 6] ⟨rfl, rfl, rfl, rfl, trivial⟩ rfl (fun be18 => ?_)
    refine JA.reg ttOk panic_cx true 6 [0] rfl (by kernel_rfl) [] [(42, .v (.agg #[.int .i64 y7.1, .slice a10 y7.2.length c11]))] ⟨rfl, rfl, rfl, rfl, trivial⟩ [] rfl rfl ⟨rfl, trivial⟩ (JA.regL ttOk panic_cx 4 [1, 3] rfl (by kernel_rfl) [] [(42, .v (.agg #[.int .i64 y7.1, .slice a10 y7.2.length c11])), (43, .v (.agg #[.int .i64 7, .int .i64 0])), (45, .v (.slice a12 y8.length c13))] rfl ⟨rfl, rfl, rfl, trivial⟩ (JA.one 2 (by kernel_rfl) (JK.buildSlice ttOk rfl rfl rfl rfl rfl rfl rfl rfl rfl rfl rfl [] rfl (.pair (.int .i64) (.int .i64)) [(7, 0)] ⟨rfl, rfl⟩ rfl rfl fun a14 => JA.next ⟨rfl, rfl, rfl, rfl, trivial⟩ [] rfl (JA.one 4 (by kernel_rfl) (JK.appendR' ttOk rfl rfl rfl rfl ⟨rfl, rfl, rfl, rfl, trivial, rfl, rfl, rfl, rfl⟩ rfl rfl rfl [0] rfl 3 rfl g15 rfl fun a16 c17 => JA.next ⟨rfl, rfl, rfl, rfl, trivial⟩ [] rfl (JA.one 5 (by kernel_rfl) (JK.stBox ttOk rfl rfl rfl rfl rfl rfl rfl rfl (JK.boxes (B' := (.new 1 27 [.int .i64 y7.1, .slice a10 y7.2.length c11] (.new 20 27 [.int .i64 y7.1, .slice a10 y7.2.length c11] .nil))) ⟨rfl, rfl, rfl, rfl, rfl, rfl, rfl, rfl, trivial⟩ (JA.nextL rfl (JA.regL ttOk panic_cx 0 [6] rfl (by kernel_rfl) [] [(3, .v (.slice a16 (([(7, 0)] : List (Int × Int)) ++ y8).length c17)), (42, .v (.agg #[.int .i64 y7.1, .slice a10 y7.2.length c11])), (43, .v (.agg #[.int .i64 7, .int .i64 0])), (44, .v (.slice a14 ([(7, 0)] : List (Int × Int)).length ([(7, 0)] : List (Int × Int)).length)), (45, .v (.slice a12 y8.length c13)), (46, .v (.slice a16 (([(7, 0)] : List (Int × Int)) ++ y8).length c17))] rfl ⟨rfl, rfl, rfl, rfl, rfl, rfl, trivial⟩ (JA.done (by kernel_rfl) (JS.boxes (B' := (.new 1 27 [.int .i64 y7.1, .slice a10 y7.2.length c11] .nil)) ⟨rfl, rfl, rfl, rfl, trivial⟩ ?_))))))))))))
    cases h
    exact JS.ret ttOk (a10, c11, a16, c17) trivial rfl rfl [1, 0] rfl

def M_i_decode (x0 : Int × List UInt8) (x1 : Int) : Option ((Int × List UInt8) × List (Int × Int)) :=
  (bif (decide (x0.1 = 0)) then
  (bindO (M_i_decPlain x0.2 x1) fun (y7, y8) =>
  some (y7, y8))
  else
  (bif (decide (x0.1 = 1)) then
  (bindO (M_i_decEsc x1) fun (y14, y15) =>
  some (y14, y15))
  else
  (bif (decide (x0.1 = 2)) then
  (bindO (M_i_decCsi x0.2 x1) fun (y21, y22) =>
  some (y21, y22))
  else
  (bif (decide (x0.1 = 3)) then
  (bif (decide (x1 = 27)) then
  (bindO (M_i_bad ) fun (y28 : Int × Int) =>
  some ((1, []), ([y28] : List (Int × Int))))
  else
  (bindO (M_i_arrow x1) fun (y31 : Int × Int) =>
  some ((0, []), ([y31] : List (Int × Int)))))
  else
  (bindO (M_i_isDigit x1) fun (y35 : Bool) =>
  (bif (bif y35 then true else (decide (x1 = 59))) then
  some ((4, []), [])
  else
  (bif (decide (x1 = 27)) then
  some ((1, []), [])
  else
  some ((0, []), []))))))))

theorem ok_i_decode (x0 : Int × List UInt8) (x1 : Int) (a3 : Option Addr) (c4 : Nat) (l5 : Nat) (hl6 : x0.2.length = l5) (r : (Int × List UInt8) × List (Int × Int)) (h : M_i_decode x0 x1 = some r) :
    FC Tryd.prog 15 [.agg #[.int .i64 x0.1, .slice a3 l5 c4], .int .i64 x1] [⟨.byte, ⟨a3, l5, c4⟩, x0.2⟩] (fun _ : Option Addr × Nat × Option Addr × Nat => True) (fun q => .tuple #[.agg #[.int .i64 r.1.1, .slice q.1 r.1.2.length q.2.1], .slice q.2.2.1 r.2.length q.2.2.2]) (fun q => [⟨.byte, ⟨q.1, r.1.2.length, q.2.1⟩, r.1.2⟩, ⟨(.pair (.int .i64) (.int .i64)), ⟨q.2.2.1, r.2.length, q.2.2.2⟩, r.2⟩]) :=
  by
    subst hl6
    refine FC.of (T := TTx) Tryd.call15 Tryd.func15 rfl rfl fun w0 => ?_
    unfold M_i_decode at h
    refine JS.seq (JS.region (JO.regB ttOk 3 [] [2, 3] [(2, .bp 2 0), (4, .bp 3 0)] (.new 2 27 [.int .i64 x0.1, .slice a3 x0.2.length c4] (.new 3 27 [.int .i64 0, .slice none 0 0] .nil)) rfl ⟨⟨rfl, rfl, trivial⟩, ⟨rfl, rfl, rfl, rfl, rfl, rfl, rfl, rfl, trivial⟩⟩ (JO.done rfl (JS.seq (JS.seq (JS.region (JO.reg ttOk 2 [] [] [(7, .v (.int .i64 x0.1))] _ rfl ⟨⟨rfl, trivial⟩, rfl⟩ (JO.done rfl (JS.block (JS.seq (JS.region (JO.reg ttOk 2 [] [] [(8, .v (.bool (decide (x0.1 = 0))))] _ rfl ⟨⟨rfl, trivial⟩, rfl⟩ (JO.done rfl ?_)))))))))))))
    refine JS.cond rfl (fun ht49 => ?_) (fun ht49 => ?_)
    · have h := condT h ht49
      refine JS.seq (JS.region (JO.reg ttOk 3 [] [] [(11, .v (.slice a3 x0.2.length c4)), (12, .v (.int .i64 x1))] _ rfl ⟨⟨rfl, rfl, trivial⟩, rfl⟩ ?_))
      obtain ⟨⟨y7, y8⟩, hy9, h⟩ := bindO_some h
      refine JO.call rfl rfl rfl rfl (ok_i_decPlain x0.2 x1 a3 c4 x0.2.length rfl _ hy9) rfl [0] rfl rfl ?_
      rintro ⟨a10, c11, a12, c13⟩ -
      refine JO.regB ttOk 4 [] [] [(5, .v (.slice a12 y8.length c13))] (.new 3 27 [.int .i64 y7.1, .slice a10 y7.2.length c11] .nil) rfl ⟨⟨rfl, trivial⟩, ⟨rfl, rfl, rfl, rfl, trivial⟩⟩ (JO.done rfl ?_)
      cases h
      exact JS.ret ttOk (a10, c11, a12, c13) trivial rfl rfl [0, 0] rfl
    have h := condF h ht49
    refine JS.seq (JS.region (JO.reg ttOk 2 [] [] [(16, .v (.bool (decide (x0.1 = 1))))] _ rfl ⟨⟨rfl, trivial⟩, rfl⟩ (JO.done rfl ?_)))
    refine JS.cond rfl (fun ht48 => ?_) (fun ht48 => ?_)
    · have h := condT h ht48
      refine JS.seq (JS.region (JO.reg ttOk 1 [] [] [(18, .v (.int .i64 x1))] _ rfl ⟨⟨rfl, trivial⟩, rfl⟩ ?_))
      obtain ⟨⟨y14, y15⟩, hy16, h⟩ := bindO_some h
      refine JO.call rfl rfl rfl rfl (ok_i_decEsc x1 _ hy16) rfl [] rfl rfl ?_
      rintro ⟨a17, c18, a19, c20⟩ -
      refine JO.regB ttOk 4 [] [] [(5, .v (.slice a19 y15.length c20))] (.new 3 27 [.int .i64 y14.1, .slice a17 y14.2.length c18] .nil) rfl ⟨⟨rfl, trivial⟩, ⟨rfl, rfl, rfl, rfl, trivial⟩⟩ (JO.done rfl ?_)
      cases h
      exact JS.ret ttOk (a17, c18, a19, c20) trivial rfl rfl [0, 0] rfl
    have h := condF h ht48
    refine JS.seq (JS.region (JO.reg ttOk 2 [] [] [(22, .v (.bool (decide (x0.1 = 2))))] _ rfl ⟨⟨rfl, trivial⟩, rfl⟩ (JO.done rfl ?_)))
    refine JS.cond rfl (fun ht47 => ?_) (fun ht47 => ?_)
    · have h := condT h ht47
      refine JS.seq (JS.region (JO.reg ttOk 3 [] [] [(25, .v (.slice a3 x0.2.length c4)), (26, .v (.int .i64 x1))] _ rfl ⟨⟨rfl, rfl, trivial⟩, rfl⟩ ?_))
      obtain ⟨⟨y21, y22⟩, hy23, h⟩ := bindO_some h
      refine JO.call rfl rfl rfl rfl (ok_i_decCsi x0.2 x1 a3 c4 x0.2.length rfl _ hy23) rfl [0] rfl rfl ?_
      rintro ⟨a24, c25, a26, c27⟩ -
      refine JO.regB ttOk 4 [] [] [(5, .v (.slice a26 y22.length c27))] (.new 3 27 [.int .i64 y21.1, .slice a24 y21.2.length c25] .nil) rfl ⟨⟨rfl, trivial⟩, ⟨rfl, rfl, rfl, rfl, trivial⟩⟩ (JO.done rfl ?_)
      cases h
      exact JS.ret ttOk (a24, c25, a26, c27) trivial rfl rfl [0, 0] rfl
    have h := condF h ht47
    refine JS.seq (JS.region (JO.reg ttOk 2 [] [] [(30, .v (.bool (decide (x0.1 = 3))))] _ rfl ⟨⟨rfl, trivial⟩, rfl⟩ (JO.done rfl ?_)))
    refine JS.cond rfl (fun ht46 => ?_) (fun ht46 => ?_)
    · have h := condT h ht46
      refine JS.seq (JS.seq (JS.region (JO.reg ttOk 2 [] [] [(33, .v (.bool (decide (x1 = 27))))] _ rfl ⟨⟨rfl, trivial⟩, rfl⟩ (JO.done rfl ?_))))
      refine JS.cond rfl (fun ht43 => ?_) (fun ht43 => ?_)
      · have h := condT h ht43
        refine JS.seq (JS.region (JO.reg ttOk 1 [] [] [(34, .v (.agg #[.int .i64 1, .slice none 0 0]))] _ rfl ⟨⟨rfl, trivial⟩, rfl⟩ ?_))
        obtain ⟨y28, hy29, h⟩ := bindO_some h
        refine JO.call rfl rfl rfl rfl (ok_i_bad  _ hy29) rfl [] rfl rfl fun _ _ => ?_
        refine JO.ofK rfl (JK.buildSlice ttOk rfl rfl rfl rfl rfl rfl rfl rfl rfl rfl rfl [] rfl (.pair (.int .i64) (.int .i64)) [y28] ⟨rfl, rfl⟩ rfl rfl fun a30 => JO.toK ?_)
        refine JO.regB ttOk 2 [] [] [(5, .v (.slice a30 ([y28] : List (Int × Int)).length ([y28] : List (Int × Int)).length))] (.new 3 27 [.int .i64 1, .slice none 0 0] .nil) rfl ⟨⟨rfl, trivial⟩, ⟨rfl, rfl, rfl, rfl, trivial⟩⟩ (JO.done rfl ?_)
        cases h
        refine JS.nilO .byte Sl.nil rfl rfl (JS.ret ttOk (none, 0, a30, ([y28] : List (Int × Int)).length) trivial rfl rfl [0, 0] rfl)
      have h := condF h ht43
      refine JS.skip (JS.seq (JS.region (JO.reg ttOk 2 [] [] [(37, .v (.agg #[.int .i64 0, .slice none 0 0])), (38, .v (.int .i64 x1))] _ rfl ⟨⟨rfl, rfl, trivial⟩, rfl⟩ ?_)))
      obtain ⟨y31, hy32, h⟩ := bindO_some h
      refine JO.call rfl rfl rfl rfl (ok_i_arrow x1 _ hy32) rfl [] rfl rfl fun _ _ => ?_
      refine JO.ofK rfl (JK.buildSlice ttOk rfl rfl rfl rfl rfl rfl rfl rfl rfl rfl rfl [] rfl (.pair (.int .i64) (.int .i64)) [y31] ⟨rfl, rfl⟩ rfl rfl fun a33 => JO.toK ?_)
      refine JO.regB ttOk 2 [] [] [(5, .v (.slice a33 ([y31] : List (Int × Int)).length ([y31] : List (Int × Int)).length))] (.new 3 27 [.int .i64 0, .slice none 0 0] .nil) rfl ⟨⟨rfl, trivial⟩, ⟨rfl, rfl, rfl, rfl, trivial⟩⟩ (JO.done rfl ?_)
      cases h
      refine JS.nilO .byte Sl.nil rfl rfl (JS.ret ttOk (none, 0, a33, ([y31] : List (Int × Int)).length) trivial rfl rfl [0, 0] rfl)
    have h := condF h ht46
    refine JS.skip (JS.endB (JS.seq (JS.block (JS.seq (JS.region (JO.reg ttOk 1 [] [] [(42, .v (.int .i64 x1))] _ rfl ⟨⟨rfl, trivial⟩, rfl⟩ ?_))))))
    obtain ⟨y35, hy36, h⟩ := bindO_some h
    refine JO.call rfl rfl rfl rfl (ok_i_isDigit x1 _ hy36) rfl [] rfl rfl fun _ _ => JO.reg ttOk 5 [] [] [(41, .v (.bool (bif y35 then true else (decide (x1 = 59)))))] _ rfl ⟨⟨rfl, trivial⟩, rfl⟩ (JO.done rfl ?_)
    refine JS.cond rfl (fun ht45 => ?_) (fun ht45 => ?_)
    · have h := condT h ht45
      refine JS.seq (JS.region (JO.regB ttOk 3 [] [] [(5, .v (.slice none 0 0))] (.new 3 27 [.int .i64 4, .slice none 0 0] .nil) rfl ⟨⟨rfl, trivial⟩, ⟨rfl, rfl, rfl, rfl, trivial⟩⟩ (JO.done rfl ?_)))
      cases h
      refine JS.nilO .byte Sl.nil rfl rfl (JS.nilO (.pair (.int .i64) (.int .i64)) Sl.nil rfl rfl (JS.ret ttOk (none, 0, none, 0) trivial rfl rfl [1, 0] rfl))
    have h := condF h ht45
    refine JS.seq (JS.region (JO.reg ttOk 3 [] [] [(49, .v (.bool (decide (x1 = 27))))] _ rfl ⟨⟨rfl, trivial⟩, rfl⟩ (JO.done rfl ?_)))
    refine JS.cond rfl (fun ht44 => ?_) (fun ht44 => ?_)
    · have h := condT h ht44
      refine JS.seq (JS.region (JO.regB ttOk 3 [] [] [(5, .v (.slice none 0 0))] (.new 3 27 [.int .i64 1, .slice none 0 0] .nil) rfl ⟨⟨rfl, trivial⟩, ⟨rfl, rfl, rfl, rfl, trivial⟩⟩ (JO.done rfl ?_)))
      cases h
      refine JS.nilO .byte Sl.nil rfl rfl (JS.nilO (.pair (.int .i64) (.int .i64)) Sl.nil rfl rfl (JS.ret ttOk (none, 0, none, 0) trivial rfl rfl [1, 0] rfl))
    have h := condF h ht44
    refine JS.skip (JS.endB (JS.seq (JS.region (JO.regB ttOk 3 [] [] [(5, .v (.slice none 0 0))] (.new 3 27 [.int .i64 0, .slice none 0 0] .nil) rfl ⟨⟨rfl, trivial⟩, ⟨rfl, rfl, rfl, rfl, trivial⟩⟩ (JO.done rfl ?_)))))
    cases h
    refine JS.nilO .byte Sl.nil rfl rfl (JS.nilO (.pair (.int .i64) (.int .i64)) Sl.nil rfl rfl (JS.ret ttOk (none, 0, none, 0) trivial rfl rfl [1, 0] rfl))

def M_i_Decode_L1 (x1 : List UInt8) (j55 : ((List (Int × Int)) × Int × List UInt8) → Option ((Int × List UInt8) × List (Int × Int))) (k44 : ((List (Int × Int)) × Int × Int × List UInt8) → Option ((Int × List UInt8) × List (Int × Int))) : ((List (Int × Int)) × Int × Int × List UInt8) → Option ((Int × List UInt8) × List (Int × Int)) := fun (x17, x20, x21, x22) =>
  (bif (decide (x20 < (x1.length : Int))) then
  (guardO (0 ≤ x20 ∧ x20 < (x1.length : Int)) <|
  (bindO (M_i_decode (x21, x22) ((at' x1 x20).toNat : Int)) fun (y31, y32) =>
  (guardO (x17.length + y32.length ≤ 536870912) <|
  k44 ((x17 ++ y32), (W (x20 + 1)), y31.1, y31.2))))
  else
  j55 (x17, x21, x22))

def M_i_Decode (x0 : Int × List UInt8) (x1 : List UInt8) : Option ((Int × List UInt8) × List (Int × Int)) :=
  (bindO (M_i_DecOk x0) fun (y11 : Bool) =>
  (bif (!y11) then
  some ((0, []), [])
  else
  (bindO (M_i_copyBytes x0.2) fun (y13 : List UInt8) =>
  (joinO (fun ((x48, x51, x52) : (List (Int × Int)) × Int × List UInt8) =>
  some ((x51, x52), x48)) fun j55 =>
  (fixF (M_i_Decode_L1 x1 j55) FUEL (([] : List (Int × Int)), 0, x0.1, y13))))))

theorem ok_i_Decode (x0 : Int × List UInt8) (x1 : List UInt8) (a3 : Option Addr) (c4 : Nat) (l5 : Nat) (hl6 : x0.2.length = l5) (a7 : Option Addr) (c8 : Nat) (l9 : Nat) (hl10 : x1.length = l9) (r : (Int × List UInt8) × List (Int × Int)) (h : M_i_Decode x0 x1 = some r) :
    FC Tryd.prog 5 [.agg #[.int .i64 x0.1, .slice a3 l5 c4], .slice a7 l9 c8] [⟨.byte, ⟨a3, l5, c4⟩, x0.2⟩, ⟨.byte, ⟨a7, l9, c8⟩, x1⟩] (fun _ : Option Addr × Nat × Option Addr × Nat => True) (fun q => .tuple #[.agg #[.int .i64 r.1.1, .slice q.1 r.1.2.length q.2.1], .slice q.2.2.1 r.2.length q.2.2.2]) (fun q => [⟨.byte, ⟨q.1, r.1.2.length, q.2.1⟩, r.1.2⟩, ⟨(.pair (.int .i64) (.int .i64)), ⟨q.2.2.1, r.2.length, q.2.2.2⟩, r.2⟩]) :=
  by
    subst hl6
    subst hl10
    refine FC.of (T := TTx) Tryd.call5 Tryd.func5 rfl rfl fun w0 => ?_
    unfold M_i_Decode at h
    refine JS.seq (JS.region (JO.regB ttOk 3 [] [3, 4] [(2, .bp 3 0), (4, .bp 4 0)] (.new 3 27 [.int .i64 x0.1, .slice a3 x0.2.length c4] (.new 4 27 [.int .i64 0, .slice none 0 0] .nil)) rfl ⟨⟨rfl, rfl, trivial⟩, ⟨rfl, rfl, rfl, rfl, rfl, rfl, rfl, rfl, trivial⟩⟩ (JO.done rfl (JS.seq (JS.seq (JS.region (JO.reg ttOk 1 [] [] [(11, .v (.agg #[.int .i64 x0.1, .slice a3 x0.2.length c4]))] _ rfl ⟨⟨rfl, trivial⟩, rfl⟩ ?_)))))))
    obtain ⟨y11, hy12, h⟩ := bindO_some h
    refine JO.call rfl rfl rfl rfl (ok_i_DecOk x0 a3 c4 x0.2.length rfl _ hy12) rfl [0] rfl rfl fun _ _ => JO.reg ttOk 1 [] [] [(13, .v (.bool (!y11)))] _ rfl ⟨⟨rfl, trivial⟩, rfl⟩ (JO.done rfl ?_)
    refine JS.cond rfl (fun ht63 => ?_) (fun ht63 => ?_)
    · have h := condT h ht63
      refine JS.seq (JS.region (JO.regB ttOk 3 [] [] [(5, .v (.slice none 0 0))] (.new 4 27 [.int .i64 0, .slice none 0 0] .nil) rfl ⟨⟨rfl, trivial⟩, ⟨rfl, rfl, rfl, rfl, trivial⟩⟩ (JO.done rfl ?_)))
      cases h
      refine JS.nilO .byte Sl.nil rfl rfl (JS.nilO (.pair (.int .i64) (.int .i64)) Sl.nil rfl rfl (JS.ret ttOk (none, 0, none, 0) trivial rfl rfl [1, 0] rfl))
    have h := condF h ht63
    refine JS.skip (JS.seq (JS.region (JO.reg ttOk 2 [] [] [(16, .v (.slice a3 x0.2.length c4))] _ rfl ⟨⟨rfl, trivial⟩, rfl⟩ ?_)))
    obtain ⟨y13, hy14, h⟩ := bindO_some h
    refine JO.call rfl rfl rfl rfl (ok_i_copyBytes x0.2 a3 c4 x0.2.length rfl _ hy14) rfl [0] rfl rfl ?_
    rintro ⟨a15, c16⟩ -
    refine JO.regB ttOk 2 [] [] [] (.new 3 27 [.int .i64 x0.1, .slice a15 y13.length c16] (.new 4 27 [.int .i64 0, .slice none 0 0] .nil)) rfl ⟨trivial, ⟨rfl, rfl, rfl, rfl, rfl, rfl, rfl, rfl, trivial⟩⟩ (JO.done rfl (JS.seq (JS.region (JO.reg ttOk 1 [] [] [(6, .v (.slice none 0 0))] _ rfl ⟨⟨rfl, trivial⟩, rfl⟩ (JO.done rfl (JS.seq (JS.seq (JS.region (JO.reg ttOk 3 [] [] [(19, .v (.slice a7 x1.length c8)), (20, .v (.int .i64 (x1.length : Int))), (21, .v (.int .i64 0))] _ rfl ⟨⟨rfl, rfl, rfl, trivial⟩, rfl⟩ (JO.done rfl ?_))))))))))
    obtain ⟨j55, hj62, h⟩ := joinO_some h
    refine JS.blockJ (ι := (List (Int × Int)) × Int × List UInt8 × Option Addr × Nat × Option Addr × Nat) ⟨fun z => j55 (z.1, z.2.1, z.2.2.1) = some r, fun z => [(2, .bp 3 0), (4, .bp 4 0), (6, .v (.slice z.2.2.2.1 z.1.length z.2.2.2.2.1))], fun z => (.new 3 27 [.int .i64 z.2.1, .slice z.2.2.2.2.2.1 z.2.2.1.length z.2.2.2.2.2.2] (.new 4 27 [.int .i64 0, .slice none 0 0] .nil)), fun z => [], fun z => [⟨(.pair (.int .i64) (.int .i64)), ⟨z.2.2.2.1, z.1.length, z.2.2.2.2.1⟩, z.1⟩, ⟨.byte, ⟨z.2.2.2.2.2.1, z.2.2.1.length, z.2.2.2.2.2.2⟩, z.2.2.1⟩], fun z => 0⟩ ?_ ?_
    · refine JS.nilO (.pair (.int .i64) (.int .i64)) Sl.nil rfl rfl (JS.loop (ι := Nat × (List (Int × Int)) × Int × Int × List UInt8 × Option Addr × Nat × Option Addr × Nat) ⟨fun z => fixF (M_i_Decode_L1 x1 j55) z.1 (z.2.1, z.2.2.1, z.2.2.2.1, z.2.2.2.2.1) = some r, fun z => [(2, .bp 3 0), (4, .bp 4 0), (6, .v (.slice z.2.2.2.2.2.1 z.2.1.length z.2.2.2.2.2.2.1)), (19, .v (.slice a7 x1.length c8)), (20, .v (.int .i64 (x1.length : Int))), (21, .v (.int .i64 z.2.2.1))], fun z => (.new 3 27 [.int .i64 z.2.2.2.1, .slice z.2.2.2.2.2.2.2.1 z.2.2.2.2.1.length z.2.2.2.2.2.2.2.2] (.new 4 27 [.int .i64 0, .slice none 0 0] .nil)), fun z => [⟨.byte, ⟨a7, x1.length, c8⟩, x1⟩], fun z => [⟨(.pair (.int .i64) (.int .i64)), ⟨z.2.2.2.2.2.1, z.2.1.length, z.2.2.2.2.2.2.1⟩, z.2.1⟩, ⟨.byte, ⟨z.2.2.2.2.2.2.2.1, z.2.2.2.2.1.length, z.2.2.2.2.2.2.2.2⟩, z.2.2.2.2.1⟩], fun z => z.1⟩ (FUEL, ([] : List (Int × Int)), 0, x0.1, y13, none, 0, a15, c16) h ⟨rfl, rfl, rfl, rfl, rfl, rfl, trivial⟩ ⟨rfl, rfl, rfl, rfl, rfl, rfl, rfl, rfl, trivial⟩ [1] rfl [0, 0] rfl ?_)
      rintro ⟨n45, x17, x20, x21, x22, a18, c19, a23, c24⟩ h
      obtain ⟨n45, rfl, h⟩ := fixF_some h
      rw [M_i_Decode_L1] at h
      refine JS.seq (JS.region (JO.reg ttOk 1 [] [] [(22, .v (.bool (decide (x20 < (x1.length : Int)))))] _ rfl ⟨⟨rfl, trivial⟩, rfl⟩ (JO.done rfl (JS.seq ?_))))
      refine JS.cond rfl (fun ht61 => ?_) (fun ht61 => ?_)
      · have h := condT h ht61
        refine JS.skip (JS.seq (JS.block (JS.seq (JS.region (JO.know 0 rfl fun hs60 => ?_)))))
        obtain ⟨g30, h⟩ := guardO_some h
        refine JO.reg ttOk 1 [] [] [(23, .ep ⟨a7, x1.length, c8⟩ (Int.toNat x20 * 1))] _ rfl ⟨hs60.ix g30, ⟨rfl, trivial⟩, rfl⟩ (JO.load ttOk rfl rfl rfl rfl rfl rfl rfl 0 rfl rfl (Int.toNat x20) 0 (at' x1 x20) ⟨at_some g30, rfl⟩ rfl rfl (JO.reg ttOk 1 [] [] [(8, .v (.int .u8 ((at' x1 x20).toNat : Int)))] _ rfl ⟨⟨rfl, trivial⟩, rfl⟩ (JO.done rfl (JS.seq (JS.region (JO.reg ttOk 3 [((at' x1 x20).toNat : Int)] [] [(26, .v (.agg #[.int .i64 x21, .slice a23 x22.length c24])), (28, .v (.int .i64 ((at' x1 x20).toNat : Int)))] _ rfl ⟨⟨trivial, W_byte _⟩, ⟨rfl, rfl, trivial⟩, rfl⟩ ?_))))))
        obtain ⟨⟨y31, y32⟩, hy33, h⟩ := bindO_some h
        refine JO.call rfl rfl rfl rfl (ok_i_decode (x21, x22) ((at' x1 x20).toNat : Int) a23 c24 x22.length rfl _ hy33) rfl [2] rfl rfl ?_
        rintro ⟨a34, c35, a36, c37⟩ -
        refine JO.regB ttOk 6 [] [37] [(9, .bp 37 0), (10, .v (.slice a36 y32.length c37))] (.new 3 27 [.int .i64 x21, .slice a23 x22.length c24] (.new 4 27 [.int .i64 0, .slice none 0 0] (.new 37 27 [.int .i64 y31.1, .slice a34 y31.2.length c35] .nil))) rfl ⟨⟨rfl, rfl, trivial⟩, ⟨rfl, rfl, rfl, rfl, rfl, rfl, rfl, rfl, rfl, rfl, rfl, rfl, trivial⟩⟩ (JO.done rfl (JS.seq (JS.region (JO.regB ttOk 2 [] [] [] (.new 3 27 [.int .i64 y31.1, .slice a34 y31.2.length c35] (.new 4 27 [.int .i64 0, .slice none 0 0] .nil)) rfl ⟨trivial, ⟨rfl, rfl, rfl, rfl, rfl, rfl, rfl, rfl, trivial⟩⟩ (JO.done rfl (JS.region (JO.reg ttOk 2 [] [] [(33, .v (.slice a18 x17.length c19)), (34, .v (.slice a36 y32.length c37))] _ rfl ⟨⟨rfl, rfl, trivial⟩, rfl⟩ ?_)))))))
        obtain ⟨g38, h⟩ := guardO_some h
        refine JO.appendR' ttOk rfl rfl rfl rfl ⟨rfl, rfl, rfl, rfl, trivial, rfl, rfl, rfl, rfl⟩ rfl rfl rfl [2] rfl 2 rfl g38 rfl fun a39 c40 => JO.reg ttOk 1 [] [] [(6, .v (.slice a39 (x17 ++ y32).length c40))] _ rfl ⟨⟨rfl, trivial⟩, rfl⟩ (JO.done rfl (JS.endB (JS.region (JO.reg ttOk 2 [(W (x20 + 1))] [] [(21, .v (.int .i64 (W (x20 + 1))))] _ rfl ⟨⟨trivial, rfl⟩, ⟨rfl, trivial⟩, rfl⟩ (JO.done rfl (JS.endL (n45, (x17 ++ y32), (W (x20 + 1)), y31.1, y31.2, a39, c40, a34, c35) h (Nat.lt_succ_self _) ⟨rfl, rfl, rfl, rfl, rfl, rfl, trivial⟩ ⟨rfl, rfl, rfl, rfl, rfl, rfl, rfl, rfl, trivial⟩ [0] rfl [0, 0] rfl))))))
      have h := condF h ht61
      refine JS.exit rfl (JS.endJ (x17, x21, x22, a18, c19, a23, c24) h ⟨rfl, rfl, rfl, trivial⟩ ⟨rfl, rfl, rfl, rfl, rfl, rfl, rfl, rfl, trivial⟩ [] rfl [0, 0] rfl)
    rintro ⟨x48, x51, x52, a49, c50, a53, c54⟩ h
    subst hj62
    refine JS.seq (JS.region (JO.regB ttOk 4 [] [] [(5, .v (.slice a49 x48.length c50))] (.new 4 27 [.int .i64 x51, .slice a53 x52.length c54] .nil) rfl ⟨⟨rfl, trivial⟩, ⟨rfl, rfl, rfl, rfl, trivial⟩⟩ (JO.done rfl ?_)))
    cases h
    exact JS.ret ttOk (a53, c54, a49, c50) trivial rfl rfl [1, 0] rfl

def M_i_DecTick (x0 : Int × List UInt8) : Option ((Int × List UInt8) × List (Int × Int)) :=
  (bindO (M_i_DecOk x0) fun (y6 : Bool) =>
  (bif (!y6) then
  some ((0, []), [])
  else
  (bif (decide (x0.1 = 1)) then
  some ((0, []), ([(7, 0)] : List (Int × Int)))
  else
  (bif (bif (decide (x0.1 = 2)) then (decide ((x0.2.length : Int) = 0)) else false) then
  some ((0, []), ([(3, 91)] : List (Int × Int)))
  else
  (bif (decide (x0.1 = 3)) then
  some ((0, []), ([(3, 79)] : List (Int × Int)))
  else
  (bif (decide (0 < (x0.2.length : Int))) then
  (bindO (M_i_bad ) fun (y11 : Int × Int) =>
  some ((0, []), ([y11] : List (Int × Int))))
  else
  some ((0, []), [])))))))

theorem ok_i_DecTick (x0 : Int × List UInt8) (a2 : Option Addr) (c3 : Nat) (l4 : Nat) (hl5 : x0.2.length = l4) (r : (Int × List UInt8) × List (Int × Int)) (h : M_i_DecTick x0 = some r) :
    FC Tryd.prog 7 [.agg #[.int .i64 x0.1, .slice a2 l4 c3]] [⟨.byte, ⟨a2, l4, c3⟩, x0.2⟩] (fun _ : Option Addr × Nat => True) (fun q => .tuple #[.agg #[.int .i64 r.1.1, .slice none 0 0], .slice q.1 r.2.length q.2]) (fun q => [⟨(.pair (.int .i64) (.int .i64)), ⟨q.1, r.2.length, q.2⟩, r.2⟩]) :=
  by
    subst hl5
    refine FC.of (T := TTx) Tryd.call7 Tryd.func7 rfl rfl fun w0 => ?_
    unfold M_i_DecTick at h
    refine JS.seq (JS.region (JO.regB ttOk 3 [] [2, 3] [(1, .bp 2 0), (2, .bp 3 0)] (.new 2 27 [.int .i64 x0.1, .slice a2 x0.2.length c3] (.new 3 27 [.int .i64 0, .slice none 0 0] .nil)) rfl ⟨⟨rfl, rfl, trivial⟩, ⟨rfl, rfl, rfl, rfl, rfl, rfl, rfl, rfl, trivial⟩⟩ (JO.done rfl (JS.seq (JS.seq (JS.region (JO.reg ttOk 1 [] [] [(4, .v (.agg #[.int .i64 x0.1, .slice a2 x0.2.length c3]))] _ rfl ⟨⟨rfl, trivial⟩, rfl⟩ ?_)))))))
    obtain ⟨y6, hy7, h⟩ := bindO_some h
    refine JO.call rfl rfl rfl rfl (ok_i_DecOk x0 a2 c3 x0.2.length rfl _ hy7) rfl [0] rfl rfl fun _ _ => JO.reg ttOk 1 [] [] [(6, .v (.bool (!y6)))] _ rfl ⟨⟨rfl, trivial⟩, rfl⟩ (JO.done rfl ?_)
    refine JS.cond rfl (fun ht23 => ?_) (fun ht23 => ?_)
    · have h := condT h ht23
      refine JS.seq (JS.region (JO.regB ttOk 3 [] [] [(3, .v (.slice none 0 0))] (.new 3 27 [.int .i64 0, .slice none 0 0] .nil) rfl ⟨⟨rfl, trivial⟩, ⟨rfl, rfl, rfl, rfl, trivial⟩⟩ (JO.done rfl ?_)))
      cases h
      refine JS.nilO (.pair (.int .i64) (.int .i64)) Sl.nil rfl rfl (JS.ret ttOk (none, 0) trivial rfl rfl [0] rfl)
    have h := condF h ht23
    refine JS.skip (JS.seq (JS.block (JS.seq (JS.region (JO.reg ttOk 4 [] [] [(8, .v (.bool (decide (x0.1 = 1))))] _ rfl ⟨⟨rfl, trivial⟩, rfl⟩ (JO.done rfl ?_))))))
    refine JS.cond rfl (fun ht22 => ?_) (fun ht22 => ?_)
    · have h := condT h ht22
      refine JS.seq (JS.region (JO.reg ttOk 2 [] [] [(12, .v (.agg #[.int .i64 0, .slice none 0 0])), (13, .v (.agg #[.int .i64 7, .int .i64 0]))] _ rfl ⟨⟨rfl, rfl, trivial⟩, rfl⟩ ?_))
      refine JO.ofK rfl (JK.buildSlice ttOk rfl rfl rfl rfl rfl rfl rfl rfl rfl rfl rfl [] rfl (.pair (.int .i64) (.int .i64)) [(7, 0)] ⟨rfl, rfl⟩ rfl rfl fun a8 => JO.toK ?_)
      refine JO.regB ttOk 2 [] [] [(3, .v (.slice a8 ([(7, 0)] : List (Int × Int)).length ([(7, 0)] : List (Int × Int)).length))] (.new 3 27 [.int .i64 0, .slice none 0 0] .nil) rfl ⟨⟨rfl, trivial⟩, ⟨rfl, rfl, rfl, rfl, trivial⟩⟩ (JO.done rfl ?_)
      cases h
      exact JS.ret ttOk (a8, ([(7, 0)] : List (Int × Int)).length) trivial rfl rfl [0] rfl
    have h := condF h ht22
    refine JS.seq (JS.region (JO.reg ttOk 10 [] [] [(15, .v (.bool (bif (decide (x0.1 = 2)) then (decide ((x0.2.length : Int) = 0)) else false)))] _ rfl ⟨⟨rfl, trivial⟩, rfl⟩ (JO.done rfl ?_)))
    refine JS.cond rfl (fun ht21 => ?_) (fun ht21 => ?_)
    · have h := condT h ht21
      refine JS.seq (JS.region (JO.reg ttOk 2 [] [] [(25, .v (.agg #[.int .i64 0, .slice none 0 0])), (26, .v (.agg #[.int .i64 3, .int .i64 91]))] _ rfl ⟨⟨rfl, rfl, trivial⟩, rfl⟩ ?_))
      refine JO.ofK rfl (JK.buildSlice ttOk rfl rfl rfl rfl rfl rfl rfl rfl rfl rfl rfl [] rfl (.pair (.int .i64) (.int .i64)) [(3, 91)] ⟨rfl, rfl⟩ rfl rfl fun a9 => JO.toK ?_)
      refine JO.regB ttOk 2 [] [] [(3, .v (.slice a9 ([(3, 91)] : List (Int × Int)).length ([(3, 91)] : List (Int × Int)).length))] (.new 3 27 [.int .i64 0, .slice none 0 0] .nil) rfl ⟨⟨rfl, trivial⟩, ⟨rfl, rfl, rfl, rfl, trivial⟩⟩ (JO.done rfl ?_)
      cases h
      exact JS.ret ttOk (a9, ([(3, 91)] : List (Int × Int)).length) trivial rfl rfl [0] rfl
    have h := condF h ht21
    refine JS.seq (JS.region (JO.reg ttOk 4 [] [] [(28, .v (.bool (decide (x0.1 = 3))))] _ rfl ⟨⟨rfl, trivial⟩, rfl⟩ (JO.done rfl ?_)))
    refine JS.cond rfl (fun ht20 => ?_) (fun ht20 => ?_)
    · have h := condT h ht20
      refine JS.seq (JS.region (JO.reg ttOk 2 [] [] [(32, .v (.agg #[.int .i64 0, .slice none 0 0])), (33, .v (.agg #[.int .i64 3, .int .i64 79]))] _ rfl ⟨⟨rfl, rfl, trivial⟩, rfl⟩ ?_))
      refine JO.ofK rfl (JK.buildSlice ttOk rfl rfl rfl rfl rfl rfl rfl rfl rfl rfl rfl [] rfl (.pair (.int .i64) (.int .i64)) [(3, 79)] ⟨rfl, rfl⟩ rfl rfl fun a10 => JO.toK ?_)
      refine JO.regB ttOk 2 [] [] [(3, .v (.slice a10 ([(3, 79)] : List (Int × Int)).length ([(3, 79)] : List (Int × Int)).length))] (.new 3 27 [.int .i64 0, .slice none 0 0] .nil) rfl ⟨⟨rfl, trivial⟩, ⟨rfl, rfl, rfl, rfl, trivial⟩⟩ (JO.done rfl ?_)
      cases h
      exact JS.ret ttOk (a10, ([(3, 79)] : List (Int × Int)).length) trivial rfl rfl [0] rfl
    have h := condF h ht20
    refine JS.seq (JS.region (JO.reg ttOk 5 [] [] [(35, .v (.bool (decide (0 < (x0.2.length : Int)))))] _ rfl ⟨⟨rfl, trivial⟩, rfl⟩ (JO.done rfl ?_)))
    refine JS.cond rfl (fun ht19 => ?_) (fun ht19 => ?_)
    · have h := condT h ht19
      refine JS.seq (JS.region (JO.reg ttOk 1 [] [] [(40, .v (.agg #[.int .i64 0, .slice none 0 0]))] _ rfl ⟨⟨rfl, trivial⟩, rfl⟩ ?_))
      obtain ⟨y11, hy12, h⟩ := bindO_some h
      refine JO.call rfl rfl rfl rfl (ok_i_bad  _ hy12) rfl [] rfl rfl fun _ _ => ?_
      refine JO.ofK rfl (JK.buildSlice ttOk rfl rfl rfl rfl rfl rfl rfl rfl rfl rfl rfl [] rfl (.pair (.int .i64) (.int .i64)) [y11] ⟨rfl, rfl⟩ rfl rfl fun a13 => JO.toK ?_)
      refine JO.regB ttOk 2 [] [] [(3, .v (.slice a13 ([y11] : List (Int × Int)).length ([y11] : List (Int × Int)).length))] (.new 3 27 [.int .i64 0, .slice none 0 0] .nil) rfl ⟨⟨rfl, trivial⟩, ⟨rfl, rfl, rfl, rfl, trivial⟩⟩ (JO.done rfl ?_)
      cases h
      exact JS.ret ttOk (a13, ([y11] : List (Int × Int)).length) trivial rfl rfl [0] rfl
    have h := condF h ht19
    refine JS.skip (JS.endB (JS.seq (JS.region (JO.regB ttOk 3 [] [] [(3, .v (.slice none 0 0))] (.new 3 27 [.int .i64 0, .slice none 0 0] .nil) rfl ⟨⟨rfl, trivial⟩, ⟨rfl, rfl, rfl, rfl, trivial⟩⟩ (JO.done rfl ?_)))))
    cases h
    refine JS.nilO (.pair (.int .i64) (.int .i64)) Sl.nil rfl rfl (JS.ret ttOk (none, 0) trivial rfl rfl [0] rfl)

def M_i_TextOf_L1 (x0 : List Int) (j27 : (List UInt8) → Option (List UInt8)) (k20 : (List UInt8 × Int) → Option (List UInt8)) : (List UInt8 × Int) → Option (List UInt8) := fun (x6, x9) =>
  (bif (decide (x9 < (x0.length : Int))) then
  (guardO (0 ≤ x9 ∧ x9 < (x0.length : Int)) <|
  (bindO (M_i_RuneBytes (at' x0 x9)) fun (y12 : List UInt8) =>
  (guardO (x6.length + y12.length ≤ 536870912) <|
  k20 ((x6 ++ y12), (W (x9 + 1))))))
  else
  j27 x6)

def M_i_TextOf (x0 : List Int) : Option (List UInt8) :=
  (joinO (fun (x24 : List UInt8) =>
  some x24) fun j27 =>
  (fixF (M_i_TextOf_L1 x0 j27) FUEL (([] : List UInt8), 0)))

theorem ok_i_TextOf (x0 : List Int) (a2 : Option Addr) (c3 : Nat) (l4 : Nat) (hl5 : x0.length = l4) (r : List UInt8) (h : M_i_TextOf x0 = some r) :
    FC Tryd.prog 20 [.slice a2 l4 c3] [⟨(.int .i64), ⟨a2, l4, c3⟩, x0⟩] (fun _ : Unit => True) (fun _ => .string (bs r)) (fun _ => []) :=
  by
    subst hl5
    refine FC.of (T := TTx) Tryd.call20 Tryd.func20 rfl rfl fun w0 => ?_
    unfold M_i_TextOf at h
    refine JS.seq (JS.region (JO.reg ttOk 1 [] [] [] _ rfl ⟨trivial, rfl⟩ (JO.done rfl (JS.seq (JS.region (JO.reg ttOk 1 [] [] [(3, .v (.slice none 0 0))] _ rfl ⟨⟨rfl, trivial⟩, rfl⟩ (JO.done rfl (JS.seq (JS.seq (JS.region (JO.reg ttOk 3 [] [] [(6, .v (.slice a2 x0.length c3)), (7, .v (.int .i64 (x0.length : Int))), (8, .v (.int .i64 0))] _ rfl ⟨⟨rfl, rfl, rfl, trivial⟩, rfl⟩ (JO.done rfl ?_))))))))))))
    obtain ⟨j27, hj33, h⟩ := joinO_some h
    refine JS.blockJ (ι := List UInt8 × Option Addr × Nat) ⟨fun z => j27 z.1 = some r, fun z => [(3, .v (.slice z.2.1 z.1.length z.2.2))], fun z => .nil, fun z => [], fun z => [⟨.byte, ⟨z.2.1, z.1.length, z.2.2⟩, z.1⟩], fun z => 0⟩ ?_ ?_
    · refine JS.nilO .byte Sl.nil rfl rfl (JS.loop (ι := Nat × List UInt8 × Int × Option Addr × Nat) ⟨fun z => fixF (M_i_TextOf_L1 x0 j27) z.1 (z.2.1, z.2.2.1) = some r, fun z => [(3, .v (.slice z.2.2.2.1 z.2.1.length z.2.2.2.2)), (6, .v (.slice a2 x0.length c3)), (7, .v (.int .i64 (x0.length : Int))), (8, .v (.int .i64 z.2.2.1))], fun z => .nil, fun z => [⟨(.int .i64), ⟨a2, x0.length, c3⟩, x0⟩], fun z => [⟨.byte, ⟨z.2.2.2.1, z.2.1.length, z.2.2.2.2⟩, z.2.1⟩], fun z => z.1⟩ (FUEL, ([] : List UInt8), 0, none, 0) h ⟨rfl, rfl, rfl, rfl, trivial⟩ trivial [0] rfl [0] rfl ?_)
      rintro ⟨n21, x6, x9, a7, c8⟩ h
      obtain ⟨n21, rfl, h⟩ := fixF_some h
      rw [M_i_TextOf_L1] at h
      refine JS.seq (JS.region (JO.reg ttOk 1 [] [] [(9, .v (.bool (decide (x9 < (x0.length : Int)))))] _ rfl ⟨⟨rfl, trivial⟩, rfl⟩ (JO.done rfl (JS.seq ?_))))
      refine JS.cond rfl (fun ht32 => ?_) (fun ht32 => ?_)
      · have h := condT h ht32
        refine JS.skip (JS.seq (JS.block (JS.seq (JS.region (JO.know 0 rfl fun hs31 => ?_)))))
        obtain ⟨g11, h⟩ := guardO_some h
        refine JO.reg ttOk 1 [] [] [(10, .ep ⟨a2, x0.length, c3⟩ (Int.toNat x9 * 1))] _ rfl ⟨hs31.ix g11, ⟨rfl, trivial⟩, rfl⟩ (JO.load ttOk rfl rfl rfl rfl rfl rfl rfl 0 rfl rfl (Int.toNat x9) 0 (at' x0 x9) ⟨at_some g11, rfl⟩ rfl rfl (JO.reg ttOk 1 [] [] [(5, .v (.int .i64 (at' x0 x9)))] _ rfl ⟨⟨rfl, trivial⟩, rfl⟩ (JO.done rfl (JS.region (JO.reg ttOk 2 [] [] [(12, .v (.slice a7 x6.length c8)), (13, .v (.int .i64 (at' x0 x9)))] _ rfl ⟨⟨rfl, rfl, trivial⟩, rfl⟩ ?_)))))
        obtain ⟨y12, hy13, h⟩ := bindO_some h
        refine JO.call rfl rfl rfl rfl (ok_i_RuneBytes (at' x0 x9) _ hy13) rfl [] rfl rfl ?_
        rintro ⟨a14, c15⟩ -
        obtain ⟨g16, h⟩ := guardO_some h
        refine JO.appendR' ttOk rfl rfl rfl rfl ⟨rfl, rfl, rfl, rfl, trivial, rfl, rfl, rfl, rfl⟩ rfl rfl rfl [1] rfl 1 rfl g16 rfl fun a17 c18 => JO.reg ttOk 1 [] [] [(3, .v (.slice a17 (x6 ++ y12).length c18))] _ rfl ⟨⟨rfl, trivial⟩, rfl⟩ (JO.done rfl (JS.endB (JS.region (JO.reg ttOk 2 [(W (x9 + 1))] [] [(8, .v (.int .i64 (W (x9 + 1))))] _ rfl ⟨⟨trivial, rfl⟩, ⟨rfl, trivial⟩, rfl⟩ (JO.done rfl (JS.endL (n21, (x6 ++ y12), (W (x9 + 1)), a17, c18) h (Nat.lt_succ_self _) ⟨rfl, rfl, rfl, rfl, trivial⟩ trivial [0] rfl [0] rfl))))))
      have h := condF h ht32
      refine JS.exit rfl (JS.endJ (x6, a7, c8) h ⟨rfl, trivial⟩ trivial [] rfl [0] rfl)
    rintro ⟨x24, a25, c26⟩ h
    subst hj33
    refine JS.seq (JS.region (JO.reg ttOk 1 [] [] [(17, .v (.slice a25 x24.length c26))] _ rfl ⟨⟨rfl, trivial⟩, rfl⟩ (JO.strOf ttOk rfl rfl rfl rfl rfl rfl rfl rfl 0 rfl rfl (JO.reg ttOk 1 [] [] [(2, .v (.string (bs x24)))] _ rfl ⟨⟨rfl, trivial⟩, rfl⟩ (JO.done rfl ?_)))))
    cases h
    exact JS.ret ttOk () trivial rfl rfl [] rfl

def M_unicode_utf8_RuneCountInString (x0 : List UInt8) : Option Int :=
  none

theorem ok_unicode_utf8_RuneCountInString (x0 : List UInt8) (r : Int) (h : M_unicode_utf8_RuneCountInString x0 = some r) :
    FC Tryd.prog 40 [.string (bs x0)] [] (fun _ : Unit => True) (fun _ => .int .i64 r) (fun _ => []) :=
  by
    refine FC.of (T := TTx) Tryd.call40 Tryd.func40 rfl rfl fun w0 => ?_
    unfold M_unicode_utf8_RuneCountInString at h
    refine JS.seq (JS.region (JO.reg ttOk 1 [] [] [(2, .v (.int .i64 0))] _ rfl ⟨⟨rfl, trivial⟩, rfl⟩ (JO.done rfl (JS.seq (JS.seq ?_)))))
    cases h

def M_unicode_utf8_decodeRuneInStringSlow (x0 : List UInt8) : Option (Int × Int) :=
  (bif (decide ((x0.length : Int) < 1)) then
  some (65533, 0)
  else
  (guardO (0 ≤ (0 : Int) ∧ 0 < (x0.length : Int)) <|
  none))

theorem ok_unicode_utf8_decodeRuneInStringSlow (x0 : List UInt8) (r : Int × Int) (h : M_unicode_utf8_decodeRuneInStringSlow x0 = some r) :
    FC Tryd.prog 44 [.string (bs x0)] [] (fun _ : Unit => True) (fun _ => .tuple #[.int .i32 r.1, .int .i64 r.2]) (fun _ => []) :=
  by
    refine FC.of (T := TTx) Tryd.call44 Tryd.func44 rfl rfl fun w0 => ?_
    unfold M_unicode_utf8_decodeRuneInStringSlow at h
    refine JS.seq (JS.region (JO.reg ttOk 2 [] [] [] _ rfl ⟨trivial, rfl⟩ (JO.done rfl (JS.seq (JS.region (JO.reg ttOk 3 [] [] [(4, .v (.int .i64 (x0.length : Int)))] _ rfl ⟨⟨rfl, trivial⟩, rfl⟩ (JO.done rfl (JS.seq (JS.seq (JS.region (JO.reg ttOk 2 [] [] [(16, .v (.bool (decide ((x0.length : Int) < 1))))] _ rfl ⟨⟨rfl, trivial⟩, rfl⟩ (JO.done rfl ?_))))))))))))
    refine JS.cond rfl (fun ht4 => ?_) (fun ht4 => ?_)
    · have h := condT h ht4
      refine JS.seq (JS.region (JO.reg ttOk 2 [] [] [(2, .v (.int .i32 65533)), (3, .v (.int .i64 0))] _ rfl ⟨⟨rfl, rfl, trivial⟩, rfl⟩ (JO.done rfl ?_)))
      cases h
      exact JS.ret ttOk () trivial rfl rfl [] rfl
    have h := condF h ht4
    refine JS.skip (JS.seq (JS.region ?_))
    obtain ⟨g2, h⟩ := guardO_some h
    refine JO.reg ttOk 3 [] [] [(5, .v (.int .u8 ((at' x0 0).toNat : Int)))] _ rfl ⟨g2, ⟨rfl, trivial⟩, rfl⟩ (JO.done rfl (JS.seq ?_))
    cases h

def M_unicode_utf8_DecodeRuneInString (x0 : List UInt8) : Option (Int × Int) :=
  (guardO (((!(decide (x0 = []))) = true) → 0 ≤ (0 : Int) ∧ 0 < (x0.length : Int)) <|
  (bif (bif (!(decide (x0 = []))) then (decide (((at' x0 0).toNat : Int) < (128 : Int))) else false) then
  (guardO (0 ≤ (0 : Int) ∧ 0 < (x0.length : Int)) <|
  some ((IntKind.i32.wrap (((at' x0 0).toNat : Int))), 1))
  else
  (bindO (M_unicode_utf8_decodeRuneInStringSlow x0) fun (y5, y6) =>
  some (y5, y6))))

theorem ok_unicode_utf8_DecodeRuneInString (x0 : List UInt8) (r : Int × Int) (h : M_unicode_utf8_DecodeRuneInString x0 = some r) :
    FC Tryd.prog 41 [.string (bs x0)] [] (fun _ : Unit => True) (fun _ => .tuple #[.int .i32 r.1, .int .i64 r.2]) (fun _ => []) :=
  by
    refine FC.of (T := TTx) Tryd.call41 Tryd.func41 rfl rfl fun w0 => ?_
    unfold M_unicode_utf8_DecodeRuneInString at h
    refine JS.seq (JS.region (JO.reg ttOk 2 [] [] [] _ rfl ⟨trivial, rfl⟩ (JO.done rfl (JS.seq (JS.seq (JS.region ?_))))))
    obtain ⟨g2, h⟩ := guardO_some h
    refine JO.reg ttOk 7 [] [] [(10, .v (.bool (bif (!(decide (x0 = []))) then (decide (((at' x0 0).toNat : Int) < (128 : Int))) else false)))] _ rfl ⟨(fun q9 => (g2 q9)), ⟨rfl, trivial⟩, rfl⟩ (JO.done rfl ?_)
    refine JS.cond rfl (fun ht10 => ?_) (fun ht10 => ?_)
    · have h := condT h ht10
      refine JS.seq (JS.region ?_)
      obtain ⟨g4, h⟩ := guardO_some h
      refine JO.reg ttOk 5 [(IntKind.i32.wrap (((at' x0 0).toNat : Int)))] [] [(2, .v (.int .i32 (IntKind.i32.wrap (((at' x0 0).toNat : Int))))), (3, .v (.int .i64 1))] _ rfl ⟨g4, ⟨trivial, rfl⟩, ⟨rfl, rfl, trivial⟩, rfl⟩ (JO.done rfl ?_)
      cases h
      exact JS.ret ttOk () trivial rfl rfl [] rfl
    have h := condF h ht10
    refine JS.region (JO.reg ttOk 1 [] [] [(15, .v (.string (bs x0)))] _ rfl ⟨⟨rfl, trivial⟩, rfl⟩ ?_)
    obtain ⟨⟨y5, y6⟩, hy7, h⟩ := bindO_some h
    refine JO.call rfl rfl rfl rfl (ok_unicode_utf8_decodeRuneInStringSlow x0 _ hy7) rfl [] rfl rfl fun _ _ => JO.reg ttOk 5 [] [] [(2, .v (.int .i32 y5)), (3, .v (.int .i64 y6))] _ rfl ⟨⟨rfl, rfl, trivial⟩, rfl⟩ (JO.done rfl ?_)
    cases h
    exact JS.ret ttOk () trivial rfl rfl [] rfl

def M_strings_explode_L1 (x6 : Int) (j32 : (List UInt8 × List (List UInt8)) → Option (List (List UInt8))) (k24 : (List UInt8 × List (List UInt8) × Int) → Option (List (List UInt8))) : (List UInt8 × List (List UInt8) × Int) → Option (List (List UInt8)) := fun (x11, x12, x15) =>
  (bif (decide (x15 < (W (x6 - 1)))) then
  (bindO (M_unicode_utf8_DecodeRuneInString x11) fun (y16, y17) =>
  (guardO (0 ≤ (0 : Int) ∧ (0 : Int) ≤ y17 ∧ y17 ≤ (x11.length : Int)) <|
  (guardO (0 ≤ x15 ∧ x15 < (x12.length : Int)) <|
  (guardO (0 ≤ y17 ∧ y17 ≤ (x11.length : Int) ∧ (x11.length : Int) ≤ (x11.length : Int)) <|
  k24 ((sub' x11 y17 (x11.length : Int)), (List.set x12 (Int.toNat x15) (sub' x11 0 y17)), (W (x15 + 1)))))))
  else
  j32 (x11, x12))

def M_strings_explode (x0 : List UInt8) (x1 : Int) : Option (List (List UInt8)) :=
  (bindO (M_unicode_utf8_RuneCountInString x0) fun (y3 : Int) =>
  (joinO (fun (x6 : Int) =>
  (guardO (0 ≤ x6 ∧ x6 ≤ 536870912) <|
  (joinO (fun ((x28, x29) : List UInt8 × List (List UInt8)) =>
  (joinO (fun (x38 : List (List UInt8)) =>
  some x38) fun j41 =>
  (bif (decide (0 < x6)) then
  (guardO (0 ≤ (W (x6 - 1)) ∧ (W (x6 - 1)) < (x29.length : Int)) <|
  j41 (List.set x29 (Int.toNat (W (x6 - 1))) x28))
  else
  j41 x29))) fun j32 =>
  (fixF (M_strings_explode_L1 x6 j32) FUEL (x0, (List.replicate (Int.toNat x6) []), 0))))) fun j7 =>
  (bif (bif (decide (x1 < 0)) then true else (decide (y3 < x1))) then
  j7 y3
  else
  j7 x1)))

theorem ok_strings_explode (x0 : List UInt8) (x1 : Int) (r : List (List UInt8)) (h : M_strings_explode x0 x1 = some r) :
    FC Tryd.prog 37 [.string (bs x0), .int .i64 x1] [] (fun _ : Option Addr × Nat => True) (fun q => .slice q.1 r.length q.2) (fun q => [⟨.str, ⟨q.1, r.length, q.2⟩, r⟩]) :=
  by
    refine FC.of (T := TTx) Tryd.call37 Tryd.func37 rfl rfl fun w0 => ?_
    unfold M_strings_explode at h
    refine JS.seq (JS.region (JO.reg ttOk 1 [] [] [] _ rfl ⟨trivial, rfl⟩ (JO.done rfl (JS.seq (JS.region (JO.reg ttOk 1 [] [] [(10, .v (.string (bs x0)))] _ rfl ⟨⟨rfl, trivial⟩, rfl⟩ ?_))))))
    obtain ⟨y3, hy4, h⟩ := bindO_some h
    refine JO.call rfl rfl rfl rfl (ok_unicode_utf8_RuneCountInString x0 _ hy4) rfl [] rfl rfl fun _ _ => JO.reg ttOk 1 [] [] [(5, .v (.int .i64 y3))] _ rfl ⟨⟨rfl, trivial⟩, rfl⟩ (JO.done rfl ?_)
    obtain ⟨j7, hj54, h⟩ := joinO_some h
    refine JS.seqJ (ι := Int) ⟨fun z => j7 z = some r, fun z => [(0, .v (.string (bs x0))), (1, .v (.int .i64 z))], fun z => .nil, fun z => [], fun z => [], fun z => 0⟩ ?_ ?_
    · refine JS.seq (JS.region (JO.reg ttOk 7 [] [] [(18, .v (.bool (bif (decide (x1 < 0)) then true else (decide (y3 < x1)))))] _ rfl ⟨⟨rfl, trivial⟩, rfl⟩ (JO.done rfl ?_)))
      refine JS.cond rfl (fun ht47 => ?_) (fun ht47 => ?_)
      · have h := condT h ht47
        refine JS.region (JO.reg ttOk 2 [] [] [(1, .v (.int .i64 y3))] _ rfl ⟨⟨rfl, trivial⟩, rfl⟩ (JO.done rfl (JS.endJ y3 h ⟨rfl, rfl, trivial⟩ trivial [] rfl [] rfl)))
      have h := condF h ht47
      refine JS.skip (JS.endJ x1 h ⟨rfl, rfl, trivial⟩ trivial [] rfl [] rfl)
    rintro x6 h
    subst hj54
    refine JS.seq (JS.region (JO.reg ttOk 1 [] [] [(20, .v (.int .i64 x6))] _ rfl ⟨⟨rfl, trivial⟩, rfl⟩ ?_))
    obtain ⟨g9, h⟩ := guardO_some h
    refine JO.makeSlice ttOk rfl rfl rfl rfl rfl rfl rfl rfl (Int.toNat x6) (Int.toNat_of_nonneg g9.1).symm (by omega) .str rfl rfl rfl rfl rfl fun a10 => JO.reg ttOk 1 [] [] [(6, .v (.slice a10 (Int.toNat x6) (Int.toNat x6)))] _ rfl ⟨⟨rfl, trivial⟩, rfl⟩ (JO.done rfl (JS.seq (JS.seq (JS.region (JO.reg ttOk 1 [] [] [(7, .v (.int .i64 0))] _ rfl ⟨⟨rfl, trivial⟩, rfl⟩ (JO.done rfl ?_))))))
    obtain ⟨j32, hj53, h⟩ := joinO_some h
    refine JS.blockJ (ι := List UInt8 × List (List UInt8) × Option Addr × Nat) ⟨fun z => j32 (z.1, z.2.1) = some r, fun z => [(0, .v (.string (bs z.1))), (1, .v (.int .i64 x6)), (6, .v (.slice z.2.2.1 z.2.1.length z.2.2.2))], fun z => .nil, fun z => [], fun z => [⟨.str, ⟨z.2.2.1, z.2.1.length, z.2.2.2⟩, z.2.1⟩], fun z => 0⟩ ?_ ?_
    · refine JS.loop (ι := Nat × List UInt8 × List (List UInt8) × Int × Option Addr × Nat) ⟨fun z => fixF (M_strings_explode_L1 x6 j32) z.1 (z.2.1, z.2.2.1, z.2.2.2.1) = some r, fun z => [(0, .v (.string (bs z.2.1))), (1, .v (.int .i64 x6)), (6, .v (.slice z.2.2.2.2.1 z.2.2.1.length z.2.2.2.2.2)), (7, .v (.int .i64 z.2.2.2.1))], fun z => .nil, fun z => [], fun z => [⟨.str, ⟨z.2.2.2.2.1, z.2.2.1.length, z.2.2.2.2.2⟩, z.2.2.1⟩], fun z => z.1⟩ (FUEL, x0, (List.replicate (Int.toNat x6) []), 0, a10, (Int.toNat x6)) h ⟨rfl, rfl, (by simp only [List.length_set, List.length_replicate, pickO, getF]; rfl), rfl, trivial⟩ trivial [] rfl [0] (by simp only [List.length_set, List.length_replicate, pickO, getF]; rfl) ?_
      rintro ⟨n25, x11, x12, x15, a13, c14⟩ h
      obtain ⟨n25, rfl, h⟩ := fixF_some h
      rw [M_strings_explode_L1] at h
      refine JS.seq (JS.seq (JS.region (JO.reg ttOk 4 [(W (x6 - 1))] [] [(25, .v (.bool (decide (x15 < (W (x6 - 1))))))] _ rfl ⟨⟨trivial, rfl⟩, ⟨rfl, trivial⟩, rfl⟩ (JO.done rfl ?_))))
      refine JS.cond rfl (fun ht49 => ?_) (fun ht49 => ?_)
      · have h := condT h ht49
        refine JS.skip (JS.seq (JS.block (JS.seq (JS.region (JO.reg ttOk 1 [] [] [(29, .v (.string (bs x11)))] _ rfl ⟨⟨rfl, trivial⟩, rfl⟩ ?_)))))
        obtain ⟨⟨y16, y17⟩, hy18, h⟩ := bindO_some h
        refine JO.call rfl rfl rfl rfl (ok_unicode_utf8_DecodeRuneInString x11 _ hy18) rfl [] rfl rfl fun _ _ => JO.reg ttOk 5 [] [] [(9, .v (.int .i64 y17))] _ rfl ⟨⟨rfl, trivial⟩, rfl⟩ (JO.done rfl (JS.seq (JS.region ?_)))
        obtain ⟨g19, h⟩ := guardO_some h
        refine JO.know 0 rfl fun hs48 => ?_
        obtain ⟨g21, h⟩ := guardO_some h
        refine JO.reg ttOk 6 [] [] [(37, .v (.string (bs (sub' x11 0 y17)))), (38, .ep ⟨a13, x12.length, c14⟩ (Int.toNat x15 * 1))] _ rfl ⟨g19, hs48.ix g21, ⟨rfl, rfl, trivial⟩, rfl⟩ (JO.storeE ttOk rfl rfl rfl rfl rfl rfl rfl rfl rfl [0] (fs := []) rfl (Int.toNat x15) 0 (at' x12 x15) (sub' x11 0 y17) ⟨at_some g21, rfl⟩ ⟨rfl, rfl, rfl⟩ (JO.done rfl (JS.region ?_)))
        obtain ⟨g22, h⟩ := guardO_some h
        refine JO.reg ttOk 4 [] [] [(0, .v (.string (bs (sub' x11 y17 (x11.length : Int)))))] _ rfl ⟨g22, ⟨rfl, trivial⟩, rfl⟩ (JO.done rfl (JS.endB (JS.region (JO.reg ttOk 3 [(W (x15 + 1))] [] [(7, .v (.int .i64 (W (x15 + 1))))] _ rfl ⟨⟨trivial, rfl⟩, ⟨rfl, trivial⟩, rfl⟩ (JO.done rfl (JS.endL (n25, (sub' x11 y17 (x11.length : Int)), (List.set x12 (Int.toNat x15) (sub' x11 0 y17)), (W (x15 + 1)), a13, c14) h (Nat.lt_succ_self _) ⟨rfl, rfl, (by simp only [List.length_set, List.length_replicate, pickO, getF]; rfl), rfl, trivial⟩ trivial [] rfl [0] (by simp only [List.length_set, List.length_replicate, pickO, getF]; rfl)))))))
      have h := condF h ht49
      refine JS.exit rfl (JS.endJ (x11, x12, a13, c14) h ⟨rfl, rfl, rfl, trivial⟩ trivial [] rfl [0] rfl)
    rintro ⟨x28, x29, a30, c31⟩ h
    subst hj53
    obtain ⟨j41, hj52, h⟩ := joinO_some h
    refine JS.seqJ (ι := List (List UInt8) × Option Addr × Nat) ⟨fun z => j41 z.1 = some r, fun z => [(6, .v (.slice z.2.1 z.1.length z.2.2))], fun z => .nil, fun z => [], fun z => [⟨.str, ⟨z.2.1, z.1.length, z.2.2⟩, z.1⟩], fun z => 0⟩ ?_ ?_
    · refine JS.seq (JS.region (JO.reg ttOk 2 [] [] [(43, .v (.bool (decide (0 < x6))))] _ rfl ⟨⟨rfl, trivial⟩, rfl⟩ (JO.done rfl ?_)))
      refine JS.cond rfl (fun ht51 => ?_) (fun ht51 => ?_)
      · have h := condT h ht51
        refine JS.region (JO.know 0 rfl fun hs50 => ?_)
        obtain ⟨g36, h⟩ := guardO_some h
        refine JO.reg ttOk 5 [(W (x6 - 1))] [] [(47, .v (.string (bs x28))), (48, .ep ⟨a30, x29.length, c31⟩ (Int.toNat (W (x6 - 1)) * 1))] _ rfl ⟨⟨trivial, rfl⟩, hs50.ix g36, ⟨rfl, rfl, trivial⟩, rfl⟩ (JO.storeE ttOk rfl rfl rfl rfl rfl rfl rfl rfl rfl [0] (fs := []) rfl (Int.toNat (W (x6 - 1))) 0 (at' x29 (W (x6 - 1))) x28 ⟨at_some g36, rfl⟩ ⟨rfl, rfl, rfl⟩ (JO.done rfl (JS.endJ ((List.set x29 (Int.toNat (W (x6 - 1))) x28), a30, c31) h ⟨(by simp only [List.length_set, List.length_replicate, pickO, getF]; rfl), trivial⟩ trivial [] rfl [0] (by simp only [List.length_set, List.length_replicate, pickO, getF]; rfl))))
      have h := condF h ht51
      refine JS.skip (JS.endJ (x29, a30, c31) h ⟨rfl, trivial⟩ trivial [] rfl [0] rfl)
    rintro ⟨x38, a39, c40⟩ h
    subst hj52
    refine JS.seq (JS.region (JO.reg ttOk 2 [] [] [(4, .v (.slice a39 x38.length c40))] _ rfl ⟨⟨rfl, trivial⟩, rfl⟩ (JO.done rfl ?_)))
    cases h
    exact JS.ret ttOk (a39, c40) trivial rfl rfl [0] rfl

def M_internal_stringslite_IndexByte (x0 : List UInt8) (x1 : UInt8) : Option Int :=
  none

theorem ok_internal_stringslite_IndexByte (x0 : List UInt8) (x1 : UInt8) (r : Int) (h : M_internal_stringslite_IndexByte x0 x1 = some r) :
    FC Tryd.prog 45 [.string (bs x0), .int .u8 (x1.toNat : Int)] [] (fun _ : Unit => True) (fun _ => .int .i64 r) (fun _ => []) :=
  by
    refine FC.of (T := TTx) Tryd.call45 Tryd.func45 rfl rfl fun w0 => ?_
    unfold M_internal_stringslite_IndexByte at h
    refine JS.seq (JS.region (JO.reg ttOk 1 [] [] [] _ rfl ⟨trivial, rfl⟩ (JO.done rfl (JS.seq ?_))))
    cases h

def M_internal_bytealg_Cutover (x0 : Int) : Option Int :=
  some (W (Int.tdiv (W (x0 + 16)) 8))

theorem ok_internal_bytealg_Cutover (x0 : Int) (r : Int) (h : M_internal_bytealg_Cutover x0 = some r) :
    FC Tryd.prog 47 [.int .i64 x0] [] (fun _ : Unit => True) (fun _ => .int .i64 r) (fun _ => []) :=
  by
    refine FC.of (T := TTx) Tryd.call47 Tryd.func47 rfl rfl fun w0 => ?_
    unfold M_internal_bytealg_Cutover at h
    refine JS.seq (JS.region (JO.reg ttOk 1 [] [] [] _ rfl ⟨trivial, rfl⟩ (JO.done rfl (JS.seq (JS.region ?_)))))
    have g2 : (8 : Int) ≠ 0 := by decide
    refine JO.reg ttOk 4 [(W (x0 + 16)), (W (Int.tdiv (W (x0 + 16)) 8))] [] [(2, .v (.int .i64 (W (Int.tdiv (W (x0 + 16)) 8))))] _ rfl ⟨⟨trivial, rfl⟩, ⟨g2, rfl⟩, ⟨rfl, trivial⟩, rfl⟩ (JO.done rfl ?_)
    cases h
    exact JS.ret ttOk () trivial rfl rfl [] rfl

def M_internal_bytealg_hashStrstring_L1 (x0 : List UInt8) (j10 : Int → Option (Int × Int)) (k6 : (Int × Int) → Option (Int × Int)) : (Int × Int) → Option (Int × Int) := fun (x2, x3) =>
  (bif (decide (x3 < (x0.length : Int))) then
  (guardO (0 ≤ x3 ∧ x3 < (x0.length : Int)) <|
  k6 ((IntKind.u32.wrap ((IntKind.u32.wrap (x2 * 16777619)) + (IntKind.u32.wrap (((at' x0 x3).toNat : Int))))), (W (x3 + 1))))
  else
  j10 x2)

def M_internal_bytealg_hashStrstring_L2 (j28 : Int → Option (Int × Int)) (k22 : (Int × Int × Int) → Option (Int × Int)) : (Int × Int × Int) → Option (Int × Int) := fun (x12, x13, x14) =>
  (bif (decide (0 < x14)) then
  (joinO (fun (x16 : Int) =>
  k22 (x16, (IntKind.u32.wrap (x13 * x13)), (Int.fdiv x14 (2 ^ (min (Int.toNat 1) (IntKind.bits .i64)))))) fun j17 =>
  (bif (!(decide ((W (((BitVec.ofInt (IntKind.bits .i64) x14 &&& BitVec.ofInt (IntKind.bits .i64) 1).toNat : Int))) = 0))) then
  j17 (IntKind.u32.wrap (x12 * x13))
  else
  j17 x12))
  else
  j28 x12)

def M_internal_bytealg_hashStrstring (x0 : List UInt8) : Option (Int × Int) :=
  (joinO (fun (x9 : Int) =>
  (joinO (fun (x27 : Int) =>
  some (x9, x27)) fun j28 =>
  (fixF (M_internal_bytealg_hashStrstring_L2 j28) FUEL (1, 16777619, (x0.length : Int))))) fun j10 =>
  (fixF (M_internal_bytealg_hashStrstring_L1 x0 j10) FUEL (0, 0)))

theorem ok_internal_bytealg_hashStrstring (x0 : List UInt8) (r : Int × Int) (h : M_internal_bytealg_hashStrstring x0 = some r) :
    FC Tryd.prog 50 [.string (bs x0)] [] (fun _ : Unit => True) (fun _ => .tuple #[.int .u32 r.1, .int .u32 r.2]) (fun _ => []) :=
  by
    refine FC.of (T := TTx) Tryd.call50 Tryd.func50 rfl rfl fun w0 => ?_
    unfold M_internal_bytealg_hashStrstring at h
    refine JS.seq (JS.region (JO.reg ttOk 2 [] [] [] _ rfl ⟨trivial, rfl⟩ (JO.done rfl (JS.seq (JS.region (JO.reg ttOk 1 [] [] [(4, .v (.int .u32 0))] _ rfl ⟨⟨rfl, trivial⟩, rfl⟩ (JO.done rfl (JS.seq (JS.seq (JS.region (JO.reg ttOk 1 [] [] [(5, .v (.int .i64 0))] _ rfl ⟨⟨rfl, trivial⟩, rfl⟩ (JO.done rfl ?_))))))))))))
    obtain ⟨j10, hj39, h⟩ := joinO_some h
    refine JS.blockJ (ι := Int) ⟨fun z => j10 z = some r, fun z => [(0, .v (.string (bs x0))), (4, .v (.int .u32 z))], fun z => .nil, fun z => [], fun z => [], fun z => 0⟩ ?_ ?_
    · refine JS.loop (ι := Nat × Int × Int) ⟨fun z => fixF (M_internal_bytealg_hashStrstring_L1 x0 j10) z.1 (z.2.1, z.2.2) = some r, fun z => [(0, .v (.string (bs x0))), (4, .v (.int .u32 z.2.1)), (5, .v (.int .i64 z.2.2))], fun z => .nil, fun z => [], fun z => [], fun z => z.1⟩ (FUEL, 0, 0) h ⟨rfl, rfl, rfl, trivial⟩ trivial [] rfl [] rfl ?_
      rintro ⟨n7, x2, x3⟩ h
      obtain ⟨n7, rfl, h⟩ := fixF_some h
      rw [M_internal_bytealg_hashStrstring_L1] at h
      refine JS.seq (JS.seq (JS.region (JO.reg ttOk 4 [] [] [(12, .v (.bool (decide (x3 < (x0.length : Int)))))] _ rfl ⟨⟨rfl, trivial⟩, rfl⟩ (JO.done rfl ?_))))
      refine JS.cond rfl (fun ht34 => ?_) (fun ht34 => ?_)
      · have h := condT h ht34
        refine JS.skip (JS.seq (JS.block (JS.region ?_)))
        obtain ⟨g4, h⟩ := guardO_some h
        refine JO.reg ttOk 8 [(IntKind.u32.wrap (x2 * 16777619)), (IntKind.u32.wrap (((at' x0 x3).toNat : Int))), (IntKind.u32.wrap ((IntKind.u32.wrap (x2 * 16777619)) + (IntKind.u32.wrap (((at' x0 x3).toNat : Int)))))] [] [(4, .v (.int .u32 (IntKind.u32.wrap ((IntKind.u32.wrap (x2 * 16777619)) + (IntKind.u32.wrap (((at' x0 x3).toNat : Int)))))))] _ rfl ⟨⟨trivial, rfl⟩, g4, ⟨trivial, rfl⟩, ⟨trivial, rfl⟩, ⟨rfl, trivial⟩, rfl⟩ (JO.done rfl (JS.endB (JS.region (JO.reg ttOk 3 [(W (x3 + 1))] [] [(5, .v (.int .i64 (W (x3 + 1))))] _ rfl ⟨⟨trivial, rfl⟩, ⟨rfl, trivial⟩, rfl⟩ (JO.done rfl (JS.endL (n7, (IntKind.u32.wrap ((IntKind.u32.wrap (x2 * 16777619)) + (IntKind.u32.wrap (((at' x0 x3).toNat : Int))))), (W (x3 + 1))) h (Nat.lt_succ_self _) ⟨rfl, rfl, rfl, trivial⟩ trivial [] rfl [] rfl))))))
      have h := condF h ht34
      refine JS.exit rfl (JS.endJ x2 h ⟨rfl, rfl, trivial⟩ trivial [] rfl [] rfl)
    rintro x9 h
    subst hj39
    refine JS.seq (JS.region (JO.reg ttOk 2 [] [] [(6, .v (.int .u32 1)), (7, .v (.int .u32 16777619))] _ rfl ⟨⟨rfl, rfl, trivial⟩, rfl⟩ (JO.done rfl (JS.seq (JS.seq (JS.region (JO.reg ttOk 3 [] [] [(8, .v (.int .i64 (x0.length : Int)))] _ rfl ⟨⟨rfl, trivial⟩, rfl⟩ (JO.done rfl ?_))))))))
    obtain ⟨j28, hj38, h⟩ := joinO_some h
    refine JS.blockJ (ι := Int) ⟨fun z => j28 z = some r, fun z => [(4, .v (.int .u32 x9)), (6, .v (.int .u32 z))], fun z => .nil, fun z => [], fun z => [], fun z => 0⟩ ?_ ?_
    · refine JS.loop (ι := Nat × Int × Int × Int) ⟨fun z => fixF (M_internal_bytealg_hashStrstring_L2 j28) z.1 (z.2.1, z.2.2.1, z.2.2.2) = some r, fun z => [(4, .v (.int .u32 x9)), (6, .v (.int .u32 z.2.1)), (7, .v (.int .u32 z.2.2.1)), (8, .v (.int .i64 z.2.2.2))], fun z => .nil, fun z => [], fun z => [], fun z => z.1⟩ (FUEL, 1, 16777619, (x0.length : Int)) h ⟨rfl, rfl, rfl, rfl, trivial⟩ trivial [] rfl [] rfl ?_
      rintro ⟨n23, x12, x13, x14⟩ h
      obtain ⟨n23, rfl, h⟩ := fixF_some h
      rw [M_internal_bytealg_hashStrstring_L2] at h
      refine JS.seq (JS.seq (JS.region (JO.reg ttOk 2 [] [] [(25, .v (.bool (decide (0 < x14))))] _ rfl ⟨⟨rfl, trivial⟩, rfl⟩ (JO.done rfl ?_))))
      refine JS.cond rfl (fun ht37 => ?_) (fun ht37 => ?_)
      · have h := condT h ht37
        refine JS.skip (JS.seq (JS.block ?_))
        obtain ⟨j17, hj36, h⟩ := joinO_some h
        refine JS.seqJ (ι := Int) ⟨fun z => j17 z = some r, fun z => [(4, .v (.int .u32 x9)), (6, .v (.int .u32 z)), (7, .v (.int .u32 x13)), (8, .v (.int .i64 x14))], fun z => .nil, fun z => [], fun z => [], fun z => 0⟩ ?_ ?_
        · refine JS.seq (JS.region (JO.reg ttOk 3 [(W (((BitVec.ofInt (IntKind.bits .i64) x14 &&& BitVec.ofInt (IntKind.bits .i64) 1).toNat : Int)))] [] [(30, .v (.bool (!(decide ((W (((BitVec.ofInt (IntKind.bits .i64) x14 &&& BitVec.ofInt (IntKind.bits .i64) 1).toNat : Int))) = 0)))))] _ rfl ⟨⟨trivial, rfl⟩, ⟨rfl, trivial⟩, rfl⟩ (JO.done rfl ?_)))
          refine JS.cond rfl (fun ht35 => ?_) (fun ht35 => ?_)
          · have h := condT h ht35
            refine JS.region (JO.reg ttOk 4 [(IntKind.u32.wrap (x12 * x13))] [] [(6, .v (.int .u32 (IntKind.u32.wrap (x12 * x13))))] _ rfl ⟨⟨trivial, rfl⟩, ⟨rfl, trivial⟩, rfl⟩ (JO.done rfl (JS.endJ (IntKind.u32.wrap (x12 * x13)) h ⟨rfl, rfl, rfl, rfl, trivial⟩ trivial [] rfl [] rfl)))
          have h := condF h ht35
          refine JS.skip (JS.endJ x12 h ⟨rfl, rfl, rfl, rfl, trivial⟩ trivial [] rfl [] rfl)
        rintro x16 h
        subst hj36
        refine JS.region (JO.reg ttOk 4 [(IntKind.u32.wrap (x13 * x13))] [] [(7, .v (.int .u32 (IntKind.u32.wrap (x13 * x13))))] _ rfl ⟨⟨trivial, rfl⟩, ⟨rfl, trivial⟩, rfl⟩ (JO.done rfl (JS.endB (JS.region ?_))))
        have g19 : (0 : Int) ≤ 1 := by decide
        refine JO.reg ttOk 3 [] [] [(8, .v (.int .i64 (Int.fdiv x14 (2 ^ (min (Int.toNat 1) (IntKind.bits .i64))))))] _ rfl ⟨g19, ⟨rfl, trivial⟩, rfl⟩ (JO.done rfl (JS.endL (n23, x16, (IntKind.u32.wrap (x13 * x13)), (Int.fdiv x14 (2 ^ (min (Int.toNat 1) (IntKind.bits .i64))))) h (Nat.lt_succ_self _) ⟨rfl, rfl, rfl, rfl, trivial⟩ trivial [] rfl [] rfl))
      have h := condF h ht37
      refine JS.exit rfl (JS.endJ x12 h ⟨rfl, rfl, trivial⟩ trivial [] rfl [] rfl)
    rintro x27 h
    subst hj38
    refine JS.seq (JS.region (JO.reg ttOk 4 [] [] [(2, .v (.int .u32 x9)), (3, .v (.int .u32 x27))] _ rfl ⟨⟨rfl, rfl, trivial⟩, rfl⟩ (JO.done rfl ?_)))
    cases h
    exact JS.ret ttOk () trivial rfl rfl [] rfl

def M_internal_bytealg_IndexRabinKarpstring_L1 (x0 : List UInt8) (x1 : List UInt8) (j14 : Int → Option Int) (k10 : (Int × Int) → Option Int) : (Int × Int) → Option Int := fun (x6, x7) =>
  (bif (decide (x7 < (x1.length : Int))) then
  (guardO (0 ≤ x7 ∧ x7 < (x0.length : Int)) <|
  k10 ((IntKind.u32.wrap ((IntKind.u32.wrap (x6 * 16777619)) + (IntKind.u32.wrap (((at' x0 x7).toNat : Int))))), (W (x7 + 1))))
  else
  j14 x6)

def M_internal_bytealg_IndexRabinKarpstring_L2 (x0 : List UInt8) (x1 : List UInt8) (y3 : Int) (y4 : Int) (j33 : Unit → Option Int) (k27 : (Int × Int) → Option Int) : (Int × Int) → Option Int := fun (x18, x19) =>
  (bif (decide (x19 < (x0.length : Int))) then
  (guardO (0 ≤ x19 ∧ x19 < (x0.length : Int)) <|
  (guardO (0 ≤ (W (x19 - (x1.length : Int))) ∧ (W (x19 - (x1.length : Int))) < (x0.length : Int)) <|
  (guardO (((decide ((IntKind.u32.wrap ((IntKind.u32.wrap ((IntKind.u32.wrap (x18 * 16777619)) + (IntKind.u32.wrap (((at' x0 x19).toNat : Int))))) - (IntKind.u32.wrap (y4 * (IntKind.u32.wrap (((at' x0 (W (x19 - (x1.length : Int)))).toNat : Int))))))) = y3)) = true) → 0 ≤ (W ((W (x19 + 1)) - (x1.length : Int))) ∧ (W ((W (x19 + 1)) - (x1.length : Int))) ≤ (W (x19 + 1)) ∧ (W (x19 + 1)) ≤ (x0.length : Int)) <|
  (bif (bif (decide ((IntKind.u32.wrap ((IntKind.u32.wrap ((IntKind.u32.wrap (x18 * 16777619)) + (IntKind.u32.wrap (((at' x0 x19).toNat : Int))))) - (IntKind.u32.wrap (y4 * (IntKind.u32.wrap (((at' x0 (W (x19 - (x1.length : Int)))).toNat : Int))))))) = y3)) then (decide ((sub' x0 (W ((W (x19 + 1)) - (x1.length : Int))) (W (x19 + 1))) = x1)) else false) then
  some (W ((W (x19 + 1)) - (x1.length : Int)))
  else
  k27 ((IntKind.u32.wrap ((IntKind.u32.wrap ((IntKind.u32.wrap (x18 * 16777619)) + (IntKind.u32.wrap (((at' x0 x19).toNat : Int))))) - (IntKind.u32.wrap (y4 * (IntKind.u32.wrap (((at' x0 (W (x19 - (x1.length : Int)))).toNat : Int))))))), (W (x19 + 1)))))))
  else
  j33 ())

def M_internal_bytealg_IndexRabinKarpstring (x0 : List UInt8) (x1 : List UInt8) : Option Int :=
  (bindO (M_internal_bytealg_hashStrstring x1) fun (y3, y4) =>
  (joinO (fun (x13 : Int) =>
  (guardO (((decide (x13 = y3)) = true) → 0 ≤ (0 : Int) ∧ (0 : Int) ≤ (x1.length : Int) ∧ (x1.length : Int) ≤ (x0.length : Int)) <|
  (bif (bif (decide (x13 = y3)) then (decide ((sub' x0 0 (x1.length : Int)) = x1)) else false) then
  some 0
  else
  (joinO (fun (_ : Unit) =>
  some (-1)) fun j33 =>
  (fixF (M_internal_bytealg_IndexRabinKarpstring_L2 x0 x1 y3 y4 j33) FUEL (x13, (x1.length : Int))))))) fun j14 =>
  (fixF (M_internal_bytealg_IndexRabinKarpstring_L1 x0 x1 j14) FUEL (0, 0))))

theorem ok_internal_bytealg_IndexRabinKarpstring (x0 : List UInt8) (x1 : List UInt8) (r : Int) (h : M_internal_bytealg_IndexRabinKarpstring x0 x1 = some r) :
    FC Tryd.prog 48 [.string (bs x0), .string (bs x1)] [] (fun _ : Unit => True) (fun _ => .int .i64 r) (fun _ => []) :=
  by
    refine FC.of (T := TTx) Tryd.call48 Tryd.func48 rfl rfl fun w0 => ?_
    unfold M_internal_bytealg_IndexRabinKarpstring at h
    refine JS.seq (JS.region (JO.reg ttOk 1 [] [] [] _ rfl ⟨trivial, rfl⟩ (JO.done rfl (JS.seq (JS.region (JO.reg ttOk 1 [] [] [(12, .v (.string (bs x1)))] _ rfl ⟨⟨rfl, trivial⟩, rfl⟩ ?_))))))
    obtain ⟨⟨y3, y4⟩, hy5, h⟩ := bindO_some h
    refine JO.call rfl rfl rfl rfl (ok_internal_bytealg_hashStrstring x1 _ hy5) rfl [] rfl rfl fun _ _ => JO.reg ttOk 5 [] [] [(5, .v (.int .u32 y3)), (6, .v (.int .u32 y4))] _ rfl ⟨⟨rfl, rfl, trivial⟩, rfl⟩ (JO.done rfl (JS.seq (JS.region (JO.reg ttOk 3 [] [] [(7, .v (.int .i64 (x1.length : Int)))] _ rfl ⟨⟨rfl, trivial⟩, rfl⟩ (JO.done rfl (JS.seq (JS.region (JO.reg ttOk 1 [] [] [(8, .v (.int .u32 0))] _ rfl ⟨⟨rfl, trivial⟩, rfl⟩ (JO.done rfl (JS.seq (JS.seq (JS.region (JO.reg ttOk 1 [] [] [(9, .v (.int .i64 0))] _ rfl ⟨⟨rfl, trivial⟩, rfl⟩ (JO.done rfl ?_))))))))))))))
    obtain ⟨j14, hj49, h⟩ := joinO_some h
    refine JS.blockJ (ι := Int) ⟨fun z => j14 z = some r, fun z => [(0, .v (.string (bs x0))), (1, .v (.string (bs x1))), (5, .v (.int .u32 y3)), (6, .v (.int .u32 y4)), (7, .v (.int .i64 (x1.length : Int))), (8, .v (.int .u32 z))], fun z => .nil, fun z => [], fun z => [], fun z => 0⟩ ?_ ?_
    · refine JS.loop (ι := Nat × Int × Int) ⟨fun z => fixF (M_internal_bytealg_IndexRabinKarpstring_L1 x0 x1 j14) z.1 (z.2.1, z.2.2) = some r, fun z => [(0, .v (.string (bs x0))), (1, .v (.string (bs x1))), (5, .v (.int .u32 y3)), (6, .v (.int .u32 y4)), (7, .v (.int .i64 (x1.length : Int))), (8, .v (.int .u32 z.2.1)), (9, .v (.int .i64 z.2.2))], fun z => .nil, fun z => [], fun z => [], fun z => z.1⟩ (FUEL, 0, 0) h ⟨rfl, rfl, rfl, rfl, rfl, rfl, rfl, trivial⟩ trivial [] rfl [] rfl ?_
      rintro ⟨n11, x6, x7⟩ h
      obtain ⟨n11, rfl, h⟩ := fixF_some h
      rw [M_internal_bytealg_IndexRabinKarpstring_L1] at h
      refine JS.seq (JS.seq (JS.region (JO.reg ttOk 3 [] [] [(20, .v (.bool (decide (x7 < (x1.length : Int)))))] _ rfl ⟨⟨rfl, trivial⟩, rfl⟩ (JO.done rfl ?_))))
      refine JS.cond rfl (fun ht41 => ?_) (fun ht41 => ?_)
      · have h := condT h ht41
        refine JS.skip (JS.seq (JS.block (JS.region ?_)))
        obtain ⟨g8, h⟩ := guardO_some h
        refine JO.reg ttOk 8 [(IntKind.u32.wrap (x6 * 16777619)), (IntKind.u32.wrap (((at' x0 x7).toNat : Int))), (IntKind.u32.wrap ((IntKind.u32.wrap (x6 * 16777619)) + (IntKind.u32.wrap (((at' x0 x7).toNat : Int)))))] [] [(8, .v (.int .u32 (IntKind.u32.wrap ((IntKind.u32.wrap (x6 * 16777619)) + (IntKind.u32.wrap (((at' x0 x7).toNat : Int)))))))] _ rfl ⟨⟨trivial, rfl⟩, g8, ⟨trivial, rfl⟩, ⟨trivial, rfl⟩, ⟨rfl, trivial⟩, rfl⟩ (JO.done rfl (JS.endB (JS.region (JO.reg ttOk 3 [(W (x7 + 1))] [] [(9, .v (.int .i64 (W (x7 + 1))))] _ rfl ⟨⟨trivial, rfl⟩, ⟨rfl, trivial⟩, rfl⟩ (JO.done rfl (JS.endL (n11, (IntKind.u32.wrap ((IntKind.u32.wrap (x6 * 16777619)) + (IntKind.u32.wrap (((at' x0 x7).toNat : Int))))), (W (x7 + 1))) h (Nat.lt_succ_self _) ⟨rfl, rfl, rfl, rfl, rfl, rfl, rfl, trivial⟩ trivial [] rfl [] rfl))))))
      have h := condF h ht41
      refine JS.exit rfl (JS.endJ x6 h ⟨rfl, rfl, rfl, rfl, rfl, rfl, trivial⟩ trivial [] rfl [] rfl)
    rintro x13 h
    subst hj49
    refine JS.seq (JS.seq (JS.region ?_))
    obtain ⟨g16, h⟩ := guardO_some h
    refine JO.reg ttOk 10 [] [] [(39, .v (.bool (bif (decide (x13 = y3)) then (decide ((sub' x0 0 (x1.length : Int)) = x1)) else false)))] _ rfl ⟨(fun q42 => (g16 q42)), ⟨rfl, trivial⟩, rfl⟩ (JO.done rfl ?_)
    refine JS.cond rfl (fun ht48 => ?_) (fun ht48 => ?_)
    · have h := condT h ht48
      refine JS.seq (JS.region (JO.reg ttOk 1 [] [] [(4, .v (.int .i64 0))] _ rfl ⟨⟨rfl, trivial⟩, rfl⟩ (JO.done rfl ?_)))
      cases h
      exact JS.ret ttOk () trivial rfl rfl [] rfl
    have h := condF h ht48
    refine JS.skip (JS.seq (JS.seq (JS.region (JO.reg ttOk 2 [] [] [(10, .v (.int .i64 (x1.length : Int)))] _ rfl ⟨⟨rfl, trivial⟩, rfl⟩ (JO.done rfl ?_)))))
    obtain ⟨j33, hj47, h⟩ := joinO_some h
    refine JS.blockJ (ι := Unit) ⟨fun _ => j33 () = some r, fun _ => [], fun _ => .nil, fun _ => [], fun _ => [], fun _ => 0⟩ ?_ ?_
    · refine JS.loop (ι := Nat × Int × Int) ⟨fun z => fixF (M_internal_bytealg_IndexRabinKarpstring_L2 x0 x1 y3 y4 j33) z.1 (z.2.1, z.2.2) = some r, fun z => [(0, .v (.string (bs x0))), (1, .v (.string (bs x1))), (5, .v (.int .u32 y3)), (6, .v (.int .u32 y4)), (7, .v (.int .i64 (x1.length : Int))), (8, .v (.int .u32 z.2.1)), (10, .v (.int .i64 z.2.2))], fun z => .nil, fun z => [], fun z => [], fun z => z.1⟩ (FUEL, x13, (x1.length : Int)) h ⟨rfl, rfl, rfl, rfl, rfl, rfl, rfl, trivial⟩ trivial [] rfl [] rfl ?_
      rintro ⟨n28, x18, x19⟩ h
      obtain ⟨n28, rfl, h⟩ := fixF_some h
      rw [M_internal_bytealg_IndexRabinKarpstring_L2] at h
      refine JS.seq (JS.seq (JS.region (JO.reg ttOk 4 [] [] [(44, .v (.bool (decide (x19 < (x0.length : Int)))))] _ rfl ⟨⟨rfl, trivial⟩, rfl⟩ (JO.done rfl ?_))))
      refine JS.cond rfl (fun ht46 => ?_) (fun ht46 => ?_)
      · have h := condT h ht46
        refine JS.skip (JS.block (JS.seq (JS.region (JO.reg ttOk 3 [(IntKind.u32.wrap (x18 * 16777619))] [] [(8, .v (.int .u32 (IntKind.u32.wrap (x18 * 16777619))))] _ rfl ⟨⟨trivial, rfl⟩, ⟨rfl, trivial⟩, rfl⟩ (JO.done rfl (JS.seq (JS.region ?_)))))))
        obtain ⟨g20, h⟩ := guardO_some h
        refine JO.reg ttOk 7 [(IntKind.u32.wrap (((at' x0 x19).toNat : Int))), (IntKind.u32.wrap ((IntKind.u32.wrap (x18 * 16777619)) + (IntKind.u32.wrap (((at' x0 x19).toNat : Int)))))] [] [(8, .v (.int .u32 (IntKind.u32.wrap ((IntKind.u32.wrap (x18 * 16777619)) + (IntKind.u32.wrap (((at' x0 x19).toNat : Int)))))))] _ rfl ⟨g20, ⟨trivial, rfl⟩, ⟨trivial, rfl⟩, ⟨rfl, trivial⟩, rfl⟩ (JO.done rfl (JS.seq (JS.region ?_)))
        obtain ⟨g21, h⟩ := guardO_some h
        refine JO.reg ttOk 11 [(W (x19 - (x1.length : Int))), (IntKind.u32.wrap (((at' x0 (W (x19 - (x1.length : Int)))).toNat : Int))), (IntKind.u32.wrap (y4 * (IntKind.u32.wrap (((at' x0 (W (x19 - (x1.length : Int)))).toNat : Int))))), (IntKind.u32.wrap ((IntKind.u32.wrap ((IntKind.u32.wrap (x18 * 16777619)) + (IntKind.u32.wrap (((at' x0 x19).toNat : Int))))) - (IntKind.u32.wrap (y4 * (IntKind.u32.wrap (((at' x0 (W (x19 - (x1.length : Int)))).toNat : Int)))))))] [] [(8, .v (.int .u32 (IntKind.u32.wrap ((IntKind.u32.wrap ((IntKind.u32.wrap (x18 * 16777619)) + (IntKind.u32.wrap (((at' x0 x19).toNat : Int))))) - (IntKind.u32.wrap (y4 * (IntKind.u32.wrap (((at' x0 (W (x19 - (x1.length : Int)))).toNat : Int)))))))))] _ rfl ⟨⟨trivial, rfl⟩, g21, ⟨trivial, rfl⟩, ⟨trivial, rfl⟩, ⟨trivial, rfl⟩, ⟨rfl, trivial⟩, rfl⟩ (JO.done rfl (JS.seq (JS.region (JO.reg ttOk 3 [(W (x19 + 1))] [] [(10, .v (.int .i64 (W (x19 + 1))))] _ rfl ⟨⟨trivial, rfl⟩, ⟨rfl, trivial⟩, rfl⟩ (JO.done rfl (JS.seq (JS.region ?_)))))))
        obtain ⟨g23, h⟩ := guardO_some h
        refine JO.reg ttOk 13 [(W ((W (x19 + 1)) - (x1.length : Int)))] [] [(77, .v (.bool (bif (decide ((IntKind.u32.wrap ((IntKind.u32.wrap ((IntKind.u32.wrap (x18 * 16777619)) + (IntKind.u32.wrap (((at' x0 x19).toNat : Int))))) - (IntKind.u32.wrap (y4 * (IntKind.u32.wrap (((at' x0 (W (x19 - (x1.length : Int)))).toNat : Int))))))) = y3)) then (decide ((sub' x0 (W ((W (x19 + 1)) - (x1.length : Int))) (W (x19 + 1))) = x1)) else false)))] _ rfl ⟨(fun q43 => ⟨trivial, rfl⟩), (fun q44 => (g23 q44)), ⟨rfl, trivial⟩, rfl⟩ (JO.done rfl ?_)
        refine JS.cond rfl (fun ht45 => ?_) (fun ht45 => ?_)
        · have h := condT h ht45
          refine JS.seq (JS.region (JO.reg ttOk 4 [(W ((W (x19 + 1)) - (x1.length : Int)))] [] [(4, .v (.int .i64 (W ((W (x19 + 1)) - (x1.length : Int)))))] _ rfl ⟨⟨trivial, rfl⟩, ⟨rfl, trivial⟩, rfl⟩ (JO.done rfl ?_)))
          cases h
          exact JS.ret ttOk () trivial rfl rfl [] rfl
        have h := condF h ht45
        refine JS.skip (JS.endB (JS.endL (n28, (IntKind.u32.wrap ((IntKind.u32.wrap ((IntKind.u32.wrap (x18 * 16777619)) + (IntKind.u32.wrap (((at' x0 x19).toNat : Int))))) - (IntKind.u32.wrap (y4 * (IntKind.u32.wrap (((at' x0 (W (x19 - (x1.length : Int)))).toNat : Int))))))), (W (x19 + 1))) h (Nat.lt_succ_self _) ⟨rfl, rfl, rfl, rfl, rfl, rfl, rfl, trivial⟩ trivial [] rfl [] rfl))
      have h := condF h ht46
      refine JS.exit rfl (JS.endJ () h trivial trivial [] rfl [] rfl)
    rintro _ h
    subst hj47
    refine JS.seq (JS.region (JO.reg ttOk 1 [] [] [(4, .v (.int .i64 (-1)))] _ rfl ⟨⟨rfl, trivial⟩, rfl⟩ (JO.done rfl ?_)))
    cases h
    exact JS.ret ttOk () trivial rfl rfl [] rfl

def M_internal_stringslite_Index (x0 : List UInt8) (x1 : List UInt8) : Option Int :=
  (bif (bif (decide ((x1.length : Int) = 0)) then true else (decide (x1 = x0))) then
  some 0
  else
  (bif (decide ((x1.length : Int) = 1)) then
  (guardO (0 ≤ (0 : Int) ∧ 0 < (x1.length : Int)) <|
  (bindO (M_internal_stringslite_IndexByte x0 (at' x1 0)) fun (y4 : Int) =>
  some y4))
  else
  (bif (decide ((x0.length : Int) ≤ (x1.length : Int))) then
  some (-1)
  else
  none)))

theorem ok_internal_stringslite_Index (x0 : List UInt8) (x1 : List UInt8) (r : Int) (h : M_internal_stringslite_Index x0 x1 = some r) :
    FC Tryd.prog 43 [.string (bs x0), .string (bs x1)] [] (fun _ : Unit => True) (fun _ => .int .i64 r) (fun _ => []) :=
  by
    refine FC.of (T := TTx) Tryd.call43 Tryd.func43 rfl rfl fun w0 => ?_
    unfold M_internal_stringslite_Index at h
    refine JS.seq (JS.region (JO.reg ttOk 1 [] [] [] _ rfl ⟨trivial, rfl⟩ (JO.done rfl (JS.seq (JS.region (JO.reg ttOk 3 [] [] [(5, .v (.int .i64 (x1.length : Int)))] _ rfl ⟨⟨rfl, trivial⟩, rfl⟩ (JO.done rfl (JS.seq (JS.block (JS.seq (JS.region (JO.reg ttOk 8 [] [] [(16, .v (.bool (bif (decide ((x1.length : Int) = 0)) then true else (decide (x1 = x0)))))] _ rfl ⟨⟨rfl, trivial⟩, rfl⟩ (JO.done rfl ?_)))))))))))))
    refine JS.cond rfl (fun ht11 => ?_) (fun ht11 => ?_)
    · have h := condT h ht11
      refine JS.seq (JS.region (JO.reg ttOk 1 [] [] [(4, .v (.int .i64 0))] _ rfl ⟨⟨rfl, trivial⟩, rfl⟩ (JO.done rfl ?_)))
      cases h
      exact JS.ret ttOk () trivial rfl rfl [] rfl
    have h := condF h ht11
    refine JS.seq (JS.region (JO.reg ttOk 3 [] [] [(24, .v (.bool (decide ((x1.length : Int) = 1))))] _ rfl ⟨⟨rfl, trivial⟩, rfl⟩ (JO.done rfl ?_)))
    refine JS.cond rfl (fun ht10 => ?_) (fun ht10 => ?_)
    · have h := condT h ht10
      refine JS.seq (JS.region ?_)
      obtain ⟨g3, h⟩ := guardO_some h
      refine JO.reg ttOk 3 [] [] [(27, .v (.string (bs x0))), (29, .v (.int .u8 ((at' x1 0).toNat : Int)))] _ rfl ⟨g3, ⟨rfl, rfl, trivial⟩, rfl⟩ ?_
      obtain ⟨y4, hy5, h⟩ := bindO_some h
      refine JO.call rfl rfl rfl rfl (ok_internal_stringslite_IndexByte x0 (at' x1 0) _ hy5) rfl [] rfl rfl fun _ _ => JO.reg ttOk 1 [] [] [(4, .v (.int .i64 y4))] _ rfl ⟨⟨rfl, trivial⟩, rfl⟩ (JO.done rfl ?_)
      cases h
      exact JS.ret ttOk () trivial rfl rfl [] rfl
    have h := condF h ht10
    refine JS.seq (JS.region (JO.reg ttOk 5 [] [] [(31, .v (.bool (decide ((x0.length : Int) ≤ (x1.length : Int)))))] _ rfl ⟨⟨rfl, trivial⟩, rfl⟩ (JO.done rfl ?_)))
    refine JS.cond rfl (fun ht9 => ?_) (fun ht9 => ?_)
    · have h := condT h ht9
      refine JS.seq (JS.region (JO.reg ttOk 1 [] [] [(4, .v (.int .i64 (-1)))] _ rfl ⟨⟨rfl, trivial⟩, rfl⟩ (JO.done rfl ?_)))
      cases h
      exact JS.ret ttOk () trivial rfl rfl [] rfl
    have h := condF h ht9
    refine JS.seq ?_
    cases h

def M_strings_Index (x0 : List UInt8) (x1 : List UInt8) : Option Int := match x1 with
  | [c] => some (Lib.indexByte x0 c)
  | _ => none

theorem ok_strings_Index (x0 : List UInt8) (x1 : List UInt8) (r : Int) (h : M_strings_Index x0 x1 = some r) : FV Tryd.prog 39 [.string (bs x0), .string (bs x1)] [] (.int .i64 r) := by
  match x1, h with
  | [c], h =>
    cases h
    refine FV.of_calls Tryd.call39 fun w => ?_
    exact Tryd.strings_Index_one (bs x0) c w
  | [], h => cases h
  | _ :: _ :: _, h => cases h

def M_strings_Count (x0 : List UInt8) (x1 : List UInt8) : Option Int := match x1 with
  | [c] => some (Lib.countByte x0 c : Int)
  | _ => none

theorem ok_strings_Count (x0 : List UInt8) (x1 : List UInt8) (r : Int) (h : M_strings_Count x0 x1 = some r) : FV Tryd.prog 38 [.string (bs x0), .string (bs x1)] [] (.int .i64 r) := by
  match x1, h with
  | [c], h =>
    cases h
    refine FV.of_calls Tryd.call38 fun w => ?_
    exact Tryd.strings_Count_one (bs x0) c w
  | [], h => cases h
  | _ :: _ :: _, h => cases h

def M_strings_genSplit_L1 (x0 : List UInt8) (x1 : List UInt8) (x2 : Int) (x12 : Int) (j40 : (List UInt8 × List (List UInt8) × Int) → Option (List (List UInt8))) (k30 : (List UInt8 × List (List UInt8) × Int) → Option (List (List UInt8))) : (List UInt8 × List (List UInt8) × Int) → Option (List (List UInt8)) := fun (x17, x18, x21) =>
  (bif (decide (x21 < (W ((min x12 (W ((x0.length : Int) + 1))) - 1)))) then
  (bindO (M_strings_Index x17 x1) fun (y22 : Int) =>
  (bif (decide (y22 < 0)) then
  j40 (x17, x18, x21)
  else
  (guardO (0 ≤ (0 : Int) ∧ (0 : Int) ≤ (W (y22 + x2)) ∧ (W (y22 + x2)) ≤ (x17.length : Int)) <|
  (guardO (0 ≤ x21 ∧ x21 < (x18.length : Int)) <|
  (guardO (0 ≤ (W (y22 + (x1.length : Int))) ∧ (W (y22 + (x1.length : Int))) ≤ (x17.length : Int) ∧ (x17.length : Int) ≤ (x17.length : Int)) <|
  k30 ((sub' x17 (W (y22 + (x1.length : Int))) (x17.length : Int)), (List.set x18 (Int.toNat x21) (sub' x17 0 (W (y22 + x2)))), (W (x21 + 1))))))))
  else
  j40 (x17, x18, x21))

def M_strings_genSplit (x0 : List UInt8) (x1 : List UInt8) (x2 : Int) (x3 : Int) : Option (List (List UInt8)) :=
  (bif (decide (x3 = 0)) then
  some ([])
  else
  (bif (decide (x1 = [])) then
  (bindO (M_strings_explode x0 x3) fun (y5 : List (List UInt8)) =>
  some y5)
  else
  (joinO (fun (x12 : Int) =>
  (guardO (0 ≤ (min x12 (W ((x0.length : Int) + 1))) ∧ (min x12 (W ((x0.length : Int) + 1))) ≤ 536870912) <|
  (joinO (fun ((x35, x36, x39) : List UInt8 × List (List UInt8) × Int) =>
  (guardO (0 ≤ x39 ∧ x39 < (x36.length : Int)) <|
  (guardO (0 ≤ (0 : Int) ∧ (0 : Int) ≤ (W (x39 + 1)) ∧ (W (x39 + 1)) ≤ ((List.set x36 (Int.toNat x39) x35).length : Int)) <|
  some (sub' (List.set x36 (Int.toNat x39) x35) 0 (W (x39 + 1)))))) fun j40 =>
  (fixF (M_strings_genSplit_L1 x0 x1 x2 x12 j40) FUEL (x0, (List.replicate (Int.toNat (min x12 (W ((x0.length : Int) + 1)))) []), 0))))) fun j13 =>
  (bif (decide (x3 < 0)) then
  (bindO (M_strings_Count x0 x1) fun (y9 : Int) =>
  j13 (W (y9 + 1)))
  else
  j13 x3))))

theorem ok_strings_genSplit (x0 : List UInt8) (x1 : List UInt8) (x2 : Int) (x3 : Int) (r : List (List UInt8)) (h : M_strings_genSplit x0 x1 x2 x3 = some r) :
    FC Tryd.prog 33 [.string (bs x0), .string (bs x1), .int .i64 x2, .int .i64 x3] [] (fun _ : Option Addr × Nat => True) (fun q => .slice q.1 r.length q.2) (fun q => [⟨.str, ⟨q.1, r.length, q.2⟩, r⟩]) :=
  by
    refine FC.of (T := TTx) Tryd.call33 Tryd.func33 rfl rfl fun w0 => ?_
    unfold M_strings_genSplit at h
    refine JS.seq (JS.region (JO.reg ttOk 1 [] [] [] _ rfl ⟨trivial, rfl⟩ (JO.done rfl (JS.seq (JS.seq (JS.region (JO.reg ttOk 2 [] [] [(13, .v (.bool (decide (x3 = 0))))] _ rfl ⟨⟨rfl, trivial⟩, rfl⟩ (JO.done rfl ?_))))))))
    refine JS.cond rfl (fun ht61 => ?_) (fun ht61 => ?_)
    · have h := condT h ht61
      refine JS.seq (JS.region (JO.reg ttOk 1 [] [] [(8, .v (.slice none 0 0))] _ rfl ⟨⟨rfl, trivial⟩, rfl⟩ (JO.done rfl ?_)))
      cases h
      refine JS.nilO .str Sl.nil rfl rfl (JS.ret ttOk (none, 0) trivial rfl rfl [0] rfl)
    have h := condF h ht61
    refine JS.skip (JS.seq (JS.seq (JS.region (JO.reg ttOk 2 [] [] [(15, .v (.bool (decide (x1 = []))))] _ rfl ⟨⟨rfl, trivial⟩, rfl⟩ (JO.done rfl ?_)))))
    refine JS.cond rfl (fun ht60 => ?_) (fun ht60 => ?_)
    · have h := condT h ht60
      refine JS.seq (JS.region (JO.reg ttOk 2 [] [] [(16, .v (.string (bs x0))), (17, .v (.int .i64 x3))] _ rfl ⟨⟨rfl, rfl, trivial⟩, rfl⟩ ?_))
      obtain ⟨y5, hy6, h⟩ := bindO_some h
      refine JO.call rfl rfl rfl rfl (ok_strings_explode x0 x3 _ hy6) rfl [] rfl rfl ?_
      rintro ⟨a7, c8⟩ -
      refine JO.reg ttOk 1 [] [] [(8, .v (.slice a7 y5.length c8))] _ rfl ⟨⟨rfl, trivial⟩, rfl⟩ (JO.done rfl ?_)
      cases h
      exact JS.ret ttOk (a7, c8) trivial rfl rfl [0] rfl
    have h := condF h ht60
    refine JS.skip ?_
    obtain ⟨j13, hj59, h⟩ := joinO_some h
    refine JS.seqJ (ι := Int) ⟨fun z => j13 z = some r, fun z => [(0, .v (.string (bs x0))), (1, .v (.string (bs x1))), (2, .v (.int .i64 x2)), (3, .v (.int .i64 z))], fun z => .nil, fun z => [], fun z => [], fun z => 0⟩ ?_ ?_
    · refine JS.seq (JS.region (JO.reg ttOk 2 [] [] [(20, .v (.bool (decide (x3 < 0))))] _ rfl ⟨⟨rfl, trivial⟩, rfl⟩ (JO.done rfl ?_)))
      refine JS.cond rfl (fun ht53 => ?_) (fun ht53 => ?_)
      · have h := condT h ht53
        refine JS.region (JO.reg ttOk 2 [] [] [(21, .v (.string (bs x0))), (22, .v (.string (bs x1)))] _ rfl ⟨⟨rfl, rfl, trivial⟩, rfl⟩ ?_)
        obtain ⟨y9, hy10, h⟩ := bindO_some h
        refine JO.call rfl rfl rfl rfl (ok_strings_Count x0 x1 _ hy10) rfl [] rfl rfl fun _ _ => JO.reg ttOk 2 [(W (y9 + 1))] [] [(3, .v (.int .i64 (W (y9 + 1))))] _ rfl ⟨⟨trivial, rfl⟩, ⟨rfl, trivial⟩, rfl⟩ (JO.done rfl (JS.endJ (W (y9 + 1)) h ⟨rfl, rfl, rfl, rfl, trivial⟩ trivial [] rfl [] rfl))
      have h := condF h ht53
      refine JS.skip (JS.endJ x3 h ⟨rfl, rfl, rfl, rfl, trivial⟩ trivial [] rfl [] rfl)
    rintro x12 h
    subst hj59
    refine JS.seq (JS.region (JO.reg ttOk 6 [(W ((x0.length : Int) + 1))] [] [(3, .v (.int .i64 (min x12 (W ((x0.length : Int) + 1)))))] _ rfl ⟨⟨trivial, rfl⟩, ⟨rfl, trivial⟩, rfl⟩ (JO.done rfl (JS.seq (JS.region (JO.reg ttOk 1 [] [] [(30, .v (.int .i64 (min x12 (W ((x0.length : Int) + 1)))))] _ rfl ⟨⟨rfl, trivial⟩, rfl⟩ ?_))))))
    obtain ⟨g15, h⟩ := guardO_some h
    refine JO.makeSlice ttOk rfl rfl rfl rfl rfl rfl rfl rfl (Int.toNat (min x12 (W ((x0.length : Int) + 1)))) (Int.toNat_of_nonneg g15.1).symm (by omega) .str rfl rfl rfl rfl rfl fun a16 => JO.reg ttOk 1 [] [] [(9, .v (.slice a16 (Int.toNat (min x12 (W ((x0.length : Int) + 1)))) (Int.toNat (min x12 (W ((x0.length : Int) + 1))))))] _ rfl ⟨⟨rfl, trivial⟩, rfl⟩ (JO.done rfl (JS.seq (JS.region (JO.reg ttOk 3 [(W ((min x12 (W ((x0.length : Int) + 1))) - 1))] [] [(3, .v (.int .i64 (W ((min x12 (W ((x0.length : Int) + 1))) - 1))))] _ rfl ⟨⟨trivial, rfl⟩, ⟨rfl, trivial⟩, rfl⟩ (JO.done rfl (JS.seq (JS.region (JO.reg ttOk 1 [] [] [(10, .v (.int .i64 0))] _ rfl ⟨⟨rfl, trivial⟩, rfl⟩ (JO.done rfl (JS.seq ?_))))))))))
    obtain ⟨j40, hj58, h⟩ := joinO_some h
    refine JS.blockJ (ι := List UInt8 × List (List UInt8) × Int × Option Addr × Nat) ⟨fun z => j40 (z.1, z.2.1, z.2.2.1) = some r, fun z => [(0, .v (.string (bs z.1))), (9, .v (.slice z.2.2.2.1 z.2.1.length z.2.2.2.2)), (10, .v (.int .i64 z.2.2.1))], fun z => .nil, fun z => [], fun z => [⟨.str, ⟨z.2.2.2.1, z.2.1.length, z.2.2.2.2⟩, z.2.1⟩], fun z => 0⟩ ?_ ?_
    · refine JS.loop (ι := Nat × List UInt8 × List (List UInt8) × Int × Option Addr × Nat) ⟨fun z => fixF (M_strings_genSplit_L1 x0 x1 x2 x12 j40) z.1 (z.2.1, z.2.2.1, z.2.2.2.1) = some r, fun z => [(0, .v (.string (bs z.2.1))), (1, .v (.string (bs x1))), (2, .v (.int .i64 x2)), (3, .v (.int .i64 (W ((min x12 (W ((x0.length : Int) + 1))) - 1)))), (9, .v (.slice z.2.2.2.2.1 z.2.2.1.length z.2.2.2.2.2)), (10, .v (.int .i64 z.2.2.2.1))], fun z => .nil, fun z => [], fun z => [⟨.str, ⟨z.2.2.2.2.1, z.2.2.1.length, z.2.2.2.2.2⟩, z.2.2.1⟩], fun z => z.1⟩ (FUEL, x0, (List.replicate (Int.toNat (min x12 (W ((x0.length : Int) + 1)))) []), 0, a16, (Int.toNat (min x12 (W ((x0.length : Int) + 1))))) h ⟨rfl, rfl, rfl, rfl, (by simp only [List.length_set, List.length_replicate, pickO, getF]; rfl), rfl, trivial⟩ trivial [] rfl [0] (by simp only [List.length_set, List.length_replicate, pickO, getF]; rfl) ?_
      rintro ⟨n31, x17, x18, x21, a19, c20⟩ h
      obtain ⟨n31, rfl, h⟩ := fixF_some h
      rw [M_strings_genSplit_L1] at h
      refine JS.seq (JS.seq (JS.region (JO.reg ttOk 3 [] [] [(36, .v (.bool (decide (x21 < (W ((min x12 (W ((x0.length : Int) + 1))) - 1))))))] _ rfl ⟨⟨rfl, trivial⟩, rfl⟩ (JO.done rfl ?_))))
      refine JS.cond rfl (fun ht56 => ?_) (fun ht56 => ?_)
      · have h := condT h ht56
        refine JS.skip (JS.block (JS.seq (JS.region (JO.reg ttOk 2 [] [] [(37, .v (.string (bs x17))), (38, .v (.string (bs x1)))] _ rfl ⟨⟨rfl, rfl, trivial⟩, rfl⟩ ?_))))
        obtain ⟨y22, hy23, h⟩ := bindO_some h
        refine JO.call rfl rfl rfl rfl (ok_strings_Index x17 x1 _ hy23) rfl [] rfl rfl fun _ _ => JO.reg ttOk 1 [] [] [(11, .v (.int .i64 y22))] _ rfl ⟨⟨rfl, trivial⟩, rfl⟩ (JO.done rfl (JS.seq (JS.seq (JS.region (JO.reg ttOk 2 [] [] [(41, .v (.bool (decide (y22 < 0))))] _ rfl ⟨⟨rfl, trivial⟩, rfl⟩ (JO.done rfl ?_))))))
        refine JS.cond rfl (fun ht55 => ?_) (fun ht55 => ?_)
        · have h := condT h ht55
          refine JS.exit rfl (JS.endJ (x17, x18, x21, a19, c20) h ⟨rfl, rfl, rfl, trivial⟩ trivial [] rfl [0] rfl)
        have h := condF h ht55
        refine JS.skip (JS.seq (JS.region ?_))
        obtain ⟨g24, h⟩ := guardO_some h
        refine JO.know 0 rfl fun hs54 => ?_
        obtain ⟨g26, h⟩ := guardO_some h
        refine JO.reg ttOk 8 [(W (y22 + x2))] [] [(48, .v (.string (bs (sub' x17 0 (W (y22 + x2)))))), (49, .ep ⟨a19, x18.length, c20⟩ (Int.toNat x21 * 1))] _ rfl ⟨⟨trivial, rfl⟩, g24, hs54.ix g26, ⟨rfl, rfl, trivial⟩, rfl⟩ (JO.storeE ttOk rfl rfl rfl rfl rfl rfl rfl rfl rfl [0] (fs := []) rfl (Int.toNat x21) 0 (at' x18 x21) (sub' x17 0 (W (y22 + x2))) ⟨at_some g26, rfl⟩ ⟨rfl, rfl, rfl⟩ (JO.done rfl (JS.seq (JS.region ?_))))
        obtain ⟨g27, h⟩ := guardO_some h
        refine JO.reg ttOk 7 [(W (y22 + (x1.length : Int)))] [] [(0, .v (.string (bs (sub' x17 (W (y22 + (x1.length : Int))) (x17.length : Int)))))] _ rfl ⟨⟨trivial, rfl⟩, g27, ⟨rfl, trivial⟩, rfl⟩ (JO.done rfl (JS.region (JO.reg ttOk 3 [(W (x21 + 1))] [] [(10, .v (.int .i64 (W (x21 + 1))))] _ rfl ⟨⟨trivial, rfl⟩, ⟨rfl, trivial⟩, rfl⟩ (JO.done rfl (JS.endB (JS.endL (n31, (sub' x17 (W (y22 + (x1.length : Int))) (x17.length : Int)), (List.set x18 (Int.toNat x21) (sub' x17 0 (W (y22 + x2)))), (W (x21 + 1)), a19, c20) h (Nat.lt_succ_self _) ⟨rfl, rfl, rfl, rfl, (by simp only [List.length_set, List.length_replicate, pickO, getF]; rfl), rfl, trivial⟩ trivial [] rfl [0] (by simp only [List.length_set, List.length_replicate, pickO, getF]; rfl)))))))
      have h := condF h ht56
      refine JS.exit rfl (JS.endJ (x17, x18, x21, a19, c20) h ⟨rfl, rfl, rfl, trivial⟩ trivial [] rfl [0] rfl)
    rintro ⟨x35, x36, x39, a37, c38⟩ h
    subst hj58
    refine JS.seq (JS.region (JO.know 0 rfl fun hs57 => ?_))
    obtain ⟨g45, h⟩ := guardO_some h
    refine JO.reg ttOk 4 [] [] [(60, .v (.string (bs x35))), (61, .ep ⟨a37, x36.length, c38⟩ (Int.toNat x39 * 1))] _ rfl ⟨hs57.ix g45, ⟨rfl, rfl, trivial⟩, rfl⟩ (JO.storeE ttOk rfl rfl rfl rfl rfl rfl rfl rfl rfl [0] (fs := []) rfl (Int.toNat x39) 0 (at' x36 x39) x35 ⟨at_some g45, rfl⟩ ⟨rfl, rfl, rfl⟩ (JO.done rfl (JS.seq (JS.region (JO.reg ttOk 3 [(W (x39 + 1))] [] [(62, .v (.slice a37 x36.length c38)), (64, .v (.int .i64 (W (x39 + 1))))] _ rfl ⟨⟨trivial, rfl⟩, ⟨rfl, rfl, trivial⟩, rfl⟩ ?_)))))
    obtain ⟨g46, h⟩ := guardO_some h
    refine JO.sliceO' ttOk rfl rfl rfl rfl rfl rfl rfl rfl [0] rfl (0 : Int) (W (x39 + 1)) rfl rfl g46 rfl fun a47 c48 => JO.reg ttOk 1 [] [] [(8, .v (.slice a47 (sub' (List.set x36 (Int.toNat x39) x35) 0 (W (x39 + 1))).length c48))] _ rfl ⟨⟨rfl, trivial⟩, rfl⟩ (JO.done rfl ?_)
    cases h
    exact JS.ret ttOk (a47, c48) trivial rfl rfl [0] rfl

def M_strings_Split (x0 : List UInt8) (x1 : List UInt8) : Option (List (List UInt8)) :=
  (bindO (M_strings_genSplit x0 x1 0 (-1)) fun (y3 : List (List UInt8)) =>
  some y3)

theorem ok_strings_Split (x0 : List UInt8) (x1 : List UInt8) (r : List (List UInt8)) (h : M_strings_Split x0 x1 = some r) :
    FC Tryd.prog 18 [.string (bs x0), .string (bs x1)] [] (fun _ : Option Addr × Nat => True) (fun q => .slice q.1 r.length q.2) (fun q => [⟨.str, ⟨q.1, r.length, q.2⟩, r⟩]) :=
  by
    refine FC.of (T := TTx) Tryd.call18 Tryd.func18 rfl rfl fun w0 => ?_
    unfold M_strings_Split at h
    refine JS.seq (JS.region (JO.reg ttOk 1 [] [] [] _ rfl ⟨trivial, rfl⟩ (JO.done rfl (JS.seq (JS.region (JO.reg ttOk 2 [] [] [(5, .v (.string (bs x0))), (6, .v (.string (bs x1)))] _ rfl ⟨⟨rfl, rfl, trivial⟩, rfl⟩ ?_))))))
    obtain ⟨y3, hy4, h⟩ := bindO_some h
    refine JO.call rfl rfl rfl rfl (ok_strings_genSplit x0 x1 0 (-1) _ hy4) rfl [] rfl rfl ?_
    rintro ⟨a5, c6⟩ -
    refine JO.reg ttOk 1 [] [] [(4, .v (.slice a5 y3.length c6))] _ rfl ⟨⟨rfl, trivial⟩, rfl⟩ (JO.done rfl ?_)
    cases h
    exact JS.ret ttOk (a5, c6) trivial rfl rfl [0] rfl

def M_i_KeyText (x0 : Int × Int) : Option (List UInt8) :=
  (bindO (M_i_KeyOk x0) fun (y2 : Bool) =>
  (bif (!y2) then
  some ([])
  else
  (bif (decide (x0.1 = 1)) then
  (bif (decide (x0.2 = 32)) then
  some ([83, 80, 67] : List UInt8)
  else
  (bindO (M_i_TextOf ([x0.2] : List Int)) fun (y5 : List UInt8) =>
  some y5))
  else
  (bif (decide (x0.1 = 2)) then
  (bindO (M_i_TextOf ([x0.2] : List Int)) fun (y9 : List UInt8) =>
  (guardO (((([67, 45] : List UInt8).length + y9.length : Nat) : Int) ≤ 9223372036854775807) <|
  some (([67, 45] : List UInt8) ++ y9)))
  else
  (bif (decide (x0.1 = 3)) then
  (bindO (M_i_TextOf ([x0.2] : List Int)) fun (y13 : List UInt8) =>
  (guardO (((([77, 45] : List UInt8).length + y13.length : Nat) : Int) ≤ 9223372036854775807) <|
  some (([77, 45] : List UInt8) ++ y13)))
  else
  (bindO (M_strings_Split ([69, 78, 84, 69, 82, 32, 66, 65, 67, 75, 32, 84, 65, 66, 32, 69, 83, 67, 32, 85, 80, 32, 68, 79, 87, 78, 32, 82, 73, 71, 72, 84, 32, 76, 69, 70, 84, 32, 72, 79, 77, 69, 32, 69, 78, 68, 32, 68, 69, 76, 69, 84, 69, 32, 77, 66, 65, 67, 75, 32, 66, 65, 68] : List UInt8) ([32] : List UInt8)) fun (y16 : List (List UInt8)) =>
  (guardO (0 ≤ (W (x0.1 - 4)) ∧ (W (x0.1 - 4)) < (y16.length : Int)) <|
  some (at' y16 (W (x0.1 - 4))))))))))

theorem ok_i_KeyText (x0 : Int × Int) (r : List UInt8) (h : M_i_KeyText x0 = some r) :
    FC Tryd.prog 9 [.agg #[.int .i64 x0.1, .int .i64 x0.2]] [] (fun _ : Unit => True) (fun _ => .string (bs r)) (fun _ => []) :=
  by
    refine FC.of (T := TTx) Tryd.call9 Tryd.func9 rfl rfl fun w0 => ?_
    unfold M_i_KeyText at h
    refine JS.seq (JS.region (JO.regB ttOk 2 [] [1] [(1, .bp 1 0)] (.new 1 24 [.int .i64 x0.1, .int .i64 x0.2] .nil) rfl ⟨⟨rfl, trivial⟩, ⟨rfl, rfl, rfl, rfl, trivial⟩⟩ (JO.done rfl (JS.seq (JS.seq (JS.region (JO.reg ttOk 1 [] [] [(3, .v (.agg #[.int .i64 x0.1, .int .i64 x0.2]))] _ rfl ⟨⟨rfl, trivial⟩, rfl⟩ ?_)))))))
    obtain ⟨y2, hy3, h⟩ := bindO_some h
    refine JO.call rfl rfl rfl rfl (ok_i_KeyOk x0 _ hy3) rfl [] rfl rfl fun _ _ => JO.reg ttOk 1 [] [] [(5, .v (.bool (!y2)))] _ rfl ⟨⟨rfl, trivial⟩, rfl⟩ (JO.done rfl ?_)
    refine JS.cond rfl (fun ht36 => ?_) (fun ht36 => ?_)
    · have h := condT h ht36
      refine JS.seq (JS.region (JO.reg ttOk 1 [] [] [(2, .v (.string (bs [])))] _ rfl ⟨⟨rfl, trivial⟩, rfl⟩ (JO.done rfl ?_)))
      cases h
      exact JS.ret ttOk () trivial rfl rfl [] rfl
    have h := condF h ht36
    refine JS.skip (JS.seq (JS.seq (JS.region (JO.reg ttOk 2 [] [] [(7, .v (.int .i64 x0.1))] _ rfl ⟨⟨rfl, trivial⟩, rfl⟩ (JO.done rfl (JS.block (JS.seq (JS.region (JO.reg ttOk 2 [] [] [(8, .v (.bool (decide (x0.1 = 1))))] _ rfl ⟨⟨rfl, trivial⟩, rfl⟩ (JO.done rfl ?_))))))))))
    refine JS.cond rfl (fun ht35 => ?_) (fun ht35 => ?_)
    · have h := condT h ht35
      refine JS.seq (JS.seq (JS.region (JO.reg ttOk 3 [] [] [(12, .v (.bool (decide (x0.2 = 32))))] _ rfl ⟨⟨rfl, trivial⟩, rfl⟩ (JO.done rfl ?_))))
      refine JS.cond rfl (fun ht29 => ?_) (fun ht29 => ?_)
      · have h := condT h ht29
        refine JS.seq (JS.region (JO.reg ttOk 1 [] [] [(2, .v (.string (bs ([83, 80, 67] : List UInt8))))] _ rfl ⟨⟨rfl, trivial⟩, rfl⟩ (JO.done rfl ?_)))
        cases h
        exact JS.ret ttOk () trivial rfl rfl [] rfl
      have h := condF h ht29
      refine JS.skip (JS.seq (JS.region (JO.reg ttOk 2 [] [] [(14, .v (.int .i64 x0.2))] _ rfl ⟨⟨rfl, trivial⟩, rfl⟩ ?_)))
      refine JO.ofK rfl (JK.buildSlice ttOk rfl rfl rfl rfl rfl rfl rfl rfl rfl rfl rfl [] rfl (.int .i64) [x0.2] ⟨rfl, rfl⟩ rfl rfl fun a4 => JO.toK ?_)
      obtain ⟨y5, hy6, h⟩ := bindO_some h
      refine JO.call rfl rfl rfl rfl (ok_i_TextOf ([x0.2] : List Int) a4 (([x0.2] : List Int).length) (([x0.2] : List Int).length) rfl _ hy6) rfl [0] rfl rfl fun _ _ => JO.reg ttOk 1 [] [] [(2, .v (.string (bs y5)))] _ rfl ⟨⟨rfl, trivial⟩, rfl⟩ (JO.done rfl ?_)
      cases h
      exact JS.ret ttOk () trivial rfl rfl [] rfl
    have h := condF h ht35
    refine JS.seq (JS.region (JO.reg ttOk 2 [] [] [(17, .v (.bool (decide (x0.1 = 2))))] _ rfl ⟨⟨rfl, trivial⟩, rfl⟩ (JO.done rfl ?_)))
    refine JS.cond rfl (fun ht34 => ?_) (fun ht34 => ?_)
    · have h := condT h ht34
      refine JS.seq (JS.region (JO.reg ttOk 2 [] [] [(20, .v (.int .i64 x0.2))] _ rfl ⟨⟨rfl, trivial⟩, rfl⟩ ?_))
      refine JO.ofK rfl (JK.buildSlice ttOk rfl rfl rfl rfl rfl rfl rfl rfl rfl rfl rfl [] rfl (.int .i64) [x0.2] ⟨rfl, rfl⟩ rfl rfl fun a8 => JO.toK ?_)
      obtain ⟨y9, hy10, h⟩ := bindO_some h
      refine JO.call rfl rfl rfl rfl (ok_i_TextOf ([x0.2] : List Int) a8 (([x0.2] : List Int).length) (([x0.2] : List Int).length) rfl _ hy10) rfl [0] rfl rfl fun _ _ => ?_
      obtain ⟨g11, h⟩ := guardO_some h
      refine JO.reg ttOk 2 [] [] [(2, .v (.string (bs (([67, 45] : List UInt8) ++ y9))))] _ rfl ⟨g11, ⟨rfl, trivial⟩, rfl⟩ (JO.done rfl ?_)
      cases h
      exact JS.ret ttOk () trivial rfl rfl [] rfl
    have h := condF h ht34
    refine JS.seq (JS.region (JO.reg ttOk 2 [] [] [(24, .v (.bool (decide (x0.1 = 3))))] _ rfl ⟨⟨rfl, trivial⟩, rfl⟩ (JO.done rfl ?_)))
    refine JS.cond rfl (fun ht33 => ?_) (fun ht33 => ?_)
    · have h := condT h ht33
      refine JS.seq (JS.region (JO.reg ttOk 2 [] [] [(27, .v (.int .i64 x0.2))] _ rfl ⟨⟨rfl, trivial⟩, rfl⟩ ?_))
      refine JO.ofK rfl (JK.buildSlice ttOk rfl rfl rfl rfl rfl rfl rfl rfl rfl rfl rfl [] rfl (.int .i64) [x0.2] ⟨rfl, rfl⟩ rfl rfl fun a12 => JO.toK ?_)
      obtain ⟨y13, hy14, h⟩ := bindO_some h
      refine JO.call rfl rfl rfl rfl (ok_i_TextOf ([x0.2] : List Int) a12 (([x0.2] : List Int).length) (([x0.2] : List Int).length) rfl _ hy14) rfl [0] rfl rfl fun _ _ => ?_
      obtain ⟨g15, h⟩ := guardO_some h
      refine JO.reg ttOk 2 [] [] [(2, .v (.string (bs (([77, 45] : List UInt8) ++ y13))))] _ rfl ⟨g15, ⟨rfl, trivial⟩, rfl⟩ (JO.done rfl ?_)
      cases h
      exact JS.ret ttOk () trivial rfl rfl [] rfl
    have h := condF h ht33
    refine JS.skip (JS.endB (JS.seq ?_))
    obtain ⟨y16, hy17, h⟩ := bindO_some h
    obtain ⟨g21, h⟩ := guardO_some h
    refine JS.regionA rfl (.new 1 24 [.int .i64 x0.1, .int .i64 x0.2] .nil) [] [3, 6] ⟨rfl, rfl, rfl, rfl, trivial⟩ rfl (fun be23 => ?_)
    refine JA.regL ttOk panic_cx 6 [1] rfl (by kernel_rfl) [] [(32, .bp 1 0)] rfl ⟨rfl, trivial⟩ (JA.reg ttOk panic_cx true 5 [2] rfl (by kernel_rfl) [] [(32, .bp 1 0), (33, .v (.int .i64 x0.1))] ⟨rfl, rfl, rfl, rfl, trivial⟩ [] rfl rfl ⟨rfl, rfl, trivial⟩ (JA.regL ttOk panic_cx 4 [3] rfl (by kernel_rfl) [(W (x0.1 - 4))] [(32, .bp 1 0), (33, .v (.int .i64 x0.1)), (34, .v (.int .i64 (W (x0.1 - 4))))] rfl ⟨⟨trivial, rfl⟩, ⟨rfl, rfl, rfl, trivial⟩⟩ (JA.one 0 (by kernel_rfl) (JK.call rfl rfl rfl rfl (ok_strings_Split ([69, 78, 84, 69, 82, 32, 66, 65, 67, 75, 32, 84, 65, 66, 32, 69, 83, 67, 32, 85, 80, 32, 68, 79, 87, 78, 32, 82, 73, 71, 72, 84, 32, 76, 69, 70, 84, 32, 72, 79, 77, 69, 32, 69, 78, 68, 32, 68, 69, 76, 69, 84, 69, 32, 77, 66, 65, 67, 75, 32, 66, 65, 68] : List UInt8) ([32] : List UInt8) _ hy17) rfl [] rfl rfl ?_))))
    rintro ⟨a18, c19⟩ -
    refine JA.next ⟨rfl, rfl, rfl, rfl, trivial⟩ [] rfl (JK.know 0 rfl fun hs32 => JA.regL ttOk panic_cx 2 [4] rfl (by kernel_rfl) [] [(31, .v (.slice a18 y16.length c19)), (32, .bp 1 0), (33, .v (.int .i64 x0.1)), (34, .v (.int .i64 (W (x0.1 - 4)))), (35, .ep ⟨a18, y16.length, c19⟩ (Int.toNat (W (x0.1 - 4)) * 1))] rfl ⟨hs32.ix g21, ⟨rfl, rfl, rfl, rfl, rfl, trivial⟩⟩ (JA.one 5 (by kernel_rfl) (JK.load ttOk rfl rfl rfl rfl rfl rfl rfl 0 rfl rfl (Int.toNat (W (x0.1 - 4))) 0 (at' y16 (W (x0.1 - 4))) ⟨at_some g21, rfl⟩ rfl rfl (JA.next ⟨rfl, rfl, rfl, rfl, trivial⟩ [] rfl (JA.regL ttOk panic_cx 0 [6] rfl (by kernel_rfl) [] [(2, .v (.string (bs (at' y16 (W (x0.1 - 4)))))), (31, .v (.slice a18 y16.length c19)), (32, .bp 1 0), (33, .v (.int .i64 x0.1)), (34, .v (.int .i64 (W (x0.1 - 4)))), (35, .ep ⟨a18, y16.length, c19⟩ (Int.toNat (W (x0.1 - 4)) * 1)), (36, .v (.string (bs (at' y16 (W (x0.1 - 4))))))] rfl ⟨rfl, rfl, rfl, rfl, rfl, rfl, rfl, trivial⟩ (JA.done (by kernel_rfl) (JS.boxes (B' := .nil) trivial ?_)))))))
    cases h
    exact JS.ret ttOk () trivial rfl rfl [] rfl

def M_i_RunesOf_L1 (x0 : List UInt8) (j29 : (List Int) → Option (List Int × Bool)) (k22 : (List Int × Int) → Option (List Int × Bool)) : (List Int × Int) → Option (List Int × Bool) := fun (x4, x10) =>
  (bif (decide (x10 < (x0.length : Int))) then
  (bindO (M_i_RuneRead x0 x10) fun (y11, y12) =>
  (bif (decide (y12 = 0)) then
  some ([], false)
  else
  (guardO (x4.length + ([y11] : List Int).length ≤ 536870912) <|
  k22 ((x4 ++ ([y11] : List Int)), (W (x10 + y12))))))
  else
  j29 x4)

def M_i_RunesOf (x0 : List UInt8) : Option (List Int × Bool) :=
  (bif (decide (65536 < (x0.length : Int))) then
  some ([], false)
  else
  (joinO (fun (x26 : List Int) =>
  some (x26, true)) fun j29 =>
  (fixF (M_i_RunesOf_L1 x0 j29) FUEL (([] : List Int), 0))))

theorem ok_i_RunesOf (x0 : List UInt8) (r : List Int × Bool) (h : M_i_RunesOf x0 = some r) :
    FC Tryd.prog 19 [.string (bs x0)] [] (fun _ : Option Addr × Nat => True) (fun q => .tuple #[.slice q.1 r.1.length q.2, .bool r.2]) (fun q => [⟨(.int .i64), ⟨q.1, r.1.length, q.2⟩, r.1⟩]) :=
  by
    refine FC.of (T := TTx) Tryd.call19 Tryd.func19 rfl rfl fun w0 => ?_
    unfold M_i_RunesOf at h
    refine JS.seq (JS.region (JO.reg ttOk 2 [] [] [] _ rfl ⟨trivial, rfl⟩ (JO.done rfl (JS.seq (JS.seq (JS.region (JO.reg ttOk 3 [] [] [(11, .v (.bool (decide (65536 < (x0.length : Int)))))] _ rfl ⟨⟨rfl, trivial⟩, rfl⟩ (JO.done rfl ?_))))))))
    refine JS.cond rfl (fun ht37 => ?_) (fun ht37 => ?_)
    · have h := condT h ht37
      refine JS.seq (JS.region (JO.reg ttOk 2 [] [] [(2, .v (.slice none 0 0)), (3, .v (.bool false))] _ rfl ⟨⟨rfl, rfl, trivial⟩, rfl⟩ (JO.done rfl ?_)))
      cases h
      refine JS.nilO (.int .i64) Sl.nil rfl rfl (JS.ret ttOk (none, 0) trivial rfl rfl [0] rfl)
    have h := condF h ht37
    refine JS.skip (JS.seq (JS.region (JO.reg ttOk 1 [] [] [(4, .v (.slice none 0 0))] _ rfl ⟨⟨rfl, trivial⟩, rfl⟩ (JO.done rfl (JS.seq (JS.region (JO.reg ttOk 1 [] [] [(12, .v (.string (bs x0)))] _ rfl ⟨⟨rfl, trivial⟩, rfl⟩ (JO.bytesOf ttOk rfl rfl rfl rfl rfl rfl rfl rfl rfl fun a2 c3 => JO.reg ttOk 1 [] [] [(5, .v (.slice a2 x0.length c3))] _ rfl ⟨⟨rfl, trivial⟩, rfl⟩ (JO.done rfl (JS.seq (JS.seq (JS.region (JO.reg ttOk 1 [] [] [(6, .v (.int .i64 0))] _ rfl ⟨⟨rfl, trivial⟩, rfl⟩ (JO.done rfl ?_))))))))))))))
    obtain ⟨j29, hj36, h⟩ := joinO_some h
    refine JS.blockJ (ι := List Int × Option Addr × Nat) ⟨fun z => j29 z.1 = some r, fun z => [(4, .v (.slice z.2.1 z.1.length z.2.2))], fun z => .nil, fun z => [], fun z => [⟨(.int .i64), ⟨z.2.1, z.1.length, z.2.2⟩, z.1⟩], fun z => 0⟩ ?_ ?_
    · refine JS.nilO (.int .i64) Sl.nil rfl rfl (JS.loop (ι := Nat × List Int × Int × Option Addr × Nat) ⟨fun z => fixF (M_i_RunesOf_L1 x0 j29) z.1 (z.2.1, z.2.2.1) = some r, fun z => [(4, .v (.slice z.2.2.2.1 z.2.1.length z.2.2.2.2)), (5, .v (.slice a2 x0.length c3)), (6, .v (.int .i64 z.2.2.1))], fun z => .nil, fun z => [], fun z => [⟨(.int .i64), ⟨z.2.2.2.1, z.2.1.length, z.2.2.2.2⟩, z.2.1⟩, ⟨.byte, ⟨a2, x0.length, c3⟩, x0⟩], fun z => z.1⟩ (FUEL, ([] : List Int), 0, none, 0) h ⟨rfl, rfl, rfl, trivial⟩ trivial [] rfl [0, 0] rfl ?_)
      rintro ⟨n23, x4, x10, a5, c6⟩ h
      obtain ⟨n23, rfl, h⟩ := fixF_some h
      rw [M_i_RunesOf_L1] at h
      refine JS.seq (JS.seq (JS.region (JO.reg ttOk 4 [] [] [(17, .v (.bool (decide (x10 < (x0.length : Int)))))] _ rfl ⟨⟨rfl, trivial⟩, rfl⟩ (JO.done rfl ?_))))
      refine JS.cond rfl (fun ht35 => ?_) (fun ht35 => ?_)
      · have h := condT h ht35
        refine JS.skip (JS.block (JS.seq (JS.region (JO.reg ttOk 2 [] [] [(19, .v (.slice a2 x0.length c3)), (20, .v (.int .i64 x10))] _ rfl ⟨⟨rfl, rfl, trivial⟩, rfl⟩ ?_))))
        obtain ⟨⟨y11, y12⟩, hy13, h⟩ := bindO_some h
        refine JO.call rfl rfl rfl rfl (ok_i_RuneRead x0 x10 a2 c3 x0.length rfl _ hy13) rfl [1] rfl rfl fun _ _ => JO.reg ttOk 5 [] [] [(7, .v (.int .i64 y11)), (8, .v (.int .i64 y12))] _ rfl ⟨⟨rfl, rfl, trivial⟩, rfl⟩ (JO.done rfl (JS.seq (JS.seq (JS.region (JO.reg ttOk 2 [] [] [(25, .v (.bool (decide (y12 = 0))))] _ rfl ⟨⟨rfl, trivial⟩, rfl⟩ (JO.done rfl ?_))))))
        refine JS.cond rfl (fun ht34 => ?_) (fun ht34 => ?_)
        · have h := condT h ht34
          refine JS.seq (JS.region (JO.reg ttOk 2 [] [] [(2, .v (.slice none 0 0)), (3, .v (.bool false))] _ rfl ⟨⟨rfl, rfl, trivial⟩, rfl⟩ (JO.done rfl ?_)))
          cases h
          refine JS.nilO (.int .i64) Sl.nil rfl rfl (JS.ret ttOk (none, 0) trivial rfl rfl [0] rfl)
        have h := condF h ht34
        refine JS.skip (JS.seq (JS.region (JO.reg ttOk 2 [] [] [(26, .v (.slice a5 x4.length c6)), (27, .v (.int .i64 y11))] _ rfl ⟨⟨rfl, rfl, trivial⟩, rfl⟩ ?_)))
        refine JO.ofK rfl (JK.buildSlice ttOk rfl rfl rfl rfl rfl rfl rfl rfl rfl rfl rfl [] rfl (.int .i64) [y11] ⟨rfl, rfl⟩ rfl rfl fun a14 => JO.toK ?_)
        obtain ⟨g15, h⟩ := guardO_some h
        refine JO.appendR' ttOk rfl rfl rfl rfl ⟨rfl, rfl, rfl, rfl, trivial, rfl, rfl, rfl, rfl⟩ rfl rfl rfl [1] rfl 0 rfl g15 rfl fun a16 c17 => JO.reg ttOk 1 [] [] [(4, .v (.slice a16 (x4 ++ ([y11] : List Int)).length c17))] _ rfl ⟨⟨rfl, trivial⟩, rfl⟩ (JO.done rfl (JS.region (JO.reg ttOk 4 [(W (x10 + y12))] [] [(6, .v (.int .i64 (W (x10 + y12))))] _ rfl ⟨⟨trivial, rfl⟩, ⟨rfl, trivial⟩, rfl⟩ (JO.done rfl (JS.endB (JS.endL (n23, (x4 ++ ([y11] : List Int)), (W (x10 + y12)), a16, c17) h (Nat.lt_succ_self _) ⟨rfl, rfl, rfl, trivial⟩ trivial [] rfl [0, 1] rfl))))))
      have h := condF h ht35
      refine JS.exit rfl (JS.endJ (x4, a5, c6) h ⟨rfl, trivial⟩ trivial [] rfl [0] rfl)
    rintro ⟨x26, a27, c28⟩ h
    subst hj36
    refine JS.seq (JS.region (JO.reg ttOk 3 [] [] [(2, .v (.slice a27 x26.length c28)), (3, .v (.bool true))] _ rfl ⟨⟨rfl, rfl, trivial⟩, rfl⟩ (JO.done rfl ?_)))
    cases h
    exact JS.ret ttOk (a27, c28) trivial rfl rfl [0] rfl

end
end Go.Eng
