/- The walks of the functions that FnCaret reaches: what each computes, as a plain function (M_..), and that the model computes it (ok_..). Condition of each: that the plain function answers. -/
import Derived.Test.YtkkafmjckkjebaaDoorEngB
import Derived.Test.YtkkafmjckkjebaaDoorChecked
import Derived.Shelf.Strings.Replace
import Derived.Lib.Strings
import Derived.Lib.Slices
import Derived.Lib.Walk
import Derived.Lib.Bytealg
set_option linter.unusedVariables false
set_option linter.unusedSimpArgs false
namespace Go.Proofs

set_option maxHeartbeats 1000000 in
set_option maxRecDepth 100000 in
/-- strings.Count AT A substr OF ONE BYTE ('hp'): "Count counts the number of non-overlapping instances of substr in s.": IT RETURNS 'Lib.countByte s (that byte)'; the world is as it was. ✋ NO CONTRACT HERE YET at an empty substr (utf8.RuneCountInString) or at a longer one (a loop over strings.Index). -/
theorem Tryd.strings_Count_one (s : ByteArray) (c : UInt8) (w : World) :
    Calls Tryd.prog 42 #[.string s, .string ⟨#[c]⟩] w fun e w' => e = .returned (.int .i64 (Lib.countByte s.data.toList c)) ∧ w' = w := by
  go_enter Tryd.func42, Tryd.ntmps42
  go_wp2
  rw [run_callFunc_extern Tryd.func57 (by kernel_rfl) (by kernel_rfl) (by kernel_rfl) (e := Extern.BytealgCount.count) (by kernel_rfl), Lib.run_countString]
  simp only [Result.andThen]
  rw [Oper.upon_value]
  go_wp2
  go_ret
  exact ⟨rfl, rfl⟩

end Go.Proofs

namespace Go.Proofs
open Go.Shelf
def Tryd.lays154_ren : Go.Shelf.Ren := ⟨fun | 154 => 25 | 138 => 42 | 165 => 43 | 143 => 41 | 166 => 44 | 197 => 45 | 169 => 46 | 195 => 56 | 218 => 57 | 240 => 58 | 241 => 59 | 219 => 55 | 260 => 60 | 276 => 65 | 277 => 66 | 217 => 53 | 225 => 62 | 224 => 63 | 267 => 64 | 266 => 61 | 314 => 67 | n => n, fun | 9 => 9 | 3 => 3 | 4 => 4 | 72 => 72 | 0 => 0 | 76 => 76 | 105 => 78 | 21 => 21 | 5 => 5 | 70 => 70 | 20 => 20 | 37 => 32 | 75 => 75 | 127 => 89 | 164 => 92 | 46 => 90 | 119 => 95 | 139 => 98 | 138 => 97 | 146 => 100 | 51 => 99 | 80 => 80 | n => n, fun | 1 => 0 | 3 => 1 | 4 => 2 | n => n⟩
theorem Tryd.lays154 : Go.Proofs.Lays.n154 Tryd.prog Tryd.lays154_ren := {
  mixed := by kernel_rfl
  f138 := Tryd.func42.trans (congrArg some (by kernel_rfl))
  f143 := Tryd.func41.trans (congrArg some (by kernel_rfl))
  f154 := Tryd.func25.trans (congrArg some (by kernel_rfl))
  f165 := Tryd.func43.trans (congrArg some (by kernel_rfl))
  f166 := Tryd.func44.trans (congrArg some (by kernel_rfl))
  f169 := Tryd.func46.trans (congrArg some (by kernel_rfl))
  f195 := Tryd.func56.trans (congrArg some (by kernel_rfl))
  f197 := Tryd.func45.trans (congrArg some (by kernel_rfl))
  f217 := Tryd.func53.trans (congrArg some (by kernel_rfl))
  f218 := Tryd.func57.trans (congrArg some (by kernel_rfl))
  f219 := Tryd.func55.trans (congrArg some (by kernel_rfl))
  f224 := Tryd.func63.trans (congrArg some (by kernel_rfl))
  f225 := Tryd.func62.trans (congrArg some (by kernel_rfl))
  f240 := Tryd.func58.trans (congrArg some (by kernel_rfl))
  f241 := Tryd.func59.trans (congrArg some (by kernel_rfl))
  f260 := Tryd.func60.trans (congrArg some (by kernel_rfl))
  f266 := Tryd.func61.trans (congrArg some (by kernel_rfl))
  f267 := Tryd.func64.trans (congrArg some (by kernel_rfl))
  f276 := Tryd.func65.trans (congrArg some (by kernel_rfl))
  f277 := Tryd.func66.trans (congrArg some (by kernel_rfl))
  f314 := Tryd.func67.trans (congrArg some (by kernel_rfl))
  t0 := Tryd.underlying0
  a0 := Tryd.isAgg0
  z0 := Tryd.sizeOf0
  v0 := Tryd.zeroValue0
  t3 := Tryd.underlying3
  a3 := Tryd.isAgg3
  z3 := Tryd.sizeOf3
  v3 := Tryd.zeroValue3
  t4 := Tryd.underlying4
  a4 := Tryd.isAgg4
  z4 := Tryd.sizeOf4
  v4 := Tryd.zeroValue4
  t5 := Tryd.underlying5
  a5 := Tryd.isAgg5
  z5 := Tryd.sizeOf5
  v5 := Tryd.zeroValue5
  t9 := Tryd.underlying9
  a9 := Tryd.isAgg9
  z9 := Tryd.sizeOf9
  v9 := Tryd.zeroValue9
  t20 := Tryd.underlying20
  a20 := Tryd.isAgg20
  z20 := Tryd.sizeOf20
  v20 := Tryd.zeroValue20
  t21 := Tryd.underlying21
  a21 := Tryd.isAgg21
  z21 := Tryd.sizeOf21
  v21 := Tryd.zeroValue21
  t37 := Tryd.underlying32
  a37 := Tryd.isAgg32
  z37 := Tryd.sizeOf32
  v37 := Tryd.zeroValue32
  t46 := Tryd.underlying90
  a46 := Tryd.isAgg90
  z46 := Tryd.sizeOf90
  v46 := Tryd.zeroValue90
  t51 := Tryd.underlying99
  a51 := Tryd.isAgg99
  z51 := Tryd.sizeOf99
  v51 := Tryd.zeroValue99
  t70 := Tryd.underlying70
  a70 := Tryd.isAgg70
  z70 := Tryd.sizeOf70
  v70 := Tryd.zeroValue70
  t72 := Tryd.underlying72
  a72 := Tryd.isAgg72
  z72 := Tryd.sizeOf72
  v72 := Tryd.zeroValue72
  t75 := Tryd.underlying75
  a75 := Tryd.isAgg75
  z75 := Tryd.sizeOf75
  v75 := Tryd.zeroValue75
  t76 := Tryd.underlying76
  a76 := Tryd.isAgg76
  z76 := Tryd.sizeOf76
  v76 := Tryd.zeroValue76
  t105 := Tryd.underlying78
  a105 := Tryd.isAgg78
  z105 := Tryd.sizeOf78
  v105 := Tryd.zeroValue78
  t119 := Tryd.underlying95
  a119 := Tryd.isAgg95
  z119 := Tryd.sizeOf95
  t127 := Tryd.underlying89
  a127 := Tryd.isAgg89
  z127 := Tryd.sizeOf89
  v127 := Tryd.zeroValue89
  t138 := Tryd.underlying97
  a138 := Tryd.isAgg97
  z138 := Tryd.sizeOf97
  v138 := Tryd.zeroValue97
  t139 := Tryd.underlying98
  a139 := Tryd.isAgg98
  z139 := Tryd.sizeOf98
  v139 := Tryd.zeroValue98
  t146 := Tryd.underlying100
  a146 := Tryd.isAgg100
  z146 := Tryd.sizeOf100
  v146 := Tryd.zeroValue100
  t164 := Tryd.underlying92
  a164 := Tryd.isAgg92
  z164 := Tryd.sizeOf92
  v164 := Tryd.zeroValue92
  g1 := by kernel_rfl
  g3 := by kernel_rfl
  g4 := by kernel_rfl }
theorem Tryd.Builder_Extra_154 : Builder.Extra Tryd.prog Tryd.lays154_ren := {
  sizeBuilder := by kernel_rfl
  liesBuilder := by kernel_rfl
  t5 := Tryd.underlying5
  a5 := Tryd.isAgg5
  z5 := Tryd.sizeOf5
  v5 := Tryd.zeroValue5
  infoByte := by kernel_rfl
  cellsByte := by kernel_rfl
  sizeByte := by kernel_rfl
  neB5 := by decide }
open Go.RowKit Go.Lib in
theorem Tryd.strings_Replace (s old new : ByteArray) (n : Int) (m : Int) (w : World) (hs : s.size < 4294967281) (hm : w.cell? ⟨0, 0, none⟩ = some (.int .i64 m)) (h1 : 1 ≤ old.size) (hlen : s.size + Lib.countB s old * new.size ≤ 140737488355328) :
    Calls Tryd.prog 25 #[.string s, .string old, .string new, .int .i64 n] w fun e w' =>
      e = .returned (.string ⟨(Lib.replace s.data.toList old.data.toList new.data.toList n).toArray⟩) ∧ Below w.heap.size w w' := Any.strings_Replace Tryd.lays154 Tryd.Builder_Extra_154 s old new n m w hs hm h1 hlen
end Go.Proofs

namespace Go.Proofs

set_option maxHeartbeats 1000000 in
/-- strings.HasPrefix: "HasPrefix reports whether the string s begins with prefix.": IT RETURNS 'Lib.hasPrefix s prefix'; the world is as it was. -/
theorem Tryd.strings_HasPrefix (s p : ByteArray) (w : World) :
    Calls Tryd.prog 31 #[.string s, .string p] w fun e w' => e = .returned (.bool (Lib.hasPrefix s.data.toList p.data.toList)) ∧ w' = w := by
  rw [← Lib.hasPrefix_of_take, ← Lib.size_eq, ← Lib.size_eq]
  go_enter Tryd.func31, Tryd.ntmps31
  go_wp2
  · rename_i h
    go_ret
    refine ⟨?_, rfl⟩
    show Ending.returned (Value.bool ((s.extract 0 p.size).toList == p.toList)) = _
    rw [Lib.extract_toList, Lib.toList_data]
    simp [h]
  · rename_i h
    go_ret
    refine ⟨?_, rfl⟩
    show Ending.returned (Value.bool false) = _
    simp [h]

end Go.Proofs

namespace Go.Eng
open Go Go.Proofs
noncomputable section


def TTx : TT := [
  (2, ⟨.int .i64, 1, 8, [.int .i64 0]⟩),
  (3, ⟨.int .i64, 1, 8, [.int .i64 0]⟩),
  (4, ⟨.bool, 1, 1, [.bool false]⟩),
  (5, ⟨.int .u8, 1, 1, [.int .u8 0]⟩),
  (6, ⟨.int .u8, 1, 1, [.int .u8 0]⟩),
  (7, ⟨.struct [(0, 2), (1, 3), (2, 4), (3, 6)], 4, 24, [.int .i64 0, .int .i64 0, .bool false, .int .u8 0]⟩),
  (8, ⟨.struct [(0, 2), (1, 3), (2, 4), (3, 6)], 4, 24, [.int .i64 0, .int .i64 0, .bool false, .int .u8 0]⟩),
  (9, ⟨.str, 1, 16, [.string ByteArray.empty]⟩),
  (10, ⟨.str, 1, 16, [.string ByteArray.empty]⟩),
  (11, ⟨.str, 1, 16, [.string ByteArray.empty]⟩),
  (12, ⟨.int .u64, 1, 8, [.int .u64 0]⟩),
  (13, ⟨.struct [(0, 9), (1, 12)], 2, 24, [.string ByteArray.empty, .int .u64 0]⟩),
  (14, ⟨.struct [(0, 9), (1, 12)], 2, 24, [.string ByteArray.empty, .int .u64 0]⟩),
  (21, ⟨.int .i32, 1, 4, [.int .i32 0]⟩),
  (22, ⟨.slice 9, 1, 24, [.slice none 0 0]⟩),
  (23, ⟨.struct [(0, 3), (1, 22)], 2, 32, [.int .i64 0, .slice none 0 0]⟩),
  (24, ⟨.struct [(0, 3), (1, 22)], 2, 32, [.int .i64 0, .slice none 0 0]⟩),
  (28, ⟨.struct [(0, 3), (1, 22)], 2, 32, [.int .i64 0, .slice none 0 0]⟩),
  (32, ⟨.slice 5, 1, 24, [.slice none 0 0]⟩),
  (41, ⟨.struct [(0, 3), (1, 3), (2, 9), (3, 3)], 4, 40, [.int .i64 0, .int .i64 0, .string ByteArray.empty, .int .i64 0]⟩),
  (42, ⟨.struct [(0, 3), (1, 3), (2, 9), (3, 3)], 4, 40, [.int .i64 0, .int .i64 0, .string ByteArray.empty, .int .i64 0]⟩),
  (81, ⟨.struct [(0, 32), (1, 3), (2, 3)], 3, 40, [.slice none 0 0, .int .i64 0, .int .i64 0]⟩),
  (82, ⟨.struct [(0, 32), (1, 3), (2, 3)], 3, 40, [.slice none 0 0, .int .i64 0, .int .i64 0]⟩),
  (90, ⟨.int .u64, 1, 8, [.int .u64 0]⟩),
  (96, ⟨.struct [(0, 5), (1, 5)], 2, 2, [.int .u8 0, .int .u8 0]⟩),
  (97, ⟨.struct [(0, 5), (1, 5)], 2, 2, [.int .u8 0, .int .u8 0]⟩),
  (99, ⟨.int .u32, 1, 4, [.int .u32 0]⟩),
  (108, ⟨.int .u8, 1, 1, [.int .u8 0]⟩),
  (109, ⟨.int .u8, 1, 1, [.int .u8 0]⟩),
  (111, ⟨.int .i32, 1, 4, [.int .i32 0]⟩),
  (112, ⟨.int .i32, 1, 4, [.int .i32 0]⟩)]

set_option maxRecDepth 100000 in
theorem ttOk : TTok Tryd.prog TTx := TTok.of (by
  simp only [TTx, List.forall_mem_cons]
  exact ⟨⟨⟨_, _, rfl, rfl, rfl, rfl, rfl⟩, rfl⟩, ⟨⟨_, _, rfl, rfl, rfl, rfl, rfl⟩, rfl⟩, ⟨⟨_, _, rfl, rfl, rfl, rfl, rfl⟩, rfl⟩, ⟨⟨_, _, rfl, rfl, rfl, rfl, rfl⟩, rfl⟩, ⟨⟨_, _, rfl, rfl, rfl, rfl, rfl⟩, rfl⟩, ⟨⟨_, _, rfl, rfl, rfl, rfl, rfl⟩, ⟨_, rfl, rfl⟩⟩, ⟨⟨_, _, rfl, rfl, rfl, rfl, rfl⟩, ⟨_, rfl, rfl⟩⟩, ⟨⟨_, _, rfl, rfl, rfl, rfl, rfl⟩, rfl⟩, ⟨⟨_, _, rfl, rfl, rfl, rfl, rfl⟩, rfl⟩, ⟨⟨_, _, rfl, rfl, rfl, rfl, rfl⟩, rfl⟩, ⟨⟨_, _, rfl, rfl, rfl, rfl, rfl⟩, rfl⟩, ⟨⟨_, _, rfl, rfl, rfl, rfl, rfl⟩, ⟨_, rfl, rfl⟩⟩, ⟨⟨_, _, rfl, rfl, rfl, rfl, rfl⟩, ⟨_, rfl, rfl⟩⟩, ⟨⟨_, _, rfl, rfl, rfl, rfl, rfl⟩, rfl⟩, ⟨⟨_, _, rfl, rfl, rfl, rfl, rfl⟩, rfl⟩, ⟨⟨_, _, rfl, rfl, rfl, rfl, rfl⟩, ⟨_, rfl, rfl⟩⟩, ⟨⟨_, _, rfl, rfl, rfl, rfl, rfl⟩, ⟨_, rfl, rfl⟩⟩, ⟨⟨_, _, rfl, rfl, rfl, rfl, rfl⟩, ⟨_, rfl, rfl⟩⟩, ⟨⟨_, _, rfl, rfl, rfl, rfl, rfl⟩, rfl⟩, ⟨⟨_, _, rfl, rfl, rfl, rfl, rfl⟩, ⟨_, rfl, rfl⟩⟩, ⟨⟨_, _, rfl, rfl, rfl, rfl, rfl⟩, ⟨_, rfl, rfl⟩⟩, ⟨⟨_, _, rfl, rfl, rfl, rfl, rfl⟩, ⟨_, rfl, rfl⟩⟩, ⟨⟨_, _, rfl, rfl, rfl, rfl, rfl⟩, ⟨_, rfl, rfl⟩⟩, ⟨⟨_, _, rfl, rfl, rfl, rfl, rfl⟩, rfl⟩, ⟨⟨_, _, rfl, rfl, rfl, rfl, rfl⟩, ⟨_, rfl, rfl⟩⟩, ⟨⟨_, _, rfl, rfl, rfl, rfl, rfl⟩, ⟨_, rfl, rfl⟩⟩, ⟨⟨_, _, rfl, rfl, rfl, rfl, rfl⟩, rfl⟩, ⟨⟨_, _, rfl, rfl, rfl, rfl, rfl⟩, rfl⟩, ⟨⟨_, _, rfl, rfl, rfl, rfl, rfl⟩, rfl⟩, ⟨⟨_, _, rfl, rfl, rfl, rfl, rfl⟩, rfl⟩, ⟨⟨_, _, rfl, rfl, rfl, rfl, rfl⟩, rfl⟩, by simp⟩)

def M_s_l01New_L1 (x0 : List UInt8) (j16 : Int → Option (List UInt8 × Int × Int)) (k11 : (Int × Int) → Option (List UInt8 × Int × Int)) : (Int × Int) → Option (List UInt8 × Int × Int) := fun (x6, x7) =>
  (bif (bif (decide (x7 < (x0.length : Int))) then (decide (x7 < 4000)) else false) then
  (guardO (0 ≤ x7 ∧ x7 < (x0.length : Int)) <|
  k11 ((W (((BitVec.ofInt (IntKind.bits .i64) (W ((W ((W (x6 * 137)) + ((at' x0 x7).toNat : Int))) + 7)) &&& BitVec.ofInt (IntKind.bits .i64) 1073741823).toNat : Int))), (W (x7 + 1))))
  else
  j16 x6)

def M_s_l01New (x0 : List UInt8) : Option (List UInt8 × Int × Int) :=
  (joinO (fun (x15 : Int) =>
  some (x0, 0, x15)) fun j16 =>
  (fixF (M_s_l01New_L1 x0 j16) FUEL ((W (600128 + (x0.length : Int))), 0)))

theorem ok_s_l01New (x0 : List UInt8) (a2 : Option Addr) (c3 : Nat) (l4 : Nat) (hl5 : x0.length = l4) (r : List UInt8 × Int × Int) (h : M_s_l01New x0 = some r) :
    FC Tryd.prog 27 [.slice a2 l4 c3] [⟨.byte, ⟨a2, l4, c3⟩, x0⟩] (fun _ : Option Addr => True) (fun q => .pointer q) (fun q => [⟨(.pair .val (.pair (.int .i64) (.int .i64))), ⟨q, 1, 1⟩, [((Sl.v ⟨a2, l4, c3⟩), r.2.1, r.2.2)]⟩]) :=
  by
    subst hl5
    refine FC.of (T := TTx) Tryd.call27 Tryd.func27 rfl rfl fun w0 => ?_
    unfold M_s_l01New at h
    refine JS.rg0 ttOk 1 [] ⟨trivial, rfl⟩ rfl rfl (JS.rg ttOk 4 [(W (600128 + (x0.length : Int)))] [] [(3, .v (.int .i64 (W (600128 + (x0.length : Int)))))] _ ⟨⟨trivial, rfl⟩, ⟨rfl, trivial⟩, rfl⟩ rfl rfl (JS.seq (JS.rg0 ttOk 1 [(4, .v (.int .i64 0))] ⟨⟨rfl, trivial⟩, rfl⟩ rfl rfl ?_)))
    obtain ⟨j16, hj23, h⟩ := joinO_some h
    refine JS.blockJ (ι := Int) ⟨fun z => j16 z = some r, fun z => [(0, .v (.slice a2 x0.length c3)), (3, .v (.int .i64 z))], fun z => .nil, fun z => [⟨.byte, ⟨a2, x0.length, c3⟩, x0⟩], fun z => [], fun z => 0⟩ ?_ ?_
    · refine JS.loop (ι := Nat × Int × Int) ⟨fun z => fixF (M_s_l01New_L1 x0 j16) z.1 (z.2.1, z.2.2) = some r, fun z => [(0, .v (.slice a2 x0.length c3)), (3, .v (.int .i64 z.2.1)), (4, .v (.int .i64 z.2.2))], fun z => .nil, fun z => [⟨.byte, ⟨a2, x0.length, c3⟩, x0⟩], fun z => [], fun z => z.1⟩ (FUEL, (W (600128 + (x0.length : Int))), 0) h (Es rfl) trivial [0] rfl [] rfl ?_
      rintro ⟨n12, x6, x7⟩ h
      obtain ⟨n12, rfl, h⟩ := fixF_some h
      rw [M_s_l01New_L1] at h
      refine JS.seq (JS.rg0 ttOk 8 [(15, .v (.bool (bif (decide (x7 < (x0.length : Int))) then (decide (x7 < 4000)) else false)))] ⟨⟨rfl, trivial⟩, rfl⟩ rfl rfl ?_)
      refine JS.cond rfl (fun ht22 => ?_) (fun ht22 => ?_)
      · have h := condT h ht22
        refine JS.skip (JS.seq (JS.block (JS.region (JO.know 0 rfl fun hs21 => ?_))))
        obtain ⟨g9, h⟩ := guardO_some h
        refine JO.reg ttOk 5 [(W (x6 * 137))] [] [(19, .v (.int .i64 (W (x6 * 137)))), (22, .ep ⟨a2, x0.length, c3⟩ (Int.toNat x7 * 1))] _ rfl ⟨⟨trivial, rfl⟩, hs21.ix g9, (Es rfl), rfl⟩ (JO.load ttOk rfl rfl rfl rfl rfl rfl rfl 0 rfl rfl (Int.toNat x7) 0 (at' x0 x7) ⟨at_some g9, rfl⟩ rfl rfl (JO.reg ttOk 5 [((at' x0 x7).toNat : Int), (W ((W (x6 * 137)) + ((at' x0 x7).toNat : Int))), (W ((W ((W (x6 * 137)) + ((at' x0 x7).toNat : Int))) + 7)), (W (((BitVec.ofInt (IntKind.bits .i64) (W ((W ((W (x6 * 137)) + ((at' x0 x7).toNat : Int))) + 7)) &&& BitVec.ofInt (IntKind.bits .i64) 1073741823).toNat : Int)))] [] [(3, .v (.int .i64 (W (((BitVec.ofInt (IntKind.bits .i64) (W ((W ((W (x6 * 137)) + ((at' x0 x7).toNat : Int))) + 7)) &&& BitVec.ofInt (IntKind.bits .i64) 1073741823).toNat : Int)))))] _ rfl ⟨⟨trivial, W_byte _⟩, ⟨trivial, rfl⟩, ⟨trivial, rfl⟩, ⟨trivial, rfl⟩, ⟨rfl, trivial⟩, rfl⟩ (JO.done rfl (JS.endB (JS.re ttOk 3 [(W (x7 + 1))] [] [(4, .v (.int .i64 (W (x7 + 1))))] _ ⟨⟨trivial, rfl⟩, ⟨rfl, trivial⟩, rfl⟩ rfl rfl (JS.endL (n12, (W (((BitVec.ofInt (IntKind.bits .i64) (W ((W ((W (x6 * 137)) + ((at' x0 x7).toNat : Int))) + 7)) &&& BitVec.ofInt (IntKind.bits .i64) 1073741823).toNat : Int))), (W (x7 + 1))) h (Nat.lt_succ_self _) (Es rfl) trivial [0] rfl [] rfl))))))
      have h := condF h ht22
      refine JS.exit rfl (JS.endJ x6 h (Es rfl) trivial [0] rfl [] rfl)
    rintro x15 h
    subst hj23
    refine JS.rgB ttOk 5 [] [9] [(2, .bp 9 0), (31, .bp 9 0)] (.new 9 82 [.slice a2 x0.length c3, .int .i64 0, .int .i64 x15] .nil) ⟨(Es rfl), (Bs rfl rfl)⟩ rfl rfl (JS.unbox 9 rfl (B' := .nil) trivial rfl (.pair .val (.pair (.int .i64) (.int .i64))) ((Sl.v ⟨a2, x0.length, c3⟩), 0, x15) ⟨rfl, rfl, rfl⟩ (fun a19 => [(0, .v (.slice a2 x0.length c3)), (2, .ep ⟨a19, 1, 1⟩ 0), (3, .v (.int .i64 x15)), (31, .ep ⟨a19, 1, 1⟩ 0)]) (fun _ => (Es rfl)) fun a19 => ?_)
    cases h
    exact JS.ret ttOk a19 trivial rfl rfl [0] rfl

def M_s_l01Byte (x0 : List UInt8 × Int × Int) : Option (Int × List UInt8 × Int × Int) :=
  (joinO (fun ((x14, x15) : Int × Int) =>
  some (x14, (x0.1, x15, (W ((W (x0.2.2 * 6364136223846793005)) + 1442695040888963407))))) fun j16 =>
  (bif (decide (x0.2.1 < (x0.1.length : Int))) then
  (guardO (0 ≤ x0.2.1 ∧ x0.2.1 < (x0.1.length : Int)) <|
  j16 ((W (((BitVec.ofInt (IntKind.bits .i64) (W ((W (((BitVec.ofInt (IntKind.bits .i64) (W (((BitVec.ofInt (IntKind.bits .i64) (Int.fdiv (W ((W (x0.2.2 * 6364136223846793005)) + 1442695040888963407)) (2 ^ (min (Int.toNat 33) (IntKind.bits .i64)))) ^^^ BitVec.ofInt (IntKind.bits .i64) (Int.fdiv (W ((W (x0.2.2 * 6364136223846793005)) + 1442695040888963407)) (2 ^ (min (Int.toNat 45) (IntKind.bits .i64))))).toNat : Int))) &&& BitVec.ofInt (IntKind.bits .i64) 255).toNat : Int))) + ((at' x0.1 x0.2.1).toNat : Int))) &&& BitVec.ofInt (IntKind.bits .i64) 255).toNat : Int))), (W (x0.2.1 + 1))))
  else
  j16 ((W (((BitVec.ofInt (IntKind.bits .i64) (W (((BitVec.ofInt (IntKind.bits .i64) (Int.fdiv (W ((W (x0.2.2 * 6364136223846793005)) + 1442695040888963407)) (2 ^ (min (Int.toNat 33) (IntKind.bits .i64)))) ^^^ BitVec.ofInt (IntKind.bits .i64) (Int.fdiv (W ((W (x0.2.2 * 6364136223846793005)) + 1442695040888963407)) (2 ^ (min (Int.toNat 45) (IntKind.bits .i64))))).toNat : Int))) &&& BitVec.ofInt (IntKind.bits .i64) 255).toNat : Int))), x0.2.1)))

theorem ok_s_l01Byte (x0 : List UInt8 × Int × Int) (a2 : Option Addr) (a3 : Option Addr) (c4 : Nat) (l5 : Nat) (hl6 : x0.1.length = l5) (r : Int × List UInt8 × Int × Int) (h : M_s_l01Byte x0 = some r) :
    FX Tryd.prog 48 [.pointer a2] [⟨.byte, ⟨a3, l5, c4⟩, x0.1⟩] [⟨(.pair .val (.pair (.int .i64) (.int .i64))), ⟨a2, 1, 1⟩, [((Sl.v ⟨a3, l5, c4⟩), x0.2.1, x0.2.2)]⟩] (fun _ : Unit => True) (fun _ => .int .i64 r.1) (fun _ => [⟨(.pair .val (.pair (.int .i64) (.int .i64))), ⟨a2, 1, 1⟩, [((Sl.v ⟨a3, l5, c4⟩), r.2.2.1, r.2.2.2)]⟩]) :=
  by
    subst hl6
    refine FX.of (T := TTx) Tryd.call48 Tryd.func48 rfl rfl fun w0 L0 => ?_
    unfold M_s_l01Byte at h
    refine JS.ptr 0 a2 rfl ?_
    refine JS.rg0 ttOk 1 [] ⟨trivial, rfl⟩ rfl rfl (JS.seq (JS.region (JO.know 1 rfl fun hs21 => JO.reg ttOk 4 [] [] [(4, .ep ⟨a2, 1, 1⟩ 0), (7, .ep ⟨a2, 1, 1⟩ 2)] _ rfl ⟨(hs21.fa ptr0).1, hs21.fa ptr0, (Es rfl), rfl⟩ (JO.loadV ttOk rfl rfl rfl rfl rfl rfl 1 rfl rfl 0 2 ((Sl.v ⟨a3, x0.1.length, c4⟩), x0.2.1, x0.2.2) ⟨rfl, rfl⟩ rfl rfl rfl (JO.reg ttOk 4 [(W (x0.2.2 * 6364136223846793005)), (W ((W (x0.2.2 * 6364136223846793005)) + 1442695040888963407))] [] [(10, .v (.int .i64 (W ((W (x0.2.2 * 6364136223846793005)) + 1442695040888963407)))), (12, .ep ⟨a2, 1, 1⟩ 2)] _ rfl ⟨⟨trivial, rfl⟩, ⟨trivial, rfl⟩, (hs21.fa ptr0).1, hs21.fa ptr0, (Es rfl), rfl⟩ (JO.storeE ttOk rfl rfl rfl rfl rfl rfl rfl rfl rfl [0] (fs := []) rfl 0 2 ((Sl.v ⟨a3, x0.1.length, c4⟩), x0.2.1, x0.2.2) ((Sl.v ⟨a3, x0.1.length, c4⟩), x0.2.1, (W ((W (x0.2.2 * 6364136223846793005)) + 1442695040888963407))) ⟨rfl, rfl⟩ ⟨⟨⟨rfl, rfl, rfl⟩, rfl⟩, rfl⟩ (JO.done rfl (JS.seq ?_))))))))
    have g8 : (0 : Int) ≤ 33 := by decide
    have g9 : (0 : Int) ≤ 45 := by decide
    refine JS.regionQ rfl (by kernel_rfl) (JQ.reg ttOk 3 [] [(15, .ep ⟨a2, 1, 1⟩ 2)] rfl ⟨(hs21.fa ptr0).1, hs21.fa ptr0, ⟨rfl, trivial⟩⟩ (JQ.loadV ttOk rfl rfl rfl rfl rfl rfl 1 rfl rfl 0 2 ((Sl.v ⟨a3, x0.1.length, c4⟩), x0.2.1, (W ((W (x0.2.2 * 6364136223846793005)) + 1442695040888963407))) ⟨rfl, rfl⟩ rfl rfl rfl (JQ.reg ttOk 4 [] [(17, .v (.int .i64 (Int.fdiv (W ((W (x0.2.2 * 6364136223846793005)) + 1442695040888963407)) (2 ^ (min (Int.toNat 33) (IntKind.bits .i64)))))), (20, .ep ⟨a2, 1, 1⟩ 2)] rfl ⟨g8, (hs21.fa ptr0).1, hs21.fa ptr0, (Es rfl)⟩ (JQ.loadV ttOk rfl rfl rfl rfl rfl rfl 1 rfl rfl 0 2 ((Sl.v ⟨a3, x0.1.length, c4⟩), x0.2.1, (W ((W (x0.2.2 * 6364136223846793005)) + 1442695040888963407))) ⟨rfl, rfl⟩ rfl rfl rfl (JQ.reg ttOk 4 [(W (((BitVec.ofInt (IntKind.bits .i64) (Int.fdiv (W ((W (x0.2.2 * 6364136223846793005)) + 1442695040888963407)) (2 ^ (min (Int.toNat 33) (IntKind.bits .i64)))) ^^^ BitVec.ofInt (IntKind.bits .i64) (Int.fdiv (W ((W (x0.2.2 * 6364136223846793005)) + 1442695040888963407)) (2 ^ (min (Int.toNat 45) (IntKind.bits .i64))))).toNat : Int))), (W (((BitVec.ofInt (IntKind.bits .i64) (W (((BitVec.ofInt (IntKind.bits .i64) (Int.fdiv (W ((W (x0.2.2 * 6364136223846793005)) + 1442695040888963407)) (2 ^ (min (Int.toNat 33) (IntKind.bits .i64)))) ^^^ BitVec.ofInt (IntKind.bits .i64) (Int.fdiv (W ((W (x0.2.2 * 6364136223846793005)) + 1442695040888963407)) (2 ^ (min (Int.toNat 45) (IntKind.bits .i64))))).toNat : Int))) &&& BitVec.ofInt (IntKind.bits .i64) 255).toNat : Int)))] [(3, .v (.int .i64 (W (((BitVec.ofInt (IntKind.bits .i64) (W (((BitVec.ofInt (IntKind.bits .i64) (Int.fdiv (W ((W (x0.2.2 * 6364136223846793005)) + 1442695040888963407)) (2 ^ (min (Int.toNat 33) (IntKind.bits .i64)))) ^^^ BitVec.ofInt (IntKind.bits .i64) (Int.fdiv (W ((W (x0.2.2 * 6364136223846793005)) + 1442695040888963407)) (2 ^ (min (Int.toNat 45) (IntKind.bits .i64))))).toNat : Int))) &&& BitVec.ofInt (IntKind.bits .i64) 255).toNat : Int)))))] rfl ⟨g9, ⟨trivial, rfl⟩, ⟨trivial, rfl⟩, ⟨rfl, trivial⟩⟩ (JQ.done rfl ?_))))))
    obtain ⟨j16, hj25, h⟩ := joinO_some h
    refine JS.seqJ (ι := Int × Int) ⟨fun z => j16 (z.1, z.2) = some r, fun z => [(3, .v (.int .i64 z.1))], fun z => .nil, fun z => [⟨.byte, ⟨a3, x0.1.length, c4⟩, x0.1⟩], fun z => [⟨(.pair .val (.pair (.int .i64) (.int .i64))), ⟨a2, 1, 1⟩, [((Sl.v ⟨a3, x0.1.length, c4⟩), z.2, (W ((W (x0.2.2 * 6364136223846793005)) + 1442695040888963407)))]⟩], fun z => 0⟩ ?_ ?_
    · refine JS.seq (JS.regionQ rfl (by kernel_rfl) (JQ.reg ttOk 3 [] [(27, .ep ⟨a2, 1, 1⟩ 1)] rfl ⟨(hs21.fa ptr0).1, hs21.fa ptr0, ⟨rfl, trivial⟩⟩ (JQ.loadV ttOk rfl rfl rfl rfl rfl rfl 1 rfl rfl 0 1 ((Sl.v ⟨a3, x0.1.length, c4⟩), x0.2.1, (W ((W (x0.2.2 * 6364136223846793005)) + 1442695040888963407))) ⟨rfl, rfl⟩ rfl rfl rfl (JQ.reg ttOk 3 [] [(31, .ep ⟨a2, 1, 1⟩ 0)] rfl ⟨(hs21.fa ptr0).1, hs21.fa ptr0, ⟨rfl, trivial⟩⟩ (JQ.loadV ttOk rfl rfl rfl rfl rfl rfl 1 rfl rfl 0 0 ((Sl.v ⟨a3, x0.1.length, c4⟩), x0.2.1, (W ((W (x0.2.2 * 6364136223846793005)) + 1442695040888963407))) ⟨rfl, rfl⟩ rfl rfl rfl (JQ.reg ttOk 2 [] [(34, .v (.bool (decide (x0.2.1 < (x0.1.length : Int)))))] rfl ⟨rfl, trivial⟩ (JQ.done rfl ?_)))))))
      refine JS.cond rfl (fun ht24 => ?_) (fun ht24 => ?_)
      · have h := condT h ht24
        refine JS.seq ?_
        obtain ⟨g11, h⟩ := guardO_some h
        refine JS.know 0 rfl fun hs23 => JS.regionQ rfl (by kernel_rfl) (JQ.reg ttOk 4 [] [(35, .v (.int .i64 (W (((BitVec.ofInt (IntKind.bits .i64) (W (((BitVec.ofInt (IntKind.bits .i64) (Int.fdiv (W ((W (x0.2.2 * 6364136223846793005)) + 1442695040888963407)) (2 ^ (min (Int.toNat 33) (IntKind.bits .i64)))) ^^^ BitVec.ofInt (IntKind.bits .i64) (Int.fdiv (W ((W (x0.2.2 * 6364136223846793005)) + 1442695040888963407)) (2 ^ (min (Int.toNat 45) (IntKind.bits .i64))))).toNat : Int))) &&& BitVec.ofInt (IntKind.bits .i64) 255).toNat : Int))))), (38, .ep ⟨a2, 1, 1⟩ 0)] rfl ⟨(hs21.fa ptr0).1, hs21.fa ptr0, (Es rfl)⟩ (JQ.loadV ttOk rfl rfl rfl rfl rfl rfl 1 rfl rfl 0 0 ((Sl.v ⟨a3, x0.1.length, c4⟩), x0.2.1, (W ((W (x0.2.2 * 6364136223846793005)) + 1442695040888963407))) ⟨rfl, rfl⟩ rfl rfl rfl (JQ.reg ttOk 3 [] [(42, .ep ⟨a2, 1, 1⟩ 1)] rfl ⟨(hs21.fa ptr0).1, hs21.fa ptr0, ⟨rfl, trivial⟩⟩ (JQ.loadV ttOk rfl rfl rfl rfl rfl rfl 1 rfl rfl 0 1 ((Sl.v ⟨a3, x0.1.length, c4⟩), x0.2.1, (W ((W (x0.2.2 * 6364136223846793005)) + 1442695040888963407))) ⟨rfl, rfl⟩ rfl rfl rfl (JQ.reg ttOk 1 [] [(44, .ep ⟨a3, x0.1.length, c4⟩ (Int.toNat x0.2.1 * 1))] rfl ⟨hs23.ix g11, ⟨rfl, trivial⟩⟩ (JQ.load ttOk rfl rfl rfl rfl rfl rfl rfl 0 rfl rfl (Int.toNat x0.2.1) 0 (at' x0.1 x0.2.1) ⟨at_some g11, rfl⟩ rfl rfl (JQ.reg ttOk 4 [((at' x0.1 x0.2.1).toNat : Int), (W ((W (((BitVec.ofInt (IntKind.bits .i64) (W (((BitVec.ofInt (IntKind.bits .i64) (Int.fdiv (W ((W (x0.2.2 * 6364136223846793005)) + 1442695040888963407)) (2 ^ (min (Int.toNat 33) (IntKind.bits .i64)))) ^^^ BitVec.ofInt (IntKind.bits .i64) (Int.fdiv (W ((W (x0.2.2 * 6364136223846793005)) + 1442695040888963407)) (2 ^ (min (Int.toNat 45) (IntKind.bits .i64))))).toNat : Int))) &&& BitVec.ofInt (IntKind.bits .i64) 255).toNat : Int))) + ((at' x0.1 x0.2.1).toNat : Int))), (W (((BitVec.ofInt (IntKind.bits .i64) (W ((W (((BitVec.ofInt (IntKind.bits .i64) (W (((BitVec.ofInt (IntKind.bits .i64) (Int.fdiv (W ((W (x0.2.2 * 6364136223846793005)) + 1442695040888963407)) (2 ^ (min (Int.toNat 33) (IntKind.bits .i64)))) ^^^ BitVec.ofInt (IntKind.bits .i64) (Int.fdiv (W ((W (x0.2.2 * 6364136223846793005)) + 1442695040888963407)) (2 ^ (min (Int.toNat 45) (IntKind.bits .i64))))).toNat : Int))) &&& BitVec.ofInt (IntKind.bits .i64) 255).toNat : Int))) + ((at' x0.1 x0.2.1).toNat : Int))) &&& BitVec.ofInt (IntKind.bits .i64) 255).toNat : Int)))] [(3, .v (.int .i64 (W (((BitVec.ofInt (IntKind.bits .i64) (W ((W (((BitVec.ofInt (IntKind.bits .i64) (W (((BitVec.ofInt (IntKind.bits .i64) (Int.fdiv (W ((W (x0.2.2 * 6364136223846793005)) + 1442695040888963407)) (2 ^ (min (Int.toNat 33) (IntKind.bits .i64)))) ^^^ BitVec.ofInt (IntKind.bits .i64) (Int.fdiv (W ((W (x0.2.2 * 6364136223846793005)) + 1442695040888963407)) (2 ^ (min (Int.toNat 45) (IntKind.bits .i64))))).toNat : Int))) &&& BitVec.ofInt (IntKind.bits .i64) 255).toNat : Int))) + ((at' x0.1 x0.2.1).toNat : Int))) &&& BitVec.ofInt (IntKind.bits .i64) 255).toNat : Int)))))] rfl ⟨⟨trivial, W_byte _⟩, ⟨trivial, rfl⟩, ⟨trivial, rfl⟩, ⟨rfl, trivial⟩⟩ (JQ.done rfl (JS.region (JO.reg ttOk 4 [] [] [(49, .ep ⟨a2, 1, 1⟩ 0), (52, .ep ⟨a2, 1, 1⟩ 1)] _ rfl ⟨(hs21.fa ptr0).1, hs21.fa ptr0, (Es rfl), rfl⟩ (JO.loadV ttOk rfl rfl rfl rfl rfl rfl 1 rfl rfl 0 1 ((Sl.v ⟨a3, x0.1.length, c4⟩), x0.2.1, (W ((W (x0.2.2 * 6364136223846793005)) + 1442695040888963407))) ⟨rfl, rfl⟩ rfl rfl rfl (JO.reg ttOk 3 [(W (x0.2.1 + 1))] [] [(54, .v (.int .i64 (W (x0.2.1 + 1)))), (56, .ep ⟨a2, 1, 1⟩ 1)] _ rfl ⟨⟨trivial, rfl⟩, (hs21.fa ptr0).1, hs21.fa ptr0, (Es rfl), rfl⟩ (JO.storeE ttOk rfl rfl rfl rfl rfl rfl rfl rfl rfl [0] (fs := []) rfl 0 1 ((Sl.v ⟨a3, x0.1.length, c4⟩), x0.2.1, (W ((W (x0.2.2 * 6364136223846793005)) + 1442695040888963407))) ((Sl.v ⟨a3, x0.1.length, c4⟩), (W (x0.2.1 + 1)), (W ((W (x0.2.2 * 6364136223846793005)) + 1442695040888963407))) ⟨rfl, rfl⟩ ⟨⟨⟨rfl, rfl, rfl⟩, rfl⟩, rfl⟩ (JO.done rfl (JS.endJ ((W (((BitVec.ofInt (IntKind.bits .i64) (W ((W (((BitVec.ofInt (IntKind.bits .i64) (W (((BitVec.ofInt (IntKind.bits .i64) (Int.fdiv (W ((W (x0.2.2 * 6364136223846793005)) + 1442695040888963407)) (2 ^ (min (Int.toNat 33) (IntKind.bits .i64)))) ^^^ BitVec.ofInt (IntKind.bits .i64) (Int.fdiv (W ((W (x0.2.2 * 6364136223846793005)) + 1442695040888963407)) (2 ^ (min (Int.toNat 45) (IntKind.bits .i64))))).toNat : Int))) &&& BitVec.ofInt (IntKind.bits .i64) 255).toNat : Int))) + ((at' x0.1 x0.2.1).toNat : Int))) &&& BitVec.ofInt (IntKind.bits .i64) 255).toNat : Int))), (W (x0.2.1 + 1))) h ⟨rfl, trivial⟩ trivial [0] rfl [0] rfl)))))))))))))))
      have h := condF h ht24
      refine JS.skip (JS.endJ ((W (((BitVec.ofInt (IntKind.bits .i64) (W (((BitVec.ofInt (IntKind.bits .i64) (Int.fdiv (W ((W (x0.2.2 * 6364136223846793005)) + 1442695040888963407)) (2 ^ (min (Int.toNat 33) (IntKind.bits .i64)))) ^^^ BitVec.ofInt (IntKind.bits .i64) (Int.fdiv (W ((W (x0.2.2 * 6364136223846793005)) + 1442695040888963407)) (2 ^ (min (Int.toNat 45) (IntKind.bits .i64))))).toNat : Int))) &&& BitVec.ofInt (IntKind.bits .i64) 255).toNat : Int))), x0.2.1) h ⟨rfl, trivial⟩ trivial [0] rfl [0] rfl)
    rintro ⟨x14, x15⟩ h
    subst hj25
    refine JS.rg0 ttOk 2 [(2, .v (.int .i64 x14))] ⟨⟨rfl, trivial⟩, rfl⟩ rfl rfl ?_
    cases h
    exact JS.retX ttOk () trivial rfl rfl [0] rfl

def M_s_l01Below (x0 : List UInt8 × Int × Int) (x1 : Int) : Option (Int × List UInt8 × Int × Int) :=
  (bif (decide (x1 ≤ 0)) then
  some (0, x0)
  else
  (bif (decide (x1 ≤ 256)) then
  (bindO (M_s_l01Byte x0) fun (y8, y9) =>
  (guardO (x1 ≠ 0) <|
  some ((Int.tmod y8 x1), (x0.1, y9.2.1, y9.2.2))))
  else
  (bindO (M_s_l01Byte x0) fun (y12, y13) =>
  (bindO (M_s_l01Byte (x0.1, y13.2.1, y13.2.2)) fun (y15, y16) =>
  (bindO (M_s_l01Byte (x0.1, y16.2.1, y16.2.2)) fun (y18, y19) =>
  (bindO (M_s_l01Byte (x0.1, y19.2.1, y19.2.2)) fun (y21, y22) =>
  (guardO (x1 ≠ 0) <|
  some ((Int.tmod (W ((W ((W ((W (y12 * 16777216)) + (W (y15 * 65536)))) + (W (y18 * 256)))) + y21)) x1), (x0.1, y22.2.1, y22.2.2)))))))))

theorem ok_s_l01Below (x0 : List UInt8 × Int × Int) (x1 : Int) (a3 : Option Addr) (a4 : Option Addr) (c5 : Nat) (l6 : Nat) (hl7 : x0.1.length = l6) (r : Int × List UInt8 × Int × Int) (h : M_s_l01Below x0 x1 = some r) :
    FX Tryd.prog 30 [.pointer a3, .int .i64 x1] [⟨.byte, ⟨a4, l6, c5⟩, x0.1⟩] [⟨(.pair .val (.pair (.int .i64) (.int .i64))), ⟨a3, 1, 1⟩, [((Sl.v ⟨a4, l6, c5⟩), x0.2.1, x0.2.2)]⟩] (fun _ : Unit => True) (fun _ => .int .i64 r.1) (fun _ => [⟨(.pair .val (.pair (.int .i64) (.int .i64))), ⟨a3, 1, 1⟩, [((Sl.v ⟨a4, l6, c5⟩), r.2.2.1, r.2.2.2)]⟩]) :=
  by
    subst hl7
    refine FX.of (T := TTx) Tryd.call30 Tryd.func30 rfl rfl fun w0 L0 => ?_
    unfold M_s_l01Below at h
    refine JS.ptr 0 a3 rfl ?_
    refine JS.rg0 ttOk 1 [] ⟨trivial, rfl⟩ rfl rfl (JS.seq (JS.rg0 ttOk 2 [(10, .v (.bool (decide (x1 ≤ 0))))] ⟨⟨rfl, trivial⟩, rfl⟩ rfl rfl ?_))
    refine JS.cond rfl (fun ht28 => ?_) (fun ht28 => ?_)
    · have h := condT h ht28
      refine JS.rg0 ttOk 1 [(4, .v (.int .i64 0))] ⟨⟨rfl, trivial⟩, rfl⟩ rfl rfl ?_
      cases h
      exact JS.retX ttOk () trivial rfl rfl [0] rfl
    have h := condF h ht28
    refine JS.skip (JS.seq (JS.rg0 ttOk 2 [(12, .v (.bool (decide (x1 ≤ 256))))] ⟨⟨rfl, trivial⟩, rfl⟩ rfl rfl ?_))
    refine JS.cond rfl (fun ht27 => ?_) (fun ht27 => ?_)
    · have h := condT h ht27
      refine JS.seq (JS.region (JO.reg ttOk 1 [] [] [(13, .ep ⟨a3, 1, 1⟩ 0)] _ rfl ⟨⟨rfl, trivial⟩, rfl⟩ ?_))
      obtain ⟨⟨y8, y9⟩, hy10, h⟩ := bindO_some h
      refine JO.callX rfl rfl rfl rfl (ok_s_l01Byte x0 a3 a4 c5 x0.1.length rfl _ hy10) rfl [0] rfl [0] rfl rfl fun _ _ => ?_
      obtain ⟨g11, h⟩ := guardO_some h
      refine JO.reg ttOk 3 [] [] [(4, .v (.int .i64 (Int.tmod y8 x1)))] _ rfl ⟨g11, ⟨rfl, trivial⟩, rfl⟩ (JO.done rfl ?_)
      cases h
      exact JS.retX ttOk () trivial rfl rfl [0] rfl
    have h := condF h ht27
    refine JS.skip (JS.seq (JS.region (JO.reg ttOk 1 [] [] [(17, .ep ⟨a3, 1, 1⟩ 0)] _ rfl ⟨⟨rfl, trivial⟩, rfl⟩ ?_)))
    obtain ⟨⟨y12, y13⟩, hy14, h⟩ := bindO_some h
    refine JO.callX rfl rfl rfl rfl (ok_s_l01Byte x0 a3 a4 c5 x0.1.length rfl _ hy14) rfl [0] rfl [0] rfl rfl fun _ _ => JO.reg ttOk 1 [] [] [(5, .v (.int .i64 y12))] _ rfl ⟨⟨rfl, trivial⟩, rfl⟩ (JO.done rfl (JS.seq (JS.region (JO.reg ttOk 1 [] [] [(19, .ep ⟨a3, 1, 1⟩ 0)] _ rfl ⟨⟨rfl, trivial⟩, rfl⟩ ?_))))
    obtain ⟨⟨y15, y16⟩, hy17, h⟩ := bindO_some h
    refine JO.callX rfl rfl rfl rfl (ok_s_l01Byte (x0.1, y13.2.1, y13.2.2) a3 a4 c5 x0.1.length rfl _ hy17) rfl [0] rfl [0] rfl rfl fun _ _ => JO.reg ttOk 1 [] [] [(6, .v (.int .i64 y15))] _ rfl ⟨⟨rfl, trivial⟩, rfl⟩ (JO.done rfl (JS.seq (JS.region (JO.reg ttOk 1 [] [] [(21, .ep ⟨a3, 1, 1⟩ 0)] _ rfl ⟨⟨rfl, trivial⟩, rfl⟩ ?_))))
    obtain ⟨⟨y18, y19⟩, hy20, h⟩ := bindO_some h
    refine JO.callX rfl rfl rfl rfl (ok_s_l01Byte (x0.1, y16.2.1, y16.2.2) a3 a4 c5 x0.1.length rfl _ hy20) rfl [0] rfl [0] rfl rfl fun _ _ => JO.reg ttOk 1 [] [] [(7, .v (.int .i64 y18))] _ rfl ⟨⟨rfl, trivial⟩, rfl⟩ (JO.done rfl (JS.seq (JS.region (JO.reg ttOk 1 [] [] [(23, .ep ⟨a3, 1, 1⟩ 0)] _ rfl ⟨⟨rfl, trivial⟩, rfl⟩ ?_))))
    obtain ⟨⟨y21, y22⟩, hy23, h⟩ := bindO_some h
    refine JO.callX rfl rfl rfl rfl (ok_s_l01Byte (x0.1, y19.2.1, y19.2.2) a3 a4 c5 x0.1.length rfl _ hy23) rfl [0] rfl [0] rfl rfl fun _ _ => JO.reg ttOk 1 [] [] [(8, .v (.int .i64 y21))] _ rfl ⟨⟨rfl, trivial⟩, rfl⟩ (JO.done rfl (JS.seq (JS.region ?_)))
    obtain ⟨g24, h⟩ := guardO_some h
    refine JO.reg ttOk 13 [(W (y12 * 16777216)), (W (y15 * 65536)), (W ((W (y12 * 16777216)) + (W (y15 * 65536)))), (W (y18 * 256)), (W ((W ((W (y12 * 16777216)) + (W (y15 * 65536)))) + (W (y18 * 256)))), (W ((W ((W ((W (y12 * 16777216)) + (W (y15 * 65536)))) + (W (y18 * 256)))) + y21))] [] [(4, .v (.int .i64 (Int.tmod (W ((W ((W ((W (y12 * 16777216)) + (W (y15 * 65536)))) + (W (y18 * 256)))) + y21)) x1)))] _ rfl ⟨⟨trivial, rfl⟩, ⟨trivial, rfl⟩, ⟨trivial, rfl⟩, ⟨trivial, rfl⟩, ⟨trivial, rfl⟩, ⟨trivial, rfl⟩, g24, ⟨rfl, trivial⟩, rfl⟩ (JO.done rfl ?_)
    cases h
    exact JS.retX ttOk () trivial rfl rfl [0] rfl

def M_s_l05Text (x0 : List UInt8 × Int × Int) : Option (List UInt8 × List UInt8 × Int × Int) :=
  (bindO (M_s_l01Below x0 12) fun (y8, y9) =>
  (guardO (0 ≤ y8 ∧ y8 < (([([108, 115] : List UInt8), ([101, 99, 104, 111, 32, 97] : List UInt8), ([99, 97, 116, 32, 98] : List UInt8), ([97, 32, 124, 32, 98] : List UInt8), ([120, 61, 49] : List UInt8), ([105, 102, 32, 97, 59, 32, 116, 104, 101, 110, 32, 98, 59, 32, 102, 105] : List UInt8), ([101, 99, 104, 111, 32, 39, 97, 10, 98, 39] : List UInt8), ([109, 97, 107, 101] : List UInt8), ([108, 115, 32, 45, 108] : List UInt8), ([101, 99, 104, 111, 32, 195, 169] : List UInt8), ([103, 105, 116, 32, 108, 111, 103] : List UInt8), ([119] : List UInt8)] : List (List UInt8)).length : Int)) <|
  some ((at' ([([108, 115] : List UInt8), ([101, 99, 104, 111, 32, 97] : List UInt8), ([99, 97, 116, 32, 98] : List UInt8), ([97, 32, 124, 32, 98] : List UInt8), ([120, 61, 49] : List UInt8), ([105, 102, 32, 97, 59, 32, 116, 104, 101, 110, 32, 98, 59, 32, 102, 105] : List UInt8), ([101, 99, 104, 111, 32, 39, 97, 10, 98, 39] : List UInt8), ([109, 97, 107, 101] : List UInt8), ([108, 115, 32, 45, 108] : List UInt8), ([101, 99, 104, 111, 32, 195, 169] : List UInt8), ([103, 105, 116, 32, 108, 111, 103] : List UInt8), ([119] : List UInt8)] : List (List UInt8)) y8), (x0.1, y9.2.1, y9.2.2))))

theorem ok_s_l05Text (x0 : List UInt8 × Int × Int) (a2 : Option Addr) (a3 : Option Addr) (c4 : Nat) (l5 : Nat) (hl6 : x0.1.length = l5) (r : List UInt8 × List UInt8 × Int × Int) (h : M_s_l05Text x0 = some r) :
    FX Tryd.prog 29 [.pointer a2] [⟨.byte, ⟨a3, l5, c4⟩, x0.1⟩] [⟨(.pair .val (.pair (.int .i64) (.int .i64))), ⟨a2, 1, 1⟩, [((Sl.v ⟨a3, l5, c4⟩), x0.2.1, x0.2.2)]⟩] (fun _ : Unit => True) (fun _ => .string (bs r.1)) (fun _ => [⟨(.pair .val (.pair (.int .i64) (.int .i64))), ⟨a2, 1, 1⟩, [((Sl.v ⟨a3, l5, c4⟩), r.2.2.1, r.2.2.2)]⟩]) :=
  by
    subst hl6
    refine FX.of (T := TTx) Tryd.call29 Tryd.func29 rfl rfl fun w0 L0 => ?_
    unfold M_s_l05Text at h
    refine JS.ptr 0 a2 rfl ?_
    refine JS.rg0 ttOk 1 [] ⟨trivial, rfl⟩ rfl rfl (JS.seq (JS.region ?_))
    refine JO.ofK rfl (JK.buildSlice ttOk rfl rfl rfl rfl rfl rfl rfl rfl rfl rfl rfl [] rfl .str [([108, 115] : List UInt8), ([101, 99, 104, 111, 32, 97] : List UInt8), ([99, 97, 116, 32, 98] : List UInt8), ([97, 32, 124, 32, 98] : List UInt8), ([120, 61, 49] : List UInt8), ([105, 102, 32, 97, 59, 32, 116, 104, 101, 110, 32, 98, 59, 32, 102, 105] : List UInt8), ([101, 99, 104, 111, 32, 39, 97, 10, 98, 39] : List UInt8), ([109, 97, 107, 101] : List UInt8), ([108, 115, 32, 45, 108] : List UInt8), ([101, 99, 104, 111, 32, 195, 169] : List UInt8), ([103, 105, 116, 32, 108, 111, 103] : List UInt8), ([119] : List UInt8)] ⟨rfl, rfl⟩ rfl rfl fun a7 => JO.toK ?_)
    refine JO.reg ttOk 1 [] [] [(4, .ep ⟨a2, 1, 1⟩ 0)] _ rfl ⟨⟨rfl, trivial⟩, rfl⟩ ?_
    obtain ⟨⟨y8, y9⟩, hy10, h⟩ := bindO_some h
    refine JO.callX rfl rfl rfl rfl (ok_s_l01Below x0 12 a2 a3 c4 x0.1.length rfl _ hy10) rfl [1] rfl [0] rfl rfl fun _ _ => JO.know 2 rfl fun hs13 => ?_
    obtain ⟨g12, h⟩ := guardO_some h
    refine JO.reg ttOk 1 [] [] [(6, .ep ⟨a7, ([([108, 115] : List UInt8), ([101, 99, 104, 111, 32, 97] : List UInt8), ([99, 97, 116, 32, 98] : List UInt8), ([97, 32, 124, 32, 98] : List UInt8), ([120, 61, 49] : List UInt8), ([105, 102, 32, 97, 59, 32, 116, 104, 101, 110, 32, 98, 59, 32, 102, 105] : List UInt8), ([101, 99, 104, 111, 32, 39, 97, 10, 98, 39] : List UInt8), ([109, 97, 107, 101] : List UInt8), ([108, 115, 32, 45, 108] : List UInt8), ([101, 99, 104, 111, 32, 195, 169] : List UInt8), ([103, 105, 116, 32, 108, 111, 103] : List UInt8), ([119] : List UInt8)] : List (List UInt8)).length, ([([108, 115] : List UInt8), ([101, 99, 104, 111, 32, 97] : List UInt8), ([99, 97, 116, 32, 98] : List UInt8), ([97, 32, 124, 32, 98] : List UInt8), ([120, 61, 49] : List UInt8), ([105, 102, 32, 97, 59, 32, 116, 104, 101, 110, 32, 98, 59, 32, 102, 105] : List UInt8), ([101, 99, 104, 111, 32, 39, 97, 10, 98, 39] : List UInt8), ([109, 97, 107, 101] : List UInt8), ([108, 115, 32, 45, 108] : List UInt8), ([101, 99, 104, 111, 32, 195, 169] : List UInt8), ([103, 105, 116, 32, 108, 111, 103] : List UInt8), ([119] : List UInt8)] : List (List UInt8)).length⟩ (Int.toNat y8 * 1))] _ rfl ⟨hs13.ix g12, ⟨rfl, trivial⟩, rfl⟩ (JO.load ttOk rfl rfl rfl rfl rfl rfl rfl 2 rfl rfl (Int.toNat y8) 0 (at' ([([108, 115] : List UInt8), ([101, 99, 104, 111, 32, 97] : List UInt8), ([99, 97, 116, 32, 98] : List UInt8), ([97, 32, 124, 32, 98] : List UInt8), ([120, 61, 49] : List UInt8), ([105, 102, 32, 97, 59, 32, 116, 104, 101, 110, 32, 98, 59, 32, 102, 105] : List UInt8), ([101, 99, 104, 111, 32, 39, 97, 10, 98, 39] : List UInt8), ([109, 97, 107, 101] : List UInt8), ([108, 115, 32, 45, 108] : List UInt8), ([101, 99, 104, 111, 32, 195, 169] : List UInt8), ([103, 105, 116, 32, 108, 111, 103] : List UInt8), ([119] : List UInt8)] : List (List UInt8)) y8) ⟨at_some g12, rfl⟩ rfl rfl (JO.reg ttOk 1 [] [] [(2, .v (.string (bs (at' ([([108, 115] : List UInt8), ([101, 99, 104, 111, 32, 97] : List UInt8), ([99, 97, 116, 32, 98] : List UInt8), ([97, 32, 124, 32, 98] : List UInt8), ([120, 61, 49] : List UInt8), ([105, 102, 32, 97, 59, 32, 116, 104, 101, 110, 32, 98, 59, 32, 102, 105] : List UInt8), ([101, 99, 104, 111, 32, 39, 97, 10, 98, 39] : List UInt8), ([109, 97, 107, 101] : List UInt8), ([108, 115, 32, 45, 108] : List UInt8), ([101, 99, 104, 111, 32, 195, 169] : List UInt8), ([103, 105, 116, 32, 108, 111, 103] : List UInt8), ([119] : List UInt8)] : List (List UInt8)) y8))))] _ rfl ⟨⟨rfl, trivial⟩, rfl⟩ (JO.done rfl ?_)))
    cases h
    exact JS.retX ttOk () trivial rfl rfl [0] rfl

def M_s_HistOk_L1 (x0 : Int × List (List UInt8)) (j23 : Unit → Option Bool) (k18 : Int → Option Bool) : Int → Option Bool := fun x6 =>
  (bif (decide (x6 < (x0.2.length : Int))) then
  (guardO (0 ≤ x6 ∧ x6 < (x0.2.length : Int)) <|
  (bif (bif (decide (((at' x0.2 x6).length : Int) < 1)) then true else (decide (1000 < ((at' x0.2 x6).length : Int)))) then
  some false
  else
  k18 (W (x6 + 1))))
  else
  j23 ())

def M_s_HistOk (x0 : Int × List (List UInt8)) : Option Bool :=
  (joinO (fun (_ : Unit) =>
  some (bif (bif (decide (1 ≤ x0.1)) then (decide (x0.1 ≤ 1000000000)) else false) then (decide ((x0.2.length : Int) ≤ 60)) else false)) fun j23 =>
  (fixF (M_s_HistOk_L1 x0 j23) FUEL 0))

theorem ok_s_HistOk (x0 : Int × List (List UInt8)) (a2 : Option Addr) (c3 : Nat) (l4 : Nat) (hl5 : x0.2.length = l4) (r : Bool) (h : M_s_HistOk x0 = some r) :
    FC Tryd.prog 39 [.agg #[.int .i64 x0.1, .slice a2 l4 c3]] [⟨.str, ⟨a2, l4, c3⟩, x0.2⟩] (fun _ : Unit => True) (fun _ => .bool r) (fun _ => []) :=
  by
    subst hl5
    refine FC.of (T := TTx) Tryd.call39 Tryd.func39 rfl rfl fun w0 => ?_
    unfold M_s_HistOk at h
    refine JS.rgB ttOk 2 [] [2] [(1, .bp 2 0)] (.new 2 28 [.int .i64 x0.1, .slice a2 x0.2.length c3] .nil) ⟨⟨rfl, trivial⟩, (Bs rfl rfl)⟩ rfl rfl (JS.seq (JS.rg0 ttOk 4 [(6, .v (.slice a2 x0.2.length c3)), (7, .v (.int .i64 (x0.2.length : Int))), (8, .v (.int .i64 0))] ⟨(Es rfl), rfl⟩ rfl rfl ?_))
    obtain ⟨j23, hj31, h⟩ := joinO_some h
    refine JS.blockJ (ι := Unit) ⟨fun _ => j23 () = some r, fun _ => [(1, .bp 2 0)], fun _ => (.new 2 28 [.int .i64 x0.1, .slice a2 x0.2.length c3] .nil), fun _ => [⟨.str, ⟨a2, x0.2.length, c3⟩, x0.2⟩], fun _ => [], fun _ => 0⟩ ?_ ?_
    · refine JS.loop (ι := Nat × Int) ⟨fun z => fixF (M_s_HistOk_L1 x0 j23) z.1 z.2 = some r, fun z => [(1, .bp 2 0), (6, .v (.slice a2 x0.2.length c3)), (7, .v (.int .i64 (x0.2.length : Int))), (8, .v (.int .i64 z.2))], fun z => (.new 2 28 [.int .i64 x0.1, .slice a2 x0.2.length c3] .nil), fun z => [⟨.str, ⟨a2, x0.2.length, c3⟩, x0.2⟩], fun z => [], fun z => z.1⟩ (FUEL, 0) h (Es rfl) (Bs rfl rfl) [0] rfl [] rfl ?_
      rintro ⟨n19, x6⟩ h
      obtain ⟨n19, rfl, h⟩ := fixF_some h
      rw [M_s_HistOk_L1] at h
      refine JS.rg0 ttOk 1 [(9, .v (.bool (decide (x6 < (x0.2.length : Int)))))] ⟨⟨rfl, trivial⟩, rfl⟩ rfl rfl (JS.seq ?_)
      refine JS.cond rfl (fun ht30 => ?_) (fun ht30 => ?_)
      · have h := condT h ht30
        refine JS.skip (JS.seq (JS.block (JS.seq (JS.region (JO.know 0 rfl fun hs28 => ?_)))))
        obtain ⟨g12, h⟩ := guardO_some h
        refine JO.reg ttOk 1 [] [] [(10, .ep ⟨a2, x0.2.length, c3⟩ (Int.toNat x6 * 1))] _ rfl ⟨hs28.ix g12, ⟨rfl, trivial⟩, rfl⟩ (JO.load ttOk rfl rfl rfl rfl rfl rfl rfl 0 rfl rfl (Int.toNat x6) 0 (at' x0.2 x6) ⟨at_some g12, rfl⟩ rfl rfl (JO.reg ttOk 1 [] [] [(4, .v (.string (bs (at' x0.2 x6))))] _ rfl ⟨⟨rfl, trivial⟩, rfl⟩ (JO.done rfl (JS.rg0 ttOk 8 [(19, .v (.bool (bif (decide (((at' x0.2 x6).length : Int) < 1)) then true else (decide (1000 < ((at' x0.2 x6).length : Int))))))] ⟨⟨rfl, trivial⟩, rfl⟩ rfl rfl ?_))))
        refine JS.cond rfl (fun ht29 => ?_) (fun ht29 => ?_)
        · have h := condT h ht29
          refine JS.rg0 ttOk 1 [(2, .v (.bool false))] ⟨⟨rfl, trivial⟩, rfl⟩ rfl rfl ?_
          cases h
          exact JS.ret ttOk () trivial rfl rfl [] rfl
        have h := condF h ht29
        refine JS.skip (JS.endB (JS.re ttOk 2 [(W (x6 + 1))] [] [(8, .v (.int .i64 (W (x6 + 1))))] _ ⟨⟨trivial, rfl⟩, ⟨rfl, trivial⟩, rfl⟩ rfl rfl (JS.endL (n19, (W (x6 + 1))) h (Nat.lt_succ_self _) (Es rfl) (Bs rfl rfl) [0] rfl [] rfl)))
      have h := condF h ht30
      refine JS.exit rfl (JS.endJ () h ⟨rfl, trivial⟩ (Bs rfl rfl) [0] rfl [] rfl)
    rintro _ h
    subst hj31
    refine JS.rg0 ttOk 15 [(2, .v (.bool (bif (bif (decide (1 ≤ x0.1)) then (decide (x0.1 ≤ 1000000000)) else false) then (decide ((x0.2.length : Int) ≤ 60)) else false)))] ⟨⟨rfl, trivial⟩, rfl⟩ rfl rfl ?_
    cases h
    exact JS.ret ttOk () trivial rfl rfl [] rfl

def M_s_HistAdd (x0 : Int × List (List UInt8)) (x1 : List UInt8) : Option ((Int × List (List UInt8)) × Bool) :=
  (joinO (fun (x16 : List (List UInt8)) =>
  (joinO (fun ((x24, x25) : Int × List (List UInt8)) =>
  (bindO (M_s_HistOk x0) fun (y30 : Bool) =>
  (callO ((!y30) = false) (M_s_HistOk (x24, x25)) false fun (y32 : Bool) =>
  (bif (bif (!y30) then true else (!y32)) then
  some ((0, []), false)
  else
  some ((x24, x25), true))))) fun j28 =>
  (bif (decide (60 < (x16.length : Int))) then
  (guardO (0 ≤ (1 : Int) ∧ (1 : Int) ≤ (x16.length : Int) ∧ (x16.length : Int) ≤ (x16.length : Int)) <|
  j28 ((W (x0.1 + 1)), (sub' x16 1 (x16.length : Int))))
  else
  j28 (x0.1, x16)))) fun j19 =>
  (guardO (([] : List (List UInt8)).length + x0.2.length ≤ 536870912) <|
  (guardO ((([] : List (List UInt8)) ++ x0.2).length + ([x1] : List (List UInt8)).length ≤ 536870912) <|
  j19 ((([] : List (List UInt8)) ++ x0.2) ++ ([x1] : List (List UInt8))))))

theorem ok_s_HistAdd (x0 : Int × List (List UInt8)) (x1 : List UInt8) (a3 : Option Addr) (c4 : Nat) (l5 : Nat) (hl6 : x0.2.length = l5) (r : (Int × List (List UInt8)) × Bool) (h : M_s_HistAdd x0 x1 = some r) :
    FC Tryd.prog 47 [.agg #[.int .i64 x0.1, .slice a3 l5 c4], .string (bs x1)] [⟨.str, ⟨a3, l5, c4⟩, x0.2⟩] (fun _ : Option Addr × Nat => True) (fun q => .tuple #[.agg #[.int .i64 r.1.1, .slice q.1 r.1.2.length q.2], .bool r.2]) (fun q => [⟨.str, ⟨q.1, r.1.2.length, q.2⟩, r.1.2⟩]) :=
  by
    subst hl6
    refine FC.of (T := TTx) Tryd.call47 Tryd.func47 rfl rfl fun w0 => ?_
    unfold M_s_HistAdd at h
    refine JS.rgB ttOk 3 [] [2, 3] [(2, .bp 2 0), (4, .bp 3 0)] (.new 2 28 [.int .i64 x0.1, .slice a3 x0.2.length c4] (.new 3 28 [.int .i64 0, .slice none 0 0] .nil)) ⟨(Es rfl), (Bs rfl rfl)⟩ rfl rfl (JS.seq ?_)
    obtain ⟨j19, hj42, h⟩ := joinO_some h
    refine JS.cutJ (ι := List (List UInt8) × Option Addr × Nat) ⟨fun z => j19 z.1 = some r, fun z => [(2, .bp 2 0), (4, .bp 3 0), (6, .bp 16 0)], fun z => (.new 2 28 [.int .i64 x0.1, .slice a3 x0.2.length c4] (.new 3 28 [.int .i64 0, .slice none 0 0] (.new 16 28 [.int .i64 x0.1, .slice z.2.1 z.1.length z.2.2] .nil))), fun z => [⟨.str, ⟨a3, x0.2.length, c4⟩, x0.2⟩], fun z => [⟨.str, ⟨z.2.1, z.1.length, z.2.2⟩, z.1⟩], fun z => 0⟩ ?_ ?_
    · obtain ⟨g8, h⟩ := guardO_some h
      obtain ⟨g12, h⟩ := guardO_some h
      refine JS.regionA rfl (.new 2 28 [.int .i64 x0.1, .slice a3 x0.2.length c4] .nil) [] [9, 11] ⟨rfl, rfl, rfl, rfl, trivial⟩ rfl (fun be15 => ?_)
      refine JA.reg ttOk panic_cx true 7 [0, 1, 3, 4, 6] rfl (by kernel_rfl) [] [(8, .v (.int .i64 x0.1)), (11, .v (.slice a3 x0.2.length c4)), (13, .v (.string (bs x1)))] ⟨rfl, rfl, rfl, rfl, trivial⟩ [] rfl rfl (Es rfl) ?_
      refine JA.all (rs := [2, 7, 10]) (by kernel_rfl) rfl (List.forall_mem_cons.2 ⟨?_, List.forall_mem_cons.2 ⟨?_, List.forall_mem_cons.2 ⟨?_, (fun _ hx => absurd hx List.not_mem_nil)⟩⟩⟩)
      · refine JK.buildSlice ttOk rfl rfl rfl rfl rfl rfl rfl rfl rfl rfl rfl [] rfl .str [] ⟨rfl, rfl⟩ rfl rfl fun a7 => JA.next ⟨rfl, rfl, rfl, rfl, trivial⟩ [] rfl ?_
        refine JA.all (rs := [5, 7, 10]) (by kernel_rfl) rfl (List.forall_mem_cons.2 ⟨?_, List.forall_mem_cons.2 ⟨?_, List.forall_mem_cons.2 ⟨?_, (fun _ hx => absurd hx List.not_mem_nil)⟩⟩⟩)
        · refine JK.appendR' ttOk rfl rfl rfl rfl ⟨rfl, rfl, rfl, rfl, trivial, rfl, rfl, rfl, rfl⟩ rfl rfl rfl [0] rfl 0 rfl g8 rfl fun a9 c10 => JA.next ⟨rfl, rfl, rfl, rfl, trivial⟩ [] rfl ?_
          refine JA.all (rs := [7, 10]) (by kernel_rfl) rfl (List.forall_mem_cons.2 ⟨?_, List.forall_mem_cons.2 ⟨?_, (fun _ hx => absurd hx List.not_mem_nil)⟩⟩)
          · refine JK.buildSlice ttOk rfl rfl rfl rfl rfl rfl rfl rfl rfl rfl rfl [] rfl .str [x1] ⟨rfl, rfl⟩ rfl rfl fun a11 => JA.next ⟨rfl, rfl, rfl, rfl, trivial⟩ [] rfl ?_
            refine JA.all (rs := [8, 10]) (by kernel_rfl) rfl (List.forall_mem_cons.2 ⟨?_, List.forall_mem_cons.2 ⟨?_, (fun _ hx => absurd hx List.not_mem_nil)⟩⟩)
            · refine JK.appendR' ttOk rfl rfl rfl rfl ⟨rfl, rfl, rfl, rfl, trivial, rfl, rfl, rfl, rfl⟩ rfl rfl rfl [1] rfl 1 rfl g12 rfl fun a13 c14 => JA.next ⟨rfl, rfl, rfl, rfl, trivial⟩ [] rfl (JA.regL ttOk panic_cx 2 [9] rfl (by kernel_rfl) [] [(16, .v (.agg #[.int .i64 x0.1, .slice a13 ((([] : List (List UInt8)) ++ x0.2) ++ ([x1] : List (List UInt8))).length c14]))] rfl ⟨rfl, trivial⟩ (JA.one 10 (by kernel_rfl) (JK.alloc ttOk rfl rfl rfl rfl rfl 16 rfl (sd_upd _ rfl) (JA.next ⟨rfl, rfl, rfl, rfl, trivial⟩ [] rfl (JA.one 11 (by kernel_rfl) (JK.stBox ttOk rfl rfl rfl rfl rfl rfl rfl rfl (JA.nextL rfl (JA.done (by kernel_rfl) (JS.boxes (B' := (.new 2 28 [.int .i64 x0.1, .slice a3 x0.2.length c4] (.new 3 28 [.int .i64 0, .slice none 0 0] (.new 16 28 [.int .i64 x0.1, .slice a13 ((([] : List (List UInt8)) ++ x0.2) ++ ([x1] : List (List UInt8))).length c14] .nil)))) (Bs rfl rfl) (JS.endJ (((([] : List (List UInt8)) ++ x0.2) ++ ([x1] : List (List UInt8))), a13, c14) h (Es rfl) (Bs rfl rfl) [0] rfl [0] rfl))))))))))
            refine JK.alloc ttOk rfl rfl rfl rfl rfl 16 rfl (sd_upd _ rfl) (JA.next ⟨rfl, rfl, rfl, rfl, trivial⟩ [] rfl (JA.one 8 (by kernel_rfl) (JK.appendR' ttOk rfl rfl rfl rfl ⟨rfl, rfl, rfl, rfl, trivial, rfl, rfl, rfl, rfl⟩ rfl rfl rfl [1] rfl 1 rfl g12 rfl fun a13 c14 => JA.next ⟨rfl, rfl, rfl, rfl, trivial⟩ [] rfl (JA.regL ttOk panic_cx 1 [9] rfl (by kernel_rfl) [] [(16, .v (.agg #[.int .i64 x0.1, .slice a13 ((([] : List (List UInt8)) ++ x0.2) ++ ([x1] : List (List UInt8))).length c14]))] rfl ⟨rfl, trivial⟩ (JA.one 11 (by kernel_rfl) (JK.stBox ttOk rfl rfl rfl rfl rfl rfl rfl rfl (JA.nextL rfl (JA.done (by kernel_rfl) (JS.boxes (B' := (.new 2 28 [.int .i64 x0.1, .slice a3 x0.2.length c4] (.new 3 28 [.int .i64 0, .slice none 0 0] (.new 16 28 [.int .i64 x0.1, .slice a13 ((([] : List (List UInt8)) ++ x0.2) ++ ([x1] : List (List UInt8))).length c14] .nil)))) (Bs rfl rfl) (JS.endJ (((([] : List (List UInt8)) ++ x0.2) ++ ([x1] : List (List UInt8))), a13, c14) h (Es rfl) (Bs rfl rfl) [0] rfl [0] rfl))))))))))
          refine JK.alloc ttOk rfl rfl rfl rfl rfl 16 rfl (sd_upd _ rfl) (JA.next ⟨rfl, rfl, rfl, rfl, trivial⟩ [] rfl (JA.one 7 (by kernel_rfl) (JK.buildSlice ttOk rfl rfl rfl rfl rfl rfl rfl rfl rfl rfl rfl [] rfl .str [x1] ⟨rfl, rfl⟩ rfl rfl fun a11 => JA.next ⟨rfl, rfl, rfl, rfl, trivial⟩ [] rfl (JA.one 8 (by kernel_rfl) (JK.appendR' ttOk rfl rfl rfl rfl ⟨rfl, rfl, rfl, rfl, trivial, rfl, rfl, rfl, rfl⟩ rfl rfl rfl [1] rfl 1 rfl g12 rfl fun a13 c14 => JA.next ⟨rfl, rfl, rfl, rfl, trivial⟩ [] rfl (JA.regL ttOk panic_cx 1 [9] rfl (by kernel_rfl) [] [(16, .v (.agg #[.int .i64 x0.1, .slice a13 ((([] : List (List UInt8)) ++ x0.2) ++ ([x1] : List (List UInt8))).length c14]))] rfl ⟨rfl, trivial⟩ (JA.one 11 (by kernel_rfl) (JK.stBox ttOk rfl rfl rfl rfl rfl rfl rfl rfl (JA.nextL rfl (JA.done (by kernel_rfl) (JS.boxes (B' := (.new 2 28 [.int .i64 x0.1, .slice a3 x0.2.length c4] (.new 3 28 [.int .i64 0, .slice none 0 0] (.new 16 28 [.int .i64 x0.1, .slice a13 ((([] : List (List UInt8)) ++ x0.2) ++ ([x1] : List (List UInt8))).length c14] .nil)))) (Bs rfl rfl) (JS.endJ (((([] : List (List UInt8)) ++ x0.2) ++ ([x1] : List (List UInt8))), a13, c14) h (Es rfl) (Bs rfl rfl) [0] rfl [0] rfl))))))))))))
        · refine JK.buildSlice ttOk rfl rfl rfl rfl rfl rfl rfl rfl rfl rfl rfl [] rfl .str [x1] ⟨rfl, rfl⟩ rfl rfl fun a11 => JA.next ⟨rfl, rfl, rfl, rfl, trivial⟩ [] rfl ?_
          refine JA.all (rs := [5, 10]) (by kernel_rfl) rfl (List.forall_mem_cons.2 ⟨?_, List.forall_mem_cons.2 ⟨?_, (fun _ hx => absurd hx List.not_mem_nil)⟩⟩)
          · refine JK.appendR' ttOk rfl rfl rfl rfl ⟨rfl, rfl, rfl, rfl, trivial, rfl, rfl, rfl, rfl⟩ rfl rfl rfl [1] rfl 0 rfl g8 rfl fun a9 c10 => JA.next ⟨rfl, rfl, rfl, rfl, trivial⟩ [] rfl ?_
            refine JA.all (rs := [8, 10]) (by kernel_rfl) rfl (List.forall_mem_cons.2 ⟨?_, List.forall_mem_cons.2 ⟨?_, (fun _ hx => absurd hx List.not_mem_nil)⟩⟩)
            · refine JK.appendR' ttOk rfl rfl rfl rfl ⟨rfl, rfl, rfl, rfl, trivial, rfl, rfl, rfl, rfl⟩ rfl rfl rfl [0] rfl 2 rfl g12 rfl fun a13 c14 => JA.next ⟨rfl, rfl, rfl, rfl, trivial⟩ [] rfl (JA.regL ttOk panic_cx 2 [9] rfl (by kernel_rfl) [] [(16, .v (.agg #[.int .i64 x0.1, .slice a13 ((([] : List (List UInt8)) ++ x0.2) ++ ([x1] : List (List UInt8))).length c14]))] rfl ⟨rfl, trivial⟩ (JA.one 10 (by kernel_rfl) (JK.alloc ttOk rfl rfl rfl rfl rfl 16 rfl (sd_upd _ rfl) (JA.next ⟨rfl, rfl, rfl, rfl, trivial⟩ [] rfl (JA.one 11 (by kernel_rfl) (JK.stBox ttOk rfl rfl rfl rfl rfl rfl rfl rfl (JA.nextL rfl (JA.done (by kernel_rfl) (JS.boxes (B' := (.new 2 28 [.int .i64 x0.1, .slice a3 x0.2.length c4] (.new 3 28 [.int .i64 0, .slice none 0 0] (.new 16 28 [.int .i64 x0.1, .slice a13 ((([] : List (List UInt8)) ++ x0.2) ++ ([x1] : List (List UInt8))).length c14] .nil)))) (Bs rfl rfl) (JS.endJ (((([] : List (List UInt8)) ++ x0.2) ++ ([x1] : List (List UInt8))), a13, c14) h (Es rfl) (Bs rfl rfl) [0] rfl [0] rfl))))))))))
            refine JK.alloc ttOk rfl rfl rfl rfl rfl 16 rfl (sd_upd _ rfl) (JA.next ⟨rfl, rfl, rfl, rfl, trivial⟩ [] rfl (JA.one 8 (by kernel_rfl) (JK.appendR' ttOk rfl rfl rfl rfl ⟨rfl, rfl, rfl, rfl, trivial, rfl, rfl, rfl, rfl⟩ rfl rfl rfl [0] rfl 2 rfl g12 rfl fun a13 c14 => JA.next ⟨rfl, rfl, rfl, rfl, trivial⟩ [] rfl (JA.regL ttOk panic_cx 1 [9] rfl (by kernel_rfl) [] [(16, .v (.agg #[.int .i64 x0.1, .slice a13 ((([] : List (List UInt8)) ++ x0.2) ++ ([x1] : List (List UInt8))).length c14]))] rfl ⟨rfl, trivial⟩ (JA.one 11 (by kernel_rfl) (JK.stBox ttOk rfl rfl rfl rfl rfl rfl rfl rfl (JA.nextL rfl (JA.done (by kernel_rfl) (JS.boxes (B' := (.new 2 28 [.int .i64 x0.1, .slice a3 x0.2.length c4] (.new 3 28 [.int .i64 0, .slice none 0 0] (.new 16 28 [.int .i64 x0.1, .slice a13 ((([] : List (List UInt8)) ++ x0.2) ++ ([x1] : List (List UInt8))).length c14] .nil)))) (Bs rfl rfl) (JS.endJ (((([] : List (List UInt8)) ++ x0.2) ++ ([x1] : List (List UInt8))), a13, c14) h (Es rfl) (Bs rfl rfl) [0] rfl [0] rfl))))))))))
          refine JK.alloc ttOk rfl rfl rfl rfl rfl 16 rfl (sd_upd _ rfl) (JA.next ⟨rfl, rfl, rfl, rfl, trivial⟩ [] rfl (JA.one 5 (by kernel_rfl) (JK.appendR' ttOk rfl rfl rfl rfl ⟨rfl, rfl, rfl, rfl, trivial, rfl, rfl, rfl, rfl⟩ rfl rfl rfl [1] rfl 0 rfl g8 rfl fun a9 c10 => JA.next ⟨rfl, rfl, rfl, rfl, trivial⟩ [] rfl (JA.one 8 (by kernel_rfl) (JK.appendR' ttOk rfl rfl rfl rfl ⟨rfl, rfl, rfl, rfl, trivial, rfl, rfl, rfl, rfl⟩ rfl rfl rfl [0] rfl 2 rfl g12 rfl fun a13 c14 => JA.next ⟨rfl, rfl, rfl, rfl, trivial⟩ [] rfl (JA.regL ttOk panic_cx 1 [9] rfl (by kernel_rfl) [] [(16, .v (.agg #[.int .i64 x0.1, .slice a13 ((([] : List (List UInt8)) ++ x0.2) ++ ([x1] : List (List UInt8))).length c14]))] rfl ⟨rfl, trivial⟩ (JA.one 11 (by kernel_rfl) (JK.stBox ttOk rfl rfl rfl rfl rfl rfl rfl rfl (JA.nextL rfl (JA.done (by kernel_rfl) (JS.boxes (B' := (.new 2 28 [.int .i64 x0.1, .slice a3 x0.2.length c4] (.new 3 28 [.int .i64 0, .slice none 0 0] (.new 16 28 [.int .i64 x0.1, .slice a13 ((([] : List (List UInt8)) ++ x0.2) ++ ([x1] : List (List UInt8))).length c14] .nil)))) (Bs rfl rfl) (JS.endJ (((([] : List (List UInt8)) ++ x0.2) ++ ([x1] : List (List UInt8))), a13, c14) h (Es rfl) (Bs rfl rfl) [0] rfl [0] rfl))))))))))))
        refine JK.alloc ttOk rfl rfl rfl rfl rfl 16 rfl (sd_upd _ rfl) (JA.next ⟨rfl, rfl, rfl, rfl, trivial⟩ [] rfl ?_)
        refine JA.all (rs := [5, 7]) (by kernel_rfl) rfl (List.forall_mem_cons.2 ⟨?_, List.forall_mem_cons.2 ⟨?_, (fun _ hx => absurd hx List.not_mem_nil)⟩⟩)
        · refine JK.appendR' ttOk rfl rfl rfl rfl ⟨rfl, rfl, rfl, rfl, trivial, rfl, rfl, rfl, rfl⟩ rfl rfl rfl [0] rfl 0 rfl g8 rfl fun a9 c10 => JA.next ⟨rfl, rfl, rfl, rfl, trivial⟩ [] rfl (JA.one 7 (by kernel_rfl) (JK.buildSlice ttOk rfl rfl rfl rfl rfl rfl rfl rfl rfl rfl rfl [] rfl .str [x1] ⟨rfl, rfl⟩ rfl rfl fun a11 => JA.next ⟨rfl, rfl, rfl, rfl, trivial⟩ [] rfl (JA.one 8 (by kernel_rfl) (JK.appendR' ttOk rfl rfl rfl rfl ⟨rfl, rfl, rfl, rfl, trivial, rfl, rfl, rfl, rfl⟩ rfl rfl rfl [1] rfl 1 rfl g12 rfl fun a13 c14 => JA.next ⟨rfl, rfl, rfl, rfl, trivial⟩ [] rfl (JA.regL ttOk panic_cx 1 [9] rfl (by kernel_rfl) [] [(16, .v (.agg #[.int .i64 x0.1, .slice a13 ((([] : List (List UInt8)) ++ x0.2) ++ ([x1] : List (List UInt8))).length c14]))] rfl ⟨rfl, trivial⟩ (JA.one 11 (by kernel_rfl) (JK.stBox ttOk rfl rfl rfl rfl rfl rfl rfl rfl (JA.nextL rfl (JA.done (by kernel_rfl) (JS.boxes (B' := (.new 2 28 [.int .i64 x0.1, .slice a3 x0.2.length c4] (.new 3 28 [.int .i64 0, .slice none 0 0] (.new 16 28 [.int .i64 x0.1, .slice a13 ((([] : List (List UInt8)) ++ x0.2) ++ ([x1] : List (List UInt8))).length c14] .nil)))) (Bs rfl rfl) (JS.endJ (((([] : List (List UInt8)) ++ x0.2) ++ ([x1] : List (List UInt8))), a13, c14) h (Es rfl) (Bs rfl rfl) [0] rfl [0] rfl)))))))))))
        refine JK.buildSlice ttOk rfl rfl rfl rfl rfl rfl rfl rfl rfl rfl rfl [] rfl .str [x1] ⟨rfl, rfl⟩ rfl rfl fun a11 => JA.next ⟨rfl, rfl, rfl, rfl, trivial⟩ [] rfl (JA.one 5 (by kernel_rfl) (JK.appendR' ttOk rfl rfl rfl rfl ⟨rfl, rfl, rfl, rfl, trivial, rfl, rfl, rfl, rfl⟩ rfl rfl rfl [1] rfl 0 rfl g8 rfl fun a9 c10 => JA.next ⟨rfl, rfl, rfl, rfl, trivial⟩ [] rfl (JA.one 8 (by kernel_rfl) (JK.appendR' ttOk rfl rfl rfl rfl ⟨rfl, rfl, rfl, rfl, trivial, rfl, rfl, rfl, rfl⟩ rfl rfl rfl [0] rfl 2 rfl g12 rfl fun a13 c14 => JA.next ⟨rfl, rfl, rfl, rfl, trivial⟩ [] rfl (JA.regL ttOk panic_cx 1 [9] rfl (by kernel_rfl) [] [(16, .v (.agg #[.int .i64 x0.1, .slice a13 ((([] : List (List UInt8)) ++ x0.2) ++ ([x1] : List (List UInt8))).length c14]))] rfl ⟨rfl, trivial⟩ (JA.one 11 (by kernel_rfl) (JK.stBox ttOk rfl rfl rfl rfl rfl rfl rfl rfl (JA.nextL rfl (JA.done (by kernel_rfl) (JS.boxes (B' := (.new 2 28 [.int .i64 x0.1, .slice a3 x0.2.length c4] (.new 3 28 [.int .i64 0, .slice none 0 0] (.new 16 28 [.int .i64 x0.1, .slice a13 ((([] : List (List UInt8)) ++ x0.2) ++ ([x1] : List (List UInt8))).length c14] .nil)))) (Bs rfl rfl) (JS.endJ (((([] : List (List UInt8)) ++ x0.2) ++ ([x1] : List (List UInt8))), a13, c14) h (Es rfl) (Bs rfl rfl) [0] rfl [0] rfl)))))))))))
      · refine JK.buildSlice ttOk rfl rfl rfl rfl rfl rfl rfl rfl rfl rfl rfl [] rfl .str [x1] ⟨rfl, rfl⟩ rfl rfl fun a11 => JA.next ⟨rfl, rfl, rfl, rfl, trivial⟩ [] rfl ?_
        refine JA.all (rs := [2, 10]) (by kernel_rfl) rfl (List.forall_mem_cons.2 ⟨?_, List.forall_mem_cons.2 ⟨?_, (fun _ hx => absurd hx List.not_mem_nil)⟩⟩)
        · refine JK.buildSlice ttOk rfl rfl rfl rfl rfl rfl rfl rfl rfl rfl rfl [] rfl .str [] ⟨rfl, rfl⟩ rfl rfl fun a7 => JA.next ⟨rfl, rfl, rfl, rfl, trivial⟩ [] rfl ?_
          refine JA.all (rs := [5, 10]) (by kernel_rfl) rfl (List.forall_mem_cons.2 ⟨?_, List.forall_mem_cons.2 ⟨?_, (fun _ hx => absurd hx List.not_mem_nil)⟩⟩)
          · refine JK.appendR' ttOk rfl rfl rfl rfl ⟨rfl, rfl, rfl, rfl, trivial, rfl, rfl, rfl, rfl⟩ rfl rfl rfl [0] rfl 0 rfl g8 rfl fun a9 c10 => JA.next ⟨rfl, rfl, rfl, rfl, trivial⟩ [] rfl ?_
            refine JA.all (rs := [8, 10]) (by kernel_rfl) rfl (List.forall_mem_cons.2 ⟨?_, List.forall_mem_cons.2 ⟨?_, (fun _ hx => absurd hx List.not_mem_nil)⟩⟩)
            · refine JK.appendR' ttOk rfl rfl rfl rfl ⟨rfl, rfl, rfl, rfl, trivial, rfl, rfl, rfl, rfl⟩ rfl rfl rfl [0] rfl 2 rfl g12 rfl fun a13 c14 => JA.next ⟨rfl, rfl, rfl, rfl, trivial⟩ [] rfl (JA.regL ttOk panic_cx 2 [9] rfl (by kernel_rfl) [] [(16, .v (.agg #[.int .i64 x0.1, .slice a13 ((([] : List (List UInt8)) ++ x0.2) ++ ([x1] : List (List UInt8))).length c14]))] rfl ⟨rfl, trivial⟩ (JA.one 10 (by kernel_rfl) (JK.alloc ttOk rfl rfl rfl rfl rfl 16 rfl (sd_upd _ rfl) (JA.next ⟨rfl, rfl, rfl, rfl, trivial⟩ [] rfl (JA.one 11 (by kernel_rfl) (JK.stBox ttOk rfl rfl rfl rfl rfl rfl rfl rfl (JA.nextL rfl (JA.done (by kernel_rfl) (JS.boxes (B' := (.new 2 28 [.int .i64 x0.1, .slice a3 x0.2.length c4] (.new 3 28 [.int .i64 0, .slice none 0 0] (.new 16 28 [.int .i64 x0.1, .slice a13 ((([] : List (List UInt8)) ++ x0.2) ++ ([x1] : List (List UInt8))).length c14] .nil)))) (Bs rfl rfl) (JS.endJ (((([] : List (List UInt8)) ++ x0.2) ++ ([x1] : List (List UInt8))), a13, c14) h (Es rfl) (Bs rfl rfl) [0] rfl [0] rfl))))))))))
            refine JK.alloc ttOk rfl rfl rfl rfl rfl 16 rfl (sd_upd _ rfl) (JA.next ⟨rfl, rfl, rfl, rfl, trivial⟩ [] rfl (JA.one 8 (by kernel_rfl) (JK.appendR' ttOk rfl rfl rfl rfl ⟨rfl, rfl, rfl, rfl, trivial, rfl, rfl, rfl, rfl⟩ rfl rfl rfl [0] rfl 2 rfl g12 rfl fun a13 c14 => JA.next ⟨rfl, rfl, rfl, rfl, trivial⟩ [] rfl (JA.regL ttOk panic_cx 1 [9] rfl (by kernel_rfl) [] [(16, .v (.agg #[.int .i64 x0.1, .slice a13 ((([] : List (List UInt8)) ++ x0.2) ++ ([x1] : List (List UInt8))).length c14]))] rfl ⟨rfl, trivial⟩ (JA.one 11 (by kernel_rfl) (JK.stBox ttOk rfl rfl rfl rfl rfl rfl rfl rfl (JA.nextL rfl (JA.done (by kernel_rfl) (JS.boxes (B' := (.new 2 28 [.int .i64 x0.1, .slice a3 x0.2.length c4] (.new 3 28 [.int .i64 0, .slice none 0 0] (.new 16 28 [.int .i64 x0.1, .slice a13 ((([] : List (List UInt8)) ++ x0.2) ++ ([x1] : List (List UInt8))).length c14] .nil)))) (Bs rfl rfl) (JS.endJ (((([] : List (List UInt8)) ++ x0.2) ++ ([x1] : List (List UInt8))), a13, c14) h (Es rfl) (Bs rfl rfl) [0] rfl [0] rfl))))))))))
          refine JK.alloc ttOk rfl rfl rfl rfl rfl 16 rfl (sd_upd _ rfl) (JA.next ⟨rfl, rfl, rfl, rfl, trivial⟩ [] rfl (JA.one 5 (by kernel_rfl) (JK.appendR' ttOk rfl rfl rfl rfl ⟨rfl, rfl, rfl, rfl, trivial, rfl, rfl, rfl, rfl⟩ rfl rfl rfl [0] rfl 0 rfl g8 rfl fun a9 c10 => JA.next ⟨rfl, rfl, rfl, rfl, trivial⟩ [] rfl (JA.one 8 (by kernel_rfl) (JK.appendR' ttOk rfl rfl rfl rfl ⟨rfl, rfl, rfl, rfl, trivial, rfl, rfl, rfl, rfl⟩ rfl rfl rfl [0] rfl 2 rfl g12 rfl fun a13 c14 => JA.next ⟨rfl, rfl, rfl, rfl, trivial⟩ [] rfl (JA.regL ttOk panic_cx 1 [9] rfl (by kernel_rfl) [] [(16, .v (.agg #[.int .i64 x0.1, .slice a13 ((([] : List (List UInt8)) ++ x0.2) ++ ([x1] : List (List UInt8))).length c14]))] rfl ⟨rfl, trivial⟩ (JA.one 11 (by kernel_rfl) (JK.stBox ttOk rfl rfl rfl rfl rfl rfl rfl rfl (JA.nextL rfl (JA.done (by kernel_rfl) (JS.boxes (B' := (.new 2 28 [.int .i64 x0.1, .slice a3 x0.2.length c4] (.new 3 28 [.int .i64 0, .slice none 0 0] (.new 16 28 [.int .i64 x0.1, .slice a13 ((([] : List (List UInt8)) ++ x0.2) ++ ([x1] : List (List UInt8))).length c14] .nil)))) (Bs rfl rfl) (JS.endJ (((([] : List (List UInt8)) ++ x0.2) ++ ([x1] : List (List UInt8))), a13, c14) h (Es rfl) (Bs rfl rfl) [0] rfl [0] rfl))))))))))))
        refine JK.alloc ttOk rfl rfl rfl rfl rfl 16 rfl (sd_upd _ rfl) (JA.next ⟨rfl, rfl, rfl, rfl, trivial⟩ [] rfl (JA.one 2 (by kernel_rfl) (JK.buildSlice ttOk rfl rfl rfl rfl rfl rfl rfl rfl rfl rfl rfl [] rfl .str [] ⟨rfl, rfl⟩ rfl rfl fun a7 => JA.next ⟨rfl, rfl, rfl, rfl, trivial⟩ [] rfl (JA.one 5 (by kernel_rfl) (JK.appendR' ttOk rfl rfl rfl rfl ⟨rfl, rfl, rfl, rfl, trivial, rfl, rfl, rfl, rfl⟩ rfl rfl rfl [0] rfl 0 rfl g8 rfl fun a9 c10 => JA.next ⟨rfl, rfl, rfl, rfl, trivial⟩ [] rfl (JA.one 8 (by kernel_rfl) (JK.appendR' ttOk rfl rfl rfl rfl ⟨rfl, rfl, rfl, rfl, trivial, rfl, rfl, rfl, rfl⟩ rfl rfl rfl [0] rfl 2 rfl g12 rfl fun a13 c14 => JA.next ⟨rfl, rfl, rfl, rfl, trivial⟩ [] rfl (JA.regL ttOk panic_cx 1 [9] rfl (by kernel_rfl) [] [(16, .v (.agg #[.int .i64 x0.1, .slice a13 ((([] : List (List UInt8)) ++ x0.2) ++ ([x1] : List (List UInt8))).length c14]))] rfl ⟨rfl, trivial⟩ (JA.one 11 (by kernel_rfl) (JK.stBox ttOk rfl rfl rfl rfl rfl rfl rfl rfl (JA.nextL rfl (JA.done (by kernel_rfl) (JS.boxes (B' := (.new 2 28 [.int .i64 x0.1, .slice a3 x0.2.length c4] (.new 3 28 [.int .i64 0, .slice none 0 0] (.new 16 28 [.int .i64 x0.1, .slice a13 ((([] : List (List UInt8)) ++ x0.2) ++ ([x1] : List (List UInt8))).length c14] .nil)))) (Bs rfl rfl) (JS.endJ (((([] : List (List UInt8)) ++ x0.2) ++ ([x1] : List (List UInt8))), a13, c14) h (Es rfl) (Bs rfl rfl) [0] rfl [0] rfl))))))))))))))
      refine JK.alloc ttOk rfl rfl rfl rfl rfl 16 rfl (sd_upd _ rfl) (JA.next ⟨rfl, rfl, rfl, rfl, trivial⟩ [] rfl ?_)
      refine JA.all (rs := [2, 7]) (by kernel_rfl) rfl (List.forall_mem_cons.2 ⟨?_, List.forall_mem_cons.2 ⟨?_, (fun _ hx => absurd hx List.not_mem_nil)⟩⟩)
      · refine JK.buildSlice ttOk rfl rfl rfl rfl rfl rfl rfl rfl rfl rfl rfl [] rfl .str [] ⟨rfl, rfl⟩ rfl rfl fun a7 => JA.next ⟨rfl, rfl, rfl, rfl, trivial⟩ [] rfl ?_
        refine JA.all (rs := [5, 7]) (by kernel_rfl) rfl (List.forall_mem_cons.2 ⟨?_, List.forall_mem_cons.2 ⟨?_, (fun _ hx => absurd hx List.not_mem_nil)⟩⟩)
        · refine JK.appendR' ttOk rfl rfl rfl rfl ⟨rfl, rfl, rfl, rfl, trivial, rfl, rfl, rfl, rfl⟩ rfl rfl rfl [0] rfl 0 rfl g8 rfl fun a9 c10 => JA.next ⟨rfl, rfl, rfl, rfl, trivial⟩ [] rfl (JA.one 7 (by kernel_rfl) (JK.buildSlice ttOk rfl rfl rfl rfl rfl rfl rfl rfl rfl rfl rfl [] rfl .str [x1] ⟨rfl, rfl⟩ rfl rfl fun a11 => JA.next ⟨rfl, rfl, rfl, rfl, trivial⟩ [] rfl (JA.one 8 (by kernel_rfl) (JK.appendR' ttOk rfl rfl rfl rfl ⟨rfl, rfl, rfl, rfl, trivial, rfl, rfl, rfl, rfl⟩ rfl rfl rfl [1] rfl 1 rfl g12 rfl fun a13 c14 => JA.next ⟨rfl, rfl, rfl, rfl, trivial⟩ [] rfl (JA.regL ttOk panic_cx 1 [9] rfl (by kernel_rfl) [] [(16, .v (.agg #[.int .i64 x0.1, .slice a13 ((([] : List (List UInt8)) ++ x0.2) ++ ([x1] : List (List UInt8))).length c14]))] rfl ⟨rfl, trivial⟩ (JA.one 11 (by kernel_rfl) (JK.stBox ttOk rfl rfl rfl rfl rfl rfl rfl rfl (JA.nextL rfl (JA.done (by kernel_rfl) (JS.boxes (B' := (.new 2 28 [.int .i64 x0.1, .slice a3 x0.2.length c4] (.new 3 28 [.int .i64 0, .slice none 0 0] (.new 16 28 [.int .i64 x0.1, .slice a13 ((([] : List (List UInt8)) ++ x0.2) ++ ([x1] : List (List UInt8))).length c14] .nil)))) (Bs rfl rfl) (JS.endJ (((([] : List (List UInt8)) ++ x0.2) ++ ([x1] : List (List UInt8))), a13, c14) h (Es rfl) (Bs rfl rfl) [0] rfl [0] rfl)))))))))))
        refine JK.buildSlice ttOk rfl rfl rfl rfl rfl rfl rfl rfl rfl rfl rfl [] rfl .str [x1] ⟨rfl, rfl⟩ rfl rfl fun a11 => JA.next ⟨rfl, rfl, rfl, rfl, trivial⟩ [] rfl (JA.one 5 (by kernel_rfl) (JK.appendR' ttOk rfl rfl rfl rfl ⟨rfl, rfl, rfl, rfl, trivial, rfl, rfl, rfl, rfl⟩ rfl rfl rfl [1] rfl 0 rfl g8 rfl fun a9 c10 => JA.next ⟨rfl, rfl, rfl, rfl, trivial⟩ [] rfl (JA.one 8 (by kernel_rfl) (JK.appendR' ttOk rfl rfl rfl rfl ⟨rfl, rfl, rfl, rfl, trivial, rfl, rfl, rfl, rfl⟩ rfl rfl rfl [0] rfl 2 rfl g12 rfl fun a13 c14 => JA.next ⟨rfl, rfl, rfl, rfl, trivial⟩ [] rfl (JA.regL ttOk panic_cx 1 [9] rfl (by kernel_rfl) [] [(16, .v (.agg #[.int .i64 x0.1, .slice a13 ((([] : List (List UInt8)) ++ x0.2) ++ ([x1] : List (List UInt8))).length c14]))] rfl ⟨rfl, trivial⟩ (JA.one 11 (by kernel_rfl) (JK.stBox ttOk rfl rfl rfl rfl rfl rfl rfl rfl (JA.nextL rfl (JA.done (by kernel_rfl) (JS.boxes (B' := (.new 2 28 [.int .i64 x0.1, .slice a3 x0.2.length c4] (.new 3 28 [.int .i64 0, .slice none 0 0] (.new 16 28 [.int .i64 x0.1, .slice a13 ((([] : List (List UInt8)) ++ x0.2) ++ ([x1] : List (List UInt8))).length c14] .nil)))) (Bs rfl rfl) (JS.endJ (((([] : List (List UInt8)) ++ x0.2) ++ ([x1] : List (List UInt8))), a13, c14) h (Es rfl) (Bs rfl rfl) [0] rfl [0] rfl)))))))))))
      refine JK.buildSlice ttOk rfl rfl rfl rfl rfl rfl rfl rfl rfl rfl rfl [] rfl .str [x1] ⟨rfl, rfl⟩ rfl rfl fun a11 => JA.next ⟨rfl, rfl, rfl, rfl, trivial⟩ [] rfl (JA.one 2 (by kernel_rfl) (JK.buildSlice ttOk rfl rfl rfl rfl rfl rfl rfl rfl rfl rfl rfl [] rfl .str [] ⟨rfl, rfl⟩ rfl rfl fun a7 => JA.next ⟨rfl, rfl, rfl, rfl, trivial⟩ [] rfl (JA.one 5 (by kernel_rfl) (JK.appendR' ttOk rfl rfl rfl rfl ⟨rfl, rfl, rfl, rfl, trivial, rfl, rfl, rfl, rfl⟩ rfl rfl rfl [0] rfl 0 rfl g8 rfl fun a9 c10 => JA.next ⟨rfl, rfl, rfl, rfl, trivial⟩ [] rfl (JA.one 8 (by kernel_rfl) (JK.appendR' ttOk rfl rfl rfl rfl ⟨rfl, rfl, rfl, rfl, trivial, rfl, rfl, rfl, rfl⟩ rfl rfl rfl [0] rfl 2 rfl g12 rfl fun a13 c14 => JA.next ⟨rfl, rfl, rfl, rfl, trivial⟩ [] rfl (JA.regL ttOk panic_cx 1 [9] rfl (by kernel_rfl) [] [(16, .v (.agg #[.int .i64 x0.1, .slice a13 ((([] : List (List UInt8)) ++ x0.2) ++ ([x1] : List (List UInt8))).length c14]))] rfl ⟨rfl, trivial⟩ (JA.one 11 (by kernel_rfl) (JK.stBox ttOk rfl rfl rfl rfl rfl rfl rfl rfl (JA.nextL rfl (JA.done (by kernel_rfl) (JS.boxes (B' := (.new 2 28 [.int .i64 x0.1, .slice a3 x0.2.length c4] (.new 3 28 [.int .i64 0, .slice none 0 0] (.new 16 28 [.int .i64 x0.1, .slice a13 ((([] : List (List UInt8)) ++ x0.2) ++ ([x1] : List (List UInt8))).length c14] .nil)))) (Bs rfl rfl) (JS.endJ (((([] : List (List UInt8)) ++ x0.2) ++ ([x1] : List (List UInt8))), a13, c14) h (Es rfl) (Bs rfl rfl) [0] rfl [0] rfl)))))))))))))
    rintro ⟨x16, a17, c18⟩ h
    subst hj42
    obtain ⟨j28, hj41, h⟩ := joinO_some h
    refine JS.seqJ (ι := Int × List (List UInt8) × Option Addr × Nat) ⟨fun z => j28 (z.1, z.2.1) = some r, fun z => [(2, .bp 2 0), (4, .bp 3 0), (6, .bp 16 0)], fun z => (.new 2 28 [.int .i64 x0.1, .slice a3 x0.2.length c4] (.new 3 28 [.int .i64 0, .slice none 0 0] (.new 16 28 [.int .i64 z.1, .slice z.2.2.1 z.2.1.length z.2.2.2] .nil))), fun z => [⟨.str, ⟨a3, x0.2.length, c4⟩, x0.2⟩], fun z => [⟨.str, ⟨z.2.2.1, z.2.1.length, z.2.2.2⟩, z.2.1⟩], fun z => 0⟩ ?_ ?_
    · refine JS.rg0 ttOk 4 [(20, .v (.bool (decide (60 < (x16.length : Int)))))] ⟨⟨rfl, trivial⟩, rfl⟩ rfl rfl ?_
      refine JS.cond rfl (fun ht38 => ?_) (fun ht38 => ?_)
      · have h := condT h ht38
        refine JS.seq (JS.region (JO.reg ttOk 2 [] [] [(22, .v (.slice a17 x16.length c18))] _ rfl ⟨⟨rfl, trivial⟩, rfl⟩ ?_))
        obtain ⟨g20, h⟩ := guardO_some h
        refine JO.sliceO' ttOk rfl rfl rfl rfl rfl rfl rfl rfl [0] rfl (1 : Int) (x16.length : Int) rfl rfl g20 rfl fun a21 c22 => JO.regB ttOk 2 [] [] [] (.new 2 28 [.int .i64 x0.1, .slice a3 x0.2.length c4] (.new 3 28 [.int .i64 0, .slice none 0 0] (.new 16 28 [.int .i64 x0.1, .slice a21 (sub' x16 1 (x16.length : Int)).length c22] .nil))) rfl ⟨trivial, (Bs rfl rfl)⟩ (JO.done rfl (JS.reB ttOk 5 [(W (x0.1 + 1))] [] [] (.new 2 28 [.int .i64 x0.1, .slice a3 x0.2.length c4] (.new 3 28 [.int .i64 0, .slice none 0 0] (.new 16 28 [.int .i64 (W (x0.1 + 1)), .slice a21 (sub' x16 1 (x16.length : Int)).length c22] .nil))) ⟨⟨trivial, rfl⟩, trivial, (Bs rfl rfl)⟩ rfl rfl (JS.endJ ((W (x0.1 + 1)), (sub' x16 1 (x16.length : Int)), a21, c22) h (Es rfl) (Bs rfl rfl) [0] rfl [0] rfl)))
      have h := condF h ht38
      refine JS.skip (JS.endJ (x0.1, x16, a17, c18) h (Es rfl) (Bs rfl rfl) [0] rfl [0] rfl)
    rintro ⟨x24, x25, a26, c27⟩ h
    subst hj41
    refine JS.seq (JS.seq (JS.region (JO.reg ttOk 1 [] [] [(29, .v (.agg #[.int .i64 x0.1, .slice a3 x0.2.length c4]))] _ rfl ⟨⟨rfl, trivial⟩, rfl⟩ ?_)))
    obtain ⟨y30, hy31, h⟩ := bindO_some h
    refine JO.call rfl rfl rfl rfl (ok_s_HistOk x0 a3 c4 x0.2.length rfl _ hy31) rfl [0] rfl rfl fun _ _ => JO.reg ttOk 3 [] [] [(32, .v (.bool (!y30))), (33, .cd [(32, false)] (.v (.agg #[.int .i64 x24, .slice a26 x25.length c27])))] _ rfl ⟨(Es rfl), rfl⟩ ?_
    obtain ⟨y32, hy33, -, h⟩ := callO_some h
    refine JO.callg rfl rfl rfl rfl (fun q39 => ok_s_HistOk (x24, x25) a26 c27 x25.length rfl _ (hy33 q39)) rfl [1] rfl rfl (JO.reg ttOk 2 [] [] [(36, .v (.bool (bif (!y30) then true else (!y32))))] _ rfl ⟨⟨rfl, trivial⟩, rfl⟩ (JO.done rfl ?_))
    refine JS.cond rfl (fun ht40 => ?_) (fun ht40 => ?_)
    · have h := condT h ht40
      refine JS.rgB ttOk 3 [] [] [(5, .v (.bool false))] (.new 3 28 [.int .i64 0, .slice none 0 0] .nil) ⟨⟨rfl, trivial⟩, (Bs rfl rfl)⟩ rfl rfl ?_
      cases h
      refine JS.nilO .str Sl.nil rfl rfl (JS.ret ttOk (none, 0) trivial rfl rfl [0] rfl)
    have h := condF h ht40
    refine JS.skip (JS.rgB ttOk 3 [] [] [(5, .v (.bool true))] (.new 3 28 [.int .i64 x24, .slice a26 x25.length c27] .nil) ⟨⟨rfl, trivial⟩, (Bs rfl rfl)⟩ rfl rfl ?_)
    cases h
    exact JS.ret ttOk (a26, c27) trivial rfl rfl [0] rfl

def M_s_l16Draw_L1 (x0 : List UInt8 × Int × Int) (j59 : (Int × List (List UInt8) × Int × Int) → Option ((Int × List (List UInt8)) × List UInt8 × Int × Int)) (k50 : (Int × Int × List (List UInt8) × Int × Int) → Option ((Int × List (List UInt8)) × List UInt8 × Int × Int)) : (Int × Int × List (List UInt8) × Int × Int) → Option ((Int × List (List UInt8)) × List UInt8 × Int × Int) := fun (x25, x30, x31, x37, x38) =>
  (bif (decide (0 < x25)) then
  (bindO (M_s_l05Text (x0.1, x37, x38)) fun (y39, y40) =>
  (bindO (M_s_HistAdd (x30, x31) y39) fun (y42, y43) =>
  k50 ((W (x25 - 1)), y42.1, y42.2, y40.2.1, y40.2.2)))
  else
  j59 (x30, x31, x37, x38))

def M_s_l16Draw (x0 : List UInt8 × Int × Int) : Option ((Int × List (List UInt8)) × List UInt8 × Int × Int) :=
  (bindO (M_s_l01Below x0 5) fun (y7, y8) =>
  (bindO (M_s_l01Below (x0.1, y8.2.1, y8.2.2) 8) fun (y10, y11) =>
  (joinO (fun ((x20, x21, x22) : Int × Int × Int) =>
  (joinO (fun ((x53, x54, x57, x58) : Int × List (List UInt8) × Int × Int) =>
  some ((x53, x54), (x0.1, x57, x58))) fun j59 =>
  (fixF (M_s_l16Draw_L1 x0 j59) FUEL (x20, (W (1 + y7)), ([] : List (List UInt8)), x21, x22)))) fun j23 =>
  (bindO (M_s_l01Below (x0.1, y11.2.1, y11.2.2) 12) fun (y13, y14) =>
  (bif (decide (y13 = 0)) then
  (bindO (M_s_l01Below (x0.1, y14.2.1, y14.2.2) 4) fun (y16, y17) =>
  j23 ((W (59 + y16)), y17.2.1, y17.2.2))
  else
  j23 (y10, y14.2.1, y14.2.2))))))

theorem ok_s_l16Draw (x0 : List UInt8 × Int × Int) (a2 : Option Addr) (a3 : Option Addr) (c4 : Nat) (l5 : Nat) (hl6 : x0.1.length = l5) (r : (Int × List (List UInt8)) × List UInt8 × Int × Int) (h : M_s_l16Draw x0 = some r) :
    FX Tryd.prog 28 [.pointer a2] [⟨.byte, ⟨a3, l5, c4⟩, x0.1⟩] [⟨(.pair .val (.pair (.int .i64) (.int .i64))), ⟨a2, 1, 1⟩, [((Sl.v ⟨a3, l5, c4⟩), x0.2.1, x0.2.2)]⟩] (fun _ : Option Addr × Nat => True) (fun q => .agg #[.int .i64 r.1.1, .slice q.1 r.1.2.length q.2]) (fun q => [⟨(.pair .val (.pair (.int .i64) (.int .i64))), ⟨a2, 1, 1⟩, [((Sl.v ⟨a3, l5, c4⟩), r.2.2.1, r.2.2.2)]⟩, ⟨.str, ⟨q.1, r.1.2.length, q.2⟩, r.1.2⟩]) :=
  by
    subst hl6
    refine FX.of (T := TTx) Tryd.call28 Tryd.func28 rfl rfl fun w0 L0 => ?_
    unfold M_s_l16Draw at h
    refine JS.ptr 0 a2 rfl ?_
    refine JS.rgB ttOk 1 [] [3] [(2, .bp 3 0)] (.new 3 28 [.int .i64 0, .slice none 0 0] .nil) ⟨⟨rfl, trivial⟩, (Bs rfl rfl)⟩ rfl rfl (JS.seq (JS.region (JO.reg ttOk 1 [] [] [(5, .ep ⟨a2, 1, 1⟩ 0)] _ rfl ⟨⟨rfl, trivial⟩, rfl⟩ ?_)))
    obtain ⟨⟨y7, y8⟩, hy9, h⟩ := bindO_some h
    refine JO.callX rfl rfl rfl rfl (ok_s_l01Below x0 5 a2 a3 c4 x0.1.length rfl _ hy9) rfl [0] rfl [0] rfl rfl fun _ _ => JO.regB ttOk 4 [(W (1 + y7))] [7] [(3, .bp 7 0)] (.new 3 28 [.int .i64 0, .slice none 0 0] (.new 7 28 [.int .i64 (W (1 + y7)), .slice none 0 0] .nil)) rfl ⟨⟨trivial, rfl⟩, ⟨rfl, trivial⟩, (Bs rfl rfl)⟩ (JO.done rfl (JS.seq (JS.region (JO.reg ttOk 1 [] [] [(9, .ep ⟨a2, 1, 1⟩ 0)] _ rfl ⟨⟨rfl, trivial⟩, rfl⟩ ?_))))
    obtain ⟨⟨y10, y11⟩, hy12, h⟩ := bindO_some h
    refine JO.callX rfl rfl rfl rfl (ok_s_l01Below (x0.1, y8.2.1, y8.2.2) 8 a2 a3 c4 x0.1.length rfl _ hy12) rfl [0] rfl [0] rfl rfl fun _ _ => JO.reg ttOk 1 [] [] [(4, .v (.int .i64 y10))] _ rfl ⟨⟨rfl, trivial⟩, rfl⟩ (JO.done rfl ?_)
    obtain ⟨j23, hj66, h⟩ := joinO_some h
    refine JS.seqJ (ι := Int × Int × Int) ⟨fun z => j23 (z.1, z.2.1, z.2.2) = some r, fun z => [(0, .ep ⟨a2, 1, 1⟩ 0), (2, .bp 3 0), (3, .bp 7 0), (4, .v (.int .i64 z.1))], fun z => (.new 3 28 [.int .i64 0, .slice none 0 0] (.new 7 28 [.int .i64 (W (1 + y7)), .slice none 0 0] .nil)), fun z => [⟨.byte, ⟨a3, x0.1.length, c4⟩, x0.1⟩], fun z => [⟨(.pair .val (.pair (.int .i64) (.int .i64))), ⟨a2, 1, 1⟩, [((Sl.v ⟨a3, x0.1.length, c4⟩), z.2.1, z.2.2)]⟩], fun z => 0⟩ ?_ ?_
    · refine JS.seq (JS.region (JO.reg ttOk 1 [] [] [(11, .ep ⟨a2, 1, 1⟩ 0)] _ rfl ⟨⟨rfl, trivial⟩, rfl⟩ ?_))
      obtain ⟨⟨y13, y14⟩, hy15, h⟩ := bindO_some h
      refine JO.callX rfl rfl rfl rfl (ok_s_l01Below (x0.1, y11.2.1, y11.2.2) 12 a2 a3 c4 x0.1.length rfl _ hy15) rfl [0] rfl [0] rfl rfl fun _ _ => JO.reg ttOk 1 [] [] [(13, .v (.bool (decide (y13 = 0))))] _ rfl ⟨⟨rfl, trivial⟩, rfl⟩ (JO.done rfl ?_)
      refine JS.cond rfl (fun ht63 => ?_) (fun ht63 => ?_)
      · have h := condT h ht63
        refine JS.region (JO.reg ttOk 1 [] [] [(14, .ep ⟨a2, 1, 1⟩ 0)] _ rfl ⟨⟨rfl, trivial⟩, rfl⟩ ?_)
        obtain ⟨⟨y16, y17⟩, hy18, h⟩ := bindO_some h
        refine JO.callX rfl rfl rfl rfl (ok_s_l01Below (x0.1, y14.2.1, y14.2.2) 4 a2 a3 c4 x0.1.length rfl _ hy18) rfl [0] rfl [0] rfl rfl fun _ _ => JO.reg ttOk 2 [(W (59 + y16))] [] [(4, .v (.int .i64 (W (59 + y16))))] _ rfl ⟨⟨trivial, rfl⟩, ⟨rfl, trivial⟩, rfl⟩ (JO.done rfl (JS.endJ ((W (59 + y16)), y17.2.1, y17.2.2) h (Es rfl) (Bs rfl rfl) [0] rfl [0] rfl))
      have h := condF h ht63
      refine JS.skip (JS.endJ (y10, y14.2.1, y14.2.2) h (Es rfl) (Bs rfl rfl) [0] rfl [0] rfl)
    rintro ⟨x20, x21, x22⟩ h
    subst hj66
    refine JS.seq ?_
    obtain ⟨j59, hj65, h⟩ := joinO_some h
    refine JS.blockJ (ι := Int × List (List UInt8) × Int × Int × Option Addr × Nat) ⟨fun z => j59 (z.1, z.2.1, z.2.2.1, z.2.2.2.1) = some r, fun z => [(2, .bp 3 0), (3, .bp 7 0)], fun z => (.new 3 28 [.int .i64 0, .slice none 0 0] (.new 7 28 [.int .i64 z.1, .slice z.2.2.2.2.1 z.2.1.length z.2.2.2.2.2] .nil)), fun z => [⟨.byte, ⟨a3, x0.1.length, c4⟩, x0.1⟩], fun z => [⟨.str, ⟨z.2.2.2.2.1, z.2.1.length, z.2.2.2.2.2⟩, z.2.1⟩, ⟨(.pair .val (.pair (.int .i64) (.int .i64))), ⟨a2, 1, 1⟩, [((Sl.v ⟨a3, x0.1.length, c4⟩), z.2.2.1, z.2.2.2.1)]⟩], fun z => 0⟩ ?_ ?_
    · refine JS.nilO .str Sl.nil rfl rfl (JS.loop (ι := Nat × Int × Int × List (List UInt8) × Int × Int × Option Addr × Nat) ⟨fun z => fixF (M_s_l16Draw_L1 x0 j59) z.1 (z.2.1, z.2.2.1, z.2.2.2.1, z.2.2.2.2.1, z.2.2.2.2.2.1) = some r, fun z => [(0, .ep ⟨a2, 1, 1⟩ 0), (2, .bp 3 0), (3, .bp 7 0), (4, .v (.int .i64 z.2.1))], fun z => (.new 3 28 [.int .i64 0, .slice none 0 0] (.new 7 28 [.int .i64 z.2.2.1, .slice z.2.2.2.2.2.2.1 z.2.2.2.1.length z.2.2.2.2.2.2.2] .nil)), fun z => [⟨.byte, ⟨a3, x0.1.length, c4⟩, x0.1⟩], fun z => [⟨.str, ⟨z.2.2.2.2.2.2.1, z.2.2.2.1.length, z.2.2.2.2.2.2.2⟩, z.2.2.2.1⟩, ⟨(.pair .val (.pair (.int .i64) (.int .i64))), ⟨a2, 1, 1⟩, [((Sl.v ⟨a3, x0.1.length, c4⟩), z.2.2.2.2.1, z.2.2.2.2.2.1)]⟩], fun z => z.1⟩ (FUEL, x20, (W (1 + y7)), ([] : List (List UInt8)), x21, x22, none, 0) h (Es rfl) (Bs rfl rfl) [0] rfl [0, 0] rfl ?_)
      rintro ⟨n51, x25, x30, x31, x37, x38, a32, c33⟩ h
      obtain ⟨n51, rfl, h⟩ := fixF_some h
      rw [M_s_l16Draw_L1] at h
      refine JS.seq (JS.rg0 ttOk 2 [(18, .v (.bool (decide (0 < x25))))] ⟨⟨rfl, trivial⟩, rfl⟩ rfl rfl ?_)
      refine JS.cond rfl (fun ht64 => ?_) (fun ht64 => ?_)
      · have h := condT h ht64
        refine JS.skip (JS.seq (JS.block ?_))
        obtain ⟨⟨y39, y40⟩, hy41, h⟩ := bindO_some h
        obtain ⟨⟨y42, y43⟩, hy44, h⟩ := bindO_some h
        refine JS.regionA rfl (.new 7 28 [.int .i64 x30, .slice a32 x31.length c33] .nil) [] [3, 4, 5, 6, 7] ⟨rfl, rfl, rfl, rfl, trivial⟩ rfl (fun be47 => ?_)
        refine JA.reg ttOk panic_cxX true 6 [0, 1] rfl (by kernel_rfl) [] [(22, .v (.agg #[.int .i64 x30, .slice a32 x31.length c33])), (23, .ep ⟨a2, 1, 1⟩ 0)] ⟨rfl, rfl, rfl, rfl, trivial⟩ [] rfl rfl (Es rfl) (JA.one 2 (by kernel_rfl) (JK.callX rfl rfl rfl rfl (ok_s_l05Text (x0.1, x37, x38) a2 a3 c4 x0.1.length rfl _ hy41) rfl [1] rfl [0] rfl rfl fun _ _ => JA.next ⟨rfl, rfl, rfl, rfl, trivial⟩ [] rfl (JA.one 3 (by kernel_rfl) (JK.call rfl rfl rfl rfl (ok_s_HistAdd (x30, x31) y39 a32 c33 x31.length rfl _ hy44) rfl [2] rfl rfl ?_))))
        rintro ⟨a45, c46⟩ -
        refine JA.nextL rfl (JA.regL ttOk panic_cxX 1 [4, 5, 6] rfl (by kernel_rfl) [] [(26, .v (.agg #[.int .i64 y42.1, .slice a45 y42.2.length c46]))] rfl ⟨rfl, trivial⟩ (JA.one 7 (by kernel_rfl) (JK.stBox ttOk rfl rfl rfl rfl rfl rfl rfl rfl (JA.nextL rfl (JA.done (by kernel_rfl) (JS.boxes (B' := (.new 3 28 [.int .i64 0, .slice none 0 0] (.new 7 28 [.int .i64 y42.1, .slice a45 y42.2.length c46] .nil))) (Bs rfl rfl) (JS.endB (JS.re ttOk 3 [(W (x25 - 1))] [] [(4, .v (.int .i64 (W (x25 - 1))))] _ ⟨⟨trivial, rfl⟩, ⟨rfl, trivial⟩, rfl⟩ rfl rfl (JS.endL (n51, (W (x25 - 1)), y42.1, y42.2, y40.2.1, y40.2.2, a45, c46) h (Nat.lt_succ_self _) (Es rfl) (Bs rfl rfl) [0] rfl [0, 0] rfl)))))))))
      have h := condF h ht64
      refine JS.exit rfl (JS.endJ (x30, x31, x37, x38, a32, c33) h (Es rfl) (Bs rfl rfl) [0] rfl [0, 0] rfl)
    rintro ⟨x53, x54, x57, x58, a55, c56⟩ h
    subst hj65
    refine JS.rgB ttOk 2 [] [] [] (.new 3 28 [.int .i64 x53, .slice a55 x54.length c56] .nil) ⟨trivial, (Bs rfl rfl)⟩ rfl rfl ?_
    cases h
    exact JS.retX ttOk (a55, c56) trivial rfl rfl [1, 0] rfl

def M_s_MakeHist (x0 : List UInt8) : Option ((Int × List (List UInt8)) × List UInt8) :=
  (bindO (M_s_l01New x0) fun (y6 : List UInt8 × Int × Int) =>
  (bindO (M_s_l16Draw (x0, y6.2.1, y6.2.2)) fun (y9, y10) =>
  (bindO (M_s_l05Text (x0, y10.2.1, y10.2.2)) fun (y14, y15) =>
  some (y9, y14))))

theorem ok_s_MakeHist (x0 : List UInt8) (a2 : Option Addr) (c3 : Nat) (l4 : Nat) (hl5 : x0.length = l4) (r : (Int × List (List UInt8)) × List UInt8) (h : M_s_MakeHist x0 = some r) :
    FC Tryd.prog 11 [.slice a2 l4 c3] [⟨.byte, ⟨a2, l4, c3⟩, x0⟩] (fun _ : Option Addr × Nat => True) (fun q => .tuple #[.agg #[.int .i64 r.1.1, .slice q.1 r.1.2.length q.2], .string (bs r.2)]) (fun q => [⟨.str, ⟨q.1, r.1.2.length, q.2⟩, r.1.2⟩]) :=
  by
    subst hl5
    refine FC.of (T := TTx) Tryd.call11 Tryd.func11 rfl rfl fun w0 => ?_
    unfold M_s_MakeHist at h
    refine JS.rgB ttOk 2 [] [2] [(2, .bp 2 0)] (.new 2 28 [.int .i64 0, .slice none 0 0] .nil) ⟨⟨rfl, trivial⟩, (Bs rfl rfl)⟩ rfl rfl (JS.seq (JS.region (JO.reg ttOk 1 [] [] [(6, .v (.slice a2 x0.length c3))] _ rfl ⟨⟨rfl, trivial⟩, rfl⟩ ?_)))
    obtain ⟨y6, hy7, h⟩ := bindO_some h
    refine JO.call rfl rfl rfl rfl (ok_s_l01New x0 a2 c3 x0.length rfl _ hy7) rfl [0] rfl rfl fun a8 _ => JO.ptr 7 a8 rfl (JO.reg ttOk 1 [] [] [(4, .ep ⟨a8, 1, 1⟩ 0)] _ rfl ⟨⟨rfl, trivial⟩, rfl⟩ (JO.done rfl (JS.seq (JS.region (JO.reg ttOk 1 [] [] [(8, .ep ⟨a8, 1, 1⟩ 0)] _ rfl ⟨⟨rfl, trivial⟩, rfl⟩ ?_)))))
    obtain ⟨⟨y9, y10⟩, hy11, h⟩ := bindO_some h
    refine JO.callX rfl rfl rfl rfl (ok_s_l16Draw (x0, y6.2.1, y6.2.2) a8 a2 c3 x0.length rfl _ hy11) rfl [0] rfl [0] rfl rfl ?_
    rintro ⟨a12, c13⟩ -
    refine JO.regB ttOk 2 [] [13] [(5, .bp 13 0)] (.new 2 28 [.int .i64 0, .slice none 0 0] (.new 13 28 [.int .i64 y9.1, .slice a12 y9.2.length c13] .nil)) rfl ⟨⟨rfl, trivial⟩, (Bs rfl rfl)⟩ (JO.done rfl (JS.seq ?_))
    obtain ⟨⟨y14, y15⟩, hy16, h⟩ := bindO_some h
    refine JS.regionA rfl (.new 13 28 [.int .i64 y9.1, .slice a12 y9.2.length c13] .nil) [] [3, 4] ⟨rfl, rfl, rfl, rfl, trivial⟩ rfl (fun be17 => ?_)
    refine JA.reg ttOk panic_cx true 3 [0, 1] rfl (by kernel_rfl) [] [(10, .v (.agg #[.int .i64 y9.1, .slice a12 y9.2.length c13])), (11, .ep ⟨a8, 1, 1⟩ 0)] ⟨rfl, rfl, rfl, rfl, trivial⟩ [] rfl rfl (Es rfl) (JA.one 2 (by kernel_rfl) (JK.callX rfl rfl rfl rfl (ok_s_l05Text (x0, y10.2.1, y10.2.2) a8 a2 c3 x0.length rfl _ hy16) rfl [0] rfl [0] rfl rfl fun _ _ => JA.next ⟨rfl, rfl, rfl, rfl, trivial⟩ [] rfl (JA.one 3 (by kernel_rfl) (JK.stBox ttOk rfl rfl rfl rfl rfl rfl rfl rfl (JA.nextL rfl (JA.regL ttOk panic_cx 0 [4] rfl (by kernel_rfl) [] [(3, .v (.string (bs y14)))] rfl ⟨rfl, trivial⟩ (JA.done (by kernel_rfl) (JS.boxes (B' := (.new 2 28 [.int .i64 y9.1, .slice a12 y9.2.length c13] .nil)) (Bs rfl rfl) ?_))))))))
    cases h
    exact JS.ret ttOk (a12, c13) trivial rfl rfl [1] rfl

def M_i_in (x0 : Int) (x1 : Int) (x2 : Int) : Option Bool :=
  some (bif (decide (x1 ≤ x0)) then (decide (x0 ≤ x2)) else false)

theorem ok_i_in (x0 : Int) (x1 : Int) (x2 : Int) (r : Bool) (h : M_i_in x0 x1 x2 = some r) :
    FC Tryd.prog 35 [.int .i64 x0, .int .i64 x1, .int .i64 x2] [] (fun _ : Unit => True) (fun _ => .bool r) (fun _ => []) :=
  by
    refine FC.of (T := TTx) Tryd.call35 Tryd.func35 rfl rfl fun w0 => ?_
    unfold M_i_in at h
    refine JS.rg0 ttOk 1 [] ⟨trivial, rfl⟩ rfl rfl (JS.rg0 ttOk 9 [(6, .v (.bool (bif (decide (x1 ≤ x0)) then (decide (x0 ≤ x2)) else false)))] ⟨⟨rfl, trivial⟩, rfl⟩ rfl rfl ?_)
    cases h
    exact JS.ret ttOk () trivial rfl rfl [] rfl

def M_i_HistOk_L1 (x0 : Int × List (List UInt8)) (j20 : Unit → Option Bool) (k15 : Int → Option Bool) : Int → Option Bool := fun x8 =>
  (bif (decide (x8 < (x0.2.length : Int))) then
  (guardO (0 ≤ x8 ∧ x8 < (x0.2.length : Int)) <|
  (bindO (M_i_in ((at' x0.2 x8).length : Int) 1 1000) fun (y11 : Bool) =>
  (bif (!y11) then
  some false
  else
  k15 (W (x8 + 1)))))
  else
  j20 ())

def M_i_HistOk (x0 : Int × List (List UInt8)) : Option Bool :=
  (bindO (M_i_in x0.1 1 1000000000) fun (y6 : Bool) =>
  (bif (bif (!y6) then true else (decide (60 < (x0.2.length : Int)))) then
  some false
  else
  (joinO (fun (_ : Unit) =>
  some true) fun j20 =>
  (fixF (M_i_HistOk_L1 x0 j20) FUEL 0))))

theorem ok_i_HistOk (x0 : Int × List (List UInt8)) (a2 : Option Addr) (c3 : Nat) (l4 : Nat) (hl5 : x0.2.length = l4) (r : Bool) (h : M_i_HistOk x0 = some r) :
    FC Tryd.prog 34 [.agg #[.int .i64 x0.1, .slice a2 l4 c3]] [⟨.str, ⟨a2, l4, c3⟩, x0.2⟩] (fun _ : Unit => True) (fun _ => .bool r) (fun _ => []) :=
  by
    subst hl5
    refine FC.of (T := TTx) Tryd.call34 Tryd.func34 rfl rfl fun w0 => ?_
    unfold M_i_HistOk at h
    refine JS.rgB ttOk 2 [] [2] [(1, .bp 2 0)] (.new 2 28 [.int .i64 x0.1, .slice a2 x0.2.length c3] .nil) ⟨⟨rfl, trivial⟩, (Bs rfl rfl)⟩ rfl rfl (JS.seq (JS.seq (JS.region (JO.reg ttOk 2 [] [] [(6, .v (.int .i64 x0.1))] _ rfl ⟨⟨rfl, trivial⟩, rfl⟩ ?_))))
    obtain ⟨y6, hy7, h⟩ := bindO_some h
    refine JO.call rfl rfl rfl rfl (ok_i_in x0.1 1 1000000000 _ hy7) rfl [] rfl rfl fun _ _ => JO.reg ttOk 7 [] [] [(14, .v (.bool (bif (!y6) then true else (decide (60 < (x0.2.length : Int))))))] _ rfl ⟨⟨rfl, trivial⟩, rfl⟩ (JO.done rfl ?_)
    refine JS.cond rfl (fun ht30 => ?_) (fun ht30 => ?_)
    · have h := condT h ht30
      refine JS.rg0 ttOk 1 [(2, .v (.bool false))] ⟨⟨rfl, trivial⟩, rfl⟩ rfl rfl ?_
      cases h
      exact JS.ret ttOk () trivial rfl rfl [] rfl
    have h := condF h ht30
    refine JS.skip (JS.seq (JS.rg0 ttOk 4 [(16, .v (.slice a2 x0.2.length c3)), (17, .v (.int .i64 (x0.2.length : Int))), (18, .v (.int .i64 0))] ⟨(Es rfl), rfl⟩ rfl rfl ?_))
    obtain ⟨j20, hj29, h⟩ := joinO_some h
    refine JS.blockJ (ι := Unit) ⟨fun _ => j20 () = some r, fun _ => [], fun _ => .nil, fun _ => [], fun _ => [], fun _ => 0⟩ ?_ ?_
    · refine JS.loop (ι := Nat × Int) ⟨fun z => fixF (M_i_HistOk_L1 x0 j20) z.1 z.2 = some r, fun z => [(16, .v (.slice a2 x0.2.length c3)), (17, .v (.int .i64 (x0.2.length : Int))), (18, .v (.int .i64 z.2))], fun z => .nil, fun z => [⟨.str, ⟨a2, x0.2.length, c3⟩, x0.2⟩], fun z => [], fun z => z.1⟩ (FUEL, 0) h (Es rfl) trivial [0] rfl [] rfl ?_
      rintro ⟨n16, x8⟩ h
      obtain ⟨n16, rfl, h⟩ := fixF_some h
      rw [M_i_HistOk_L1] at h
      refine JS.rg0 ttOk 1 [(19, .v (.bool (decide (x8 < (x0.2.length : Int)))))] ⟨⟨rfl, trivial⟩, rfl⟩ rfl rfl (JS.seq ?_)
      refine JS.cond rfl (fun ht28 => ?_) (fun ht28 => ?_)
      · have h := condT h ht28
        refine JS.skip (JS.seq (JS.block (JS.seq (JS.region (JO.know 0 rfl fun hs26 => ?_)))))
        obtain ⟨g10, h⟩ := guardO_some h
        refine JO.reg ttOk 1 [] [] [(20, .ep ⟨a2, x0.2.length, c3⟩ (Int.toNat x8 * 1))] _ rfl ⟨hs26.ix g10, ⟨rfl, trivial⟩, rfl⟩ (JO.load ttOk rfl rfl rfl rfl rfl rfl rfl 0 rfl rfl (Int.toNat x8) 0 (at' x0.2 x8) ⟨at_some g10, rfl⟩ rfl rfl (JO.reg ttOk 1 [] [] [(4, .v (.string (bs (at' x0.2 x8))))] _ rfl ⟨⟨rfl, trivial⟩, rfl⟩ (JO.done rfl (JS.seq (JS.region (JO.reg ttOk 2 [] [] [(23, .v (.int .i64 ((at' x0.2 x8).length : Int)))] _ rfl ⟨⟨rfl, trivial⟩, rfl⟩ ?_))))))
        obtain ⟨y11, hy12, h⟩ := bindO_some h
        refine JO.call rfl rfl rfl rfl (ok_i_in ((at' x0.2 x8).length : Int) 1 1000 _ hy12) rfl [] rfl rfl fun _ _ => JO.reg ttOk 1 [] [] [(25, .v (.bool (!y11)))] _ rfl ⟨⟨rfl, trivial⟩, rfl⟩ (JO.done rfl ?_)
        refine JS.cond rfl (fun ht27 => ?_) (fun ht27 => ?_)
        · have h := condT h ht27
          refine JS.rg0 ttOk 1 [(2, .v (.bool false))] ⟨⟨rfl, trivial⟩, rfl⟩ rfl rfl ?_
          cases h
          exact JS.ret ttOk () trivial rfl rfl [] rfl
        have h := condF h ht27
        refine JS.skip (JS.endB (JS.re ttOk 2 [(W (x8 + 1))] [] [(18, .v (.int .i64 (W (x8 + 1))))] _ ⟨⟨trivial, rfl⟩, ⟨rfl, trivial⟩, rfl⟩ rfl rfl (JS.endL (n16, (W (x8 + 1))) h (Nat.lt_succ_self _) (Es rfl) trivial [0] rfl [] rfl)))
      have h := condF h ht28
      refine JS.exit rfl (JS.endJ () h trivial trivial [] rfl [] rfl)
    rintro _ h
    subst hj29
    refine JS.rg0 ttOk 1 [(2, .v (.bool true))] ⟨⟨rfl, trivial⟩, rfl⟩ rfl rfl ?_
    cases h
    exact JS.ret ttOk () trivial rfl rfl [] rfl

def M_i_copyHist (x0 : Int × List (List UInt8)) : Option (Int × List (List UInt8)) :=
  (guardO (([] : List (List UInt8)).length + x0.2.length ≤ 536870912) <|
  some (x0.1, (([] : List (List UInt8)) ++ x0.2)))

theorem ok_i_copyHist (x0 : Int × List (List UInt8)) (a2 : Option Addr) (c3 : Nat) (l4 : Nat) (hl5 : x0.2.length = l4) (r : Int × List (List UInt8)) (h : M_i_copyHist x0 = some r) :
    FC Tryd.prog 38 [.agg #[.int .i64 x0.1, .slice a2 l4 c3]] [⟨.str, ⟨a2, l4, c3⟩, x0.2⟩] (fun _ : Option Addr × Nat => True) (fun q => .agg #[.int .i64 r.1, .slice q.1 r.2.length q.2]) (fun q => [⟨.str, ⟨q.1, r.2.length, q.2⟩, r.2⟩]) :=
  by
    subst hl5
    refine FC.of (T := TTx) Tryd.call38 Tryd.func38 rfl rfl fun w0 => ?_
    unfold M_i_copyHist at h
    refine JS.rgB ttOk 2 [] [2, 3] [(1, .bp 2 0), (2, .bp 3 0)] (.new 2 28 [.int .i64 x0.1, .slice a2 x0.2.length c3] (.new 3 28 [.int .i64 0, .slice none 0 0] .nil)) ⟨(Es rfl), (Bs rfl rfl)⟩ rfl rfl (JS.seq ?_)
    obtain ⟨g6, h⟩ := guardO_some h
    refine JS.regionA rfl (.new 2 28 [.int .i64 x0.1, .slice a2 x0.2.length c3] .nil) [] [5, 6] ⟨rfl, rfl, rfl, rfl, trivial⟩ rfl (fun be9 => ?_)
    refine JA.reg ttOk panic_cx true 3 [0, 1, 2, 3] rfl (by kernel_rfl) [] [(4, .v (.int .i64 x0.1)), (6, .v (.slice a2 x0.2.length c3))] ⟨rfl, rfl, rfl, rfl, trivial⟩ [] rfl rfl (Es rfl) (JA.one 4 (by kernel_rfl) (JK.nilO .str Sl.nil rfl rfl (JK.appendR' ttOk rfl rfl rfl rfl ⟨rfl, rfl, rfl, rfl, trivial, rfl, rfl, rfl, rfl⟩ rfl rfl rfl [0] rfl 0 rfl g6 rfl fun a7 c8 => JA.next ⟨rfl, rfl, rfl, rfl, trivial⟩ [] rfl (JA.regL ttOk panic_cx 1 [5] rfl (by kernel_rfl) [] [(8, .v (.agg #[.int .i64 x0.1, .slice a7 (([] : List (List UInt8)) ++ x0.2).length c8]))] rfl ⟨rfl, trivial⟩ (JA.one 6 (by kernel_rfl) (JK.stBox ttOk rfl rfl rfl rfl rfl rfl rfl rfl (JA.nextL rfl (JA.done (by kernel_rfl) (JS.boxes (B' := (.new 3 28 [.int .i64 x0.1, .slice a7 (([] : List (List UInt8)) ++ x0.2).length c8] .nil)) (Bs rfl rfl) ?_)))))))))
    cases h
    exact JS.ret ttOk (a7, c8) trivial rfl rfl [0] rfl

def M_i_HistAdd (x0 : Int × List (List UInt8)) (x1 : List UInt8) : Option ((Int × List (List UInt8)) × Bool) :=
  (bindO (M_i_HistOk x0) fun (y7 : Bool) =>
  (bif (!y7) then
  some ((0, []), false)
  else
  (bindO (M_i_copyHist x0) fun (y9 : Int × List (List UInt8)) =>
  (guardO (y9.2.length + ([x1] : List (List UInt8)).length ≤ 536870912) <|
  (joinO (fun ((x21, x22) : Int × List (List UInt8)) =>
  (bindO (M_i_HistOk (x21, x22)) fun (y27 : Bool) =>
  (bif (!y27) then
  some ((0, []), false)
  else
  some ((x21, x22), true)))) fun j25 =>
  (bif (decide (60 < ((y9.2 ++ ([x1] : List (List UInt8))).length : Int))) then
  (guardO (0 ≤ (1 : Int) ∧ (1 : Int) ≤ ((y9.2 ++ ([x1] : List (List UInt8))).length : Int) ∧ ((y9.2 ++ ([x1] : List (List UInt8))).length : Int) ≤ ((y9.2 ++ ([x1] : List (List UInt8))).length : Int)) <|
  j25 ((W (y9.1 + 1)), (sub' (y9.2 ++ ([x1] : List (List UInt8))) 1 ((y9.2 ++ ([x1] : List (List UInt8))).length : Int))))
  else
  j25 (y9.1, (y9.2 ++ ([x1] : List (List UInt8))))))))))

theorem ok_i_HistAdd (x0 : Int × List (List UInt8)) (x1 : List UInt8) (a3 : Option Addr) (c4 : Nat) (l5 : Nat) (hl6 : x0.2.length = l5) (r : (Int × List (List UInt8)) × Bool) (h : M_i_HistAdd x0 x1 = some r) :
    FC Tryd.prog 17 [.agg #[.int .i64 x0.1, .slice a3 l5 c4], .string (bs x1)] [⟨.str, ⟨a3, l5, c4⟩, x0.2⟩] (fun _ : Option Addr × Nat => True) (fun q => .tuple #[.agg #[.int .i64 r.1.1, .slice q.1 r.1.2.length q.2], .bool r.2]) (fun q => [⟨.str, ⟨q.1, r.1.2.length, q.2⟩, r.1.2⟩]) :=
  by
    subst hl6
    refine FC.of (T := TTx) Tryd.call17 Tryd.func17 rfl rfl fun w0 => ?_
    unfold M_i_HistAdd at h
    refine JS.rgB ttOk 3 [] [2, 3] [(2, .bp 2 0), (4, .bp 3 0)] (.new 2 28 [.int .i64 x0.1, .slice a3 x0.2.length c4] (.new 3 28 [.int .i64 0, .slice none 0 0] .nil)) ⟨(Es rfl), (Bs rfl rfl)⟩ rfl rfl (JS.seq (JS.seq (JS.region (JO.reg ttOk 1 [] [] [(7, .v (.agg #[.int .i64 x0.1, .slice a3 x0.2.length c4]))] _ rfl ⟨⟨rfl, trivial⟩, rfl⟩ ?_))))
    obtain ⟨y7, hy8, h⟩ := bindO_some h
    refine JO.call rfl rfl rfl rfl (ok_i_HistOk x0 a3 c4 x0.2.length rfl _ hy8) rfl [0] rfl rfl fun _ _ => JO.reg ttOk 1 [] [] [(9, .v (.bool (!y7)))] _ rfl ⟨⟨rfl, trivial⟩, rfl⟩ (JO.done rfl ?_)
    refine JS.cond rfl (fun ht35 => ?_) (fun ht35 => ?_)
    · have h := condT h ht35
      refine JS.rgB ttOk 3 [] [] [(5, .v (.bool false))] (.new 3 28 [.int .i64 0, .slice none 0 0] .nil) ⟨⟨rfl, trivial⟩, (Bs rfl rfl)⟩ rfl rfl ?_
      cases h
      refine JS.nilO .str Sl.nil rfl rfl (JS.ret ttOk (none, 0) trivial rfl rfl [0] rfl)
    have h := condF h ht35
    refine JS.skip (JS.seq (JS.region (JO.reg ttOk 1 [] [] [(11, .v (.agg #[.int .i64 x0.1, .slice a3 x0.2.length c4]))] _ rfl ⟨⟨rfl, trivial⟩, rfl⟩ ?_)))
    obtain ⟨y9, hy10, h⟩ := bindO_some h
    refine JO.call rfl rfl rfl rfl (ok_i_copyHist x0 a3 c4 x0.2.length rfl _ hy10) rfl [0] rfl rfl ?_
    rintro ⟨a11, c12⟩ -
    refine JO.regB ttOk 2 [] [11] [(6, .bp 11 0)] (.new 3 28 [.int .i64 0, .slice none 0 0] (.new 11 28 [.int .i64 y9.1, .slice a11 y9.2.length c12] .nil)) rfl ⟨⟨rfl, trivial⟩, (Bs rfl rfl)⟩ (JO.done rfl (JS.seq (JS.region (JO.reg ttOk 3 [] [] [(14, .v (.slice a11 y9.2.length c12)), (15, .v (.string (bs x1)))] _ rfl ⟨(Es rfl), rfl⟩ ?_))))
    refine JO.ofK rfl (JK.buildSlice ttOk rfl rfl rfl rfl rfl rfl rfl rfl rfl rfl rfl [] rfl .str [x1] ⟨rfl, rfl⟩ rfl rfl fun a13 => JO.toK ?_)
    obtain ⟨g14, h⟩ := guardO_some h
    refine JO.appendR' ttOk rfl rfl rfl rfl ⟨rfl, rfl, rfl, rfl, trivial, rfl, rfl, rfl, rfl⟩ rfl rfl rfl [1] rfl 1 rfl g14 rfl fun a15 c16 => JO.regB ttOk 2 [] [] [] (.new 3 28 [.int .i64 0, .slice none 0 0] (.new 11 28 [.int .i64 y9.1, .slice a15 (y9.2 ++ ([x1] : List (List UInt8))).length c16] .nil)) rfl ⟨trivial, (Bs rfl rfl)⟩ (JO.done rfl ?_)
    obtain ⟨j25, hj34, h⟩ := joinO_some h
    refine JS.seqJ (ι := Int × List (List UInt8) × Option Addr × Nat) ⟨fun z => j25 (z.1, z.2.1) = some r, fun z => [(4, .bp 3 0), (6, .bp 11 0)], fun z => (.new 3 28 [.int .i64 0, .slice none 0 0] (.new 11 28 [.int .i64 z.1, .slice z.2.2.1 z.2.1.length z.2.2.2] .nil)), fun z => [], fun z => [⟨.str, ⟨z.2.2.1, z.2.1.length, z.2.2.2⟩, z.2.1⟩], fun z => 0⟩ ?_ ?_
    · refine JS.rg0 ttOk 4 [(22, .v (.bool (decide (60 < ((y9.2 ++ ([x1] : List (List UInt8))).length : Int)))))] ⟨⟨rfl, trivial⟩, rfl⟩ rfl rfl ?_
      refine JS.cond rfl (fun ht32 => ?_) (fun ht32 => ?_)
      · have h := condT h ht32
        refine JS.seq (JS.region (JO.reg ttOk 2 [] [] [(24, .v (.slice a15 (y9.2 ++ ([x1] : List (List UInt8))).length c16))] _ rfl ⟨⟨rfl, trivial⟩, rfl⟩ ?_))
        obtain ⟨g17, h⟩ := guardO_some h
        refine JO.sliceO' ttOk rfl rfl rfl rfl rfl rfl rfl rfl [0] rfl (1 : Int) ((y9.2 ++ ([x1] : List (List UInt8))).length : Int) rfl rfl g17 rfl fun a18 c19 => JO.regB ttOk 2 [] [] [] (.new 3 28 [.int .i64 0, .slice none 0 0] (.new 11 28 [.int .i64 y9.1, .slice a18 (sub' (y9.2 ++ ([x1] : List (List UInt8))) 1 ((y9.2 ++ ([x1] : List (List UInt8))).length : Int)).length c19] .nil)) rfl ⟨trivial, (Bs rfl rfl)⟩ (JO.done rfl (JS.reB ttOk 5 [(W (y9.1 + 1))] [] [] (.new 3 28 [.int .i64 0, .slice none 0 0] (.new 11 28 [.int .i64 (W (y9.1 + 1)), .slice a18 (sub' (y9.2 ++ ([x1] : List (List UInt8))) 1 ((y9.2 ++ ([x1] : List (List UInt8))).length : Int)).length c19] .nil)) ⟨⟨trivial, rfl⟩, trivial, (Bs rfl rfl)⟩ rfl rfl (JS.endJ ((W (y9.1 + 1)), (sub' (y9.2 ++ ([x1] : List (List UInt8))) 1 ((y9.2 ++ ([x1] : List (List UInt8))).length : Int)), a18, c19) h (Es rfl) (Bs rfl rfl) [] rfl [0] rfl)))
      have h := condF h ht32
      refine JS.skip (JS.endJ (y9.1, (y9.2 ++ ([x1] : List (List UInt8))), a15, c16) h (Es rfl) (Bs rfl rfl) [] rfl [0] rfl)
    rintro ⟨x21, x22, a23, c24⟩ h
    subst hj34
    refine JS.seq (JS.seq (JS.region (JO.reg ttOk 1 [] [] [(31, .v (.agg #[.int .i64 x21, .slice a23 x22.length c24]))] _ rfl ⟨⟨rfl, trivial⟩, rfl⟩ ?_)))
    obtain ⟨y27, hy28, h⟩ := bindO_some h
    refine JO.call rfl rfl rfl rfl (ok_i_HistOk (x21, x22) a23 c24 x22.length rfl _ hy28) rfl [0] rfl rfl fun _ _ => JO.reg ttOk 1 [] [] [(33, .v (.bool (!y27)))] _ rfl ⟨⟨rfl, trivial⟩, rfl⟩ (JO.done rfl ?_)
    refine JS.cond rfl (fun ht33 => ?_) (fun ht33 => ?_)
    · have h := condT h ht33
      refine JS.rgB ttOk 3 [] [] [(5, .v (.bool false))] (.new 3 28 [.int .i64 0, .slice none 0 0] .nil) ⟨⟨rfl, trivial⟩, (Bs rfl rfl)⟩ rfl rfl ?_
      cases h
      refine JS.nilO .str Sl.nil rfl rfl (JS.ret ttOk (none, 0) trivial rfl rfl [0] rfl)
    have h := condF h ht33
    refine JS.skip (JS.rgB ttOk 3 [] [] [(5, .v (.bool true))] (.new 3 28 [.int .i64 x21, .slice a23 x22.length c24] .nil) ⟨⟨rfl, trivial⟩, (Bs rfl rfl)⟩ rfl rfl ?_)
    cases h
    exact JS.ret ttOk (a23, c24) trivial rfl rfl [0] rfl

def M_i_HistLast (x0 : Int × List (List UInt8)) : Option Int :=
  (bindO (M_i_HistOk x0) fun (y6 : Bool) =>
  (bif (bif (!y6) then true else (decide ((x0.2.length : Int) = 0))) then
  some 0
  else
  some (W ((W (x0.1 + (x0.2.length : Int))) - 1))))

theorem ok_i_HistLast (x0 : Int × List (List UInt8)) (a2 : Option Addr) (c3 : Nat) (l4 : Nat) (hl5 : x0.2.length = l4) (r : Int) (h : M_i_HistLast x0 = some r) :
    FC Tryd.prog 15 [.agg #[.int .i64 x0.1, .slice a2 l4 c3]] [⟨.str, ⟨a2, l4, c3⟩, x0.2⟩] (fun _ : Unit => True) (fun _ => .int .i64 r) (fun _ => []) :=
  by
    subst hl5
    refine FC.of (T := TTx) Tryd.call15 Tryd.func15 rfl rfl fun w0 => ?_
    unfold M_i_HistLast at h
    refine JS.rgB ttOk 2 [] [2] [(1, .bp 2 0)] (.new 2 28 [.int .i64 x0.1, .slice a2 x0.2.length c3] .nil) ⟨⟨rfl, trivial⟩, (Bs rfl rfl)⟩ rfl rfl (JS.seq (JS.seq (JS.region (JO.reg ttOk 1 [] [] [(3, .v (.agg #[.int .i64 x0.1, .slice a2 x0.2.length c3]))] _ rfl ⟨⟨rfl, trivial⟩, rfl⟩ ?_))))
    obtain ⟨y6, hy7, h⟩ := bindO_some h
    refine JO.call rfl rfl rfl rfl (ok_i_HistOk x0 a2 c3 x0.2.length rfl _ hy7) rfl [0] rfl rfl fun _ _ => JO.reg ttOk 7 [] [] [(11, .v (.bool (bif (!y6) then true else (decide ((x0.2.length : Int) = 0)))))] _ rfl ⟨⟨rfl, trivial⟩, rfl⟩ (JO.done rfl ?_)
    refine JS.cond rfl (fun ht9 => ?_) (fun ht9 => ?_)
    · have h := condT h ht9
      refine JS.rg0 ttOk 1 [(2, .v (.int .i64 0))] ⟨⟨rfl, trivial⟩, rfl⟩ rfl rfl ?_
      cases h
      exact JS.ret ttOk () trivial rfl rfl [] rfl
    have h := condF h ht9
    refine JS.skip (JS.rg ttOk 8 [(W (x0.1 + (x0.2.length : Int))), (W ((W (x0.1 + (x0.2.length : Int))) - 1))] [] [(2, .v (.int .i64 (W ((W (x0.1 + (x0.2.length : Int))) - 1))))] _ ⟨⟨trivial, rfl⟩, ⟨trivial, rfl⟩, ⟨rfl, trivial⟩, rfl⟩ rfl rfl ?_)
    cases h
    exact JS.ret ttOk () trivial rfl rfl [] rfl

def M_i_HistGet (x0 : Int × List (List UInt8)) (x1 : Int) : Option (List UInt8 × Bool) :=
  (bindO (M_i_HistOk x0) fun (y7 : Bool) =>
  (callO ((!y7) = false) (M_i_in x1 x0.1 (W ((W (x0.1 + (x0.2.length : Int))) - 1))) false fun (y11 : Bool) =>
  (bif (bif (!y7) then true else (!y11)) then
  some ([], false)
  else
  (guardO (0 ≤ (W (x1 - x0.1)) ∧ (W (x1 - x0.1)) < (x0.2.length : Int)) <|
  some ((at' x0.2 (W (x1 - x0.1))), true)))))

theorem ok_i_HistGet (x0 : Int × List (List UInt8)) (x1 : Int) (a3 : Option Addr) (c4 : Nat) (l5 : Nat) (hl6 : x0.2.length = l5) (r : List UInt8 × Bool) (h : M_i_HistGet x0 x1 = some r) :
    FC Tryd.prog 14 [.agg #[.int .i64 x0.1, .slice a3 l5 c4], .int .i64 x1] [⟨.str, ⟨a3, l5, c4⟩, x0.2⟩] (fun _ : Unit => True) (fun _ => .tuple #[.string (bs r.1), .bool r.2]) (fun _ => []) :=
  by
    subst hl6
    refine FC.of (T := TTx) Tryd.call14 Tryd.func14 rfl rfl fun w0 => ?_
    unfold M_i_HistGet at h
    refine JS.rgB ttOk 3 [] [2] [(2, .bp 2 0)] (.new 2 28 [.int .i64 x0.1, .slice a3 x0.2.length c4] .nil) ⟨⟨rfl, trivial⟩, (Bs rfl rfl)⟩ rfl rfl (JS.seq (JS.seq (JS.region (JO.reg ttOk 1 [] [] [(6, .v (.agg #[.int .i64 x0.1, .slice a3 x0.2.length c4]))] _ rfl ⟨⟨rfl, trivial⟩, rfl⟩ ?_))))
    obtain ⟨y7, hy8, h⟩ := bindO_some h
    refine JO.call rfl rfl rfl rfl (ok_i_HistOk x0 a3 c4 x0.2.length rfl _ hy8) rfl [0] rfl rfl fun _ _ => JO.reg ttOk 12 [(W (x0.1 + (x0.2.length : Int))), (W ((W (x0.1 + (x0.2.length : Int))) - 1))] [] [(9, .v (.bool (!y7))), (10, .cd [(9, false)] (.v (.int .i64 x1))), (12, .cd [(9, false)] (.v (.int .i64 x0.1))), (19, .cd [(9, false)] (.v (.int .i64 (W ((W (x0.1 + (x0.2.length : Int))) - 1)))))] _ rfl ⟨(fun q17 => ⟨trivial, rfl⟩), (fun q18 => ⟨trivial, rfl⟩), (Es rfl), rfl⟩ ?_
    obtain ⟨y11, hy12, -, h⟩ := callO_some h
    refine JO.callg rfl rfl rfl rfl (fun q19 => ok_i_in x1 x0.1 (W ((W (x0.1 + (x0.2.length : Int))) - 1)) _ (hy12 q19)) rfl [] rfl rfl (JO.reg ttOk 2 [] [] [(22, .v (.bool (bif (!y7) then true else (!y11))))] _ rfl ⟨⟨rfl, trivial⟩, rfl⟩ (JO.done rfl ?_))
    refine JS.cond rfl (fun ht21 => ?_) (fun ht21 => ?_)
    · have h := condT h ht21
      refine JS.rg0 ttOk 2 [(4, .v (.string (bs []))), (5, .v (.bool false))] ⟨(Es rfl), rfl⟩ rfl rfl ?_
      cases h
      exact JS.ret ttOk () trivial rfl rfl [] rfl
    have h := condF h ht21
    refine JS.skip (JS.seq (JS.region (JO.know 0 rfl fun hs20 => ?_)))
    obtain ⟨g15, h⟩ := guardO_some h
    refine JO.reg ttOk 7 [(W (x1 - x0.1))] [] [(29, .ep ⟨a3, x0.2.length, c4⟩ (Int.toNat (W (x1 - x0.1)) * 1))] _ rfl ⟨⟨trivial, rfl⟩, hs20.ix g15, ⟨rfl, trivial⟩, rfl⟩ (JO.load ttOk rfl rfl rfl rfl rfl rfl rfl 0 rfl rfl (Int.toNat (W (x1 - x0.1))) 0 (at' x0.2 (W (x1 - x0.1))) ⟨at_some g15, rfl⟩ rfl rfl (JO.reg ttOk 2 [] [] [(4, .v (.string (bs (at' x0.2 (W (x1 - x0.1)))))), (5, .v (.bool true))] _ rfl ⟨(Es rfl), rfl⟩ (JO.done rfl ?_)))
    cases h
    exact JS.ret ttOk () trivial rfl rfl [] rfl

def M_unicode_utf8_RuneCountInString (x0 : List UInt8) : Option Int :=
  none

theorem ok_unicode_utf8_RuneCountInString (x0 : List UInt8) (r : Int) (h : M_unicode_utf8_RuneCountInString x0 = some r) :
    FC Tryd.prog 56 [.string (bs x0)] [] (fun _ : Unit => True) (fun _ => .int .i64 r) (fun _ => []) :=
  by
    refine FC.of (T := TTx) Tryd.call56 Tryd.func56 rfl rfl fun w0 => ?_
    unfold M_unicode_utf8_RuneCountInString at h
    refine JS.rg0 ttOk 1 [(2, .v (.int .i64 0))] ⟨⟨rfl, trivial⟩, rfl⟩ rfl rfl (JS.seq (JS.seq ?_))
    cases h

def M_unicode_utf8_decodeRuneInStringSlow (x0 : List UInt8) : Option (Int × Int) :=
  (bif (decide ((x0.length : Int) < 1)) then
  some (65533, 0)
  else
  (guardO (0 ≤ (0 : Int) ∧ 0 < (x0.length : Int)) <|
  none))

theorem ok_unicode_utf8_decodeRuneInStringSlow (x0 : List UInt8) (r : Int × Int) (h : M_unicode_utf8_decodeRuneInStringSlow x0 = some r) :
    FC Tryd.prog 60 [.string (bs x0)] [] (fun _ : Unit => True) (fun _ => .tuple #[.int .i32 r.1, .int .i64 r.2]) (fun _ => []) :=
  by
    refine FC.of (T := TTx) Tryd.call60 Tryd.func60 rfl rfl fun w0 => ?_
    unfold M_unicode_utf8_decodeRuneInStringSlow at h
    refine JS.rg0 ttOk 2 [] ⟨trivial, rfl⟩ rfl rfl (JS.rg0 ttOk 3 [(4, .v (.int .i64 (x0.length : Int)))] ⟨⟨rfl, trivial⟩, rfl⟩ rfl rfl (JS.seq (JS.rg0 ttOk 2 [(16, .v (.bool (decide ((x0.length : Int) < 1))))] ⟨⟨rfl, trivial⟩, rfl⟩ rfl rfl ?_)))
    refine JS.cond rfl (fun ht4 => ?_) (fun ht4 => ?_)
    · have h := condT h ht4
      refine JS.rg0 ttOk 2 [(2, .v (.int .i32 65533)), (3, .v (.int .i64 0))] ⟨(Es rfl), rfl⟩ rfl rfl ?_
      cases h
      exact JS.ret ttOk () trivial rfl rfl [] rfl
    have h := condF h ht4
    refine JS.skip (JS.seq (JS.region ?_))
    obtain ⟨g2, h⟩ := guardO_some h
    refine JO.reg ttOk 3 [] [] [(5, .v (.int .u8 ((at' x0 0).toNat : Int)))] _ rfl ⟨g2, ⟨rfl, trivial⟩, rfl⟩ (JO.done rfl (JS.seq ?_))
    cases h

def M_unicode_utf8_DecodeRuneInString (x0 : List UInt8) : Option (Int × Int) :=
  (guardO (((!(decide (x0 = []))) = true) → 0 ≤ (0 : Int) ∧ 0 < (x0.length : Int)) <|
  (bif (bif (!(decide (x0 = []))) then (decide (((at' x0 0).toNat : Int) < (128 : Int))) else false) then
  (guardO (0 ≤ (0 : Int) ∧ 0 < (x0.length : Int)) <|
  some ((IntKind.i32.wrap (((at' x0 0).toNat : Int))), 1))
  else
  (bindO (M_unicode_utf8_decodeRuneInStringSlow x0) fun (y5, y6) =>
  some (y5, y6))))

theorem ok_unicode_utf8_DecodeRuneInString (x0 : List UInt8) (r : Int × Int) (h : M_unicode_utf8_DecodeRuneInString x0 = some r) :
    FC Tryd.prog 45 [.string (bs x0)] [] (fun _ : Unit => True) (fun _ => .tuple #[.int .i32 r.1, .int .i64 r.2]) (fun _ => []) :=
  by
    refine FC.of (T := TTx) Tryd.call45 Tryd.func45 rfl rfl fun w0 => ?_
    unfold M_unicode_utf8_DecodeRuneInString at h
    refine JS.rg0 ttOk 2 [] ⟨trivial, rfl⟩ rfl rfl (JS.seq (JS.seq (JS.region ?_)))
    obtain ⟨g2, h⟩ := guardO_some h
    refine JO.reg ttOk 7 [] [] [(10, .v (.bool (bif (!(decide (x0 = []))) then (decide (((at' x0 0).toNat : Int) < (128 : Int))) else false)))] _ rfl ⟨(fun q9 => (g2 q9)), ⟨rfl, trivial⟩, rfl⟩ (JO.done rfl ?_)
    refine JS.cond rfl (fun ht10 => ?_) (fun ht10 => ?_)
    · have h := condT h ht10
      refine JS.seq (JS.region ?_)
      obtain ⟨g4, h⟩ := guardO_some h
      refine JO.reg ttOk 5 [(IntKind.i32.wrap (((at' x0 0).toNat : Int)))] [] [(2, .v (.int .i32 (IntKind.i32.wrap (((at' x0 0).toNat : Int))))), (3, .v (.int .i64 1))] _ rfl ⟨g4, ⟨trivial, rfl⟩, (Es rfl), rfl⟩ (JO.done rfl ?_)
      cases h
      exact JS.ret ttOk () trivial rfl rfl [] rfl
    have h := condF h ht10
    refine JS.region (JO.reg ttOk 1 [] [] [(15, .v (.string (bs x0)))] _ rfl ⟨⟨rfl, trivial⟩, rfl⟩ ?_)
    obtain ⟨⟨y5, y6⟩, hy7, h⟩ := bindO_some h
    refine JO.call rfl rfl rfl rfl (ok_unicode_utf8_decodeRuneInStringSlow x0 _ hy7) rfl [] rfl rfl fun _ _ => JO.reg ttOk 5 [] [] [(2, .v (.int .i32 y5)), (3, .v (.int .i64 y6))] _ rfl ⟨(Es rfl), rfl⟩ (JO.done rfl ?_)
    cases h
    exact JS.ret ttOk () trivial rfl rfl [] rfl

def M_strings_explode_L1 (x6 : Int) (j32 : (List UInt8 × List (List UInt8)) → Option (List (List UInt8))) (k24 : (List UInt8 × List (List UInt8) × Int) → Option (List (List UInt8))) : (List UInt8 × List (List UInt8) × Int) → Option (List (List UInt8)) := fun (x11, x12, x15) =>
  (bif (decide (x15 < (W (x6 - 1)))) then
  (bindO (M_unicode_utf8_DecodeRuneInString x11) fun (y16, y17) =>
  (guardO (0 ≤ (0 : Int) ∧ (0 : Int) ≤ y17 ∧ y17 ≤ (x11.length : Int)) <|
  (guardO (0 ≤ x15 ∧ x15 < (x12.length : Int)) <|
  (guardO (0 ≤ y17 ∧ y17 ≤ (x11.length : Int) ∧ (x11.length : Int) ≤ (x11.length : Int)) <|
  k24 ((sub' x11 y17 (x11.length : Int)), (List.set x12 (Int.toNat x15) (sub' x11 0 y17)), (W (x15 + 1)))))))
  else
  j32 (x11, x12))

def M_strings_explode (x0 : List UInt8) (x1 : Int) : Option (List (List UInt8)) :=
  (bindO (M_unicode_utf8_RuneCountInString x0) fun (y3 : Int) =>
  (joinO (fun (x6 : Int) =>
  (guardO (0 ≤ x6 ∧ x6 ≤ 536870912) <|
  (joinO (fun ((x28, x29) : List UInt8 × List (List UInt8)) =>
  (joinO (fun (x38 : List (List UInt8)) =>
  some x38) fun j41 =>
  (bif (decide (0 < x6)) then
  (guardO (0 ≤ (W (x6 - 1)) ∧ (W (x6 - 1)) < (x29.length : Int)) <|
  j41 (List.set x29 (Int.toNat (W (x6 - 1))) x28))
  else
  j41 x29))) fun j32 =>
  (fixF (M_strings_explode_L1 x6 j32) FUEL (x0, (List.replicate (Int.toNat x6) []), 0))))) fun j7 =>
  (bif (bif (decide (x1 < 0)) then true else (decide (y3 < x1))) then
  j7 y3
  else
  j7 x1)))

theorem ok_strings_explode (x0 : List UInt8) (x1 : Int) (r : List (List UInt8)) (h : M_strings_explode x0 x1 = some r) :
    FC Tryd.prog 54 [.string (bs x0), .int .i64 x1] [] (fun _ : Option Addr × Nat => True) (fun q => .slice q.1 r.length q.2) (fun q => [⟨.str, ⟨q.1, r.length, q.2⟩, r⟩]) :=
  by
    refine FC.of (T := TTx) Tryd.call54 Tryd.func54 rfl rfl fun w0 => ?_
    unfold M_strings_explode at h
    refine JS.rg0 ttOk 1 [] ⟨trivial, rfl⟩ rfl rfl (JS.seq (JS.region (JO.reg ttOk 1 [] [] [(10, .v (.string (bs x0)))] _ rfl ⟨⟨rfl, trivial⟩, rfl⟩ ?_)))
    obtain ⟨y3, hy4, h⟩ := bindO_some h
    refine JO.call rfl rfl rfl rfl (ok_unicode_utf8_RuneCountInString x0 _ hy4) rfl [] rfl rfl fun _ _ => JO.reg ttOk 1 [] [] [(5, .v (.int .i64 y3))] _ rfl ⟨⟨rfl, trivial⟩, rfl⟩ (JO.done rfl ?_)
    obtain ⟨j7, hj54, h⟩ := joinO_some h
    refine JS.seqJ (ι := Int) ⟨fun z => j7 z = some r, fun z => [(0, .v (.string (bs x0))), (1, .v (.int .i64 z))], fun z => .nil, fun z => [], fun z => [], fun z => 0⟩ ?_ ?_
    · refine JS.rg0 ttOk 7 [(18, .v (.bool (bif (decide (x1 < 0)) then true else (decide (y3 < x1)))))] ⟨⟨rfl, trivial⟩, rfl⟩ rfl rfl ?_
      refine JS.cond rfl (fun ht47 => ?_) (fun ht47 => ?_)
      · have h := condT h ht47
        refine JS.re0 ttOk 2 [(1, .v (.int .i64 y3))] ⟨⟨rfl, trivial⟩, rfl⟩ rfl rfl (JS.endJ y3 h (Es rfl) trivial [] rfl [] rfl)
      have h := condF h ht47
      refine JS.skip (JS.endJ x1 h (Es rfl) trivial [] rfl [] rfl)
    rintro x6 h
    subst hj54
    refine JS.seq (JS.region (JO.reg ttOk 1 [] [] [(20, .v (.int .i64 x6))] _ rfl ⟨⟨rfl, trivial⟩, rfl⟩ ?_))
    obtain ⟨g9, h⟩ := guardO_some h
    refine JO.makeSlice ttOk rfl rfl rfl rfl rfl rfl rfl rfl (Int.toNat x6) (Int.toNat_of_nonneg g9.1).symm (by omega) .str rfl rfl rfl rfl rfl fun a10 => JO.reg ttOk 1 [] [] [(6, .v (.slice a10 (Int.toNat x6) (Int.toNat x6)))] _ rfl ⟨⟨rfl, trivial⟩, rfl⟩ (JO.done rfl (JS.seq (JS.rg0 ttOk 1 [(7, .v (.int .i64 0))] ⟨⟨rfl, trivial⟩, rfl⟩ rfl rfl ?_)))
    obtain ⟨j32, hj53, h⟩ := joinO_some h
    refine JS.blockJ (ι := List UInt8 × List (List UInt8) × Option Addr × Nat) ⟨fun z => j32 (z.1, z.2.1) = some r, fun z => [(0, .v (.string (bs z.1))), (1, .v (.int .i64 x6)), (6, .v (.slice z.2.2.1 z.2.1.length z.2.2.2))], fun z => .nil, fun z => [], fun z => [⟨.str, ⟨z.2.2.1, z.2.1.length, z.2.2.2⟩, z.2.1⟩], fun z => 0⟩ ?_ ?_
    · refine JS.loop (ι := Nat × List UInt8 × List (List UInt8) × Int × Option Addr × Nat) ⟨fun z => fixF (M_strings_explode_L1 x6 j32) z.1 (z.2.1, z.2.2.1, z.2.2.2.1) = some r, fun z => [(0, .v (.string (bs z.2.1))), (1, .v (.int .i64 x6)), (6, .v (.slice z.2.2.2.2.1 z.2.2.1.length z.2.2.2.2.2)), (7, .v (.int .i64 z.2.2.2.1))], fun z => .nil, fun z => [], fun z => [⟨.str, ⟨z.2.2.2.2.1, z.2.2.1.length, z.2.2.2.2.2⟩, z.2.2.1⟩], fun z => z.1⟩ (FUEL, x0, (List.replicate (Int.toNat x6) []), 0, a10, (Int.toNat x6)) h ⟨rfl, rfl, (by simp only [List.length_set, List.length_replicate, pickO, getF]; rfl), rfl, trivial⟩ trivial [] rfl [0] (by simp only [List.length_set, List.length_replicate, pickO, getF]; rfl) ?_
      rintro ⟨n25, x11, x12, x15, a13, c14⟩ h
      obtain ⟨n25, rfl, h⟩ := fixF_some h
      rw [M_strings_explode_L1] at h
      refine JS.seq (JS.rg ttOk 4 [(W (x6 - 1))] [] [(25, .v (.bool (decide (x15 < (W (x6 - 1))))))] _ ⟨⟨trivial, rfl⟩, ⟨rfl, trivial⟩, rfl⟩ rfl rfl ?_)
      refine JS.cond rfl (fun ht49 => ?_) (fun ht49 => ?_)
      · have h := condT h ht49
        refine JS.skip (JS.seq (JS.block (JS.seq (JS.region (JO.reg ttOk 1 [] [] [(29, .v (.string (bs x11)))] _ rfl ⟨⟨rfl, trivial⟩, rfl⟩ ?_)))))
        obtain ⟨⟨y16, y17⟩, hy18, h⟩ := bindO_some h
        refine JO.call rfl rfl rfl rfl (ok_unicode_utf8_DecodeRuneInString x11 _ hy18) rfl [] rfl rfl fun _ _ => JO.reg ttOk 5 [] [] [(9, .v (.int .i64 y17))] _ rfl ⟨⟨rfl, trivial⟩, rfl⟩ (JO.done rfl (JS.seq (JS.region ?_)))
        obtain ⟨g19, h⟩ := guardO_some h
        refine JO.know 0 rfl fun hs48 => ?_
        obtain ⟨g21, h⟩ := guardO_some h
        refine JO.reg ttOk 6 [] [] [(37, .v (.string (bs (sub' x11 0 y17)))), (38, .ep ⟨a13, x12.length, c14⟩ (Int.toNat x15 * 1))] _ rfl ⟨g19, hs48.ix g21, (Es rfl), rfl⟩ (JO.storeE ttOk rfl rfl rfl rfl rfl rfl rfl rfl rfl [0] (fs := []) rfl (Int.toNat x15) 0 (at' x12 x15) (sub' x11 0 y17) ⟨at_some g21, rfl⟩ ⟨rfl, rfl, rfl⟩ (JO.done rfl (JS.region ?_)))
        obtain ⟨g22, h⟩ := guardO_some h
        refine JO.reg ttOk 4 [] [] [(0, .v (.string (bs (sub' x11 y17 (x11.length : Int)))))] _ rfl ⟨g22, ⟨rfl, trivial⟩, rfl⟩ (JO.done rfl (JS.endB (JS.re ttOk 3 [(W (x15 + 1))] [] [(7, .v (.int .i64 (W (x15 + 1))))] _ ⟨⟨trivial, rfl⟩, ⟨rfl, trivial⟩, rfl⟩ rfl rfl (JS.endL (n25, (sub' x11 y17 (x11.length : Int)), (List.set x12 (Int.toNat x15) (sub' x11 0 y17)), (W (x15 + 1)), a13, c14) h (Nat.lt_succ_self _) ⟨rfl, rfl, (by simp only [List.length_set, List.length_replicate, pickO, getF]; rfl), rfl, trivial⟩ trivial [] rfl [0] (by simp only [List.length_set, List.length_replicate, pickO, getF]; rfl)))))
      have h := condF h ht49
      refine JS.exit rfl (JS.endJ (x11, x12, a13, c14) h (Es rfl) trivial [] rfl [0] rfl)
    rintro ⟨x28, x29, a30, c31⟩ h
    subst hj53
    obtain ⟨j41, hj52, h⟩ := joinO_some h
    refine JS.seqJ (ι := List (List UInt8) × Option Addr × Nat) ⟨fun z => j41 z.1 = some r, fun z => [(6, .v (.slice z.2.1 z.1.length z.2.2))], fun z => .nil, fun z => [], fun z => [⟨.str, ⟨z.2.1, z.1.length, z.2.2⟩, z.1⟩], fun z => 0⟩ ?_ ?_
    · refine JS.rg0 ttOk 2 [(43, .v (.bool (decide (0 < x6))))] ⟨⟨rfl, trivial⟩, rfl⟩ rfl rfl ?_
      refine JS.cond rfl (fun ht51 => ?_) (fun ht51 => ?_)
      · have h := condT h ht51
        refine JS.region (JO.know 0 rfl fun hs50 => ?_)
        obtain ⟨g36, h⟩ := guardO_some h
        refine JO.reg ttOk 5 [(W (x6 - 1))] [] [(47, .v (.string (bs x28))), (48, .ep ⟨a30, x29.length, c31⟩ (Int.toNat (W (x6 - 1)) * 1))] _ rfl ⟨⟨trivial, rfl⟩, hs50.ix g36, (Es rfl), rfl⟩ (JO.storeE ttOk rfl rfl rfl rfl rfl rfl rfl rfl rfl [0] (fs := []) rfl (Int.toNat (W (x6 - 1))) 0 (at' x29 (W (x6 - 1))) x28 ⟨at_some g36, rfl⟩ ⟨rfl, rfl, rfl⟩ (JO.done rfl (JS.endJ ((List.set x29 (Int.toNat (W (x6 - 1))) x28), a30, c31) h ⟨(by simp only [List.length_set, List.length_replicate, pickO, getF]; rfl), trivial⟩ trivial [] rfl [0] (by simp only [List.length_set, List.length_replicate, pickO, getF]; rfl))))
      have h := condF h ht51
      refine JS.skip (JS.endJ (x29, a30, c31) h ⟨rfl, trivial⟩ trivial [] rfl [0] rfl)
    rintro ⟨x38, a39, c40⟩ h
    subst hj52
    refine JS.rg0 ttOk 2 [(4, .v (.slice a39 x38.length c40))] ⟨⟨rfl, trivial⟩, rfl⟩ rfl rfl ?_
    cases h
    exact JS.ret ttOk (a39, c40) trivial rfl rfl [0] rfl

def M_internal_bytealg_CountString (x0 : List UInt8) (x1 : UInt8) : Option Int := some (Lib.countByte x0 x1 : Int)

theorem ok_internal_bytealg_CountString (x0 : List UInt8) (x1 : UInt8) (r : Int) (h : M_internal_bytealg_CountString x0 x1 = some r) :
    FE Tryd.prog 57 [.string (bs x0), .int .u8 (x1.toNat : Int)] [] (.int .i64 r) := by
  cases h
  refine FE.outer Tryd.func57 (by kernel_rfl) (by kernel_rfl) (by kernel_rfl) (x := Extern.BytealgCount.count) (by kernel_rfl) fun w hw => ?_
  have := Lib.run_countString (P := Tryd.prog) (bs x0) (x1.toNat : Int) w
  rw [bs_data, u8_byte] at this
  exact this

def M_internal_bytealg_IndexString (gm0 : Int) (x0 : List UInt8) (x1 : List UInt8) : Option Int := guardO (2 ≤ x1.length ∧ (x1.length : Int) ≤ gm0 ∧ x0.length < 4294967281) <| some (Lib.index x0 x1)

theorem ok_internal_bytealg_IndexString (x0 : List UInt8) (x1 : List UInt8) (gm0 : Int) (r : Int) (h : M_internal_bytealg_IndexString gm0 x0 x1 = some r) :
    FE Tryd.prog 62 [.string (bs x0), .string (bs x1)] [⟨(.int .i64), ⟨(some ⟨0, 0, none⟩), 1, 1⟩, [gm0]⟩] (.int .i64 r) := by
  obtain ⟨⟨h1, h2, h3⟩, h⟩ := guardO_some h
  cases h
  refine FE.outer Tryd.func62 (by kernel_rfl) (by kernel_rfl) (by kernel_rfl) (x := Extern.BytealgIndex.index) (by kernel_rfl) fun w hw => ?_
  obtain ⟨L, hL⟩ := hw _ (List.mem_singleton.2 rfl)
  have := Lib.run_indexString (P := Tryd.prog) (bs x0) (bs x1) w 0 gm0 (by kernel_rfl) (fact_var hL) (by rw [bs_size]; exact h1) (by rw [bs_size]; exact h2) (by rw [bs_size]; exact h3)
  rw [bs_data, bs_data] at this
  exact this

def M_internal_bytealg_IndexByteString (x0 : List UInt8) (x1 : UInt8) : Option Int := some (Lib.indexByte x0 x1)

theorem ok_internal_bytealg_IndexByteString (x0 : List UInt8) (x1 : UInt8) (r : Int) (h : M_internal_bytealg_IndexByteString x0 x1 = some r) :
    FE Tryd.prog 61 [.string (bs x0), .int .u8 (x1.toNat : Int)] [] (.int .i64 r) := by
  cases h
  refine FE.outer Tryd.func61 (by kernel_rfl) (by kernel_rfl) (by kernel_rfl) (x := Extern.BytealgIndexByte.indexByte) (by kernel_rfl) fun w hw => ?_
  have := Lib.run_indexByteString (P := Tryd.prog) (bs x0) (x1.toNat : Int) w
  rw [bs_data, u8_byte] at this
  exact this

def M_internal_stringslite_IndexByte (x0 : List UInt8) (x1 : UInt8) : Option Int :=
  (bindO (M_internal_bytealg_IndexByteString x0 x1) fun (y3 : Int) =>
  some y3)

theorem ok_internal_stringslite_IndexByte (x0 : List UInt8) (x1 : UInt8) (r : Int) (h : M_internal_stringslite_IndexByte x0 x1 = some r) :
    FC Tryd.prog 53 [.string (bs x0), .int .u8 (x1.toNat : Int)] [] (fun _ : Unit => True) (fun _ => .int .i64 r) (fun _ => []) :=
  by
    refine FC.of (T := TTx) Tryd.call53 Tryd.func53 rfl rfl fun w0 => ?_
    unfold M_internal_stringslite_IndexByte at h
    refine JS.rg0 ttOk 1 [] ⟨trivial, rfl⟩ rfl rfl (JS.seq (JS.region (JO.reg ttOk 2 [] [] [(5, .v (.string (bs x0))), (6, .v (.int .u8 (x1.toNat : Int)))] _ rfl ⟨(Es rfl), rfl⟩ ?_)))
    obtain ⟨y3, hy4, h⟩ := bindO_some h
    refine JO.ext rfl rfl rfl rfl (ok_internal_bytealg_IndexByteString x0 x1 _ hy4) rfl [] rfl rfl (JO.reg ttOk 1 [] [] [(4, .v (.int .i64 y3))] _ rfl ⟨⟨rfl, trivial⟩, rfl⟩ (JO.done rfl ?_))
    cases h
    exact JS.ret ttOk () trivial rfl rfl [] rfl

def M_internal_bytealg_Cutover (x0 : Int) : Option Int :=
  some (W (Int.tdiv (W (x0 + 16)) 8))

theorem ok_internal_bytealg_Cutover (x0 : Int) (r : Int) (h : M_internal_bytealg_Cutover x0 = some r) :
    FC Tryd.prog 63 [.int .i64 x0] [] (fun _ : Unit => True) (fun _ => .int .i64 r) (fun _ => []) :=
  by
    refine FC.of (T := TTx) Tryd.call63 Tryd.func63 rfl rfl fun w0 => ?_
    unfold M_internal_bytealg_Cutover at h
    refine JS.rg0 ttOk 1 [] ⟨trivial, rfl⟩ rfl rfl (JS.seq (JS.region ?_))
    have g2 : (8 : Int) ≠ 0 := by decide
    refine JO.reg ttOk 4 [(W (x0 + 16)), (W (Int.tdiv (W (x0 + 16)) 8))] [] [(2, .v (.int .i64 (W (Int.tdiv (W (x0 + 16)) 8))))] _ rfl ⟨⟨trivial, rfl⟩, ⟨g2, rfl⟩, ⟨rfl, trivial⟩, rfl⟩ (JO.done rfl ?_)
    cases h
    exact JS.ret ttOk () trivial rfl rfl [] rfl

def M_internal_bytealg_hashStrstring_L1 (x0 : List UInt8) (j10 : Int → Option (Int × Int)) (k6 : (Int × Int) → Option (Int × Int)) : (Int × Int) → Option (Int × Int) := fun (x2, x3) =>
  (bif (decide (x3 < (x0.length : Int))) then
  (guardO (0 ≤ x3 ∧ x3 < (x0.length : Int)) <|
  k6 ((IntKind.u32.wrap ((IntKind.u32.wrap (x2 * 16777619)) + (IntKind.u32.wrap (((at' x0 x3).toNat : Int))))), (W (x3 + 1))))
  else
  j10 x2)

def M_internal_bytealg_hashStrstring_L2 (j28 : Int → Option (Int × Int)) (k22 : (Int × Int × Int) → Option (Int × Int)) : (Int × Int × Int) → Option (Int × Int) := fun (x12, x13, x14) =>
  (bif (decide (0 < x14)) then
  (joinO (fun (x16 : Int) =>
  k22 (x16, (IntKind.u32.wrap (x13 * x13)), (Int.fdiv x14 (2 ^ (min (Int.toNat 1) (IntKind.bits .i64)))))) fun j17 =>
  (bif (!(decide ((W (((BitVec.ofInt (IntKind.bits .i64) x14 &&& BitVec.ofInt (IntKind.bits .i64) 1).toNat : Int))) = 0))) then
  j17 (IntKind.u32.wrap (x12 * x13))
  else
  j17 x12))
  else
  j28 x12)

def M_internal_bytealg_hashStrstring (x0 : List UInt8) : Option (Int × Int) :=
  (joinO (fun (x9 : Int) =>
  (joinO (fun (x27 : Int) =>
  some (x9, x27)) fun j28 =>
  (fixF (M_internal_bytealg_hashStrstring_L2 j28) FUEL (1, 16777619, (x0.length : Int))))) fun j10 =>
  (fixF (M_internal_bytealg_hashStrstring_L1 x0 j10) FUEL (0, 0)))

theorem ok_internal_bytealg_hashStrstring (x0 : List UInt8) (r : Int × Int) (h : M_internal_bytealg_hashStrstring x0 = some r) :
    FC Tryd.prog 67 [.string (bs x0)] [] (fun _ : Unit => True) (fun _ => .tuple #[.int .u32 r.1, .int .u32 r.2]) (fun _ => []) :=
  by
    refine FC.of (T := TTx) Tryd.call67 Tryd.func67 rfl rfl fun w0 => ?_
    unfold M_internal_bytealg_hashStrstring at h
    refine JS.rg0 ttOk 2 [] ⟨trivial, rfl⟩ rfl rfl (JS.rg0 ttOk 1 [(4, .v (.int .u32 0))] ⟨⟨rfl, trivial⟩, rfl⟩ rfl rfl (JS.seq (JS.rg0 ttOk 1 [(5, .v (.int .i64 0))] ⟨⟨rfl, trivial⟩, rfl⟩ rfl rfl ?_)))
    obtain ⟨j10, hj39, h⟩ := joinO_some h
    refine JS.blockJ (ι := Int) ⟨fun z => j10 z = some r, fun z => [(0, .v (.string (bs x0))), (4, .v (.int .u32 z))], fun z => .nil, fun z => [], fun z => [], fun z => 0⟩ ?_ ?_
    · refine JS.loop (ι := Nat × Int × Int) ⟨fun z => fixF (M_internal_bytealg_hashStrstring_L1 x0 j10) z.1 (z.2.1, z.2.2) = some r, fun z => [(0, .v (.string (bs x0))), (4, .v (.int .u32 z.2.1)), (5, .v (.int .i64 z.2.2))], fun z => .nil, fun z => [], fun z => [], fun z => z.1⟩ (FUEL, 0, 0) h (Es rfl) trivial [] rfl [] rfl ?_
      rintro ⟨n7, x2, x3⟩ h
      obtain ⟨n7, rfl, h⟩ := fixF_some h
      rw [M_internal_bytealg_hashStrstring_L1] at h
      refine JS.seq (JS.rg0 ttOk 4 [(12, .v (.bool (decide (x3 < (x0.length : Int)))))] ⟨⟨rfl, trivial⟩, rfl⟩ rfl rfl ?_)
      refine JS.cond rfl (fun ht34 => ?_) (fun ht34 => ?_)
      · have h := condT h ht34
        refine JS.skip (JS.seq (JS.block (JS.region ?_)))
        obtain ⟨g4, h⟩ := guardO_some h
        refine JO.reg ttOk 8 [(IntKind.u32.wrap (x2 * 16777619)), (IntKind.u32.wrap (((at' x0 x3).toNat : Int))), (IntKind.u32.wrap ((IntKind.u32.wrap (x2 * 16777619)) + (IntKind.u32.wrap (((at' x0 x3).toNat : Int)))))] [] [(4, .v (.int .u32 (IntKind.u32.wrap ((IntKind.u32.wrap (x2 * 16777619)) + (IntKind.u32.wrap (((at' x0 x3).toNat : Int)))))))] _ rfl ⟨⟨trivial, rfl⟩, g4, ⟨trivial, rfl⟩, ⟨trivial, rfl⟩, ⟨rfl, trivial⟩, rfl⟩ (JO.done rfl (JS.endB (JS.re ttOk 3 [(W (x3 + 1))] [] [(5, .v (.int .i64 (W (x3 + 1))))] _ ⟨⟨trivial, rfl⟩, ⟨rfl, trivial⟩, rfl⟩ rfl rfl (JS.endL (n7, (IntKind.u32.wrap ((IntKind.u32.wrap (x2 * 16777619)) + (IntKind.u32.wrap (((at' x0 x3).toNat : Int))))), (W (x3 + 1))) h (Nat.lt_succ_self _) (Es rfl) trivial [] rfl [] rfl))))
      have h := condF h ht34
      refine JS.exit rfl (JS.endJ x2 h (Es rfl) trivial [] rfl [] rfl)
    rintro x9 h
    subst hj39
    refine JS.rg0 ttOk 2 [(6, .v (.int .u32 1)), (7, .v (.int .u32 16777619))] ⟨(Es rfl), rfl⟩ rfl rfl (JS.seq (JS.rg0 ttOk 3 [(8, .v (.int .i64 (x0.length : Int)))] ⟨⟨rfl, trivial⟩, rfl⟩ rfl rfl ?_))
    obtain ⟨j28, hj38, h⟩ := joinO_some h
    refine JS.blockJ (ι := Int) ⟨fun z => j28 z = some r, fun z => [(4, .v (.int .u32 x9)), (6, .v (.int .u32 z))], fun z => .nil, fun z => [], fun z => [], fun z => 0⟩ ?_ ?_
    · refine JS.loop (ι := Nat × Int × Int × Int) ⟨fun z => fixF (M_internal_bytealg_hashStrstring_L2 j28) z.1 (z.2.1, z.2.2.1, z.2.2.2) = some r, fun z => [(4, .v (.int .u32 x9)), (6, .v (.int .u32 z.2.1)), (7, .v (.int .u32 z.2.2.1)), (8, .v (.int .i64 z.2.2.2))], fun z => .nil, fun z => [], fun z => [], fun z => z.1⟩ (FUEL, 1, 16777619, (x0.length : Int)) h (Es rfl) trivial [] rfl [] rfl ?_
      rintro ⟨n23, x12, x13, x14⟩ h
      obtain ⟨n23, rfl, h⟩ := fixF_some h
      rw [M_internal_bytealg_hashStrstring_L2] at h
      refine JS.seq (JS.rg0 ttOk 2 [(25, .v (.bool (decide (0 < x14))))] ⟨⟨rfl, trivial⟩, rfl⟩ rfl rfl ?_)
      refine JS.cond rfl (fun ht37 => ?_) (fun ht37 => ?_)
      · have h := condT h ht37
        refine JS.skip (JS.seq (JS.block ?_))
        obtain ⟨j17, hj36, h⟩ := joinO_some h
        refine JS.seqJ (ι := Int) ⟨fun z => j17 z = some r, fun z => [(4, .v (.int .u32 x9)), (6, .v (.int .u32 z)), (7, .v (.int .u32 x13)), (8, .v (.int .i64 x14))], fun z => .nil, fun z => [], fun z => [], fun z => 0⟩ ?_ ?_
        · refine JS.rg ttOk 3 [(W (((BitVec.ofInt (IntKind.bits .i64) x14 &&& BitVec.ofInt (IntKind.bits .i64) 1).toNat : Int)))] [] [(30, .v (.bool (!(decide ((W (((BitVec.ofInt (IntKind.bits .i64) x14 &&& BitVec.ofInt (IntKind.bits .i64) 1).toNat : Int))) = 0)))))] _ ⟨⟨trivial, rfl⟩, ⟨rfl, trivial⟩, rfl⟩ rfl rfl ?_
          refine JS.cond rfl (fun ht35 => ?_) (fun ht35 => ?_)
          · have h := condT h ht35
            refine JS.re ttOk 4 [(IntKind.u32.wrap (x12 * x13))] [] [(6, .v (.int .u32 (IntKind.u32.wrap (x12 * x13))))] _ ⟨⟨trivial, rfl⟩, ⟨rfl, trivial⟩, rfl⟩ rfl rfl (JS.endJ (IntKind.u32.wrap (x12 * x13)) h (Es rfl) trivial [] rfl [] rfl)
          have h := condF h ht35
          refine JS.skip (JS.endJ x12 h (Es rfl) trivial [] rfl [] rfl)
        rintro x16 h
        subst hj36
        refine JS.re ttOk 4 [(IntKind.u32.wrap (x13 * x13))] [] [(7, .v (.int .u32 (IntKind.u32.wrap (x13 * x13))))] _ ⟨⟨trivial, rfl⟩, ⟨rfl, trivial⟩, rfl⟩ rfl rfl (JS.endB (JS.region ?_))
        have g19 : (0 : Int) ≤ 1 := by decide
        refine JO.reg ttOk 3 [] [] [(8, .v (.int .i64 (Int.fdiv x14 (2 ^ (min (Int.toNat 1) (IntKind.bits .i64))))))] _ rfl ⟨g19, ⟨rfl, trivial⟩, rfl⟩ (JO.done rfl (JS.endL (n23, x16, (IntKind.u32.wrap (x13 * x13)), (Int.fdiv x14 (2 ^ (min (Int.toNat 1) (IntKind.bits .i64))))) h (Nat.lt_succ_self _) (Es rfl) trivial [] rfl [] rfl))
      have h := condF h ht37
      refine JS.exit rfl (JS.endJ x12 h (Es rfl) trivial [] rfl [] rfl)
    rintro x27 h
    subst hj38
    refine JS.rg0 ttOk 4 [(2, .v (.int .u32 x9)), (3, .v (.int .u32 x27))] ⟨(Es rfl), rfl⟩ rfl rfl ?_
    cases h
    exact JS.ret ttOk () trivial rfl rfl [] rfl

def M_internal_bytealg_IndexRabinKarpstring_L1 (x0 : List UInt8) (x1 : List UInt8) (j14 : Int → Option Int) (k10 : (Int × Int) → Option Int) : (Int × Int) → Option Int := fun (x6, x7) =>
  (bif (decide (x7 < (x1.length : Int))) then
  (guardO (0 ≤ x7 ∧ x7 < (x0.length : Int)) <|
  k10 ((IntKind.u32.wrap ((IntKind.u32.wrap (x6 * 16777619)) + (IntKind.u32.wrap (((at' x0 x7).toNat : Int))))), (W (x7 + 1))))
  else
  j14 x6)

def M_internal_bytealg_IndexRabinKarpstring_L2 (x0 : List UInt8) (x1 : List UInt8) (y3 : Int) (y4 : Int) (j33 : Unit → Option Int) (k27 : (Int × Int) → Option Int) : (Int × Int) → Option Int := fun (x18, x19) =>
  (bif (decide (x19 < (x0.length : Int))) then
  (guardO (0 ≤ x19 ∧ x19 < (x0.length : Int)) <|
  (guardO (0 ≤ (W (x19 - (x1.length : Int))) ∧ (W (x19 - (x1.length : Int))) < (x0.length : Int)) <|
  (guardO (((decide ((IntKind.u32.wrap ((IntKind.u32.wrap ((IntKind.u32.wrap (x18 * 16777619)) + (IntKind.u32.wrap (((at' x0 x19).toNat : Int))))) - (IntKind.u32.wrap (y4 * (IntKind.u32.wrap (((at' x0 (W (x19 - (x1.length : Int)))).toNat : Int))))))) = y3)) = true) → 0 ≤ (W ((W (x19 + 1)) - (x1.length : Int))) ∧ (W ((W (x19 + 1)) - (x1.length : Int))) ≤ (W (x19 + 1)) ∧ (W (x19 + 1)) ≤ (x0.length : Int)) <|
  (bif (bif (decide ((IntKind.u32.wrap ((IntKind.u32.wrap ((IntKind.u32.wrap (x18 * 16777619)) + (IntKind.u32.wrap (((at' x0 x19).toNat : Int))))) - (IntKind.u32.wrap (y4 * (IntKind.u32.wrap (((at' x0 (W (x19 - (x1.length : Int)))).toNat : Int))))))) = y3)) then (decide ((sub' x0 (W ((W (x19 + 1)) - (x1.length : Int))) (W (x19 + 1))) = x1)) else false) then
  some (W ((W (x19 + 1)) - (x1.length : Int)))
  else
  k27 ((IntKind.u32.wrap ((IntKind.u32.wrap ((IntKind.u32.wrap (x18 * 16777619)) + (IntKind.u32.wrap (((at' x0 x19).toNat : Int))))) - (IntKind.u32.wrap (y4 * (IntKind.u32.wrap (((at' x0 (W (x19 - (x1.length : Int)))).toNat : Int))))))), (W (x19 + 1)))))))
  else
  j33 ())

def M_internal_bytealg_IndexRabinKarpstring (x0 : List UInt8) (x1 : List UInt8) : Option Int :=
  (bindO (M_internal_bytealg_hashStrstring x1) fun (y3, y4) =>
  (joinO (fun (x13 : Int) =>
  (guardO (((decide (x13 = y3)) = true) → 0 ≤ (0 : Int) ∧ (0 : Int) ≤ (x1.length : Int) ∧ (x1.length : Int) ≤ (x0.length : Int)) <|
  (bif (bif (decide (x13 = y3)) then (decide ((sub' x0 0 (x1.length : Int)) = x1)) else false) then
  some 0
  else
  (joinO (fun (_ : Unit) =>
  some (-1)) fun j33 =>
  (fixF (M_internal_bytealg_IndexRabinKarpstring_L2 x0 x1 y3 y4 j33) FUEL (x13, (x1.length : Int))))))) fun j14 =>
  (fixF (M_internal_bytealg_IndexRabinKarpstring_L1 x0 x1 j14) FUEL (0, 0))))

theorem ok_internal_bytealg_IndexRabinKarpstring (x0 : List UInt8) (x1 : List UInt8) (r : Int) (h : M_internal_bytealg_IndexRabinKarpstring x0 x1 = some r) :
    FC Tryd.prog 64 [.string (bs x0), .string (bs x1)] [] (fun _ : Unit => True) (fun _ => .int .i64 r) (fun _ => []) :=
  by
    refine FC.of (T := TTx) Tryd.call64 Tryd.func64 rfl rfl fun w0 => ?_
    unfold M_internal_bytealg_IndexRabinKarpstring at h
    refine JS.rg0 ttOk 1 [] ⟨trivial, rfl⟩ rfl rfl (JS.seq (JS.region (JO.reg ttOk 1 [] [] [(12, .v (.string (bs x1)))] _ rfl ⟨⟨rfl, trivial⟩, rfl⟩ ?_)))
    obtain ⟨⟨y3, y4⟩, hy5, h⟩ := bindO_some h
    refine JO.call rfl rfl rfl rfl (ok_internal_bytealg_hashStrstring x1 _ hy5) rfl [] rfl rfl fun _ _ => JO.reg ttOk 5 [] [] [(5, .v (.int .u32 y3)), (6, .v (.int .u32 y4))] _ rfl ⟨(Es rfl), rfl⟩ (JO.done rfl (JS.rg0 ttOk 3 [(7, .v (.int .i64 (x1.length : Int)))] ⟨⟨rfl, trivial⟩, rfl⟩ rfl rfl (JS.rg0 ttOk 1 [(8, .v (.int .u32 0))] ⟨⟨rfl, trivial⟩, rfl⟩ rfl rfl (JS.seq (JS.rg0 ttOk 1 [(9, .v (.int .i64 0))] ⟨⟨rfl, trivial⟩, rfl⟩ rfl rfl ?_)))))
    obtain ⟨j14, hj49, h⟩ := joinO_some h
    refine JS.blockJ (ι := Int) ⟨fun z => j14 z = some r, fun z => [(0, .v (.string (bs x0))), (1, .v (.string (bs x1))), (5, .v (.int .u32 y3)), (6, .v (.int .u32 y4)), (7, .v (.int .i64 (x1.length : Int))), (8, .v (.int .u32 z))], fun z => .nil, fun z => [], fun z => [], fun z => 0⟩ ?_ ?_
    · refine JS.loop (ι := Nat × Int × Int) ⟨fun z => fixF (M_internal_bytealg_IndexRabinKarpstring_L1 x0 x1 j14) z.1 (z.2.1, z.2.2) = some r, fun z => [(0, .v (.string (bs x0))), (1, .v (.string (bs x1))), (5, .v (.int .u32 y3)), (6, .v (.int .u32 y4)), (7, .v (.int .i64 (x1.length : Int))), (8, .v (.int .u32 z.2.1)), (9, .v (.int .i64 z.2.2))], fun z => .nil, fun z => [], fun z => [], fun z => z.1⟩ (FUEL, 0, 0) h (Es rfl) trivial [] rfl [] rfl ?_
      rintro ⟨n11, x6, x7⟩ h
      obtain ⟨n11, rfl, h⟩ := fixF_some h
      rw [M_internal_bytealg_IndexRabinKarpstring_L1] at h
      refine JS.seq (JS.rg0 ttOk 3 [(20, .v (.bool (decide (x7 < (x1.length : Int)))))] ⟨⟨rfl, trivial⟩, rfl⟩ rfl rfl ?_)
      refine JS.cond rfl (fun ht41 => ?_) (fun ht41 => ?_)
      · have h := condT h ht41
        refine JS.skip (JS.seq (JS.block (JS.region ?_)))
        obtain ⟨g8, h⟩ := guardO_some h
        refine JO.reg ttOk 8 [(IntKind.u32.wrap (x6 * 16777619)), (IntKind.u32.wrap (((at' x0 x7).toNat : Int))), (IntKind.u32.wrap ((IntKind.u32.wrap (x6 * 16777619)) + (IntKind.u32.wrap (((at' x0 x7).toNat : Int)))))] [] [(8, .v (.int .u32 (IntKind.u32.wrap ((IntKind.u32.wrap (x6 * 16777619)) + (IntKind.u32.wrap (((at' x0 x7).toNat : Int)))))))] _ rfl ⟨⟨trivial, rfl⟩, g8, ⟨trivial, rfl⟩, ⟨trivial, rfl⟩, ⟨rfl, trivial⟩, rfl⟩ (JO.done rfl (JS.endB (JS.re ttOk 3 [(W (x7 + 1))] [] [(9, .v (.int .i64 (W (x7 + 1))))] _ ⟨⟨trivial, rfl⟩, ⟨rfl, trivial⟩, rfl⟩ rfl rfl (JS.endL (n11, (IntKind.u32.wrap ((IntKind.u32.wrap (x6 * 16777619)) + (IntKind.u32.wrap (((at' x0 x7).toNat : Int))))), (W (x7 + 1))) h (Nat.lt_succ_self _) (Es rfl) trivial [] rfl [] rfl))))
      have h := condF h ht41
      refine JS.exit rfl (JS.endJ x6 h (Es rfl) trivial [] rfl [] rfl)
    rintro x13 h
    subst hj49
    refine JS.seq (JS.seq (JS.region ?_))
    obtain ⟨g16, h⟩ := guardO_some h
    refine JO.reg ttOk 10 [] [] [(39, .v (.bool (bif (decide (x13 = y3)) then (decide ((sub' x0 0 (x1.length : Int)) = x1)) else false)))] _ rfl ⟨(fun q42 => (g16 q42)), ⟨rfl, trivial⟩, rfl⟩ (JO.done rfl ?_)
    refine JS.cond rfl (fun ht48 => ?_) (fun ht48 => ?_)
    · have h := condT h ht48
      refine JS.rg0 ttOk 1 [(4, .v (.int .i64 0))] ⟨⟨rfl, trivial⟩, rfl⟩ rfl rfl ?_
      cases h
      exact JS.ret ttOk () trivial rfl rfl [] rfl
    have h := condF h ht48
    refine JS.skip (JS.seq (JS.rg0 ttOk 2 [(10, .v (.int .i64 (x1.length : Int)))] ⟨⟨rfl, trivial⟩, rfl⟩ rfl rfl ?_))
    obtain ⟨j33, hj47, h⟩ := joinO_some h
    refine JS.blockJ (ι := Unit) ⟨fun _ => j33 () = some r, fun _ => [], fun _ => .nil, fun _ => [], fun _ => [], fun _ => 0⟩ ?_ ?_
    · refine JS.loop (ι := Nat × Int × Int) ⟨fun z => fixF (M_internal_bytealg_IndexRabinKarpstring_L2 x0 x1 y3 y4 j33) z.1 (z.2.1, z.2.2) = some r, fun z => [(0, .v (.string (bs x0))), (1, .v (.string (bs x1))), (5, .v (.int .u32 y3)), (6, .v (.int .u32 y4)), (7, .v (.int .i64 (x1.length : Int))), (8, .v (.int .u32 z.2.1)), (10, .v (.int .i64 z.2.2))], fun z => .nil, fun z => [], fun z => [], fun z => z.1⟩ (FUEL, x13, (x1.length : Int)) h (Es rfl) trivial [] rfl [] rfl ?_
      rintro ⟨n28, x18, x19⟩ h
      obtain ⟨n28, rfl, h⟩ := fixF_some h
      rw [M_internal_bytealg_IndexRabinKarpstring_L2] at h
      refine JS.seq (JS.rg0 ttOk 4 [(44, .v (.bool (decide (x19 < (x0.length : Int)))))] ⟨⟨rfl, trivial⟩, rfl⟩ rfl rfl ?_)
      refine JS.cond rfl (fun ht46 => ?_) (fun ht46 => ?_)
      · have h := condT h ht46
        refine JS.skip (JS.block (JS.rg ttOk 3 [(IntKind.u32.wrap (x18 * 16777619))] [] [(8, .v (.int .u32 (IntKind.u32.wrap (x18 * 16777619))))] _ ⟨⟨trivial, rfl⟩, ⟨rfl, trivial⟩, rfl⟩ rfl rfl (JS.seq (JS.region ?_))))
        obtain ⟨g20, h⟩ := guardO_some h
        refine JO.reg ttOk 7 [(IntKind.u32.wrap (((at' x0 x19).toNat : Int))), (IntKind.u32.wrap ((IntKind.u32.wrap (x18 * 16777619)) + (IntKind.u32.wrap (((at' x0 x19).toNat : Int)))))] [] [(8, .v (.int .u32 (IntKind.u32.wrap ((IntKind.u32.wrap (x18 * 16777619)) + (IntKind.u32.wrap (((at' x0 x19).toNat : Int)))))))] _ rfl ⟨g20, ⟨trivial, rfl⟩, ⟨trivial, rfl⟩, ⟨rfl, trivial⟩, rfl⟩ (JO.done rfl (JS.seq (JS.region ?_)))
        obtain ⟨g21, h⟩ := guardO_some h
        refine JO.reg ttOk 11 [(W (x19 - (x1.length : Int))), (IntKind.u32.wrap (((at' x0 (W (x19 - (x1.length : Int)))).toNat : Int))), (IntKind.u32.wrap (y4 * (IntKind.u32.wrap (((at' x0 (W (x19 - (x1.length : Int)))).toNat : Int))))), (IntKind.u32.wrap ((IntKind.u32.wrap ((IntKind.u32.wrap (x18 * 16777619)) + (IntKind.u32.wrap (((at' x0 x19).toNat : Int))))) - (IntKind.u32.wrap (y4 * (IntKind.u32.wrap (((at' x0 (W (x19 - (x1.length : Int)))).toNat : Int)))))))] [] [(8, .v (.int .u32 (IntKind.u32.wrap ((IntKind.u32.wrap ((IntKind.u32.wrap (x18 * 16777619)) + (IntKind.u32.wrap (((at' x0 x19).toNat : Int))))) - (IntKind.u32.wrap (y4 * (IntKind.u32.wrap (((at' x0 (W (x19 - (x1.length : Int)))).toNat : Int)))))))))] _ rfl ⟨⟨trivial, rfl⟩, g21, ⟨trivial, rfl⟩, ⟨trivial, rfl⟩, ⟨trivial, rfl⟩, ⟨rfl, trivial⟩, rfl⟩ (JO.done rfl (JS.rg ttOk 3 [(W (x19 + 1))] [] [(10, .v (.int .i64 (W (x19 + 1))))] _ ⟨⟨trivial, rfl⟩, ⟨rfl, trivial⟩, rfl⟩ rfl rfl (JS.seq (JS.region ?_))))
        obtain ⟨g23, h⟩ := guardO_some h
        refine JO.reg ttOk 13 [(W ((W (x19 + 1)) - (x1.length : Int)))] [] [(77, .v (.bool (bif (decide ((IntKind.u32.wrap ((IntKind.u32.wrap ((IntKind.u32.wrap (x18 * 16777619)) + (IntKind.u32.wrap (((at' x0 x19).toNat : Int))))) - (IntKind.u32.wrap (y4 * (IntKind.u32.wrap (((at' x0 (W (x19 - (x1.length : Int)))).toNat : Int))))))) = y3)) then (decide ((sub' x0 (W ((W (x19 + 1)) - (x1.length : Int))) (W (x19 + 1))) = x1)) else false)))] _ rfl ⟨(fun q43 => ⟨trivial, rfl⟩), (fun q44 => (g23 q44)), ⟨rfl, trivial⟩, rfl⟩ (JO.done rfl ?_)
        refine JS.cond rfl (fun ht45 => ?_) (fun ht45 => ?_)
        · have h := condT h ht45
          refine JS.rg ttOk 4 [(W ((W (x19 + 1)) - (x1.length : Int)))] [] [(4, .v (.int .i64 (W ((W (x19 + 1)) - (x1.length : Int)))))] _ ⟨⟨trivial, rfl⟩, ⟨rfl, trivial⟩, rfl⟩ rfl rfl ?_
          cases h
          exact JS.ret ttOk () trivial rfl rfl [] rfl
        have h := condF h ht45
        refine JS.skip (JS.endB (JS.endL (n28, (IntKind.u32.wrap ((IntKind.u32.wrap ((IntKind.u32.wrap (x18 * 16777619)) + (IntKind.u32.wrap (((at' x0 x19).toNat : Int))))) - (IntKind.u32.wrap (y4 * (IntKind.u32.wrap (((at' x0 (W (x19 - (x1.length : Int)))).toNat : Int))))))), (W (x19 + 1))) h (Nat.lt_succ_self _) (Es rfl) trivial [] rfl [] rfl))
      have h := condF h ht46
      refine JS.exit rfl (JS.endJ () h trivial trivial [] rfl [] rfl)
    rintro _ h
    subst hj47
    refine JS.rg0 ttOk 1 [(4, .v (.int .i64 (-1)))] ⟨⟨rfl, trivial⟩, rfl⟩ rfl rfl ?_
    cases h
    exact JS.ret ttOk () trivial rfl rfl [] rfl

def M_internal_stringslite_Index_L1 (x0 : List UInt8) (x1 : List UInt8) (gm0 : Int) (j61 : Unit → Option Int) (k45 : (Int × Int) → Option Int) : (Int × Int) → Option Int := fun (x10, x11) =>
  (bif (decide (x10 < (W ((W ((x0.length : Int) - (x1.length : Int))) + 1)))) then
  (joinO (fun (x18 : Int) =>
  (guardO (0 ≤ (W (x18 + 1)) ∧ (W (x18 + 1)) < (x0.length : Int)) <|
  (guardO (((decide (((at' x0 (W (x18 + 1))).toNat : Int) = ((at' x1 1).toNat : Int))) = true) → 0 ≤ x18 ∧ x18 ≤ (W (x18 + (x1.length : Int))) ∧ (W (x18 + (x1.length : Int))) ≤ (x0.length : Int)) <|
  (bif (bif (decide (((at' x0 (W (x18 + 1))).toNat : Int) = ((at' x1 1).toNat : Int))) then (decide ((sub' x0 x18 (W (x18 + (x1.length : Int)))) = x1)) else false) then
  some x18
  else
  (callO ((decide ((x1.length : Int) ≤ gm0)) = true) (M_internal_bytealg_Cutover (W (x18 + 1))) (0 : Int) fun (y26 : Int) =>
  (bif (bif (decide ((x1.length : Int) ≤ gm0)) then (decide (y26 < (W (x11 + 1)))) else false) then
  (guardO (0 ≤ (W (x18 + 1)) ∧ (W (x18 + 1)) ≤ (x0.length : Int) ∧ (x0.length : Int) ≤ (x0.length : Int)) <|
  (bindO (M_internal_bytealg_IndexString gm0 (sub' x0 (W (x18 + 1)) (x0.length : Int)) x1) fun (y30 : Int) =>
  (bif (decide (0 ≤ y30)) then
  some (W (y30 + (W (x18 + 1))))
  else
  some (-1))))
  else
  (bif (bif (bif (decide (gm0 < (x1.length : Int))) then (decide ((W (4 + (Int.fdiv (W (x18 + 1)) (2 ^ (min (Int.toNat 4) (IntKind.bits .i64)))))) ≤ (W (x11 + 1)))) else false) then (decide ((W (x18 + 1)) < (W ((W ((x0.length : Int) - (x1.length : Int))) + 1)))) else false) then
  (guardO (0 ≤ (W (x18 + 1)) ∧ (W (x18 + 1)) ≤ (x0.length : Int) ∧ (x0.length : Int) ≤ (x0.length : Int)) <|
  (bindO (M_internal_bytealg_IndexRabinKarpstring (sub' x0 (W (x18 + 1)) (x0.length : Int)) x1) fun (y37 : Int) =>
  (bif (decide (y37 < 0)) then
  some (-1)
  else
  some (W ((W (x18 + 1)) + y37)))))
  else
  k45 ((W (x18 + 1)), (W (x11 + 1)))))))))) fun j19 =>
  (guardO (0 ≤ x10 ∧ x10 < (x0.length : Int)) <|
  (bif (!(decide (((at' x0 x10).toNat : Int) = ((at' x1 0).toNat : Int)))) then
  (guardO (0 ≤ (W (x10 + 1)) ∧ (W (x10 + 1)) ≤ (W ((W ((x0.length : Int) - (x1.length : Int))) + 1)) ∧ (W ((W ((x0.length : Int) - (x1.length : Int))) + 1)) ≤ (x0.length : Int)) <|
  (bindO (M_internal_stringslite_IndexByte (sub' x0 (W (x10 + 1)) (W ((W ((x0.length : Int) - (x1.length : Int))) + 1))) (at' x1 0)) fun (y14 : Int) =>
  (bif (decide (y14 < 0)) then
  some (-1)
  else
  j19 (W (x10 + (W (y14 + 1)))))))
  else
  j19 x10)))
  else
  j61 ())

def M_internal_stringslite_Index (gm0 : Int) (x0 : List UInt8) (x1 : List UInt8) : Option Int :=
  (bif (bif (decide ((x1.length : Int) = 0)) then true else (decide (x1 = x0))) then
  some 0
  else
  (bif (decide ((x1.length : Int) = 1)) then
  (guardO (0 ≤ (0 : Int) ∧ 0 < (x1.length : Int)) <|
  (bindO (M_internal_stringslite_IndexByte x0 (at' x1 0)) fun (y4 : Int) =>
  some y4))
  else
  (bif (decide ((x0.length : Int) ≤ (x1.length : Int))) then
  some (-1)
  else
  (bif (bif (decide ((x1.length : Int) ≤ gm0)) then (decide ((x0.length : Int) ≤ 64)) else false) then
  (bindO (M_internal_bytealg_IndexString gm0 x0 x1) fun (y6 : Int) =>
  some y6)
  else
  (guardO (0 ≤ (0 : Int) ∧ 0 < (x1.length : Int)) <|
  (guardO (0 ≤ (1 : Int) ∧ 1 < (x1.length : Int)) <|
  (joinO (fun (_ : Unit) =>
  some (-1)) fun j61 =>
  (fixF (M_internal_stringslite_Index_L1 x0 x1 gm0 j61) FUEL (0, 0)))))))))

theorem ok_internal_stringslite_Index (x0 : List UInt8) (x1 : List UInt8) (gm0 : Int) (r : Int) (h : M_internal_stringslite_Index gm0 x0 x1 = some r) :
    FC Tryd.prog 55 [.string (bs x0), .string (bs x1)] [⟨(.int .i64), ⟨(some ⟨0, 0, none⟩), 1, 1⟩, [gm0]⟩] (fun _ : Unit => True) (fun _ => .int .i64 r) (fun _ => []) :=
  by
    refine FC.of (T := TTx) Tryd.call55 Tryd.func55 rfl rfl fun w0 => ?_
    unfold M_internal_stringslite_Index at h
    refine JS.rg0 ttOk 1 [] ⟨trivial, rfl⟩ rfl rfl (JS.rg0 ttOk 3 [(5, .v (.int .i64 (x1.length : Int)))] ⟨⟨rfl, trivial⟩, rfl⟩ rfl rfl (JS.seq (JS.block (JS.rg0 ttOk 8 [(16, .v (.bool (bif (decide ((x1.length : Int) = 0)) then true else (decide (x1 = x0)))))] ⟨⟨rfl, trivial⟩, rfl⟩ rfl rfl ?_))))
    refine JS.cond rfl (fun ht99 => ?_) (fun ht99 => ?_)
    · have h := condT h ht99
      refine JS.rg0 ttOk 1 [(4, .v (.int .i64 0))] ⟨⟨rfl, trivial⟩, rfl⟩ rfl rfl ?_
      cases h
      exact JS.ret ttOk () trivial rfl rfl [] rfl
    have h := condF h ht99
    refine JS.rg0 ttOk 3 [(24, .v (.bool (decide ((x1.length : Int) = 1))))] ⟨⟨rfl, trivial⟩, rfl⟩ rfl rfl ?_
    refine JS.cond rfl (fun ht98 => ?_) (fun ht98 => ?_)
    · have h := condT h ht98
      refine JS.seq (JS.region ?_)
      obtain ⟨g3, h⟩ := guardO_some h
      refine JO.reg ttOk 3 [] [] [(27, .v (.string (bs x0))), (29, .v (.int .u8 ((at' x1 0).toNat : Int)))] _ rfl ⟨g3, (Es rfl), rfl⟩ ?_
      obtain ⟨y4, hy5, h⟩ := bindO_some h
      refine JO.call rfl rfl rfl rfl (ok_internal_stringslite_IndexByte x0 (at' x1 0) _ hy5) rfl [] rfl rfl fun _ _ => JO.reg ttOk 1 [] [] [(4, .v (.int .i64 y4))] _ rfl ⟨⟨rfl, trivial⟩, rfl⟩ (JO.done rfl ?_)
      cases h
      exact JS.ret ttOk () trivial rfl rfl [] rfl
    have h := condF h ht98
    refine JS.rg0 ttOk 5 [(31, .v (.bool (decide ((x0.length : Int) ≤ (x1.length : Int)))))] ⟨⟨rfl, trivial⟩, rfl⟩ rfl rfl ?_
    refine JS.cond rfl (fun ht97 => ?_) (fun ht97 => ?_)
    · have h := condT h ht97
      refine JS.rg0 ttOk 1 [(4, .v (.int .i64 (-1)))] ⟨⟨rfl, trivial⟩, rfl⟩ rfl rfl ?_
      cases h
      exact JS.ret ttOk () trivial rfl rfl [] rfl
    have h := condF h ht97
    refine JS.seq (JS.region (JO.reg ttOk 1 [] [] [(37, .v (.int .i64 (x1.length : Int)))] _ rfl ⟨⟨rfl, trivial⟩, rfl⟩ (JO.loadV ttOk rfl rfl rfl rfl rfl rfl 0 rfl rfl 0 0 gm0 ⟨rfl, rfl⟩ rfl rfl rfl (JO.reg ttOk 7 [] [] [(36, .v (.bool (bif (decide ((x1.length : Int) ≤ gm0)) then (decide ((x0.length : Int) ≤ 64)) else false)))] _ rfl ⟨⟨rfl, trivial⟩, rfl⟩ (JO.done rfl ?_)))))
    refine JS.cond rfl (fun ht96 => ?_) (fun ht96 => ?_)
    · have h := condT h ht96
      refine JS.seq (JS.region (JO.reg ttOk 2 [] [] [(45, .v (.string (bs x0))), (46, .v (.string (bs x1)))] _ rfl ⟨(Es rfl), rfl⟩ ?_))
      obtain ⟨y6, hy7, h⟩ := bindO_some h
      refine JO.ext rfl rfl rfl rfl (ok_internal_bytealg_IndexString x0 x1 gm0 _ hy7) rfl [0] rfl rfl (JO.reg ttOk 1 [] [] [(4, .v (.int .i64 y6))] _ rfl ⟨⟨rfl, trivial⟩, rfl⟩ (JO.done rfl ?_))
      cases h
      exact JS.ret ttOk () trivial rfl rfl [] rfl
    have h := condF h ht96
    refine JS.skip (JS.endB (JS.seq (JS.region ?_)))
    obtain ⟨g8, h⟩ := guardO_some h
    refine JO.reg ttOk 3 [] [] [(6, .v (.int .u8 ((at' x1 0).toNat : Int)))] _ rfl ⟨g8, ⟨rfl, trivial⟩, rfl⟩ (JO.done rfl (JS.seq (JS.region ?_)))
    obtain ⟨g9, h⟩ := guardO_some h
    refine JO.reg ttOk 3 [] [] [(7, .v (.int .u8 ((at' x1 1).toNat : Int)))] _ rfl ⟨g9, ⟨rfl, trivial⟩, rfl⟩ (JO.done rfl (JS.rg0 ttOk 1 [(8, .v (.int .i64 0))] ⟨⟨rfl, trivial⟩, rfl⟩ rfl rfl (JS.rg ttOk 6 [(W ((x0.length : Int) - (x1.length : Int))), (W ((W ((x0.length : Int) - (x1.length : Int))) + 1))] [] [(9, .v (.int .i64 (W ((W ((x0.length : Int) - (x1.length : Int))) + 1))))] _ ⟨⟨trivial, rfl⟩, ⟨trivial, rfl⟩, ⟨rfl, trivial⟩, rfl⟩ rfl rfl (JS.rg0 ttOk 1 [(10, .v (.int .i64 0))] ⟨⟨rfl, trivial⟩, rfl⟩ rfl rfl (JS.seq ?_)))))
    obtain ⟨j61, hj95, h⟩ := joinO_some h
    refine JS.blockJ (ι := Unit) ⟨fun _ => j61 () = some r, fun _ => [], fun _ => .nil, fun _ => [⟨(.int .i64), ⟨(some ⟨0, 0, none⟩), 1, 1⟩, [gm0]⟩], fun _ => [], fun _ => 0⟩ ?_ ?_
    · refine JS.loop (ι := Nat × Int × Int) ⟨fun z => fixF (M_internal_stringslite_Index_L1 x0 x1 gm0 j61) z.1 (z.2.1, z.2.2) = some r, fun z => [(0, .v (.string (bs x0))), (1, .v (.string (bs x1))), (5, .v (.int .i64 (x1.length : Int))), (6, .v (.int .u8 ((at' x1 0).toNat : Int))), (7, .v (.int .u8 ((at' x1 1).toNat : Int))), (8, .v (.int .i64 z.2.1)), (9, .v (.int .i64 (W ((W ((x0.length : Int) - (x1.length : Int))) + 1)))), (10, .v (.int .i64 z.2.2))], fun z => .nil, fun z => [⟨(.int .i64), ⟨(some ⟨0, 0, none⟩), 1, 1⟩, [gm0]⟩], fun z => [], fun z => z.1⟩ (FUEL, 0, 0) h (Es rfl) trivial [0] rfl [] rfl ?_
      rintro ⟨n46, x10, x11⟩ h
      obtain ⟨n46, rfl, h⟩ := fixF_some h
      rw [M_internal_stringslite_Index_L1] at h
      refine JS.seq (JS.rg0 ttOk 3 [(59, .v (.bool (decide (x10 < (W ((W ((x0.length : Int) - (x1.length : Int))) + 1))))))] ⟨⟨rfl, trivial⟩, rfl⟩ rfl rfl ?_)
      refine JS.cond rfl (fun ht94 => ?_) (fun ht94 => ?_)
      · have h := condT h ht94
        refine JS.skip (JS.block ?_)
        obtain ⟨j19, hj93, h⟩ := joinO_some h
        refine JS.seqJ (ι := Int) ⟨fun z => j19 z = some r, fun z => [(0, .v (.string (bs x0))), (1, .v (.string (bs x1))), (5, .v (.int .i64 (x1.length : Int))), (6, .v (.int .u8 ((at' x1 0).toNat : Int))), (7, .v (.int .u8 ((at' x1 1).toNat : Int))), (8, .v (.int .i64 z)), (9, .v (.int .i64 (W ((W ((x0.length : Int) - (x1.length : Int))) + 1)))), (10, .v (.int .i64 x11))], fun z => .nil, fun z => [⟨(.int .i64), ⟨(some ⟨0, 0, none⟩), 1, 1⟩, [gm0]⟩], fun z => [], fun z => 0⟩ ?_ ?_
        · refine JS.seq (JS.region ?_)
          obtain ⟨g12, h⟩ := guardO_some h
          refine JO.reg ttOk 5 [] [] [(64, .v (.bool (!(decide (((at' x0 x10).toNat : Int) = ((at' x1 0).toNat : Int))))))] _ rfl ⟨g12, ⟨rfl, trivial⟩, rfl⟩ (JO.done rfl ?_)
          refine JS.cond rfl (fun ht82 => ?_) (fun ht82 => ?_)
          · have h := condT h ht82
            refine JS.seq (JS.region ?_)
            obtain ⟨g13, h⟩ := guardO_some h
            refine JO.reg ttOk 6 [(W (x10 + 1))] [] [(69, .v (.string (bs (sub' x0 (W (x10 + 1)) (W ((W ((x0.length : Int) - (x1.length : Int))) + 1)))))), (70, .v (.int .u8 ((at' x1 0).toNat : Int)))] _ rfl ⟨⟨trivial, rfl⟩, g13, (Es rfl), rfl⟩ ?_
            obtain ⟨y14, hy15, h⟩ := bindO_some h
            refine JO.call rfl rfl rfl rfl (ok_internal_stringslite_IndexByte (sub' x0 (W (x10 + 1)) (W ((W ((x0.length : Int) - (x1.length : Int))) + 1))) (at' x1 0) _ hy15) rfl [] rfl rfl fun _ _ => JO.reg ttOk 1 [] [] [(11, .v (.int .i64 y14))] _ rfl ⟨⟨rfl, trivial⟩, rfl⟩ (JO.done rfl (JS.seq (JS.rg0 ttOk 2 [(73, .v (.bool (decide (y14 < 0))))] ⟨⟨rfl, trivial⟩, rfl⟩ rfl rfl ?_)))
            refine JS.cond rfl (fun ht81 => ?_) (fun ht81 => ?_)
            · have h := condT h ht81
              refine JS.rg0 ttOk 1 [(4, .v (.int .i64 (-1)))] ⟨⟨rfl, trivial⟩, rfl⟩ rfl rfl ?_
              cases h
              exact JS.ret ttOk () trivial rfl rfl [] rfl
            have h := condF h ht81
            refine JS.skip (JS.re ttOk 5 [(W (y14 + 1)), (W (x10 + (W (y14 + 1))))] [] [(8, .v (.int .i64 (W (x10 + (W (y14 + 1))))))] _ ⟨⟨trivial, rfl⟩, ⟨trivial, rfl⟩, ⟨rfl, trivial⟩, rfl⟩ rfl rfl (JS.endJ (W (x10 + (W (y14 + 1)))) h (Es rfl) trivial [0] rfl [] rfl))
          have h := condF h ht82
          refine JS.skip (JS.endJ x10 h (Es rfl) trivial [0] rfl [] rfl)
        rintro x18 h
        subst hj93
        refine JS.seq (JS.seq (JS.region ?_))
        obtain ⟨g22, h⟩ := guardO_some h
        obtain ⟨g24, h⟩ := guardO_some h
        refine JO.reg ttOk 16 [(W (x18 + 1)), (W (x18 + (x1.length : Int)))] [] [(93, .v (.bool (bif (decide (((at' x0 (W (x18 + 1))).toNat : Int) = ((at' x1 1).toNat : Int))) then (decide ((sub' x0 x18 (W (x18 + (x1.length : Int)))) = x1)) else false)))] _ rfl ⟨⟨trivial, rfl⟩, g22, (fun q83 => ⟨trivial, rfl⟩), (fun q84 => (g24 q84)), ⟨rfl, trivial⟩, rfl⟩ (JO.done rfl ?_)
        refine JS.cond rfl (fun ht92 => ?_) (fun ht92 => ?_)
        · have h := condT h ht92
          refine JS.rg0 ttOk 2 [(4, .v (.int .i64 x18))] ⟨⟨rfl, trivial⟩, rfl⟩ rfl rfl ?_
          cases h
          exact JS.ret ttOk () trivial rfl rfl [] rfl
        have h := condF h ht92
        refine JS.skip (JS.rg ttOk 3 [(W (x18 + 1))] [] [(8, .v (.int .i64 (W (x18 + 1))))] _ ⟨⟨trivial, rfl⟩, ⟨rfl, trivial⟩, rfl⟩ rfl rfl (JS.rg ttOk 3 [(W (x11 + 1))] [] [(10, .v (.int .i64 (W (x11 + 1))))] _ ⟨⟨trivial, rfl⟩, ⟨rfl, trivial⟩, rfl⟩ rfl rfl (JS.seq (JS.region (JO.reg ttOk 1 [] [] [(99, .v (.int .i64 (x1.length : Int)))] _ rfl ⟨⟨rfl, trivial⟩, rfl⟩ (JO.loadV ttOk rfl rfl rfl rfl rfl rfl 0 rfl rfl 0 0 gm0 ⟨rfl, rfl⟩ rfl rfl rfl (JO.reg ttOk 4 [] [] [(102, .v (.bool (decide ((x1.length : Int) ≤ gm0)))), (103, .cd [(102, true)] (.v (.int .i64 (W (x11 + 1))))), (104, .cd [(102, true)] (.v (.int .i64 (W (x18 + 1)))))] _ rfl ⟨(Es rfl), rfl⟩ ?_)))))))
        obtain ⟨y26, hy27, -, h⟩ := callO_some h
        refine JO.callg rfl rfl rfl rfl (fun q85 => ok_internal_bytealg_Cutover (W (x18 + 1)) _ (hy27 q85)) rfl [] rfl rfl (JO.reg ttOk 2 [] [] [(107, .v (.bool (bif (decide ((x1.length : Int) ≤ gm0)) then (decide (y26 < (W (x11 + 1)))) else false)))] _ rfl ⟨⟨rfl, trivial⟩, rfl⟩ (JO.done rfl ?_))
        refine JS.cond rfl (fun ht91 => ?_) (fun ht91 => ?_)
        · have h := condT h ht91
          refine JS.seq (JS.region ?_)
          obtain ⟨g29, h⟩ := guardO_some h
          refine JO.reg ttOk 4 [] [] [(110, .v (.string (bs (sub' x0 (W (x18 + 1)) (x0.length : Int))))), (111, .v (.string (bs x1)))] _ rfl ⟨g29, (Es rfl), rfl⟩ ?_
          obtain ⟨y30, hy31, h⟩ := bindO_some h
          refine JO.ext rfl rfl rfl rfl (ok_internal_bytealg_IndexString (sub' x0 (W (x18 + 1)) (x0.length : Int)) x1 gm0 _ hy31) rfl [0] rfl rfl (JO.reg ttOk 1 [] [] [(12, .v (.int .i64 y30))] _ rfl ⟨⟨rfl, trivial⟩, rfl⟩ (JO.done rfl (JS.seq (JS.rg0 ttOk 2 [(114, .v (.bool (decide (0 ≤ y30))))] ⟨⟨rfl, trivial⟩, rfl⟩ rfl rfl ?_))))
          refine JS.cond rfl (fun ht86 => ?_) (fun ht86 => ?_)
          · have h := condT h ht86
            refine JS.rg ttOk 4 [(W (y30 + (W (x18 + 1))))] [] [(4, .v (.int .i64 (W (y30 + (W (x18 + 1))))))] _ ⟨⟨trivial, rfl⟩, ⟨rfl, trivial⟩, rfl⟩ rfl rfl ?_
            cases h
            exact JS.ret ttOk () trivial rfl rfl [] rfl
          have h := condF h ht86
          refine JS.skip (JS.rg0 ttOk 1 [(4, .v (.int .i64 (-1)))] ⟨⟨rfl, trivial⟩, rfl⟩ rfl rfl ?_)
          cases h
          exact JS.ret ttOk () trivial rfl rfl [] rfl
        have h := condF h ht91
        refine JS.seq (JS.region (JO.reg ttOk 1 [] [] [(118, .v (.int .i64 (x1.length : Int)))] _ rfl ⟨⟨rfl, trivial⟩, rfl⟩ (JO.loadV ttOk rfl rfl rfl rfl rfl rfl 0 rfl rfl 0 0 gm0 ⟨rfl, rfl⟩ rfl rfl rfl ?_)))
        have g33 : (0 : Int) ≤ 4 := by decide
        refine JO.reg ttOk 13 [(W (4 + (Int.fdiv (W (x18 + 1)) (2 ^ (min (Int.toNat 4) (IntKind.bits .i64))))))] [] [(132, .v (.bool (bif (bif (decide (gm0 < (x1.length : Int))) then (decide ((W (4 + (Int.fdiv (W (x18 + 1)) (2 ^ (min (Int.toNat 4) (IntKind.bits .i64)))))) ≤ (W (x11 + 1)))) else false) then (decide ((W (x18 + 1)) < (W ((W ((x0.length : Int) - (x1.length : Int))) + 1)))) else false)))] _ rfl ⟨(fun q87 => g33), (fun q88 => ⟨trivial, rfl⟩), ⟨rfl, trivial⟩, rfl⟩ (JO.done rfl ?_)
        refine JS.cond rfl (fun ht90 => ?_) (fun ht90 => ?_)
        · have h := condT h ht90
          refine JS.seq (JS.region ?_)
          obtain ⟨g36, h⟩ := guardO_some h
          refine JO.reg ttOk 4 [] [] [(135, .v (.string (bs (sub' x0 (W (x18 + 1)) (x0.length : Int))))), (136, .v (.string (bs x1)))] _ rfl ⟨g36, (Es rfl), rfl⟩ ?_
          obtain ⟨y37, hy38, h⟩ := bindO_some h
          refine JO.call rfl rfl rfl rfl (ok_internal_bytealg_IndexRabinKarpstring (sub' x0 (W (x18 + 1)) (x0.length : Int)) x1 _ hy38) rfl [] rfl rfl fun _ _ => JO.reg ttOk 1 [] [] [(13, .v (.int .i64 y37))] _ rfl ⟨⟨rfl, trivial⟩, rfl⟩ (JO.done rfl (JS.seq (JS.rg0 ttOk 2 [(139, .v (.bool (decide (y37 < 0))))] ⟨⟨rfl, trivial⟩, rfl⟩ rfl rfl ?_)))
          refine JS.cond rfl (fun ht89 => ?_) (fun ht89 => ?_)
          · have h := condT h ht89
            refine JS.rg0 ttOk 1 [(4, .v (.int .i64 (-1)))] ⟨⟨rfl, trivial⟩, rfl⟩ rfl rfl ?_
            cases h
            exact JS.ret ttOk () trivial rfl rfl [] rfl
          have h := condF h ht89
          refine JS.skip (JS.rg ttOk 4 [(W ((W (x18 + 1)) + y37))] [] [(4, .v (.int .i64 (W ((W (x18 + 1)) + y37))))] _ ⟨⟨trivial, rfl⟩, ⟨rfl, trivial⟩, rfl⟩ rfl rfl ?_)
          cases h
          exact JS.ret ttOk () trivial rfl rfl [] rfl
        have h := condF h ht90
        refine JS.skip (JS.endB (JS.endL (n46, (W (x18 + 1)), (W (x11 + 1))) h (Nat.lt_succ_self _) (Es rfl) trivial [0] rfl [] rfl))
      have h := condF h ht94
      refine JS.exit rfl (JS.endJ () h trivial trivial [0] rfl [] rfl)
    rintro _ h
    subst hj95
    refine JS.rg0 ttOk 1 [(4, .v (.int .i64 (-1)))] ⟨⟨rfl, trivial⟩, rfl⟩ rfl rfl ?_
    cases h
    exact JS.ret ttOk () trivial rfl rfl [] rfl

def M_strings_IndexG (gm0 : Int) (x0 : List UInt8) (x1 : List UInt8) : Option Int :=
  (bindO (M_internal_stringslite_Index gm0 x0 x1) fun (y3 : Int) =>
  some y3)

theorem ok_strings_IndexG (x0 : List UInt8) (x1 : List UInt8) (gm0 : Int) (r : Int) (h : M_strings_IndexG gm0 x0 x1 = some r) :
    FC Tryd.prog 41 [.string (bs x0), .string (bs x1)] [⟨(.int .i64), ⟨(some ⟨0, 0, none⟩), 1, 1⟩, [gm0]⟩] (fun _ : Unit => True) (fun _ => .int .i64 r) (fun _ => []) :=
  by
    refine FC.of (T := TTx) Tryd.call41 Tryd.func41 rfl rfl fun w0 => ?_
    unfold M_strings_IndexG at h
    refine JS.rg0 ttOk 1 [] ⟨trivial, rfl⟩ rfl rfl (JS.seq (JS.region (JO.reg ttOk 2 [] [] [(5, .v (.string (bs x0))), (6, .v (.string (bs x1)))] _ rfl ⟨(Es rfl), rfl⟩ ?_)))
    obtain ⟨y3, hy4, h⟩ := bindO_some h
    refine JO.call rfl rfl rfl rfl (ok_internal_stringslite_Index x0 x1 gm0 _ hy4) rfl [0] rfl rfl fun _ _ => JO.reg ttOk 1 [] [] [(4, .v (.int .i64 y3))] _ rfl ⟨⟨rfl, trivial⟩, rfl⟩ (JO.done rfl ?_)
    cases h
    exact JS.ret ttOk () trivial rfl rfl [] rfl

theorem bindO_eq {α β : Type} {m : Option α} {k : α → Option β} {y : α} (h : m = some y) : bindO m k = k y := by rw [h]; rfl
theorem u32W (x : Int) : IntKind.u32.wrap x = x % 4294967296 := by
  simp [IntKind.wrap, IntKind.bits, IntKind.signed]
theorem atN (l : List UInt8) (k : Nat) (h : k < l.length) : at' l (k : Int) = l[k] := by
  simp [at', List.getD, List.getElem?_eq_getElem h]
theorem takeS (l : List UInt8) (k : Nat) (h : k < l.length) : l.take (k + 1) = l.take k ++ [at' l (k : Int)] := by
  rw [atN l k h, List.take_add_one, List.getElem?_eq_getElem h]; rfl
theorem Wn {x : Int} (h1 : -9000000000000000000 ≤ x) (h2 : x ≤ 9000000000000000000) : W x = x := W_eq (by omega) (by omega)

theorem hash_loop (x0 : List UInt8) (hl : x0.length < 4294967281) (j : Int → Option (Int × Int)) : ∀ (m k : Nat), k ≤ x0.length → x0.length - k < m →
    fixF (M_internal_bytealg_hashStrstring_L1 x0 j) m (Lib.RK.H (x0.take k) % 4294967296, (k : Int)) = j (Lib.RK.H x0 % 4294967296) := by
  intro m
  induction m with
  | zero => intro k _ h; omega
  | succ m ih =>
    intro k h1 hm
    simp only [fixF, M_internal_bytealg_hashStrstring_L1, guardO, Bool.cond_decide]
    by_cases hk : k < x0.length
    · rw [if_pos (by omega), if_pos (by omega), Wn (by omega) (by omega)]
      simp only [u32W]
      rw [Lib.RK.step_mod (at' x0 (k : Int)) rfl, ← Lib.RK.H_snoc, ← takeS x0 k hk]
      exact ih (k + 1) (by omega) (by omega)
    · rw [if_neg (by omega)]
      obtain rfl : k = x0.length := by omega
      rw [List.take_length]

theorem and1 (i : Nat) (h : i < 4294967296) : W (((BitVec.ofInt (IntKind.bits .i64) (i : Int) &&& BitVec.ofInt (IntKind.bits .i64) 1).toNat : Nat) : Int) = ((i % 2 : Nat) : Int) := by
  have e : (BitVec.ofInt (IntKind.bits .i64) (i : Int) &&& BitVec.ofInt (IntKind.bits .i64) 1).toNat = i % 2 := by
    rw [BitVec.toNat_and]
    have e1 : (BitVec.ofInt (IntKind.bits .i64) (i : Int)).toNat = i := by
      rw [BitVec.toNat_ofInt]
      simp only [IntKind.bits]
      omega
    have e2 : (BitVec.ofInt (IntKind.bits .i64) 1).toNat = 1 := by decide
    rw [e1, e2, Nat.and_one_is_mod]
  rw [e, Wn (by omega) (by omega)]

theorem pow_loop (n : Nat) (hn : n < 4294967281) (j : Int → Option (Int × Int)) : ∀ (m i : Nat) (pw sq : Int), i ≤ n → i < m → Lib.RK.PowInv n i pw sq → 0 ≤ pw → pw < 4294967296 →
    fixF (M_internal_bytealg_hashStrstring_L2 j) m (pw, sq, (i : Int)) = j (16777619 ^ n % 4294967296) := by
  intro m
  induction m with
  | zero => intro i _ _ _ h; omega
  | succ m ih =>
    intro i pw sq hi hm hp p0 p1
    simp only [fixF, M_internal_bytealg_hashStrstring_L2, joinO, Bool.cond_decide]
    by_cases hk : 0 < i
    · have ed : Int.fdiv (i : Int) (2 ^ (min (Int.toNat 1) (IntKind.bits .i64))) = ((i / 2 : Nat) : Int) := by
        rw [show (2 : Int) ^ (min (Int.toNat 1) (IntKind.bits .i64)) = 2 from by decide, Int.fdiv_eq_ediv_of_nonneg _ (by omega)]
        omega
      rw [if_pos (by omega), and1 i (by omega), ed]
      simp only [u32W]
      rcases Nat.mod_two_eq_zero_or_one i with h2 | h2
      · rw [h2, decide_eq_true (show ((0 : Nat) : Int) = 0 from rfl)]
        exact ih (i / 2) pw _ (by omega) (by omega) (Lib.RK.pow_even hp h2) p0 p1
      · rw [h2, decide_eq_false (show ¬ ((1 : Nat) : Int) = 0 by decide)]
        exact ih (i / 2) _ _ (by omega) (by omega) (Lib.RK.pow_odd hp h2) (Int.emod_nonneg _ (by decide)) (Int.emod_lt_of_pos _ (by decide))
    · rw [if_neg (by omega)]
      obtain rfl : i = 0 := by omega
      rw [Lib.RK.pow_end hp p0 p1]

theorem hashStr_eq (x0 : List UInt8) (hl : x0.length < 4294967281) : M_internal_bytealg_hashStrstring x0 = some (Lib.RK.H x0 % 4294967296, 16777619 ^ x0.length % 4294967296) := by
  unfold M_internal_bytealg_hashStrstring
  simp only [joinO]
  refine (hash_loop x0 hl _ FUEL 0 (by omega) (by have := fuel_eq; omega)).trans ?_
  exact pow_loop x0.length hl _ FUEL x0.length 1 16777619 (by omega) (by have := fuel_eq; omega) (Lib.RK.pow_start _) (by decide) (by decide)

theorem occ_sub (s sub : List UInt8) (i : Nat) (h : i + sub.length ≤ s.length) : Lib.occAt s sub i = decide (sub' s (i : Int) ((i : Int) + (sub.length : Int)) = sub) := by
  rw [Lib.RK.occAt_win s sub i h]
  have : sub' s (i : Int) ((i : Int) + (sub.length : Int)) = Lib.RK.win s i sub.length := by
    unfold sub' Lib.RK.win
    rw [show ((i : Int) + (sub.length : Int)).toNat - (i : Int).toNat = sub.length by omega, Int.toNat_natCast]
  rw [this]
  by_cases h : Lib.RK.win s i sub.length = sub <;> simp [h]

theorem rk_loop1 (x0 x1 : List UInt8) (hl : x0.length < 4294967281) (h2 : x1.length ≤ x0.length) (j : Int → Option Int) : ∀ (m k : Nat), k ≤ x1.length → x1.length - k < m →
    fixF (M_internal_bytealg_IndexRabinKarpstring_L1 x0 x1 j) m (Lib.RK.H (x0.take k) % 4294967296, (k : Int)) = j (Lib.RK.H (x0.take x1.length) % 4294967296) := by
  intro m
  induction m with
  | zero => intro k _ h; omega
  | succ m ih =>
    intro k h1 hm
    simp only [fixF, M_internal_bytealg_IndexRabinKarpstring_L1, guardO, Bool.cond_decide]
    by_cases hk : k < x1.length
    · rw [if_pos (by omega), if_pos (by omega), Wn (by omega) (by omega)]
      simp only [u32W]
      rw [Lib.RK.step_mod (at' x0 (k : Int)) rfl, ← Lib.RK.H_snoc, ← takeS x0 k (by omega)]
      exact ih (k + 1) (by omega) (by omega)
    · rw [if_neg (by omega)]
      obtain rfl : k = x1.length := by omega
      rfl

theorem rk_loop2 (x0 x1 : List UInt8) (hl : x0.length < 4294967281) (h1 : 1 ≤ x1.length) : ∀ (m q : Nat), q + x1.length ≤ x0.length → Lib.NoOcc x0 x1 (q + 1) → x0.length - q < m →
    fixF (M_internal_bytealg_IndexRabinKarpstring_L2 x0 x1 (Lib.RK.H x1 % 4294967296) (16777619 ^ x1.length % 4294967296) fun _ => some (-1)) m (Lib.RK.H (Lib.RK.win x0 q x1.length) % 4294967296, ((q + x1.length : Nat) : Int)) = some (Lib.index x0 x1) := by
  intro m
  induction m with
  | zero => intro q _ _ h; omega
  | succ m ih =>
    intro q hq hno hm
    simp only [fixF, M_internal_bytealg_IndexRabinKarpstring_L2, guardO, Bool.cond_decide]
    by_cases hk : q + x1.length < x0.length
    · rw [if_pos (by omega), if_pos (by omega), Wn (x := ((q + x1.length : Nat) : Int) - (x1.length : Int)) (by omega) (by omega), Wn (x := ((q + x1.length : Nat) : Int) + 1) (by omega) (by omega), Wn (by omega) (by omega)]
      rw [if_pos (by omega)]
      have ei : ((q + x1.length : Nat) : Int) - (x1.length : Int) = (q : Int) := by omega
      have ej : ((q + x1.length : Nat) : Int) + 1 - (x1.length : Int) = ((q + 1 : Nat) : Int) := by omega
      rw [ei, ej]
      simp only [u32W]
      obtain ⟨n, hn⟩ : ∃ n, x1.length = n + 1 := ⟨x1.length - 1, by omega⟩
      have hw := Lib.RK.win_cons x0 q n (by omega)
      have hs := Lib.RK.win_snoc x0 (q + 1) n (by omega)
      have hr := Lib.RK.roll_mod (h := Lib.RK.H (Lib.RK.win x0 q x1.length) % 4294967296) (pw := 16777619 ^ x1.length % 4294967296) (x0[q]'(by omega)) (x0[q + 1 + n]'(by omega)) (Lib.RK.win x0 (q + 1) n) (by rw [hn, hw]) (by rw [hn, Lib.RK.win_length _ _ _ (by omega)])
      rw [← hs, ← hn] at hr
      have ea : at' x0 ((q + x1.length : Nat) : Int) = x0[q + 1 + n]'(by omega) := by rw [atN x0 _ (by omega)]; congr 1; omega
      have eb : at' x0 (q : Int) = x0[q]'(by omega) := atN x0 _ (by omega)
      rw [ea, eb]
      have eh : ((Lib.RK.H (Lib.RK.win x0 q x1.length) % 4294967296 * 16777619 % 4294967296 + ((x0[q + 1 + n]'(by omega)).toNat : Int) % 4294967296) % 4294967296 - 16777619 ^ x1.length % 4294967296 * (((x0[q]'(by omega)).toNat : Int) % 4294967296) % 4294967296) % 4294967296 = Lib.RK.H (Lib.RK.win x0 (q + 1) x1.length) % 4294967296 := by
        rw [← hr]
        generalize 16777619 ^ x1.length % 4294967296 * (((x0[q]'(by omega)).toNat : Int) % 4294967296) = T
        generalize Lib.RK.H (Lib.RK.win x0 q x1.length) % 4294967296 = A
        omega
      rw [eh]
      have hocc := occ_sub x0 x1 (q + 1) (by omega)
      have ew : sub' x0 ((q + 1 : Nat) : Int) (((q + x1.length : Nat) : Int) + 1) = sub' x0 ((q + 1 : Nat) : Int) (((q + 1 : Nat) : Int) + (x1.length : Int)) := by congr 1; omega
      rw [ew]
      have hnext : Lib.occAt x0 x1 (q + 1) = false → fixF (M_internal_bytealg_IndexRabinKarpstring_L2 x0 x1 (Lib.RK.H x1 % 4294967296) (16777619 ^ x1.length % 4294967296) fun _ => some (-1)) m (Lib.RK.H (Lib.RK.win x0 (q + 1) x1.length) % 4294967296, ((q + x1.length : Nat) : Int) + 1) = some (Lib.index x0 x1) := by
        intro ho
        have := ih (q + 1) (by omega) (hno.succ ho) (by omega)
        rw [show ((q + x1.length : Nat) : Int) + 1 = ((q + 1 + x1.length : Nat) : Int) by omega]
        exact this
      rw [if_pos (fun _ => by omega)]
      by_cases hh : Lib.RK.H (Lib.RK.win x0 (q + 1) x1.length) % 4294967296 = Lib.RK.H x1 % 4294967296
      · rw [if_pos hh]
        by_cases hx : sub' x0 ((q + 1 : Nat) : Int) (((q + 1 : Nat) : Int) + (x1.length : Int)) = x1
        · rw [decide_eq_true hx, cond_true]
          rw [decide_eq_true hx] at hocc
          rw [Lib.index_hit hno (by omega) hocc]
        · rw [decide_eq_false hx, cond_false]
          rw [decide_eq_false hx] at hocc
          exact hnext hocc
      · rw [if_neg hh, cond_false]
        refine hnext ?_
        rw [Lib.RK.occAt_win x0 x1 (q + 1) (by omega)]
        exact beq_eq_false_iff_ne.2 (Lib.RK.hash_ne rfl rfl hh)
    · rw [if_neg (by omega)]
      rw [Lib.index_past (by intro h; rw [h] at h1; simp at h1) hno (by omega)]

theorem rk_eq (x0 x1 : List UInt8) (hl : x0.length < 4294967281) (h1 : 1 ≤ x1.length) (h2 : x1.length ≤ x0.length) : M_internal_bytealg_IndexRabinKarpstring x0 x1 = some (Lib.index x0 x1) := by
  unfold M_internal_bytealg_IndexRabinKarpstring
  rw [bindO_eq (hashStr_eq x1 (by omega))]
  simp only [joinO]
  refine (rk_loop1 x0 x1 hl h2 _ FUEL 0 (by omega) (by have := fuel_eq; omega)).trans ?_
  simp only [guardO]
  rw [if_pos (fun _ => by omega)]
  have hocc := occ_sub x0 x1 0 (by omega)
  have ew : sub' x0 0 (x1.length : Int) = sub' x0 ((0 : Nat) : Int) (((0 : Nat) : Int) + (x1.length : Int)) := by congr 1; omega
  rw [ew]
  have hnext : Lib.occAt x0 x1 0 = false → fixF (M_internal_bytealg_IndexRabinKarpstring_L2 x0 x1 (Lib.RK.H x1 % 4294967296) (16777619 ^ x1.length % 4294967296) fun _ => some (-1)) FUEL (Lib.RK.H (x0.take x1.length) % 4294967296, (x1.length : Int)) = some (Lib.index x0 x1) := by
    intro ho
    have := rk_loop2 x0 x1 hl h1 FUEL 0 (by omega) ((Lib.NoOcc.zero x0 x1).succ ho) (by have := fuel_eq; omega)
    rw [show ((0 + x1.length : Nat) : Int) = (x1.length : Int) by omega] at this
    exact this
  by_cases hh : Lib.RK.H (x0.take x1.length) % 4294967296 = Lib.RK.H x1 % 4294967296
  · rw [decide_eq_true hh, cond_true]
    by_cases hx : sub' x0 ((0 : Nat) : Int) (((0 : Nat) : Int) + (x1.length : Int)) = x1
    · rw [decide_eq_true hx, cond_true]
      rw [decide_eq_true hx] at hocc
      rw [Lib.index_hit (Lib.NoOcc.zero _ _) (by omega) hocc]
      rfl
    · rw [decide_eq_false hx, cond_false]
      rw [decide_eq_false hx] at hocc
      exact hnext hocc
  · rw [decide_eq_false hh, cond_false, cond_false]
    refine hnext ?_
    rw [Lib.RK.occAt_win x0 x1 0 (by omega)]
    exact beq_eq_false_iff_ne.2 (Lib.RK.hash_ne rfl rfl hh)

theorem index1 : ∀ (s : List UInt8) (c : UInt8), Lib.index s [c] = Lib.indexByte s c
  | [], c => by simp [Lib.index, Lib.indexByte]
  | b :: l, c => by
    rw [Lib.index, Lib.indexByte, index1 l c]
    by_cases h : b = c
    · subst h; simp [List.isPrefixOf]
    · have h1 : (b == c) = false := beq_eq_false_iff_ne.2 h
      have h2 : (c == b) = false := beq_eq_false_iff_ne.2 fun e => h e.symm
      simp [List.isPrefixOf, h1, h2]

theorem ixSubDrop (s : List UInt8) (i : Nat) (h : i ≤ s.length) : sub' s (i : Int) (s.length : Int) = s.drop i := by
  unfold sub'
  rw [List.take_of_length_le (by rw [List.length_drop]; omega), Int.toNat_natCast]

theorem ixByteEq (a b : UInt8) : ((a.toNat : Int) = (b.toNat : Int)) ↔ a = b := by
  constructor
  · intro h
    exact UInt8.toNat_inj.1 (by omega)
  · intro h; rw [h]

theorem index_loop (x0 x1 : List UInt8) (gm : Int) (hl : x0.length < 4294967281) (h2 : 2 ≤ x1.length) (hn : x1.length < x0.length) : ∀ (m i : Nat) (f : Int), i + x1.length ≤ x0.length + 1 → 0 ≤ f → f ≤ (i : Int) → Lib.NoOcc x0 x1 i → x0.length + 1 - i < m →
    fixF (M_internal_stringslite_Index_L1 x0 x1 gm fun _ => some (-1)) m ((i : Int), f) = some (Lib.index x0 x1) := by
  obtain ⟨c0, c1, tl, hx⟩ : ∃ c0 c1 tl, x1 = c0 :: c1 :: tl := by
    match x1, h2 with
    | a :: b :: t, _ => exact ⟨a, b, t, rfl⟩
  have e0 : at' x1 0 = c0 := by rw [hx]; rfl
  have e1 : at' x1 1 = c1 := by rw [hx]; rfl
  intro m
  induction m with
  | zero => intro i _ _ _ _ _ h; omega
  | succ m ih =>
    intro i f hi f0 f1 hno hm
    simp only [fixF, M_internal_stringslite_Index_L1, joinO, guardO]
    rw [Wn (x := (x0.length : Int) - (x1.length : Int)) (by omega) (by omega), Wn (x := (x0.length : Int) - (x1.length : Int) + 1) (by omega) (by omega), Wn (x := (i : Int) + 1) (by omega) (by omega), Wn (x := f + 1) (by omega) (by omega), e0, e1]
    have J : ∀ q : Nat, i ≤ q → q + x1.length ≤ x0.length → Lib.NoOcc x0 x1 q →
        (if 0 ≤ W ((q : Int) + 1) ∧ W ((q : Int) + 1) < (x0.length : Int) then
          if decide (((at' x0 (W ((q : Int) + 1))).toNat : Int) = (c1.toNat : Int)) = true → 0 ≤ (q : Int) ∧ (q : Int) ≤ W ((q : Int) + (x1.length : Int)) ∧ W ((q : Int) + (x1.length : Int)) ≤ (x0.length : Int) then
            bif bif decide (((at' x0 (W ((q : Int) + 1))).toNat : Int) = (c1.toNat : Int)) then decide (sub' x0 (q : Int) (W ((q : Int) + (x1.length : Int))) = x1) else false then some (q : Int)
            else
              callO (decide ((x1.length : Int) ≤ gm) = true) (M_internal_bytealg_Cutover (W ((q : Int) + 1))) (0 : Int) fun (y26 : Int) =>
                bif bif decide ((x1.length : Int) ≤ gm) then decide (y26 < f + 1) else false then
                  if 0 ≤ W ((q : Int) + 1) ∧ W ((q : Int) + 1) ≤ (x0.length : Int) ∧ (x0.length : Int) ≤ (x0.length : Int) then
                    bindO (M_internal_bytealg_IndexString gm (sub' x0 (W ((q : Int) + 1)) (x0.length : Int)) x1) fun (y30 : Int) =>
                      bif decide (0 ≤ y30) then some (W (y30 + W ((q : Int) + 1))) else some (-1)
                  else none
                else
                  bif bif bif decide (gm < (x1.length : Int)) then decide (W (4 + Int.fdiv (W ((q : Int) + 1)) (2 ^ (min (Int.toNat 4) (IntKind.bits .i64)))) ≤ f + 1) else false then decide (W ((q : Int) + 1) < (x0.length : Int) - (x1.length : Int) + 1) else false then
                    if 0 ≤ W ((q : Int) + 1) ∧ W ((q : Int) + 1) ≤ (x0.length : Int) ∧ (x0.length : Int) ≤ (x0.length : Int) then
                      bindO (M_internal_bytealg_IndexRabinKarpstring (sub' x0 (W ((q : Int) + 1)) (x0.length : Int)) x1) fun (y37 : Int) =>
                        bif decide (y37 < 0) then some (-1) else some (W (W ((q : Int) + 1) + y37))
                    else none
                  else fixF (M_internal_stringslite_Index_L1 x0 x1 gm fun _ => some (-1)) m (W ((q : Int) + 1), f + 1)
          else none
        else none) = some (Lib.index x0 x1) := by
      intro q hq1 hq2 hnq
      rw [Wn (x := (q : Int) + 1) (by omega) (by omega), Wn (x := (q : Int) + (x1.length : Int)) (by omega) (by omega), if_pos (by omega), if_pos (fun _ => by omega)]
      have hocc := occ_sub x0 x1 q hq2
      have ec : ((q : Int) + 1) = ((q + 1 : Nat) : Int) := by omega
      have next : Lib.occAt x0 x1 q = false →
          (callO (decide ((x1.length : Int) ≤ gm) = true) (M_internal_bytealg_Cutover ((q : Int) + 1)) (0 : Int) fun (y26 : Int) =>
                bif bif decide ((x1.length : Int) ≤ gm) then decide (y26 < f + 1) else false then
                  if 0 ≤ (q : Int) + 1 ∧ (q : Int) + 1 ≤ (x0.length : Int) ∧ (x0.length : Int) ≤ (x0.length : Int) then
                    bindO (M_internal_bytealg_IndexString gm (sub' x0 ((q : Int) + 1) (x0.length : Int)) x1) fun (y30 : Int) =>
                      bif decide (0 ≤ y30) then some (W (y30 + ((q : Int) + 1))) else some (-1)
                  else none
                else
                  bif bif bif decide (gm < (x1.length : Int)) then decide (W (4 + Int.fdiv ((q : Int) + 1) (2 ^ (min (Int.toNat 4) (IntKind.bits .i64)))) ≤ f + 1) else false then decide ((q : Int) + 1 < (x0.length : Int) - (x1.length : Int) + 1) else false then
                    if 0 ≤ (q : Int) + 1 ∧ (q : Int) + 1 ≤ (x0.length : Int) ∧ (x0.length : Int) ≤ (x0.length : Int) then
                      bindO (M_internal_bytealg_IndexRabinKarpstring (sub' x0 ((q : Int) + 1) (x0.length : Int)) x1) fun (y37 : Int) =>
                        bif decide (y37 < 0) then some (-1) else some (W ((q : Int) + 1 + y37))
                    else none
                  else fixF (M_internal_stringslite_Index_L1 x0 x1 gm fun _ => some (-1)) m ((q : Int) + 1, f + 1)) = some (Lib.index x0 x1) := by
        intro ho
        have hn1 := hnq.succ ho
        have hdr := Lib.index_drop hn1 (by omega)
        have hge := Lib.index_ge (x0.drop (q + 1)) x1
        have hroom := Lib.index_room (x0.drop (q + 1)) x1
        rw [List.length_drop] at hroom
        have hcont := ih (q + 1) (f + 1) (by omega) (by omega) (by omega) hn1 (by omega)
        have hs1 : sub' x0 ((q : Int) + 1) (x0.length : Int) = x0.drop (q + 1) := by rw [ec]; exact ixSubDrop x0 (q + 1) (by omega)
        have hfin : ∀ r : Int, r = Lib.index (x0.drop (q + 1)) x1 → (if 0 ≤ r then r + ((q : Int) + 1) else -1) = Lib.index x0 x1 := by
          intro r hr
          rw [hdr, ← hr]
          rw [← hr] at hge
          by_cases h : r = -1
          · subst h; rfl
          · rw [show (r == -1) = false from beq_eq_false_iff_ne.2 h, if_pos (by omega), ec]; rfl
        rw [← ec] at hcont
        rw [show M_internal_bytealg_Cutover ((q : Int) + 1) = some (W (Int.tdiv (W ((q : Int) + 1 + 16)) 8)) from rfl]
        rw [hs1]
        have key : ∀ y26 : Int, (bif bif decide ((x1.length : Int) ≤ gm) then decide (y26 < f + 1) else false then
                  if 0 ≤ (q : Int) + 1 ∧ (q : Int) + 1 ≤ (x0.length : Int) ∧ (x0.length : Int) ≤ (x0.length : Int) then
                    bindO (M_internal_bytealg_IndexString gm (x0.drop (q + 1)) x1) fun (y30 : Int) =>
                      bif decide (0 ≤ y30) then some (W (y30 + ((q : Int) + 1))) else some (-1)
                  else none
                else
                  bif bif bif decide (gm < (x1.length : Int)) then decide (W (4 + Int.fdiv ((q : Int) + 1) (2 ^ (min (Int.toNat 4) (IntKind.bits .i64)))) ≤ f + 1) else false then decide ((q : Int) + 1 < (x0.length : Int) - (x1.length : Int) + 1) else false then
                    if 0 ≤ (q : Int) + 1 ∧ (q : Int) + 1 ≤ (x0.length : Int) ∧ (x0.length : Int) ≤ (x0.length : Int) then
                      bindO (M_internal_bytealg_IndexRabinKarpstring (x0.drop (q + 1)) x1) fun (y37 : Int) =>
                        bif decide (y37 < 0) then some (-1) else some (W ((q : Int) + 1 + y37))
                    else none
                  else fixF (M_internal_stringslite_Index_L1 x0 x1 gm fun _ => some (-1)) m ((q : Int) + 1, f + 1)) = some (Lib.index x0 x1) := by
          intro y26
          have hp : 0 ≤ (q : Int) + 1 ∧ (q : Int) + 1 ≤ (x0.length : Int) ∧ (x0.length : Int) ≤ (x0.length : Int) := by omega
          cases hb : (bif decide ((x1.length : Int) ≤ gm) then decide (y26 < f + 1) else false) with
          | true =>
            have hgm : (x1.length : Int) ≤ gm := by
              by_cases h : (x1.length : Int) ≤ gm
              · exact h
              · rw [decide_eq_false h] at hb; cases hb
            rw [cond_true, if_pos hp]
            have hi : M_internal_bytealg_IndexString gm (x0.drop (q + 1)) x1 = some (Lib.index (x0.drop (q + 1)) x1) := by
              unfold M_internal_bytealg_IndexString guardO
              rw [if_pos ⟨h2, hgm, by rw [List.length_drop]; omega⟩]
            rw [bindO_eq hi]
            have := hfin _ rfl
            generalize Lib.index (x0.drop (q + 1)) x1 = r at *
            by_cases h : 0 ≤ r
            · rw [decide_eq_true h, cond_true, Wn (by omega) (by omega)]
              rw [if_pos h] at this
              rw [this]
            · rw [decide_eq_false h, cond_false]
              rw [if_neg h] at this
              rw [this]
          | false =>
            rw [cond_false]
            cases hb2 : (bif bif decide (gm < (x1.length : Int)) then decide (W (4 + Int.fdiv ((q : Int) + 1) (2 ^ (min (Int.toNat 4) (IntKind.bits .i64)))) ≤ f + 1) else false then decide ((q : Int) + 1 < (x0.length : Int) - (x1.length : Int) + 1) else false) with
            | true =>
              have ht : (q : Int) + 1 < (x0.length : Int) - (x1.length : Int) + 1 := by
                by_cases h : (q : Int) + 1 < (x0.length : Int) - (x1.length : Int) + 1
                · exact h
                · rw [decide_eq_false h] at hb2
                  revert hb2
                  cases (bif decide (gm < (x1.length : Int)) then decide (W (4 + Int.fdiv ((q : Int) + 1) (2 ^ (min (Int.toNat 4) (IntKind.bits .i64)))) ≤ f + 1) else false) <;> intro h' <;> cases h'
              rw [cond_true, if_pos hp, bindO_eq (rk_eq (x0.drop (q + 1)) x1 (by rw [List.length_drop]; omega) (by omega) (by rw [List.length_drop]; omega))]
              have := hfin _ rfl
              generalize Lib.index (x0.drop (q + 1)) x1 = r at *
              by_cases h : r < 0
              · rw [decide_eq_true h, cond_true]
                rw [if_neg (by omega)] at this
                rw [this]
              · rw [decide_eq_false h, cond_false, Wn (by omega) (by omega)]
                rw [if_pos (by omega)] at this
                rw [← this]
                congr 1; omega
            | false =>
              rw [cond_false]
              exact hcont
        unfold callO
        split
        · exact key _
        · exact key _
      by_cases h1 : ((at' x0 ((q : Int) + 1)).toNat : Int) = (c1.toNat : Int)
      · rw [decide_eq_true h1, cond_true]
        by_cases hs : sub' x0 (q : Int) ((q : Int) + (x1.length : Int)) = x1
        · rw [decide_eq_true hs, cond_true]
          rw [decide_eq_true hs] at hocc
          rw [Lib.index_hit hnq (by omega) hocc]
        · rw [decide_eq_false hs, cond_false]
          rw [decide_eq_false hs] at hocc
          exact next hocc
      · rw [decide_eq_false h1, cond_false, cond_false]
        refine next ?_
        cases ho : Lib.occAt x0 x1 q with
        | false => rfl
        | true =>
          have := Lib.occAt_second hx ho
          rw [ec, atN x0 (q + 1) (by omega)] at h1
          rw [List.getElem?_eq_getElem (by omega)] at this
          exact absurd ((ixByteEq _ _).2 (Option.some.inj this)) h1
    by_cases hk : (i : Int) < (x0.length : Int) - (x1.length : Int) + 1
    · rw [decide_eq_true hk, cond_true, if_pos (by omega)]
      have hat := atN x0 i (by omega)
      by_cases hc : ((at' x0 (i : Int)).toNat : Int) = (c0.toNat : Int)
      · rw [decide_eq_true hc, Bool.not_true, cond_false]
        have := J i (Nat.le_refl _) (by omega) hno
        rw [Wn (x := (i : Int) + 1) (by omega) (by omega)] at this
        exact this
      · rw [decide_eq_false hc, Bool.not_false, cond_true, if_pos (by omega)]
        have h0 : x0[i]? ≠ some c0 := by
          rw [List.getElem?_eq_getElem (by omega), ← hat]
          intro h
          exact hc ((ixByteEq _ _).2 (Option.some.inj h))
        have hib : M_internal_stringslite_IndexByte (sub' x0 ((i : Int) + 1) ((x0.length : Int) - (x1.length : Int) + 1)) c0 = some (Lib.indexByte ((x0.drop (i + 1)).take ((x0.length - x1.length + 1) - (i + 1))) c0) := by
          have : sub' x0 ((i : Int) + 1) ((x0.length : Int) - (x1.length : Int) + 1) = (x0.drop (i + 1)).take ((x0.length - x1.length + 1) - (i + 1)) := by
            unfold sub'
            congr 1
            omega
          rw [this]; rfl
        rw [bindO_eq hib]
        have hge := Lib.indexByte_ge ((x0.drop (i + 1)).take ((x0.length - x1.length + 1) - (i + 1))) c0
        generalize ho : Lib.indexByte ((x0.drop (i + 1)).take ((x0.length - x1.length + 1) - (i + 1))) c0 = o at hge
        by_cases hneg : o < 0
        · rw [decide_eq_true hneg, cond_true]
          rw [Lib.index_skip_none (t := x0.length - x1.length + 1) hx hno h0 (by omega) (by rw [ho]; omega)]
        · rw [decide_eq_false hneg, cond_false]
          obtain ⟨on, rfl⟩ : ∃ on : Nat, o = (on : Int) := ⟨o.toNat, by omega⟩
          obtain ⟨s1, s2, s3⟩ := Lib.noOcc_skip (t := x0.length - x1.length + 1) hx hno h0 ho
          have hw : W ((i : Int) + W ((on : Int) + 1)) = ((i + on + 1 : Nat) : Int) := by
            rw [Wn (x := (on : Int) + 1) (by omega) (by omega), Wn (by omega) (by omega)]; omega
          have := J (i + on + 1) (by omega) (by omega) s1
          rw [hw]
          exact this
    · rw [decide_eq_false hk, cond_false]
      rw [Lib.index_past (by rw [hx]; simp) hno (by omega)]

theorem index_eq (gm : Int) (x0 x1 : List UInt8) (hl : x0.length < 4294967281) : M_strings_IndexG gm x0 x1 = some (Lib.index x0 x1) := by
  have main : M_internal_stringslite_Index gm x0 x1 = some (Lib.index x0 x1) := by
    unfold M_internal_stringslite_Index
    by_cases h0 : (x1.length : Int) = 0
    · obtain rfl : x1 = [] := List.length_eq_zero_iff.1 (by omega)
      rw [Lib.index_empty]; rfl
    rw [decide_eq_false h0, cond_false]
    by_cases hx : x1 = x0
    · subst hx
      rw [Lib.index_self, decide_eq_true rfl]; rfl
    rw [decide_eq_false hx, cond_false]
    by_cases h1 : (x1.length : Int) = 1
    · rw [decide_eq_true h1, cond_true]
      obtain ⟨c, rfl⟩ : ∃ c, x1 = [c] := List.length_eq_one_iff.1 (by omega)
      simp only [guardO]
      rw [if_pos (by simp), index1]
      rfl
    rw [decide_eq_false h1, cond_false]
    by_cases h2 : (x0.length : Int) ≤ (x1.length : Int)
    · rw [decide_eq_true h2, cond_true, Lib.index_long (by omega) hx]
    rw [decide_eq_false h2, cond_false]
    simp only [guardO, joinO]
    rw [if_pos (by omega), if_pos (by omega)]
    have hlp := index_loop x0 x1 gm hl (by omega) (by omega) FUEL 0 0 (by omega) (by omega) (by omega) (Lib.NoOcc.zero _ _) (by have := fuel_eq; omega)
    cases hb : (bif decide ((x1.length : Int) ≤ gm) then decide ((x0.length : Int) ≤ 64) else false) with
    | false => rw [cond_false]; exact hlp
    | true =>
      have hgm : (x1.length : Int) ≤ gm := by
        by_cases h : (x1.length : Int) ≤ gm
        · exact h
        · rw [decide_eq_false h] at hb; cases hb
      rw [cond_true]
      have hi : M_internal_bytealg_IndexString gm x0 x1 = some (Lib.index x0 x1) := by
        unfold M_internal_bytealg_IndexString guardO
        rw [if_pos ⟨by omega, hgm, hl⟩]
      rw [bindO_eq hi]
  unfold M_strings_IndexG
  rw [bindO_eq main]

def M_strings_Index (x0 : List UInt8) (x1 : List UInt8) : Option Int := guardO (x0.length < 4294967281) <| some (Lib.index x0 x1)

theorem ok_strings_Index (x0 : List UInt8) (x1 : List UInt8) (gm0 : Int) (r : Int) (h : M_strings_Index x0 x1 = some r) :
    FC Tryd.prog 41 [.string (bs x0), .string (bs x1)] [⟨(.int .i64), ⟨(some ⟨0, 0, none⟩), 1, 1⟩, [gm0]⟩] (fun _ : Unit => True) (fun _ => .int .i64 r) (fun _ => []) := by
  obtain ⟨h1, h⟩ := guardO_some h
  cases h
  exact ok_strings_IndexG x0 x1 gm0 _ (index_eq gm0 x0 x1 h1)

def M_strings_Count (x0 : List UInt8) (x1 : List UInt8) : Option Int := match x1 with
  | [c] => some (Lib.countByte x0 c : Int)
  | _ => none

theorem ok_strings_Count (x0 : List UInt8) (x1 : List UInt8) (r : Int) (h : M_strings_Count x0 x1 = some r) : FV Tryd.prog 42 [.string (bs x0), .string (bs x1)] [] (.int .i64 r) := by
  match x1, h with
  | [c], h =>
    cases h
    refine FV.of_calls Tryd.call42 fun w => ?_
    exact Tryd.strings_Count_one (bs x0) c w
  | [], h => cases h
  | _ :: _ :: _, h => cases h

def M_strings_genSplit_L1 (x0 : List UInt8) (x1 : List UInt8) (x2 : Int) (x12 : Int) (j40 : (List UInt8 × List (List UInt8) × Int) → Option (List (List UInt8))) (k30 : (List UInt8 × List (List UInt8) × Int) → Option (List (List UInt8))) : (List UInt8 × List (List UInt8) × Int) → Option (List (List UInt8)) := fun (x17, x18, x21) =>
  (bif (decide (x21 < (W ((min x12 (W ((x0.length : Int) + 1))) - 1)))) then
  (bindO (M_strings_Index x17 x1) fun (y22 : Int) =>
  (bif (decide (y22 < 0)) then
  j40 (x17, x18, x21)
  else
  (guardO (0 ≤ (0 : Int) ∧ (0 : Int) ≤ (W (y22 + x2)) ∧ (W (y22 + x2)) ≤ (x17.length : Int)) <|
  (guardO (0 ≤ x21 ∧ x21 < (x18.length : Int)) <|
  (guardO (0 ≤ (W (y22 + (x1.length : Int))) ∧ (W (y22 + (x1.length : Int))) ≤ (x17.length : Int) ∧ (x17.length : Int) ≤ (x17.length : Int)) <|
  k30 ((sub' x17 (W (y22 + (x1.length : Int))) (x17.length : Int)), (List.set x18 (Int.toNat x21) (sub' x17 0 (W (y22 + x2)))), (W (x21 + 1))))))))
  else
  j40 (x17, x18, x21))

def M_strings_genSplit (x0 : List UInt8) (x1 : List UInt8) (x2 : Int) (x3 : Int) : Option (List (List UInt8)) :=
  (bif (decide (x3 = 0)) then
  some ([])
  else
  (bif (decide (x1 = [])) then
  (bindO (M_strings_explode x0 x3) fun (y5 : List (List UInt8)) =>
  some y5)
  else
  (joinO (fun (x12 : Int) =>
  (guardO (0 ≤ (min x12 (W ((x0.length : Int) + 1))) ∧ (min x12 (W ((x0.length : Int) + 1))) ≤ 536870912) <|
  (joinO (fun ((x35, x36, x39) : List UInt8 × List (List UInt8) × Int) =>
  (guardO (0 ≤ x39 ∧ x39 < (x36.length : Int)) <|
  (guardO (0 ≤ (0 : Int) ∧ (0 : Int) ≤ (W (x39 + 1)) ∧ (W (x39 + 1)) ≤ ((List.set x36 (Int.toNat x39) x35).length : Int)) <|
  some (sub' (List.set x36 (Int.toNat x39) x35) 0 (W (x39 + 1)))))) fun j40 =>
  (fixF (M_strings_genSplit_L1 x0 x1 x2 x12 j40) FUEL (x0, (List.replicate (Int.toNat (min x12 (W ((x0.length : Int) + 1)))) []), 0))))) fun j13 =>
  (bif (decide (x3 < 0)) then
  (bindO (M_strings_Count x0 x1) fun (y9 : Int) =>
  j13 (W (y9 + 1)))
  else
  j13 x3))))

theorem ok_strings_genSplit (x0 : List UInt8) (x1 : List UInt8) (x2 : Int) (x3 : Int) (gm0 : Int) (r : List (List UInt8)) (h : M_strings_genSplit x0 x1 x2 x3 = some r) :
    FC Tryd.prog 40 [.string (bs x0), .string (bs x1), .int .i64 x2, .int .i64 x3] [⟨(.int .i64), ⟨(some ⟨0, 0, none⟩), 1, 1⟩, [gm0]⟩] (fun _ : Option Addr × Nat => True) (fun q => .slice q.1 r.length q.2) (fun q => [⟨.str, ⟨q.1, r.length, q.2⟩, r⟩]) :=
  by
    refine FC.of (T := TTx) Tryd.call40 Tryd.func40 rfl rfl fun w0 => ?_
    unfold M_strings_genSplit at h
    refine JS.rg0 ttOk 1 [] ⟨trivial, rfl⟩ rfl rfl (JS.seq (JS.rg0 ttOk 2 [(13, .v (.bool (decide (x3 = 0))))] ⟨⟨rfl, trivial⟩, rfl⟩ rfl rfl ?_))
    refine JS.cond rfl (fun ht61 => ?_) (fun ht61 => ?_)
    · have h := condT h ht61
      refine JS.rg0 ttOk 1 [(8, .v (.slice none 0 0))] ⟨⟨rfl, trivial⟩, rfl⟩ rfl rfl ?_
      cases h
      refine JS.nilO .str Sl.nil rfl rfl (JS.ret ttOk (none, 0) trivial rfl rfl [0] rfl)
    have h := condF h ht61
    refine JS.skip (JS.seq (JS.rg0 ttOk 2 [(15, .v (.bool (decide (x1 = []))))] ⟨⟨rfl, trivial⟩, rfl⟩ rfl rfl ?_))
    refine JS.cond rfl (fun ht60 => ?_) (fun ht60 => ?_)
    · have h := condT h ht60
      refine JS.seq (JS.region (JO.reg ttOk 2 [] [] [(16, .v (.string (bs x0))), (17, .v (.int .i64 x3))] _ rfl ⟨(Es rfl), rfl⟩ ?_))
      obtain ⟨y5, hy6, h⟩ := bindO_some h
      refine JO.call rfl rfl rfl rfl (ok_strings_explode x0 x3 _ hy6) rfl [] rfl rfl ?_
      rintro ⟨a7, c8⟩ -
      refine JO.reg ttOk 1 [] [] [(8, .v (.slice a7 y5.length c8))] _ rfl ⟨⟨rfl, trivial⟩, rfl⟩ (JO.done rfl ?_)
      cases h
      exact JS.ret ttOk (a7, c8) trivial rfl rfl [0] rfl
    have h := condF h ht60
    refine JS.skip ?_
    obtain ⟨j13, hj59, h⟩ := joinO_some h
    refine JS.seqJ (ι := Int) ⟨fun z => j13 z = some r, fun z => [(0, .v (.string (bs x0))), (1, .v (.string (bs x1))), (2, .v (.int .i64 x2)), (3, .v (.int .i64 z))], fun z => .nil, fun z => [⟨(.int .i64), ⟨(some ⟨0, 0, none⟩), 1, 1⟩, [gm0]⟩], fun z => [], fun z => 0⟩ ?_ ?_
    · refine JS.rg0 ttOk 2 [(20, .v (.bool (decide (x3 < 0))))] ⟨⟨rfl, trivial⟩, rfl⟩ rfl rfl ?_
      refine JS.cond rfl (fun ht53 => ?_) (fun ht53 => ?_)
      · have h := condT h ht53
        refine JS.region (JO.reg ttOk 2 [] [] [(21, .v (.string (bs x0))), (22, .v (.string (bs x1)))] _ rfl ⟨(Es rfl), rfl⟩ ?_)
        obtain ⟨y9, hy10, h⟩ := bindO_some h
        refine JO.call rfl rfl rfl rfl (ok_strings_Count x0 x1 _ hy10) rfl [] rfl rfl fun _ _ => JO.reg ttOk 2 [(W (y9 + 1))] [] [(3, .v (.int .i64 (W (y9 + 1))))] _ rfl ⟨⟨trivial, rfl⟩, ⟨rfl, trivial⟩, rfl⟩ (JO.done rfl (JS.endJ (W (y9 + 1)) h (Es rfl) trivial [0] rfl [] rfl))
      have h := condF h ht53
      refine JS.skip (JS.endJ x3 h (Es rfl) trivial [0] rfl [] rfl)
    rintro x12 h
    subst hj59
    refine JS.rg ttOk 6 [(W ((x0.length : Int) + 1))] [] [(3, .v (.int .i64 (min x12 (W ((x0.length : Int) + 1)))))] _ ⟨⟨trivial, rfl⟩, ⟨rfl, trivial⟩, rfl⟩ rfl rfl (JS.seq (JS.region (JO.reg ttOk 1 [] [] [(30, .v (.int .i64 (min x12 (W ((x0.length : Int) + 1)))))] _ rfl ⟨⟨rfl, trivial⟩, rfl⟩ ?_)))
    obtain ⟨g15, h⟩ := guardO_some h
    refine JO.makeSlice ttOk rfl rfl rfl rfl rfl rfl rfl rfl (Int.toNat (min x12 (W ((x0.length : Int) + 1)))) (Int.toNat_of_nonneg g15.1).symm (by omega) .str rfl rfl rfl rfl rfl fun a16 => JO.reg ttOk 1 [] [] [(9, .v (.slice a16 (Int.toNat (min x12 (W ((x0.length : Int) + 1)))) (Int.toNat (min x12 (W ((x0.length : Int) + 1))))))] _ rfl ⟨⟨rfl, trivial⟩, rfl⟩ (JO.done rfl (JS.rg ttOk 3 [(W ((min x12 (W ((x0.length : Int) + 1))) - 1))] [] [(3, .v (.int .i64 (W ((min x12 (W ((x0.length : Int) + 1))) - 1))))] _ ⟨⟨trivial, rfl⟩, ⟨rfl, trivial⟩, rfl⟩ rfl rfl (JS.rg0 ttOk 1 [(10, .v (.int .i64 0))] ⟨⟨rfl, trivial⟩, rfl⟩ rfl rfl (JS.seq ?_))))
    obtain ⟨j40, hj58, h⟩ := joinO_some h
    refine JS.blockJ (ι := List UInt8 × List (List UInt8) × Int × Option Addr × Nat) ⟨fun z => j40 (z.1, z.2.1, z.2.2.1) = some r, fun z => [(0, .v (.string (bs z.1))), (9, .v (.slice z.2.2.2.1 z.2.1.length z.2.2.2.2)), (10, .v (.int .i64 z.2.2.1))], fun z => .nil, fun z => [⟨(.int .i64), ⟨(some ⟨0, 0, none⟩), 1, 1⟩, [gm0]⟩], fun z => [⟨.str, ⟨z.2.2.2.1, z.2.1.length, z.2.2.2.2⟩, z.2.1⟩], fun z => 0⟩ ?_ ?_
    · refine JS.loop (ι := Nat × List UInt8 × List (List UInt8) × Int × Option Addr × Nat) ⟨fun z => fixF (M_strings_genSplit_L1 x0 x1 x2 x12 j40) z.1 (z.2.1, z.2.2.1, z.2.2.2.1) = some r, fun z => [(0, .v (.string (bs z.2.1))), (1, .v (.string (bs x1))), (2, .v (.int .i64 x2)), (3, .v (.int .i64 (W ((min x12 (W ((x0.length : Int) + 1))) - 1)))), (9, .v (.slice z.2.2.2.2.1 z.2.2.1.length z.2.2.2.2.2)), (10, .v (.int .i64 z.2.2.2.1))], fun z => .nil, fun z => [⟨(.int .i64), ⟨(some ⟨0, 0, none⟩), 1, 1⟩, [gm0]⟩], fun z => [⟨.str, ⟨z.2.2.2.2.1, z.2.2.1.length, z.2.2.2.2.2⟩, z.2.2.1⟩], fun z => z.1⟩ (FUEL, x0, (List.replicate (Int.toNat (min x12 (W ((x0.length : Int) + 1)))) []), 0, a16, (Int.toNat (min x12 (W ((x0.length : Int) + 1))))) h ⟨rfl, rfl, rfl, rfl, (by simp only [List.length_set, List.length_replicate, pickO, getF]; rfl), rfl, trivial⟩ trivial [0] rfl [0] (by simp only [List.length_set, List.length_replicate, pickO, getF]; rfl) ?_
      rintro ⟨n31, x17, x18, x21, a19, c20⟩ h
      obtain ⟨n31, rfl, h⟩ := fixF_some h
      rw [M_strings_genSplit_L1] at h
      refine JS.seq (JS.rg0 ttOk 3 [(36, .v (.bool (decide (x21 < (W ((min x12 (W ((x0.length : Int) + 1))) - 1))))))] ⟨⟨rfl, trivial⟩, rfl⟩ rfl rfl ?_)
      refine JS.cond rfl (fun ht56 => ?_) (fun ht56 => ?_)
      · have h := condT h ht56
        refine JS.skip (JS.block (JS.seq (JS.region (JO.reg ttOk 2 [] [] [(37, .v (.string (bs x17))), (38, .v (.string (bs x1)))] _ rfl ⟨(Es rfl), rfl⟩ ?_))))
        obtain ⟨y22, hy23, h⟩ := bindO_some h
        refine JO.call rfl rfl rfl rfl (ok_strings_Index x17 x1 gm0 _ hy23) rfl [0] rfl rfl fun _ _ => JO.reg ttOk 1 [] [] [(11, .v (.int .i64 y22))] _ rfl ⟨⟨rfl, trivial⟩, rfl⟩ (JO.done rfl (JS.seq (JS.rg0 ttOk 2 [(41, .v (.bool (decide (y22 < 0))))] ⟨⟨rfl, trivial⟩, rfl⟩ rfl rfl ?_)))
        refine JS.cond rfl (fun ht55 => ?_) (fun ht55 => ?_)
        · have h := condT h ht55
          refine JS.exit rfl (JS.endJ (x17, x18, x21, a19, c20) h (Es rfl) trivial [0] rfl [0] rfl)
        have h := condF h ht55
        refine JS.skip (JS.seq (JS.region ?_))
        obtain ⟨g24, h⟩ := guardO_some h
        refine JO.know 1 rfl fun hs54 => ?_
        obtain ⟨g26, h⟩ := guardO_some h
        refine JO.reg ttOk 8 [(W (y22 + x2))] [] [(48, .v (.string (bs (sub' x17 0 (W (y22 + x2)))))), (49, .ep ⟨a19, x18.length, c20⟩ (Int.toNat x21 * 1))] _ rfl ⟨⟨trivial, rfl⟩, g24, hs54.ix g26, (Es rfl), rfl⟩ (JO.storeE ttOk rfl rfl rfl rfl rfl rfl rfl rfl rfl [0] (fs := []) rfl (Int.toNat x21) 0 (at' x18 x21) (sub' x17 0 (W (y22 + x2))) ⟨at_some g26, rfl⟩ ⟨rfl, rfl, rfl⟩ (JO.done rfl (JS.seq (JS.region ?_))))
        obtain ⟨g27, h⟩ := guardO_some h
        refine JO.reg ttOk 7 [(W (y22 + (x1.length : Int)))] [] [(0, .v (.string (bs (sub' x17 (W (y22 + (x1.length : Int))) (x17.length : Int)))))] _ rfl ⟨⟨trivial, rfl⟩, g27, ⟨rfl, trivial⟩, rfl⟩ (JO.done rfl (JS.re ttOk 3 [(W (x21 + 1))] [] [(10, .v (.int .i64 (W (x21 + 1))))] _ ⟨⟨trivial, rfl⟩, ⟨rfl, trivial⟩, rfl⟩ rfl rfl (JS.endB (JS.endL (n31, (sub' x17 (W (y22 + (x1.length : Int))) (x17.length : Int)), (List.set x18 (Int.toNat x21) (sub' x17 0 (W (y22 + x2)))), (W (x21 + 1)), a19, c20) h (Nat.lt_succ_self _) ⟨rfl, rfl, rfl, rfl, (by simp only [List.length_set, List.length_replicate, pickO, getF]; rfl), rfl, trivial⟩ trivial [0] rfl [0] (by simp only [List.length_set, List.length_replicate, pickO, getF]; rfl)))))
      have h := condF h ht56
      refine JS.exit rfl (JS.endJ (x17, x18, x21, a19, c20) h (Es rfl) trivial [0] rfl [0] rfl)
    rintro ⟨x35, x36, x39, a37, c38⟩ h
    subst hj58
    refine JS.seq (JS.region (JO.know 1 rfl fun hs57 => ?_))
    obtain ⟨g45, h⟩ := guardO_some h
    refine JO.reg ttOk 4 [] [] [(60, .v (.string (bs x35))), (61, .ep ⟨a37, x36.length, c38⟩ (Int.toNat x39 * 1))] _ rfl ⟨hs57.ix g45, (Es rfl), rfl⟩ (JO.storeE ttOk rfl rfl rfl rfl rfl rfl rfl rfl rfl [0] (fs := []) rfl (Int.toNat x39) 0 (at' x36 x39) x35 ⟨at_some g45, rfl⟩ ⟨rfl, rfl, rfl⟩ (JO.done rfl (JS.seq (JS.region (JO.reg ttOk 3 [(W (x39 + 1))] [] [(62, .v (.slice a37 x36.length c38)), (64, .v (.int .i64 (W (x39 + 1))))] _ rfl ⟨⟨trivial, rfl⟩, (Es rfl), rfl⟩ ?_)))))
    obtain ⟨g46, h⟩ := guardO_some h
    refine JO.sliceO' ttOk rfl rfl rfl rfl rfl rfl rfl rfl [0] rfl (0 : Int) (W (x39 + 1)) rfl rfl g46 rfl fun a47 c48 => JO.reg ttOk 1 [] [] [(8, .v (.slice a47 (sub' (List.set x36 (Int.toNat x39) x35) 0 (W (x39 + 1))).length c48))] _ rfl ⟨⟨rfl, trivial⟩, rfl⟩ (JO.done rfl ?_)
    cases h
    exact JS.ret ttOk (a47, c48) trivial rfl rfl [0] rfl

def M_strings_SplitN (x0 : List UInt8) (x1 : List UInt8) (x2 : Int) : Option (List (List UInt8)) :=
  (bindO (M_strings_genSplit x0 x1 0 x2) fun (y4 : List (List UInt8)) =>
  some y4)

theorem ok_strings_SplitN (x0 : List UInt8) (x1 : List UInt8) (x2 : Int) (gm0 : Int) (r : List (List UInt8)) (h : M_strings_SplitN x0 x1 x2 = some r) :
    FC Tryd.prog 23 [.string (bs x0), .string (bs x1), .int .i64 x2] [⟨(.int .i64), ⟨(some ⟨0, 0, none⟩), 1, 1⟩, [gm0]⟩] (fun _ : Option Addr × Nat => True) (fun q => .slice q.1 r.length q.2) (fun q => [⟨.str, ⟨q.1, r.length, q.2⟩, r⟩]) :=
  by
    refine FC.of (T := TTx) Tryd.call23 Tryd.func23 rfl rfl fun w0 => ?_
    unfold M_strings_SplitN at h
    refine JS.rg0 ttOk 1 [] ⟨trivial, rfl⟩ rfl rfl (JS.seq (JS.region (JO.reg ttOk 3 [] [] [(7, .v (.string (bs x0))), (8, .v (.string (bs x1))), (9, .v (.int .i64 x2))] _ rfl ⟨(Es rfl), rfl⟩ ?_)))
    obtain ⟨y4, hy5, h⟩ := bindO_some h
    refine JO.call rfl rfl rfl rfl (ok_strings_genSplit x0 x1 0 x2 gm0 _ hy5) rfl [0] rfl rfl ?_
    rintro ⟨a6, c7⟩ -
    refine JO.reg ttOk 1 [] [] [(6, .v (.slice a6 y4.length c7))] _ rfl ⟨⟨rfl, trivial⟩, rfl⟩ (JO.done rfl ?_)
    cases h
    exact JS.ret ttOk (a6, c7) trivial rfl rfl [0] rfl

def M_strings_Contains (x0 : List UInt8) (x1 : List UInt8) : Option Bool :=
  (bindO (M_strings_Index x0 x1) fun (y3 : Int) =>
  some (decide (0 ≤ y3)))

theorem ok_strings_Contains (x0 : List UInt8) (x1 : List UInt8) (gm0 : Int) (r : Bool) (h : M_strings_Contains x0 x1 = some r) :
    FC Tryd.prog 24 [.string (bs x0), .string (bs x1)] [⟨(.int .i64), ⟨(some ⟨0, 0, none⟩), 1, 1⟩, [gm0]⟩] (fun _ : Unit => True) (fun _ => .bool r) (fun _ => []) :=
  by
    refine FC.of (T := TTx) Tryd.call24 Tryd.func24 rfl rfl fun w0 => ?_
    unfold M_strings_Contains at h
    refine JS.rg0 ttOk 1 [] ⟨trivial, rfl⟩ rfl rfl (JS.seq (JS.region (JO.reg ttOk 2 [] [] [(5, .v (.string (bs x0))), (6, .v (.string (bs x1)))] _ rfl ⟨(Es rfl), rfl⟩ ?_)))
    obtain ⟨y3, hy4, h⟩ := bindO_some h
    refine JO.call rfl rfl rfl rfl (ok_strings_Index x0 x1 gm0 _ hy4) rfl [0] rfl rfl fun _ _ => JO.reg ttOk 2 [] [] [(4, .v (.bool (decide (0 ≤ y3))))] _ rfl ⟨⟨rfl, trivial⟩, rfl⟩ (JO.done rfl ?_)
    cases h
    exact JS.ret ttOk () trivial rfl rfl [] rfl

def M_strings_Replace (x0 : List UInt8) (x1 : List UInt8) (x2 : List UInt8) (x3 : Int) : Option (List UInt8) := guardO (x0.length < 4294967281 ∧ 1 ≤ x1.length ∧ x0.length + Lib.count x0 x1 * x2.length ≤ 140737488355328) <| some (Lib.replace x0 x1 x2 x3)

theorem ok_strings_Replace (x0 : List UInt8) (x1 : List UInt8) (x2 : List UInt8) (x3 : Int) (gm0 : Int) (r : List UInt8) (h : M_strings_Replace x0 x1 x2 x3 = some r) :
    FC Tryd.prog 25 [.string (bs x0), .string (bs x1), .string (bs x2), .int .i64 x3] [⟨(.int .i64), ⟨(some ⟨0, 0, none⟩), 1, 1⟩, [gm0]⟩] (fun _ : Unit => True) (fun _ => .string (bs r)) (fun _ => []) := by
  obtain ⟨⟨h1, h2, h3⟩, h⟩ := guardO_some h
  cases h
  refine ⟨Tryd.call25, fun w hw => ?_⟩
  obtain ⟨L, hL⟩ := hw _ (List.mem_singleton.2 rfl)
  have hc : Lib.countB (bs x0) (bs x1) = Lib.count x0 x1 := rfl
  refine Calls.mono (Tryd.strings_Replace (bs x0) (bs x1) (bs x2) x3 gm0 w (by rw [bs_size]; exact h1) (fact_var hL) (by rw [bs_size]; exact h2) (by rw [bs_size, bs_size, hc]; exact h3)) ?_
  rintro e w' ⟨he, hb⟩
  exact ⟨(), trivial, he, Below.keep hb, [], rfl, List.nodup_nil, by simp⟩

def M_i_Caret (x0 : Int × List (List UInt8)) (x1 : List UInt8) : Option (List UInt8 × Int) :=
  (bindO (M_i_HistLast x0) fun (y7 : Int) =>
  (bindO (M_i_HistGet x0 y7) fun (y9, y10) =>
  (bif (!y10) then
  some ([], 1)
  else
  (bindO (M_strings_SplitN x1 ([94] : List UInt8) 4) fun (y12 : List (List UInt8)) =>
  (guardO (((decide ((y12.length : Int) < 3)) = false) → 0 ≤ (0 : Int) ∧ 0 < (y12.length : Int)) <|
  (guardO (((bif (decide ((y12.length : Int) < 3)) then true else (!(decide ((at' y12 0) = [])))) = false) → 0 ≤ (1 : Int) ∧ 1 < (y12.length : Int)) <|
  (bif (bif (bif (decide ((y12.length : Int) < 3)) then true else (!(decide ((at' y12 0) = [])))) then true else (decide ((at' y12 1) = []))) then
  some ([], 2)
  else
  (guardO (0 ≤ (1 : Int) ∧ 1 < (y12.length : Int)) <|
  (bindO (M_strings_Contains y9 (at' y12 1)) fun (y24 : Bool) =>
  (bif (!y24) then
  some ([], 3)
  else
  (guardO (0 ≤ (1 : Int) ∧ 1 < (y12.length : Int)) <|
  (guardO (0 ≤ (2 : Int) ∧ 2 < (y12.length : Int)) <|
  (bindO (M_strings_Replace y9 (at' y12 1) (at' y12 2) 1) fun (y28 : List UInt8) =>
  (joinO (fun (x33 : List UInt8) =>
  (bif (decide (1000 < (x33.length : Int))) then
  some ([], 4)
  else
  some (x33, 0))) fun j34 =>
  (bif (decide ((y12.length : Int) = 4)) then
  (guardO (0 ≤ (3 : Int) ∧ 3 < (y12.length : Int)) <|
  (guardO (((y28.length + (at' y12 3).length : Nat) : Int) ≤ 9223372036854775807) <|
  j34 (y28 ++ (at' y12 3))))
  else
  j34 y28)))))))))))))))

theorem ok_i_Caret (x0 : Int × List (List UInt8)) (x1 : List UInt8) (a3 : Option Addr) (c4 : Nat) (l5 : Nat) (hl6 : x0.2.length = l5) (gm0 : Int) (r : List UInt8 × Int) (h : M_i_Caret x0 x1 = some r) :
    FC Tryd.prog 9 [.agg #[.int .i64 x0.1, .slice a3 l5 c4], .string (bs x1)] [⟨.str, ⟨a3, l5, c4⟩, x0.2⟩, ⟨(.int .i64), ⟨(some ⟨0, 0, none⟩), 1, 1⟩, [gm0]⟩] (fun _ : Unit => True) (fun _ => .tuple #[.string (bs r.1), .int .i64 r.2]) (fun _ => []) :=
  by
    subst hl6
    refine FC.of (T := TTx) Tryd.call9 Tryd.func9 rfl rfl fun w0 => ?_
    unfold M_i_Caret at h
    refine JS.rgB ttOk 3 [] [3] [(2, .bp 3 0)] (.new 3 28 [.int .i64 x0.1, .slice a3 x0.2.length c4] .nil) ⟨⟨rfl, trivial⟩, (Bs rfl rfl)⟩ rfl rfl (JS.seq ?_)
    obtain ⟨y7, hy8, h⟩ := bindO_some h
    obtain ⟨⟨y9, y10⟩, hy11, h⟩ := bindO_some h
    refine JS.regionQ rfl (by kernel_rfl) (JQ.reg ttOk 2 [] [(11, .v (.agg #[.int .i64 x0.1, .slice a3 x0.2.length c4])), (12, .v (.agg #[.int .i64 x0.1, .slice a3 x0.2.length c4]))] rfl (Es rfl) (JQ.call rfl rfl rfl rfl (ok_i_HistLast x0 a3 c4 x0.2.length rfl _ hy8) rfl [0] rfl rfl (JQ.call rfl rfl rfl rfl (ok_i_HistGet x0 y7 a3 c4 x0.2.length rfl _ hy11) rfl [0] rfl rfl (JQ.reg ttOk 5 [] [(6, .v (.string (bs y9))), (7, .v (.bool y10))] rfl (Es rfl) (JQ.done rfl (JS.seq (JS.rg0 ttOk 2 [(18, .v (.bool (!y10)))] ⟨⟨rfl, trivial⟩, rfl⟩ rfl rfl ?_)))))))
    refine JS.cond rfl (fun ht51 => ?_) (fun ht51 => ?_)
    · have h := condT h ht51
      refine JS.rg0 ttOk 2 [(4, .v (.string (bs []))), (5, .v (.int .i64 1))] ⟨(Es rfl), rfl⟩ rfl rfl ?_
      cases h
      exact JS.ret ttOk () trivial rfl rfl [] rfl
    have h := condF h ht51
    refine JS.skip (JS.seq (JS.region (JO.reg ttOk 1 [] [] [(19, .v (.string (bs x1)))] _ rfl ⟨⟨rfl, trivial⟩, rfl⟩ ?_)))
    obtain ⟨y12, hy13, h⟩ := bindO_some h
    refine JO.call rfl rfl rfl rfl (ok_strings_SplitN x1 ([94] : List UInt8) 4 gm0 _ hy13) rfl [1] rfl rfl ?_
    rintro ⟨a14, c15⟩ -
    refine JO.reg ttOk 1 [] [] [(8, .v (.slice a14 y12.length c15))] _ rfl ⟨⟨rfl, trivial⟩, rfl⟩ (JO.done rfl (JS.seq (JS.seq (JS.region (JO.know 2 rfl fun hs41 => ?_)))))
    obtain ⟨g17, h⟩ := guardO_some h
    refine JO.reg ttOk 6 [] [] [(24, .v (.bool (decide ((y12.length : Int) < 3)))), (26, .cd [(24, false)] (.ep ⟨a14, y12.length, c15⟩ (Int.toNat 0 * 1)))] _ rfl ⟨(fun q42 => hs41.ix (g17 q42)), (Es rfl), rfl⟩ (JO.load ttOk rfl rfl rfl rfl rfl rfl rfl 2 rfl rfl (Int.toNat 0) 0 (at' y12 0) (fun q43 => ⟨at_some (g17 q43), rfl⟩) rfl rfl ?_)
    obtain ⟨g20, h⟩ := guardO_some h
    refine JO.reg ttOk 5 [] [] [(30, .v (.bool (bif (decide ((y12.length : Int) < 3)) then true else (!(decide ((at' y12 0) = [])))))), (32, .cd [(30, false)] (.ep ⟨a14, y12.length, c15⟩ (Int.toNat 1 * 1)))] _ rfl ⟨(fun q44 => hs41.ix (g20 q44)), (Es rfl), rfl⟩ (JO.load ttOk rfl rfl rfl rfl rfl rfl rfl 2 rfl rfl (Int.toNat 1) 0 (at' y12 1) (fun q45 => ⟨at_some (g20 q45), rfl⟩) rfl rfl (JO.reg ttOk 2 [] [] [(35, .v (.bool (bif (bif (decide ((y12.length : Int) < 3)) then true else (!(decide ((at' y12 0) = [])))) then true else (decide ((at' y12 1) = [])))))] _ rfl ⟨⟨rfl, trivial⟩, rfl⟩ (JO.done rfl ?_)))
    refine JS.cond rfl (fun ht50 => ?_) (fun ht50 => ?_)
    · have h := condT h ht50
      refine JS.rg0 ttOk 2 [(4, .v (.string (bs []))), (5, .v (.int .i64 2))] ⟨(Es rfl), rfl⟩ rfl rfl ?_
      cases h
      exact JS.ret ttOk () trivial rfl rfl [] rfl
    have h := condF h ht50
    refine JS.skip (JS.seq (JS.seq (JS.region ?_)))
    obtain ⟨g23, h⟩ := guardO_some h
    refine JO.reg ttOk 3 [] [] [(36, .v (.string (bs y9))), (38, .ep ⟨a14, y12.length, c15⟩ (Int.toNat 1 * 1))] _ rfl ⟨hs41.ix g23, (Es rfl), rfl⟩ (JO.load ttOk rfl rfl rfl rfl rfl rfl rfl 2 rfl rfl (Int.toNat 1) 0 (at' y12 1) ⟨at_some g23, rfl⟩ rfl rfl ?_)
    obtain ⟨y24, hy25, h⟩ := bindO_some h
    refine JO.call rfl rfl rfl rfl (ok_strings_Contains y9 (at' y12 1) gm0 _ hy25) rfl [1] rfl rfl fun _ _ => JO.reg ttOk 1 [] [] [(41, .v (.bool (!y24)))] _ rfl ⟨⟨rfl, trivial⟩, rfl⟩ (JO.done rfl ?_)
    refine JS.cond rfl (fun ht49 => ?_) (fun ht49 => ?_)
    · have h := condT h ht49
      refine JS.rg0 ttOk 2 [(4, .v (.string (bs []))), (5, .v (.int .i64 3))] ⟨(Es rfl), rfl⟩ rfl rfl ?_
      cases h
      exact JS.ret ttOk () trivial rfl rfl [] rfl
    have h := condF h ht49
    refine JS.skip (JS.seq ?_)
    obtain ⟨g26, h⟩ := guardO_some h
    obtain ⟨g27, h⟩ := guardO_some h
    obtain ⟨y28, hy29, h⟩ := bindO_some h
    refine JS.regionQ rfl (by kernel_rfl) (JQ.reg ttOk 3 [] [(42, .v (.string (bs y9))), (44, .ep ⟨a14, y12.length, c15⟩ (Int.toNat 1 * 1))] rfl ⟨hs41.ix g26, (Es rfl)⟩ (JQ.load ttOk rfl rfl rfl rfl rfl rfl rfl 2 rfl rfl (Int.toNat 1) 0 (at' y12 1) ⟨at_some g26, rfl⟩ rfl rfl (JQ.reg ttOk 2 [] [(47, .ep ⟨a14, y12.length, c15⟩ (Int.toNat 2 * 1))] rfl ⟨hs41.ix g27, ⟨rfl, trivial⟩⟩ (JQ.load ttOk rfl rfl rfl rfl rfl rfl rfl 2 rfl rfl (Int.toNat 2) 0 (at' y12 2) ⟨at_some g27, rfl⟩ rfl rfl (JQ.call rfl rfl rfl rfl (ok_strings_Replace y9 (at' y12 1) (at' y12 2) 1 gm0 _ hy29) rfl [1] rfl rfl (JQ.reg ttOk 1 [] [(9, .v (.string (bs y28)))] rfl ⟨rfl, trivial⟩ (JQ.done rfl ?_)))))))
    obtain ⟨j34, hj48, h⟩ := joinO_some h
    refine JS.seqJ (ι := List UInt8) ⟨fun z => j34 z = some r, fun z => [(9, .v (.string (bs z)))], fun z => .nil, fun z => [⟨(.int .i64), ⟨(some ⟨0, 0, none⟩), 1, 1⟩, [gm0]⟩], fun z => [], fun z => 0⟩ ?_ ?_
    · refine JS.rg0 ttOk 3 [(52, .v (.bool (decide ((y12.length : Int) = 4))))] ⟨⟨rfl, trivial⟩, rfl⟩ rfl rfl ?_
      refine JS.cond rfl (fun ht46 => ?_) (fun ht46 => ?_)
      · have h := condT h ht46
        refine JS.region ?_
        obtain ⟨g30, h⟩ := guardO_some h
        refine JO.reg ttOk 3 [] [] [(53, .v (.string (bs y28))), (55, .ep ⟨a14, y12.length, c15⟩ (Int.toNat 3 * 1))] _ rfl ⟨hs41.ix g30, (Es rfl), rfl⟩ (JO.load ttOk rfl rfl rfl rfl rfl rfl rfl 2 rfl rfl (Int.toNat 3) 0 (at' y12 3) ⟨at_some g30, rfl⟩ rfl rfl ?_)
        obtain ⟨g31, h⟩ := guardO_some h
        refine JO.reg ttOk 2 [] [] [(9, .v (.string (bs (y28 ++ (at' y12 3)))))] _ rfl ⟨g31, ⟨rfl, trivial⟩, rfl⟩ (JO.done rfl (JS.endJ (y28 ++ (at' y12 3)) h ⟨rfl, trivial⟩ trivial [1] rfl [] rfl))
      have h := condF h ht46
      refine JS.skip (JS.endJ y28 h ⟨rfl, trivial⟩ trivial [1] rfl [] rfl)
    rintro x33 h
    subst hj48
    refine JS.seq (JS.rg0 ttOk 3 [(60, .v (.bool (decide (1000 < (x33.length : Int)))))] ⟨⟨rfl, trivial⟩, rfl⟩ rfl rfl ?_)
    refine JS.cond rfl (fun ht47 => ?_) (fun ht47 => ?_)
    · have h := condT h ht47
      refine JS.rg0 ttOk 2 [(4, .v (.string (bs []))), (5, .v (.int .i64 4))] ⟨(Es rfl), rfl⟩ rfl rfl ?_
      cases h
      exact JS.ret ttOk () trivial rfl rfl [] rfl
    have h := condF h ht47
    refine JS.skip (JS.rg0 ttOk 3 [(4, .v (.string (bs x33))), (5, .v (.int .i64 0))] ⟨(Es rfl), rfl⟩ rfl rfl ?_)
    cases h
    exact JS.ret ttOk () trivial rfl rfl [] rfl

def M_internal_stringslite_HasPrefix (x0 : List UInt8) (x1 : List UInt8) : Option Bool :=
  (guardO (((decide ((x1.length : Int) ≤ (x0.length : Int))) = true) → 0 ≤ (0 : Int) ∧ (0 : Int) ≤ (x1.length : Int) ∧ (x1.length : Int) ≤ (x0.length : Int)) <|
  some (bif (decide ((x1.length : Int) ≤ (x0.length : Int))) then (decide ((sub' x0 0 (x1.length : Int)) = x1)) else false))

theorem ok_internal_stringslite_HasPrefix (x0 : List UInt8) (x1 : List UInt8) (r : Bool) (h : M_internal_stringslite_HasPrefix x0 x1 = some r) :
    FC Tryd.prog 49 [.string (bs x0), .string (bs x1)] [] (fun _ : Unit => True) (fun _ => .bool r) (fun _ => []) :=
  by
    refine FC.of (T := TTx) Tryd.call49 Tryd.func49 rfl rfl fun w0 => ?_
    unfold M_internal_stringslite_HasPrefix at h
    refine JS.rg0 ttOk 1 [] ⟨trivial, rfl⟩ rfl rfl (JS.seq (JS.region ?_))
    obtain ⟨g3, h⟩ := guardO_some h
    refine JO.reg ttOk 14 [] [] [(4, .v (.bool (bif (decide ((x1.length : Int) ≤ (x0.length : Int))) then (decide ((sub' x0 0 (x1.length : Int)) = x1)) else false)))] _ rfl ⟨(fun q5 => (g3 q5)), ⟨rfl, trivial⟩, rfl⟩ (JO.done rfl ?_)
    cases h
    exact JS.ret ttOk () trivial rfl rfl [] rfl

def M_strings_HasPrefix (x0 : List UInt8) (x1 : List UInt8) : Option Bool := some (Lib.hasPrefix x0 x1)

theorem ok_strings_HasPrefix (x0 : List UInt8) (x1 : List UInt8) (r : Bool) (h : M_strings_HasPrefix x0 x1 = some r) : FV Tryd.prog 31 [.string (bs x0), .string (bs x1)] [] (.bool r) := by
  cases h
  refine FV.of_calls Tryd.call31 fun w => ?_
  exact Tryd.strings_HasPrefix (bs x0) (bs x1) w

def M_i_isDigit (x0 : Int) : Option Bool :=
  (bindO (M_i_in x0 48 57) fun (y2 : Bool) =>
  some y2)

theorem ok_i_isDigit (x0 : Int) (r : Bool) (h : M_i_isDigit x0 = some r) :
    FC Tryd.prog 52 [.int .i64 x0] [] (fun _ : Unit => True) (fun _ => .bool r) (fun _ => []) :=
  by
    refine FC.of (T := TTx) Tryd.call52 Tryd.func52 rfl rfl fun w0 => ?_
    unfold M_i_isDigit at h
    refine JS.rg0 ttOk 1 [] ⟨trivial, rfl⟩ rfl rfl (JS.seq (JS.region (JO.reg ttOk 1 [] [] [(3, .v (.int .i64 x0))] _ rfl ⟨⟨rfl, trivial⟩, rfl⟩ ?_)))
    obtain ⟨y2, hy3, h⟩ := bindO_some h
    refine JO.call rfl rfl rfl rfl (ok_i_in x0 48 57 _ hy3) rfl [] rfl rfl fun _ _ => JO.reg ttOk 1 [] [] [(2, .v (.bool y2))] _ rfl ⟨⟨rfl, trivial⟩, rfl⟩ (JO.done rfl ?_)
    cases h
    exact JS.ret ttOk () trivial rfl rfl [] rfl

def M_i_digitsAt_L1 (x0 : List UInt8) (x1 : Int) (j23 : (Int × Int) → Option (Int × Int)) (k14 : (Int × Int) → Option (Int × Int)) : (Int × Int) → Option (Int × Int) := fun (x3, x4) =>
  (guardO (((bif (decide (x4 < (x0.length : Int))) then (decide (x4 < (W (x1 + 9)))) else false) = true) → 0 ≤ x4 ∧ x4 < (x0.length : Int)) <|
  (callO ((bif (decide (x4 < (x0.length : Int))) then (decide (x4 < (W (x1 + 9)))) else false) = true) (M_i_isDigit ((at' x0 x4).toNat : Int)) false fun (y9 : Bool) =>
  (bif (bif (bif (decide (x4 < (x0.length : Int))) then (decide (x4 < (W (x1 + 9)))) else false) then y9 else false) then
  (guardO (0 ≤ x4 ∧ x4 < (x0.length : Int)) <|
  k14 ((W ((W ((W (10 * x3)) + ((at' x0 x4).toNat : Int))) - 48)), (W (x4 + 1))))
  else
  j23 (x3, x4))))

def M_i_digitsAt (x0 : List UInt8) (x1 : Int) : Option (Int × Int) :=
  (joinO (fun ((x21, x22) : Int × Int) =>
  some (x21, x22)) fun j23 =>
  (fixF (M_i_digitsAt_L1 x0 x1 j23) FUEL (0, x1)))

theorem ok_i_digitsAt (x0 : List UInt8) (x1 : Int) (r : Int × Int) (h : M_i_digitsAt x0 x1 = some r) :
    FC Tryd.prog 36 [.string (bs x0), .int .i64 x1] [] (fun _ : Unit => True) (fun _ => .tuple #[.int .i64 r.1, .int .i64 r.2]) (fun _ => []) :=
  by
    refine FC.of (T := TTx) Tryd.call36 Tryd.func36 rfl rfl fun w0 => ?_
    unfold M_i_digitsAt at h
    refine JS.rg0 ttOk 2 [] ⟨trivial, rfl⟩ rfl rfl (JS.rg0 ttOk 3 [(6, .v (.int .i64 0)), (7, .v (.int .i64 x1))] ⟨(Es rfl), rfl⟩ rfl rfl (JS.seq ?_))
    obtain ⟨j23, hj35, h⟩ := joinO_some h
    refine JS.blockJ (ι := Int × Int) ⟨fun z => j23 (z.1, z.2) = some r, fun z => [(6, .v (.int .i64 z.1)), (7, .v (.int .i64 z.2))], fun z => .nil, fun z => [], fun z => [], fun z => 0⟩ ?_ ?_
    · refine JS.loop (ι := Nat × Int × Int) ⟨fun z => fixF (M_i_digitsAt_L1 x0 x1 j23) z.1 (z.2.1, z.2.2) = some r, fun z => [(0, .v (.string (bs x0))), (1, .v (.int .i64 x1)), (6, .v (.int .i64 z.2.1)), (7, .v (.int .i64 z.2.2))], fun z => .nil, fun z => [], fun z => [], fun z => z.1⟩ (FUEL, 0, x1) h (Es rfl) trivial [] rfl [] rfl ?_
      rintro ⟨n15, x3, x4⟩ h
      obtain ⟨n15, rfl, h⟩ := fixF_some h
      rw [M_i_digitsAt_L1] at h
      refine JS.seq (JS.seq (JS.region ?_))
      obtain ⟨g6, h⟩ := guardO_some h
      refine JO.reg ttOk 15 [(W (x1 + 9)), ((at' x0 x4).toNat : Int)] [] [(19, .v (.bool (bif (decide (x4 < (x0.length : Int))) then (decide (x4 < (W (x1 + 9)))) else false))), (23, .cd [(19, true)] (.v (.int .i64 ((at' x0 x4).toNat : Int))))] _ rfl ⟨(fun q30 => ⟨trivial, rfl⟩), (fun q31 => (g6 q31)), (fun q32 => ⟨trivial, W_byte _⟩), (Es rfl), rfl⟩ ?_
      obtain ⟨y9, hy10, -, h⟩ := callO_some h
      refine JO.callg rfl rfl rfl rfl (fun q33 => ok_i_isDigit ((at' x0 x4).toNat : Int) _ (hy10 q33)) rfl [] rfl rfl (JO.reg ttOk 1 [] [] [(25, .v (.bool (bif (bif (decide (x4 < (x0.length : Int))) then (decide (x4 < (W (x1 + 9)))) else false) then y9 else false)))] _ rfl ⟨⟨rfl, trivial⟩, rfl⟩ (JO.done rfl ?_))
      refine JS.cond rfl (fun ht34 => ?_) (fun ht34 => ?_)
      · have h := condT h ht34
        refine JS.skip (JS.block (JS.seq (JS.region ?_)))
        obtain ⟨g12, h⟩ := guardO_some h
        refine JO.reg ttOk 9 [(W (10 * x3)), ((at' x0 x4).toNat : Int), (W ((W (10 * x3)) + ((at' x0 x4).toNat : Int))), (W ((W ((W (10 * x3)) + ((at' x0 x4).toNat : Int))) - 48))] [] [(6, .v (.int .i64 (W ((W ((W (10 * x3)) + ((at' x0 x4).toNat : Int))) - 48))))] _ rfl ⟨⟨trivial, rfl⟩, g12, ⟨trivial, W_byte _⟩, ⟨trivial, rfl⟩, ⟨trivial, rfl⟩, ⟨rfl, trivial⟩, rfl⟩ (JO.done rfl (JS.re ttOk 3 [(W (x4 + 1))] [] [(7, .v (.int .i64 (W (x4 + 1))))] _ ⟨⟨trivial, rfl⟩, ⟨rfl, trivial⟩, rfl⟩ rfl rfl (JS.endB (JS.endL (n15, (W ((W ((W (10 * x3)) + ((at' x0 x4).toNat : Int))) - 48)), (W (x4 + 1))) h (Nat.lt_succ_self _) (Es rfl) trivial [] rfl [] rfl))))
      have h := condF h ht34
      refine JS.exit rfl (JS.endJ (x3, x4) h (Es rfl) trivial [] rfl [] rfl)
    rintro ⟨x21, x22⟩ h
    subst hj35
    refine JS.rg0 ttOk 4 [(4, .v (.int .i64 x21)), (5, .v (.int .i64 x22))] ⟨(Es rfl), rfl⟩ rfl rfl ?_
    cases h
    exact JS.ret ttOk () trivial rfl rfl [] rfl

def M_strings_IndexByte (x0 : List UInt8) (x1 : UInt8) : Option Int :=
  (bindO (M_internal_stringslite_IndexByte x0 x1) fun (y3 : Int) =>
  some y3)

theorem ok_strings_IndexByte (x0 : List UInt8) (x1 : UInt8) (r : Int) (h : M_strings_IndexByte x0 x1 = some r) :
    FC Tryd.prog 37 [.string (bs x0), .int .u8 (x1.toNat : Int)] [] (fun _ : Unit => True) (fun _ => .int .i64 r) (fun _ => []) :=
  by
    refine FC.of (T := TTx) Tryd.call37 Tryd.func37 rfl rfl fun w0 => ?_
    unfold M_strings_IndexByte at h
    refine JS.rg0 ttOk 1 [] ⟨trivial, rfl⟩ rfl rfl (JS.seq (JS.region (JO.reg ttOk 2 [] [] [(5, .v (.string (bs x0))), (6, .v (.int .u8 (x1.toNat : Int)))] _ rfl ⟨(Es rfl), rfl⟩ ?_)))
    obtain ⟨y3, hy4, h⟩ := bindO_some h
    refine JO.call rfl rfl rfl rfl (ok_internal_stringslite_IndexByte x0 x1 _ hy4) rfl [] rfl rfl fun _ _ => JO.reg ttOk 1 [] [] [(4, .v (.int .i64 y3))] _ rfl ⟨⟨rfl, trivial⟩, rfl⟩ (JO.done rfl ?_)
    cases h
    exact JS.ret ttOk () trivial rfl rfl [] rfl

def M_i_RefAt_L1 (x0 : List UInt8) (j43 : Int → Option ((Int × Int × List UInt8 × Int) × Bool)) (k37 : Int → Option ((Int × Int × List UInt8 × Int) × Bool)) : Int → Option ((Int × Int × List UInt8 × Int) × Bool) := fun x23 =>
  (guardO (((decide (x23 < (x0.length : Int))) = true) → 0 ≤ x23 ∧ x23 < (x0.length : Int)) <|
  (callO ((decide (x23 < (x0.length : Int))) = true) (M_strings_IndexByte ([32, 9, 10, 59, 38, 124, 60, 62, 40, 41, 61, 33, 39, 34] : List UInt8) (at' x0 x23)) (0 : Int) fun (y30 : Int) =>
  (bif (bif (decide (x23 < (x0.length : Int))) then (decide (y30 < 0)) else false) then
  k37 (W (x23 + 1))
  else
  j43 x23)))

def M_i_RefAt (x0 : List UInt8) (x1 : Int) : Option ((Int × Int × List UInt8 × Int) × Bool) :=
  (bindO (M_i_in x1 0 (W ((x0.length : Int) - 1))) fun (y3 : Bool) =>
  (guardO (((!y3) = false) → 0 ≤ x1 ∧ x1 < (x0.length : Int)) <|
  (bif (bif (!y3) then true else (!(decide (((at' x0 x1).toNat : Int) = (33 : Int))))) then
  some ((0, 0, [], 0), false)
  else
  (guardO (((decide ((W (x1 + 1)) < (x0.length : Int))) = true) → 0 ≤ (W (x1 + 1)) ∧ (W (x1 + 1)) < (x0.length : Int)) <|
  (bif (bif (decide ((W (x1 + 1)) < (x0.length : Int))) then (decide (((at' x0 (W (x1 + 1))).toNat : Int) = (33 : Int))) else false) then
  some ((1, 0, [], (W ((W (x1 + 1)) + 1))), true)
  else
  (bindO (M_i_digitsAt x0 (W (x1 + 1))) fun (y9, y10) =>
  (bif (decide ((W (x1 + 1)) < y10)) then
  some ((2, y9, [], y10), true)
  else
  (joinO (fun (_ : Unit) =>
  (joinO (fun (x42 : Int) =>
  (bif (decide (x42 = (W (x1 + 1)))) then
  some ((0, 0, [], 0), false)
  else
  (guardO (0 ≤ (W (x1 + 1)) ∧ (W (x1 + 1)) ≤ x42 ∧ x42 ≤ (x0.length : Int)) <|
  some ((4, 0, (sub' x0 (W (x1 + 1)) x42), x42), true)))) fun j43 =>
  (fixF (M_i_RefAt_L1 x0 j43) FUEL (W (x1 + 1))))) fun j19 =>
  (guardO (((decide ((W (x1 + 1)) < (x0.length : Int))) = true) → 0 ≤ (W (x1 + 1)) ∧ (W (x1 + 1)) < (x0.length : Int)) <|
  (bif (bif (decide ((W (x1 + 1)) < (x0.length : Int))) then (decide (((at' x0 (W (x1 + 1))).toNat : Int) = (45 : Int))) else false) then
  (bindO (M_i_digitsAt x0 (W ((W (x1 + 1)) + 1))) fun (y14, y15) =>
  (bif (decide ((W ((W (x1 + 1)) + 1)) < y15)) then
  some ((3, y14, [], y15), true)
  else
  j19 ()))
  else
  j19 ()))))))))))

theorem ok_i_RefAt (x0 : List UInt8) (x1 : Int) (r : (Int × Int × List UInt8 × Int) × Bool) (h : M_i_RefAt x0 x1 = some r) :
    FC Tryd.prog 16 [.string (bs x0), .int .i64 x1] [] (fun _ : Unit => True) (fun _ => .tuple #[.agg #[.int .i64 r.1.1, .int .i64 r.1.2.1, .string (bs r.1.2.2.1), .int .i64 r.1.2.2.2], .bool r.2]) (fun _ => []) :=
  by
    refine FC.of (T := TTx) Tryd.call16 Tryd.func16 rfl rfl fun w0 => ?_
    unfold M_i_RefAt at h
    refine JS.rgB ttOk 2 [] [1] [(4, .bp 1 0)] (.new 1 42 [.int .i64 0, .int .i64 0, .string (bs []), .int .i64 0] .nil) ⟨⟨rfl, trivial⟩, (Bs rfl rfl)⟩ rfl rfl (JS.seq (JS.seq (JS.region (JO.reg ttOk 4 [(W ((x0.length : Int) - 1))] [] [(12, .v (.int .i64 x1)), (15, .v (.int .i64 (W ((x0.length : Int) - 1))))] _ rfl ⟨⟨trivial, rfl⟩, (Es rfl), rfl⟩ ?_))))
    obtain ⟨y3, hy4, h⟩ := bindO_some h
    refine JO.call rfl rfl rfl rfl (ok_i_in x1 0 (W ((x0.length : Int) - 1)) _ hy4) rfl [] rfl rfl fun _ _ => ?_
    obtain ⟨g5, h⟩ := guardO_some h
    refine JO.reg ttOk 7 [] [] [(23, .v (.bool (bif (!y3) then true else (!(decide (((at' x0 x1).toNat : Int) = (33 : Int)))))))] _ rfl ⟨(fun q54 => (g5 q54)), ⟨rfl, trivial⟩, rfl⟩ (JO.done rfl ?_)
    refine JS.cond rfl (fun ht67 => ?_) (fun ht67 => ?_)
    · have h := condT h ht67
      refine JS.rgB ttOk 3 [] [] [(5, .v (.bool false))] (.new 1 42 [.int .i64 0, .int .i64 0, .string (bs []), .int .i64 0] .nil) ⟨⟨rfl, trivial⟩, (Bs rfl rfl)⟩ rfl rfl ?_
      cases h
      exact JS.ret ttOk () trivial rfl rfl [] rfl
    have h := condF h ht67
    refine JS.skip (JS.rg ttOk 3 [(W (x1 + 1))] [] [(6, .v (.int .i64 (W (x1 + 1))))] _ ⟨⟨trivial, rfl⟩, ⟨rfl, trivial⟩, rfl⟩ rfl rfl (JS.seq (JS.seq (JS.region ?_))))
    obtain ⟨g7, h⟩ := guardO_some h
    refine JO.reg ttOk 10 [] [] [(36, .v (.bool (bif (decide ((W (x1 + 1)) < (x0.length : Int))) then (decide (((at' x0 (W (x1 + 1))).toNat : Int) = (33 : Int))) else false)))] _ rfl ⟨(fun q55 => (g7 q55)), ⟨rfl, trivial⟩, rfl⟩ (JO.done rfl ?_)
    refine JS.cond rfl (fun ht66 => ?_) (fun ht66 => ?_)
    · have h := condT h ht66
      refine JS.rgB ttOk 5 [(W ((W (x1 + 1)) + 1))] [] [(5, .v (.bool true))] (.new 1 42 [.int .i64 1, .int .i64 0, .string (bs []), .int .i64 (W ((W (x1 + 1)) + 1))] .nil) ⟨⟨trivial, rfl⟩, ⟨rfl, trivial⟩, (Bs rfl rfl)⟩ rfl rfl ?_
      cases h
      exact JS.ret ttOk () trivial rfl rfl [] rfl
    have h := condF h ht66
    refine JS.skip (JS.seq (JS.seq (JS.region (JO.reg ttOk 2 [] [] [(41, .v (.string (bs x0))), (42, .v (.int .i64 (W (x1 + 1))))] _ rfl ⟨(Es rfl), rfl⟩ ?_))))
    obtain ⟨⟨y9, y10⟩, hy11, h⟩ := bindO_some h
    refine JO.call rfl rfl rfl rfl (ok_i_digitsAt x0 (W (x1 + 1)) _ hy11) rfl [] rfl rfl fun _ _ => JO.reg ttOk 5 [] [] [(7, .v (.int .i64 y9)), (8, .v (.int .i64 y10))] _ rfl ⟨(Es rfl), rfl⟩ (JO.done rfl (JS.rg0 ttOk 3 [(48, .v (.bool (decide ((W (x1 + 1)) < y10))))] ⟨⟨rfl, trivial⟩, rfl⟩ rfl rfl ?_))
    refine JS.cond rfl (fun ht65 => ?_) (fun ht65 => ?_)
    · have h := condT h ht65
      refine JS.rgB ttOk 5 [] [] [(5, .v (.bool true))] (.new 1 42 [.int .i64 2, .int .i64 y9, .string (bs []), .int .i64 y10] .nil) ⟨⟨rfl, trivial⟩, (Bs rfl rfl)⟩ rfl rfl ?_
      cases h
      exact JS.ret ttOk () trivial rfl rfl [] rfl
    have h := condF h ht65
    refine JS.skip ?_
    obtain ⟨j19, hj64, h⟩ := joinO_some h
    refine JS.seqJ (ι := Unit) ⟨fun _ => j19 () = some r, fun _ => [(0, .v (.string (bs x0))), (4, .bp 1 0), (6, .v (.int .i64 (W (x1 + 1))))], fun _ => (.new 1 42 [.int .i64 0, .int .i64 0, .string (bs []), .int .i64 0] .nil), fun _ => [], fun _ => [], fun _ => 0⟩ ?_ ?_
    · refine JS.seq (JS.region ?_)
      obtain ⟨g12, h⟩ := guardO_some h
      refine JO.reg ttOk 10 [] [] [(61, .v (.bool (bif (decide ((W (x1 + 1)) < (x0.length : Int))) then (decide (((at' x0 (W (x1 + 1))).toNat : Int) = (45 : Int))) else false)))] _ rfl ⟨(fun q56 => (g12 q56)), ⟨rfl, trivial⟩, rfl⟩ (JO.done rfl ?_)
      refine JS.cond rfl (fun ht58 => ?_) (fun ht58 => ?_)
      · have h := condT h ht58
        refine JS.seq (JS.region (JO.reg ttOk 3 [(W ((W (x1 + 1)) + 1))] [] [(63, .v (.string (bs x0))), (65, .v (.int .i64 (W ((W (x1 + 1)) + 1))))] _ rfl ⟨⟨trivial, rfl⟩, (Es rfl), rfl⟩ ?_))
        obtain ⟨⟨y14, y15⟩, hy16, h⟩ := bindO_some h
        refine JO.call rfl rfl rfl rfl (ok_i_digitsAt x0 (W ((W (x1 + 1)) + 1)) _ hy16) rfl [] rfl rfl fun _ _ => JO.reg ttOk 5 [] [] [(9, .v (.int .i64 y14)), (10, .v (.int .i64 y15))] _ rfl ⟨(Es rfl), rfl⟩ (JO.done rfl (JS.rg ttOk 4 [(W ((W (x1 + 1)) + 1))] [] [(72, .v (.bool (decide ((W ((W (x1 + 1)) + 1)) < y15))))] _ ⟨⟨trivial, rfl⟩, ⟨rfl, trivial⟩, rfl⟩ rfl rfl ?_))
        refine JS.cond rfl (fun ht57 => ?_) (fun ht57 => ?_)
        · have h := condT h ht57
          refine JS.rgB ttOk 5 [] [] [(5, .v (.bool true))] (.new 1 42 [.int .i64 3, .int .i64 y14, .string (bs []), .int .i64 y15] .nil) ⟨⟨rfl, trivial⟩, (Bs rfl rfl)⟩ rfl rfl ?_
          cases h
          exact JS.ret ttOk () trivial rfl rfl [] rfl
        have h := condF h ht57
        refine JS.skip (JS.endJ () h (Es rfl) (Bs rfl rfl) [] rfl [] rfl)
      have h := condF h ht58
      refine JS.skip (JS.endJ () h (Es rfl) (Bs rfl rfl) [] rfl [] rfl)
    rintro _ h
    subst hj64
    refine JS.rg0 ttOk 2 [(11, .v (.int .i64 (W (x1 + 1))))] ⟨⟨rfl, trivial⟩, rfl⟩ rfl rfl (JS.seq ?_)
    obtain ⟨j43, hj63, h⟩ := joinO_some h
    refine JS.blockJ (ι := Int) ⟨fun z => j43 z = some r, fun z => [(0, .v (.string (bs x0))), (4, .bp 1 0), (6, .v (.int .i64 (W (x1 + 1)))), (11, .v (.int .i64 z))], fun z => (.new 1 42 [.int .i64 0, .int .i64 0, .string (bs []), .int .i64 0] .nil), fun z => [], fun z => [], fun z => 0⟩ ?_ ?_
    · refine JS.loop (ι := Nat × Int) ⟨fun z => fixF (M_i_RefAt_L1 x0 j43) z.1 z.2 = some r, fun z => [(0, .v (.string (bs x0))), (4, .bp 1 0), (6, .v (.int .i64 (W (x1 + 1)))), (11, .v (.int .i64 z.2))], fun z => (.new 1 42 [.int .i64 0, .int .i64 0, .string (bs []), .int .i64 0] .nil), fun z => [], fun z => [], fun z => z.1⟩ (FUEL, (W (x1 + 1))) h (Es rfl) (Bs rfl rfl) [] rfl [] rfl ?_
      rintro ⟨n38, x23⟩ h
      obtain ⟨n38, rfl, h⟩ := fixF_some h
      rw [M_i_RefAt_L1] at h
      refine JS.seq (JS.seq (JS.region ?_))
      obtain ⟨g28, h⟩ := guardO_some h
      refine JO.reg ttOk 8 [] [] [(81, .v (.bool (decide (x23 < (x0.length : Int))))), (84, .cd [(81, true)] (.v (.int .u8 ((at' x0 x23).toNat : Int))))] _ rfl ⟨(fun q59 => (g28 q59)), (Es rfl), rfl⟩ ?_
      obtain ⟨y30, hy31, -, h⟩ := callO_some h
      refine JO.callg rfl rfl rfl rfl (fun q60 => ok_strings_IndexByte ([32, 9, 10, 59, 38, 124, 60, 62, 40, 41, 61, 33, 39, 34] : List UInt8) (at' x0 x23) _ (hy31 q60)) rfl [] rfl rfl (JO.reg ttOk 2 [] [] [(87, .v (.bool (bif (decide (x23 < (x0.length : Int))) then (decide (y30 < 0)) else false)))] _ rfl ⟨⟨rfl, trivial⟩, rfl⟩ (JO.done rfl ?_))
      refine JS.cond rfl (fun ht61 => ?_) (fun ht61 => ?_)
      · have h := condT h ht61
        refine JS.skip (JS.block (JS.re ttOk 3 [(W (x23 + 1))] [] [(11, .v (.int .i64 (W (x23 + 1))))] _ ⟨⟨trivial, rfl⟩, ⟨rfl, trivial⟩, rfl⟩ rfl rfl (JS.endB (JS.endL (n38, (W (x23 + 1))) h (Nat.lt_succ_self _) (Es rfl) (Bs rfl rfl) [] rfl [] rfl))))
      have h := condF h ht61
      refine JS.exit rfl (JS.endJ x23 h (Es rfl) (Bs rfl rfl) [] rfl [] rfl)
    rintro x42 h
    subst hj63
    refine JS.seq (JS.rg0 ttOk 3 [(92, .v (.bool (decide (x42 = (W (x1 + 1))))))] ⟨⟨rfl, trivial⟩, rfl⟩ rfl rfl ?_)
    refine JS.cond rfl (fun ht62 => ?_) (fun ht62 => ?_)
    · have h := condT h ht62
      refine JS.rgB ttOk 3 [] [] [(5, .v (.bool false))] (.new 1 42 [.int .i64 0, .int .i64 0, .string (bs []), .int .i64 0] .nil) ⟨⟨rfl, trivial⟩, (Bs rfl rfl)⟩ rfl rfl ?_
      cases h
      exact JS.ret ttOk () trivial rfl rfl [] rfl
    have h := condF h ht62
    refine JS.skip (JS.seq (JS.region ?_))
    obtain ⟨g47, h⟩ := guardO_some h
    refine JO.regB ttOk 8 [] [] [(5, .v (.bool true))] (.new 1 42 [.int .i64 4, .int .i64 0, .string (bs (sub' x0 (W (x1 + 1)) x42)), .int .i64 x42] .nil) rfl ⟨g47, ⟨rfl, trivial⟩, (Bs rfl rfl)⟩ (JO.done rfl ?_)
    cases h
    exact JS.ret ttOk () trivial rfl rfl [] rfl

def M_i_HistFind_L1 (x0 : Int × List (List UInt8)) (x1 : List UInt8) (x3 : Int) (x4 : Bool) (j48 : Unit → Option Int) (k40 : Int → Option Int) : Int → Option Int := fun x16 =>
  (bindO (M_i_in x16 x0.1 (W ((W (x0.1 + (x0.2.length : Int))) - 1))) fun (y21 : Bool) =>
  (bif y21 then
  (guardO (0 ≤ (W (x16 - x0.1)) ∧ (W (x16 - x0.1)) < (x0.2.length : Int)) <|
  (callO (x4 = true) (M_strings_HasPrefix (at' x0.2 (W (x16 - x0.1))) x1) false fun (y25 : Bool) =>
  (callO ((!x4) = true ∧ (bif x4 then y25 else false) = false) (M_strings_Contains (at' x0.2 (W (x16 - x0.1))) x1) false fun (y28 : Bool) =>
  (bif (bif (bif x4 then y25 else false) then true else (bif (!x4) then y28 else false)) then
  some x16
  else
  k40 (W (x16 + x3))))))
  else
  j48 ()))

def M_i_HistFind (x0 : Int × List (List UInt8)) (x1 : List UInt8) (x2 : Int) (x3 : Int) (x4 : Bool) : Option Int :=
  (bindO (M_i_HistOk x0) fun (y10 : Bool) =>
  (bif (bif (!y10) then true else (bif (!(decide (x3 = 1))) then (!(decide (x3 = (-1)))) else false)) then
  some 0
  else
  (joinO (fun (x13 : Int) =>
  (joinO (fun (_ : Unit) =>
  some 0) fun j48 =>
  (fixF (M_i_HistFind_L1 x0 x1 x3 x4 j48) FUEL x13))) fun j14 =>
  (bif (decide (x3 = 1)) then
  j14 (max x2 x0.1)
  else
  j14 (min x2 (W ((W (x0.1 + (x0.2.length : Int))) - 1)))))))

theorem ok_i_HistFind (x0 : Int × List (List UInt8)) (x1 : List UInt8) (x2 : Int) (x3 : Int) (x4 : Bool) (a6 : Option Addr) (c7 : Nat) (l8 : Nat) (hl9 : x0.2.length = l8) (gm0 : Int) (r : Int) (h : M_i_HistFind x0 x1 x2 x3 x4 = some r) :
    FC Tryd.prog 51 [.agg #[.int .i64 x0.1, .slice a6 l8 c7], .string (bs x1), .int .i64 x2, .int .i64 x3, .bool x4] [⟨.str, ⟨a6, l8, c7⟩, x0.2⟩, ⟨(.int .i64), ⟨(some ⟨0, 0, none⟩), 1, 1⟩, [gm0]⟩] (fun _ : Unit => True) (fun _ => .int .i64 r) (fun _ => []) :=
  by
    subst hl9
    refine FC.of (T := TTx) Tryd.call51 Tryd.func51 rfl rfl fun w0 => ?_
    unfold M_i_HistFind at h
    refine JS.rgB ttOk 2 [] [3] [(5, .bp 3 0)] (.new 3 28 [.int .i64 x0.1, .slice a6 x0.2.length c7] .nil) ⟨⟨rfl, trivial⟩, (Bs rfl rfl)⟩ rfl rfl (JS.seq (JS.seq (JS.region (JO.reg ttOk 1 [] [] [(14, .v (.agg #[.int .i64 x0.1, .slice a6 x0.2.length c7]))] _ rfl ⟨⟨rfl, trivial⟩, rfl⟩ ?_))))
    obtain ⟨y10, hy11, h⟩ := bindO_some h
    refine JO.call rfl rfl rfl rfl (ok_i_HistOk x0 a6 c7 x0.2.length rfl _ hy11) rfl [0] rfl rfl fun _ _ => JO.reg ttOk 9 [] [] [(24, .v (.bool (bif (!y10) then true else (bif (!(decide (x3 = 1))) then (!(decide (x3 = (-1)))) else false))))] _ rfl ⟨⟨rfl, trivial⟩, rfl⟩ (JO.done rfl ?_)
    refine JS.cond rfl (fun ht67 => ?_) (fun ht67 => ?_)
    · have h := condT h ht67
      refine JS.rg0 ttOk 1 [(10, .v (.int .i64 0))] ⟨⟨rfl, trivial⟩, rfl⟩ rfl rfl ?_
      cases h
      exact JS.ret ttOk () trivial rfl rfl [] rfl
    have h := condF h ht67
    refine JS.skip (JS.rg ttOk 8 [(W (x0.1 + (x0.2.length : Int))), (W ((W (x0.1 + (x0.2.length : Int))) - 1))] [] [(11, .v (.int .i64 (W ((W (x0.1 + (x0.2.length : Int))) - 1))))] _ ⟨⟨trivial, rfl⟩, ⟨trivial, rfl⟩, ⟨rfl, trivial⟩, rfl⟩ rfl rfl ?_)
    obtain ⟨j14, hj66, h⟩ := joinO_some h
    refine JS.seqJ (ι := Int) ⟨fun z => j14 z = some r, fun z => [(1, .v (.string (bs x1))), (2, .v (.int .i64 z)), (3, .v (.int .i64 x3)), (4, .v (.bool x4)), (5, .bp 3 0), (11, .v (.int .i64 (W ((W (x0.1 + (x0.2.length : Int))) - 1))))], fun z => (.new 3 28 [.int .i64 x0.1, .slice a6 x0.2.length c7] .nil), fun z => [⟨.str, ⟨a6, x0.2.length, c7⟩, x0.2⟩, ⟨(.int .i64), ⟨(some ⟨0, 0, none⟩), 1, 1⟩, [gm0]⟩], fun z => [], fun z => 0⟩ ?_ ?_
    · refine JS.rg0 ttOk 2 [(33, .v (.bool (decide (x3 = 1))))] ⟨⟨rfl, trivial⟩, rfl⟩ rfl rfl ?_
      refine JS.cond rfl (fun ht58 => ?_) (fun ht58 => ?_)
      · have h := condT h ht58
        refine JS.re0 ttOk 5 [(2, .v (.int .i64 (max x2 x0.1)))] ⟨⟨rfl, trivial⟩, rfl⟩ rfl rfl (JS.endJ (max x2 x0.1) h (Es rfl) (Bs rfl rfl) [0, 1] rfl [] rfl)
      have h := condF h ht58
      refine JS.re0 ttOk 4 [(2, .v (.int .i64 (min x2 (W ((W (x0.1 + (x0.2.length : Int))) - 1)))))] ⟨⟨rfl, trivial⟩, rfl⟩ rfl rfl (JS.endJ (min x2 (W ((W (x0.1 + (x0.2.length : Int))) - 1))) h (Es rfl) (Bs rfl rfl) [0, 1] rfl [] rfl)
    rintro x13 h
    subst hj66
    refine JS.seq (JS.rg0 ttOk 2 [(12, .v (.int .i64 x13))] ⟨⟨rfl, trivial⟩, rfl⟩ rfl rfl ?_)
    obtain ⟨j48, hj65, h⟩ := joinO_some h
    refine JS.blockJ (ι := Unit) ⟨fun _ => j48 () = some r, fun _ => [], fun _ => .nil, fun _ => [⟨(.int .i64), ⟨(some ⟨0, 0, none⟩), 1, 1⟩, [gm0]⟩], fun _ => [], fun _ => 0⟩ ?_ ?_
    · refine JS.loop (ι := Nat × Int) ⟨fun z => fixF (M_i_HistFind_L1 x0 x1 x3 x4 j48) z.1 z.2 = some r, fun z => [(1, .v (.string (bs x1))), (3, .v (.int .i64 x3)), (4, .v (.bool x4)), (5, .bp 3 0), (11, .v (.int .i64 (W ((W (x0.1 + (x0.2.length : Int))) - 1)))), (12, .v (.int .i64 z.2))], fun z => (.new 3 28 [.int .i64 x0.1, .slice a6 x0.2.length c7] .nil), fun z => [⟨.str, ⟨a6, x0.2.length, c7⟩, x0.2⟩, ⟨(.int .i64), ⟨(some ⟨0, 0, none⟩), 1, 1⟩, [gm0]⟩], fun z => [], fun z => z.1⟩ (FUEL, x13) h (Es rfl) (Bs rfl rfl) [0, 1] rfl [] rfl ?_
      rintro ⟨n41, x16⟩ h
      obtain ⟨n41, rfl, h⟩ := fixF_some h
      rw [M_i_HistFind_L1] at h
      refine JS.seq (JS.seq (JS.region (JO.reg ttOk 4 [] [] [(42, .v (.int .i64 x16)), (44, .v (.int .i64 x0.1)), (45, .v (.int .i64 (W ((W (x0.1 + (x0.2.length : Int))) - 1))))] _ rfl ⟨(Es rfl), rfl⟩ ?_)))
      obtain ⟨y21, hy22, h⟩ := bindO_some h
      refine JO.call rfl rfl rfl rfl (ok_i_in x16 x0.1 (W ((W (x0.1 + (x0.2.length : Int))) - 1)) _ hy22) rfl [] rfl rfl fun _ _ => JO.done rfl ?_
      refine JS.cond rfl (fun ht64 => ?_) (fun ht64 => ?_)
      · have h := condT h ht64
        refine JS.skip (JS.seq (JS.block (JS.seq (JS.region (JO.know 0 rfl fun hs59 => ?_)))))
        obtain ⟨g24, h⟩ := guardO_some h
        refine JO.reg ttOk 7 [(W (x16 - x0.1))] [] [(56, .ep ⟨a6, x0.2.length, c7⟩ (Int.toNat (W (x16 - x0.1)) * 1))] _ rfl ⟨⟨trivial, rfl⟩, hs59.ix g24, ⟨rfl, trivial⟩, rfl⟩ (JO.load ttOk rfl rfl rfl rfl rfl rfl rfl 0 rfl rfl (Int.toNat (W (x16 - x0.1))) 0 (at' x0.2 (W (x16 - x0.1))) ⟨at_some g24, rfl⟩ rfl rfl (JO.reg ttOk 1 [] [] [(13, .v (.string (bs (at' x0.2 (W (x16 - x0.1))))))] _ rfl ⟨⟨rfl, trivial⟩, rfl⟩ (JO.done rfl (JS.seq (JS.region (JO.reg ttOk 4 [] [] [(59, .v (.bool x4)), (60, .cd [(59, true)] (.v (.string (bs (at' x0.2 (W (x16 - x0.1))))))), (61, .cd [(59, true)] (.v (.string (bs x1))))] _ rfl ⟨(Es rfl), rfl⟩ ?_))))))
        obtain ⟨y25, hy26, -, h⟩ := callO_some h
        refine JO.callg rfl rfl rfl rfl (fun q60 => ok_strings_HasPrefix (at' x0.2 (W (x16 - x0.1))) x1 _ (hy26 q60)) rfl [] rfl rfl (JO.reg ttOk 7 [] [] [(64, .v (.bool (bif x4 then y25 else false))), (67, .cd [(64, false)] (.v (.bool (!x4)))), (68, .cd [(67, true), (64, false)] (.v (.string (bs (at' x0.2 (W (x16 - x0.1))))))), (69, .cd [(67, true), (64, false)] (.v (.string (bs x1))))] _ rfl ⟨(Es rfl), rfl⟩ ?_)
        obtain ⟨y28, hy29, -, h⟩ := callO_some h
        refine JO.callg rfl rfl rfl rfl (fun q61 q62 => ok_strings_Contains (at' x0.2 (W (x16 - x0.1))) x1 gm0 _ (hy29 ⟨q61, q62⟩)) rfl [1] rfl rfl (JO.reg ttOk 2 [] [] [(72, .v (.bool (bif (bif x4 then y25 else false) then true else (bif (!x4) then y28 else false))))] _ rfl ⟨⟨rfl, trivial⟩, rfl⟩ (JO.done rfl ?_))
        refine JS.cond rfl (fun ht63 => ?_) (fun ht63 => ?_)
        · have h := condT h ht63
          refine JS.rg0 ttOk 2 [(10, .v (.int .i64 x16))] ⟨⟨rfl, trivial⟩, rfl⟩ rfl rfl ?_
          cases h
          exact JS.ret ttOk () trivial rfl rfl [] rfl
        have h := condF h ht63
        refine JS.skip (JS.endB (JS.re ttOk 4 [(W (x16 + x3))] [] [(12, .v (.int .i64 (W (x16 + x3))))] _ ⟨⟨trivial, rfl⟩, ⟨rfl, trivial⟩, rfl⟩ rfl rfl (JS.endL (n41, (W (x16 + x3))) h (Nat.lt_succ_self _) (Es rfl) (Bs rfl rfl) [0, 1] rfl [] rfl)))
      have h := condF h ht64
      refine JS.exit rfl (JS.endJ () h trivial trivial [1] rfl [] rfl)
    rintro _ h
    subst hj65
    refine JS.rg0 ttOk 1 [(10, .v (.int .i64 0))] ⟨⟨rfl, trivial⟩, rfl⟩ rfl rfl ?_
    cases h
    exact JS.ret ttOk () trivial rfl rfl [] rfl

def M_i_RefLine (x0 : Int × List (List UInt8)) (x1 : Int × Int × List UInt8 × Int) : Option (List UInt8 × Bool) :=
  (bindO (M_i_HistLast x0) fun (y7 : Int) =>
  (bif (decide (x1.1 = 1)) then
  (bindO (M_i_HistGet x0 y7) fun (y9, y10) =>
  some (y9, y10))
  else
  (bif (decide (x1.1 = 2)) then
  (bindO (M_i_HistGet x0 x1.2.1) fun (y12, y13) =>
  some (y12, y13))
  else
  (bif (decide (x1.1 = 3)) then
  (bindO (M_i_in x1.2.1 1 60) fun (y15 : Bool) =>
  (bif (!y15) then
  some ([], false)
  else
  (bindO (M_i_HistGet x0 (W ((W (y7 + 1)) - x1.2.1))) fun (y17, y18) =>
  some (y17, y18))))
  else
  (bif (decide (x1.1 = 4)) then
  (bindO (M_i_HistFind x0 x1.2.2.1 y7 (-1) true) fun (y21 : Int) =>
  (bindO (M_i_HistGet x0 y21) fun (y23, y24) =>
  some (y23, y24)))
  else
  some ([], false))))))

theorem ok_i_RefLine (x0 : Int × List (List UInt8)) (x1 : Int × Int × List UInt8 × Int) (a3 : Option Addr) (c4 : Nat) (l5 : Nat) (hl6 : x0.2.length = l5) (gm0 : Int) (r : List UInt8 × Bool) (h : M_i_RefLine x0 x1 = some r) :
    FC Tryd.prog 33 [.agg #[.int .i64 x0.1, .slice a3 l5 c4], .agg #[.int .i64 x1.1, .int .i64 x1.2.1, .string (bs x1.2.2.1), .int .i64 x1.2.2.2]] [⟨.str, ⟨a3, l5, c4⟩, x0.2⟩, ⟨(.int .i64), ⟨(some ⟨0, 0, none⟩), 1, 1⟩, [gm0]⟩] (fun _ : Unit => True) (fun _ => .tuple #[.string (bs r.1), .bool r.2]) (fun _ => []) :=
  by
    subst hl6
    refine FC.of (T := TTx) Tryd.call33 Tryd.func33 rfl rfl fun w0 => ?_
    unfold M_i_RefLine at h
    refine JS.rgB ttOk 4 [] [3, 4] [(2, .bp 3 0), (3, .bp 4 0)] (.new 3 28 [.int .i64 x0.1, .slice a3 x0.2.length c4] (.new 4 42 [.int .i64 x1.1, .int .i64 x1.2.1, .string (bs x1.2.2.1), .int .i64 x1.2.2.2] .nil)) ⟨(Es rfl), (Bs rfl rfl)⟩ rfl rfl (JS.seq (JS.region (JO.reg ttOk 1 [] [] [(7, .v (.agg #[.int .i64 x0.1, .slice a3 x0.2.length c4]))] _ rfl ⟨⟨rfl, trivial⟩, rfl⟩ ?_)))
    obtain ⟨y7, hy8, h⟩ := bindO_some h
    refine JO.call rfl rfl rfl rfl (ok_i_HistLast x0 a3 c4 x0.2.length rfl _ hy8) rfl [0] rfl rfl fun _ _ => JO.reg ttOk 1 [] [] [(6, .v (.int .i64 y7))] _ rfl ⟨⟨rfl, trivial⟩, rfl⟩ (JO.done rfl (JS.seq (JS.rg0 ttOk 2 [(10, .v (.int .i64 x1.1))] ⟨⟨rfl, trivial⟩, rfl⟩ rfl rfl (JS.block (JS.rg0 ttOk 2 [(11, .v (.bool (decide (x1.1 = 1))))] ⟨⟨rfl, trivial⟩, rfl⟩ rfl rfl ?_)))))
    refine JS.cond rfl (fun ht34 => ?_) (fun ht34 => ?_)
    · have h := condT h ht34
      refine JS.seq (JS.region (JO.reg ttOk 2 [] [] [(13, .v (.agg #[.int .i64 x0.1, .slice a3 x0.2.length c4])), (14, .v (.int .i64 y7))] _ rfl ⟨(Es rfl), rfl⟩ ?_))
      obtain ⟨⟨y9, y10⟩, hy11, h⟩ := bindO_some h
      refine JO.call rfl rfl rfl rfl (ok_i_HistGet x0 y7 a3 c4 x0.2.length rfl _ hy11) rfl [0] rfl rfl fun _ _ => JO.reg ttOk 4 [] [] [(4, .v (.string (bs y9))), (5, .v (.bool y10))] _ rfl ⟨(Es rfl), rfl⟩ (JO.done rfl ?_)
      cases h
      exact JS.ret ttOk () trivial rfl rfl [] rfl
    have h := condF h ht34
    refine JS.rg0 ttOk 2 [(18, .v (.bool (decide (x1.1 = 2))))] ⟨⟨rfl, trivial⟩, rfl⟩ rfl rfl ?_
    refine JS.cond rfl (fun ht33 => ?_) (fun ht33 => ?_)
    · have h := condT h ht33
      refine JS.seq (JS.region (JO.reg ttOk 3 [] [] [(20, .v (.agg #[.int .i64 x0.1, .slice a3 x0.2.length c4])), (22, .v (.int .i64 x1.2.1))] _ rfl ⟨(Es rfl), rfl⟩ ?_))
      obtain ⟨⟨y12, y13⟩, hy14, h⟩ := bindO_some h
      refine JO.call rfl rfl rfl rfl (ok_i_HistGet x0 x1.2.1 a3 c4 x0.2.length rfl _ hy14) rfl [0] rfl rfl fun _ _ => JO.reg ttOk 4 [] [] [(4, .v (.string (bs y12))), (5, .v (.bool y13))] _ rfl ⟨(Es rfl), rfl⟩ (JO.done rfl ?_)
      cases h
      exact JS.ret ttOk () trivial rfl rfl [] rfl
    have h := condF h ht33
    refine JS.rg0 ttOk 2 [(26, .v (.bool (decide (x1.1 = 3))))] ⟨⟨rfl, trivial⟩, rfl⟩ rfl rfl ?_
    refine JS.cond rfl (fun ht32 => ?_) (fun ht32 => ?_)
    · have h := condT h ht32
      refine JS.seq (JS.seq (JS.region (JO.reg ttOk 2 [] [] [(29, .v (.int .i64 x1.2.1))] _ rfl ⟨⟨rfl, trivial⟩, rfl⟩ ?_)))
      obtain ⟨y15, hy16, h⟩ := bindO_some h
      refine JO.call rfl rfl rfl rfl (ok_i_in x1.2.1 1 60 _ hy16) rfl [] rfl rfl fun _ _ => JO.reg ttOk 1 [] [] [(31, .v (.bool (!y15)))] _ rfl ⟨⟨rfl, trivial⟩, rfl⟩ (JO.done rfl ?_)
      refine JS.cond rfl (fun ht30 => ?_) (fun ht30 => ?_)
      · have h := condT h ht30
        refine JS.rg0 ttOk 2 [(4, .v (.string (bs []))), (5, .v (.bool false))] ⟨(Es rfl), rfl⟩ rfl rfl ?_
        cases h
        exact JS.ret ttOk () trivial rfl rfl [] rfl
      have h := condF h ht30
      refine JS.skip (JS.seq (JS.region (JO.reg ttOk 6 [(W (y7 + 1)), (W ((W (y7 + 1)) - x1.2.1))] [] [(32, .v (.agg #[.int .i64 x0.1, .slice a3 x0.2.length c4])), (37, .v (.int .i64 (W ((W (y7 + 1)) - x1.2.1))))] _ rfl ⟨⟨trivial, rfl⟩, ⟨trivial, rfl⟩, (Es rfl), rfl⟩ ?_)))
      obtain ⟨⟨y17, y18⟩, hy19, h⟩ := bindO_some h
      refine JO.call rfl rfl rfl rfl (ok_i_HistGet x0 (W ((W (y7 + 1)) - x1.2.1)) a3 c4 x0.2.length rfl _ hy19) rfl [0] rfl rfl fun _ _ => JO.reg ttOk 4 [] [] [(4, .v (.string (bs y17))), (5, .v (.bool y18))] _ rfl ⟨(Es rfl), rfl⟩ (JO.done rfl ?_)
      cases h
      exact JS.ret ttOk () trivial rfl rfl [] rfl
    have h := condF h ht32
    refine JS.rg0 ttOk 2 [(41, .v (.bool (decide (x1.1 = 4))))] ⟨⟨rfl, trivial⟩, rfl⟩ rfl rfl ?_
    refine JS.cond rfl (fun ht31 => ?_) (fun ht31 => ?_)
    · have h := condT h ht31
      refine JS.seq ?_
      obtain ⟨y21, hy22, h⟩ := bindO_some h
      obtain ⟨⟨y23, y24⟩, hy25, h⟩ := bindO_some h
      refine JS.regionQ rfl (by kernel_rfl) (JQ.reg ttOk 5 [] [(43, .v (.agg #[.int .i64 x0.1, .slice a3 x0.2.length c4])), (44, .v (.agg #[.int .i64 x0.1, .slice a3 x0.2.length c4])), (46, .v (.string (bs x1.2.2.1))), (47, .v (.int .i64 y7))] rfl (Es rfl) (JQ.call rfl rfl rfl rfl (ok_i_HistFind x0 x1.2.2.1 y7 (-1) true a3 c4 x0.2.length rfl gm0 _ hy22) rfl [0, 1] rfl rfl (JQ.call rfl rfl rfl rfl (ok_i_HistGet x0 y21 a3 c4 x0.2.length rfl _ hy25) rfl [0] rfl rfl (JQ.reg ttOk 4 [] [(4, .v (.string (bs y23))), (5, .v (.bool y24))] rfl (Es rfl) (JQ.done rfl ?_)))))
      cases h
      exact JS.ret ttOk () trivial rfl rfl [] rfl
    have h := condF h ht31
    refine JS.skip (JS.endB (JS.rg0 ttOk 2 [(4, .v (.string (bs []))), (5, .v (.bool false))] ⟨(Es rfl), rfl⟩ rfl rfl ?_))
    cases h
    exact JS.ret ttOk () trivial rfl rfl [] rfl

def M_i_within (x0 : Int) (x1 : Int) : Option Int :=
  some (max (0 : Int) (min x0 x1))

theorem ok_i_within (x0 : Int) (x1 : Int) (r : Int) (h : M_i_within x0 x1 = some r) :
    FC Tryd.prog 50 [.int .i64 x0, .int .i64 x1] [] (fun _ : Unit => True) (fun _ => .int .i64 r) (fun _ => []) :=
  by
    refine FC.of (T := TTx) Tryd.call50 Tryd.func50 rfl rfl fun w0 => ?_
    unfold M_i_within at h
    refine JS.rg0 ttOk 1 [] ⟨trivial, rfl⟩ rfl rfl (JS.rg0 ttOk 5 [(4, .v (.int .i64 (max (0 : Int) (min x0 x1))))] ⟨⟨rfl, trivial⟩, rfl⟩ rfl rfl ?_)
    cases h
    exact JS.ret ttOk () trivial rfl rfl [] rfl

def M_i_SkipSingle (x0 : List UInt8) (x1 : Int) : Option Int :=
  (bindO (M_i_within x1 (x0.length : Int)) fun (y3 : Int) =>
  (guardO (0 ≤ y3 ∧ y3 ≤ (x0.length : Int) ∧ (x0.length : Int) ≤ (x0.length : Int)) <|
  (bindO (M_strings_IndexByte (sub' x0 y3 (x0.length : Int)) (39 : UInt8)) fun (y6 : Int) =>
  (bif (decide (y6 < 0)) then
  some (-1)
  else
  some (W ((W (y3 + y6)) + 1))))))

theorem ok_i_SkipSingle (x0 : List UInt8) (x1 : Int) (r : Int) (h : M_i_SkipSingle x0 x1 = some r) :
    FC Tryd.prog 32 [.string (bs x0), .int .i64 x1] [] (fun _ : Unit => True) (fun _ => .int .i64 r) (fun _ => []) :=
  by
    refine FC.of (T := TTx) Tryd.call32 Tryd.func32 rfl rfl fun w0 => ?_
    unfold M_i_SkipSingle at h
    refine JS.rg0 ttOk 1 [] ⟨trivial, rfl⟩ rfl rfl (JS.seq (JS.region (JO.reg ttOk 3 [] [] [(6, .v (.int .i64 x1)), (8, .v (.int .i64 (x0.length : Int)))] _ rfl ⟨(Es rfl), rfl⟩ ?_)))
    obtain ⟨y3, hy4, h⟩ := bindO_some h
    refine JO.call rfl rfl rfl rfl (ok_i_within x1 (x0.length : Int) _ hy4) rfl [] rfl rfl fun _ _ => JO.reg ttOk 1 [] [] [(1, .v (.int .i64 y3))] _ rfl ⟨⟨rfl, trivial⟩, rfl⟩ (JO.done rfl (JS.seq (JS.region ?_)))
    obtain ⟨g5, h⟩ := guardO_some h
    refine JO.reg ttOk 3 [] [] [(12, .v (.string (bs (sub' x0 y3 (x0.length : Int)))))] _ rfl ⟨g5, ⟨rfl, trivial⟩, rfl⟩ ?_
    obtain ⟨y6, hy7, h⟩ := bindO_some h
    refine JO.call rfl rfl rfl rfl (ok_strings_IndexByte (sub' x0 y3 (x0.length : Int)) (39 : UInt8) _ hy7) rfl [] rfl rfl fun _ _ => JO.reg ttOk 1 [] [] [(5, .v (.int .i64 y6))] _ rfl ⟨⟨rfl, trivial⟩, rfl⟩ (JO.done rfl (JS.seq (JS.rg0 ttOk 2 [(15, .v (.bool (decide (y6 < 0))))] ⟨⟨rfl, trivial⟩, rfl⟩ rfl rfl ?_)))
    refine JS.cond rfl (fun ht9 => ?_) (fun ht9 => ?_)
    · have h := condT h ht9
      refine JS.rg0 ttOk 1 [(4, .v (.int .i64 (-1)))] ⟨⟨rfl, trivial⟩, rfl⟩ rfl rfl ?_
      cases h
      exact JS.ret ttOk () trivial rfl rfl [] rfl
    have h := condF h ht9
    refine JS.skip (JS.rg ttOk 5 [(W (y3 + y6)), (W ((W (y3 + y6)) + 1))] [] [(4, .v (.int .i64 (W ((W (y3 + y6)) + 1))))] _ ⟨⟨trivial, rfl⟩, ⟨trivial, rfl⟩, ⟨rfl, trivial⟩, rfl⟩ rfl rfl ?_)
    cases h
    exact JS.ret ttOk () trivial rfl rfl [] rfl

def M_i_Expand_L1 (x1 : List UInt8) (x42 : Int) (j76 : (List UInt8) → Option (List UInt8 × Int × Int)) (k69 : (List UInt8 × Int) → Option (List UInt8 × Int × Int)) : (List UInt8 × Int) → Option (List UInt8 × Int × Int) := fun (x52, x55) =>
  (bif (decide (x55 < x42)) then
  (guardO (0 ≤ x55 ∧ x55 < (x1.length : Int)) <|
  (guardO (x52.length + ([(at' x1 x55)] : List UInt8).length ≤ 536870912) <|
  (bif (decide (1000 < ((x52 ++ ([(at' x1 x55)] : List UInt8)).length : Int))) then
  some ([], 4, x55)
  else
  k69 ((x52 ++ ([(at' x1 x55)] : List UInt8)), (W (x55 + 1))))))
  else
  j76 x52)

def M_i_Expand_L2 (x0 : Int × List (List UInt8)) (x1 : List UInt8) (j160 : (List UInt8) → Option (List UInt8 × Int × Int)) (k141 : (List UInt8 × Bool × Int) → Option (List UInt8 × Int × Int)) : (List UInt8 × Bool × Int) → Option (List UInt8 × Int × Int) := fun (x12, x15, x16) =>
  (bif (decide (x16 < (x1.length : Int))) then
  (joinO (fun ((x81, x84, x85) : List UInt8 × Bool × Int) =>
  k141 (x81, x84, x85)) fun j86 =>
  (guardO (0 ≤ x16 ∧ x16 < (x1.length : Int)) <|
  (joinO (fun ((x41, x42) : Bool × Int) =>
  (joinO (fun (x73 : List UInt8) =>
  j86 (x73, x41, x42)) fun j76 =>
  (fixF (M_i_Expand_L1 x1 x42 j76) FUEL (x12, x16)))) fun j43 =>
  (bif (decide (((at' x1 x16).toNat : Int) = (92 : Int))) then
  j43 (x15, (min (W (x16 + 2)) (x1.length : Int)))
  else
  (bif (decide (((at' x1 x16).toNat : Int) = (34 : Int))) then
  j43 ((!x15), (W (x16 + 1)))
  else
  (bif (bif (decide (((at' x1 x16).toNat : Int) = (39 : Int))) then (!x15) else false) then
  (bindO (M_i_SkipSingle x1 (W (x16 + 1))) fun (y22 : Int) =>
  (bif (decide (y22 < 0)) then
  j43 (x15, (x1.length : Int))
  else
  j43 (x15, y22)))
  else
  (bif (decide (((at' x1 x16).toNat : Int) = (33 : Int))) then
  (bindO (M_i_RefAt x1 x16) fun (y25, y26) =>
  (bif y26 then
  (bindO (M_i_RefLine x0 y25) fun (y28, y29) =>
  (bif (!y29) then
  some ([], 1, x16)
  else
  (guardO (x12.length + y28.length ≤ 536870912) <|
  (bif (decide (1000 < ((x12 ++ y28).length : Int))) then
  some ([], 4, x16)
  else
  j86 ((x12 ++ y28), x15, y25.2.2.2)))))
  else
  j43 (x15, (W (x16 + 1)))))
  else
  j43 (x15, (W (x16 + 1))))))))))
  else
  j160 x12)

def M_i_Expand (x0 : Int × List (List UInt8)) (x1 : List UInt8) : Option (List UInt8 × Int × Int) :=
  (bindO (M_strings_HasPrefix x1 ([94] : List UInt8)) fun (y7 : Bool) =>
  (bif y7 then
  (bindO (M_i_Caret x0 x1) fun (y9, y10) =>
  some (y9, y10, 0))
  else
  (joinO (fun (x157 : List UInt8) =>
  some (x157, 0, 0)) fun j160 =>
  (fixF (M_i_Expand_L2 x0 x1 j160) FUEL (([] : List UInt8), false, 0)))))

theorem ok_i_Expand (x0 : Int × List (List UInt8)) (x1 : List UInt8) (a3 : Option Addr) (c4 : Nat) (l5 : Nat) (hl6 : x0.2.length = l5) (gm0 : Int) (r : List UInt8 × Int × Int) (h : M_i_Expand x0 x1 = some r) :
    FC Tryd.prog 13 [.agg #[.int .i64 x0.1, .slice a3 l5 c4], .string (bs x1)] [⟨.str, ⟨a3, l5, c4⟩, x0.2⟩, ⟨(.int .i64), ⟨(some ⟨0, 0, none⟩), 1, 1⟩, [gm0]⟩] (fun _ : Unit => True) (fun _ => .tuple #[.string (bs r.1), .int .i64 r.2.1, .int .i64 r.2.2]) (fun _ => []) :=
  by
    subst hl6
    refine FC.of (T := TTx) Tryd.call13 Tryd.func13 rfl rfl fun w0 => ?_
    unfold M_i_Expand at h
    refine JS.rgB ttOk 4 [] [3] [(2, .bp 3 0)] (.new 3 28 [.int .i64 x0.1, .slice a3 x0.2.length c4] .nil) ⟨⟨rfl, trivial⟩, (Bs rfl rfl)⟩ rfl rfl (JS.seq (JS.seq (JS.region (JO.reg ttOk 1 [] [] [(20, .v (.string (bs x1)))] _ rfl ⟨⟨rfl, trivial⟩, rfl⟩ ?_))))
    obtain ⟨y7, hy8, h⟩ := bindO_some h
    refine JO.call rfl rfl rfl rfl (ok_strings_HasPrefix x1 ([94] : List UInt8) _ hy8) rfl [] rfl rfl fun _ _ => JO.done rfl ?_
    refine JS.cond rfl (fun ht192 => ?_) (fun ht192 => ?_)
    · have h := condT h ht192
      refine JS.seq (JS.region (JO.reg ttOk 2 [] [] [(23, .v (.agg #[.int .i64 x0.1, .slice a3 x0.2.length c4])), (24, .v (.string (bs x1)))] _ rfl ⟨(Es rfl), rfl⟩ ?_))
      obtain ⟨⟨y9, y10⟩, hy11, h⟩ := bindO_some h
      refine JO.call rfl rfl rfl rfl (ok_i_Caret x0 x1 a3 c4 x0.2.length rfl gm0 _ hy11) rfl [0, 1] rfl rfl fun _ _ => JO.reg ttOk 5 [] [] [(7, .v (.string (bs y9))), (8, .v (.int .i64 y10))] _ rfl ⟨(Es rfl), rfl⟩ (JO.done rfl (JS.rg0 ttOk 5 [(4, .v (.string (bs y9))), (5, .v (.int .i64 y10)), (6, .v (.int .i64 0))] ⟨(Es rfl), rfl⟩ rfl rfl ?_))
      cases h
      exact JS.ret ttOk () trivial rfl rfl [] rfl
    have h := condF h ht192
    refine JS.skip (JS.rg0 ttOk 1 [(9, .v (.slice none 0 0))] ⟨⟨rfl, trivial⟩, rfl⟩ rfl rfl (JS.rg0 ttOk 1 [(10, .v (.bool false))] ⟨⟨rfl, trivial⟩, rfl⟩ rfl rfl (JS.seq (JS.rg0 ttOk 1 [(11, .v (.int .i64 0))] ⟨⟨rfl, trivial⟩, rfl⟩ rfl rfl ?_))))
    obtain ⟨j160, hj191, h⟩ := joinO_some h
    refine JS.blockJ (ι := List UInt8 × Option Addr × Nat) ⟨fun z => j160 z.1 = some r, fun z => [(9, .v (.slice z.2.1 z.1.length z.2.2))], fun z => .nil, fun z => [⟨(.int .i64), ⟨(some ⟨0, 0, none⟩), 1, 1⟩, [gm0]⟩], fun z => [⟨.byte, ⟨z.2.1, z.1.length, z.2.2⟩, z.1⟩], fun z => 0⟩ ?_ ?_
    · refine JS.nilO .byte Sl.nil rfl rfl (JS.loop (ι := Nat × List UInt8 × Bool × Int × Option Addr × Nat) ⟨fun z => fixF (M_i_Expand_L2 x0 x1 j160) z.1 (z.2.1, z.2.2.1, z.2.2.2.1) = some r, fun z => [(1, .v (.string (bs x1))), (2, .bp 3 0), (9, .v (.slice z.2.2.2.2.1 z.2.1.length z.2.2.2.2.2)), (10, .v (.bool z.2.2.1)), (11, .v (.int .i64 z.2.2.2.1))], fun z => (.new 3 28 [.int .i64 x0.1, .slice a3 x0.2.length c4] .nil), fun z => [⟨.str, ⟨a3, x0.2.length, c4⟩, x0.2⟩, ⟨(.int .i64), ⟨(some ⟨0, 0, none⟩), 1, 1⟩, [gm0]⟩], fun z => [⟨.byte, ⟨z.2.2.2.2.1, z.2.1.length, z.2.2.2.2.2⟩, z.2.1⟩], fun z => z.1⟩ (FUEL, ([] : List UInt8), false, 0, none, 0) h (Es rfl) (Bs rfl rfl) [0, 1] rfl [0] rfl ?_)
      rintro ⟨n142, x12, x15, x16, a13, c14⟩ h
      obtain ⟨n142, rfl, h⟩ := fixF_some h
      rw [M_i_Expand_L2] at h
      refine JS.seq (JS.rg0 ttOk 4 [(33, .v (.bool (decide (x16 < (x1.length : Int)))))] ⟨⟨rfl, trivial⟩, rfl⟩ rfl rfl ?_)
      refine JS.cond rfl (fun ht190 => ?_) (fun ht190 => ?_)
      · have h := condT h ht190
        refine JS.skip ?_
        obtain ⟨j86, hj189, h⟩ := joinO_some h
        refine JS.blockJ (ι := List UInt8 × Bool × Int × Option Addr × Nat) ⟨fun z => j86 (z.1, z.2.1, z.2.2.1) = some r, fun z => [(1, .v (.string (bs x1))), (2, .bp 3 0), (9, .v (.slice z.2.2.2.1 z.1.length z.2.2.2.2)), (10, .v (.bool z.2.1)), (11, .v (.int .i64 z.2.2.1))], fun z => (.new 3 28 [.int .i64 x0.1, .slice a3 x0.2.length c4] .nil), fun z => [⟨.str, ⟨a3, x0.2.length, c4⟩, x0.2⟩, ⟨(.int .i64), ⟨(some ⟨0, 0, none⟩), 1, 1⟩, [gm0]⟩], fun z => [⟨.byte, ⟨z.2.2.2.1, z.1.length, z.2.2.2.2⟩, z.1⟩], fun z => 0⟩ ?_ ?_
        · refine JS.rg ttOk 5 [(W (x16 + 1))] [] [(12, .v (.int .i64 x16)), (13, .v (.int .i64 (W (x16 + 1))))] _ ⟨⟨trivial, rfl⟩, (Es rfl), rfl⟩ rfl rfl (JS.seq (JS.seq (JS.region ?_)))
          obtain ⟨g21, h⟩ := guardO_some h
          refine JO.reg ttOk 4 [] [] [(14, .v (.int .u8 ((at' x1 x16).toNat : Int)))] _ rfl ⟨g21, ⟨rfl, trivial⟩, rfl⟩ (JO.done rfl ?_)
          obtain ⟨j43, hj188, h⟩ := joinO_some h
          refine JS.blockJ (ι := Bool × Int) ⟨fun z => j43 (z.1, z.2) = some r, fun z => [(1, .v (.string (bs x1))), (2, .bp 3 0), (9, .v (.slice a13 x12.length c14)), (10, .v (.bool z.1)), (11, .v (.int .i64 x16)), (13, .v (.int .i64 z.2))], fun z => (.new 3 28 [.int .i64 x0.1, .slice a3 x0.2.length c4] .nil), fun z => [⟨.str, ⟨a3, x0.2.length, c4⟩, x0.2⟩, ⟨(.int .i64), ⟨(some ⟨0, 0, none⟩), 1, 1⟩, [gm0]⟩], fun z => [⟨.byte, ⟨a13, x12.length, c14⟩, x12⟩], fun z => 0⟩ ?_ ?_
          · refine JS.rg0 ttOk 3 [(40, .v (.bool (decide (((at' x1 x16).toNat : Int) = (92 : Int)))))] ⟨⟨rfl, trivial⟩, rfl⟩ rfl rfl ?_
            refine JS.cond rfl (fun ht184 => ?_) (fun ht184 => ?_)
            · have h := condT h ht184
              refine JS.re ttOk 6 [(W (x16 + 2))] [] [(13, .v (.int .i64 (min (W (x16 + 2)) (x1.length : Int))))] _ ⟨⟨trivial, rfl⟩, ⟨rfl, trivial⟩, rfl⟩ rfl rfl (JS.endB (JS.endJ (x15, (min (W (x16 + 2)) (x1.length : Int))) h (Es rfl) (Bs rfl rfl) [0, 1] rfl [0] rfl))
            have h := condF h ht184
            refine JS.rg0 ttOk 3 [(48, .v (.bool (decide (((at' x1 x16).toNat : Int) = (34 : Int)))))] ⟨⟨rfl, trivial⟩, rfl⟩ rfl rfl ?_
            refine JS.cond rfl (fun ht183 => ?_) (fun ht183 => ?_)
            · have h := condT h ht183
              refine JS.re0 ttOk 3 [(10, .v (.bool (!x15)))] ⟨⟨rfl, trivial⟩, rfl⟩ rfl rfl (JS.endB (JS.endJ ((!x15), (W (x16 + 1))) h (Es rfl) (Bs rfl rfl) [0, 1] rfl [0] rfl))
            have h := condF h ht183
            refine JS.rg0 ttOk 7 [(53, .v (.bool (bif (decide (((at' x1 x16).toNat : Int) = (39 : Int))) then (!x15) else false)))] ⟨⟨rfl, trivial⟩, rfl⟩ rfl rfl ?_
            refine JS.cond rfl (fun ht182 => ?_) (fun ht182 => ?_)
            · have h := condT h ht182
              refine JS.seq (JS.region (JO.reg ttOk 3 [(W (x16 + 1))] [] [(60, .v (.string (bs x1))), (62, .v (.int .i64 (W (x16 + 1))))] _ rfl ⟨⟨trivial, rfl⟩, (Es rfl), rfl⟩ ?_))
              obtain ⟨y22, hy23, h⟩ := bindO_some h
              refine JO.call rfl rfl rfl rfl (ok_i_SkipSingle x1 (W (x16 + 1)) _ hy23) rfl [] rfl rfl fun _ _ => JO.reg ttOk 1 [] [] [(13, .v (.int .i64 y22))] _ rfl ⟨⟨rfl, trivial⟩, rfl⟩ (JO.done rfl (JS.rg0 ttOk 2 [(65, .v (.bool (decide (y22 < 0))))] ⟨⟨rfl, trivial⟩, rfl⟩ rfl rfl ?_))
              refine JS.cond rfl (fun ht177 => ?_) (fun ht177 => ?_)
              · have h := condT h ht177
                refine JS.re0 ttOk 3 [(13, .v (.int .i64 (x1.length : Int)))] ⟨⟨rfl, trivial⟩, rfl⟩ rfl rfl (JS.endB (JS.endJ (x15, (x1.length : Int)) h (Es rfl) (Bs rfl rfl) [0, 1] rfl [0] rfl))
              have h := condF h ht177
              refine JS.skip (JS.endB (JS.endJ (x15, y22) h (Es rfl) (Bs rfl rfl) [0, 1] rfl [0] rfl))
            have h := condF h ht182
            refine JS.rg0 ttOk 3 [(68, .v (.bool (decide (((at' x1 x16).toNat : Int) = (33 : Int)))))] ⟨⟨rfl, trivial⟩, rfl⟩ rfl rfl ?_
            refine JS.cond rfl (fun ht181 => ?_) (fun ht181 => ?_)
            · have h := condT h ht181
              refine JS.seq (JS.region (JO.reg ttOk 2 [] [] [(72, .v (.string (bs x1))), (73, .v (.int .i64 x16))] _ rfl ⟨(Es rfl), rfl⟩ ?_))
              obtain ⟨⟨y25, y26⟩, hy27, h⟩ := bindO_some h
              refine JO.call rfl rfl rfl rfl (ok_i_RefAt x1 x16 _ hy27) rfl [] rfl rfl fun _ _ => JO.regB ttOk 6 [] [26] [(15, .bp 26 0), (16, .v (.bool y26))] (.new 3 28 [.int .i64 x0.1, .slice a3 x0.2.length c4] (.new 26 42 [.int .i64 y25.1, .int .i64 y25.2.1, .string (bs y25.2.2.1), .int .i64 y25.2.2.2] .nil)) rfl ⟨(Es rfl), (Bs rfl rfl)⟩ (JO.done rfl (JS.rg0 ttOk 1 [(77, .v (.bool y26))] ⟨⟨rfl, trivial⟩, rfl⟩ rfl rfl ?_))
              refine JS.cond rfl (fun ht180 => ?_) (fun ht180 => ?_)
              · have h := condT h ht180
                refine JS.seq (JS.region (JO.reg ttOk 2 [] [] [(79, .v (.agg #[.int .i64 x0.1, .slice a3 x0.2.length c4])), (80, .v (.agg #[.int .i64 y25.1, .int .i64 y25.2.1, .string (bs y25.2.2.1), .int .i64 y25.2.2.2]))] _ rfl ⟨(Es rfl), rfl⟩ ?_))
                obtain ⟨⟨y28, y29⟩, hy30, h⟩ := bindO_some h
                refine JO.call rfl rfl rfl rfl (ok_i_RefLine x0 y25 a3 c4 x0.2.length rfl gm0 _ hy30) rfl [0, 1] rfl rfl fun _ _ => JO.reg ttOk 5 [] [] [(17, .v (.string (bs y28))), (18, .v (.bool y29))] _ rfl ⟨(Es rfl), rfl⟩ (JO.done rfl (JS.seq (JS.rg0 ttOk 2 [(85, .v (.bool (!y29)))] ⟨⟨rfl, trivial⟩, rfl⟩ rfl rfl ?_)))
                refine JS.cond rfl (fun ht179 => ?_) (fun ht179 => ?_)
                · have h := condT h ht179
                  refine JS.rg0 ttOk 4 [(4, .v (.string (bs []))), (5, .v (.int .i64 1)), (6, .v (.int .i64 x16))] ⟨(Es rfl), rfl⟩ rfl rfl ?_
                  cases h
                  exact JS.ret ttOk () trivial rfl rfl [] rfl
                have h := condF h ht179
                refine JS.skip (JS.seq (JS.region (JO.reg ttOk 2 [] [] [(87, .v (.slice a13 x12.length c14)), (88, .v (.string (bs y28)))] _ rfl ⟨(Es rfl), rfl⟩ ?_)))
                obtain ⟨g31, h⟩ := guardO_some h
                refine JO.appendS' ttOk rfl rfl rfl rfl ⟨rfl, rfl, rfl, rfl, trivial, rfl, rfl, rfl, rfl⟩ rfl rfl [0] rfl g31 rfl fun a32 c33 => JO.reg ttOk 1 [] [] [(9, .v (.slice a32 (x12 ++ y28).length c33))] _ rfl ⟨⟨rfl, trivial⟩, rfl⟩ (JO.done rfl (JS.seq (JS.rg0 ttOk 3 [(92, .v (.bool (decide (1000 < ((x12 ++ y28).length : Int)))))] ⟨⟨rfl, trivial⟩, rfl⟩ rfl rfl ?_)))
                refine JS.cond rfl (fun ht178 => ?_) (fun ht178 => ?_)
                · have h := condT h ht178
                  refine JS.rg0 ttOk 4 [(4, .v (.string (bs []))), (5, .v (.int .i64 4)), (6, .v (.int .i64 x16))] ⟨(Es rfl), rfl⟩ rfl rfl ?_
                  cases h
                  exact JS.ret ttOk () trivial rfl rfl [] rfl
                have h := condF h ht178
                refine JS.skip (JS.rg0 ttOk 3 [(11, .v (.int .i64 y25.2.2.2))] ⟨⟨rfl, trivial⟩, rfl⟩ rfl rfl (JS.exit rfl (JS.endJ ((x12 ++ y28), x15, y25.2.2.2, a32, c33) h (Es rfl) (Bs rfl rfl) [0, 1] rfl [0] rfl)))
              have h := condF h ht180
              refine JS.skip (JS.endB (JS.endJ (x15, (W (x16 + 1))) h (Es rfl) (Bs rfl rfl) [0, 1] rfl [0] rfl))
            have h := condF h ht181
            refine JS.skip (JS.endB (JS.endJ (x15, (W (x16 + 1))) h (Es rfl) (Bs rfl rfl) [0, 1] rfl [0] rfl))
          rintro ⟨x41, x42⟩ h
          subst hj188
          refine JS.seq (JS.rg0 ttOk 2 [(19, .v (.int .i64 x16))] ⟨⟨rfl, trivial⟩, rfl⟩ rfl rfl ?_)
          obtain ⟨j76, hj187, h⟩ := joinO_some h
          refine JS.blockJ (ι := List UInt8 × Option Addr × Nat) ⟨fun z => j76 z.1 = some r, fun z => [(1, .v (.string (bs x1))), (2, .bp 3 0), (9, .v (.slice z.2.1 z.1.length z.2.2)), (10, .v (.bool x41)), (13, .v (.int .i64 x42))], fun z => (.new 3 28 [.int .i64 x0.1, .slice a3 x0.2.length c4] .nil), fun z => [⟨.str, ⟨a3, x0.2.length, c4⟩, x0.2⟩, ⟨(.int .i64), ⟨(some ⟨0, 0, none⟩), 1, 1⟩, [gm0]⟩], fun z => [⟨.byte, ⟨z.2.1, z.1.length, z.2.2⟩, z.1⟩], fun z => 0⟩ ?_ ?_
          · refine JS.loop (ι := Nat × List UInt8 × Int × Option Addr × Nat) ⟨fun z => fixF (M_i_Expand_L1 x1 x42 j76) z.1 (z.2.1, z.2.2.1) = some r, fun z => [(1, .v (.string (bs x1))), (2, .bp 3 0), (9, .v (.slice z.2.2.2.1 z.2.1.length z.2.2.2.2)), (10, .v (.bool x41)), (13, .v (.int .i64 x42)), (19, .v (.int .i64 z.2.2.1))], fun z => (.new 3 28 [.int .i64 x0.1, .slice a3 x0.2.length c4] .nil), fun z => [⟨.str, ⟨a3, x0.2.length, c4⟩, x0.2⟩, ⟨(.int .i64), ⟨(some ⟨0, 0, none⟩), 1, 1⟩, [gm0]⟩], fun z => [⟨.byte, ⟨z.2.2.2.1, z.2.1.length, z.2.2.2.2⟩, z.2.1⟩], fun z => z.1⟩ (FUEL, x12, x16, a13, c14) h (Es rfl) (Bs rfl rfl) [0, 1] rfl [0] rfl ?_
            rintro ⟨n70, x52, x55, a53, c54⟩ h
            obtain ⟨n70, rfl, h⟩ := fixF_some h
            rw [M_i_Expand_L1] at h
            refine JS.seq (JS.rg0 ttOk 3 [(99, .v (.bool (decide (x55 < x42))))] ⟨⟨rfl, trivial⟩, rfl⟩ rfl rfl ?_)
            refine JS.cond rfl (fun ht186 => ?_) (fun ht186 => ?_)
            · have h := condT h ht186
              refine JS.skip (JS.seq (JS.block (JS.seq (JS.region ?_))))
              obtain ⟨g60, h⟩ := guardO_some h
              refine JO.reg ttOk 4 [] [] [(102, .v (.slice a53 x52.length c54)), (105, .v (.int .u8 ((at' x1 x55).toNat : Int)))] _ rfl ⟨g60, (Es rfl), rfl⟩ ?_
              refine JO.ofK rfl (JK.buildSlice ttOk rfl rfl rfl rfl rfl rfl rfl rfl rfl rfl rfl [] rfl .byte [(at' x1 x55)] ⟨rfl, rfl⟩ rfl rfl fun a61 => JO.toK ?_)
              obtain ⟨g62, h⟩ := guardO_some h
              refine JO.appendR' ttOk rfl rfl rfl rfl ⟨rfl, rfl, rfl, rfl, trivial, rfl, rfl, rfl, rfl⟩ rfl rfl rfl [1] rfl 2 rfl g62 rfl fun a63 c64 => JO.reg ttOk 1 [] [] [(9, .v (.slice a63 (x52 ++ ([(at' x1 x55)] : List UInt8)).length c64))] _ rfl ⟨⟨rfl, trivial⟩, rfl⟩ (JO.done rfl (JS.rg0 ttOk 3 [(110, .v (.bool (decide (1000 < ((x52 ++ ([(at' x1 x55)] : List UInt8)).length : Int)))))] ⟨⟨rfl, trivial⟩, rfl⟩ rfl rfl ?_))
              refine JS.cond rfl (fun ht185 => ?_) (fun ht185 => ?_)
              · have h := condT h ht185
                refine JS.rg0 ttOk 4 [(4, .v (.string (bs []))), (5, .v (.int .i64 4)), (6, .v (.int .i64 x55))] ⟨(Es rfl), rfl⟩ rfl rfl ?_
                cases h
                exact JS.ret ttOk () trivial rfl rfl [] rfl
              have h := condF h ht185
              refine JS.skip (JS.endB (JS.re ttOk 3 [(W (x55 + 1))] [] [(19, .v (.int .i64 (W (x55 + 1))))] _ ⟨⟨trivial, rfl⟩, ⟨rfl, trivial⟩, rfl⟩ rfl rfl (JS.endL (n70, (x52 ++ ([(at' x1 x55)] : List UInt8)), (W (x55 + 1)), a63, c64) h (Nat.lt_succ_self _) (Es rfl) (Bs rfl rfl) [0, 1] rfl [0] rfl)))
            have h := condF h ht186
            refine JS.exit rfl (JS.endJ (x52, a53, c54) h (Es rfl) (Bs rfl rfl) [0, 1] rfl [0] rfl)
          rintro ⟨x73, a74, c75⟩ h
          subst hj187
          refine JS.re0 ttOk 2 [(11, .v (.int .i64 x42))] ⟨⟨rfl, trivial⟩, rfl⟩ rfl rfl (JS.endB (JS.endJ (x73, x41, x42, a74, c75) h (Es rfl) (Bs rfl rfl) [0, 1] rfl [0] rfl))
        rintro ⟨x81, x84, x85, a82, c83⟩ h
        subst hj189
        exact JS.endL (n142, x81, x84, x85, a82, c83) h (Nat.lt_succ_self _) (Es rfl) (Bs rfl rfl) [0, 1] rfl [0] rfl
      have h := condF h ht190
      refine JS.exit rfl (JS.endJ (x12, a13, c14) h ⟨rfl, trivial⟩ trivial [1] rfl [0] rfl)
    rintro ⟨x157, a158, c159⟩ h
    subst hj191
    refine JS.seq (JS.region (JO.reg ttOk 1 [] [] [(113, .v (.slice a158 x157.length c159))] _ rfl ⟨⟨rfl, trivial⟩, rfl⟩ (JO.strOf ttOk rfl rfl rfl rfl rfl rfl rfl rfl 1 rfl rfl (JO.reg ttOk 3 [] [] [(4, .v (.string (bs x157))), (5, .v (.int .i64 0)), (6, .v (.int .i64 0))] _ rfl ⟨(Es rfl), rfl⟩ (JO.done rfl ?_)))))
    cases h
    exact JS.ret ttOk () trivial rfl rfl [] rfl

def M_l_FnCaret (x0 : List UInt8) : Option Bool :=
  (bif (decide (1048576 < (x0.length : Int))) then
  some true
  else
  (bindO (M_s_MakeHist x0) fun (y6, y7) =>
  (bindO (M_i_HistAdd y6 y7) fun (y11, y12) =>
  (guardO (0 ≤ (0 : Int) ∧ (0 : Int) ≤ (1 : Int) ∧ (1 : Int) ≤ (y7.length : Int)) <|
  (guardO (((([94] : List UInt8).length + (sub' y7 0 (1 : Int)).length : Nat) : Int) ≤ 9223372036854775807) <|
  (guardO ((((([94] : List UInt8) ++ (sub' y7 0 (1 : Int))).length + ([94, 81, 94, 32, 101, 110, 100] : List UInt8).length : Nat) : Int) ≤ 9223372036854775807) <|
  (bindO (M_i_Caret y11 ((([94] : List UInt8) ++ (sub' y7 0 (1 : Int))) ++ ([94, 81, 94, 32, 101, 110, 100] : List UInt8))) fun (y19, y20) =>
  (bindO (M_i_Caret y11 ([94, 122, 122, 94, 121] : List UInt8)) fun (y22, y23) =>
  (guardO (0 ≤ (0 : Int) ∧ (0 : Int) ≤ (1 : Int) ∧ (1 : Int) ≤ (y7.length : Int)) <|
  (guardO (((([94] : List UInt8).length + (sub' y7 0 (1 : Int)).length : Nat) : Int) ≤ 9223372036854775807) <|
  (guardO ((((([94] : List UInt8) ++ (sub' y7 0 (1 : Int))).length + ([94, 81, 94, 32, 101, 110, 100] : List UInt8).length : Nat) : Int) ≤ 9223372036854775807) <|
  (bindO (M_i_Expand y11 ((([94] : List UInt8) ++ (sub' y7 0 (1 : Int))) ++ ([94, 81, 94, 32, 101, 110, 100] : List UInt8))) fun (y28, y29, y30) =>
  (guardO (((bif y12 then (decide (y20 = 0)) else false) = true) → 0 ≤ (1 : Int) ∧ (1 : Int) ≤ (y7.length : Int) ∧ (y7.length : Int) ≤ (y7.length : Int)) <|
  (guardO (((bif y12 then (decide (y20 = 0)) else false) = true) → ((([81] : List UInt8).length + (sub' y7 1 (y7.length : Int)).length : Nat) : Int) ≤ 9223372036854775807) <|
  (guardO (((bif y12 then (decide (y20 = 0)) else false) = true) → (((([81] : List UInt8) ++ (sub' y7 1 (y7.length : Int))).length + ([32, 101, 110, 100] : List UInt8).length : Nat) : Int) ≤ 9223372036854775807) <|
  some (bif (bif (bif (bif (bif y12 then (decide (y20 = 0)) else false) then (decide (y19 = ((([81] : List UInt8) ++ (sub' y7 1 (y7.length : Int))) ++ ([32, 101, 110, 100] : List UInt8)))) else false) then (decide (y23 = 3)) else false) then (decide (y29 = 0)) else false) then (decide (y28 = y19)) else false))))))))))))))))

theorem ok_l_FnCaret (x0 : List UInt8) (a2 : Option Addr) (c3 : Nat) (l4 : Nat) (hl5 : x0.length = l4) (gm0 : Int) (r : Bool) (h : M_l_FnCaret x0 = some r) :
    FC Tryd.prog 5 [.slice a2 l4 c3] [⟨.byte, ⟨a2, l4, c3⟩, x0⟩, ⟨(.int .i64), ⟨(some ⟨0, 0, none⟩), 1, 1⟩, [gm0]⟩] (fun _ : Unit => True) (fun _ => .bool r) (fun _ => []) :=
  by
    subst hl5
    refine FC.of (T := TTx) Tryd.call5 Tryd.func5 rfl rfl fun w0 => ?_
    unfold M_l_FnCaret at h
    refine JS.rg0 ttOk 1 [] ⟨trivial, rfl⟩ rfl rfl (JS.seq (JS.rg0 ttOk 3 [(15, .v (.bool (decide (1048576 < (x0.length : Int)))))] ⟨⟨rfl, trivial⟩, rfl⟩ rfl rfl ?_))
    refine JS.cond rfl (fun ht42 => ?_) (fun ht42 => ?_)
    · have h := condT h ht42
      refine JS.rg0 ttOk 1 [(2, .v (.bool true))] ⟨⟨rfl, trivial⟩, rfl⟩ rfl rfl ?_
      cases h
      exact JS.ret ttOk () trivial rfl rfl [] rfl
    have h := condF h ht42
    refine JS.skip (JS.seq (JS.region (JO.reg ttOk 1 [] [] [(17, .v (.slice a2 x0.length c3))] _ rfl ⟨⟨rfl, trivial⟩, rfl⟩ ?_)))
    obtain ⟨⟨y6, y7⟩, hy8, h⟩ := bindO_some h
    refine JO.call rfl rfl rfl rfl (ok_s_MakeHist x0 a2 c3 x0.length rfl _ hy8) rfl [0] rfl rfl ?_
    rintro ⟨a9, c10⟩ -
    refine JO.regB ttOk 6 [] [9] [(3, .bp 9 0), (4, .v (.string (bs y7)))] (.new 9 28 [.int .i64 y6.1, .slice a9 y6.2.length c10] .nil) rfl ⟨(Es rfl), (Bs rfl rfl)⟩ (JO.done rfl (JS.seq (JS.region (JO.reg ttOk 2 [] [] [(22, .v (.agg #[.int .i64 y6.1, .slice a9 y6.2.length c10])), (23, .v (.string (bs y7)))] _ rfl ⟨(Es rfl), rfl⟩ ?_))))
    obtain ⟨⟨y11, y12⟩, hy13, h⟩ := bindO_some h
    refine JO.call rfl rfl rfl rfl (ok_i_HistAdd y6 y7 a9 c10 y6.2.length rfl _ hy13) rfl [2] rfl rfl ?_
    rintro ⟨a14, c15⟩ -
    refine JO.regB ttOk 5 [] [] [(5, .v (.bool y12))] (.new 9 28 [.int .i64 y11.1, .slice a14 y11.2.length c15] .nil) rfl ⟨⟨rfl, trivial⟩, (Bs rfl rfl)⟩ (JO.done rfl (JS.seq ?_))
    obtain ⟨g16, h⟩ := guardO_some h
    obtain ⟨g17, h⟩ := guardO_some h
    obtain ⟨g18, h⟩ := guardO_some h
    obtain ⟨⟨y19, y20⟩, hy21, h⟩ := bindO_some h
    refine JS.regionQ rfl (by kernel_rfl) (JQ.reg ttOk 5 [] [(28, .v (.agg #[.int .i64 y11.1, .slice a14 y11.2.length c15])), (32, .v (.string (bs ((([94] : List UInt8) ++ (sub' y7 0 (1 : Int))) ++ ([94, 81, 94, 32, 101, 110, 100] : List UInt8)))))] rfl ⟨g16, g17, g18, (Es rfl)⟩ (JQ.call rfl rfl rfl rfl (ok_i_Caret y11 ((([94] : List UInt8) ++ (sub' y7 0 (1 : Int))) ++ ([94, 81, 94, 32, 101, 110, 100] : List UInt8)) a14 c15 y11.2.length rfl gm0 _ hy21) rfl [2, 1] rfl rfl (JQ.reg ttOk 5 [] [(6, .v (.string (bs y19))), (7, .v (.int .i64 y20))] rfl (Es rfl) (JQ.done rfl (JS.seq (JS.region (JO.reg ttOk 1 [] [] [(37, .v (.agg #[.int .i64 y11.1, .slice a14 y11.2.length c15]))] _ rfl ⟨⟨rfl, trivial⟩, rfl⟩ ?_)))))))
    obtain ⟨⟨y22, y23⟩, hy24, h⟩ := bindO_some h
    refine JO.call rfl rfl rfl rfl (ok_i_Caret y11 ([94, 122, 122, 94, 121] : List UInt8) a14 c15 y11.2.length rfl gm0 _ hy24) rfl [2, 1] rfl rfl fun _ _ => JO.reg ttOk 5 [] [] [(9, .v (.int .i64 y23))] _ rfl ⟨⟨rfl, trivial⟩, rfl⟩ (JO.done rfl (JS.seq ?_))
    obtain ⟨g25, h⟩ := guardO_some h
    obtain ⟨g26, h⟩ := guardO_some h
    obtain ⟨g27, h⟩ := guardO_some h
    obtain ⟨⟨y28, y29, y30⟩, hy31, h⟩ := bindO_some h
    refine JS.regionQ rfl (by kernel_rfl) (JQ.reg ttOk 5 [] [(42, .v (.agg #[.int .i64 y11.1, .slice a14 y11.2.length c15])), (46, .v (.string (bs ((([94] : List UInt8) ++ (sub' y7 0 (1 : Int))) ++ ([94, 81, 94, 32, 101, 110, 100] : List UInt8)))))] rfl ⟨g25, g26, g27, (Es rfl)⟩ (JQ.call rfl rfl rfl rfl (ok_i_Expand y11 ((([94] : List UInt8) ++ (sub' y7 0 (1 : Int))) ++ ([94, 81, 94, 32, 101, 110, 100] : List UInt8)) a14 c15 y11.2.length rfl gm0 _ hy31) rfl [2, 1] rfl rfl (JQ.reg ttOk 7 [] [(10, .v (.string (bs y28))), (11, .v (.int .i64 y29))] rfl (Es rfl) (JQ.done rfl (JS.seq (JS.region ?_))))))
    obtain ⟨g32, h⟩ := guardO_some h
    obtain ⟨g34, h⟩ := guardO_some h
    obtain ⟨g36, h⟩ := guardO_some h
    refine JO.reg ttOk 27 [] [] [(2, .v (.bool (bif (bif (bif (bif (bif y12 then (decide (y20 = 0)) else false) then (decide (y19 = ((([81] : List UInt8) ++ (sub' y7 1 (y7.length : Int))) ++ ([32, 101, 110, 100] : List UInt8)))) else false) then (decide (y23 = 3)) else false) then (decide (y29 = 0)) else false) then (decide (y28 = y19)) else false)))] _ rfl ⟨(fun q39 => (g32 q39)), (fun q40 => (g34 q40)), (fun q41 => (g36 q41)), ⟨rfl, trivial⟩, rfl⟩ (JO.done rfl ?_)
    cases h
    exact JS.ret ttOk () trivial rfl rfl [] rfl

end
end Go.Eng
