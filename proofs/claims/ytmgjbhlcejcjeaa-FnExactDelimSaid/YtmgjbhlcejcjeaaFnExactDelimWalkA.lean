/- The walks of the functions that FnExactDelim reaches: what each computes, as a plain function (M_..), and that the model computes it (ok_..). Condition of each: that the plain function answers. -/
import Derived.Test.YtmgjbhlcejcjeaaEngB
import Derived.Test.YtmgjbhlcejcjeaaChecked
import Derived.Lib.Strings
import Derived.Lib.Slices
import Derived.Lib.Walk
import Derived.Lib.Bytealg
set_option linter.unusedVariables false
set_option linter.unusedSimpArgs false
namespace Go.Proofs

set_option maxHeartbeats 1000000 in
set_option maxRecDepth 100000 in
/-- internal/stringslite.IndexByte (what strings.IndexByte calls): IT RETURNS 'Lib.indexByte s c'; the world is as it was. -/
theorem Try.stringslite_IndexByte (s : ByteArray) (c : Int) (w : World) :
    Calls Try.prog 12 #[.string s, .int .u8 c] w fun e w' => e = .returned (.int .i64 (Lib.indexByte s.data.toList c.toNat.toUInt8)) ∧ w' = w := by
  go_enter Try.func12, Try.ntmps12
  go_wp2
  rw [run_callFunc_extern Try.func14 (by kernel_rfl) (by kernel_rfl) (by kernel_rfl) (e := Extern.BytealgIndexByte.indexByte) (by kernel_rfl), Lib.run_indexByteString]
  simp only [Result.andThen]
  rw [Oper.upon_value]
  go_wp2
  go_ret
  exact ⟨rfl, rfl⟩

end Go.Proofs

namespace Go.Proofs

set_option maxHeartbeats 1000000 in
/-- strings.IndexByte: "IndexByte returns the index of the first instance of c in s, or -1 if c is not present in s.": IT RETURNS 'Lib.indexByte s c'; the world is as it was. -/
theorem Try.strings_IndexByte (s : ByteArray) (c : Int) (w : World) :
    Calls Try.prog 10 #[.string s, .int .u8 c] w fun e w' => e = .returned (.int .i64 (Lib.indexByte s.data.toList c.toNat.toUInt8)) ∧ w' = w := by
  go_enter Try.func10, Try.ntmps10
  go_wp2_with (go_at_call 12; refine (Try.stringslite_IndexByte _ _ _).mono ?_; rintro e w' ⟨rfl, rfl⟩)
  go_ret
  exact ⟨rfl, rfl⟩

end Go.Proofs

namespace Go.Proofs

set_option maxHeartbeats 2000000 in
set_option maxRecDepth 100000 in
/-- internal/stringslite.Index (what strings.Index calls) AT A substr OF ONE BYTE c: IT RETURNS 'Lib.indexByte s c'; the world is as it was. -/
theorem Try.stringslite_Index_one (s : ByteArray) (c : UInt8) (w : World) :
    Calls Try.prog 13 #[.string s, .string ⟨#[c]⟩] w fun e w' => e = .returned (.int .i64 (Lib.indexByte s.data.toList c)) ∧ w' = w := by
  go_enter Try.func13, Try.ntmps13
  go_wp2_with (go_at_call 12; refine (Try.stringslite_IndexByte _ _ _).mono ?_; rintro e w' ⟨rfl, rfl⟩)
  · have h : ([c] == s.toList) = true := by assumption
    go_ret
    refine ⟨?_, rfl⟩
    have e : s.data.toList = [c] := by rw [← Lib.toList_data]; exact (beq_iff_eq.1 h).symm
    rw [e]
    simp [Lib.indexByte]
  · go_ret
    exact ⟨rfl, rfl⟩

end Go.Proofs

namespace Go.Proofs

set_option maxHeartbeats 1000000 in
/-- strings.Index: "Index returns the index of the first instance of substr in s, or -1 if substr is not present in s.": AT A substr OF ONE BYTE c: IT RETURNS 'Lib.indexByte s c'; the world is as it was. -/
theorem Try.strings_Index_one (s : ByteArray) (c : UInt8) (w : World) :
    Calls Try.prog 11 #[.string s, .string ⟨#[c]⟩] w fun e w' => e = .returned (.int .i64 (Lib.indexByte s.data.toList c)) ∧ w' = w := by
  go_enter Try.func11, Try.ntmps11
  go_wp2_with (go_at_call 13; refine (Try.stringslite_Index_one _ _ _).mono ?_; rintro e w' ⟨rfl, rfl⟩)
  go_ret
  exact ⟨rfl, rfl⟩

end Go.Proofs

namespace Go.Proofs

set_option maxHeartbeats 1000000 in
/-- strings.Contains: "Contains reports whether substr is within s.": AT A substr OF ONE BYTE c: IT RETURNS 'decide (0 ≤ Lib.indexByte s c)'; the world is as it was. -/
theorem Try.strings_Contains_one (s : ByteArray) (c : UInt8) (w : World) :
    Calls Try.prog 8 #[.string s, .string ⟨#[c]⟩] w fun e w' => e = .returned (.bool (decide (0 ≤ Lib.indexByte s.data.toList c))) ∧ w' = w := by
  go_enter Try.func8, Try.ntmps8
  go_wp2_with (go_at_call 11; refine (Try.strings_Index_one _ _ _).mono ?_; rintro e w' ⟨rfl, rfl⟩)
  go_ret
  exact ⟨rfl, rfl⟩

end Go.Proofs

namespace Go.Eng
open Go Go.Proofs
noncomputable section

def TTx : TT := [
  (2, ⟨.int .i64, 1, 8, [.int .i64 0]⟩),
  (3, ⟨.int .i64, 1, 8, [.int .i64 0]⟩),
  (4, ⟨.bool, 1, 1, [.bool false]⟩),
  (5, ⟨.int .u8, 1, 1, [.int .u8 0]⟩),
  (6, ⟨.int .u8, 1, 1, [.int .u8 0]⟩),
  (7, ⟨.struct [(0, 2), (1, 3), (2, 4), (3, 6)], 4, 24, [.int .i64 0, .int .i64 0, .bool false, .int .u8 0]⟩),
  (8, ⟨.struct [(0, 2), (1, 3), (2, 4), (3, 6)], 4, 24, [.int .i64 0, .int .i64 0, .bool false, .int .u8 0]⟩),
  (9, ⟨.str, 1, 16, [.string ByteArray.empty]⟩),
  (10, ⟨.str, 1, 16, [.string ByteArray.empty]⟩),
  (11, ⟨.str, 1, 16, [.string ByteArray.empty]⟩),
  (12, ⟨.int .u64, 1, 8, [.int .u64 0]⟩),
  (13, ⟨.struct [(0, 9), (1, 12)], 2, 24, [.string ByteArray.empty, .int .u64 0]⟩),
  (14, ⟨.struct [(0, 9), (1, 12)], 2, 24, [.string ByteArray.empty, .int .u64 0]⟩),
  (21, ⟨.int .i32, 1, 4, [.int .i32 0]⟩),
  (25, ⟨.slice 5, 1, 24, [.slice none 0 0]⟩),
  (34, ⟨.int .u64, 1, 8, [.int .u64 0]⟩),
  (35, ⟨.int .u32, 1, 4, [.int .u32 0]⟩),
  (45, ⟨.int .u8, 1, 1, [.int .u8 0]⟩),
  (46, ⟨.int .u8, 1, 1, [.int .u8 0]⟩),
  (49, ⟨.int .i32, 1, 4, [.int .i32 0]⟩),
  (50, ⟨.int .i32, 1, 4, [.int .i32 0]⟩)]

theorem ttOk : TTok Try.prog TTx := TTok.of (by
  simp only [TTx, List.forall_mem_cons]
  exact ⟨⟨⟨_, _, rfl, rfl, rfl, rfl, rfl⟩, rfl⟩, ⟨⟨_, _, rfl, rfl, rfl, rfl, rfl⟩, rfl⟩, ⟨⟨_, _, rfl, rfl, rfl, rfl, rfl⟩, rfl⟩, ⟨⟨_, _, rfl, rfl, rfl, rfl, rfl⟩, rfl⟩, ⟨⟨_, _, rfl, rfl, rfl, rfl, rfl⟩, rfl⟩, ⟨⟨_, _, rfl, rfl, rfl, rfl, rfl⟩, ⟨_, rfl, rfl⟩⟩, ⟨⟨_, _, rfl, rfl, rfl, rfl, rfl⟩, ⟨_, rfl, rfl⟩⟩, ⟨⟨_, _, rfl, rfl, rfl, rfl, rfl⟩, rfl⟩, ⟨⟨_, _, rfl, rfl, rfl, rfl, rfl⟩, rfl⟩, ⟨⟨_, _, rfl, rfl, rfl, rfl, rfl⟩, rfl⟩, ⟨⟨_, _, rfl, rfl, rfl, rfl, rfl⟩, rfl⟩, ⟨⟨_, _, rfl, rfl, rfl, rfl, rfl⟩, ⟨_, rfl, rfl⟩⟩, ⟨⟨_, _, rfl, rfl, rfl, rfl, rfl⟩, ⟨_, rfl, rfl⟩⟩, ⟨⟨_, _, rfl, rfl, rfl, rfl, rfl⟩, rfl⟩, ⟨⟨_, _, rfl, rfl, rfl, rfl, rfl⟩, rfl⟩, ⟨⟨_, _, rfl, rfl, rfl, rfl, rfl⟩, rfl⟩, ⟨⟨_, _, rfl, rfl, rfl, rfl, rfl⟩, rfl⟩, ⟨⟨_, _, rfl, rfl, rfl, rfl, rfl⟩, rfl⟩, ⟨⟨_, _, rfl, rfl, rfl, rfl, rfl⟩, rfl⟩, ⟨⟨_, _, rfl, rfl, rfl, rfl, rfl⟩, rfl⟩, ⟨⟨_, _, rfl, rfl, rfl, rfl, rfl⟩, rfl⟩, by simp⟩)

def M_s_Delim_L1 (x0 : List UInt8) (j69 : (List UInt8 × UInt8) → Option (List UInt8 × Bool)) (k51 : (List UInt8 × UInt8 × Int) → Option (List UInt8 × Bool)) : (List UInt8 × UInt8 × Int) → Option (List UInt8 × Bool) := fun (x3, x6, x7) =>
  (bif (decide (x7 < (x0.length : Int))) then
  (guardO (0 ≤ x7 ∧ x7 < (x0.length : Int)) <|
  (joinO (fun (x11 : UInt8) =>
  (joinO (fun ((x34, x37, x38) : List UInt8 × UInt8 × Int) =>
  k51 (x34, x37, (W (x38 + 1)))) fun j39 =>
  (bif (decide ((x6.toNat : Int) = (39 : Int))) then
  (bif (decide (((at' x0 x7).toNat : Int) = (39 : Int))) then
  j39 (x3, (0 : UInt8), x7)
  else
  (guardO (x3.length + ([(at' x0 x7)] : List UInt8).length ≤ 536870912) <|
  j39 ((x3 ++ ([(at' x0 x7)] : List UInt8)), x6, x7)))
  else
  (bif (bif (decide (((at' x0 x7).toNat : Int) = (92 : Int))) then (decide ((W (x7 + 1)) = (x0.length : Int))) else false) then
  some ([], false)
  else
  (bif (bif (decide (((at' x0 x7).toNat : Int) = (92 : Int))) then (decide ((x11.toNat : Int) = (10 : Int))) else false) then
  j39 (x3, x6, (W (x7 + 1)))
  else
  (bif (bif (decide (((at' x0 x7).toNat : Int) = (92 : Int))) then (bif (bif (bif (bif (decide ((x6.toNat : Int) = (0 : Int))) then true else (decide ((x11.toNat : Int) = (36 : Int)))) then true else (decide ((x11.toNat : Int) = (34 : Int)))) then true else (decide ((x11.toNat : Int) = (92 : Int)))) then true else (decide ((x11.toNat : Int) = (96 : Int)))) else false) then
  (guardO (x3.length + ([x11] : List UInt8).length ≤ 536870912) <|
  j39 ((x3 ++ ([x11] : List UInt8)), x6, (W (x7 + 1))))
  else
  (bif (bif (decide (((at' x0 x7).toNat : Int) = (36 : Int))) then true else (decide (((at' x0 x7).toNat : Int) = (96 : Int)))) then
  some ([], false)
  else
  (bif (bif (bif (decide (((at' x0 x7).toNat : Int) = (34 : Int))) then (decide ((x6.toNat : Int) = (0 : Int))) else false) then true else (bif (decide (((at' x0 x7).toNat : Int) = (39 : Int))) then (decide ((x6.toNat : Int) = (0 : Int))) else false)) then
  j39 (x3, (at' x0 x7), x7)
  else
  (bif (decide (((at' x0 x7).toNat : Int) = (34 : Int))) then
  j39 (x3, (0 : UInt8), x7)
  else
  (guardO (x3.length + ([(at' x0 x7)] : List UInt8).length ≤ 536870912) <|
  j39 ((x3 ++ ([(at' x0 x7)] : List UInt8)), x6, x7))))))))))) fun j12 =>
  (bif (!(decide ((W (x7 + 1)) = (x0.length : Int)))) then
  (guardO (0 ≤ (W (x7 + 1)) ∧ (W (x7 + 1)) < (x0.length : Int)) <|
  j12 (at' x0 (W (x7 + 1))))
  else
  j12 (0 : UInt8))))
  else
  j69 (x3, x6))

def M_s_Delim_L2 (x65 : List UInt8) (j104 : (List UInt8) → Option (List UInt8 × Bool)) (k96 : Int → Option (List UInt8 × Bool)) : Int → Option (List UInt8 × Bool) := fun x88 =>
  (bif (decide (x88 < (x65.length : Int))) then
  (guardO (0 ≤ x88 ∧ x88 < (x65.length : Int)) <|
  (bif (decide (((at' x65 x88).toNat : Int) = (10 : Int))) then
  some ([], false)
  else
  k96 (W (x88 + 1))))
  else
  j104 x65)

def M_s_Delim (x0 : List UInt8) : Option (List UInt8 × Bool) :=
  (joinO (fun ((x65, x68) : List UInt8 × UInt8) =>
  (bif (!(decide ((x68.toNat : Int) = (0 : Int)))) then
  some ([], false)
  else
  (joinO (fun (x101 : List UInt8) =>
  some (x101, true)) fun j104 =>
  (fixF (M_s_Delim_L2 x65 j104) FUEL 0)))) fun j69 =>
  (fixF (M_s_Delim_L1 x0 j69) FUEL (([] : List UInt8), (0 : UInt8), 0)))

theorem ok_s_Delim (x0 : List UInt8) (r : List UInt8 × Bool) (h : M_s_Delim x0 = some r) :
    FC Try.prog 4 [.string (bs x0)] [] (fun _ : Unit => True) (fun _ => .tuple #[.string (bs r.1), .bool r.2]) (fun _ => []) :=
  by
    refine FC.of (T := TTx) Try.call4 Try.func4 rfl rfl fun w0 => ?_
    unfold M_s_Delim at h
    refine JS.seq ?_
    refine JS.region ?_
    refine JO.reg ttOk 2 [] [] [] _ rfl ⟨trivial, rfl⟩ ?_
    refine JO.done rfl ?_
    refine JS.seq ?_
    refine JS.region ?_
    refine JO.ofK rfl (JK.buildSlice ttOk rfl rfl rfl rfl rfl rfl rfl rfl rfl rfl rfl [] rfl .byte [] ⟨rfl, rfl⟩ rfl rfl fun a2 => JO.toK ?_)
    refine JO.reg ttOk 1 [] [] [(4, .v (.slice a2 ([] : List UInt8).length ([] : List UInt8).length))] _ rfl ⟨⟨rfl, trivial⟩, rfl⟩ ?_
    refine JO.done rfl ?_
    refine JS.seq ?_
    refine JS.region ?_
    refine JO.reg ttOk 1 [] [] [(5, .v (.int .u8 (0 : Int)))] _ rfl ⟨⟨rfl, trivial⟩, rfl⟩ ?_
    refine JO.done rfl ?_
    refine JS.seq ?_
    refine JS.seq ?_
    refine JS.region ?_
    refine JO.reg ttOk 1 [] [] [(6, .v (.int .i64 0))] _ rfl ⟨⟨rfl, trivial⟩, rfl⟩ ?_
    refine JO.done rfl ?_
    obtain ⟨j69, hj128, h⟩ := joinO_some h
    refine JS.blockJ (ι := List UInt8 × UInt8 × Option Addr × Nat) ⟨fun z => j69 (z.1, z.2.1) = some r, fun z => [(4, .v (.slice z.2.2.1 z.1.length z.2.2.2)), (5, .v (.int .u8 (z.2.1.toNat : Int)))], fun z => .nil, fun z => [], fun z => [⟨.byte, ⟨z.2.2.1, z.1.length, z.2.2.2⟩, z.1⟩], fun z => 0⟩ ?_ ?_
    · refine JS.loop (ι := Nat × List UInt8 × UInt8 × Int × Option Addr × Nat) ⟨fun z => fixF (M_s_Delim_L1 x0 j69) z.1 (z.2.1, z.2.2.1, z.2.2.2.1) = some r, fun z => [(0, .v (.string (bs x0))), (4, .v (.slice z.2.2.2.2.1 z.2.1.length z.2.2.2.2.2)), (5, .v (.int .u8 (z.2.2.1.toNat : Int))), (6, .v (.int .i64 z.2.2.2.1))], fun z => .nil, fun z => [], fun z => [⟨.byte, ⟨z.2.2.2.2.1, z.2.1.length, z.2.2.2.2.2⟩, z.2.1⟩], fun z => z.1⟩ (FUEL, ([] : List UInt8), (0 : UInt8), 0, a2, ([] : List UInt8).length) h ⟨rfl, rfl, rfl, rfl, trivial⟩ trivial [] rfl [0] rfl ?_
      rintro ⟨n52, x3, x6, x7, a4, c5⟩ h
      obtain ⟨n52, rfl, h⟩ := fixF_some h
      rw [M_s_Delim_L1] at h
      refine JS.seq ?_
      refine JS.seq ?_
      refine JS.region ?_
      refine JO.reg ttOk 4 [] [] [(16, .v (.bool (decide (x7 < (x0.length : Int)))))] _ rfl ⟨⟨rfl, trivial⟩, rfl⟩ ?_
      refine JO.done rfl ?_
      refine JS.cond rfl (fun ht122 => ?_) (fun ht122 => ?_)
      · have h := condT h ht122
        refine JS.skip ?_
        refine JS.seq ?_
        refine JS.block ?_
        refine JS.seq ?_
        refine JS.region ?_
        obtain ⟨g8, h⟩ := guardO_some h
        refine JO.reg ttOk 4 [] [] [(7, .v (.int .u8 ((at' x0 x7).toNat : Int)))] _ rfl ⟨g8, ⟨rfl, trivial⟩, rfl⟩ ?_
        refine JO.done rfl ?_
        refine JS.seq ?_
        refine JS.region ?_
        refine JO.reg ttOk 1 [] [] [(8, .v (.int .u8 (0 : Int)))] _ rfl ⟨⟨rfl, trivial⟩, rfl⟩ ?_
        refine JO.done rfl ?_
        refine JS.seq ?_
        refine JS.region ?_
        refine JO.reg ttOk 6 [(W (x7 + 1))] [] [(9, .v (.bool (decide ((W (x7 + 1)) = (x0.length : Int)))))] _ rfl ⟨⟨trivial, rfl⟩, ⟨rfl, trivial⟩, rfl⟩ ?_
        refine JO.done rfl ?_
        obtain ⟨j12, hj121, h⟩ := joinO_some h
        refine JS.seqJ (ι := UInt8) ⟨fun z => j12 z = some r, fun z => [(0, .v (.string (bs x0))), (4, .v (.slice a4 x3.length c5)), (5, .v (.int .u8 (x6.toNat : Int))), (6, .v (.int .i64 x7)), (7, .v (.int .u8 ((at' x0 x7).toNat : Int))), (8, .v (.int .u8 (z.toNat : Int))), (9, .v (.bool (decide ((W (x7 + 1)) = (x0.length : Int)))))], fun z => .nil, fun z => [], fun z => [⟨.byte, ⟨a4, x3.length, c5⟩, x3⟩], fun z => 0⟩ ?_ ?_
        · refine JS.seq ?_
          refine JS.region ?_
          refine JO.reg ttOk 2 [] [] [(28, .v (.bool (!(decide ((W (x7 + 1)) = (x0.length : Int))))))] _ rfl ⟨⟨rfl, trivial⟩, rfl⟩ ?_
          refine JO.done rfl ?_
          refine JS.cond rfl (fun ht111 => ?_) (fun ht111 => ?_)
          · have h := condT h ht111
            refine JS.region ?_
            obtain ⟨g9, h⟩ := guardO_some h
            refine JO.reg ttOk 5 [(W (x7 + 1))] [] [(8, .v (.int .u8 ((at' x0 (W (x7 + 1))).toNat : Int)))] _ rfl ⟨⟨trivial, rfl⟩, g9, ⟨rfl, trivial⟩, rfl⟩ ?_
            refine JO.done rfl ?_
            exact JS.endJ (at' x0 (W (x7 + 1))) h ⟨rfl, rfl, rfl, rfl, rfl, rfl, rfl, trivial⟩ trivial [] rfl [0] rfl
          · have h := condF h ht111
            refine JS.skip ?_
            exact JS.endJ (0 : UInt8) h ⟨rfl, rfl, rfl, rfl, rfl, rfl, rfl, trivial⟩ trivial [] rfl [0] rfl
        · rintro x11 h
          subst hj121
          obtain ⟨j39, hj120, h⟩ := joinO_some h
          refine JS.blockJ (ι := List UInt8 × UInt8 × Int × Option Addr × Nat) ⟨fun z => j39 (z.1, z.2.1, z.2.2.1) = some r, fun z => [(0, .v (.string (bs x0))), (4, .v (.slice z.2.2.2.1 z.1.length z.2.2.2.2)), (5, .v (.int .u8 (z.2.1.toNat : Int))), (6, .v (.int .i64 z.2.2.1))], fun z => .nil, fun z => [], fun z => [⟨.byte, ⟨z.2.2.2.1, z.1.length, z.2.2.2.2⟩, z.1⟩], fun z => 0⟩ ?_ ?_
          · refine JS.seq ?_
            refine JS.region ?_
            refine JO.reg ttOk 3 [] [] [(37, .v (.bool (decide ((x6.toNat : Int) = (39 : Int)))))] _ rfl ⟨⟨rfl, trivial⟩, rfl⟩ ?_
            refine JO.done rfl ?_
            refine JS.cond rfl (fun ht119 => ?_) (fun ht119 => ?_)
            · have h := condT h ht119
              refine JS.seq ?_
              refine JS.region ?_
              refine JO.reg ttOk 2 [] [] [(41, .v (.bool (decide (((at' x0 x7).toNat : Int) = (39 : Int)))))] _ rfl ⟨⟨rfl, trivial⟩, rfl⟩ ?_
              refine JO.done rfl ?_
              refine JS.cond rfl (fun ht112 => ?_) (fun ht112 => ?_)
              · have h := condT h ht112
                refine JS.region ?_
                refine JO.reg ttOk 1 [] [] [(5, .v (.int .u8 (0 : Int)))] _ rfl ⟨⟨rfl, trivial⟩, rfl⟩ ?_
                refine JO.done rfl ?_
                refine JS.endB ?_
                exact JS.endJ (x3, (0 : UInt8), x7, a4, c5) h ⟨rfl, rfl, rfl, rfl, trivial⟩ trivial [] rfl [0] rfl
              · have h := condF h ht112
                refine JS.region ?_
                refine JO.reg ttOk 2 [] [] [(42, .v (.slice a4 x3.length c5)), (43, .v (.int .u8 ((at' x0 x7).toNat : Int)))] _ rfl ⟨⟨rfl, rfl, trivial⟩, rfl⟩ ?_
                refine JO.ofK rfl (JK.buildSlice ttOk rfl rfl rfl rfl rfl rfl rfl rfl rfl rfl rfl [] rfl .byte [(at' x0 x7)] ⟨rfl, rfl⟩ rfl rfl fun a14 => JO.toK ?_)
                obtain ⟨g15, h⟩ := guardO_some h
                refine JO.appendR' ttOk rfl rfl rfl rfl ⟨rfl, rfl, rfl, rfl, trivial, rfl, rfl, rfl, rfl⟩ rfl rfl rfl [1] rfl 0 rfl g15 rfl ?_
                intro a16 c17
                refine JO.reg ttOk 1 [] [] [(4, .v (.slice a16 (x3 ++ ([(at' x0 x7)] : List UInt8)).length c17))] _ rfl ⟨⟨rfl, trivial⟩, rfl⟩ ?_
                refine JO.done rfl ?_
                refine JS.endB ?_
                exact JS.endJ ((x3 ++ ([(at' x0 x7)] : List UInt8)), x6, x7, a16, c17) h ⟨rfl, rfl, rfl, rfl, trivial⟩ trivial [] rfl [0] rfl
            · have h := condF h ht119
              refine JS.seq ?_
              refine JS.region ?_
              refine JO.reg ttOk 6 [] [] [(46, .v (.bool (bif (decide (((at' x0 x7).toNat : Int) = (92 : Int))) then (decide ((W (x7 + 1)) = (x0.length : Int))) else false)))] _ rfl ⟨⟨rfl, trivial⟩, rfl⟩ ?_
              refine JO.done rfl ?_
              refine JS.cond rfl (fun ht118 => ?_) (fun ht118 => ?_)
              · have h := condT h ht118
                refine JS.seq ?_
                refine JS.region ?_
                refine JO.reg ttOk 2 [] [] [(2, .v (.string (bs []))), (3, .v (.bool false))] _ rfl ⟨⟨rfl, rfl, trivial⟩, rfl⟩ ?_
                refine JO.done rfl ?_
                cases h
                exact JS.ret ttOk () trivial rfl rfl [] rfl
              · have h := condF h ht118
                refine JS.seq ?_
                refine JS.region ?_
                refine JO.reg ttOk 7 [] [] [(52, .v (.bool (bif (decide (((at' x0 x7).toNat : Int) = (92 : Int))) then (decide ((x11.toNat : Int) = (10 : Int))) else false)))] _ rfl ⟨⟨rfl, trivial⟩, rfl⟩ ?_
                refine JO.done rfl ?_
                refine JS.cond rfl (fun ht117 => ?_) (fun ht117 => ?_)
                · have h := condT h ht117
                  refine JS.region ?_
                  refine JO.reg ttOk 3 [(W (x7 + 1))] [] [(6, .v (.int .i64 (W (x7 + 1))))] _ rfl ⟨⟨trivial, rfl⟩, ⟨rfl, trivial⟩, rfl⟩ ?_
                  refine JO.done rfl ?_
                  refine JS.endB ?_
                  exact JS.endJ (x3, x6, (W (x7 + 1)), a4, c5) h ⟨rfl, rfl, rfl, rfl, trivial⟩ trivial [] rfl [0] rfl
                · have h := condF h ht117
                  refine JS.seq ?_
                  refine JS.region ?_
                  refine JO.reg ttOk 23 [] [] [(61, .v (.bool (bif (decide (((at' x0 x7).toNat : Int) = (92 : Int))) then (bif (bif (bif (bif (decide ((x6.toNat : Int) = (0 : Int))) then true else (decide ((x11.toNat : Int) = (36 : Int)))) then true else (decide ((x11.toNat : Int) = (34 : Int)))) then true else (decide ((x11.toNat : Int) = (92 : Int)))) then true else (decide ((x11.toNat : Int) = (96 : Int)))) else false)))] _ rfl ⟨⟨rfl, trivial⟩, rfl⟩ ?_
                  refine JO.done rfl ?_
                  refine JS.cond rfl (fun ht116 => ?_) (fun ht116 => ?_)
                  · have h := condT h ht116
                    refine JS.seq ?_
                    refine JS.region ?_
                    refine JO.reg ttOk 2 [] [] [(84, .v (.slice a4 x3.length c5)), (85, .v (.int .u8 (x11.toNat : Int)))] _ rfl ⟨⟨rfl, rfl, trivial⟩, rfl⟩ ?_
                    refine JO.ofK rfl (JK.buildSlice ttOk rfl rfl rfl rfl rfl rfl rfl rfl rfl rfl rfl [] rfl .byte [x11] ⟨rfl, rfl⟩ rfl rfl fun a19 => JO.toK ?_)
                    obtain ⟨g20, h⟩ := guardO_some h
                    refine JO.appendR' ttOk rfl rfl rfl rfl ⟨rfl, rfl, rfl, rfl, trivial, rfl, rfl, rfl, rfl⟩ rfl rfl rfl [1] rfl 0 rfl g20 rfl ?_
                    intro a21 c22
                    refine JO.reg ttOk 1 [] [] [(4, .v (.slice a21 (x3 ++ ([x11] : List UInt8)).length c22))] _ rfl ⟨⟨rfl, trivial⟩, rfl⟩ ?_
                    refine JO.done rfl ?_
                    refine JS.region ?_
                    refine JO.reg ttOk 3 [(W (x7 + 1))] [] [(6, .v (.int .i64 (W (x7 + 1))))] _ rfl ⟨⟨trivial, rfl⟩, ⟨rfl, trivial⟩, rfl⟩ ?_
                    refine JO.done rfl ?_
                    refine JS.endB ?_
                    exact JS.endJ ((x3 ++ ([x11] : List UInt8)), x6, (W (x7 + 1)), a21, c22) h ⟨rfl, rfl, rfl, rfl, trivial⟩ trivial [] rfl [0] rfl
                  · have h := condF h ht116
                    refine JS.seq ?_
                    refine JS.region ?_
                    refine JO.reg ttOk 7 [] [] [(90, .v (.bool (bif (decide (((at' x0 x7).toNat : Int) = (36 : Int))) then true else (decide (((at' x0 x7).toNat : Int) = (96 : Int))))))] _ rfl ⟨⟨rfl, trivial⟩, rfl⟩ ?_
                    refine JO.done rfl ?_
                    refine JS.cond rfl (fun ht115 => ?_) (fun ht115 => ?_)
                    · have h := condT h ht115
                      refine JS.seq ?_
                      refine JS.region ?_
                      refine JO.reg ttOk 2 [] [] [(2, .v (.string (bs []))), (3, .v (.bool false))] _ rfl ⟨⟨rfl, rfl, trivial⟩, rfl⟩ ?_
                      refine JO.done rfl ?_
                      cases h
                      exact JS.ret ttOk () trivial rfl rfl [] rfl
                    · have h := condF h ht115
                      refine JS.seq ?_
                      refine JS.region ?_
                      refine JO.reg ttOk 15 [] [] [(97, .v (.bool (bif (bif (decide (((at' x0 x7).toNat : Int) = (34 : Int))) then (decide ((x6.toNat : Int) = (0 : Int))) else false) then true else (bif (decide (((at' x0 x7).toNat : Int) = (39 : Int))) then (decide ((x6.toNat : Int) = (0 : Int))) else false))))] _ rfl ⟨⟨rfl, trivial⟩, rfl⟩ ?_
                      refine JO.done rfl ?_
                      refine JS.cond rfl (fun ht114 => ?_) (fun ht114 => ?_)
                      · have h := condT h ht114
                        refine JS.region ?_
                        refine JO.reg ttOk 2 [] [] [(5, .v (.int .u8 ((at' x0 x7).toNat : Int)))] _ rfl ⟨⟨rfl, trivial⟩, rfl⟩ ?_
                        refine JO.done rfl ?_
                        refine JS.endB ?_
                        exact JS.endJ (x3, (at' x0 x7), x7, a4, c5) h ⟨rfl, rfl, rfl, rfl, trivial⟩ trivial [] rfl [0] rfl
                      · have h := condF h ht114
                        refine JS.seq ?_
                        refine JS.region ?_
                        refine JO.reg ttOk 3 [] [] [(113, .v (.bool (decide (((at' x0 x7).toNat : Int) = (34 : Int)))))] _ rfl ⟨⟨rfl, trivial⟩, rfl⟩ ?_
                        refine JO.done rfl ?_
                        refine JS.cond rfl (fun ht113 => ?_) (fun ht113 => ?_)
                        · have h := condT h ht113
                          refine JS.region ?_
                          refine JO.reg ttOk 1 [] [] [(5, .v (.int .u8 (0 : Int)))] _ rfl ⟨⟨rfl, trivial⟩, rfl⟩ ?_
                          refine JO.done rfl ?_
                          refine JS.endB ?_
                          exact JS.endJ (x3, (0 : UInt8), x7, a4, c5) h ⟨rfl, rfl, rfl, rfl, trivial⟩ trivial [] rfl [0] rfl
                        · have h := condF h ht113
                          refine JS.region ?_
                          refine JO.reg ttOk 2 [] [] [(33, .v (.slice a4 x3.length c5)), (34, .v (.int .u8 ((at' x0 x7).toNat : Int)))] _ rfl ⟨⟨rfl, rfl, trivial⟩, rfl⟩ ?_
                          refine JO.ofK rfl (JK.buildSlice ttOk rfl rfl rfl rfl rfl rfl rfl rfl rfl rfl rfl [] rfl .byte [(at' x0 x7)] ⟨rfl, rfl⟩ rfl rfl fun a23 => JO.toK ?_)
                          obtain ⟨g24, h⟩ := guardO_some h
                          refine JO.appendR' ttOk rfl rfl rfl rfl ⟨rfl, rfl, rfl, rfl, trivial, rfl, rfl, rfl, rfl⟩ rfl rfl rfl [1] rfl 0 rfl g24 rfl ?_
                          intro a25 c26
                          refine JO.reg ttOk 1 [] [] [(4, .v (.slice a25 (x3 ++ ([(at' x0 x7)] : List UInt8)).length c26))] _ rfl ⟨⟨rfl, trivial⟩, rfl⟩ ?_
                          refine JO.done rfl ?_
                          refine JS.endB ?_
                          exact JS.endJ ((x3 ++ ([(at' x0 x7)] : List UInt8)), x6, x7, a25, c26) h ⟨rfl, rfl, rfl, rfl, trivial⟩ trivial [] rfl [0] rfl
          · rintro ⟨x34, x37, x38, a35, c36⟩ h
            subst hj120
            refine JS.endB ?_
            refine JS.region ?_
            refine JO.reg ttOk 3 [(W (x38 + 1))] [] [(6, .v (.int .i64 (W (x38 + 1))))] _ rfl ⟨⟨trivial, rfl⟩, ⟨rfl, trivial⟩, rfl⟩ ?_
            refine JO.done rfl ?_
            exact JS.endL (n52, x34, x37, (W (x38 + 1)), a35, c36) h (Nat.lt_succ_self _) ⟨rfl, rfl, rfl, rfl, trivial⟩ trivial [] rfl [0] rfl
      · have h := condF h ht122
        refine JS.exit rfl ?_
        exact JS.endJ (x3, x6, a4, c5) h ⟨rfl, rfl, trivial⟩ trivial [] rfl [0] rfl
    · rintro ⟨x65, x68, a66, c67⟩ h
      subst hj128
      refine JS.seq ?_
      refine JS.seq ?_
      refine JS.region ?_
      refine JO.reg ttOk 2 [] [] [(117, .v (.bool (!(decide ((x68.toNat : Int) = (0 : Int))))))] _ rfl ⟨⟨rfl, trivial⟩, rfl⟩ ?_
      refine JO.done rfl ?_
      refine JS.cond rfl (fun ht127 => ?_) (fun ht127 => ?_)
      · have h := condT h ht127
        refine JS.seq ?_
        refine JS.region ?_
        refine JO.reg ttOk 2 [] [] [(2, .v (.string (bs []))), (3, .v (.bool false))] _ rfl ⟨⟨rfl, rfl, trivial⟩, rfl⟩ ?_
        refine JO.done rfl ?_
        cases h
        exact JS.ret ttOk () trivial rfl rfl [] rfl
      · have h := condF h ht127
        refine JS.skip ?_
        refine JS.seq ?_
        refine JS.seq ?_
        refine JS.region ?_
        refine JO.reg ttOk 3 [] [] [(118, .v (.slice a66 x65.length c67)), (119, .v (.int .i64 (x65.length : Int))), (120, .v (.int .i64 0))] _ rfl ⟨⟨rfl, rfl, rfl, trivial⟩, rfl⟩ ?_
        refine JO.done rfl ?_
        obtain ⟨j104, hj126, h⟩ := joinO_some h
        refine JS.blockJ (ι := List UInt8 × Option Addr × Nat) ⟨fun z => j104 z.1 = some r, fun z => [(4, .v (.slice z.2.1 z.1.length z.2.2))], fun z => .nil, fun z => [], fun z => [⟨.byte, ⟨z.2.1, z.1.length, z.2.2⟩, z.1⟩], fun z => 0⟩ ?_ ?_
        · refine JS.loop (ι := Nat × Int) ⟨fun z => fixF (M_s_Delim_L2 x65 j104) z.1 z.2 = some r, fun z => [(4, .v (.slice a66 x65.length c67)), (118, .v (.slice a66 x65.length c67)), (119, .v (.int .i64 (x65.length : Int))), (120, .v (.int .i64 z.2))], fun z => .nil, fun z => [], fun z => [⟨.byte, ⟨a66, x65.length, c67⟩, x65⟩], fun z => z.1⟩ (FUEL, 0) h ⟨rfl, rfl, rfl, rfl, trivial⟩ trivial [] rfl [0] rfl ?_
          rintro ⟨n97, x88⟩ h
          obtain ⟨n97, rfl, h⟩ := fixF_some h
          rw [M_s_Delim_L2] at h
          refine JS.seq ?_
          refine JS.region ?_
          refine JO.reg ttOk 1 [] [] [(121, .v (.bool (decide (x88 < (x65.length : Int)))))] _ rfl ⟨⟨rfl, trivial⟩, rfl⟩ ?_
          refine JO.done rfl ?_
          refine JS.seq ?_
          refine JS.cond rfl (fun ht125 => ?_) (fun ht125 => ?_)
          · have h := condT h ht125
            refine JS.skip ?_
            refine JS.seq ?_
            refine JS.block ?_
            refine JS.seq ?_
            refine JS.region ?_
            refine JO.know 0 rfl fun hs123 => ?_
            obtain ⟨g90, h⟩ := guardO_some h
            refine JO.reg ttOk 1 [] [] [(122, .ep ⟨a66, x65.length, c67⟩ (Int.toNat x88 * 1))] _ rfl ⟨hs123.ix g90, ⟨rfl, trivial⟩, rfl⟩ ?_
            refine JO.load ttOk rfl rfl rfl rfl rfl rfl rfl 0 rfl rfl (Int.toNat x88) 0 (at' x65 x88) ⟨at_some g90, rfl⟩ rfl rfl ?_
            refine JO.reg ttOk 1 [] [] [(11, .v (.int .u8 ((at' x65 x88).toNat : Int)))] _ rfl ⟨⟨rfl, trivial⟩, rfl⟩ ?_
            refine JO.done rfl ?_
            refine JS.seq ?_
            refine JS.region ?_
            refine JO.reg ttOk 2 [] [] [(125, .v (.bool (decide (((at' x65 x88).toNat : Int) = (10 : Int)))))] _ rfl ⟨⟨rfl, trivial⟩, rfl⟩ ?_
            refine JO.done rfl ?_
            refine JS.cond rfl (fun ht124 => ?_) (fun ht124 => ?_)
            · have h := condT h ht124
              refine JS.seq ?_
              refine JS.region ?_
              refine JO.reg ttOk 2 [] [] [(2, .v (.string (bs []))), (3, .v (.bool false))] _ rfl ⟨⟨rfl, rfl, trivial⟩, rfl⟩ ?_
              refine JO.done rfl ?_
              cases h
              exact JS.ret ttOk () trivial rfl rfl [] rfl
            · have h := condF h ht124
              refine JS.skip ?_
              refine JS.endB ?_
              refine JS.region ?_
              refine JO.reg ttOk 2 [(W (x88 + 1))] [] [(120, .v (.int .i64 (W (x88 + 1))))] _ rfl ⟨⟨trivial, rfl⟩, ⟨rfl, trivial⟩, rfl⟩ ?_
              refine JO.done rfl ?_
              exact JS.endL (n97, (W (x88 + 1))) h (Nat.lt_succ_self _) ⟨rfl, rfl, rfl, rfl, trivial⟩ trivial [] rfl [0] rfl
          · have h := condF h ht125
            refine JS.exit rfl ?_
            exact JS.endJ (x65, a66, c67) h ⟨rfl, trivial⟩ trivial [] rfl [0] rfl
        · rintro ⟨x101, a102, c103⟩ h
          subst hj126
          refine JS.seq ?_
          refine JS.region ?_
          refine JO.reg ttOk 1 [] [] [(127, .v (.slice a102 x101.length c103))] _ rfl ⟨⟨rfl, trivial⟩, rfl⟩ ?_
          refine JO.strOf ttOk rfl rfl rfl rfl rfl rfl rfl rfl 0 rfl rfl ?_
          refine JO.reg ttOk 2 [] [] [(2, .v (.string (bs x101))), (3, .v (.bool true))] _ rfl ⟨⟨rfl, rfl, trivial⟩, rfl⟩ ?_
          refine JO.done rfl ?_
          cases h
          exact JS.ret ttOk () trivial rfl rfl [] rfl

def M_i_quoted_L1 (x0 : List UInt8) (j65 : Unit → Option (List UInt8 × Int)) (k53 : (List UInt8 × Int) → Option (List UInt8 × Int)) : (List UInt8 × Int) → Option (List UInt8 × Int) := fun (x8, x11) =>
  (bif (decide (x11 < (x0.length : Int))) then
  (guardO (0 ≤ x11 ∧ x11 < (x0.length : Int)) <|
  (joinO (fun ((x38, x41) : List UInt8 × Int) =>
  k53 (x38, (W (x41 + 1)))) fun j42 =>
  (bif (decide (((at' x0 x11).toNat : Int) = (34 : Int))) then
  some (x8, (W (x11 + 1)))
  else
  (joinO (fun (x14 : Bool) =>
  (bif x14 then
  some ([], (-1))
  else
  (bif (decide (((at' x0 x11).toNat : Int) = (92 : Int))) then
  (bif (decide ((W (x11 + 1)) = (x0.length : Int))) then
  some ([], (-1))
  else
  (guardO (0 ≤ (W (x11 + 1)) ∧ (W (x11 + 1)) < (x0.length : Int)) <|
  (bif (bif (bif (bif (decide (((at' x0 (W (x11 + 1))).toNat : Int) = (36 : Int))) then true else (decide (((at' x0 (W (x11 + 1))).toNat : Int) = (34 : Int)))) then true else (decide (((at' x0 (W (x11 + 1))).toNat : Int) = (92 : Int)))) then true else (decide (((at' x0 (W (x11 + 1))).toNat : Int) = (96 : Int)))) then
  (guardO (x8.length + ([(at' x0 (W (x11 + 1)))] : List UInt8).length ≤ 536870912) <|
  j42 ((x8 ++ ([(at' x0 (W (x11 + 1)))] : List UInt8)), (W (x11 + 1))))
  else
  (bif (!(decide (((at' x0 (W (x11 + 1))).toNat : Int) = (10 : Int)))) then
  (guardO (x8.length + ([(92 : UInt8), (at' x0 (W (x11 + 1)))] : List UInt8).length ≤ 536870912) <|
  j42 ((x8 ++ ([(92 : UInt8), (at' x0 (W (x11 + 1)))] : List UInt8)), (W (x11 + 1))))
  else
  j42 (x8, (W (x11 + 1)))))))
  else
  (guardO (0 ≤ x11 ∧ x11 < (x0.length : Int)) <|
  (guardO (x8.length + ([(at' x0 x11)] : List UInt8).length ≤ 536870912) <|
  j42 ((x8 ++ ([(at' x0 x11)] : List UInt8)), x11)))))) fun j15 =>
  (bif (decide (((at' x0 x11).toNat : Int) = (36 : Int))) then
  j15 (decide (((at' x0 x11).toNat : Int) = (36 : Int)))
  else
  j15 (decide (((at' x0 x11).toNat : Int) = (96 : Int))))))))
  else
  j65 ())

def M_i_quoted (x0 : List UInt8) (x1 : Int) (x2 : List UInt8) : Option (List UInt8 × Int) :=
  (joinO (fun (_ : Unit) =>
  some ([], (-1))) fun j65 =>
  (fixF (M_i_quoted_L1 x0 j65) FUEL (x2, x1)))

theorem ok_i_quoted (x0 : List UInt8) (x1 : Int) (x2 : List UInt8) (a4 : Option Addr) (c5 : Nat) (l6 : Nat) (hl7 : x2.length = l6) (r : List UInt8 × Int) (h : M_i_quoted x0 x1 x2 = some r) :
    FX Try.prog 7 [.string (bs x0), .int .i64 x1, .slice a4 l6 c5] [] [⟨.byte, ⟨a4, l6, c5⟩, x2⟩] (fun _ : Option Addr × Nat => True) (fun q => .tuple #[.slice q.1 r.1.length q.2, .int .i64 r.2]) (fun q => [⟨.byte, ⟨q.1, r.1.length, q.2⟩, r.1⟩]) :=
  by
    subst hl7
    refine FX.of (T := TTx) Try.call7 Try.func7 rfl rfl fun w0 L0 => ?_
    unfold M_i_quoted at h
    refine JS.seq ?_
    refine JS.region ?_
    refine JO.reg ttOk 2 [] [] [] _ rfl ⟨trivial, rfl⟩ ?_
    refine JO.done rfl ?_
    refine JS.seq ?_
    refine JS.seq ?_
    refine JS.region ?_
    refine JO.reg ttOk 2 [] [] [(8, .v (.int .i64 x1))] _ rfl ⟨⟨rfl, trivial⟩, rfl⟩ ?_
    refine JO.done rfl ?_
    obtain ⟨j65, hj87, h⟩ := joinO_some h
    refine JS.blockJ (ι := Unit) ⟨fun _ => j65 () = some r, fun _ => [], fun _ => .nil, fun _ => [], fun _ => [], fun _ => 0⟩ ?_ ?_
    · refine JS.loop (ι := Nat × List UInt8 × Int × Option Addr × Nat) ⟨fun z => fixF (M_i_quoted_L1 x0 j65) z.1 (z.2.1, z.2.2.1) = some r, fun z => [(0, .v (.string (bs x0))), (2, .v (.slice z.2.2.2.1 z.2.1.length z.2.2.2.2)), (8, .v (.int .i64 z.2.2.1))], fun z => .nil, fun z => [], fun z => [⟨.byte, ⟨z.2.2.2.1, z.2.1.length, z.2.2.2.2⟩, z.2.1⟩], fun z => z.1⟩ (FUEL, x2, x1, a4, c5) h ⟨rfl, rfl, rfl, trivial⟩ trivial [] rfl [0] rfl ?_
      rintro ⟨n54, x8, x11, a9, c10⟩ h
      obtain ⟨n54, rfl, h⟩ := fixF_some h
      rw [M_i_quoted_L1] at h
      refine JS.seq ?_
      refine JS.seq ?_
      refine JS.region ?_
      refine JO.reg ttOk 4 [] [] [(14, .v (.bool (decide (x11 < (x0.length : Int)))))] _ rfl ⟨⟨rfl, trivial⟩, rfl⟩ ?_
      refine JO.done rfl ?_
      refine JS.cond rfl (fun ht86 => ?_) (fun ht86 => ?_)
      · have h := condT h ht86
        refine JS.skip ?_
        refine JS.seq ?_
        refine JS.block ?_
        refine JS.seq ?_
        refine JS.region ?_
        obtain ⟨g12, h⟩ := guardO_some h
        refine JO.reg ttOk 3 [] [] [(19, .v (.int .u8 ((at' x0 x11).toNat : Int)))] _ rfl ⟨g12, ⟨rfl, trivial⟩, rfl⟩ ?_
        refine JO.done rfl ?_
        obtain ⟨j42, hj85, h⟩ := joinO_some h
        refine JS.blockJ (ι := List UInt8 × Int × Option Addr × Nat) ⟨fun z => j42 (z.1, z.2.1) = some r, fun z => [(0, .v (.string (bs x0))), (2, .v (.slice z.2.2.1 z.1.length z.2.2.2)), (8, .v (.int .i64 z.2.1))], fun z => .nil, fun z => [], fun z => [⟨.byte, ⟨z.2.2.1, z.1.length, z.2.2.2⟩, z.1⟩], fun z => 0⟩ ?_ ?_
        · refine JS.seq ?_
          refine JS.region ?_
          refine JO.reg ttOk 2 [] [] [(26, .v (.bool (decide (((at' x0 x11).toNat : Int) = (34 : Int)))))] _ rfl ⟨⟨rfl, trivial⟩, rfl⟩ ?_
          refine JO.done rfl ?_
          refine JS.cond rfl (fun ht84 => ?_) (fun ht84 => ?_)
          · have h := condT h ht84
            refine JS.seq ?_
            refine JS.region ?_
            refine JO.reg ttOk 5 [(W (x11 + 1))] [] [(6, .v (.slice a9 x8.length c10)), (7, .v (.int .i64 (W (x11 + 1))))] _ rfl ⟨⟨trivial, rfl⟩, ⟨rfl, rfl, trivial⟩, rfl⟩ ?_
            refine JO.done rfl ?_
            cases h
            exact JS.retX ttOk (a9, c10) trivial rfl rfl [0] rfl
          · have h := condF h ht84
            obtain ⟨j15, hj83, h⟩ := joinO_some h
            refine JS.seqJ (ι := Bool) ⟨fun z => j15 z = some r, fun z => [(0, .v (.string (bs x0))), (2, .v (.slice a9 x8.length c10)), (8, .v (.int .i64 x11)), (19, .v (.int .u8 ((at' x0 x11).toNat : Int))), (31, .v (.bool z))], fun z => .nil, fun z => [], fun z => [⟨.byte, ⟨a9, x8.length, c10⟩, x8⟩], fun z => 0⟩ ?_ ?_
            · refine JS.seq ?_
              refine JS.region ?_
              refine JO.reg ttOk 2 [] [] [(31, .v (.bool (decide (((at' x0 x11).toNat : Int) = (36 : Int)))))] _ rfl ⟨⟨rfl, trivial⟩, rfl⟩ ?_
              refine JO.done rfl ?_
              refine JS.cond rfl (fun ht77 => ?_) (fun ht77 => ?_)
              · have h := condT h ht77
                refine JS.skip ?_
                exact JS.endJ (decide (((at' x0 x11).toNat : Int) = (36 : Int))) h ⟨rfl, rfl, rfl, rfl, rfl, trivial⟩ trivial [] rfl [0] rfl
              · have h := condF h ht77
                refine JS.region ?_
                refine JO.reg ttOk 2 [] [] [(31, .v (.bool (decide (((at' x0 x11).toNat : Int) = (96 : Int)))))] _ rfl ⟨⟨rfl, trivial⟩, rfl⟩ ?_
                refine JO.done rfl ?_
                exact JS.endJ (decide (((at' x0 x11).toNat : Int) = (96 : Int))) h ⟨rfl, rfl, rfl, rfl, rfl, trivial⟩ trivial [] rfl [0] rfl
            · rintro x14 h
              subst hj83
              refine JS.cond rfl (fun ht82 => ?_) (fun ht82 => ?_)
              · have h := condT h ht82
                refine JS.seq ?_
                refine JS.region ?_
                refine JO.reg ttOk 2 [] [] [(6, .v (.slice none 0 0)), (7, .v (.int .i64 (-1)))] _ rfl ⟨⟨rfl, rfl, trivial⟩, rfl⟩ ?_
                refine JO.done rfl ?_
                cases h
                refine JS.nilO .byte Sl.nil rfl rfl ?_
                exact JS.retX ttOk (none, 0) trivial rfl rfl [0] rfl
              · have h := condF h ht82
                refine JS.seq ?_
                refine JS.region ?_
                refine JO.reg ttOk 2 [] [] [(34, .v (.bool (decide (((at' x0 x11).toNat : Int) = (92 : Int)))))] _ rfl ⟨⟨rfl, trivial⟩, rfl⟩ ?_
                refine JO.done rfl ?_
                refine JS.cond rfl (fun ht81 => ?_) (fun ht81 => ?_)
                · have h := condT h ht81
                  refine JS.seq ?_
                  refine JS.region ?_
                  refine JO.reg ttOk 3 [(W (x11 + 1))] [] [(8, .v (.int .i64 (W (x11 + 1))))] _ rfl ⟨⟨trivial, rfl⟩, ⟨rfl, trivial⟩, rfl⟩ ?_
                  refine JO.done rfl ?_
                  refine JS.seq ?_
                  refine JS.seq ?_
                  refine JS.region ?_
                  refine JO.reg ttOk 4 [] [] [(41, .v (.bool (decide ((W (x11 + 1)) = (x0.length : Int)))))] _ rfl ⟨⟨rfl, trivial⟩, rfl⟩ ?_
                  refine JO.done rfl ?_
                  refine JS.cond rfl (fun ht80 => ?_) (fun ht80 => ?_)
                  · have h := condT h ht80
                    refine JS.seq ?_
                    refine JS.region ?_
                    refine JO.reg ttOk 2 [] [] [(6, .v (.slice none 0 0)), (7, .v (.int .i64 (-1)))] _ rfl ⟨⟨rfl, rfl, trivial⟩, rfl⟩ ?_
                    refine JO.done rfl ?_
                    cases h
                    refine JS.nilO .byte Sl.nil rfl rfl ?_
                    exact JS.retX ttOk (none, 0) trivial rfl rfl [0] rfl
                  · have h := condF h ht80
                    refine JS.skip ?_
                    refine JS.seq ?_
                    refine JS.region ?_
                    obtain ⟨g17, h⟩ := guardO_some h
                    refine JO.reg ttOk 4 [] [] [(9, .v (.int .u8 ((at' x0 (W (x11 + 1))).toNat : Int)))] _ rfl ⟨g17, ⟨rfl, trivial⟩, rfl⟩ ?_
                    refine JO.done rfl ?_
                    refine JS.seq ?_
                    refine JS.region ?_
                    refine JO.reg ttOk 14 [] [] [(58, .v (.bool (bif (bif (bif (decide (((at' x0 (W (x11 + 1))).toNat : Int) = (36 : Int))) then true else (decide (((at' x0 (W (x11 + 1))).toNat : Int) = (34 : Int)))) then true else (decide (((at' x0 (W (x11 + 1))).toNat : Int) = (92 : Int)))) then true else (decide (((at' x0 (W (x11 + 1))).toNat : Int) = (96 : Int))))))] _ rfl ⟨⟨rfl, trivial⟩, rfl⟩ ?_
                    refine JO.done rfl ?_
                    refine JS.cond rfl (fun ht79 => ?_) (fun ht79 => ?_)
                    · have h := condT h ht79
                      refine JS.region ?_
                      refine JO.reg ttOk 2 [] [] [(59, .v (.slice a9 x8.length c10)), (60, .v (.int .u8 ((at' x0 (W (x11 + 1))).toNat : Int)))] _ rfl ⟨⟨rfl, rfl, trivial⟩, rfl⟩ ?_
                      refine JO.ofK rfl (JK.buildSlice ttOk rfl rfl rfl rfl rfl rfl rfl rfl rfl rfl rfl [] rfl .byte [(at' x0 (W (x11 + 1)))] ⟨rfl, rfl⟩ rfl rfl fun a18 => JO.toK ?_)
                      obtain ⟨g19, h⟩ := guardO_some h
                      refine JO.appendR' ttOk rfl rfl rfl rfl ⟨rfl, rfl, rfl, rfl, trivial, rfl, rfl, rfl, rfl⟩ rfl rfl rfl [1] rfl 0 rfl g19 rfl ?_
                      intro a20 c21
                      refine JO.reg ttOk 1 [] [] [(2, .v (.slice a20 (x8 ++ ([(at' x0 (W (x11 + 1)))] : List UInt8)).length c21))] _ rfl ⟨⟨rfl, trivial⟩, rfl⟩ ?_
                      refine JO.done rfl ?_
                      refine JS.endB ?_
                      exact JS.endJ ((x8 ++ ([(at' x0 (W (x11 + 1)))] : List UInt8)), (W (x11 + 1)), a20, c21) h ⟨rfl, rfl, rfl, trivial⟩ trivial [] rfl [0] rfl
                    · have h := condF h ht79
                      refine JS.seq ?_
                      refine JS.region ?_
                      refine JO.reg ttOk 2 [] [] [(64, .v (.bool (!(decide (((at' x0 (W (x11 + 1))).toNat : Int) = (10 : Int))))))] _ rfl ⟨⟨rfl, trivial⟩, rfl⟩ ?_
                      refine JO.done rfl ?_
                      refine JS.cond rfl (fun ht78 => ?_) (fun ht78 => ?_)
                      · have h := condT h ht78
                        refine JS.region ?_
                        refine JO.reg ttOk 2 [] [] [(65, .v (.slice a9 x8.length c10)), (66, .v (.int .u8 ((at' x0 (W (x11 + 1))).toNat : Int)))] _ rfl ⟨⟨rfl, rfl, trivial⟩, rfl⟩ ?_
                        refine JO.ofK rfl (JK.buildSlice ttOk rfl rfl rfl rfl rfl rfl rfl rfl rfl rfl rfl [] rfl .byte [(92 : UInt8), (at' x0 (W (x11 + 1)))] ⟨rfl, rfl⟩ rfl rfl fun a22 => JO.toK ?_)
                        obtain ⟨g23, h⟩ := guardO_some h
                        refine JO.appendR' ttOk rfl rfl rfl rfl ⟨rfl, rfl, rfl, rfl, trivial, rfl, rfl, rfl, rfl⟩ rfl rfl rfl [1] rfl 0 rfl g23 rfl ?_
                        intro a24 c25
                        refine JO.reg ttOk 1 [] [] [(2, .v (.slice a24 (x8 ++ ([(92 : UInt8), (at' x0 (W (x11 + 1)))] : List UInt8)).length c25))] _ rfl ⟨⟨rfl, trivial⟩, rfl⟩ ?_
                        refine JO.done rfl ?_
                        refine JS.endB ?_
                        exact JS.endJ ((x8 ++ ([(92 : UInt8), (at' x0 (W (x11 + 1)))] : List UInt8)), (W (x11 + 1)), a24, c25) h ⟨rfl, rfl, rfl, trivial⟩ trivial [] rfl [0] rfl
                      · have h := condF h ht78
                        refine JS.skip ?_
                        refine JS.endB ?_
                        exact JS.endJ (x8, (W (x11 + 1)), a9, c10) h ⟨rfl, rfl, rfl, trivial⟩ trivial [] rfl [0] rfl
                · have h := condF h ht81
                  refine JS.region ?_
                  obtain ⟨g29, h⟩ := guardO_some h
                  refine JO.reg ttOk 4 [] [] [(20, .v (.slice a9 x8.length c10)), (23, .v (.int .u8 ((at' x0 x11).toNat : Int)))] _ rfl ⟨g29, ⟨rfl, rfl, trivial⟩, rfl⟩ ?_
                  refine JO.ofK rfl (JK.buildSlice ttOk rfl rfl rfl rfl rfl rfl rfl rfl rfl rfl rfl [] rfl .byte [(at' x0 x11)] ⟨rfl, rfl⟩ rfl rfl fun a30 => JO.toK ?_)
                  obtain ⟨g31, h⟩ := guardO_some h
                  refine JO.appendR' ttOk rfl rfl rfl rfl ⟨rfl, rfl, rfl, rfl, trivial, rfl, rfl, rfl, rfl⟩ rfl rfl rfl [1] rfl 0 rfl g31 rfl ?_
                  intro a32 c33
                  refine JO.reg ttOk 1 [] [] [(2, .v (.slice a32 (x8 ++ ([(at' x0 x11)] : List UInt8)).length c33))] _ rfl ⟨⟨rfl, trivial⟩, rfl⟩ ?_
                  refine JO.done rfl ?_
                  refine JS.endB ?_
                  exact JS.endJ ((x8 ++ ([(at' x0 x11)] : List UInt8)), x11, a32, c33) h ⟨rfl, rfl, rfl, trivial⟩ trivial [] rfl [0] rfl
        · rintro ⟨x38, x41, a39, c40⟩ h
          subst hj85
          refine JS.endB ?_
          refine JS.region ?_
          refine JO.reg ttOk 3 [(W (x41 + 1))] [] [(8, .v (.int .i64 (W (x41 + 1))))] _ rfl ⟨⟨trivial, rfl⟩, ⟨rfl, trivial⟩, rfl⟩ ?_
          refine JO.done rfl ?_
          exact JS.endL (n54, x38, (W (x41 + 1)), a39, c40) h (Nat.lt_succ_self _) ⟨rfl, rfl, rfl, trivial⟩ trivial [] rfl [0] rfl
      · have h := condF h ht86
        refine JS.exit rfl ?_
        exact JS.endJ () h trivial trivial [] rfl [] rfl
    · rintro _ h
      subst hj87
      refine JS.seq ?_
      refine JS.region ?_
      refine JO.reg ttOk 2 [] [] [(6, .v (.slice none 0 0)), (7, .v (.int .i64 (-1)))] _ rfl ⟨⟨rfl, rfl, trivial⟩, rfl⟩ ?_
      refine JO.done rfl ?_
      cases h
      refine JS.nilO .byte Sl.nil rfl rfl ?_
      exact JS.retX ttOk (none, 0) trivial rfl rfl [0] rfl

def M_i_within (x0 : Int) (x1 : Int) : Option Int :=
  some (max (0 : Int) (min x0 x1))

theorem ok_i_within (x0 : Int) (x1 : Int) (r : Int) (h : M_i_within x0 x1 = some r) :
    FC Try.prog 9 [.int .i64 x0, .int .i64 x1] [] (fun _ : Unit => True) (fun _ => .int .i64 r) (fun _ => []) :=
  by
    refine FC.of (T := TTx) Try.call9 Try.func9 rfl rfl fun w0 => ?_
    unfold M_i_within at h
    refine JS.seq ?_
    refine JS.region ?_
    refine JO.reg ttOk 1 [] [] [] _ rfl ⟨trivial, rfl⟩ ?_
    refine JO.done rfl ?_
    refine JS.seq ?_
    refine JS.region ?_
    refine JO.reg ttOk 5 [] [] [(4, .v (.int .i64 (max (0 : Int) (min x0 x1))))] _ rfl ⟨⟨rfl, trivial⟩, rfl⟩ ?_
    refine JO.done rfl ?_
    cases h
    exact JS.ret ttOk () trivial rfl rfl [] rfl

def M_strings_IndexByte (x0 : List UInt8) (x1 : UInt8) : Option Int := some (Lib.indexByte x0 x1)

theorem ok_strings_IndexByte (x0 : List UInt8) (x1 : UInt8) (r : Int) (h : M_strings_IndexByte x0 x1 = some r) : FV Try.prog 10 [.string (bs x0), .int .u8 (x1.toNat : Int)] [] (.int .i64 r) := by
  cases h
  refine FV.of_calls Try.call10 fun w => ?_
  have := Try.strings_IndexByte (bs x0) (x1.toNat : Int) w
  rw [u8_byte] at this
  exact this

def M_i_SkipSingle (x0 : List UInt8) (x1 : Int) : Option Int :=
  (bindO (M_i_within x1 (x0.length : Int)) fun (y3 : Int) =>
  (guardO (0 ≤ y3 ∧ y3 ≤ (x0.length : Int) ∧ (x0.length : Int) ≤ (x0.length : Int)) <|
  (bindO (M_strings_IndexByte (sub' x0 y3 (x0.length : Int)) (39 : UInt8)) fun (y6 : Int) =>
  (bif (decide (y6 < 0)) then
  some (-1)
  else
  some (W ((W (y3 + y6)) + 1))))))

theorem ok_i_SkipSingle (x0 : List UInt8) (x1 : Int) (r : Int) (h : M_i_SkipSingle x0 x1 = some r) :
    FC Try.prog 6 [.string (bs x0), .int .i64 x1] [] (fun _ : Unit => True) (fun _ => .int .i64 r) (fun _ => []) :=
  by
    refine FC.of (T := TTx) Try.call6 Try.func6 rfl rfl fun w0 => ?_
    unfold M_i_SkipSingle at h
    refine JS.seq ?_
    refine JS.region ?_
    refine JO.reg ttOk 1 [] [] [] _ rfl ⟨trivial, rfl⟩ ?_
    refine JO.done rfl ?_
    refine JS.seq ?_
    refine JS.region ?_
    refine JO.reg ttOk 3 [] [] [(6, .v (.int .i64 x1)), (8, .v (.int .i64 (x0.length : Int)))] _ rfl ⟨⟨rfl, rfl, trivial⟩, rfl⟩ ?_
    obtain ⟨y3, hy4, h⟩ := bindO_some h
    refine JO.call rfl rfl rfl rfl (ok_i_within x1 (x0.length : Int) _ hy4) rfl [] rfl rfl ?_
    intro _ _
    refine JO.reg ttOk 1 [] [] [(1, .v (.int .i64 y3))] _ rfl ⟨⟨rfl, trivial⟩, rfl⟩ ?_
    refine JO.done rfl ?_
    refine JS.seq ?_
    refine JS.region ?_
    obtain ⟨g5, h⟩ := guardO_some h
    refine JO.reg ttOk 3 [] [] [(12, .v (.string (bs (sub' x0 y3 (x0.length : Int)))))] _ rfl ⟨g5, ⟨rfl, trivial⟩, rfl⟩ ?_
    obtain ⟨y6, hy7, h⟩ := bindO_some h
    refine JO.call rfl rfl rfl rfl (ok_strings_IndexByte (sub' x0 y3 (x0.length : Int)) (39 : UInt8) _ hy7) rfl [] rfl rfl ?_
    intro _ _
    refine JO.reg ttOk 1 [] [] [(5, .v (.int .i64 y6))] _ rfl ⟨⟨rfl, trivial⟩, rfl⟩ ?_
    refine JO.done rfl ?_
    refine JS.seq ?_
    refine JS.seq ?_
    refine JS.region ?_
    refine JO.reg ttOk 2 [] [] [(15, .v (.bool (decide (y6 < 0))))] _ rfl ⟨⟨rfl, trivial⟩, rfl⟩ ?_
    refine JO.done rfl ?_
    refine JS.cond rfl (fun ht9 => ?_) (fun ht9 => ?_)
    · have h := condT h ht9
      refine JS.seq ?_
      refine JS.region ?_
      refine JO.reg ttOk 1 [] [] [(4, .v (.int .i64 (-1)))] _ rfl ⟨⟨rfl, trivial⟩, rfl⟩ ?_
      refine JO.done rfl ?_
      cases h
      exact JS.ret ttOk () trivial rfl rfl [] rfl
    · have h := condF h ht9
      refine JS.skip ?_
      refine JS.seq ?_
      refine JS.region ?_
      refine JO.reg ttOk 5 [(W (y3 + y6)), (W ((W (y3 + y6)) + 1))] [] [(4, .v (.int .i64 (W ((W (y3 + y6)) + 1))))] _ rfl ⟨⟨trivial, rfl⟩, ⟨trivial, rfl⟩, ⟨rfl, trivial⟩, rfl⟩ ?_
      refine JO.done rfl ?_
      cases h
      exact JS.ret ttOk () trivial rfl rfl [] rfl

def M_internal_bytealg_Cutover (x0 : Int) : Option Int :=
  some (W (Int.tdiv (W (x0 + 16)) 8))

theorem ok_internal_bytealg_Cutover (x0 : Int) (r : Int) (h : M_internal_bytealg_Cutover x0 = some r) :
    FC Try.prog 16 [.int .i64 x0] [] (fun _ : Unit => True) (fun _ => .int .i64 r) (fun _ => []) :=
  by
    refine FC.of (T := TTx) Try.call16 Try.func16 rfl rfl fun w0 => ?_
    unfold M_internal_bytealg_Cutover at h
    refine JS.seq ?_
    refine JS.region ?_
    refine JO.reg ttOk 1 [] [] [] _ rfl ⟨trivial, rfl⟩ ?_
    refine JO.done rfl ?_
    refine JS.seq ?_
    refine JS.region ?_
    have g2 : (8 : Int) ≠ 0 := by decide
    refine JO.reg ttOk 4 [(W (x0 + 16)), (W (Int.tdiv (W (x0 + 16)) 8))] [] [(2, .v (.int .i64 (W (Int.tdiv (W (x0 + 16)) 8))))] _ rfl ⟨⟨trivial, rfl⟩, ⟨g2, rfl⟩, ⟨rfl, trivial⟩, rfl⟩ ?_
    refine JO.done rfl ?_
    cases h
    exact JS.ret ttOk () trivial rfl rfl [] rfl

def M_internal_bytealg_hashStrstring_L1 (x0 : List UInt8) (j10 : Int → Option (Int × Int)) (k6 : (Int × Int) → Option (Int × Int)) : (Int × Int) → Option (Int × Int) := fun (x2, x3) =>
  (bif (decide (x3 < (x0.length : Int))) then
  (guardO (0 ≤ x3 ∧ x3 < (x0.length : Int)) <|
  k6 ((IntKind.u32.wrap ((IntKind.u32.wrap (x2 * 16777619)) + (IntKind.u32.wrap (((at' x0 x3).toNat : Int))))), (W (x3 + 1))))
  else
  j10 x2)

def M_internal_bytealg_hashStrstring_L2 (j28 : Int → Option (Int × Int)) (k22 : (Int × Int × Int) → Option (Int × Int)) : (Int × Int × Int) → Option (Int × Int) := fun (x12, x13, x14) =>
  (bif (decide (0 < x14)) then
  (joinO (fun (x16 : Int) =>
  k22 (x16, (IntKind.u32.wrap (x13 * x13)), (Int.fdiv x14 (2 ^ (min (Int.toNat 1) (IntKind.bits .i64)))))) fun j17 =>
  (bif (!(decide ((W (((BitVec.ofInt (IntKind.bits .i64) x14 &&& BitVec.ofInt (IntKind.bits .i64) 1).toNat : Int))) = 0))) then
  j17 (IntKind.u32.wrap (x12 * x13))
  else
  j17 x12))
  else
  j28 x12)

def M_internal_bytealg_hashStrstring (x0 : List UInt8) : Option (Int × Int) :=
  (joinO (fun (x9 : Int) =>
  (joinO (fun (x27 : Int) =>
  some (x9, x27)) fun j28 =>
  (fixF (M_internal_bytealg_hashStrstring_L2 j28) FUEL (1, 16777619, (x0.length : Int))))) fun j10 =>
  (fixF (M_internal_bytealg_hashStrstring_L1 x0 j10) FUEL (0, 0)))

theorem ok_internal_bytealg_hashStrstring (x0 : List UInt8) (r : Int × Int) (h : M_internal_bytealg_hashStrstring x0 = some r) :
    FC Try.prog 18 [.string (bs x0)] [] (fun _ : Unit => True) (fun _ => .tuple #[.int .u32 r.1, .int .u32 r.2]) (fun _ => []) :=
  by
    refine FC.of (T := TTx) Try.call18 Try.func18 rfl rfl fun w0 => ?_
    unfold M_internal_bytealg_hashStrstring at h
    refine JS.seq ?_
    refine JS.region ?_
    refine JO.reg ttOk 2 [] [] [] _ rfl ⟨trivial, rfl⟩ ?_
    refine JO.done rfl ?_
    refine JS.seq ?_
    refine JS.region ?_
    refine JO.reg ttOk 1 [] [] [(4, .v (.int .u32 0))] _ rfl ⟨⟨rfl, trivial⟩, rfl⟩ ?_
    refine JO.done rfl ?_
    refine JS.seq ?_
    refine JS.seq ?_
    refine JS.region ?_
    refine JO.reg ttOk 1 [] [] [(5, .v (.int .i64 0))] _ rfl ⟨⟨rfl, trivial⟩, rfl⟩ ?_
    refine JO.done rfl ?_
    obtain ⟨j10, hj39, h⟩ := joinO_some h
    refine JS.blockJ (ι := Int) ⟨fun z => j10 z = some r, fun z => [(0, .v (.string (bs x0))), (4, .v (.int .u32 z))], fun z => .nil, fun z => [], fun z => [], fun z => 0⟩ ?_ ?_
    · refine JS.loop (ι := Nat × Int × Int) ⟨fun z => fixF (M_internal_bytealg_hashStrstring_L1 x0 j10) z.1 (z.2.1, z.2.2) = some r, fun z => [(0, .v (.string (bs x0))), (4, .v (.int .u32 z.2.1)), (5, .v (.int .i64 z.2.2))], fun z => .nil, fun z => [], fun z => [], fun z => z.1⟩ (FUEL, 0, 0) h ⟨rfl, rfl, rfl, trivial⟩ trivial [] rfl [] rfl ?_
      rintro ⟨n7, x2, x3⟩ h
      obtain ⟨n7, rfl, h⟩ := fixF_some h
      rw [M_internal_bytealg_hashStrstring_L1] at h
      refine JS.seq ?_
      refine JS.seq ?_
      refine JS.region ?_
      refine JO.reg ttOk 4 [] [] [(12, .v (.bool (decide (x3 < (x0.length : Int)))))] _ rfl ⟨⟨rfl, trivial⟩, rfl⟩ ?_
      refine JO.done rfl ?_
      refine JS.cond rfl (fun ht34 => ?_) (fun ht34 => ?_)
      · have h := condT h ht34
        refine JS.skip ?_
        refine JS.seq ?_
        refine JS.block ?_
        refine JS.region ?_
        obtain ⟨g4, h⟩ := guardO_some h
        refine JO.reg ttOk 8 [(IntKind.u32.wrap (x2 * 16777619)), (IntKind.u32.wrap (((at' x0 x3).toNat : Int))), (IntKind.u32.wrap ((IntKind.u32.wrap (x2 * 16777619)) + (IntKind.u32.wrap (((at' x0 x3).toNat : Int)))))] [] [(4, .v (.int .u32 (IntKind.u32.wrap ((IntKind.u32.wrap (x2 * 16777619)) + (IntKind.u32.wrap (((at' x0 x3).toNat : Int)))))))] _ rfl ⟨⟨trivial, rfl⟩, g4, ⟨trivial, rfl⟩, ⟨trivial, rfl⟩, ⟨rfl, trivial⟩, rfl⟩ ?_
        refine JO.done rfl ?_
        refine JS.endB ?_
        refine JS.region ?_
        refine JO.reg ttOk 3 [(W (x3 + 1))] [] [(5, .v (.int .i64 (W (x3 + 1))))] _ rfl ⟨⟨trivial, rfl⟩, ⟨rfl, trivial⟩, rfl⟩ ?_
        refine JO.done rfl ?_
        exact JS.endL (n7, (IntKind.u32.wrap ((IntKind.u32.wrap (x2 * 16777619)) + (IntKind.u32.wrap (((at' x0 x3).toNat : Int))))), (W (x3 + 1))) h (Nat.lt_succ_self _) ⟨rfl, rfl, rfl, trivial⟩ trivial [] rfl [] rfl
      · have h := condF h ht34
        refine JS.exit rfl ?_
        exact JS.endJ x2 h ⟨rfl, rfl, trivial⟩ trivial [] rfl [] rfl
    · rintro x9 h
      subst hj39
      refine JS.seq ?_
      refine JS.region ?_
      refine JO.reg ttOk 2 [] [] [(6, .v (.int .u32 1)), (7, .v (.int .u32 16777619))] _ rfl ⟨⟨rfl, rfl, trivial⟩, rfl⟩ ?_
      refine JO.done rfl ?_
      refine JS.seq ?_
      refine JS.seq ?_
      refine JS.region ?_
      refine JO.reg ttOk 3 [] [] [(8, .v (.int .i64 (x0.length : Int)))] _ rfl ⟨⟨rfl, trivial⟩, rfl⟩ ?_
      refine JO.done rfl ?_
      obtain ⟨j28, hj38, h⟩ := joinO_some h
      refine JS.blockJ (ι := Int) ⟨fun z => j28 z = some r, fun z => [(4, .v (.int .u32 x9)), (6, .v (.int .u32 z))], fun z => .nil, fun z => [], fun z => [], fun z => 0⟩ ?_ ?_
      · refine JS.loop (ι := Nat × Int × Int × Int) ⟨fun z => fixF (M_internal_bytealg_hashStrstring_L2 j28) z.1 (z.2.1, z.2.2.1, z.2.2.2) = some r, fun z => [(4, .v (.int .u32 x9)), (6, .v (.int .u32 z.2.1)), (7, .v (.int .u32 z.2.2.1)), (8, .v (.int .i64 z.2.2.2))], fun z => .nil, fun z => [], fun z => [], fun z => z.1⟩ (FUEL, 1, 16777619, (x0.length : Int)) h ⟨rfl, rfl, rfl, rfl, trivial⟩ trivial [] rfl [] rfl ?_
        rintro ⟨n23, x12, x13, x14⟩ h
        obtain ⟨n23, rfl, h⟩ := fixF_some h
        rw [M_internal_bytealg_hashStrstring_L2] at h
        refine JS.seq ?_
        refine JS.seq ?_
        refine JS.region ?_
        refine JO.reg ttOk 2 [] [] [(25, .v (.bool (decide (0 < x14))))] _ rfl ⟨⟨rfl, trivial⟩, rfl⟩ ?_
        refine JO.done rfl ?_
        refine JS.cond rfl (fun ht37 => ?_) (fun ht37 => ?_)
        · have h := condT h ht37
          refine JS.skip ?_
          refine JS.seq ?_
          refine JS.block ?_
          obtain ⟨j17, hj36, h⟩ := joinO_some h
          refine JS.seqJ (ι := Int) ⟨fun z => j17 z = some r, fun z => [(4, .v (.int .u32 x9)), (6, .v (.int .u32 z)), (7, .v (.int .u32 x13)), (8, .v (.int .i64 x14))], fun z => .nil, fun z => [], fun z => [], fun z => 0⟩ ?_ ?_
          · refine JS.seq ?_
            refine JS.region ?_
            refine JO.reg ttOk 3 [(W (((BitVec.ofInt (IntKind.bits .i64) x14 &&& BitVec.ofInt (IntKind.bits .i64) 1).toNat : Int)))] [] [(30, .v (.bool (!(decide ((W (((BitVec.ofInt (IntKind.bits .i64) x14 &&& BitVec.ofInt (IntKind.bits .i64) 1).toNat : Int))) = 0)))))] _ rfl ⟨⟨trivial, rfl⟩, ⟨rfl, trivial⟩, rfl⟩ ?_
            refine JO.done rfl ?_
            refine JS.cond rfl (fun ht35 => ?_) (fun ht35 => ?_)
            · have h := condT h ht35
              refine JS.region ?_
              refine JO.reg ttOk 4 [(IntKind.u32.wrap (x12 * x13))] [] [(6, .v (.int .u32 (IntKind.u32.wrap (x12 * x13))))] _ rfl ⟨⟨trivial, rfl⟩, ⟨rfl, trivial⟩, rfl⟩ ?_
              refine JO.done rfl ?_
              exact JS.endJ (IntKind.u32.wrap (x12 * x13)) h ⟨rfl, rfl, rfl, rfl, trivial⟩ trivial [] rfl [] rfl
            · have h := condF h ht35
              refine JS.skip ?_
              exact JS.endJ x12 h ⟨rfl, rfl, rfl, rfl, trivial⟩ trivial [] rfl [] rfl
          · rintro x16 h
            subst hj36
            refine JS.region ?_
            refine JO.reg ttOk 4 [(IntKind.u32.wrap (x13 * x13))] [] [(7, .v (.int .u32 (IntKind.u32.wrap (x13 * x13))))] _ rfl ⟨⟨trivial, rfl⟩, ⟨rfl, trivial⟩, rfl⟩ ?_
            refine JO.done rfl ?_
            refine JS.endB ?_
            refine JS.region ?_
            have g19 : (0 : Int) ≤ 1 := by decide
            refine JO.reg ttOk 3 [] [] [(8, .v (.int .i64 (Int.fdiv x14 (2 ^ (min (Int.toNat 1) (IntKind.bits .i64))))))] _ rfl ⟨g19, ⟨rfl, trivial⟩, rfl⟩ ?_
            refine JO.done rfl ?_
            exact JS.endL (n23, x16, (IntKind.u32.wrap (x13 * x13)), (Int.fdiv x14 (2 ^ (min (Int.toNat 1) (IntKind.bits .i64))))) h (Nat.lt_succ_self _) ⟨rfl, rfl, rfl, rfl, trivial⟩ trivial [] rfl [] rfl
        · have h := condF h ht37
          refine JS.exit rfl ?_
          exact JS.endJ x12 h ⟨rfl, rfl, trivial⟩ trivial [] rfl [] rfl
      · rintro x27 h
        subst hj38
        refine JS.seq ?_
        refine JS.region ?_
        refine JO.reg ttOk 4 [] [] [(2, .v (.int .u32 x9)), (3, .v (.int .u32 x27))] _ rfl ⟨⟨rfl, rfl, trivial⟩, rfl⟩ ?_
        refine JO.done rfl ?_
        cases h
        exact JS.ret ttOk () trivial rfl rfl [] rfl

def M_internal_bytealg_IndexRabinKarpstring_L1 (x0 : List UInt8) (x1 : List UInt8) (j14 : Int → Option Int) (k10 : (Int × Int) → Option Int) : (Int × Int) → Option Int := fun (x6, x7) =>
  (bif (decide (x7 < (x1.length : Int))) then
  (guardO (0 ≤ x7 ∧ x7 < (x0.length : Int)) <|
  k10 ((IntKind.u32.wrap ((IntKind.u32.wrap (x6 * 16777619)) + (IntKind.u32.wrap (((at' x0 x7).toNat : Int))))), (W (x7 + 1))))
  else
  j14 x6)

def M_internal_bytealg_IndexRabinKarpstring_L2 (x0 : List UInt8) (x1 : List UInt8) (y3 : Int) (y4 : Int) (j33 : Unit → Option Int) (k27 : (Int × Int) → Option Int) : (Int × Int) → Option Int := fun (x18, x19) =>
  (bif (decide (x19 < (x0.length : Int))) then
  (guardO (0 ≤ x19 ∧ x19 < (x0.length : Int)) <|
  (guardO (0 ≤ (W (x19 - (x1.length : Int))) ∧ (W (x19 - (x1.length : Int))) < (x0.length : Int)) <|
  (guardO (((decide ((IntKind.u32.wrap ((IntKind.u32.wrap ((IntKind.u32.wrap (x18 * 16777619)) + (IntKind.u32.wrap (((at' x0 x19).toNat : Int))))) - (IntKind.u32.wrap (y4 * (IntKind.u32.wrap (((at' x0 (W (x19 - (x1.length : Int)))).toNat : Int))))))) = y3)) = true) → 0 ≤ (W ((W (x19 + 1)) - (x1.length : Int))) ∧ (W ((W (x19 + 1)) - (x1.length : Int))) ≤ (W (x19 + 1)) ∧ (W (x19 + 1)) ≤ (x0.length : Int)) <|
  (bif (bif (decide ((IntKind.u32.wrap ((IntKind.u32.wrap ((IntKind.u32.wrap (x18 * 16777619)) + (IntKind.u32.wrap (((at' x0 x19).toNat : Int))))) - (IntKind.u32.wrap (y4 * (IntKind.u32.wrap (((at' x0 (W (x19 - (x1.length : Int)))).toNat : Int))))))) = y3)) then (decide ((sub' x0 (W ((W (x19 + 1)) - (x1.length : Int))) (W (x19 + 1))) = x1)) else false) then
  some (W ((W (x19 + 1)) - (x1.length : Int)))
  else
  k27 ((IntKind.u32.wrap ((IntKind.u32.wrap ((IntKind.u32.wrap (x18 * 16777619)) + (IntKind.u32.wrap (((at' x0 x19).toNat : Int))))) - (IntKind.u32.wrap (y4 * (IntKind.u32.wrap (((at' x0 (W (x19 - (x1.length : Int)))).toNat : Int))))))), (W (x19 + 1)))))))
  else
  j33 ())

def M_internal_bytealg_IndexRabinKarpstring (x0 : List UInt8) (x1 : List UInt8) : Option Int :=
  (bindO (M_internal_bytealg_hashStrstring x1) fun (y3, y4) =>
  (joinO (fun (x13 : Int) =>
  (guardO (((decide (x13 = y3)) = true) → 0 ≤ (0 : Int) ∧ 0 ≤ (x1.length : Int) ∧ (x1.length : Int) ≤ (x0.length : Int)) <|
  (bif (bif (decide (x13 = y3)) then (decide ((sub' x0 0 (x1.length : Int)) = x1)) else false) then
  some 0
  else
  (joinO (fun (_ : Unit) =>
  some (-1)) fun j33 =>
  (fixF (M_internal_bytealg_IndexRabinKarpstring_L2 x0 x1 y3 y4 j33) FUEL (x13, (x1.length : Int))))))) fun j14 =>
  (fixF (M_internal_bytealg_IndexRabinKarpstring_L1 x0 x1 j14) FUEL (0, 0))))

theorem ok_internal_bytealg_IndexRabinKarpstring (x0 : List UInt8) (x1 : List UInt8) (r : Int) (h : M_internal_bytealg_IndexRabinKarpstring x0 x1 = some r) :
    FC Try.prog 17 [.string (bs x0), .string (bs x1)] [] (fun _ : Unit => True) (fun _ => .int .i64 r) (fun _ => []) :=
  by
    refine FC.of (T := TTx) Try.call17 Try.func17 rfl rfl fun w0 => ?_
    unfold M_internal_bytealg_IndexRabinKarpstring at h
    refine JS.seq ?_
    refine JS.region ?_
    refine JO.reg ttOk 1 [] [] [] _ rfl ⟨trivial, rfl⟩ ?_
    refine JO.done rfl ?_
    refine JS.seq ?_
    refine JS.region ?_
    refine JO.reg ttOk 1 [] [] [(12, .v (.string (bs x1)))] _ rfl ⟨⟨rfl, trivial⟩, rfl⟩ ?_
    obtain ⟨⟨y3, y4⟩, hy5, h⟩ := bindO_some h
    refine JO.call rfl rfl rfl rfl (ok_internal_bytealg_hashStrstring x1 _ hy5) rfl [] rfl rfl ?_
    intro _ _
    refine JO.reg ttOk 5 [] [] [(5, .v (.int .u32 y3)), (6, .v (.int .u32 y4))] _ rfl ⟨⟨rfl, rfl, trivial⟩, rfl⟩ ?_
    refine JO.done rfl ?_
    refine JS.seq ?_
    refine JS.region ?_
    refine JO.reg ttOk 3 [] [] [(7, .v (.int .i64 (x1.length : Int)))] _ rfl ⟨⟨rfl, trivial⟩, rfl⟩ ?_
    refine JO.done rfl ?_
    refine JS.seq ?_
    refine JS.region ?_
    refine JO.reg ttOk 1 [] [] [(8, .v (.int .u32 0))] _ rfl ⟨⟨rfl, trivial⟩, rfl⟩ ?_
    refine JO.done rfl ?_
    refine JS.seq ?_
    refine JS.seq ?_
    refine JS.region ?_
    refine JO.reg ttOk 1 [] [] [(9, .v (.int .i64 0))] _ rfl ⟨⟨rfl, trivial⟩, rfl⟩ ?_
    refine JO.done rfl ?_
    obtain ⟨j14, hj49, h⟩ := joinO_some h
    refine JS.blockJ (ι := Int) ⟨fun z => j14 z = some r, fun z => [(0, .v (.string (bs x0))), (1, .v (.string (bs x1))), (5, .v (.int .u32 y3)), (6, .v (.int .u32 y4)), (7, .v (.int .i64 (x1.length : Int))), (8, .v (.int .u32 z))], fun z => .nil, fun z => [], fun z => [], fun z => 0⟩ ?_ ?_
    · refine JS.loop (ι := Nat × Int × Int) ⟨fun z => fixF (M_internal_bytealg_IndexRabinKarpstring_L1 x0 x1 j14) z.1 (z.2.1, z.2.2) = some r, fun z => [(0, .v (.string (bs x0))), (1, .v (.string (bs x1))), (5, .v (.int .u32 y3)), (6, .v (.int .u32 y4)), (7, .v (.int .i64 (x1.length : Int))), (8, .v (.int .u32 z.2.1)), (9, .v (.int .i64 z.2.2))], fun z => .nil, fun z => [], fun z => [], fun z => z.1⟩ (FUEL, 0, 0) h ⟨rfl, rfl, rfl, rfl, rfl, rfl, rfl, trivial⟩ trivial [] rfl [] rfl ?_
      rintro ⟨n11, x6, x7⟩ h
      obtain ⟨n11, rfl, h⟩ := fixF_some h
      rw [M_internal_bytealg_IndexRabinKarpstring_L1] at h
      refine JS.seq ?_
      refine JS.seq ?_
      refine JS.region ?_
      refine JO.reg ttOk 3 [] [] [(20, .v (.bool (decide (x7 < (x1.length : Int)))))] _ rfl ⟨⟨rfl, trivial⟩, rfl⟩ ?_
      refine JO.done rfl ?_
      refine JS.cond rfl (fun ht41 => ?_) (fun ht41 => ?_)
      · have h := condT h ht41
        refine JS.skip ?_
        refine JS.seq ?_
        refine JS.block ?_
        refine JS.region ?_
        obtain ⟨g8, h⟩ := guardO_some h
        refine JO.reg ttOk 8 [(IntKind.u32.wrap (x6 * 16777619)), (IntKind.u32.wrap (((at' x0 x7).toNat : Int))), (IntKind.u32.wrap ((IntKind.u32.wrap (x6 * 16777619)) + (IntKind.u32.wrap (((at' x0 x7).toNat : Int)))))] [] [(8, .v (.int .u32 (IntKind.u32.wrap ((IntKind.u32.wrap (x6 * 16777619)) + (IntKind.u32.wrap (((at' x0 x7).toNat : Int)))))))] _ rfl ⟨⟨trivial, rfl⟩, g8, ⟨trivial, rfl⟩, ⟨trivial, rfl⟩, ⟨rfl, trivial⟩, rfl⟩ ?_
        refine JO.done rfl ?_
        refine JS.endB ?_
        refine JS.region ?_
        refine JO.reg ttOk 3 [(W (x7 + 1))] [] [(9, .v (.int .i64 (W (x7 + 1))))] _ rfl ⟨⟨trivial, rfl⟩, ⟨rfl, trivial⟩, rfl⟩ ?_
        refine JO.done rfl ?_
        exact JS.endL (n11, (IntKind.u32.wrap ((IntKind.u32.wrap (x6 * 16777619)) + (IntKind.u32.wrap (((at' x0 x7).toNat : Int))))), (W (x7 + 1))) h (Nat.lt_succ_self _) ⟨rfl, rfl, rfl, rfl, rfl, rfl, rfl, trivial⟩ trivial [] rfl [] rfl
      · have h := condF h ht41
        refine JS.exit rfl ?_
        exact JS.endJ x6 h ⟨rfl, rfl, rfl, rfl, rfl, rfl, trivial⟩ trivial [] rfl [] rfl
    · rintro x13 h
      subst hj49
      refine JS.seq ?_
      refine JS.seq ?_
      refine JS.region ?_
      obtain ⟨g16, h⟩ := guardO_some h
      refine JO.reg ttOk 10 [] [] [(39, .v (.bool (bif (decide (x13 = y3)) then (decide ((sub' x0 0 (x1.length : Int)) = x1)) else false)))] _ rfl ⟨(fun q42 => (g16 q42)), ⟨rfl, trivial⟩, rfl⟩ ?_
      refine JO.done rfl ?_
      refine JS.cond rfl (fun ht48 => ?_) (fun ht48 => ?_)
      · have h := condT h ht48
        refine JS.seq ?_
        refine JS.region ?_
        refine JO.reg ttOk 1 [] [] [(4, .v (.int .i64 0))] _ rfl ⟨⟨rfl, trivial⟩, rfl⟩ ?_
        refine JO.done rfl ?_
        cases h
        exact JS.ret ttOk () trivial rfl rfl [] rfl
      · have h := condF h ht48
        refine JS.skip ?_
        refine JS.seq ?_
        refine JS.seq ?_
        refine JS.region ?_
        refine JO.reg ttOk 2 [] [] [(10, .v (.int .i64 (x1.length : Int)))] _ rfl ⟨⟨rfl, trivial⟩, rfl⟩ ?_
        refine JO.done rfl ?_
        obtain ⟨j33, hj47, h⟩ := joinO_some h
        refine JS.blockJ (ι := Unit) ⟨fun _ => j33 () = some r, fun _ => [], fun _ => .nil, fun _ => [], fun _ => [], fun _ => 0⟩ ?_ ?_
        · refine JS.loop (ι := Nat × Int × Int) ⟨fun z => fixF (M_internal_bytealg_IndexRabinKarpstring_L2 x0 x1 y3 y4 j33) z.1 (z.2.1, z.2.2) = some r, fun z => [(0, .v (.string (bs x0))), (1, .v (.string (bs x1))), (5, .v (.int .u32 y3)), (6, .v (.int .u32 y4)), (7, .v (.int .i64 (x1.length : Int))), (8, .v (.int .u32 z.2.1)), (10, .v (.int .i64 z.2.2))], fun z => .nil, fun z => [], fun z => [], fun z => z.1⟩ (FUEL, x13, (x1.length : Int)) h ⟨rfl, rfl, rfl, rfl, rfl, rfl, rfl, trivial⟩ trivial [] rfl [] rfl ?_
          rintro ⟨n28, x18, x19⟩ h
          obtain ⟨n28, rfl, h⟩ := fixF_some h
          rw [M_internal_bytealg_IndexRabinKarpstring_L2] at h
          refine JS.seq ?_
          refine JS.seq ?_
          refine JS.region ?_
          refine JO.reg ttOk 4 [] [] [(44, .v (.bool (decide (x19 < (x0.length : Int)))))] _ rfl ⟨⟨rfl, trivial⟩, rfl⟩ ?_
          refine JO.done rfl ?_
          refine JS.cond rfl (fun ht46 => ?_) (fun ht46 => ?_)
          · have h := condT h ht46
            refine JS.skip ?_
            refine JS.block ?_
            refine JS.seq ?_
            refine JS.region ?_
            refine JO.reg ttOk 3 [(IntKind.u32.wrap (x18 * 16777619))] [] [(8, .v (.int .u32 (IntKind.u32.wrap (x18 * 16777619))))] _ rfl ⟨⟨trivial, rfl⟩, ⟨rfl, trivial⟩, rfl⟩ ?_
            refine JO.done rfl ?_
            refine JS.seq ?_
            refine JS.region ?_
            obtain ⟨g20, h⟩ := guardO_some h
            refine JO.reg ttOk 7 [(IntKind.u32.wrap (((at' x0 x19).toNat : Int))), (IntKind.u32.wrap ((IntKind.u32.wrap (x18 * 16777619)) + (IntKind.u32.wrap (((at' x0 x19).toNat : Int)))))] [] [(8, .v (.int .u32 (IntKind.u32.wrap ((IntKind.u32.wrap (x18 * 16777619)) + (IntKind.u32.wrap (((at' x0 x19).toNat : Int)))))))] _ rfl ⟨g20, ⟨trivial, rfl⟩, ⟨trivial, rfl⟩, ⟨rfl, trivial⟩, rfl⟩ ?_
            refine JO.done rfl ?_
            refine JS.seq ?_
            refine JS.region ?_
            obtain ⟨g21, h⟩ := guardO_some h
            refine JO.reg ttOk 11 [(W (x19 - (x1.length : Int))), (IntKind.u32.wrap (((at' x0 (W (x19 - (x1.length : Int)))).toNat : Int))), (IntKind.u32.wrap (y4 * (IntKind.u32.wrap (((at' x0 (W (x19 - (x1.length : Int)))).toNat : Int))))), (IntKind.u32.wrap ((IntKind.u32.wrap ((IntKind.u32.wrap (x18 * 16777619)) + (IntKind.u32.wrap (((at' x0 x19).toNat : Int))))) - (IntKind.u32.wrap (y4 * (IntKind.u32.wrap (((at' x0 (W (x19 - (x1.length : Int)))).toNat : Int)))))))] [] [(8, .v (.int .u32 (IntKind.u32.wrap ((IntKind.u32.wrap ((IntKind.u32.wrap (x18 * 16777619)) + (IntKind.u32.wrap (((at' x0 x19).toNat : Int))))) - (IntKind.u32.wrap (y4 * (IntKind.u32.wrap (((at' x0 (W (x19 - (x1.length : Int)))).toNat : Int)))))))))] _ rfl ⟨⟨trivial, rfl⟩, g21, ⟨trivial, rfl⟩, ⟨trivial, rfl⟩, ⟨trivial, rfl⟩, ⟨rfl, trivial⟩, rfl⟩ ?_
            refine JO.done rfl ?_
            refine JS.seq ?_
            refine JS.region ?_
            refine JO.reg ttOk 3 [(W (x19 + 1))] [] [(10, .v (.int .i64 (W (x19 + 1))))] _ rfl ⟨⟨trivial, rfl⟩, ⟨rfl, trivial⟩, rfl⟩ ?_
            refine JO.done rfl ?_
            refine JS.seq ?_
            refine JS.region ?_
            obtain ⟨g23, h⟩ := guardO_some h
            refine JO.reg ttOk 13 [(W ((W (x19 + 1)) - (x1.length : Int)))] [] [(77, .v (.bool (bif (decide ((IntKind.u32.wrap ((IntKind.u32.wrap ((IntKind.u32.wrap (x18 * 16777619)) + (IntKind.u32.wrap (((at' x0 x19).toNat : Int))))) - (IntKind.u32.wrap (y4 * (IntKind.u32.wrap (((at' x0 (W (x19 - (x1.length : Int)))).toNat : Int))))))) = y3)) then (decide ((sub' x0 (W ((W (x19 + 1)) - (x1.length : Int))) (W (x19 + 1))) = x1)) else false)))] _ rfl ⟨(fun q43 => ⟨trivial, rfl⟩), (fun q44 => (g23 q44)), ⟨rfl, trivial⟩, rfl⟩ ?_
            refine JO.done rfl ?_
            refine JS.cond rfl (fun ht45 => ?_) (fun ht45 => ?_)
            · have h := condT h ht45
              refine JS.seq ?_
              refine JS.region ?_
              refine JO.reg ttOk 4 [(W ((W (x19 + 1)) - (x1.length : Int)))] [] [(4, .v (.int .i64 (W ((W (x19 + 1)) - (x1.length : Int)))))] _ rfl ⟨⟨trivial, rfl⟩, ⟨rfl, trivial⟩, rfl⟩ ?_
              refine JO.done rfl ?_
              cases h
              exact JS.ret ttOk () trivial rfl rfl [] rfl
            · have h := condF h ht45
              refine JS.skip ?_
              refine JS.endB ?_
              exact JS.endL (n28, (IntKind.u32.wrap ((IntKind.u32.wrap ((IntKind.u32.wrap (x18 * 16777619)) + (IntKind.u32.wrap (((at' x0 x19).toNat : Int))))) - (IntKind.u32.wrap (y4 * (IntKind.u32.wrap (((at' x0 (W (x19 - (x1.length : Int)))).toNat : Int))))))), (W (x19 + 1))) h (Nat.lt_succ_self _) ⟨rfl, rfl, rfl, rfl, rfl, rfl, rfl, trivial⟩ trivial [] rfl [] rfl
          · have h := condF h ht46
            refine JS.exit rfl ?_
            exact JS.endJ () h trivial trivial [] rfl [] rfl
        · rintro _ h
          subst hj47
          refine JS.seq ?_
          refine JS.region ?_
          refine JO.reg ttOk 1 [] [] [(4, .v (.int .i64 (-1)))] _ rfl ⟨⟨rfl, trivial⟩, rfl⟩ ?_
          refine JO.done rfl ?_
          cases h
          exact JS.ret ttOk () trivial rfl rfl [] rfl

def M_strings_Contains (x0 : List UInt8) (x1 : List UInt8) : Option Bool := match x1 with
  | [c] => some (decide (0 ≤ Lib.indexByte x0 c))
  | _ => none

theorem ok_strings_Contains (x0 : List UInt8) (x1 : List UInt8) (r : Bool) (h : M_strings_Contains x0 x1 = some r) : FV Try.prog 8 [.string (bs x0), .string (bs x1)] [] (.bool r) := by
  match x1, h with
  | [c], h =>
    cases h
    refine FV.of_calls Try.call8 fun w => ?_
    exact Try.strings_Contains_one (bs x0) c w
  | [], h => cases h
  | _ :: _ :: _, h => cases h

def M_i_Delim_L1 (x0 : List UInt8) (j84 : (List UInt8) → Option (List UInt8 × Bool)) (k66 : (List UInt8 × Int) → Option (List UInt8 × Bool)) : (List UInt8 × Int) → Option (List UInt8 × Bool) := fun (x2, x5) =>
  (bif (decide (x5 < (x0.length : Int))) then
  (guardO (0 ≤ x5 ∧ x5 < (x0.length : Int)) <|
  (joinO (fun ((x48, x51) : List UInt8 × Int) =>
  k66 (x48, x51)) fun j52 =>
  (bif (decide (((at' x0 x5).toNat : Int) = (92 : Int))) then
  (bif (decide ((W (x5 + 1)) = (x0.length : Int))) then
  some ([], false)
  else
  (joinO (fun (x14 : List UInt8) =>
  j52 (x14, (W (x5 + 2)))) fun j17 =>
  (guardO (0 ≤ (W (x5 + 1)) ∧ (W (x5 + 1)) < (x0.length : Int)) <|
  (bif (!(decide (((at' x0 (W (x5 + 1))).toNat : Int) = (10 : Int)))) then
  (guardO (0 ≤ (W (x5 + 1)) ∧ (W (x5 + 1)) < (x0.length : Int)) <|
  (guardO (x2.length + ([(at' x0 (W (x5 + 1)))] : List UInt8).length ≤ 536870912) <|
  j17 (x2 ++ ([(at' x0 (W (x5 + 1)))] : List UInt8))))
  else
  j17 x2))))
  else
  (bif (decide (((at' x0 x5).toNat : Int) = (39 : Int))) then
  (bindO (M_i_SkipSingle x0 (W (x5 + 1))) fun (y21 : Int) =>
  (bif (decide (y21 < 0)) then
  some ([], false)
  else
  (guardO (0 ≤ (W (x5 + 1)) ∧ (W (x5 + 1)) ≤ (W (y21 - 1)) ∧ (W (y21 - 1)) ≤ (x0.length : Int)) <|
  (guardO (x2.length + (sub' x0 (W (x5 + 1)) (W (y21 - 1))).length ≤ 536870912) <|
  j52 ((x2 ++ (sub' x0 (W (x5 + 1)) (W (y21 - 1)))), y21)))))
  else
  (bif (decide (((at' x0 x5).toNat : Int) = (34 : Int))) then
  (bindO (M_i_quoted x0 (W (x5 + 1)) x2) fun (y28, y29) =>
  (bif (decide (y29 < 0)) then
  some ([], false)
  else
  j52 (y28, y29)))
  else
  (joinO (fun (x35 : Bool) =>
  (bif x35 then
  some ([], false)
  else
  (guardO (0 ≤ x5 ∧ x5 < (x0.length : Int)) <|
  (guardO (x2.length + ([(at' x0 x5)] : List UInt8).length ≤ 536870912) <|
  j52 ((x2 ++ ([(at' x0 x5)] : List UInt8)), (W (x5 + 1))))))) fun j36 =>
  (bif (decide (((at' x0 x5).toNat : Int) = (36 : Int))) then
  j36 (decide (((at' x0 x5).toNat : Int) = (36 : Int)))
  else
  j36 (decide (((at' x0 x5).toNat : Int) = (96 : Int))))))))))
  else
  j84 x2)

def M_i_Delim (x0 : List UInt8) : Option (List UInt8 × Bool) :=
  (joinO (fun (x81 : List UInt8) =>
  (bindO (M_strings_Contains x81 ([10])) fun (y98 : Bool) =>
  (bif y98 then
  some ([], false)
  else
  some (x81, true)))) fun j84 =>
  (fixF (M_i_Delim_L1 x0 j84) FUEL ([], 0)))

theorem ok_i_Delim (x0 : List UInt8) (r : List UInt8 × Bool) (h : M_i_Delim x0 = some r) :
    FC Try.prog 5 [.string (bs x0)] [] (fun _ : Unit => True) (fun _ => .tuple #[.string (bs r.1), .bool r.2]) (fun _ => []) :=
  by
    refine FC.of (T := TTx) Try.call5 Try.func5 rfl rfl fun w0 => ?_
    unfold M_i_Delim at h
    refine JS.seq ?_
    refine JS.region ?_
    refine JO.reg ttOk 2 [] [] [] _ rfl ⟨trivial, rfl⟩ ?_
    refine JO.done rfl ?_
    refine JS.seq ?_
    refine JS.region ?_
    refine JO.reg ttOk 1 [] [] [(4, .v (.slice none 0 0))] _ rfl ⟨⟨rfl, trivial⟩, rfl⟩ ?_
    refine JO.done rfl ?_
    refine JS.seq ?_
    refine JS.seq ?_
    refine JS.region ?_
    refine JO.reg ttOk 1 [] [] [(5, .v (.int .i64 0))] _ rfl ⟨⟨rfl, trivial⟩, rfl⟩ ?_
    refine JO.done rfl ?_
    obtain ⟨j84, hj116, h⟩ := joinO_some h
    refine JS.blockJ (ι := List UInt8 × Option Addr × Nat) ⟨fun z => j84 z.1 = some r, fun z => [(4, .v (.slice z.2.1 z.1.length z.2.2))], fun z => .nil, fun z => [], fun z => [⟨.byte, ⟨z.2.1, z.1.length, z.2.2⟩, z.1⟩], fun z => 0⟩ ?_ ?_
    · refine JS.nilO .byte Sl.nil rfl rfl ?_
      refine JS.loop (ι := Nat × List UInt8 × Int × Option Addr × Nat) ⟨fun z => fixF (M_i_Delim_L1 x0 j84) z.1 (z.2.1, z.2.2.1) = some r, fun z => [(0, .v (.string (bs x0))), (4, .v (.slice z.2.2.2.1 z.2.1.length z.2.2.2.2)), (5, .v (.int .i64 z.2.2.1))], fun z => .nil, fun z => [], fun z => [⟨.byte, ⟨z.2.2.2.1, z.2.1.length, z.2.2.2.2⟩, z.2.1⟩], fun z => z.1⟩ (FUEL, [], 0, none, 0) h ⟨rfl, rfl, rfl, trivial⟩ trivial [] rfl [0] rfl ?_
      rintro ⟨n67, x2, x5, a3, c4⟩ h
      obtain ⟨n67, rfl, h⟩ := fixF_some h
      rw [M_i_Delim_L1] at h
      refine JS.seq ?_
      refine JS.seq ?_
      refine JS.region ?_
      refine JO.reg ttOk 4 [] [] [(13, .v (.bool (decide (x5 < (x0.length : Int)))))] _ rfl ⟨⟨rfl, trivial⟩, rfl⟩ ?_
      refine JO.done rfl ?_
      refine JS.cond rfl (fun ht114 => ?_) (fun ht114 => ?_)
      · have h := condT h ht114
        refine JS.skip ?_
        refine JS.block ?_
        refine JS.seq ?_
        refine JS.region ?_
        obtain ⟨g6, h⟩ := guardO_some h
        refine JO.reg ttOk 3 [] [] [(16, .v (.int .u8 ((at' x0 x5).toNat : Int)))] _ rfl ⟨g6, ⟨rfl, trivial⟩, rfl⟩ ?_
        refine JO.done rfl ?_
        obtain ⟨j52, hj113, h⟩ := joinO_some h
        refine JS.blockJ (ι := List UInt8 × Int × Option Addr × Nat) ⟨fun z => j52 (z.1, z.2.1) = some r, fun z => [(0, .v (.string (bs x0))), (4, .v (.slice z.2.2.1 z.1.length z.2.2.2)), (5, .v (.int .i64 z.2.1))], fun z => .nil, fun z => [], fun z => [⟨.byte, ⟨z.2.2.1, z.1.length, z.2.2.2⟩, z.1⟩], fun z => 0⟩ ?_ ?_
        · refine JS.seq ?_
          refine JS.region ?_
          refine JO.reg ttOk 2 [] [] [(25, .v (.bool (decide (((at' x0 x5).toNat : Int) = (92 : Int)))))] _ rfl ⟨⟨rfl, trivial⟩, rfl⟩ ?_
          refine JO.done rfl ?_
          refine JS.cond rfl (fun ht112 => ?_) (fun ht112 => ?_)
          · have h := condT h ht112
            refine JS.seq ?_
            refine JS.seq ?_
            refine JS.region ?_
            refine JO.reg ttOk 5 [(W (x5 + 1))] [] [(31, .v (.bool (decide ((W (x5 + 1)) = (x0.length : Int)))))] _ rfl ⟨⟨trivial, rfl⟩, ⟨rfl, trivial⟩, rfl⟩ ?_
            refine JO.done rfl ?_
            refine JS.cond rfl (fun ht104 => ?_) (fun ht104 => ?_)
            · have h := condT h ht104
              refine JS.seq ?_
              refine JS.region ?_
              refine JO.reg ttOk 2 [] [] [(2, .v (.string (bs []))), (3, .v (.bool false))] _ rfl ⟨⟨rfl, rfl, trivial⟩, rfl⟩ ?_
              refine JO.done rfl ?_
              cases h
              exact JS.ret ttOk () trivial rfl rfl [] rfl
            · have h := condF h ht104
              refine JS.skip ?_
              obtain ⟨j17, hj103, h⟩ := joinO_some h
              refine JS.seqJ (ι := List UInt8 × Option Addr × Nat) ⟨fun z => j17 z.1 = some r, fun z => [(0, .v (.string (bs x0))), (4, .v (.slice z.2.1 z.1.length z.2.2)), (5, .v (.int .i64 x5))], fun z => .nil, fun z => [], fun z => [⟨.byte, ⟨z.2.1, z.1.length, z.2.2⟩, z.1⟩], fun z => 0⟩ ?_ ?_
              · refine JS.seq ?_
                refine JS.region ?_
                obtain ⟨g7, h⟩ := guardO_some h
                refine JO.reg ttOk 5 [(W (x5 + 1))] [] [(36, .v (.bool (!(decide (((at' x0 (W (x5 + 1))).toNat : Int) = (10 : Int))))))] _ rfl ⟨⟨trivial, rfl⟩, g7, ⟨rfl, trivial⟩, rfl⟩ ?_
                refine JO.done rfl ?_
                refine JS.cond rfl (fun ht102 => ?_) (fun ht102 => ?_)
                · have h := condT h ht102
                  refine JS.region ?_
                  obtain ⟨g8, h⟩ := guardO_some h
                  refine JO.reg ttOk 5 [(W (x5 + 1))] [] [(37, .v (.slice a3 x2.length c4)), (41, .v (.int .u8 ((at' x0 (W (x5 + 1))).toNat : Int)))] _ rfl ⟨⟨trivial, rfl⟩, g8, ⟨rfl, rfl, trivial⟩, rfl⟩ ?_
                  refine JO.ofK rfl (JK.buildSlice ttOk rfl rfl rfl rfl rfl rfl rfl rfl rfl rfl rfl [] rfl .byte [(at' x0 (W (x5 + 1)))] ⟨rfl, rfl⟩ rfl rfl fun a9 => JO.toK ?_)
                  obtain ⟨g10, h⟩ := guardO_some h
                  refine JO.appendR' ttOk rfl rfl rfl rfl ⟨rfl, rfl, rfl, rfl, trivial, rfl, rfl, rfl, rfl⟩ rfl rfl rfl [1] rfl 0 rfl g10 rfl ?_
                  intro a11 c12
                  refine JO.reg ttOk 1 [] [] [(4, .v (.slice a11 (x2 ++ ([(at' x0 (W (x5 + 1)))] : List UInt8)).length c12))] _ rfl ⟨⟨rfl, trivial⟩, rfl⟩ ?_
                  refine JO.done rfl ?_
                  exact JS.endJ ((x2 ++ ([(at' x0 (W (x5 + 1)))] : List UInt8)), a11, c12) h ⟨rfl, rfl, rfl, trivial⟩ trivial [] rfl [0] rfl
                · have h := condF h ht102
                  refine JS.skip ?_
                  exact JS.endJ (x2, a3, c4) h ⟨rfl, rfl, rfl, trivial⟩ trivial [] rfl [0] rfl
              · rintro ⟨x14, a15, c16⟩ h
                subst hj103
                refine JS.region ?_
                refine JO.reg ttOk 3 [(W (x5 + 2))] [] [(5, .v (.int .i64 (W (x5 + 2))))] _ rfl ⟨⟨trivial, rfl⟩, ⟨rfl, trivial⟩, rfl⟩ ?_
                refine JO.done rfl ?_
                refine JS.endB ?_
                exact JS.endJ (x14, (W (x5 + 2)), a15, c16) h ⟨rfl, rfl, rfl, trivial⟩ trivial [] rfl [0] rfl
          · have h := condF h ht112
            refine JS.seq ?_
            refine JS.region ?_
            refine JO.reg ttOk 2 [] [] [(46, .v (.bool (decide (((at' x0 x5).toNat : Int) = (39 : Int)))))] _ rfl ⟨⟨rfl, trivial⟩, rfl⟩ ?_
            refine JO.done rfl ?_
            refine JS.cond rfl (fun ht111 => ?_) (fun ht111 => ?_)
            · have h := condT h ht111
              refine JS.seq ?_
              refine JS.region ?_
              refine JO.reg ttOk 3 [(W (x5 + 1))] [] [(48, .v (.string (bs x0))), (50, .v (.int .i64 (W (x5 + 1))))] _ rfl ⟨⟨trivial, rfl⟩, ⟨rfl, rfl, trivial⟩, rfl⟩ ?_
              obtain ⟨y21, hy22, h⟩ := bindO_some h
              refine JO.call rfl rfl rfl rfl (ok_i_SkipSingle x0 (W (x5 + 1)) _ hy22) rfl [] rfl rfl ?_
              intro _ _
              refine JO.reg ttOk 1 [] [] [(6, .v (.int .i64 y21))] _ rfl ⟨⟨rfl, trivial⟩, rfl⟩ ?_
              refine JO.done rfl ?_
              refine JS.seq ?_
              refine JS.seq ?_
              refine JS.region ?_
              refine JO.reg ttOk 2 [] [] [(53, .v (.bool (decide (y21 < 0))))] _ rfl ⟨⟨rfl, trivial⟩, rfl⟩ ?_
              refine JO.done rfl ?_
              refine JS.cond rfl (fun ht105 => ?_) (fun ht105 => ?_)
              · have h := condT h ht105
                refine JS.seq ?_
                refine JS.region ?_
                refine JO.reg ttOk 2 [] [] [(2, .v (.string (bs []))), (3, .v (.bool false))] _ rfl ⟨⟨rfl, rfl, trivial⟩, rfl⟩ ?_
                refine JO.done rfl ?_
                cases h
                exact JS.ret ttOk () trivial rfl rfl [] rfl
              · have h := condF h ht105
                refine JS.skip ?_
                refine JS.seq ?_
                refine JS.region ?_
                obtain ⟨g23, h⟩ := guardO_some h
                refine JO.reg ttOk 7 [(W (x5 + 1)), (W (y21 - 1))] [] [(54, .v (.slice a3 x2.length c4)), (60, .v (.string (bs (sub' x0 (W (x5 + 1)) (W (y21 - 1))))))] _ rfl ⟨⟨trivial, rfl⟩, ⟨trivial, rfl⟩, g23, ⟨rfl, rfl, trivial⟩, rfl⟩ ?_
                obtain ⟨g24, h⟩ := guardO_some h
                refine JO.appendS' ttOk rfl rfl rfl rfl ⟨rfl, rfl, rfl, rfl, trivial, rfl, rfl, rfl, rfl⟩ rfl rfl [0] rfl g24 rfl ?_
                intro a25 c26
                refine JO.reg ttOk 1 [] [] [(4, .v (.slice a25 (x2 ++ (sub' x0 (W (x5 + 1)) (W (y21 - 1)))).length c26))] _ rfl ⟨⟨rfl, trivial⟩, rfl⟩ ?_
                refine JO.done rfl ?_
                refine JS.region ?_
                refine JO.reg ttOk 2 [] [] [(5, .v (.int .i64 y21))] _ rfl ⟨⟨rfl, trivial⟩, rfl⟩ ?_
                refine JO.done rfl ?_
                refine JS.endB ?_
                exact JS.endJ ((x2 ++ (sub' x0 (W (x5 + 1)) (W (y21 - 1)))), y21, a25, c26) h ⟨rfl, rfl, rfl, trivial⟩ trivial [] rfl [0] rfl
            · have h := condF h ht111
              refine JS.seq ?_
              refine JS.region ?_
              refine JO.reg ttOk 2 [] [] [(63, .v (.bool (decide (((at' x0 x5).toNat : Int) = (34 : Int)))))] _ rfl ⟨⟨rfl, trivial⟩, rfl⟩ ?_
              refine JO.done rfl ?_
              refine JS.cond rfl (fun ht110 => ?_) (fun ht110 => ?_)
              · have h := condT h ht110
                refine JS.seq ?_
                refine JS.region ?_
                refine JO.reg ttOk 4 [(W (x5 + 1))] [] [(66, .v (.string (bs x0))), (68, .v (.int .i64 (W (x5 + 1)))), (69, .v (.slice a3 x2.length c4))] _ rfl ⟨⟨trivial, rfl⟩, ⟨rfl, rfl, rfl, trivial⟩, rfl⟩ ?_
                obtain ⟨⟨y28, y29⟩, hy30, h⟩ := bindO_some h
                refine JO.callX rfl rfl rfl rfl (ok_i_quoted x0 (W (x5 + 1)) x2 a3 c4 x2.length rfl _ hy30) rfl [0] rfl [] rfl rfl ?_
                rintro ⟨a31, c32⟩ -
                refine JO.reg ttOk 5 [] [] [(7, .v (.slice a31 y28.length c32)), (8, .v (.int .i64 y29))] _ rfl ⟨⟨rfl, rfl, trivial⟩, rfl⟩ ?_
                refine JO.done rfl ?_
                refine JS.seq ?_
                refine JS.seq ?_
                refine JS.region ?_
                refine JO.reg ttOk 2 [] [] [(74, .v (.bool (decide (y29 < 0))))] _ rfl ⟨⟨rfl, trivial⟩, rfl⟩ ?_
                refine JO.done rfl ?_
                refine JS.cond rfl (fun ht106 => ?_) (fun ht106 => ?_)
                · have h := condT h ht106
                  refine JS.seq ?_
                  refine JS.region ?_
                  refine JO.reg ttOk 2 [] [] [(2, .v (.string (bs []))), (3, .v (.bool false))] _ rfl ⟨⟨rfl, rfl, trivial⟩, rfl⟩ ?_
                  refine JO.done rfl ?_
                  cases h
                  exact JS.ret ttOk () trivial rfl rfl [] rfl
                · have h := condF h ht106
                  refine JS.skip ?_
                  refine JS.seq ?_
                  refine JS.region ?_
                  refine JO.reg ttOk 2 [] [] [(4, .v (.slice a31 y28.length c32))] _ rfl ⟨⟨rfl, trivial⟩, rfl⟩ ?_
                  refine JO.done rfl ?_
                  refine JS.region ?_
                  refine JO.reg ttOk 2 [] [] [(5, .v (.int .i64 y29))] _ rfl ⟨⟨rfl, trivial⟩, rfl⟩ ?_
                  refine JO.done rfl ?_
                  refine JS.endB ?_
                  exact JS.endJ (y28, y29, a31, c32) h ⟨rfl, rfl, rfl, trivial⟩ trivial [] rfl [0] rfl
              · have h := condF h ht110
                obtain ⟨j36, hj109, h⟩ := joinO_some h
                refine JS.seqJ (ι := Bool) ⟨fun z => j36 z = some r, fun z => [(0, .v (.string (bs x0))), (4, .v (.slice a3 x2.length c4)), (5, .v (.int .i64 x5)), (77, .v (.bool z))], fun z => .nil, fun z => [], fun z => [⟨.byte, ⟨a3, x2.length, c4⟩, x2⟩], fun z => 0⟩ ?_ ?_
                · refine JS.seq ?_
                  refine JS.region ?_
                  refine JO.reg ttOk 2 [] [] [(77, .v (.bool (decide (((at' x0 x5).toNat : Int) = (36 : Int)))))] _ rfl ⟨⟨rfl, trivial⟩, rfl⟩ ?_
                  refine JO.done rfl ?_
                  refine JS.cond rfl (fun ht107 => ?_) (fun ht107 => ?_)
                  · have h := condT h ht107
                    refine JS.skip ?_
                    exact JS.endJ (decide (((at' x0 x5).toNat : Int) = (36 : Int))) h ⟨rfl, rfl, rfl, rfl, trivial⟩ trivial [] rfl [0] rfl
                  · have h := condF h ht107
                    refine JS.region ?_
                    refine JO.reg ttOk 2 [] [] [(77, .v (.bool (decide (((at' x0 x5).toNat : Int) = (96 : Int)))))] _ rfl ⟨⟨rfl, trivial⟩, rfl⟩ ?_
                    refine JO.done rfl ?_
                    exact JS.endJ (decide (((at' x0 x5).toNat : Int) = (96 : Int))) h ⟨rfl, rfl, rfl, rfl, trivial⟩ trivial [] rfl [0] rfl
                · rintro x35 h
                  subst hj109
                  refine JS.cond rfl (fun ht108 => ?_) (fun ht108 => ?_)
                  · have h := condT h ht108
                    refine JS.seq ?_
                    refine JS.region ?_
                    refine JO.reg ttOk 2 [] [] [(2, .v (.string (bs []))), (3, .v (.bool false))] _ rfl ⟨⟨rfl, rfl, trivial⟩, rfl⟩ ?_
                    refine JO.done rfl ?_
                    cases h
                    exact JS.ret ttOk () trivial rfl rfl [] rfl
                  · have h := condF h ht108
                    refine JS.seq ?_
                    refine JS.region ?_
                    obtain ⟨g38, h⟩ := guardO_some h
                    refine JO.reg ttOk 4 [] [] [(17, .v (.slice a3 x2.length c4)), (20, .v (.int .u8 ((at' x0 x5).toNat : Int)))] _ rfl ⟨g38, ⟨rfl, rfl, trivial⟩, rfl⟩ ?_
                    refine JO.ofK rfl (JK.buildSlice ttOk rfl rfl rfl rfl rfl rfl rfl rfl rfl rfl rfl [] rfl .byte [(at' x0 x5)] ⟨rfl, rfl⟩ rfl rfl fun a39 => JO.toK ?_)
                    obtain ⟨g40, h⟩ := guardO_some h
                    refine JO.appendR' ttOk rfl rfl rfl rfl ⟨rfl, rfl, rfl, rfl, trivial, rfl, rfl, rfl, rfl⟩ rfl rfl rfl [1] rfl 0 rfl g40 rfl ?_
                    intro a41 c42
                    refine JO.reg ttOk 1 [] [] [(4, .v (.slice a41 (x2 ++ ([(at' x0 x5)] : List UInt8)).length c42))] _ rfl ⟨⟨rfl, trivial⟩, rfl⟩ ?_
                    refine JO.done rfl ?_
                    refine JS.region ?_
                    refine JO.reg ttOk 3 [(W (x5 + 1))] [] [(5, .v (.int .i64 (W (x5 + 1))))] _ rfl ⟨⟨trivial, rfl⟩, ⟨rfl, trivial⟩, rfl⟩ ?_
                    refine JO.done rfl ?_
                    refine JS.endB ?_
                    exact JS.endJ ((x2 ++ ([(at' x0 x5)] : List UInt8)), (W (x5 + 1)), a41, c42) h ⟨rfl, rfl, rfl, trivial⟩ trivial [] rfl [0] rfl
        · rintro ⟨x48, x51, a49, c50⟩ h
          subst hj113
          refine JS.endB ?_
          exact JS.endL (n67, x48, x51, a49, c50) h (Nat.lt_succ_self _) ⟨rfl, rfl, rfl, trivial⟩ trivial [] rfl [0] rfl
      · have h := condF h ht114
        refine JS.exit rfl ?_
        exact JS.endJ (x2, a3, c4) h ⟨rfl, trivial⟩ trivial [] rfl [0] rfl
    · rintro ⟨x81, a82, c83⟩ h
      subst hj116
      refine JS.seq ?_
      refine JS.region ?_
      refine JO.reg ttOk 1 [] [] [(80, .v (.slice a82 x81.length c83))] _ rfl ⟨⟨rfl, trivial⟩, rfl⟩ ?_
      refine JO.strOf ttOk rfl rfl rfl rfl rfl rfl rfl rfl 0 rfl rfl ?_
      refine JO.reg ttOk 1 [] [] [(9, .v (.string (bs x81)))] _ rfl ⟨⟨rfl, trivial⟩, rfl⟩ ?_
      refine JO.done rfl ?_
      refine JS.seq ?_
      refine JS.seq ?_
      refine JS.region ?_
      refine JO.reg ttOk 1 [] [] [(82, .v (.string (bs x81)))] _ rfl ⟨⟨rfl, trivial⟩, rfl⟩ ?_
      obtain ⟨y98, hy99, h⟩ := bindO_some h
      refine JO.call rfl rfl rfl rfl (ok_strings_Contains x81 ([10]) _ hy99) rfl [] rfl rfl ?_
      intro _ _
      refine JO.done rfl ?_
      refine JS.cond rfl (fun ht115 => ?_) (fun ht115 => ?_)
      · have h := condT h ht115
        refine JS.seq ?_
        refine JS.region ?_
        refine JO.reg ttOk 2 [] [] [(2, .v (.string (bs []))), (3, .v (.bool false))] _ rfl ⟨⟨rfl, rfl, trivial⟩, rfl⟩ ?_
        refine JO.done rfl ?_
        cases h
        exact JS.ret ttOk () trivial rfl rfl [] rfl
      · have h := condF h ht115
        refine JS.skip ?_
        refine JS.seq ?_
        refine JS.region ?_
        refine JO.reg ttOk 3 [] [] [(2, .v (.string (bs x81))), (3, .v (.bool true))] _ rfl ⟨⟨rfl, rfl, trivial⟩, rfl⟩ ?_
        refine JO.done rfl ?_
        cases h
        exact JS.ret ttOk () trivial rfl rfl [] rfl

def M_l_FnExactDelim (x0 : List UInt8) : Option Bool :=
  (bif (decide (1048576 < (x0.length : Int))) then
  some true
  else
  (bindO (M_s_Delim x0) fun (y2, y3) =>
  (bindO (M_i_Delim x0) fun (y5, y6) =>
  (bif (bif (!(decide (y5 = y2))) then true else (!(y6 == y3))) then
  some false
  else
  some true))))

theorem ok_l_FnExactDelim (x0 : List UInt8) (r : Bool) (h : M_l_FnExactDelim x0 = some r) :
    FC Try.prog 3 [.string (bs x0)] [] (fun _ : Unit => True) (fun _ => .bool r) (fun _ => []) :=
  by
    refine FC.of (T := TTx) Try.call3 Try.func3 rfl rfl fun w0 => ?_
    unfold M_l_FnExactDelim at h
    refine JS.seq ?_
    refine JS.region ?_
    refine JO.reg ttOk 1 [] [] [] _ rfl ⟨trivial, rfl⟩ ?_
    refine JO.done rfl ?_
    refine JS.seq ?_
    refine JS.seq ?_
    refine JS.region ?_
    refine JO.reg ttOk 3 [] [] [(9, .v (.bool (decide (1048576 < (x0.length : Int)))))] _ rfl ⟨⟨rfl, trivial⟩, rfl⟩ ?_
    refine JO.done rfl ?_
    refine JS.cond rfl (fun ht11 => ?_) (fun ht11 => ?_)
    · have h := condT h ht11
      refine JS.seq ?_
      refine JS.region ?_
      refine JO.reg ttOk 1 [] [] [(2, .v (.bool true))] _ rfl ⟨⟨rfl, trivial⟩, rfl⟩ ?_
      refine JO.done rfl ?_
      cases h
      exact JS.ret ttOk () trivial rfl rfl [] rfl
    · have h := condF h ht11
      refine JS.skip ?_
      refine JS.seq ?_
      refine JS.region ?_
      refine JO.reg ttOk 1 [] [] [(11, .v (.string (bs x0)))] _ rfl ⟨⟨rfl, trivial⟩, rfl⟩ ?_
      obtain ⟨⟨y2, y3⟩, hy4, h⟩ := bindO_some h
      refine JO.call rfl rfl rfl rfl (ok_s_Delim x0 _ hy4) rfl [] rfl rfl ?_
      intro _ _
      refine JO.reg ttOk 5 [] [] [(3, .v (.string (bs y2))), (4, .v (.bool y3))] _ rfl ⟨⟨rfl, rfl, trivial⟩, rfl⟩ ?_
      refine JO.done rfl ?_
      refine JS.seq ?_
      refine JS.region ?_
      refine JO.reg ttOk 1 [] [] [(16, .v (.string (bs x0)))] _ rfl ⟨⟨rfl, trivial⟩, rfl⟩ ?_
      obtain ⟨⟨y5, y6⟩, hy7, h⟩ := bindO_some h
      refine JO.call rfl rfl rfl rfl (ok_i_Delim x0 _ hy7) rfl [] rfl rfl ?_
      intro _ _
      refine JO.reg ttOk 5 [] [] [(5, .v (.string (bs y5))), (6, .v (.bool y6))] _ rfl ⟨⟨rfl, rfl, trivial⟩, rfl⟩ ?_
      refine JO.done rfl ?_
      refine JS.seq ?_
      refine JS.seq ?_
      refine JS.region ?_
      refine JO.reg ttOk 8 [] [] [(27, .v (.bool (bif (!(decide (y5 = y2))) then true else (!(y6 == y3)))))] _ rfl ⟨⟨rfl, trivial⟩, rfl⟩ ?_
      refine JO.done rfl ?_
      refine JS.cond rfl (fun ht10 => ?_) (fun ht10 => ?_)
      · have h := condT h ht10
        refine JS.seq ?_
        refine JS.region ?_
        refine JO.reg ttOk 1 [] [] [(2, .v (.bool false))] _ rfl ⟨⟨rfl, trivial⟩, rfl⟩ ?_
        refine JO.done rfl ?_
        cases h
        exact JS.ret ttOk () trivial rfl rfl [] rfl
      · have h := condF h ht10
        refine JS.skip ?_
        refine JS.seq ?_
        refine JS.region ?_
        refine JO.reg ttOk 1 [] [] [(2, .v (.bool true))] _ rfl ⟨⟨rfl, trivial⟩, rfl⟩ ?_
        refine JO.done rfl ?_
        cases h
        exact JS.ret ttOk () trivial rfl rfl [] rfl

end
end Go.Eng
