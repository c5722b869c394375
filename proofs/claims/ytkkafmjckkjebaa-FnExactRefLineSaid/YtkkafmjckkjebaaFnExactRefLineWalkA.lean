/- The walks of the functions that FnExactRefLine reaches: what each computes, as a plain function (M_..), and that the model computes it (ok_..). Condition of each: that the plain function answers. -/
import Derived.Test.YtkkafmjckkjebaaEngB
import Derived.Test.YtkkafmjckkjebaaChecked
import Derived.Lib.Strings
import Derived.Lib.Slices
import Derived.Lib.Walk
import Derived.Lib.Bytealg
set_option linter.unusedVariables false
set_option linter.unusedSimpArgs false
namespace Go.Proofs

set_option maxHeartbeats 1000000 in
/-- strings.HasPrefix: "HasPrefix reports whether the string s begins with prefix.": IT RETURNS 'Lib.hasPrefix s prefix'; the world is as it was. -/
theorem Try.strings_HasPrefix (s p : ByteArray) (w : World) :
    Calls Try.prog 24 #[.string s, .string p] w fun e w' => e = .returned (.bool (Lib.hasPrefix s.data.toList p.data.toList)) ∧ w' = w := by
  rw [← Lib.hasPrefix_of_take, ← Lib.size_eq, ← Lib.size_eq]
  go_enter Try.func24, Try.ntmps24
  go_wp2
  · rename_i h
    go_ret
    refine ⟨?_, rfl⟩
    show Ending.returned (Value.bool ((s.extract 0 p.size).toList == p.toList)) = _
    rw [Lib.extract_toList, Lib.toList_data]
    simp [h]
  · rename_i h
    go_ret
    refine ⟨?_, rfl⟩
    show Ending.returned (Value.bool false) = _
    simp [h]

end Go.Proofs

namespace Go.Proofs

set_option maxHeartbeats 1000000 in
set_option maxRecDepth 100000 in
/-- internal/stringslite.IndexByte (what strings.IndexByte calls): IT RETURNS 'Lib.indexByte s c'; the world is as it was. -/
theorem Try.stringslite_IndexByte (s : ByteArray) (c : Int) (w : World) :
    Calls Try.prog 29 #[.string s, .int .u8 c] w fun e w' => e = .returned (.int .i64 (Lib.indexByte s.data.toList c.toNat.toUInt8)) ∧ w' = w := by
  go_enter Try.func29, Try.ntmps29
  go_wp2
  rw [run_callFunc_extern Try.func33 (by kernel_rfl) (by kernel_rfl) (by kernel_rfl) (e := Extern.BytealgIndexByte.indexByte) (by kernel_rfl), Lib.run_indexByteString]
  simp only [Result.andThen]
  rw [Oper.upon_value]
  go_wp2
  go_ret
  exact ⟨rfl, rfl⟩

end Go.Proofs

namespace Go.Proofs

set_option maxHeartbeats 2000000 in
set_option maxRecDepth 100000 in
/-- internal/stringslite.Index (what strings.Index calls) AT A substr OF ONE BYTE c: IT RETURNS 'Lib.indexByte s c'; the world is as it was. -/
theorem Try.stringslite_Index_one (s : ByteArray) (c : UInt8) (w : World) :
    Calls Try.prog 28 #[.string s, .string ⟨#[c]⟩] w fun e w' => e = .returned (.int .i64 (Lib.indexByte s.data.toList c)) ∧ w' = w := by
  go_enter Try.func28, Try.ntmps28
  go_wp2_with (go_at_call 29; refine (Try.stringslite_IndexByte _ _ _).mono ?_; rintro e w' ⟨rfl, rfl⟩)
  · have h : ([c] == s.toList) = true := by assumption
    go_ret
    refine ⟨?_, rfl⟩
    have e : s.data.toList = [c] := by rw [← Lib.toList_data]; exact (beq_iff_eq.1 h).symm
    rw [e]
    simp [Lib.indexByte]
  · go_ret
    exact ⟨rfl, rfl⟩

end Go.Proofs

namespace Go.Proofs

set_option maxHeartbeats 1000000 in
/-- strings.Index: "Index returns the index of the first instance of substr in s, or -1 if substr is not present in s.": AT A substr OF ONE BYTE c: IT RETURNS 'Lib.indexByte s c'; the world is as it was. -/
theorem Try.strings_Index_one (s : ByteArray) (c : UInt8) (w : World) :
    Calls Try.prog 27 #[.string s, .string ⟨#[c]⟩] w fun e w' => e = .returned (.int .i64 (Lib.indexByte s.data.toList c)) ∧ w' = w := by
  go_enter Try.func27, Try.ntmps27
  go_wp2_with (go_at_call 28; refine (Try.stringslite_Index_one _ _ _).mono ?_; rintro e w' ⟨rfl, rfl⟩)
  go_ret
  exact ⟨rfl, rfl⟩

end Go.Proofs

namespace Go.Proofs

set_option maxHeartbeats 1000000 in
/-- strings.Contains: "Contains reports whether substr is within s.": AT A substr OF ONE BYTE c: IT RETURNS 'decide (0 ≤ Lib.indexByte s c)'; the world is as it was. -/
theorem Try.strings_Contains_one (s : ByteArray) (c : UInt8) (w : World) :
    Calls Try.prog 25 #[.string s, .string ⟨#[c]⟩] w fun e w' => e = .returned (.bool (decide (0 ≤ Lib.indexByte s.data.toList c))) ∧ w' = w := by
  go_enter Try.func25, Try.ntmps25
  go_wp2_with (go_at_call 27; refine (Try.strings_Index_one _ _ _).mono ?_; rintro e w' ⟨rfl, rfl⟩)
  go_ret
  exact ⟨rfl, rfl⟩

end Go.Proofs

namespace Go.Eng
open Go Go.Proofs
noncomputable section

def TTx : TT := [
  (2, ⟨.int .i64, 1, 8, [.int .i64 0]⟩),
  (3, ⟨.int .i64, 1, 8, [.int .i64 0]⟩),
  (4, ⟨.bool, 1, 1, [.bool false]⟩),
  (5, ⟨.int .u8, 1, 1, [.int .u8 0]⟩),
  (6, ⟨.int .u8, 1, 1, [.int .u8 0]⟩),
  (7, ⟨.struct [(0, 2), (1, 3), (2, 4), (3, 6)], 4, 24, [.int .i64 0, .int .i64 0, .bool false, .int .u8 0]⟩),
  (8, ⟨.struct [(0, 2), (1, 3), (2, 4), (3, 6)], 4, 24, [.int .i64 0, .int .i64 0, .bool false, .int .u8 0]⟩),
  (9, ⟨.str, 1, 16, [.string ByteArray.empty]⟩),
  (10, ⟨.str, 1, 16, [.string ByteArray.empty]⟩),
  (11, ⟨.str, 1, 16, [.string ByteArray.empty]⟩),
  (12, ⟨.int .u64, 1, 8, [.int .u64 0]⟩),
  (13, ⟨.struct [(0, 9), (1, 12)], 2, 24, [.string ByteArray.empty, .int .u64 0]⟩),
  (14, ⟨.struct [(0, 9), (1, 12)], 2, 24, [.string ByteArray.empty, .int .u64 0]⟩),
  (21, ⟨.int .i32, 1, 4, [.int .i32 0]⟩),
  (22, ⟨.slice 9, 1, 24, [.slice none 0 0]⟩),
  (23, ⟨.struct [(0, 3), (1, 22)], 2, 32, [.int .i64 0, .slice none 0 0]⟩),
  (24, ⟨.struct [(0, 3), (1, 22)], 2, 32, [.int .i64 0, .slice none 0 0]⟩),
  (25, ⟨.struct [(0, 3), (1, 3), (2, 9), (3, 3)], 4, 40, [.int .i64 0, .int .i64 0, .string ByteArray.empty, .int .i64 0]⟩),
  (26, ⟨.struct [(0, 3), (1, 3), (2, 9), (3, 3)], 4, 40, [.int .i64 0, .int .i64 0, .string ByteArray.empty, .int .i64 0]⟩),
  (31, ⟨.struct [(0, 3), (1, 22)], 2, 32, [.int .i64 0, .slice none 0 0]⟩),
  (33, ⟨.struct [(0, 3), (1, 3), (2, 9), (3, 3)], 4, 40, [.int .i64 0, .int .i64 0, .string ByteArray.empty, .int .i64 0]⟩),
  (50, ⟨.int .u64, 1, 8, [.int .u64 0]⟩),
  (51, ⟨.int .u32, 1, 4, [.int .u32 0]⟩),
  (61, ⟨.int .u8, 1, 1, [.int .u8 0]⟩),
  (62, ⟨.int .u8, 1, 1, [.int .u8 0]⟩),
  (65, ⟨.int .i32, 1, 4, [.int .i32 0]⟩),
  (66, ⟨.int .i32, 1, 4, [.int .i32 0]⟩)]

set_option maxRecDepth 100000 in
theorem ttOk : TTok Try.prog TTx := TTok.of (by
  simp only [TTx, List.forall_mem_cons]
  exact ⟨⟨⟨_, _, rfl, rfl, rfl, rfl, rfl⟩, rfl⟩, ⟨⟨_, _, rfl, rfl, rfl, rfl, rfl⟩, rfl⟩, ⟨⟨_, _, rfl, rfl, rfl, rfl, rfl⟩, rfl⟩, ⟨⟨_, _, rfl, rfl, rfl, rfl, rfl⟩, rfl⟩, ⟨⟨_, _, rfl, rfl, rfl, rfl, rfl⟩, rfl⟩, ⟨⟨_, _, rfl, rfl, rfl, rfl, rfl⟩, ⟨_, rfl, rfl⟩⟩, ⟨⟨_, _, rfl, rfl, rfl, rfl, rfl⟩, ⟨_, rfl, rfl⟩⟩, ⟨⟨_, _, rfl, rfl, rfl, rfl, rfl⟩, rfl⟩, ⟨⟨_, _, rfl, rfl, rfl, rfl, rfl⟩, rfl⟩, ⟨⟨_, _, rfl, rfl, rfl, rfl, rfl⟩, rfl⟩, ⟨⟨_, _, rfl, rfl, rfl, rfl, rfl⟩, rfl⟩, ⟨⟨_, _, rfl, rfl, rfl, rfl, rfl⟩, ⟨_, rfl, rfl⟩⟩, ⟨⟨_, _, rfl, rfl, rfl, rfl, rfl⟩, ⟨_, rfl, rfl⟩⟩, ⟨⟨_, _, rfl, rfl, rfl, rfl, rfl⟩, rfl⟩, ⟨⟨_, _, rfl, rfl, rfl, rfl, rfl⟩, rfl⟩, ⟨⟨_, _, rfl, rfl, rfl, rfl, rfl⟩, ⟨_, rfl, rfl⟩⟩, ⟨⟨_, _, rfl, rfl, rfl, rfl, rfl⟩, ⟨_, rfl, rfl⟩⟩, ⟨⟨_, _, rfl, rfl, rfl, rfl, rfl⟩, ⟨_, rfl, rfl⟩⟩, ⟨⟨_, _, rfl, rfl, rfl, rfl, rfl⟩, ⟨_, rfl, rfl⟩⟩, ⟨⟨_, _, rfl, rfl, rfl, rfl, rfl⟩, ⟨_, rfl, rfl⟩⟩, ⟨⟨_, _, rfl, rfl, rfl, rfl, rfl⟩, ⟨_, rfl, rfl⟩⟩, ⟨⟨_, _, rfl, rfl, rfl, rfl, rfl⟩, rfl⟩, ⟨⟨_, _, rfl, rfl, rfl, rfl, rfl⟩, rfl⟩, ⟨⟨_, _, rfl, rfl, rfl, rfl, rfl⟩, rfl⟩, ⟨⟨_, _, rfl, rfl, rfl, rfl, rfl⟩, rfl⟩, ⟨⟨_, _, rfl, rfl, rfl, rfl, rfl⟩, rfl⟩, ⟨⟨_, _, rfl, rfl, rfl, rfl, rfl⟩, rfl⟩, by simp⟩)

def M_l_szStringS_L1 (x0 : List (List UInt8)) (j19 : Int → Option Int) (k13 : (Int × Int) → Option Int) : (Int × Int) → Option Int := fun (x7, x8) =>
  (bif (decide (x8 < (x0.length : Int))) then
  (guardO (0 ≤ x8 ∧ x8 < (x0.length : Int)) <|
  (bif (decide ((W (x7 - ((at' x0 x8).length : Int))) < 0)) then
  some (-1)
  else
  k13 ((W (x7 - ((at' x0 x8).length : Int))), (W (x8 + 1)))))
  else
  j19 x7)

def M_l_szStringS (x0 : List (List UInt8)) (x1 : Int) : Option Int :=
  (bif (decide ((W (x1 - (x0.length : Int))) < 0)) then
  some (-1)
  else
  (joinO (fun (x18 : Int) =>
  some x18) fun j19 =>
  (fixF (M_l_szStringS_L1 x0 j19) FUEL ((W (x1 - (x0.length : Int))), 0))))

theorem ok_l_szStringS (x0 : List (List UInt8)) (x1 : Int) (a3 : Option Addr) (c4 : Nat) (l5 : Nat) (hl6 : x0.length = l5) (r : Int) (h : M_l_szStringS x0 x1 = some r) :
    FC Try.prog 11 [.slice a3 l5 c4, .int .i64 x1] [⟨.str, ⟨a3, l5, c4⟩, x0⟩] (fun _ : Unit => True) (fun _ => .int .i64 r) (fun _ => []) :=
  by
    subst hl6
    refine FC.of (T := TTx) Try.call11 Try.func11 rfl rfl fun w0 => ?_
    unfold M_l_szStringS at h
    refine JS.seq ?_
    refine JS.region ?_
    refine JO.reg ttOk 1 [] [] [] _ rfl ⟨trivial, rfl⟩ ?_
    refine JO.done rfl ?_
    refine JS.seq ?_
    refine JS.region ?_
    refine JO.reg ttOk 5 [(W (x1 - (x0.length : Int)))] [] [(1, .v (.int .i64 (W (x1 - (x0.length : Int)))))] _ rfl ⟨⟨trivial, rfl⟩, ⟨rfl, trivial⟩, rfl⟩ ?_
    refine JO.done rfl ?_
    refine JS.seq ?_
    refine JS.seq ?_
    refine JS.region ?_
    refine JO.reg ttOk 2 [] [] [(11, .v (.bool (decide ((W (x1 - (x0.length : Int))) < 0))))] _ rfl ⟨⟨rfl, trivial⟩, rfl⟩ ?_
    refine JO.done rfl ?_
    refine JS.cond rfl (fun ht29 => ?_) (fun ht29 => ?_)
    · have h := condT h ht29
      refine JS.seq ?_
      refine JS.region ?_
      refine JO.reg ttOk 1 [] [] [(4, .v (.int .i64 (-1)))] _ rfl ⟨⟨rfl, trivial⟩, rfl⟩ ?_
      refine JO.done rfl ?_
      cases h
      exact JS.ret ttOk () trivial rfl rfl [] rfl
    · have h := condF h ht29
      refine JS.skip ?_
      refine JS.seq ?_
      refine JS.seq ?_
      refine JS.region ?_
      refine JO.reg ttOk 1 [] [] [(5, .v (.int .i64 0))] _ rfl ⟨⟨rfl, trivial⟩, rfl⟩ ?_
      refine JO.done rfl ?_
      obtain ⟨j19, hj28, h⟩ := joinO_some h
      refine JS.blockJ (ι := Int) ⟨fun z => j19 z = some r, fun z => [(1, .v (.int .i64 z))], fun z => .nil, fun z => [], fun z => [], fun z => 0⟩ ?_ ?_
      · refine JS.loop (ι := Nat × Int × Int) ⟨fun z => fixF (M_l_szStringS_L1 x0 j19) z.1 (z.2.1, z.2.2) = some r, fun z => [(0, .v (.slice a3 x0.length c4)), (1, .v (.int .i64 z.2.1)), (5, .v (.int .i64 z.2.2))], fun z => .nil, fun z => [⟨.str, ⟨a3, x0.length, c4⟩, x0⟩], fun z => [], fun z => z.1⟩ (FUEL, (W (x1 - (x0.length : Int))), 0) h ⟨rfl, rfl, rfl, trivial⟩ trivial [0] rfl [] rfl ?_
        rintro ⟨n14, x7, x8⟩ h
        obtain ⟨n14, rfl, h⟩ := fixF_some h
        rw [M_l_szStringS_L1] at h
        refine JS.seq ?_
        refine JS.seq ?_
        refine JS.region ?_
        refine JO.reg ttOk 4 [] [] [(15, .v (.bool (decide (x8 < (x0.length : Int)))))] _ rfl ⟨⟨rfl, trivial⟩, rfl⟩ ?_
        refine JO.done rfl ?_
        refine JS.cond rfl (fun ht27 => ?_) (fun ht27 => ?_)
        · have h := condT h ht27
          refine JS.skip ?_
          refine JS.seq ?_
          refine JS.block ?_
          refine JS.seq ?_
          refine JS.region ?_
          refine JO.know 0 rfl fun hs25 => ?_
          obtain ⟨g10, h⟩ := guardO_some h
          refine JO.reg ttOk 4 [] [] [(18, .v (.int .i64 x7)), (21, .ep ⟨a3, x0.length, c4⟩ (Int.toNat x8 * 1))] _ rfl ⟨hs25.ix g10, ⟨rfl, rfl, trivial⟩, rfl⟩ ?_
          refine JO.load ttOk rfl rfl rfl rfl rfl rfl rfl 0 rfl rfl (Int.toNat x8) 0 (at' x0 x8) ⟨at_some g10, rfl⟩ rfl rfl ?_
          refine JO.reg ttOk 3 [(W (x7 - ((at' x0 x8).length : Int)))] [] [(1, .v (.int .i64 (W (x7 - ((at' x0 x8).length : Int)))))] _ rfl ⟨⟨trivial, rfl⟩, ⟨rfl, trivial⟩, rfl⟩ ?_
          refine JO.done rfl ?_
          refine JS.seq ?_
          refine JS.region ?_
          refine JO.reg ttOk 2 [] [] [(26, .v (.bool (decide ((W (x7 - ((at' x0 x8).length : Int))) < 0))))] _ rfl ⟨⟨rfl, trivial⟩, rfl⟩ ?_
          refine JO.done rfl ?_
          refine JS.cond rfl (fun ht26 => ?_) (fun ht26 => ?_)
          · have h := condT h ht26
            refine JS.seq ?_
            refine JS.region ?_
            refine JO.reg ttOk 1 [] [] [(4, .v (.int .i64 (-1)))] _ rfl ⟨⟨rfl, trivial⟩, rfl⟩ ?_
            refine JO.done rfl ?_
            cases h
            exact JS.ret ttOk () trivial rfl rfl [] rfl
          · have h := condF h ht26
            refine JS.skip ?_
            refine JS.endB ?_
            refine JS.region ?_
            refine JO.reg ttOk 3 [(W (x8 + 1))] [] [(5, .v (.int .i64 (W (x8 + 1))))] _ rfl ⟨⟨trivial, rfl⟩, ⟨rfl, trivial⟩, rfl⟩ ?_
            refine JO.done rfl ?_
            exact JS.endL (n14, (W (x7 - ((at' x0 x8).length : Int))), (W (x8 + 1))) h (Nat.lt_succ_self _) ⟨rfl, rfl, rfl, trivial⟩ trivial [0] rfl [] rfl
        · have h := condF h ht27
          refine JS.exit rfl ?_
          exact JS.endJ x7 h ⟨rfl, trivial⟩ trivial [] rfl [] rfl
      · rintro x18 h
        subst hj28
        refine JS.seq ?_
        refine JS.region ?_
        refine JO.reg ttOk 2 [] [] [(4, .v (.int .i64 x18))] _ rfl ⟨⟨rfl, trivial⟩, rfl⟩ ?_
        refine JO.done rfl ?_
        cases h
        exact JS.ret ttOk () trivial rfl rfl [] rfl

def M_l_szHist (x0 : Int × List (List UInt8)) (x1 : Int) : Option Int :=
  (bindO (M_l_szStringS x0.2 x1) fun (y7 : Int) =>
  (bif (decide (y7 < 0)) then
  some (-1)
  else
  some y7))

theorem ok_l_szHist (x0 : Int × List (List UInt8)) (x1 : Int) (a3 : Option Addr) (c4 : Nat) (l5 : Nat) (hl6 : x0.2.length = l5) (r : Int) (h : M_l_szHist x0 x1 = some r) :
    FC Try.prog 4 [.agg #[.int .i64 x0.1, .slice a3 l5 c4], .int .i64 x1] [⟨.str, ⟨a3, l5, c4⟩, x0.2⟩] (fun _ : Unit => True) (fun _ => .int .i64 r) (fun _ => []) :=
  by
    subst hl6
    refine FC.of (T := TTx) Try.call4 Try.func4 rfl rfl fun w0 => ?_
    unfold M_l_szHist at h
    refine JS.seq ?_
    refine JS.region ?_
    refine JO.regB ttOk 2 [] [2] [(2, .bp 2 0)] (.new 2 24 [.int .i64 x0.1, .slice a3 x0.2.length c4] .nil) rfl ⟨⟨rfl, trivial⟩, ⟨rfl, rfl, rfl, rfl, trivial⟩⟩ ?_
    refine JO.done rfl ?_
    refine JS.seq ?_
    refine JS.region ?_
    refine JO.reg ttOk 3 [] [] [(6, .v (.slice a3 x0.2.length c4)), (7, .v (.int .i64 x1))] _ rfl ⟨⟨rfl, rfl, trivial⟩, rfl⟩ ?_
    obtain ⟨y7, hy8, h⟩ := bindO_some h
    refine JO.call rfl rfl rfl rfl (ok_l_szStringS x0.2 x1 a3 c4 x0.2.length rfl _ hy8) rfl [0] rfl rfl ?_
    intro _ _
    refine JO.reg ttOk 1 [] [] [(1, .v (.int .i64 y7))] _ rfl ⟨⟨rfl, trivial⟩, rfl⟩ ?_
    refine JO.done rfl ?_
    refine JS.seq ?_
    refine JS.seq ?_
    refine JS.region ?_
    refine JO.reg ttOk 2 [] [] [(10, .v (.bool (decide (y7 < 0))))] _ rfl ⟨⟨rfl, trivial⟩, rfl⟩ ?_
    refine JO.done rfl ?_
    refine JS.cond rfl (fun ht10 => ?_) (fun ht10 => ?_)
    · have h := condT h ht10
      refine JS.seq ?_
      refine JS.region ?_
      refine JO.reg ttOk 1 [] [] [(4, .v (.int .i64 (-1)))] _ rfl ⟨⟨rfl, trivial⟩, rfl⟩ ?_
      refine JO.done rfl ?_
      cases h
      exact JS.ret ttOk () trivial rfl rfl [] rfl
    · have h := condF h ht10
      refine JS.skip ?_
      refine JS.seq ?_
      refine JS.region ?_
      refine JO.reg ttOk 2 [] [] [(4, .v (.int .i64 y7))] _ rfl ⟨⟨rfl, trivial⟩, rfl⟩ ?_
      refine JO.done rfl ?_
      cases h
      exact JS.ret ttOk () trivial rfl rfl [] rfl

def M_l_szRef (x0 : Int × Int × List UInt8 × Int) (x1 : Int) : Option Int :=
  (bif (decide ((W (x1 - (x0.2.2.1.length : Int))) < 0)) then
  some (-1)
  else
  some (W (x1 - (x0.2.2.1.length : Int))))

theorem ok_l_szRef (x0 : Int × Int × List UInt8 × Int) (x1 : Int) (r : Int) (h : M_l_szRef x0 x1 = some r) :
    FC Try.prog 5 [.agg #[.int .i64 x0.1, .int .i64 x0.2.1, .string (bs x0.2.2.1), .int .i64 x0.2.2.2], .int .i64 x1] [] (fun _ : Unit => True) (fun _ => .int .i64 r) (fun _ => []) :=
  by
    refine FC.of (T := TTx) Try.call5 Try.func5 rfl rfl fun w0 => ?_
    unfold M_l_szRef at h
    refine JS.seq ?_
    refine JS.region ?_
    refine JO.regB ttOk 2 [] [1] [(2, .bp 1 0)] (.new 1 26 [.int .i64 x0.1, .int .i64 x0.2.1, .string (bs x0.2.2.1), .int .i64 x0.2.2.2] .nil) rfl ⟨⟨rfl, trivial⟩, ⟨rfl, rfl, rfl, rfl, trivial⟩⟩ ?_
    refine JO.done rfl ?_
    refine JS.seq ?_
    refine JS.region ?_
    refine JO.reg ttOk 6 [(W (x1 - (x0.2.2.1.length : Int)))] [] [(1, .v (.int .i64 (W (x1 - (x0.2.2.1.length : Int)))))] _ rfl ⟨⟨trivial, rfl⟩, ⟨rfl, trivial⟩, rfl⟩ ?_
    refine JO.done rfl ?_
    refine JS.seq ?_
    refine JS.seq ?_
    refine JS.region ?_
    refine JO.reg ttOk 2 [] [] [(11, .v (.bool (decide ((W (x1 - (x0.2.2.1.length : Int))) < 0))))] _ rfl ⟨⟨rfl, trivial⟩, rfl⟩ ?_
    refine JO.done rfl ?_
    refine JS.cond rfl (fun ht4 => ?_) (fun ht4 => ?_)
    · have h := condT h ht4
      refine JS.seq ?_
      refine JS.region ?_
      refine JO.reg ttOk 1 [] [] [(4, .v (.int .i64 (-1)))] _ rfl ⟨⟨rfl, trivial⟩, rfl⟩ ?_
      refine JO.done rfl ?_
      cases h
      exact JS.ret ttOk () trivial rfl rfl [] rfl
    · have h := condF h ht4
      refine JS.skip ?_
      refine JS.seq ?_
      refine JS.region ?_
      refine JO.reg ttOk 2 [] [] [(4, .v (.int .i64 (W (x1 - (x0.2.2.1.length : Int)))))] _ rfl ⟨⟨rfl, trivial⟩, rfl⟩ ?_
      refine JO.done rfl ?_
      cases h
      exact JS.ret ttOk () trivial rfl rfl [] rfl

def M_l_toStringS_L1 (x0 : List (List UInt8)) (j25 : (List (List UInt8)) → Option (List (List UInt8))) (k17 : (List (List UInt8) × Int) → Option (List (List UInt8))) : (List (List UInt8) × Int) → Option (List (List UInt8)) := fun (x8, x11) =>
  (bif (decide (x11 < (x0.length : Int))) then
  (guardO (0 ≤ x11 ∧ x11 < (x0.length : Int)) <|
  (guardO (0 ≤ x11 ∧ x11 < (x8.length : Int)) <|
  k17 ((List.set x8 (Int.toNat x11) (at' x0 x11)), (W (x11 + 1)))))
  else
  j25 x8)

def M_l_toStringS (x0 : List (List UInt8)) : Option (List (List UInt8)) :=
  (guardO (x0.length ≤ 536870912) <|
  (joinO (fun (x22 : List (List UInt8)) =>
  some x22) fun j25 =>
  (fixF (M_l_toStringS_L1 x0 j25) FUEL ((List.replicate x0.length []), 0))))

theorem ok_l_toStringS (x0 : List (List UInt8)) (a2 : Option Addr) (c3 : Nat) (l4 : Nat) (hl5 : x0.length = l4) (r : List (List UInt8)) (h : M_l_toStringS x0 = some r) :
    FC Try.prog 15 [.slice a2 l4 c3] [⟨.str, ⟨a2, l4, c3⟩, x0⟩] (fun _ : Option Addr × Nat => True) (fun q => .slice q.1 r.length q.2) (fun q => [⟨.str, ⟨q.1, r.length, q.2⟩, r⟩]) :=
  by
    subst hl5
    refine FC.of (T := TTx) Try.call15 Try.func15 rfl rfl fun w0 => ?_
    unfold M_l_toStringS at h
    refine JS.seq ?_
    refine JS.region ?_
    refine JO.reg ttOk 1 [] [] [] _ rfl ⟨trivial, rfl⟩ ?_
    refine JO.done rfl ?_
    refine JS.seq ?_
    refine JS.region ?_
    refine JO.reg ttOk 2 [] [] [(6, .v (.int .i64 (x0.length : Int)))] _ rfl ⟨⟨rfl, trivial⟩, rfl⟩ ?_
    obtain ⟨g6, h⟩ := guardO_some h
    refine JO.makeSlice ttOk rfl rfl rfl rfl rfl rfl rfl rfl x0.length rfl g6 .str rfl rfl rfl rfl rfl ?_
    intro a7
    refine JO.reg ttOk 1 [] [] [(3, .v (.slice a7 x0.length x0.length))] _ rfl ⟨⟨rfl, trivial⟩, rfl⟩ ?_
    refine JO.done rfl ?_
    refine JS.seq ?_
    refine JS.seq ?_
    refine JS.region ?_
    refine JO.reg ttOk 1 [] [] [(4, .v (.int .i64 0))] _ rfl ⟨⟨rfl, trivial⟩, rfl⟩ ?_
    refine JO.done rfl ?_
    obtain ⟨j25, hj33, h⟩ := joinO_some h
    refine JS.blockJ (ι := List (List UInt8) × Option Addr × Nat) ⟨fun z => j25 z.1 = some r, fun z => [(3, .v (.slice z.2.1 z.1.length z.2.2))], fun z => .nil, fun z => [], fun z => [⟨.str, ⟨z.2.1, z.1.length, z.2.2⟩, z.1⟩], fun z => 0⟩ ?_ ?_
    · refine JS.loop (ι := Nat × List (List UInt8) × Int × Option Addr × Nat) ⟨fun z => fixF (M_l_toStringS_L1 x0 j25) z.1 (z.2.1, z.2.2.1) = some r, fun z => [(0, .v (.slice a2 x0.length c3)), (3, .v (.slice z.2.2.2.1 z.2.1.length z.2.2.2.2)), (4, .v (.int .i64 z.2.2.1))], fun z => .nil, fun z => [⟨.str, ⟨a2, x0.length, c3⟩, x0⟩], fun z => [⟨.str, ⟨z.2.2.2.1, z.2.1.length, z.2.2.2.2⟩, z.2.1⟩], fun z => z.1⟩ (FUEL, (List.replicate x0.length []), 0, a7, x0.length) h ⟨rfl, (by simp only [List.length_set, List.length_replicate, pickO, getF]; rfl), rfl, trivial⟩ trivial [0] rfl [0] (by simp only [List.length_set, List.length_replicate, pickO, getF]; rfl) ?_
      rintro ⟨n18, x8, x11, a9, c10⟩ h
      obtain ⟨n18, rfl, h⟩ := fixF_some h
      rw [M_l_toStringS_L1] at h
      refine JS.seq ?_
      refine JS.seq ?_
      refine JS.region ?_
      refine JO.reg ttOk 4 [] [] [(11, .v (.bool (decide (x11 < (x0.length : Int)))))] _ rfl ⟨⟨rfl, trivial⟩, rfl⟩ ?_
      refine JO.done rfl ?_
      refine JS.cond rfl (fun ht32 => ?_) (fun ht32 => ?_)
      · have h := condT h ht32
        refine JS.skip ?_
        refine JS.seq ?_
        refine JS.block ?_
        refine JS.region ?_
        refine JO.know 0 rfl fun hs30 => ?_
        obtain ⟨g13, h⟩ := guardO_some h
        refine JO.reg ttOk 5 [] [] [(14, .v (.slice a9 x8.length c10)), (15, .v (.int .i64 x11)), (18, .ep ⟨a2, x0.length, c3⟩ (Int.toNat x11 * 1))] _ rfl ⟨hs30.ix g13, ⟨rfl, rfl, rfl, trivial⟩, rfl⟩ ?_
        refine JO.load ttOk rfl rfl rfl rfl rfl rfl rfl 0 rfl rfl (Int.toNat x11) 0 (at' x0 x11) ⟨at_some g13, rfl⟩ rfl rfl ?_
        refine JO.know 1 rfl fun hs31 => ?_
        obtain ⟨g15, h⟩ := guardO_some h
        refine JO.reg ttOk 1 [] [] [(20, .ep ⟨a9, x8.length, c10⟩ (Int.toNat x11 * 1))] _ rfl ⟨hs31.ix g15, ⟨rfl, trivial⟩, rfl⟩ ?_
        refine JO.storeE ttOk rfl rfl rfl rfl rfl rfl rfl rfl rfl [0] (fs := []) rfl (Int.toNat x11) 0 (at' x8 x11) (at' x0 x11) ⟨at_some g15, rfl⟩ ⟨rfl, rfl, rfl⟩ ?_
        refine JO.done rfl ?_
        refine JS.endB ?_
        refine JS.region ?_
        refine JO.reg ttOk 3 [(W (x11 + 1))] [] [(4, .v (.int .i64 (W (x11 + 1))))] _ rfl ⟨⟨trivial, rfl⟩, ⟨rfl, trivial⟩, rfl⟩ ?_
        refine JO.done rfl ?_
        exact JS.endL (n18, (List.set x8 (Int.toNat x11) (at' x0 x11)), (W (x11 + 1)), a9, c10) h (Nat.lt_succ_self _) ⟨rfl, (by simp only [List.length_set, List.length_replicate, pickO, getF]; rfl), rfl, trivial⟩ trivial [0] rfl [0] (by simp only [List.length_set, List.length_replicate, pickO, getF]; rfl)
      · have h := condF h ht32
        refine JS.exit rfl ?_
        exact JS.endJ (x8, a9, c10) h ⟨rfl, trivial⟩ trivial [] rfl [0] rfl
    · rintro ⟨x22, a23, c24⟩ h
      subst hj33
      refine JS.seq ?_
      refine JS.region ?_
      refine JO.reg ttOk 2 [] [] [(2, .v (.slice a23 x22.length c24))] _ rfl ⟨⟨rfl, trivial⟩, rfl⟩ ?_
      refine JO.done rfl ?_
      cases h
      exact JS.ret ttOk (a23, c24) trivial rfl rfl [0] rfl

def M_l_toHist (x0 : Int × List (List UInt8)) : Option (Int × List (List UInt8)) :=
  (bindO (M_l_toStringS x0.2) fun (y6 : List (List UInt8)) =>
  some (x0.1, y6))

theorem ok_l_toHist (x0 : Int × List (List UInt8)) (a2 : Option Addr) (c3 : Nat) (l4 : Nat) (hl5 : x0.2.length = l4) (r : Int × List (List UInt8)) (h : M_l_toHist x0 = some r) :
    FC Try.prog 7 [.agg #[.int .i64 x0.1, .slice a2 l4 c3]] [⟨.str, ⟨a2, l4, c3⟩, x0.2⟩] (fun _ : Option Addr × Nat => True) (fun q => .agg #[.int .i64 r.1, .slice q.1 r.2.length q.2]) (fun q => [⟨.str, ⟨q.1, r.2.length, q.2⟩, r.2⟩]) :=
  by
    subst hl5
    refine FC.of (T := TTx) Try.call7 Try.func7 rfl rfl fun w0 => ?_
    unfold M_l_toHist at h
    refine JS.seq ?_
    refine JS.region ?_
    refine JO.regB ttOk 2 [] [2, 3] [(1, .bp 2 0), (2, .bp 3 0)] (.new 2 24 [.int .i64 x0.1, .slice a2 x0.2.length c3] (.new 3 31 [.int .i64 0, .slice none 0 0] .nil)) rfl ⟨⟨rfl, rfl, trivial⟩, ⟨rfl, rfl, rfl, rfl, rfl, rfl, rfl, rfl, trivial⟩⟩ ?_
    refine JO.done rfl ?_
    refine JS.seq ?_
    refine JS.region ?_
    refine JO.regB ttOk 1 [] [4] [(3, .bp 4 0)] (.new 2 24 [.int .i64 x0.1, .slice a2 x0.2.length c3] (.new 3 31 [.int .i64 0, .slice none 0 0] (.new 4 31 [.int .i64 0, .slice none 0 0] .nil))) rfl ⟨⟨rfl, trivial⟩, ⟨rfl, rfl, rfl, rfl, rfl, rfl, rfl, rfl, rfl, rfl, rfl, rfl, trivial⟩⟩ ?_
    refine JO.done rfl ?_
    refine JS.seq ?_
    refine JS.region ?_
    refine JO.regB ttOk 4 [] [] [] (.new 2 24 [.int .i64 x0.1, .slice a2 x0.2.length c3] (.new 3 31 [.int .i64 0, .slice none 0 0] (.new 4 31 [.int .i64 x0.1, .slice none 0 0] .nil))) rfl ⟨trivial, ⟨rfl, rfl, rfl, rfl, rfl, rfl, rfl, rfl, rfl, rfl, rfl, rfl, trivial⟩⟩ ?_
    refine JO.done rfl ?_
    refine JS.seq ?_
    refine JS.region ?_
    refine JO.reg ttOk 2 [] [] [(8, .v (.slice a2 x0.2.length c3))] _ rfl ⟨⟨rfl, trivial⟩, rfl⟩ ?_
    obtain ⟨y6, hy7, h⟩ := bindO_some h
    refine JO.call rfl rfl rfl rfl (ok_l_toStringS x0.2 a2 c3 x0.2.length rfl _ hy7) rfl [0] rfl rfl ?_
    rintro ⟨a8, c9⟩ -
    refine JO.regB ttOk 2 [] [] [] (.new 3 31 [.int .i64 0, .slice none 0 0] (.new 4 31 [.int .i64 x0.1, .slice a8 y6.length c9] .nil)) rfl ⟨trivial, ⟨rfl, rfl, rfl, rfl, rfl, rfl, rfl, rfl, trivial⟩⟩ ?_
    refine JO.done rfl ?_
    refine JS.seq ?_
    refine JS.region ?_
    refine JO.regB ttOk 2 [] [] [] (.new 3 31 [.int .i64 x0.1, .slice a8 y6.length c9] .nil) rfl ⟨trivial, ⟨rfl, rfl, rfl, rfl, trivial⟩⟩ ?_
    refine JO.done rfl ?_
    cases h
    exact JS.ret ttOk (a8, c9) trivial rfl rfl [0] rfl

def M_l_toRef (x0 : Int × Int × List UInt8 × Int) : Option (Int × Int × List UInt8 × Int) :=
  some (x0.1, x0.2.1, x0.2.2.1, x0.2.2.2)

theorem ok_l_toRef (x0 : Int × Int × List UInt8 × Int) (r : Int × Int × List UInt8 × Int) (h : M_l_toRef x0 = some r) :
    FC Try.prog 8 [.agg #[.int .i64 x0.1, .int .i64 x0.2.1, .string (bs x0.2.2.1), .int .i64 x0.2.2.2]] [] (fun _ : Unit => True) (fun _ => .agg #[.int .i64 r.1, .int .i64 r.2.1, .string (bs r.2.2.1), .int .i64 r.2.2.2]) (fun _ => []) :=
  by
    refine FC.of (T := TTx) Try.call8 Try.func8 rfl rfl fun w0 => ?_
    unfold M_l_toRef at h
    refine JS.seq ?_
    refine JS.region ?_
    refine JO.regB ttOk 2 [] [1, 2] [(1, .bp 1 0), (2, .bp 2 0)] (.new 1 26 [.int .i64 x0.1, .int .i64 x0.2.1, .string (bs x0.2.2.1), .int .i64 x0.2.2.2] (.new 2 33 [.int .i64 0, .int .i64 0, .string (bs []), .int .i64 0] .nil)) rfl ⟨⟨rfl, rfl, trivial⟩, ⟨rfl, rfl, rfl, rfl, rfl, rfl, rfl, rfl, trivial⟩⟩ ?_
    refine JO.done rfl ?_
    refine JS.seq ?_
    refine JS.region ?_
    refine JO.regB ttOk 1 [] [3] [(3, .bp 3 0)] (.new 1 26 [.int .i64 x0.1, .int .i64 x0.2.1, .string (bs x0.2.2.1), .int .i64 x0.2.2.2] (.new 2 33 [.int .i64 0, .int .i64 0, .string (bs []), .int .i64 0] (.new 3 33 [.int .i64 0, .int .i64 0, .string (bs []), .int .i64 0] .nil))) rfl ⟨⟨rfl, trivial⟩, ⟨rfl, rfl, rfl, rfl, rfl, rfl, rfl, rfl, rfl, rfl, rfl, rfl, trivial⟩⟩ ?_
    refine JO.done rfl ?_
    refine JS.seq ?_
    refine JS.region ?_
    refine JO.regB ttOk 4 [] [] [] (.new 1 26 [.int .i64 x0.1, .int .i64 x0.2.1, .string (bs x0.2.2.1), .int .i64 x0.2.2.2] (.new 2 33 [.int .i64 0, .int .i64 0, .string (bs []), .int .i64 0] (.new 3 33 [.int .i64 x0.1, .int .i64 0, .string (bs []), .int .i64 0] .nil))) rfl ⟨trivial, ⟨rfl, rfl, rfl, rfl, rfl, rfl, rfl, rfl, rfl, rfl, rfl, rfl, trivial⟩⟩ ?_
    refine JO.done rfl ?_
    refine JS.seq ?_
    refine JS.region ?_
    refine JO.regB ttOk 4 [] [] [] (.new 1 26 [.int .i64 x0.1, .int .i64 x0.2.1, .string (bs x0.2.2.1), .int .i64 x0.2.2.2] (.new 2 33 [.int .i64 0, .int .i64 0, .string (bs []), .int .i64 0] (.new 3 33 [.int .i64 x0.1, .int .i64 x0.2.1, .string (bs []), .int .i64 0] .nil))) rfl ⟨trivial, ⟨rfl, rfl, rfl, rfl, rfl, rfl, rfl, rfl, rfl, rfl, rfl, rfl, trivial⟩⟩ ?_
    refine JO.done rfl ?_
    refine JS.seq ?_
    refine JS.region ?_
    refine JO.regB ttOk 4 [] [] [] (.new 1 26 [.int .i64 x0.1, .int .i64 x0.2.1, .string (bs x0.2.2.1), .int .i64 x0.2.2.2] (.new 2 33 [.int .i64 0, .int .i64 0, .string (bs []), .int .i64 0] (.new 3 33 [.int .i64 x0.1, .int .i64 x0.2.1, .string (bs x0.2.2.1), .int .i64 0] .nil))) rfl ⟨trivial, ⟨rfl, rfl, rfl, rfl, rfl, rfl, rfl, rfl, rfl, rfl, rfl, rfl, trivial⟩⟩ ?_
    refine JO.done rfl ?_
    refine JS.seq ?_
    refine JS.region ?_
    refine JO.regB ttOk 4 [] [] [] (.new 2 33 [.int .i64 0, .int .i64 0, .string (bs []), .int .i64 0] (.new 3 33 [.int .i64 x0.1, .int .i64 x0.2.1, .string (bs x0.2.2.1), .int .i64 x0.2.2.2] .nil)) rfl ⟨trivial, ⟨rfl, rfl, rfl, rfl, rfl, rfl, rfl, rfl, trivial⟩⟩ ?_
    refine JO.done rfl ?_
    refine JS.seq ?_
    refine JS.region ?_
    refine JO.regB ttOk 2 [] [] [] (.new 2 33 [.int .i64 x0.1, .int .i64 x0.2.1, .string (bs x0.2.2.1), .int .i64 x0.2.2.2] .nil) rfl ⟨trivial, ⟨rfl, rfl, rfl, rfl, trivial⟩⟩ ?_
    refine JO.done rfl ?_
    cases h
    exact JS.ret ttOk () trivial rfl rfl [] rfl

def M_s_HistOk_L1 (x0 : Int × List (List UInt8)) (j23 : Unit → Option Bool) (k18 : Int → Option Bool) : Int → Option Bool := fun x6 =>
  (bif (decide (x6 < (x0.2.length : Int))) then
  (guardO (0 ≤ x6 ∧ x6 < (x0.2.length : Int)) <|
  (bif (bif (decide (((at' x0.2 x6).length : Int) < 1)) then true else (decide (1000 < ((at' x0.2 x6).length : Int)))) then
  some false
  else
  k18 (W (x6 + 1))))
  else
  j23 ())

def M_s_HistOk (x0 : Int × List (List UInt8)) : Option Bool :=
  (joinO (fun (_ : Unit) =>
  some (bif (bif (decide (1 ≤ x0.1)) then (decide (x0.1 ≤ 1000000000)) else false) then (decide ((x0.2.length : Int) ≤ 60)) else false)) fun j23 =>
  (fixF (M_s_HistOk_L1 x0 j23) FUEL 0))

theorem ok_s_HistOk (x0 : Int × List (List UInt8)) (a2 : Option Addr) (c3 : Nat) (l4 : Nat) (hl5 : x0.2.length = l4) (r : Bool) (h : M_s_HistOk x0 = some r) :
    FC Try.prog 21 [.agg #[.int .i64 x0.1, .slice a2 l4 c3]] [⟨.str, ⟨a2, l4, c3⟩, x0.2⟩] (fun _ : Unit => True) (fun _ => .bool r) (fun _ => []) :=
  by
    subst hl5
    refine FC.of (T := TTx) Try.call21 Try.func21 rfl rfl fun w0 => ?_
    unfold M_s_HistOk at h
    refine JS.seq ?_
    refine JS.region ?_
    refine JO.regB ttOk 2 [] [2] [(1, .bp 2 0)] (.new 2 31 [.int .i64 x0.1, .slice a2 x0.2.length c3] .nil) rfl ⟨⟨rfl, trivial⟩, ⟨rfl, rfl, rfl, rfl, trivial⟩⟩ ?_
    refine JO.done rfl ?_
    refine JS.seq ?_
    refine JS.seq ?_
    refine JS.region ?_
    refine JO.reg ttOk 4 [] [] [(6, .v (.slice a2 x0.2.length c3)), (7, .v (.int .i64 (x0.2.length : Int))), (8, .v (.int .i64 0))] _ rfl ⟨⟨rfl, rfl, rfl, trivial⟩, rfl⟩ ?_
    refine JO.done rfl ?_
    obtain ⟨j23, hj31, h⟩ := joinO_some h
    refine JS.blockJ (ι := Unit) ⟨fun _ => j23 () = some r, fun _ => [(1, .bp 2 0)], fun _ => (.new 2 31 [.int .i64 x0.1, .slice a2 x0.2.length c3] .nil), fun _ => [⟨.str, ⟨a2, x0.2.length, c3⟩, x0.2⟩], fun _ => [], fun _ => 0⟩ ?_ ?_
    · refine JS.loop (ι := Nat × Int) ⟨fun z => fixF (M_s_HistOk_L1 x0 j23) z.1 z.2 = some r, fun z => [(1, .bp 2 0), (6, .v (.slice a2 x0.2.length c3)), (7, .v (.int .i64 (x0.2.length : Int))), (8, .v (.int .i64 z.2))], fun z => (.new 2 31 [.int .i64 x0.1, .slice a2 x0.2.length c3] .nil), fun z => [⟨.str, ⟨a2, x0.2.length, c3⟩, x0.2⟩], fun z => [], fun z => z.1⟩ (FUEL, 0) h ⟨rfl, rfl, rfl, rfl, trivial⟩ ⟨rfl, rfl, rfl, rfl, trivial⟩ [0] rfl [] rfl ?_
      rintro ⟨n19, x6⟩ h
      obtain ⟨n19, rfl, h⟩ := fixF_some h
      rw [M_s_HistOk_L1] at h
      refine JS.seq ?_
      refine JS.region ?_
      refine JO.reg ttOk 1 [] [] [(9, .v (.bool (decide (x6 < (x0.2.length : Int)))))] _ rfl ⟨⟨rfl, trivial⟩, rfl⟩ ?_
      refine JO.done rfl ?_
      refine JS.seq ?_
      refine JS.cond rfl (fun ht30 => ?_) (fun ht30 => ?_)
      · have h := condT h ht30
        refine JS.skip ?_
        refine JS.seq ?_
        refine JS.block ?_
        refine JS.seq ?_
        refine JS.region ?_
        refine JO.know 0 rfl fun hs28 => ?_
        obtain ⟨g12, h⟩ := guardO_some h
        refine JO.reg ttOk 1 [] [] [(10, .ep ⟨a2, x0.2.length, c3⟩ (Int.toNat x6 * 1))] _ rfl ⟨hs28.ix g12, ⟨rfl, trivial⟩, rfl⟩ ?_
        refine JO.load ttOk rfl rfl rfl rfl rfl rfl rfl 0 rfl rfl (Int.toNat x6) 0 (at' x0.2 x6) ⟨at_some g12, rfl⟩ rfl rfl ?_
        refine JO.reg ttOk 1 [] [] [(4, .v (.string (bs (at' x0.2 x6))))] _ rfl ⟨⟨rfl, trivial⟩, rfl⟩ ?_
        refine JO.done rfl ?_
        refine JS.seq ?_
        refine JS.region ?_
        refine JO.reg ttOk 8 [] [] [(19, .v (.bool (bif (decide (((at' x0.2 x6).length : Int) < 1)) then true else (decide (1000 < ((at' x0.2 x6).length : Int))))))] _ rfl ⟨⟨rfl, trivial⟩, rfl⟩ ?_
        refine JO.done rfl ?_
        refine JS.cond rfl (fun ht29 => ?_) (fun ht29 => ?_)
        · have h := condT h ht29
          refine JS.seq ?_
          refine JS.region ?_
          refine JO.reg ttOk 1 [] [] [(2, .v (.bool false))] _ rfl ⟨⟨rfl, trivial⟩, rfl⟩ ?_
          refine JO.done rfl ?_
          cases h
          exact JS.ret ttOk () trivial rfl rfl [] rfl
        · have h := condF h ht29
          refine JS.skip ?_
          refine JS.endB ?_
          refine JS.region ?_
          refine JO.reg ttOk 2 [(W (x6 + 1))] [] [(8, .v (.int .i64 (W (x6 + 1))))] _ rfl ⟨⟨trivial, rfl⟩, ⟨rfl, trivial⟩, rfl⟩ ?_
          refine JO.done rfl ?_
          exact JS.endL (n19, (W (x6 + 1))) h (Nat.lt_succ_self _) ⟨rfl, rfl, rfl, rfl, trivial⟩ ⟨rfl, rfl, rfl, rfl, trivial⟩ [0] rfl [] rfl
      · have h := condF h ht30
        refine JS.exit rfl ?_
        exact JS.endJ () h ⟨rfl, trivial⟩ ⟨rfl, rfl, rfl, rfl, trivial⟩ [0] rfl [] rfl
    · rintro _ h
      subst hj31
      refine JS.seq ?_
      refine JS.region ?_
      refine JO.reg ttOk 15 [] [] [(2, .v (.bool (bif (bif (decide (1 ≤ x0.1)) then (decide (x0.1 ≤ 1000000000)) else false) then (decide ((x0.2.length : Int) ≤ 60)) else false)))] _ rfl ⟨⟨rfl, trivial⟩, rfl⟩ ?_
      refine JO.done rfl ?_
      cases h
      exact JS.ret ttOk () trivial rfl rfl [] rfl

def M_s_HistLast (x0 : Int × List (List UInt8)) : Option Int :=
  (bindO (M_s_HistOk x0) fun (y6 : Bool) =>
  (bif (bif (!y6) then true else (decide ((x0.2.length : Int) = 0))) then
  some 0
  else
  some (W ((W (x0.1 + (x0.2.length : Int))) - 1))))

theorem ok_s_HistLast (x0 : Int × List (List UInt8)) (a2 : Option Addr) (c3 : Nat) (l4 : Nat) (hl5 : x0.2.length = l4) (r : Int) (h : M_s_HistLast x0 = some r) :
    FC Try.prog 12 [.agg #[.int .i64 x0.1, .slice a2 l4 c3]] [⟨.str, ⟨a2, l4, c3⟩, x0.2⟩] (fun _ : Unit => True) (fun _ => .int .i64 r) (fun _ => []) :=
  by
    subst hl5
    refine FC.of (T := TTx) Try.call12 Try.func12 rfl rfl fun w0 => ?_
    unfold M_s_HistLast at h
    refine JS.seq ?_
    refine JS.region ?_
    refine JO.regB ttOk 2 [] [2] [(1, .bp 2 0)] (.new 2 31 [.int .i64 x0.1, .slice a2 x0.2.length c3] .nil) rfl ⟨⟨rfl, trivial⟩, ⟨rfl, rfl, rfl, rfl, trivial⟩⟩ ?_
    refine JO.done rfl ?_
    refine JS.seq ?_
    refine JS.seq ?_
    refine JS.region ?_
    refine JO.reg ttOk 1 [] [] [(3, .v (.agg #[.int .i64 x0.1, .slice a2 x0.2.length c3]))] _ rfl ⟨⟨rfl, trivial⟩, rfl⟩ ?_
    obtain ⟨y6, hy7, h⟩ := bindO_some h
    refine JO.call rfl rfl rfl rfl (ok_s_HistOk x0 a2 c3 x0.2.length rfl _ hy7) rfl [0] rfl rfl ?_
    intro _ _
    refine JO.reg ttOk 7 [] [] [(11, .v (.bool (bif (!y6) then true else (decide ((x0.2.length : Int) = 0)))))] _ rfl ⟨⟨rfl, trivial⟩, rfl⟩ ?_
    refine JO.done rfl ?_
    refine JS.cond rfl (fun ht9 => ?_) (fun ht9 => ?_)
    · have h := condT h ht9
      refine JS.seq ?_
      refine JS.region ?_
      refine JO.reg ttOk 1 [] [] [(2, .v (.int .i64 0))] _ rfl ⟨⟨rfl, trivial⟩, rfl⟩ ?_
      refine JO.done rfl ?_
      cases h
      exact JS.ret ttOk () trivial rfl rfl [] rfl
    · have h := condF h ht9
      refine JS.skip ?_
      refine JS.seq ?_
      refine JS.region ?_
      refine JO.reg ttOk 8 [(W (x0.1 + (x0.2.length : Int))), (W ((W (x0.1 + (x0.2.length : Int))) - 1))] [] [(2, .v (.int .i64 (W ((W (x0.1 + (x0.2.length : Int))) - 1))))] _ rfl ⟨⟨trivial, rfl⟩, ⟨trivial, rfl⟩, ⟨rfl, trivial⟩, rfl⟩ ?_
      refine JO.done rfl ?_
      cases h
      exact JS.ret ttOk () trivial rfl rfl [] rfl

def M_s_l16In_L1 (x0 : List UInt8) (x1 : List UInt8) (x2 : Bool) (j14 : Unit → Option Bool) (k9 : Int → Option Bool) : Int → Option Bool := fun x4 =>
  (bif (decide ((W (x4 + (x1.length : Int))) ≤ (x0.length : Int))) then
  (guardO (0 ≤ x4 ∧ x4 ≤ (W (x4 + (x1.length : Int))) ∧ (W (x4 + (x1.length : Int))) ≤ (x0.length : Int)) <|
  (bif (decide ((sub' x0 x4 (W (x4 + (x1.length : Int)))) = x1)) then
  some true
  else
  (bif x2 then
  some false
  else
  k9 (W (x4 + 1)))))
  else
  j14 ())

def M_s_l16In (x0 : List UInt8) (x1 : List UInt8) (x2 : Bool) : Option Bool :=
  (joinO (fun (_ : Unit) =>
  some false) fun j14 =>
  (fixF (M_s_l16In_L1 x0 x1 x2 j14) FUEL 0))

theorem ok_s_l16In (x0 : List UInt8) (x1 : List UInt8) (x2 : Bool) (r : Bool) (h : M_s_l16In x0 x1 x2 = some r) :
    FC Try.prog 22 [.string (bs x0), .string (bs x1), .bool x2] [] (fun _ : Unit => True) (fun _ => .bool r) (fun _ => []) :=
  by
    refine FC.of (T := TTx) Try.call22 Try.func22 rfl rfl fun w0 => ?_
    unfold M_s_l16In at h
    refine JS.seq ?_
    refine JS.region ?_
    refine JO.reg ttOk 1 [] [] [] _ rfl ⟨trivial, rfl⟩ ?_
    refine JO.done rfl ?_
    refine JS.seq ?_
    refine JS.seq ?_
    refine JS.region ?_
    refine JO.reg ttOk 1 [] [] [(7, .v (.int .i64 0))] _ rfl ⟨⟨rfl, trivial⟩, rfl⟩ ?_
    refine JO.done rfl ?_
    obtain ⟨j14, hj22, h⟩ := joinO_some h
    refine JS.blockJ (ι := Unit) ⟨fun _ => j14 () = some r, fun _ => [], fun _ => .nil, fun _ => [], fun _ => [], fun _ => 0⟩ ?_ ?_
    · refine JS.loop (ι := Nat × Int) ⟨fun z => fixF (M_s_l16In_L1 x0 x1 x2 j14) z.1 z.2 = some r, fun z => [(0, .v (.string (bs x0))), (1, .v (.string (bs x1))), (2, .v (.bool x2)), (7, .v (.int .i64 z.2))], fun z => .nil, fun z => [], fun z => [], fun z => z.1⟩ (FUEL, 0) h ⟨rfl, rfl, rfl, rfl, trivial⟩ trivial [] rfl [] rfl ?_
      rintro ⟨n10, x4⟩ h
      obtain ⟨n10, rfl, h⟩ := fixF_some h
      rw [M_s_l16In_L1] at h
      refine JS.seq ?_
      refine JS.seq ?_
      refine JS.region ?_
      refine JO.reg ttOk 7 [(W (x4 + (x1.length : Int)))] [] [(14, .v (.bool (decide ((W (x4 + (x1.length : Int))) ≤ (x0.length : Int)))))] _ rfl ⟨⟨trivial, rfl⟩, ⟨rfl, trivial⟩, rfl⟩ ?_
      refine JO.done rfl ?_
      refine JS.cond rfl (fun ht21 => ?_) (fun ht21 => ?_)
      · have h := condT h ht21
        refine JS.skip ?_
        refine JS.seq ?_
        refine JS.block ?_
        refine JS.seq ?_
        refine JS.seq ?_
        refine JS.region ?_
        obtain ⟨g5, h⟩ := guardO_some h
        refine JO.reg ttOk 9 [(W (x4 + (x1.length : Int)))] [] [(25, .v (.bool (decide ((sub' x0 x4 (W (x4 + (x1.length : Int)))) = x1))))] _ rfl ⟨⟨trivial, rfl⟩, g5, ⟨rfl, trivial⟩, rfl⟩ ?_
        refine JO.done rfl ?_
        refine JS.cond rfl (fun ht20 => ?_) (fun ht20 => ?_)
        · have h := condT h ht20
          refine JS.seq ?_
          refine JS.region ?_
          refine JO.reg ttOk 1 [] [] [(6, .v (.bool true))] _ rfl ⟨⟨rfl, trivial⟩, rfl⟩ ?_
          refine JO.done rfl ?_
          cases h
          exact JS.ret ttOk () trivial rfl rfl [] rfl
        · have h := condF h ht20
          refine JS.skip ?_
          refine JS.seq ?_
          refine JS.region ?_
          refine JO.reg ttOk 1 [] [] [(26, .v (.bool x2))] _ rfl ⟨⟨rfl, trivial⟩, rfl⟩ ?_
          refine JO.done rfl ?_
          refine JS.cond rfl (fun ht19 => ?_) (fun ht19 => ?_)
          · have h := condT h ht19
            refine JS.seq ?_
            refine JS.region ?_
            refine JO.reg ttOk 1 [] [] [(6, .v (.bool false))] _ rfl ⟨⟨rfl, trivial⟩, rfl⟩ ?_
            refine JO.done rfl ?_
            cases h
            exact JS.ret ttOk () trivial rfl rfl [] rfl
          · have h := condF h ht19
            refine JS.skip ?_
            refine JS.endB ?_
            refine JS.region ?_
            refine JO.reg ttOk 3 [(W (x4 + 1))] [] [(7, .v (.int .i64 (W (x4 + 1))))] _ rfl ⟨⟨trivial, rfl⟩, ⟨rfl, trivial⟩, rfl⟩ ?_
            refine JO.done rfl ?_
            exact JS.endL (n10, (W (x4 + 1))) h (Nat.lt_succ_self _) ⟨rfl, rfl, rfl, rfl, trivial⟩ trivial [] rfl [] rfl
      · have h := condF h ht21
        refine JS.exit rfl ?_
        exact JS.endJ () h trivial trivial [] rfl [] rfl
    · rintro _ h
      subst hj22
      refine JS.seq ?_
      refine JS.region ?_
      refine JO.reg ttOk 1 [] [] [(6, .v (.bool false))] _ rfl ⟨⟨rfl, trivial⟩, rfl⟩ ?_
      refine JO.done rfl ?_
      cases h
      exact JS.ret ttOk () trivial rfl rfl [] rfl

def M_s_HistFind_L1 (x0 : Int × List (List UInt8)) (x1 : List UInt8) (x2 : Int) (x3 : Int) (x4 : Bool) (j47 : Int → Option Int) (k39 : (Int × Int) → Option Int) : (Int × Int) → Option Int := fun (x12, x13) =>
  (bif (decide (x13 < (x0.2.length : Int))) then
  (joinO (fun (x24 : Int) =>
  k39 (x24, (W (x13 + 1)))) fun j25 =>
  (guardO (0 ≤ x13 ∧ x13 < (x0.2.length : Int)) <|
  (bindO (M_s_l16In (at' x0.2 x13) x1 x4) fun (y20 : Bool) =>
  (bif (bif (bif (!y20) then true else (bif (decide (x3 = 1)) then (decide ((W (x0.1 + x13)) < x2)) else false)) then true else (bif (decide (x3 = (-1))) then (decide (x2 < (W (x0.1 + x13)))) else false)) then
  j25 x12
  else
  (bif (bif (decide (x12 = 0)) then true else (decide (x3 = (-1)))) then
  j25 (W (x0.1 + x13))
  else
  j25 x12)))))
  else
  j47 x12)

def M_s_HistFind (x0 : Int × List (List UInt8)) (x1 : List UInt8) (x2 : Int) (x3 : Int) (x4 : Bool) : Option Int :=
  (bindO (M_s_HistOk x0) fun (y10 : Bool) =>
  (bif (bif (!y10) then true else (bif (!(decide (x3 = 1))) then (!(decide (x3 = (-1)))) else false)) then
  some 0
  else
  (joinO (fun (x46 : Int) =>
  some x46) fun j47 =>
  (fixF (M_s_HistFind_L1 x0 x1 x2 x3 x4 j47) FUEL (0, 0)))))

theorem ok_s_HistFind (x0 : Int × List (List UInt8)) (x1 : List UInt8) (x2 : Int) (x3 : Int) (x4 : Bool) (a6 : Option Addr) (c7 : Nat) (l8 : Nat) (hl9 : x0.2.length = l8) (r : Int) (h : M_s_HistFind x0 x1 x2 x3 x4 = some r) :
    FC Try.prog 14 [.agg #[.int .i64 x0.1, .slice a6 l8 c7], .string (bs x1), .int .i64 x2, .int .i64 x3, .bool x4] [⟨.str, ⟨a6, l8, c7⟩, x0.2⟩] (fun _ : Unit => True) (fun _ => .int .i64 r) (fun _ => []) :=
  by
    subst hl9
    refine FC.of (T := TTx) Try.call14 Try.func14 rfl rfl fun w0 => ?_
    unfold M_s_HistFind at h
    refine JS.seq ?_
    refine JS.region ?_
    refine JO.regB ttOk 2 [] [2] [(5, .bp 2 0)] (.new 2 31 [.int .i64 x0.1, .slice a6 x0.2.length c7] .nil) rfl ⟨⟨rfl, trivial⟩, ⟨rfl, rfl, rfl, rfl, trivial⟩⟩ ?_
    refine JO.done rfl ?_
    refine JS.seq ?_
    refine JS.seq ?_
    refine JS.region ?_
    refine JO.reg ttOk 1 [] [] [(15, .v (.agg #[.int .i64 x0.1, .slice a6 x0.2.length c7]))] _ rfl ⟨⟨rfl, trivial⟩, rfl⟩ ?_
    obtain ⟨y10, hy11, h⟩ := bindO_some h
    refine JO.call rfl rfl rfl rfl (ok_s_HistOk x0 a6 c7 x0.2.length rfl _ hy11) rfl [0] rfl rfl ?_
    intro _ _
    refine JO.reg ttOk 9 [] [] [(25, .v (.bool (bif (!y10) then true else (bif (!(decide (x3 = 1))) then (!(decide (x3 = (-1)))) else false))))] _ rfl ⟨⟨rfl, trivial⟩, rfl⟩ ?_
    refine JO.done rfl ?_
    refine JS.cond rfl (fun ht61 => ?_) (fun ht61 => ?_)
    · have h := condT h ht61
      refine JS.seq ?_
      refine JS.region ?_
      refine JO.reg ttOk 1 [] [] [(10, .v (.int .i64 0))] _ rfl ⟨⟨rfl, trivial⟩, rfl⟩ ?_
      refine JO.done rfl ?_
      cases h
      exact JS.ret ttOk () trivial rfl rfl [] rfl
    · have h := condF h ht61
      refine JS.skip ?_
      refine JS.seq ?_
      refine JS.region ?_
      refine JO.reg ttOk 1 [] [] [(11, .v (.int .i64 0))] _ rfl ⟨⟨rfl, trivial⟩, rfl⟩ ?_
      refine JO.done rfl ?_
      refine JS.seq ?_
      refine JS.seq ?_
      refine JS.region ?_
      refine JO.reg ttOk 4 [] [] [(27, .v (.slice a6 x0.2.length c7)), (28, .v (.int .i64 (x0.2.length : Int))), (29, .v (.int .i64 0))] _ rfl ⟨⟨rfl, rfl, rfl, trivial⟩, rfl⟩ ?_
      refine JO.done rfl ?_
      obtain ⟨j47, hj60, h⟩ := joinO_some h
      refine JS.blockJ (ι := Int) ⟨fun z => j47 z = some r, fun z => [(11, .v (.int .i64 z))], fun z => .nil, fun z => [], fun z => [], fun z => 0⟩ ?_ ?_
      · refine JS.loop (ι := Nat × Int × Int) ⟨fun z => fixF (M_s_HistFind_L1 x0 x1 x2 x3 x4 j47) z.1 (z.2.1, z.2.2) = some r, fun z => [(1, .v (.string (bs x1))), (2, .v (.int .i64 x2)), (3, .v (.int .i64 x3)), (4, .v (.bool x4)), (5, .bp 2 0), (11, .v (.int .i64 z.2.1)), (27, .v (.slice a6 x0.2.length c7)), (28, .v (.int .i64 (x0.2.length : Int))), (29, .v (.int .i64 z.2.2))], fun z => (.new 2 31 [.int .i64 x0.1, .slice a6 x0.2.length c7] .nil), fun z => [⟨.str, ⟨a6, x0.2.length, c7⟩, x0.2⟩], fun z => [], fun z => z.1⟩ (FUEL, 0, 0) h ⟨rfl, rfl, rfl, rfl, rfl, rfl, rfl, rfl, rfl, trivial⟩ ⟨rfl, rfl, rfl, rfl, trivial⟩ [0] rfl [] rfl ?_
        rintro ⟨n40, x12, x13⟩ h
        obtain ⟨n40, rfl, h⟩ := fixF_some h
        rw [M_s_HistFind_L1] at h
        refine JS.seq ?_
        refine JS.region ?_
        refine JO.reg ttOk 1 [] [] [(30, .v (.bool (decide (x13 < (x0.2.length : Int)))))] _ rfl ⟨⟨rfl, trivial⟩, rfl⟩ ?_
        refine JO.done rfl ?_
        refine JS.seq ?_
        refine JS.cond rfl (fun ht59 => ?_) (fun ht59 => ?_)
        · have h := condT h ht59
          refine JS.skip ?_
          refine JS.seq ?_
          obtain ⟨j25, hj58, h⟩ := joinO_some h
          refine JS.blockJ (ι := Int) ⟨fun z => j25 z = some r, fun z => [(1, .v (.string (bs x1))), (2, .v (.int .i64 x2)), (3, .v (.int .i64 x3)), (4, .v (.bool x4)), (5, .bp 2 0), (11, .v (.int .i64 z)), (27, .v (.slice a6 x0.2.length c7)), (28, .v (.int .i64 (x0.2.length : Int))), (29, .v (.int .i64 x13))], fun z => (.new 2 31 [.int .i64 x0.1, .slice a6 x0.2.length c7] .nil), fun z => [⟨.str, ⟨a6, x0.2.length, c7⟩, x0.2⟩], fun z => [], fun z => 0⟩ ?_ ?_
          · refine JS.seq ?_
            refine JS.region ?_
            refine JO.know 0 rfl fun hs55 => ?_
            obtain ⟨g19, h⟩ := guardO_some h
            refine JO.reg ttOk 2 [] [] [(31, .v (.int .i64 x13)), (32, .ep ⟨a6, x0.2.length, c7⟩ (Int.toNat x13 * 1))] _ rfl ⟨hs55.ix g19, ⟨rfl, rfl, trivial⟩, rfl⟩ ?_
            refine JO.load ttOk rfl rfl rfl rfl rfl rfl rfl 0 rfl rfl (Int.toNat x13) 0 (at' x0.2 x13) ⟨at_some g19, rfl⟩ rfl rfl ?_
            refine JO.reg ttOk 2 [] [] [(12, .v (.int .i64 x13)), (13, .v (.string (bs (at' x0.2 x13))))] _ rfl ⟨⟨rfl, rfl, trivial⟩, rfl⟩ ?_
            refine JO.done rfl ?_
            refine JS.seq ?_
            refine JS.region ?_
            refine JO.reg ttOk 5 [(W (x0.1 + x13))] [] [(14, .v (.int .i64 (W (x0.1 + x13))))] _ rfl ⟨⟨trivial, rfl⟩, ⟨rfl, trivial⟩, rfl⟩ ?_
            refine JO.done rfl ?_
            refine JS.seq ?_
            refine JS.seq ?_
            refine JS.region ?_
            refine JO.reg ttOk 3 [] [] [(38, .v (.string (bs (at' x0.2 x13)))), (39, .v (.string (bs x1))), (40, .v (.bool x4))] _ rfl ⟨⟨rfl, rfl, rfl, trivial⟩, rfl⟩ ?_
            obtain ⟨y20, hy21, h⟩ := bindO_some h
            refine JO.call rfl rfl rfl rfl (ok_s_l16In (at' x0.2 x13) x1 x4 _ hy21) rfl [] rfl rfl ?_
            intro _ _
            refine JO.reg ttOk 19 [] [] [(60, .v (.bool (bif (bif (!y20) then true else (bif (decide (x3 = 1)) then (decide ((W (x0.1 + x13)) < x2)) else false)) then true else (bif (decide (x3 = (-1))) then (decide (x2 < (W (x0.1 + x13)))) else false))))] _ rfl ⟨⟨rfl, trivial⟩, rfl⟩ ?_
            refine JO.done rfl ?_
            refine JS.cond rfl (fun ht57 => ?_) (fun ht57 => ?_)
            · have h := condT h ht57
              refine JS.exit rfl ?_
              exact JS.endJ x12 h ⟨rfl, rfl, rfl, rfl, rfl, rfl, rfl, rfl, rfl, trivial⟩ ⟨rfl, rfl, rfl, rfl, trivial⟩ [0] rfl [] rfl
            · have h := condF h ht57
              refine JS.skip ?_
              refine JS.seq ?_
              refine JS.region ?_
              refine JO.reg ttOk 6 [] [] [(66, .v (.bool (bif (decide (x12 = 0)) then true else (decide (x3 = (-1))))))] _ rfl ⟨⟨rfl, trivial⟩, rfl⟩ ?_
              refine JO.done rfl ?_
              refine JS.cond rfl (fun ht56 => ?_) (fun ht56 => ?_)
              · have h := condT h ht56
                refine JS.region ?_
                refine JO.reg ttOk 2 [] [] [(11, .v (.int .i64 (W (x0.1 + x13))))] _ rfl ⟨⟨rfl, trivial⟩, rfl⟩ ?_
                refine JO.done rfl ?_
                refine JS.endB ?_
                exact JS.endJ (W (x0.1 + x13)) h ⟨rfl, rfl, rfl, rfl, rfl, rfl, rfl, rfl, rfl, trivial⟩ ⟨rfl, rfl, rfl, rfl, trivial⟩ [0] rfl [] rfl
              · have h := condF h ht56
                refine JS.skip ?_
                refine JS.endB ?_
                exact JS.endJ x12 h ⟨rfl, rfl, rfl, rfl, rfl, rfl, rfl, rfl, rfl, trivial⟩ ⟨rfl, rfl, rfl, rfl, trivial⟩ [0] rfl [] rfl
          · rintro x24 h
            subst hj58
            refine JS.region ?_
            refine JO.reg ttOk 2 [(W (x13 + 1))] [] [(29, .v (.int .i64 (W (x13 + 1))))] _ rfl ⟨⟨trivial, rfl⟩, ⟨rfl, trivial⟩, rfl⟩ ?_
            refine JO.done rfl ?_
            exact JS.endL (n40, x24, (W (x13 + 1))) h (Nat.lt_succ_self _) ⟨rfl, rfl, rfl, rfl, rfl, rfl, rfl, rfl, rfl, trivial⟩ ⟨rfl, rfl, rfl, rfl, trivial⟩ [0] rfl [] rfl
        · have h := condF h ht59
          refine JS.exit rfl ?_
          exact JS.endJ x12 h ⟨rfl, trivial⟩ trivial [] rfl [] rfl
      · rintro x46 h
        subst hj60
        refine JS.seq ?_
        refine JS.region ?_
        refine JO.reg ttOk 2 [] [] [(10, .v (.int .i64 x46))] _ rfl ⟨⟨rfl, trivial⟩, rfl⟩ ?_
        refine JO.done rfl ?_
        cases h
        exact JS.ret ttOk () trivial rfl rfl [] rfl

def M_s_HistGet (x0 : Int × List (List UInt8)) (x1 : Int) : Option (List UInt8 × Bool) :=
  (bindO (M_s_HistOk x0) fun (y7 : Bool) =>
  (bif (bif (bif (!y7) then true else (decide (x1 < x0.1))) then true else (decide ((x0.2.length : Int) ≤ (W (x1 - x0.1))))) then
  some ([], false)
  else
  (guardO (0 ≤ (W (x1 - x0.1)) ∧ (W (x1 - x0.1)) < (x0.2.length : Int)) <|
  some ((at' x0.2 (W (x1 - x0.1))), true))))

theorem ok_s_HistGet (x0 : Int × List (List UInt8)) (x1 : Int) (a3 : Option Addr) (c4 : Nat) (l5 : Nat) (hl6 : x0.2.length = l5) (r : List UInt8 × Bool) (h : M_s_HistGet x0 x1 = some r) :
    FC Try.prog 13 [.agg #[.int .i64 x0.1, .slice a3 l5 c4], .int .i64 x1] [⟨.str, ⟨a3, l5, c4⟩, x0.2⟩] (fun _ : Unit => True) (fun _ => .tuple #[.string (bs r.1), .bool r.2]) (fun _ => []) :=
  by
    subst hl6
    refine FC.of (T := TTx) Try.call13 Try.func13 rfl rfl fun w0 => ?_
    unfold M_s_HistGet at h
    refine JS.seq ?_
    refine JS.region ?_
    refine JO.regB ttOk 3 [] [2] [(2, .bp 2 0)] (.new 2 31 [.int .i64 x0.1, .slice a3 x0.2.length c4] .nil) rfl ⟨⟨rfl, trivial⟩, ⟨rfl, rfl, rfl, rfl, trivial⟩⟩ ?_
    refine JO.done rfl ?_
    refine JS.seq ?_
    refine JS.seq ?_
    refine JS.region ?_
    refine JO.reg ttOk 1 [] [] [(6, .v (.agg #[.int .i64 x0.1, .slice a3 x0.2.length c4]))] _ rfl ⟨⟨rfl, trivial⟩, rfl⟩ ?_
    obtain ⟨y7, hy8, h⟩ := bindO_some h
    refine JO.call rfl rfl rfl rfl (ok_s_HistOk x0 a3 c4 x0.2.length rfl _ hy8) rfl [0] rfl rfl ?_
    intro _ _
    refine JO.reg ttOk 17 [(W (x1 - x0.1))] [] [(24, .v (.bool (bif (bif (!y7) then true else (decide (x1 < x0.1))) then true else (decide ((x0.2.length : Int) ≤ (W (x1 - x0.1)))))))] _ rfl ⟨(fun q13 => ⟨trivial, rfl⟩), ⟨rfl, trivial⟩, rfl⟩ ?_
    refine JO.done rfl ?_
    refine JS.cond rfl (fun ht15 => ?_) (fun ht15 => ?_)
    · have h := condT h ht15
      refine JS.seq ?_
      refine JS.region ?_
      refine JO.reg ttOk 2 [] [] [(4, .v (.string (bs []))), (5, .v (.bool false))] _ rfl ⟨⟨rfl, rfl, trivial⟩, rfl⟩ ?_
      refine JO.done rfl ?_
      cases h
      exact JS.ret ttOk () trivial rfl rfl [] rfl
    · have h := condF h ht15
      refine JS.skip ?_
      refine JS.seq ?_
      refine JS.region ?_
      refine JO.know 0 rfl fun hs14 => ?_
      obtain ⟨g11, h⟩ := guardO_some h
      refine JO.reg ttOk 7 [(W (x1 - x0.1))] [] [(31, .ep ⟨a3, x0.2.length, c4⟩ (Int.toNat (W (x1 - x0.1)) * 1))] _ rfl ⟨⟨trivial, rfl⟩, hs14.ix g11, ⟨rfl, trivial⟩, rfl⟩ ?_
      refine JO.load ttOk rfl rfl rfl rfl rfl rfl rfl 0 rfl rfl (Int.toNat (W (x1 - x0.1))) 0 (at' x0.2 (W (x1 - x0.1))) ⟨at_some g11, rfl⟩ rfl rfl ?_
      refine JO.reg ttOk 2 [] [] [(4, .v (.string (bs (at' x0.2 (W (x1 - x0.1)))))), (5, .v (.bool true))] _ rfl ⟨⟨rfl, rfl, trivial⟩, rfl⟩ ?_
      refine JO.done rfl ?_
      cases h
      exact JS.ret ttOk () trivial rfl rfl [] rfl

def M_s_RefLine (x0 : Int × List (List UInt8)) (x1 : Int × Int × List UInt8 × Int) : Option (List UInt8 × Bool) :=
  (bindO (M_s_HistLast x0) fun (y7 : Int) =>
  (joinO (fun (_ : Unit) =>
  some ([], false)) fun j28 =>
  (bif (decide (x1.1 = 1)) then
  (bindO (M_s_HistGet x0 y7) fun (y9, y10) =>
  some (y9, y10))
  else
  (bif (decide (x1.1 = 2)) then
  (bindO (M_s_HistGet x0 x1.2.1) fun (y12, y13) =>
  some (y12, y13))
  else
  (bif (decide (x1.1 = 3)) then
  (bif (bif (decide (1 ≤ x1.2.1)) then (decide (x1.2.1 ≤ 60)) else false) then
  (bindO (M_s_HistGet x0 (W ((W (y7 + 1)) - x1.2.1))) fun (y15, y16) =>
  some (y15, y16))
  else
  j28 ())
  else
  (bif (decide (x1.1 = 4)) then
  (bindO (M_s_HistFind x0 x1.2.2.1 y7 (-1) true) fun (y19 : Int) =>
  (bindO (M_s_HistGet x0 y19) fun (y21, y22) =>
  some (y21, y22)))
  else
  j28 ()))))))

theorem ok_s_RefLine (x0 : Int × List (List UInt8)) (x1 : Int × Int × List UInt8 × Int) (a3 : Option Addr) (c4 : Nat) (l5 : Nat) (hl6 : x0.2.length = l5) (r : List UInt8 × Bool) (h : M_s_RefLine x0 x1 = some r) :
    FC Try.prog 6 [.agg #[.int .i64 x0.1, .slice a3 l5 c4], .agg #[.int .i64 x1.1, .int .i64 x1.2.1, .string (bs x1.2.2.1), .int .i64 x1.2.2.2]] [⟨.str, ⟨a3, l5, c4⟩, x0.2⟩] (fun _ : Unit => True) (fun _ => .tuple #[.string (bs r.1), .bool r.2]) (fun _ => []) :=
  by
    subst hl6
    refine FC.of (T := TTx) Try.call6 Try.func6 rfl rfl fun w0 => ?_
    unfold M_s_RefLine at h
    refine JS.seq ?_
    refine JS.region ?_
    refine JO.regB ttOk 4 [] [2, 3] [(2, .bp 2 0), (3, .bp 3 0)] (.new 2 31 [.int .i64 x0.1, .slice a3 x0.2.length c4] (.new 3 33 [.int .i64 x1.1, .int .i64 x1.2.1, .string (bs x1.2.2.1), .int .i64 x1.2.2.2] .nil)) rfl ⟨⟨rfl, rfl, trivial⟩, ⟨rfl, rfl, rfl, rfl, rfl, rfl, rfl, rfl, trivial⟩⟩ ?_
    refine JO.done rfl ?_
    refine JS.seq ?_
    refine JS.region ?_
    refine JO.reg ttOk 1 [] [] [(7, .v (.agg #[.int .i64 x0.1, .slice a3 x0.2.length c4]))] _ rfl ⟨⟨rfl, trivial⟩, rfl⟩ ?_
    obtain ⟨y7, hy8, h⟩ := bindO_some h
    refine JO.call rfl rfl rfl rfl (ok_s_HistLast x0 a3 c4 x0.2.length rfl _ hy8) rfl [0] rfl rfl ?_
    intro _ _
    refine JO.reg ttOk 1 [] [] [(6, .v (.int .i64 y7))] _ rfl ⟨⟨rfl, trivial⟩, rfl⟩ ?_
    refine JO.done rfl ?_
    refine JS.seq ?_
    refine JS.seq ?_
    refine JS.region ?_
    refine JO.reg ttOk 2 [] [] [(10, .v (.int .i64 x1.1))] _ rfl ⟨⟨rfl, trivial⟩, rfl⟩ ?_
    refine JO.done rfl ?_
    obtain ⟨j28, hj40, h⟩ := joinO_some h
    refine JS.blockJ (ι := Unit) ⟨fun _ => j28 () = some r, fun _ => [], fun _ => .nil, fun _ => [], fun _ => [], fun _ => 0⟩ ?_ ?_
    · refine JS.seq ?_
      refine JS.region ?_
      refine JO.reg ttOk 2 [] [] [(11, .v (.bool (decide (x1.1 = 1))))] _ rfl ⟨⟨rfl, trivial⟩, rfl⟩ ?_
      refine JO.done rfl ?_
      refine JS.cond rfl (fun ht39 => ?_) (fun ht39 => ?_)
      · have h := condT h ht39
        refine JS.seq ?_
        refine JS.region ?_
        refine JO.reg ttOk 2 [] [] [(13, .v (.agg #[.int .i64 x0.1, .slice a3 x0.2.length c4])), (14, .v (.int .i64 y7))] _ rfl ⟨⟨rfl, rfl, trivial⟩, rfl⟩ ?_
        obtain ⟨⟨y9, y10⟩, hy11, h⟩ := bindO_some h
        refine JO.call rfl rfl rfl rfl (ok_s_HistGet x0 y7 a3 c4 x0.2.length rfl _ hy11) rfl [0] rfl rfl ?_
        intro _ _
        refine JO.reg ttOk 4 [] [] [(4, .v (.string (bs y9))), (5, .v (.bool y10))] _ rfl ⟨⟨rfl, rfl, trivial⟩, rfl⟩ ?_
        refine JO.done rfl ?_
        cases h
        exact JS.ret ttOk () trivial rfl rfl [] rfl
      · have h := condF h ht39
        refine JS.seq ?_
        refine JS.region ?_
        refine JO.reg ttOk 2 [] [] [(18, .v (.bool (decide (x1.1 = 2))))] _ rfl ⟨⟨rfl, trivial⟩, rfl⟩ ?_
        refine JO.done rfl ?_
        refine JS.cond rfl (fun ht38 => ?_) (fun ht38 => ?_)
        · have h := condT h ht38
          refine JS.seq ?_
          refine JS.region ?_
          refine JO.reg ttOk 3 [] [] [(20, .v (.agg #[.int .i64 x0.1, .slice a3 x0.2.length c4])), (22, .v (.int .i64 x1.2.1))] _ rfl ⟨⟨rfl, rfl, trivial⟩, rfl⟩ ?_
          obtain ⟨⟨y12, y13⟩, hy14, h⟩ := bindO_some h
          refine JO.call rfl rfl rfl rfl (ok_s_HistGet x0 x1.2.1 a3 c4 x0.2.length rfl _ hy14) rfl [0] rfl rfl ?_
          intro _ _
          refine JO.reg ttOk 4 [] [] [(4, .v (.string (bs y12))), (5, .v (.bool y13))] _ rfl ⟨⟨rfl, rfl, trivial⟩, rfl⟩ ?_
          refine JO.done rfl ?_
          cases h
          exact JS.ret ttOk () trivial rfl rfl [] rfl
        · have h := condF h ht38
          refine JS.seq ?_
          refine JS.region ?_
          refine JO.reg ttOk 2 [] [] [(26, .v (.bool (decide (x1.1 = 3))))] _ rfl ⟨⟨rfl, trivial⟩, rfl⟩ ?_
          refine JO.done rfl ?_
          refine JS.cond rfl (fun ht37 => ?_) (fun ht37 => ?_)
          · have h := condT h ht37
            refine JS.seq ?_
            refine JS.region ?_
            refine JO.reg ttOk 8 [] [] [(35, .v (.bool (bif (decide (1 ≤ x1.2.1)) then (decide (x1.2.1 ≤ 60)) else false)))] _ rfl ⟨⟨rfl, trivial⟩, rfl⟩ ?_
            refine JO.done rfl ?_
            refine JS.cond rfl (fun ht35 => ?_) (fun ht35 => ?_)
            · have h := condT h ht35
              refine JS.seq ?_
              refine JS.region ?_
              refine JO.reg ttOk 6 [(W (y7 + 1)), (W ((W (y7 + 1)) - x1.2.1))] [] [(36, .v (.agg #[.int .i64 x0.1, .slice a3 x0.2.length c4])), (41, .v (.int .i64 (W ((W (y7 + 1)) - x1.2.1))))] _ rfl ⟨⟨trivial, rfl⟩, ⟨trivial, rfl⟩, ⟨rfl, rfl, trivial⟩, rfl⟩ ?_
              obtain ⟨⟨y15, y16⟩, hy17, h⟩ := bindO_some h
              refine JO.call rfl rfl rfl rfl (ok_s_HistGet x0 (W ((W (y7 + 1)) - x1.2.1)) a3 c4 x0.2.length rfl _ hy17) rfl [0] rfl rfl ?_
              intro _ _
              refine JO.reg ttOk 4 [] [] [(4, .v (.string (bs y15))), (5, .v (.bool y16))] _ rfl ⟨⟨rfl, rfl, trivial⟩, rfl⟩ ?_
              refine JO.done rfl ?_
              cases h
              exact JS.ret ttOk () trivial rfl rfl [] rfl
            · have h := condF h ht35
              refine JS.skip ?_
              refine JS.endB ?_
              exact JS.endJ () h trivial trivial [] rfl [] rfl
          · have h := condF h ht37
            refine JS.seq ?_
            refine JS.region ?_
            refine JO.reg ttOk 2 [] [] [(45, .v (.bool (decide (x1.1 = 4))))] _ rfl ⟨⟨rfl, trivial⟩, rfl⟩ ?_
            refine JO.done rfl ?_
            refine JS.cond rfl (fun ht36 => ?_) (fun ht36 => ?_)
            · have h := condT h ht36
              refine JS.seq ?_
              obtain ⟨y19, hy20, h⟩ := bindO_some h
              obtain ⟨⟨y21, y22⟩, hy23, h⟩ := bindO_some h
              refine JS.regionQ rfl (by kernel_rfl) ?_
              refine JQ.reg ttOk 5 [] [(47, .v (.agg #[.int .i64 x0.1, .slice a3 x0.2.length c4])), (48, .v (.agg #[.int .i64 x0.1, .slice a3 x0.2.length c4])), (50, .v (.string (bs x1.2.2.1))), (51, .v (.int .i64 y7))] rfl ⟨rfl, rfl, rfl, rfl, trivial⟩ ?_
              refine JQ.call rfl rfl rfl rfl (ok_s_HistFind x0 x1.2.2.1 y7 (-1) true a3 c4 x0.2.length rfl _ hy20) rfl [0] rfl rfl ?_
              refine JQ.call rfl rfl rfl rfl (ok_s_HistGet x0 y19 a3 c4 x0.2.length rfl _ hy23) rfl [0] rfl rfl ?_
              refine JQ.reg ttOk 4 [] [(4, .v (.string (bs y21))), (5, .v (.bool y22))] rfl ⟨rfl, rfl, trivial⟩ ?_
              refine JQ.done rfl ?_
              cases h
              exact JS.ret ttOk () trivial rfl rfl [] rfl
            · have h := condF h ht36
              refine JS.skip ?_
              refine JS.endB ?_
              exact JS.endJ () h trivial trivial [] rfl [] rfl
    · rintro _ h
      subst hj40
      refine JS.seq ?_
      refine JS.region ?_
      refine JO.reg ttOk 2 [] [] [(4, .v (.string (bs []))), (5, .v (.bool false))] _ rfl ⟨⟨rfl, rfl, trivial⟩, rfl⟩ ?_
      refine JO.done rfl ?_
      cases h
      exact JS.ret ttOk () trivial rfl rfl [] rfl

def M_i_in (x0 : Int) (x1 : Int) (x2 : Int) : Option Bool :=
  some (bif (decide (x1 ≤ x0)) then (decide (x0 ≤ x2)) else false)

theorem ok_i_in (x0 : Int) (x1 : Int) (x2 : Int) (r : Bool) (h : M_i_in x0 x1 x2 = some r) :
    FC Try.prog 18 [.int .i64 x0, .int .i64 x1, .int .i64 x2] [] (fun _ : Unit => True) (fun _ => .bool r) (fun _ => []) :=
  by
    refine FC.of (T := TTx) Try.call18 Try.func18 rfl rfl fun w0 => ?_
    unfold M_i_in at h
    refine JS.seq ?_
    refine JS.region ?_
    refine JO.reg ttOk 1 [] [] [] _ rfl ⟨trivial, rfl⟩ ?_
    refine JO.done rfl ?_
    refine JS.seq ?_
    refine JS.region ?_
    refine JO.reg ttOk 9 [] [] [(6, .v (.bool (bif (decide (x1 ≤ x0)) then (decide (x0 ≤ x2)) else false)))] _ rfl ⟨⟨rfl, trivial⟩, rfl⟩ ?_
    refine JO.done rfl ?_
    cases h
    exact JS.ret ttOk () trivial rfl rfl [] rfl

def M_i_HistOk_L1 (x0 : Int × List (List UInt8)) (j20 : Unit → Option Bool) (k15 : Int → Option Bool) : Int → Option Bool := fun x8 =>
  (bif (decide (x8 < (x0.2.length : Int))) then
  (guardO (0 ≤ x8 ∧ x8 < (x0.2.length : Int)) <|
  (bindO (M_i_in ((at' x0.2 x8).length : Int) 1 1000) fun (y11 : Bool) =>
  (bif (!y11) then
  some false
  else
  k15 (W (x8 + 1)))))
  else
  j20 ())

def M_i_HistOk (x0 : Int × List (List UInt8)) : Option Bool :=
  (bindO (M_i_in x0.1 1 1000000000) fun (y6 : Bool) =>
  (bif (bif (!y6) then true else (decide (60 < (x0.2.length : Int)))) then
  some false
  else
  (joinO (fun (_ : Unit) =>
  some true) fun j20 =>
  (fixF (M_i_HistOk_L1 x0 j20) FUEL 0))))

theorem ok_i_HistOk (x0 : Int × List (List UInt8)) (a2 : Option Addr) (c3 : Nat) (l4 : Nat) (hl5 : x0.2.length = l4) (r : Bool) (h : M_i_HistOk x0 = some r) :
    FC Try.prog 23 [.agg #[.int .i64 x0.1, .slice a2 l4 c3]] [⟨.str, ⟨a2, l4, c3⟩, x0.2⟩] (fun _ : Unit => True) (fun _ => .bool r) (fun _ => []) :=
  by
    subst hl5
    refine FC.of (T := TTx) Try.call23 Try.func23 rfl rfl fun w0 => ?_
    unfold M_i_HistOk at h
    refine JS.seq ?_
    refine JS.region ?_
    refine JO.regB ttOk 2 [] [2] [(1, .bp 2 0)] (.new 2 31 [.int .i64 x0.1, .slice a2 x0.2.length c3] .nil) rfl ⟨⟨rfl, trivial⟩, ⟨rfl, rfl, rfl, rfl, trivial⟩⟩ ?_
    refine JO.done rfl ?_
    refine JS.seq ?_
    refine JS.seq ?_
    refine JS.region ?_
    refine JO.reg ttOk 2 [] [] [(6, .v (.int .i64 x0.1))] _ rfl ⟨⟨rfl, trivial⟩, rfl⟩ ?_
    obtain ⟨y6, hy7, h⟩ := bindO_some h
    refine JO.call rfl rfl rfl rfl (ok_i_in x0.1 1 1000000000 _ hy7) rfl [] rfl rfl ?_
    intro _ _
    refine JO.reg ttOk 7 [] [] [(14, .v (.bool (bif (!y6) then true else (decide (60 < (x0.2.length : Int))))))] _ rfl ⟨⟨rfl, trivial⟩, rfl⟩ ?_
    refine JO.done rfl ?_
    refine JS.cond rfl (fun ht30 => ?_) (fun ht30 => ?_)
    · have h := condT h ht30
      refine JS.seq ?_
      refine JS.region ?_
      refine JO.reg ttOk 1 [] [] [(2, .v (.bool false))] _ rfl ⟨⟨rfl, trivial⟩, rfl⟩ ?_
      refine JO.done rfl ?_
      cases h
      exact JS.ret ttOk () trivial rfl rfl [] rfl
    · have h := condF h ht30
      refine JS.skip ?_
      refine JS.seq ?_
      refine JS.seq ?_
      refine JS.region ?_
      refine JO.reg ttOk 4 [] [] [(16, .v (.slice a2 x0.2.length c3)), (17, .v (.int .i64 (x0.2.length : Int))), (18, .v (.int .i64 0))] _ rfl ⟨⟨rfl, rfl, rfl, trivial⟩, rfl⟩ ?_
      refine JO.done rfl ?_
      obtain ⟨j20, hj29, h⟩ := joinO_some h
      refine JS.blockJ (ι := Unit) ⟨fun _ => j20 () = some r, fun _ => [], fun _ => .nil, fun _ => [], fun _ => [], fun _ => 0⟩ ?_ ?_
      · refine JS.loop (ι := Nat × Int) ⟨fun z => fixF (M_i_HistOk_L1 x0 j20) z.1 z.2 = some r, fun z => [(16, .v (.slice a2 x0.2.length c3)), (17, .v (.int .i64 (x0.2.length : Int))), (18, .v (.int .i64 z.2))], fun z => .nil, fun z => [⟨.str, ⟨a2, x0.2.length, c3⟩, x0.2⟩], fun z => [], fun z => z.1⟩ (FUEL, 0) h ⟨rfl, rfl, rfl, trivial⟩ trivial [0] rfl [] rfl ?_
        rintro ⟨n16, x8⟩ h
        obtain ⟨n16, rfl, h⟩ := fixF_some h
        rw [M_i_HistOk_L1] at h
        refine JS.seq ?_
        refine JS.region ?_
        refine JO.reg ttOk 1 [] [] [(19, .v (.bool (decide (x8 < (x0.2.length : Int)))))] _ rfl ⟨⟨rfl, trivial⟩, rfl⟩ ?_
        refine JO.done rfl ?_
        refine JS.seq ?_
        refine JS.cond rfl (fun ht28 => ?_) (fun ht28 => ?_)
        · have h := condT h ht28
          refine JS.skip ?_
          refine JS.seq ?_
          refine JS.block ?_
          refine JS.seq ?_
          refine JS.region ?_
          refine JO.know 0 rfl fun hs26 => ?_
          obtain ⟨g10, h⟩ := guardO_some h
          refine JO.reg ttOk 1 [] [] [(20, .ep ⟨a2, x0.2.length, c3⟩ (Int.toNat x8 * 1))] _ rfl ⟨hs26.ix g10, ⟨rfl, trivial⟩, rfl⟩ ?_
          refine JO.load ttOk rfl rfl rfl rfl rfl rfl rfl 0 rfl rfl (Int.toNat x8) 0 (at' x0.2 x8) ⟨at_some g10, rfl⟩ rfl rfl ?_
          refine JO.reg ttOk 1 [] [] [(4, .v (.string (bs (at' x0.2 x8))))] _ rfl ⟨⟨rfl, trivial⟩, rfl⟩ ?_
          refine JO.done rfl ?_
          refine JS.seq ?_
          refine JS.region ?_
          refine JO.reg ttOk 2 [] [] [(23, .v (.int .i64 ((at' x0.2 x8).length : Int)))] _ rfl ⟨⟨rfl, trivial⟩, rfl⟩ ?_
          obtain ⟨y11, hy12, h⟩ := bindO_some h
          refine JO.call rfl rfl rfl rfl (ok_i_in ((at' x0.2 x8).length : Int) 1 1000 _ hy12) rfl [] rfl rfl ?_
          intro _ _
          refine JO.reg ttOk 1 [] [] [(25, .v (.bool (!y11)))] _ rfl ⟨⟨rfl, trivial⟩, rfl⟩ ?_
          refine JO.done rfl ?_
          refine JS.cond rfl (fun ht27 => ?_) (fun ht27 => ?_)
          · have h := condT h ht27
            refine JS.seq ?_
            refine JS.region ?_
            refine JO.reg ttOk 1 [] [] [(2, .v (.bool false))] _ rfl ⟨⟨rfl, trivial⟩, rfl⟩ ?_
            refine JO.done rfl ?_
            cases h
            exact JS.ret ttOk () trivial rfl rfl [] rfl
          · have h := condF h ht27
            refine JS.skip ?_
            refine JS.endB ?_
            refine JS.region ?_
            refine JO.reg ttOk 2 [(W (x8 + 1))] [] [(18, .v (.int .i64 (W (x8 + 1))))] _ rfl ⟨⟨trivial, rfl⟩, ⟨rfl, trivial⟩, rfl⟩ ?_
            refine JO.done rfl ?_
            exact JS.endL (n16, (W (x8 + 1))) h (Nat.lt_succ_self _) ⟨rfl, rfl, rfl, trivial⟩ trivial [0] rfl [] rfl
        · have h := condF h ht28
          refine JS.exit rfl ?_
          exact JS.endJ () h trivial trivial [] rfl [] rfl
      · rintro _ h
        subst hj29
        refine JS.seq ?_
        refine JS.region ?_
        refine JO.reg ttOk 1 [] [] [(2, .v (.bool true))] _ rfl ⟨⟨rfl, trivial⟩, rfl⟩ ?_
        refine JO.done rfl ?_
        cases h
        exact JS.ret ttOk () trivial rfl rfl [] rfl

def M_i_HistLast (x0 : Int × List (List UInt8)) : Option Int :=
  (bindO (M_i_HistOk x0) fun (y6 : Bool) =>
  (bif (bif (!y6) then true else (decide ((x0.2.length : Int) = 0))) then
  some 0
  else
  some (W ((W (x0.1 + (x0.2.length : Int))) - 1))))

theorem ok_i_HistLast (x0 : Int × List (List UInt8)) (a2 : Option Addr) (c3 : Nat) (l4 : Nat) (hl5 : x0.2.length = l4) (r : Int) (h : M_i_HistLast x0 = some r) :
    FC Try.prog 16 [.agg #[.int .i64 x0.1, .slice a2 l4 c3]] [⟨.str, ⟨a2, l4, c3⟩, x0.2⟩] (fun _ : Unit => True) (fun _ => .int .i64 r) (fun _ => []) :=
  by
    subst hl5
    refine FC.of (T := TTx) Try.call16 Try.func16 rfl rfl fun w0 => ?_
    unfold M_i_HistLast at h
    refine JS.seq ?_
    refine JS.region ?_
    refine JO.regB ttOk 2 [] [2] [(1, .bp 2 0)] (.new 2 31 [.int .i64 x0.1, .slice a2 x0.2.length c3] .nil) rfl ⟨⟨rfl, trivial⟩, ⟨rfl, rfl, rfl, rfl, trivial⟩⟩ ?_
    refine JO.done rfl ?_
    refine JS.seq ?_
    refine JS.seq ?_
    refine JS.region ?_
    refine JO.reg ttOk 1 [] [] [(3, .v (.agg #[.int .i64 x0.1, .slice a2 x0.2.length c3]))] _ rfl ⟨⟨rfl, trivial⟩, rfl⟩ ?_
    obtain ⟨y6, hy7, h⟩ := bindO_some h
    refine JO.call rfl rfl rfl rfl (ok_i_HistOk x0 a2 c3 x0.2.length rfl _ hy7) rfl [0] rfl rfl ?_
    intro _ _
    refine JO.reg ttOk 7 [] [] [(11, .v (.bool (bif (!y6) then true else (decide ((x0.2.length : Int) = 0)))))] _ rfl ⟨⟨rfl, trivial⟩, rfl⟩ ?_
    refine JO.done rfl ?_
    refine JS.cond rfl (fun ht9 => ?_) (fun ht9 => ?_)
    · have h := condT h ht9
      refine JS.seq ?_
      refine JS.region ?_
      refine JO.reg ttOk 1 [] [] [(2, .v (.int .i64 0))] _ rfl ⟨⟨rfl, trivial⟩, rfl⟩ ?_
      refine JO.done rfl ?_
      cases h
      exact JS.ret ttOk () trivial rfl rfl [] rfl
    · have h := condF h ht9
      refine JS.skip ?_
      refine JS.seq ?_
      refine JS.region ?_
      refine JO.reg ttOk 8 [(W (x0.1 + (x0.2.length : Int))), (W ((W (x0.1 + (x0.2.length : Int))) - 1))] [] [(2, .v (.int .i64 (W ((W (x0.1 + (x0.2.length : Int))) - 1))))] _ rfl ⟨⟨trivial, rfl⟩, ⟨trivial, rfl⟩, ⟨rfl, trivial⟩, rfl⟩ ?_
      refine JO.done rfl ?_
      cases h
      exact JS.ret ttOk () trivial rfl rfl [] rfl

def M_internal_stringslite_HasPrefix (x0 : List UInt8) (x1 : List UInt8) : Option Bool :=
  (guardO (((decide ((x1.length : Int) ≤ (x0.length : Int))) = true) → 0 ≤ (0 : Int) ∧ 0 ≤ (x1.length : Int) ∧ (x1.length : Int) ≤ (x0.length : Int)) <|
  some (bif (decide ((x1.length : Int) ≤ (x0.length : Int))) then (decide ((sub' x0 0 (x1.length : Int)) = x1)) else false))

theorem ok_internal_stringslite_HasPrefix (x0 : List UInt8) (x1 : List UInt8) (r : Bool) (h : M_internal_stringslite_HasPrefix x0 x1 = some r) :
    FC Try.prog 26 [.string (bs x0), .string (bs x1)] [] (fun _ : Unit => True) (fun _ => .bool r) (fun _ => []) :=
  by
    refine FC.of (T := TTx) Try.call26 Try.func26 rfl rfl fun w0 => ?_
    unfold M_internal_stringslite_HasPrefix at h
    refine JS.seq ?_
    refine JS.region ?_
    refine JO.reg ttOk 1 [] [] [] _ rfl ⟨trivial, rfl⟩ ?_
    refine JO.done rfl ?_
    refine JS.seq ?_
    refine JS.region ?_
    obtain ⟨g3, h⟩ := guardO_some h
    refine JO.reg ttOk 14 [] [] [(4, .v (.bool (bif (decide ((x1.length : Int) ≤ (x0.length : Int))) then (decide ((sub' x0 0 (x1.length : Int)) = x1)) else false)))] _ rfl ⟨(fun q5 => (g3 q5)), ⟨rfl, trivial⟩, rfl⟩ ?_
    refine JO.done rfl ?_
    cases h
    exact JS.ret ttOk () trivial rfl rfl [] rfl

def M_strings_HasPrefix (x0 : List UInt8) (x1 : List UInt8) : Option Bool := some (Lib.hasPrefix x0 x1)

theorem ok_strings_HasPrefix (x0 : List UInt8) (x1 : List UInt8) (r : Bool) (h : M_strings_HasPrefix x0 x1 = some r) : FV Try.prog 24 [.string (bs x0), .string (bs x1)] [] (.bool r) := by
  cases h
  refine FV.of_calls Try.call24 fun w => ?_
  exact Try.strings_HasPrefix (bs x0) (bs x1) w

def M_internal_stringslite_IndexByte (x0 : List UInt8) (x1 : UInt8) : Option Int :=
  none

theorem ok_internal_stringslite_IndexByte (x0 : List UInt8) (x1 : UInt8) (r : Int) (h : M_internal_stringslite_IndexByte x0 x1 = some r) :
    FC Try.prog 29 [.string (bs x0), .int .u8 (x1.toNat : Int)] [] (fun _ : Unit => True) (fun _ => .int .i64 r) (fun _ => []) :=
  by
    refine FC.of (T := TTx) Try.call29 Try.func29 rfl rfl fun w0 => ?_
    unfold M_internal_stringslite_IndexByte at h
    refine JS.seq ?_
    refine JS.region ?_
    refine JO.reg ttOk 1 [] [] [] _ rfl ⟨trivial, rfl⟩ ?_
    refine JO.done rfl ?_
    refine JS.seq ?_
    cases h

def M_internal_bytealg_Cutover (x0 : Int) : Option Int :=
  some (W (Int.tdiv (W (x0 + 16)) 8))

theorem ok_internal_bytealg_Cutover (x0 : Int) (r : Int) (h : M_internal_bytealg_Cutover x0 = some r) :
    FC Try.prog 31 [.int .i64 x0] [] (fun _ : Unit => True) (fun _ => .int .i64 r) (fun _ => []) :=
  by
    refine FC.of (T := TTx) Try.call31 Try.func31 rfl rfl fun w0 => ?_
    unfold M_internal_bytealg_Cutover at h
    refine JS.seq ?_
    refine JS.region ?_
    refine JO.reg ttOk 1 [] [] [] _ rfl ⟨trivial, rfl⟩ ?_
    refine JO.done rfl ?_
    refine JS.seq ?_
    refine JS.region ?_
    have g2 : (8 : Int) ≠ 0 := by decide
    refine JO.reg ttOk 4 [(W (x0 + 16)), (W (Int.tdiv (W (x0 + 16)) 8))] [] [(2, .v (.int .i64 (W (Int.tdiv (W (x0 + 16)) 8))))] _ rfl ⟨⟨trivial, rfl⟩, ⟨g2, rfl⟩, ⟨rfl, trivial⟩, rfl⟩ ?_
    refine JO.done rfl ?_
    cases h
    exact JS.ret ttOk () trivial rfl rfl [] rfl

def M_internal_bytealg_hashStrstring_L1 (x0 : List UInt8) (j10 : Int → Option (Int × Int)) (k6 : (Int × Int) → Option (Int × Int)) : (Int × Int) → Option (Int × Int) := fun (x2, x3) =>
  (bif (decide (x3 < (x0.length : Int))) then
  (guardO (0 ≤ x3 ∧ x3 < (x0.length : Int)) <|
  k6 ((IntKind.u32.wrap ((IntKind.u32.wrap (x2 * 16777619)) + (IntKind.u32.wrap (((at' x0 x3).toNat : Int))))), (W (x3 + 1))))
  else
  j10 x2)

def M_internal_bytealg_hashStrstring_L2 (j28 : Int → Option (Int × Int)) (k22 : (Int × Int × Int) → Option (Int × Int)) : (Int × Int × Int) → Option (Int × Int) := fun (x12, x13, x14) =>
  (bif (decide (0 < x14)) then
  (joinO (fun (x16 : Int) =>
  k22 (x16, (IntKind.u32.wrap (x13 * x13)), (Int.fdiv x14 (2 ^ (min (Int.toNat 1) (IntKind.bits .i64)))))) fun j17 =>
  (bif (!(decide ((W (((BitVec.ofInt (IntKind.bits .i64) x14 &&& BitVec.ofInt (IntKind.bits .i64) 1).toNat : Int))) = 0))) then
  j17 (IntKind.u32.wrap (x12 * x13))
  else
  j17 x12))
  else
  j28 x12)

def M_internal_bytealg_hashStrstring (x0 : List UInt8) : Option (Int × Int) :=
  (joinO (fun (x9 : Int) =>
  (joinO (fun (x27 : Int) =>
  some (x9, x27)) fun j28 =>
  (fixF (M_internal_bytealg_hashStrstring_L2 j28) FUEL (1, 16777619, (x0.length : Int))))) fun j10 =>
  (fixF (M_internal_bytealg_hashStrstring_L1 x0 j10) FUEL (0, 0)))

theorem ok_internal_bytealg_hashStrstring (x0 : List UInt8) (r : Int × Int) (h : M_internal_bytealg_hashStrstring x0 = some r) :
    FC Try.prog 34 [.string (bs x0)] [] (fun _ : Unit => True) (fun _ => .tuple #[.int .u32 r.1, .int .u32 r.2]) (fun _ => []) :=
  by
    refine FC.of (T := TTx) Try.call34 Try.func34 rfl rfl fun w0 => ?_
    unfold M_internal_bytealg_hashStrstring at h
    refine JS.seq ?_
    refine JS.region ?_
    refine JO.reg ttOk 2 [] [] [] _ rfl ⟨trivial, rfl⟩ ?_
    refine JO.done rfl ?_
    refine JS.seq ?_
    refine JS.region ?_
    refine JO.reg ttOk 1 [] [] [(4, .v (.int .u32 0))] _ rfl ⟨⟨rfl, trivial⟩, rfl⟩ ?_
    refine JO.done rfl ?_
    refine JS.seq ?_
    refine JS.seq ?_
    refine JS.region ?_
    refine JO.reg ttOk 1 [] [] [(5, .v (.int .i64 0))] _ rfl ⟨⟨rfl, trivial⟩, rfl⟩ ?_
    refine JO.done rfl ?_
    obtain ⟨j10, hj39, h⟩ := joinO_some h
    refine JS.blockJ (ι := Int) ⟨fun z => j10 z = some r, fun z => [(0, .v (.string (bs x0))), (4, .v (.int .u32 z))], fun z => .nil, fun z => [], fun z => [], fun z => 0⟩ ?_ ?_
    · refine JS.loop (ι := Nat × Int × Int) ⟨fun z => fixF (M_internal_bytealg_hashStrstring_L1 x0 j10) z.1 (z.2.1, z.2.2) = some r, fun z => [(0, .v (.string (bs x0))), (4, .v (.int .u32 z.2.1)), (5, .v (.int .i64 z.2.2))], fun z => .nil, fun z => [], fun z => [], fun z => z.1⟩ (FUEL, 0, 0) h ⟨rfl, rfl, rfl, trivial⟩ trivial [] rfl [] rfl ?_
      rintro ⟨n7, x2, x3⟩ h
      obtain ⟨n7, rfl, h⟩ := fixF_some h
      rw [M_internal_bytealg_hashStrstring_L1] at h
      refine JS.seq ?_
      refine JS.seq ?_
      refine JS.region ?_
      refine JO.reg ttOk 4 [] [] [(12, .v (.bool (decide (x3 < (x0.length : Int)))))] _ rfl ⟨⟨rfl, trivial⟩, rfl⟩ ?_
      refine JO.done rfl ?_
      refine JS.cond rfl (fun ht34 => ?_) (fun ht34 => ?_)
      · have h := condT h ht34
        refine JS.skip ?_
        refine JS.seq ?_
        refine JS.block ?_
        refine JS.region ?_
        obtain ⟨g4, h⟩ := guardO_some h
        refine JO.reg ttOk 8 [(IntKind.u32.wrap (x2 * 16777619)), (IntKind.u32.wrap (((at' x0 x3).toNat : Int))), (IntKind.u32.wrap ((IntKind.u32.wrap (x2 * 16777619)) + (IntKind.u32.wrap (((at' x0 x3).toNat : Int)))))] [] [(4, .v (.int .u32 (IntKind.u32.wrap ((IntKind.u32.wrap (x2 * 16777619)) + (IntKind.u32.wrap (((at' x0 x3).toNat : Int)))))))] _ rfl ⟨⟨trivial, rfl⟩, g4, ⟨trivial, rfl⟩, ⟨trivial, rfl⟩, ⟨rfl, trivial⟩, rfl⟩ ?_
        refine JO.done rfl ?_
        refine JS.endB ?_
        refine JS.region ?_
        refine JO.reg ttOk 3 [(W (x3 + 1))] [] [(5, .v (.int .i64 (W (x3 + 1))))] _ rfl ⟨⟨trivial, rfl⟩, ⟨rfl, trivial⟩, rfl⟩ ?_
        refine JO.done rfl ?_
        exact JS.endL (n7, (IntKind.u32.wrap ((IntKind.u32.wrap (x2 * 16777619)) + (IntKind.u32.wrap (((at' x0 x3).toNat : Int))))), (W (x3 + 1))) h (Nat.lt_succ_self _) ⟨rfl, rfl, rfl, trivial⟩ trivial [] rfl [] rfl
      · have h := condF h ht34
        refine JS.exit rfl ?_
        exact JS.endJ x2 h ⟨rfl, rfl, trivial⟩ trivial [] rfl [] rfl
    · rintro x9 h
      subst hj39
      refine JS.seq ?_
      refine JS.region ?_
      refine JO.reg ttOk 2 [] [] [(6, .v (.int .u32 1)), (7, .v (.int .u32 16777619))] _ rfl ⟨⟨rfl, rfl, trivial⟩, rfl⟩ ?_
      refine JO.done rfl ?_
      refine JS.seq ?_
      refine JS.seq ?_
      refine JS.region ?_
      refine JO.reg ttOk 3 [] [] [(8, .v (.int .i64 (x0.length : Int)))] _ rfl ⟨⟨rfl, trivial⟩, rfl⟩ ?_
      refine JO.done rfl ?_
      obtain ⟨j28, hj38, h⟩ := joinO_some h
      refine JS.blockJ (ι := Int) ⟨fun z => j28 z = some r, fun z => [(4, .v (.int .u32 x9)), (6, .v (.int .u32 z))], fun z => .nil, fun z => [], fun z => [], fun z => 0⟩ ?_ ?_
      · refine JS.loop (ι := Nat × Int × Int × Int) ⟨fun z => fixF (M_internal_bytealg_hashStrstring_L2 j28) z.1 (z.2.1, z.2.2.1, z.2.2.2) = some r, fun z => [(4, .v (.int .u32 x9)), (6, .v (.int .u32 z.2.1)), (7, .v (.int .u32 z.2.2.1)), (8, .v (.int .i64 z.2.2.2))], fun z => .nil, fun z => [], fun z => [], fun z => z.1⟩ (FUEL, 1, 16777619, (x0.length : Int)) h ⟨rfl, rfl, rfl, rfl, trivial⟩ trivial [] rfl [] rfl ?_
        rintro ⟨n23, x12, x13, x14⟩ h
        obtain ⟨n23, rfl, h⟩ := fixF_some h
        rw [M_internal_bytealg_hashStrstring_L2] at h
        refine JS.seq ?_
        refine JS.seq ?_
        refine JS.region ?_
        refine JO.reg ttOk 2 [] [] [(25, .v (.bool (decide (0 < x14))))] _ rfl ⟨⟨rfl, trivial⟩, rfl⟩ ?_
        refine JO.done rfl ?_
        refine JS.cond rfl (fun ht37 => ?_) (fun ht37 => ?_)
        · have h := condT h ht37
          refine JS.skip ?_
          refine JS.seq ?_
          refine JS.block ?_
          obtain ⟨j17, hj36, h⟩ := joinO_some h
          refine JS.seqJ (ι := Int) ⟨fun z => j17 z = some r, fun z => [(4, .v (.int .u32 x9)), (6, .v (.int .u32 z)), (7, .v (.int .u32 x13)), (8, .v (.int .i64 x14))], fun z => .nil, fun z => [], fun z => [], fun z => 0⟩ ?_ ?_
          · refine JS.seq ?_
            refine JS.region ?_
            refine JO.reg ttOk 3 [(W (((BitVec.ofInt (IntKind.bits .i64) x14 &&& BitVec.ofInt (IntKind.bits .i64) 1).toNat : Int)))] [] [(30, .v (.bool (!(decide ((W (((BitVec.ofInt (IntKind.bits .i64) x14 &&& BitVec.ofInt (IntKind.bits .i64) 1).toNat : Int))) = 0)))))] _ rfl ⟨⟨trivial, rfl⟩, ⟨rfl, trivial⟩, rfl⟩ ?_
            refine JO.done rfl ?_
            refine JS.cond rfl (fun ht35 => ?_) (fun ht35 => ?_)
            · have h := condT h ht35
              refine JS.region ?_
              refine JO.reg ttOk 4 [(IntKind.u32.wrap (x12 * x13))] [] [(6, .v (.int .u32 (IntKind.u32.wrap (x12 * x13))))] _ rfl ⟨⟨trivial, rfl⟩, ⟨rfl, trivial⟩, rfl⟩ ?_
              refine JO.done rfl ?_
              exact JS.endJ (IntKind.u32.wrap (x12 * x13)) h ⟨rfl, rfl, rfl, rfl, trivial⟩ trivial [] rfl [] rfl
            · have h := condF h ht35
              refine JS.skip ?_
              exact JS.endJ x12 h ⟨rfl, rfl, rfl, rfl, trivial⟩ trivial [] rfl [] rfl
          · rintro x16 h
            subst hj36
            refine JS.region ?_
            refine JO.reg ttOk 4 [(IntKind.u32.wrap (x13 * x13))] [] [(7, .v (.int .u32 (IntKind.u32.wrap (x13 * x13))))] _ rfl ⟨⟨trivial, rfl⟩, ⟨rfl, trivial⟩, rfl⟩ ?_
            refine JO.done rfl ?_
            refine JS.endB ?_
            refine JS.region ?_
            have g19 : (0 : Int) ≤ 1 := by decide
            refine JO.reg ttOk 3 [] [] [(8, .v (.int .i64 (Int.fdiv x14 (2 ^ (min (Int.toNat 1) (IntKind.bits .i64))))))] _ rfl ⟨g19, ⟨rfl, trivial⟩, rfl⟩ ?_
            refine JO.done rfl ?_
            exact JS.endL (n23, x16, (IntKind.u32.wrap (x13 * x13)), (Int.fdiv x14 (2 ^ (min (Int.toNat 1) (IntKind.bits .i64))))) h (Nat.lt_succ_self _) ⟨rfl, rfl, rfl, rfl, trivial⟩ trivial [] rfl [] rfl
        · have h := condF h ht37
          refine JS.exit rfl ?_
          exact JS.endJ x12 h ⟨rfl, rfl, trivial⟩ trivial [] rfl [] rfl
      · rintro x27 h
        subst hj38
        refine JS.seq ?_
        refine JS.region ?_
        refine JO.reg ttOk 4 [] [] [(2, .v (.int .u32 x9)), (3, .v (.int .u32 x27))] _ rfl ⟨⟨rfl, rfl, trivial⟩, rfl⟩ ?_
        refine JO.done rfl ?_
        cases h
        exact JS.ret ttOk () trivial rfl rfl [] rfl

def M_internal_bytealg_IndexRabinKarpstring_L1 (x0 : List UInt8) (x1 : List UInt8) (j14 : Int → Option Int) (k10 : (Int × Int) → Option Int) : (Int × Int) → Option Int := fun (x6, x7) =>
  (bif (decide (x7 < (x1.length : Int))) then
  (guardO (0 ≤ x7 ∧ x7 < (x0.length : Int)) <|
  k10 ((IntKind.u32.wrap ((IntKind.u32.wrap (x6 * 16777619)) + (IntKind.u32.wrap (((at' x0 x7).toNat : Int))))), (W (x7 + 1))))
  else
  j14 x6)

def M_internal_bytealg_IndexRabinKarpstring_L2 (x0 : List UInt8) (x1 : List UInt8) (y3 : Int) (y4 : Int) (j33 : Unit → Option Int) (k27 : (Int × Int) → Option Int) : (Int × Int) → Option Int := fun (x18, x19) =>
  (bif (decide (x19 < (x0.length : Int))) then
  (guardO (0 ≤ x19 ∧ x19 < (x0.length : Int)) <|
  (guardO (0 ≤ (W (x19 - (x1.length : Int))) ∧ (W (x19 - (x1.length : Int))) < (x0.length : Int)) <|
  (guardO (((decide ((IntKind.u32.wrap ((IntKind.u32.wrap ((IntKind.u32.wrap (x18 * 16777619)) + (IntKind.u32.wrap (((at' x0 x19).toNat : Int))))) - (IntKind.u32.wrap (y4 * (IntKind.u32.wrap (((at' x0 (W (x19 - (x1.length : Int)))).toNat : Int))))))) = y3)) = true) → 0 ≤ (W ((W (x19 + 1)) - (x1.length : Int))) ∧ (W ((W (x19 + 1)) - (x1.length : Int))) ≤ (W (x19 + 1)) ∧ (W (x19 + 1)) ≤ (x0.length : Int)) <|
  (bif (bif (decide ((IntKind.u32.wrap ((IntKind.u32.wrap ((IntKind.u32.wrap (x18 * 16777619)) + (IntKind.u32.wrap (((at' x0 x19).toNat : Int))))) - (IntKind.u32.wrap (y4 * (IntKind.u32.wrap (((at' x0 (W (x19 - (x1.length : Int)))).toNat : Int))))))) = y3)) then (decide ((sub' x0 (W ((W (x19 + 1)) - (x1.length : Int))) (W (x19 + 1))) = x1)) else false) then
  some (W ((W (x19 + 1)) - (x1.length : Int)))
  else
  k27 ((IntKind.u32.wrap ((IntKind.u32.wrap ((IntKind.u32.wrap (x18 * 16777619)) + (IntKind.u32.wrap (((at' x0 x19).toNat : Int))))) - (IntKind.u32.wrap (y4 * (IntKind.u32.wrap (((at' x0 (W (x19 - (x1.length : Int)))).toNat : Int))))))), (W (x19 + 1)))))))
  else
  j33 ())

def M_internal_bytealg_IndexRabinKarpstring (x0 : List UInt8) (x1 : List UInt8) : Option Int :=
  (bindO (M_internal_bytealg_hashStrstring x1) fun (y3, y4) =>
  (joinO (fun (x13 : Int) =>
  (guardO (((decide (x13 = y3)) = true) → 0 ≤ (0 : Int) ∧ 0 ≤ (x1.length : Int) ∧ (x1.length : Int) ≤ (x0.length : Int)) <|
  (bif (bif (decide (x13 = y3)) then (decide ((sub' x0 0 (x1.length : Int)) = x1)) else false) then
  some 0
  else
  (joinO (fun (_ : Unit) =>
  some (-1)) fun j33 =>
  (fixF (M_internal_bytealg_IndexRabinKarpstring_L2 x0 x1 y3 y4 j33) FUEL (x13, (x1.length : Int))))))) fun j14 =>
  (fixF (M_internal_bytealg_IndexRabinKarpstring_L1 x0 x1 j14) FUEL (0, 0))))

theorem ok_internal_bytealg_IndexRabinKarpstring (x0 : List UInt8) (x1 : List UInt8) (r : Int) (h : M_internal_bytealg_IndexRabinKarpstring x0 x1 = some r) :
    FC Try.prog 32 [.string (bs x0), .string (bs x1)] [] (fun _ : Unit => True) (fun _ => .int .i64 r) (fun _ => []) :=
  by
    refine FC.of (T := TTx) Try.call32 Try.func32 rfl rfl fun w0 => ?_
    unfold M_internal_bytealg_IndexRabinKarpstring at h
    refine JS.seq ?_
    refine JS.region ?_
    refine JO.reg ttOk 1 [] [] [] _ rfl ⟨trivial, rfl⟩ ?_
    refine JO.done rfl ?_
    refine JS.seq ?_
    refine JS.region ?_
    refine JO.reg ttOk 1 [] [] [(12, .v (.string (bs x1)))] _ rfl ⟨⟨rfl, trivial⟩, rfl⟩ ?_
    obtain ⟨⟨y3, y4⟩, hy5, h⟩ := bindO_some h
    refine JO.call rfl rfl rfl rfl (ok_internal_bytealg_hashStrstring x1 _ hy5) rfl [] rfl rfl ?_
    intro _ _
    refine JO.reg ttOk 5 [] [] [(5, .v (.int .u32 y3)), (6, .v (.int .u32 y4))] _ rfl ⟨⟨rfl, rfl, trivial⟩, rfl⟩ ?_
    refine JO.done rfl ?_
    refine JS.seq ?_
    refine JS.region ?_
    refine JO.reg ttOk 3 [] [] [(7, .v (.int .i64 (x1.length : Int)))] _ rfl ⟨⟨rfl, trivial⟩, rfl⟩ ?_
    refine JO.done rfl ?_
    refine JS.seq ?_
    refine JS.region ?_
    refine JO.reg ttOk 1 [] [] [(8, .v (.int .u32 0))] _ rfl ⟨⟨rfl, trivial⟩, rfl⟩ ?_
    refine JO.done rfl ?_
    refine JS.seq ?_
    refine JS.seq ?_
    refine JS.region ?_
    refine JO.reg ttOk 1 [] [] [(9, .v (.int .i64 0))] _ rfl ⟨⟨rfl, trivial⟩, rfl⟩ ?_
    refine JO.done rfl ?_
    obtain ⟨j14, hj49, h⟩ := joinO_some h
    refine JS.blockJ (ι := Int) ⟨fun z => j14 z = some r, fun z => [(0, .v (.string (bs x0))), (1, .v (.string (bs x1))), (5, .v (.int .u32 y3)), (6, .v (.int .u32 y4)), (7, .v (.int .i64 (x1.length : Int))), (8, .v (.int .u32 z))], fun z => .nil, fun z => [], fun z => [], fun z => 0⟩ ?_ ?_
    · refine JS.loop (ι := Nat × Int × Int) ⟨fun z => fixF (M_internal_bytealg_IndexRabinKarpstring_L1 x0 x1 j14) z.1 (z.2.1, z.2.2) = some r, fun z => [(0, .v (.string (bs x0))), (1, .v (.string (bs x1))), (5, .v (.int .u32 y3)), (6, .v (.int .u32 y4)), (7, .v (.int .i64 (x1.length : Int))), (8, .v (.int .u32 z.2.1)), (9, .v (.int .i64 z.2.2))], fun z => .nil, fun z => [], fun z => [], fun z => z.1⟩ (FUEL, 0, 0) h ⟨rfl, rfl, rfl, rfl, rfl, rfl, rfl, trivial⟩ trivial [] rfl [] rfl ?_
      rintro ⟨n11, x6, x7⟩ h
      obtain ⟨n11, rfl, h⟩ := fixF_some h
      rw [M_internal_bytealg_IndexRabinKarpstring_L1] at h
      refine JS.seq ?_
      refine JS.seq ?_
      refine JS.region ?_
      refine JO.reg ttOk 3 [] [] [(20, .v (.bool (decide (x7 < (x1.length : Int)))))] _ rfl ⟨⟨rfl, trivial⟩, rfl⟩ ?_
      refine JO.done rfl ?_
      refine JS.cond rfl (fun ht41 => ?_) (fun ht41 => ?_)
      · have h := condT h ht41
        refine JS.skip ?_
        refine JS.seq ?_
        refine JS.block ?_
        refine JS.region ?_
        obtain ⟨g8, h⟩ := guardO_some h
        refine JO.reg ttOk 8 [(IntKind.u32.wrap (x6 * 16777619)), (IntKind.u32.wrap (((at' x0 x7).toNat : Int))), (IntKind.u32.wrap ((IntKind.u32.wrap (x6 * 16777619)) + (IntKind.u32.wrap (((at' x0 x7).toNat : Int)))))] [] [(8, .v (.int .u32 (IntKind.u32.wrap ((IntKind.u32.wrap (x6 * 16777619)) + (IntKind.u32.wrap (((at' x0 x7).toNat : Int)))))))] _ rfl ⟨⟨trivial, rfl⟩, g8, ⟨trivial, rfl⟩, ⟨trivial, rfl⟩, ⟨rfl, trivial⟩, rfl⟩ ?_
        refine JO.done rfl ?_
        refine JS.endB ?_
        refine JS.region ?_
        refine JO.reg ttOk 3 [(W (x7 + 1))] [] [(9, .v (.int .i64 (W (x7 + 1))))] _ rfl ⟨⟨trivial, rfl⟩, ⟨rfl, trivial⟩, rfl⟩ ?_
        refine JO.done rfl ?_
        exact JS.endL (n11, (IntKind.u32.wrap ((IntKind.u32.wrap (x6 * 16777619)) + (IntKind.u32.wrap (((at' x0 x7).toNat : Int))))), (W (x7 + 1))) h (Nat.lt_succ_self _) ⟨rfl, rfl, rfl, rfl, rfl, rfl, rfl, trivial⟩ trivial [] rfl [] rfl
      · have h := condF h ht41
        refine JS.exit rfl ?_
        exact JS.endJ x6 h ⟨rfl, rfl, rfl, rfl, rfl, rfl, trivial⟩ trivial [] rfl [] rfl
    · rintro x13 h
      subst hj49
      refine JS.seq ?_
      refine JS.seq ?_
      refine JS.region ?_
      obtain ⟨g16, h⟩ := guardO_some h
      refine JO.reg ttOk 10 [] [] [(39, .v (.bool (bif (decide (x13 = y3)) then (decide ((sub' x0 0 (x1.length : Int)) = x1)) else false)))] _ rfl ⟨(fun q42 => (g16 q42)), ⟨rfl, trivial⟩, rfl⟩ ?_
      refine JO.done rfl ?_
      refine JS.cond rfl (fun ht48 => ?_) (fun ht48 => ?_)
      · have h := condT h ht48
        refine JS.seq ?_
        refine JS.region ?_
        refine JO.reg ttOk 1 [] [] [(4, .v (.int .i64 0))] _ rfl ⟨⟨rfl, trivial⟩, rfl⟩ ?_
        refine JO.done rfl ?_
        cases h
        exact JS.ret ttOk () trivial rfl rfl [] rfl
      · have h := condF h ht48
        refine JS.skip ?_
        refine JS.seq ?_
        refine JS.seq ?_
        refine JS.region ?_
        refine JO.reg ttOk 2 [] [] [(10, .v (.int .i64 (x1.length : Int)))] _ rfl ⟨⟨rfl, trivial⟩, rfl⟩ ?_
        refine JO.done rfl ?_
        obtain ⟨j33, hj47, h⟩ := joinO_some h
        refine JS.blockJ (ι := Unit) ⟨fun _ => j33 () = some r, fun _ => [], fun _ => .nil, fun _ => [], fun _ => [], fun _ => 0⟩ ?_ ?_
        · refine JS.loop (ι := Nat × Int × Int) ⟨fun z => fixF (M_internal_bytealg_IndexRabinKarpstring_L2 x0 x1 y3 y4 j33) z.1 (z.2.1, z.2.2) = some r, fun z => [(0, .v (.string (bs x0))), (1, .v (.string (bs x1))), (5, .v (.int .u32 y3)), (6, .v (.int .u32 y4)), (7, .v (.int .i64 (x1.length : Int))), (8, .v (.int .u32 z.2.1)), (10, .v (.int .i64 z.2.2))], fun z => .nil, fun z => [], fun z => [], fun z => z.1⟩ (FUEL, x13, (x1.length : Int)) h ⟨rfl, rfl, rfl, rfl, rfl, rfl, rfl, trivial⟩ trivial [] rfl [] rfl ?_
          rintro ⟨n28, x18, x19⟩ h
          obtain ⟨n28, rfl, h⟩ := fixF_some h
          rw [M_internal_bytealg_IndexRabinKarpstring_L2] at h
          refine JS.seq ?_
          refine JS.seq ?_
          refine JS.region ?_
          refine JO.reg ttOk 4 [] [] [(44, .v (.bool (decide (x19 < (x0.length : Int)))))] _ rfl ⟨⟨rfl, trivial⟩, rfl⟩ ?_
          refine JO.done rfl ?_
          refine JS.cond rfl (fun ht46 => ?_) (fun ht46 => ?_)
          · have h := condT h ht46
            refine JS.skip ?_
            refine JS.block ?_
            refine JS.seq ?_
            refine JS.region ?_
            refine JO.reg ttOk 3 [(IntKind.u32.wrap (x18 * 16777619))] [] [(8, .v (.int .u32 (IntKind.u32.wrap (x18 * 16777619))))] _ rfl ⟨⟨trivial, rfl⟩, ⟨rfl, trivial⟩, rfl⟩ ?_
            refine JO.done rfl ?_
            refine JS.seq ?_
            refine JS.region ?_
            obtain ⟨g20, h⟩ := guardO_some h
            refine JO.reg ttOk 7 [(IntKind.u32.wrap (((at' x0 x19).toNat : Int))), (IntKind.u32.wrap ((IntKind.u32.wrap (x18 * 16777619)) + (IntKind.u32.wrap (((at' x0 x19).toNat : Int)))))] [] [(8, .v (.int .u32 (IntKind.u32.wrap ((IntKind.u32.wrap (x18 * 16777619)) + (IntKind.u32.wrap (((at' x0 x19).toNat : Int)))))))] _ rfl ⟨g20, ⟨trivial, rfl⟩, ⟨trivial, rfl⟩, ⟨rfl, trivial⟩, rfl⟩ ?_
            refine JO.done rfl ?_
            refine JS.seq ?_
            refine JS.region ?_
            obtain ⟨g21, h⟩ := guardO_some h
            refine JO.reg ttOk 11 [(W (x19 - (x1.length : Int))), (IntKind.u32.wrap (((at' x0 (W (x19 - (x1.length : Int)))).toNat : Int))), (IntKind.u32.wrap (y4 * (IntKind.u32.wrap (((at' x0 (W (x19 - (x1.length : Int)))).toNat : Int))))), (IntKind.u32.wrap ((IntKind.u32.wrap ((IntKind.u32.wrap (x18 * 16777619)) + (IntKind.u32.wrap (((at' x0 x19).toNat : Int))))) - (IntKind.u32.wrap (y4 * (IntKind.u32.wrap (((at' x0 (W (x19 - (x1.length : Int)))).toNat : Int)))))))] [] [(8, .v (.int .u32 (IntKind.u32.wrap ((IntKind.u32.wrap ((IntKind.u32.wrap (x18 * 16777619)) + (IntKind.u32.wrap (((at' x0 x19).toNat : Int))))) - (IntKind.u32.wrap (y4 * (IntKind.u32.wrap (((at' x0 (W (x19 - (x1.length : Int)))).toNat : Int)))))))))] _ rfl ⟨⟨trivial, rfl⟩, g21, ⟨trivial, rfl⟩, ⟨trivial, rfl⟩, ⟨trivial, rfl⟩, ⟨rfl, trivial⟩, rfl⟩ ?_
            refine JO.done rfl ?_
            refine JS.seq ?_
            refine JS.region ?_
            refine JO.reg ttOk 3 [(W (x19 + 1))] [] [(10, .v (.int .i64 (W (x19 + 1))))] _ rfl ⟨⟨trivial, rfl⟩, ⟨rfl, trivial⟩, rfl⟩ ?_
            refine JO.done rfl ?_
            refine JS.seq ?_
            refine JS.region ?_
            obtain ⟨g23, h⟩ := guardO_some h
            refine JO.reg ttOk 13 [(W ((W (x19 + 1)) - (x1.length : Int)))] [] [(77, .v (.bool (bif (decide ((IntKind.u32.wrap ((IntKind.u32.wrap ((IntKind.u32.wrap (x18 * 16777619)) + (IntKind.u32.wrap (((at' x0 x19).toNat : Int))))) - (IntKind.u32.wrap (y4 * (IntKind.u32.wrap (((at' x0 (W (x19 - (x1.length : Int)))).toNat : Int))))))) = y3)) then (decide ((sub' x0 (W ((W (x19 + 1)) - (x1.length : Int))) (W (x19 + 1))) = x1)) else false)))] _ rfl ⟨(fun q43 => ⟨trivial, rfl⟩), (fun q44 => (g23 q44)), ⟨rfl, trivial⟩, rfl⟩ ?_
            refine JO.done rfl ?_
            refine JS.cond rfl (fun ht45 => ?_) (fun ht45 => ?_)
            · have h := condT h ht45
              refine JS.seq ?_
              refine JS.region ?_
              refine JO.reg ttOk 4 [(W ((W (x19 + 1)) - (x1.length : Int)))] [] [(4, .v (.int .i64 (W ((W (x19 + 1)) - (x1.length : Int)))))] _ rfl ⟨⟨trivial, rfl⟩, ⟨rfl, trivial⟩, rfl⟩ ?_
              refine JO.done rfl ?_
              cases h
              exact JS.ret ttOk () trivial rfl rfl [] rfl
            · have h := condF h ht45
              refine JS.skip ?_
              refine JS.endB ?_
              exact JS.endL (n28, (IntKind.u32.wrap ((IntKind.u32.wrap ((IntKind.u32.wrap (x18 * 16777619)) + (IntKind.u32.wrap (((at' x0 x19).toNat : Int))))) - (IntKind.u32.wrap (y4 * (IntKind.u32.wrap (((at' x0 (W (x19 - (x1.length : Int)))).toNat : Int))))))), (W (x19 + 1))) h (Nat.lt_succ_self _) ⟨rfl, rfl, rfl, rfl, rfl, rfl, rfl, trivial⟩ trivial [] rfl [] rfl
          · have h := condF h ht46
            refine JS.exit rfl ?_
            exact JS.endJ () h trivial trivial [] rfl [] rfl
        · rintro _ h
          subst hj47
          refine JS.seq ?_
          refine JS.region ?_
          refine JO.reg ttOk 1 [] [] [(4, .v (.int .i64 (-1)))] _ rfl ⟨⟨rfl, trivial⟩, rfl⟩ ?_
          refine JO.done rfl ?_
          cases h
          exact JS.ret ttOk () trivial rfl rfl [] rfl

def M_internal_stringslite_Index (x0 : List UInt8) (x1 : List UInt8) : Option Int :=
  (bif (bif (decide ((x1.length : Int) = 0)) then true else (decide (x1 = x0))) then
  some 0
  else
  (bif (decide ((x1.length : Int) = 1)) then
  (guardO (0 ≤ (0 : Int) ∧ 0 < (x1.length : Int)) <|
  (bindO (M_internal_stringslite_IndexByte x0 (at' x1 0)) fun (y4 : Int) =>
  some y4))
  else
  (bif (decide ((x0.length : Int) ≤ (x1.length : Int))) then
  some (-1)
  else
  none)))

theorem ok_internal_stringslite_Index (x0 : List UInt8) (x1 : List UInt8) (r : Int) (h : M_internal_stringslite_Index x0 x1 = some r) :
    FC Try.prog 28 [.string (bs x0), .string (bs x1)] [] (fun _ : Unit => True) (fun _ => .int .i64 r) (fun _ => []) :=
  by
    refine FC.of (T := TTx) Try.call28 Try.func28 rfl rfl fun w0 => ?_
    unfold M_internal_stringslite_Index at h
    refine JS.seq ?_
    refine JS.region ?_
    refine JO.reg ttOk 1 [] [] [] _ rfl ⟨trivial, rfl⟩ ?_
    refine JO.done rfl ?_
    refine JS.seq ?_
    refine JS.region ?_
    refine JO.reg ttOk 3 [] [] [(5, .v (.int .i64 (x1.length : Int)))] _ rfl ⟨⟨rfl, trivial⟩, rfl⟩ ?_
    refine JO.done rfl ?_
    refine JS.seq ?_
    refine JS.block ?_
    refine JS.seq ?_
    refine JS.region ?_
    refine JO.reg ttOk 8 [] [] [(16, .v (.bool (bif (decide ((x1.length : Int) = 0)) then true else (decide (x1 = x0)))))] _ rfl ⟨⟨rfl, trivial⟩, rfl⟩ ?_
    refine JO.done rfl ?_
    refine JS.cond rfl (fun ht11 => ?_) (fun ht11 => ?_)
    · have h := condT h ht11
      refine JS.seq ?_
      refine JS.region ?_
      refine JO.reg ttOk 1 [] [] [(4, .v (.int .i64 0))] _ rfl ⟨⟨rfl, trivial⟩, rfl⟩ ?_
      refine JO.done rfl ?_
      cases h
      exact JS.ret ttOk () trivial rfl rfl [] rfl
    · have h := condF h ht11
      refine JS.seq ?_
      refine JS.region ?_
      refine JO.reg ttOk 3 [] [] [(24, .v (.bool (decide ((x1.length : Int) = 1))))] _ rfl ⟨⟨rfl, trivial⟩, rfl⟩ ?_
      refine JO.done rfl ?_
      refine JS.cond rfl (fun ht10 => ?_) (fun ht10 => ?_)
      · have h := condT h ht10
        refine JS.seq ?_
        refine JS.region ?_
        obtain ⟨g3, h⟩ := guardO_some h
        refine JO.reg ttOk 3 [] [] [(27, .v (.string (bs x0))), (29, .v (.int .u8 ((at' x1 0).toNat : Int)))] _ rfl ⟨g3, ⟨rfl, rfl, trivial⟩, rfl⟩ ?_
        obtain ⟨y4, hy5, h⟩ := bindO_some h
        refine JO.call rfl rfl rfl rfl (ok_internal_stringslite_IndexByte x0 (at' x1 0) _ hy5) rfl [] rfl rfl ?_
        intro _ _
        refine JO.reg ttOk 1 [] [] [(4, .v (.int .i64 y4))] _ rfl ⟨⟨rfl, trivial⟩, rfl⟩ ?_
        refine JO.done rfl ?_
        cases h
        exact JS.ret ttOk () trivial rfl rfl [] rfl
      · have h := condF h ht10
        refine JS.seq ?_
        refine JS.region ?_
        refine JO.reg ttOk 5 [] [] [(31, .v (.bool (decide ((x0.length : Int) ≤ (x1.length : Int)))))] _ rfl ⟨⟨rfl, trivial⟩, rfl⟩ ?_
        refine JO.done rfl ?_
        refine JS.cond rfl (fun ht9 => ?_) (fun ht9 => ?_)
        · have h := condT h ht9
          refine JS.seq ?_
          refine JS.region ?_
          refine JO.reg ttOk 1 [] [] [(4, .v (.int .i64 (-1)))] _ rfl ⟨⟨rfl, trivial⟩, rfl⟩ ?_
          refine JO.done rfl ?_
          cases h
          exact JS.ret ttOk () trivial rfl rfl [] rfl
        · have h := condF h ht9
          refine JS.seq ?_
          cases h

def M_strings_Index (x0 : List UInt8) (x1 : List UInt8) : Option Int := match x1 with
  | [c] => some (Lib.indexByte x0 c)
  | _ => none

theorem ok_strings_Index (x0 : List UInt8) (x1 : List UInt8) (r : Int) (h : M_strings_Index x0 x1 = some r) : FV Try.prog 27 [.string (bs x0), .string (bs x1)] [] (.int .i64 r) := by
  match x1, h with
  | [c], h =>
    cases h
    refine FV.of_calls Try.call27 fun w => ?_
    exact Try.strings_Index_one (bs x0) c w
  | [], h => cases h
  | _ :: _ :: _, h => cases h

def M_strings_Contains (x0 : List UInt8) (x1 : List UInt8) : Option Bool := match x1 with
  | [c] => some (decide (0 ≤ Lib.indexByte x0 c))
  | _ => none

theorem ok_strings_Contains (x0 : List UInt8) (x1 : List UInt8) (r : Bool) (h : M_strings_Contains x0 x1 = some r) : FV Try.prog 25 [.string (bs x0), .string (bs x1)] [] (.bool r) := by
  match x1, h with
  | [c], h =>
    cases h
    refine FV.of_calls Try.call25 fun w => ?_
    exact Try.strings_Contains_one (bs x0) c w
  | [], h => cases h
  | _ :: _ :: _, h => cases h

def M_i_HistFind_L1 (x0 : Int × List (List UInt8)) (x1 : List UInt8) (x3 : Int) (x4 : Bool) (j48 : Unit → Option Int) (k40 : Int → Option Int) : Int → Option Int := fun x16 =>
  (bindO (M_i_in x16 x0.1 (W ((W (x0.1 + (x0.2.length : Int))) - 1))) fun (y21 : Bool) =>
  (bif y21 then
  (guardO (0 ≤ (W (x16 - x0.1)) ∧ (W (x16 - x0.1)) < (x0.2.length : Int)) <|
  (callO (x4 = true) (M_strings_HasPrefix (at' x0.2 (W (x16 - x0.1))) x1) false fun (y25 : Bool) =>
  (callO ((!x4) = true ∧ (bif x4 then y25 else false) = false) (M_strings_Contains (at' x0.2 (W (x16 - x0.1))) x1) false fun (y28 : Bool) =>
  (bif (bif (bif x4 then y25 else false) then true else (bif (!x4) then y28 else false)) then
  some x16
  else
  k40 (W (x16 + x3))))))
  else
  j48 ()))

def M_i_HistFind (x0 : Int × List (List UInt8)) (x1 : List UInt8) (x2 : Int) (x3 : Int) (x4 : Bool) : Option Int :=
  (bindO (M_i_HistOk x0) fun (y10 : Bool) =>
  (bif (bif (!y10) then true else (bif (!(decide (x3 = 1))) then (!(decide (x3 = (-1)))) else false)) then
  some 0
  else
  (joinO (fun (x13 : Int) =>
  (joinO (fun (_ : Unit) =>
  some 0) fun j48 =>
  (fixF (M_i_HistFind_L1 x0 x1 x3 x4 j48) FUEL x13))) fun j14 =>
  (bif (decide (x3 = 1)) then
  j14 (max x2 x0.1)
  else
  j14 (min x2 (W ((W (x0.1 + (x0.2.length : Int))) - 1)))))))

theorem ok_i_HistFind (x0 : Int × List (List UInt8)) (x1 : List UInt8) (x2 : Int) (x3 : Int) (x4 : Bool) (a6 : Option Addr) (c7 : Nat) (l8 : Nat) (hl9 : x0.2.length = l8) (r : Int) (h : M_i_HistFind x0 x1 x2 x3 x4 = some r) :
    FC Try.prog 19 [.agg #[.int .i64 x0.1, .slice a6 l8 c7], .string (bs x1), .int .i64 x2, .int .i64 x3, .bool x4] [⟨.str, ⟨a6, l8, c7⟩, x0.2⟩] (fun _ : Unit => True) (fun _ => .int .i64 r) (fun _ => []) :=
  by
    subst hl9
    refine FC.of (T := TTx) Try.call19 Try.func19 rfl rfl fun w0 => ?_
    unfold M_i_HistFind at h
    refine JS.seq ?_
    refine JS.region ?_
    refine JO.regB ttOk 2 [] [2] [(5, .bp 2 0)] (.new 2 31 [.int .i64 x0.1, .slice a6 x0.2.length c7] .nil) rfl ⟨⟨rfl, trivial⟩, ⟨rfl, rfl, rfl, rfl, trivial⟩⟩ ?_
    refine JO.done rfl ?_
    refine JS.seq ?_
    refine JS.seq ?_
    refine JS.region ?_
    refine JO.reg ttOk 1 [] [] [(14, .v (.agg #[.int .i64 x0.1, .slice a6 x0.2.length c7]))] _ rfl ⟨⟨rfl, trivial⟩, rfl⟩ ?_
    obtain ⟨y10, hy11, h⟩ := bindO_some h
    refine JO.call rfl rfl rfl rfl (ok_i_HistOk x0 a6 c7 x0.2.length rfl _ hy11) rfl [0] rfl rfl ?_
    intro _ _
    refine JO.reg ttOk 9 [] [] [(24, .v (.bool (bif (!y10) then true else (bif (!(decide (x3 = 1))) then (!(decide (x3 = (-1)))) else false))))] _ rfl ⟨⟨rfl, trivial⟩, rfl⟩ ?_
    refine JO.done rfl ?_
    refine JS.cond rfl (fun ht67 => ?_) (fun ht67 => ?_)
    · have h := condT h ht67
      refine JS.seq ?_
      refine JS.region ?_
      refine JO.reg ttOk 1 [] [] [(10, .v (.int .i64 0))] _ rfl ⟨⟨rfl, trivial⟩, rfl⟩ ?_
      refine JO.done rfl ?_
      cases h
      exact JS.ret ttOk () trivial rfl rfl [] rfl
    · have h := condF h ht67
      refine JS.skip ?_
      refine JS.seq ?_
      refine JS.region ?_
      refine JO.reg ttOk 8 [(W (x0.1 + (x0.2.length : Int))), (W ((W (x0.1 + (x0.2.length : Int))) - 1))] [] [(11, .v (.int .i64 (W ((W (x0.1 + (x0.2.length : Int))) - 1))))] _ rfl ⟨⟨trivial, rfl⟩, ⟨trivial, rfl⟩, ⟨rfl, trivial⟩, rfl⟩ ?_
      refine JO.done rfl ?_
      obtain ⟨j14, hj66, h⟩ := joinO_some h
      refine JS.seqJ (ι := Int) ⟨fun z => j14 z = some r, fun z => [(1, .v (.string (bs x1))), (2, .v (.int .i64 z)), (3, .v (.int .i64 x3)), (4, .v (.bool x4)), (5, .bp 2 0), (11, .v (.int .i64 (W ((W (x0.1 + (x0.2.length : Int))) - 1))))], fun z => (.new 2 31 [.int .i64 x0.1, .slice a6 x0.2.length c7] .nil), fun z => [⟨.str, ⟨a6, x0.2.length, c7⟩, x0.2⟩], fun z => [], fun z => 0⟩ ?_ ?_
      · refine JS.seq ?_
        refine JS.region ?_
        refine JO.reg ttOk 2 [] [] [(33, .v (.bool (decide (x3 = 1))))] _ rfl ⟨⟨rfl, trivial⟩, rfl⟩ ?_
        refine JO.done rfl ?_
        refine JS.cond rfl (fun ht58 => ?_) (fun ht58 => ?_)
        · have h := condT h ht58
          refine JS.region ?_
          refine JO.reg ttOk 5 [] [] [(2, .v (.int .i64 (max x2 x0.1)))] _ rfl ⟨⟨rfl, trivial⟩, rfl⟩ ?_
          refine JO.done rfl ?_
          exact JS.endJ (max x2 x0.1) h ⟨rfl, rfl, rfl, rfl, rfl, rfl, trivial⟩ ⟨rfl, rfl, rfl, rfl, trivial⟩ [0] rfl [] rfl
        · have h := condF h ht58
          refine JS.region ?_
          refine JO.reg ttOk 4 [] [] [(2, .v (.int .i64 (min x2 (W ((W (x0.1 + (x0.2.length : Int))) - 1)))))] _ rfl ⟨⟨rfl, trivial⟩, rfl⟩ ?_
          refine JO.done rfl ?_
          exact JS.endJ (min x2 (W ((W (x0.1 + (x0.2.length : Int))) - 1))) h ⟨rfl, rfl, rfl, rfl, rfl, rfl, trivial⟩ ⟨rfl, rfl, rfl, rfl, trivial⟩ [0] rfl [] rfl
      · rintro x13 h
        subst hj66
        refine JS.seq ?_
        refine JS.seq ?_
        refine JS.region ?_
        refine JO.reg ttOk 2 [] [] [(12, .v (.int .i64 x13))] _ rfl ⟨⟨rfl, trivial⟩, rfl⟩ ?_
        refine JO.done rfl ?_
        obtain ⟨j48, hj65, h⟩ := joinO_some h
        refine JS.blockJ (ι := Unit) ⟨fun _ => j48 () = some r, fun _ => [], fun _ => .nil, fun _ => [], fun _ => [], fun _ => 0⟩ ?_ ?_
        · refine JS.loop (ι := Nat × Int) ⟨fun z => fixF (M_i_HistFind_L1 x0 x1 x3 x4 j48) z.1 z.2 = some r, fun z => [(1, .v (.string (bs x1))), (3, .v (.int .i64 x3)), (4, .v (.bool x4)), (5, .bp 2 0), (11, .v (.int .i64 (W ((W (x0.1 + (x0.2.length : Int))) - 1)))), (12, .v (.int .i64 z.2))], fun z => (.new 2 31 [.int .i64 x0.1, .slice a6 x0.2.length c7] .nil), fun z => [⟨.str, ⟨a6, x0.2.length, c7⟩, x0.2⟩], fun z => [], fun z => z.1⟩ (FUEL, x13) h ⟨rfl, rfl, rfl, rfl, rfl, rfl, trivial⟩ ⟨rfl, rfl, rfl, rfl, trivial⟩ [0] rfl [] rfl ?_
          rintro ⟨n41, x16⟩ h
          obtain ⟨n41, rfl, h⟩ := fixF_some h
          rw [M_i_HistFind_L1] at h
          refine JS.seq ?_
          refine JS.seq ?_
          refine JS.region ?_
          refine JO.reg ttOk 4 [] [] [(42, .v (.int .i64 x16)), (44, .v (.int .i64 x0.1)), (45, .v (.int .i64 (W ((W (x0.1 + (x0.2.length : Int))) - 1))))] _ rfl ⟨⟨rfl, rfl, rfl, trivial⟩, rfl⟩ ?_
          obtain ⟨y21, hy22, h⟩ := bindO_some h
          refine JO.call rfl rfl rfl rfl (ok_i_in x16 x0.1 (W ((W (x0.1 + (x0.2.length : Int))) - 1)) _ hy22) rfl [] rfl rfl ?_
          intro _ _
          refine JO.done rfl ?_
          refine JS.cond rfl (fun ht64 => ?_) (fun ht64 => ?_)
          · have h := condT h ht64
            refine JS.skip ?_
            refine JS.seq ?_
            refine JS.block ?_
            refine JS.seq ?_
            refine JS.region ?_
            refine JO.know 0 rfl fun hs59 => ?_
            obtain ⟨g24, h⟩ := guardO_some h
            refine JO.reg ttOk 7 [(W (x16 - x0.1))] [] [(56, .ep ⟨a6, x0.2.length, c7⟩ (Int.toNat (W (x16 - x0.1)) * 1))] _ rfl ⟨⟨trivial, rfl⟩, hs59.ix g24, ⟨rfl, trivial⟩, rfl⟩ ?_
            refine JO.load ttOk rfl rfl rfl rfl rfl rfl rfl 0 rfl rfl (Int.toNat (W (x16 - x0.1))) 0 (at' x0.2 (W (x16 - x0.1))) ⟨at_some g24, rfl⟩ rfl rfl ?_
            refine JO.reg ttOk 1 [] [] [(13, .v (.string (bs (at' x0.2 (W (x16 - x0.1))))))] _ rfl ⟨⟨rfl, trivial⟩, rfl⟩ ?_
            refine JO.done rfl ?_
            refine JS.seq ?_
            refine JS.region ?_
            refine JO.reg ttOk 4 [] [] [(59, .v (.bool x4)), (60, .cd [(59, true)] (.v (.string (bs (at' x0.2 (W (x16 - x0.1))))))), (61, .cd [(59, true)] (.v (.string (bs x1))))] _ rfl ⟨⟨rfl, rfl, rfl, trivial⟩, rfl⟩ ?_
            obtain ⟨y25, hy26, -, h⟩ := callO_some h
            refine JO.callg rfl rfl rfl rfl (fun q60 => ok_strings_HasPrefix (at' x0.2 (W (x16 - x0.1))) x1 _ (hy26 q60)) rfl [] rfl rfl ?_
            refine JO.reg ttOk 7 [] [] [(64, .v (.bool (bif x4 then y25 else false))), (67, .cd [(64, false)] (.v (.bool (!x4)))), (68, .cd [(67, true), (64, false)] (.v (.string (bs (at' x0.2 (W (x16 - x0.1))))))), (69, .cd [(67, true), (64, false)] (.v (.string (bs x1))))] _ rfl ⟨⟨rfl, rfl, rfl, rfl, trivial⟩, rfl⟩ ?_
            obtain ⟨y28, hy29, -, h⟩ := callO_some h
            refine JO.callg rfl rfl rfl rfl (fun q61 q62 => ok_strings_Contains (at' x0.2 (W (x16 - x0.1))) x1 _ (hy29 ⟨q61, q62⟩)) rfl [] rfl rfl ?_
            refine JO.reg ttOk 2 [] [] [(72, .v (.bool (bif (bif x4 then y25 else false) then true else (bif (!x4) then y28 else false))))] _ rfl ⟨⟨rfl, trivial⟩, rfl⟩ ?_
            refine JO.done rfl ?_
            refine JS.cond rfl (fun ht63 => ?_) (fun ht63 => ?_)
            · have h := condT h ht63
              refine JS.seq ?_
              refine JS.region ?_
              refine JO.reg ttOk 2 [] [] [(10, .v (.int .i64 x16))] _ rfl ⟨⟨rfl, trivial⟩, rfl⟩ ?_
              refine JO.done rfl ?_
              cases h
              exact JS.ret ttOk () trivial rfl rfl [] rfl
            · have h := condF h ht63
              refine JS.skip ?_
              refine JS.endB ?_
              refine JS.region ?_
              refine JO.reg ttOk 4 [(W (x16 + x3))] [] [(12, .v (.int .i64 (W (x16 + x3))))] _ rfl ⟨⟨trivial, rfl⟩, ⟨rfl, trivial⟩, rfl⟩ ?_
              refine JO.done rfl ?_
              exact JS.endL (n41, (W (x16 + x3))) h (Nat.lt_succ_self _) ⟨rfl, rfl, rfl, rfl, rfl, rfl, trivial⟩ ⟨rfl, rfl, rfl, rfl, trivial⟩ [0] rfl [] rfl
          · have h := condF h ht64
            refine JS.exit rfl ?_
            exact JS.endJ () h trivial trivial [] rfl [] rfl
        · rintro _ h
          subst hj65
          refine JS.seq ?_
          refine JS.region ?_
          refine JO.reg ttOk 1 [] [] [(10, .v (.int .i64 0))] _ rfl ⟨⟨rfl, trivial⟩, rfl⟩ ?_
          refine JO.done rfl ?_
          cases h
          exact JS.ret ttOk () trivial rfl rfl [] rfl

def M_i_HistGet (x0 : Int × List (List UInt8)) (x1 : Int) : Option (List UInt8 × Bool) :=
  (bindO (M_i_HistOk x0) fun (y7 : Bool) =>
  (callO ((!y7) = false) (M_i_in x1 x0.1 (W ((W (x0.1 + (x0.2.length : Int))) - 1))) false fun (y11 : Bool) =>
  (bif (bif (!y7) then true else (!y11)) then
  some ([], false)
  else
  (guardO (0 ≤ (W (x1 - x0.1)) ∧ (W (x1 - x0.1)) < (x0.2.length : Int)) <|
  some ((at' x0.2 (W (x1 - x0.1))), true)))))

theorem ok_i_HistGet (x0 : Int × List (List UInt8)) (x1 : Int) (a3 : Option Addr) (c4 : Nat) (l5 : Nat) (hl6 : x0.2.length = l5) (r : List UInt8 × Bool) (h : M_i_HistGet x0 x1 = some r) :
    FC Try.prog 17 [.agg #[.int .i64 x0.1, .slice a3 l5 c4], .int .i64 x1] [⟨.str, ⟨a3, l5, c4⟩, x0.2⟩] (fun _ : Unit => True) (fun _ => .tuple #[.string (bs r.1), .bool r.2]) (fun _ => []) :=
  by
    subst hl6
    refine FC.of (T := TTx) Try.call17 Try.func17 rfl rfl fun w0 => ?_
    unfold M_i_HistGet at h
    refine JS.seq ?_
    refine JS.region ?_
    refine JO.regB ttOk 3 [] [2] [(2, .bp 2 0)] (.new 2 31 [.int .i64 x0.1, .slice a3 x0.2.length c4] .nil) rfl ⟨⟨rfl, trivial⟩, ⟨rfl, rfl, rfl, rfl, trivial⟩⟩ ?_
    refine JO.done rfl ?_
    refine JS.seq ?_
    refine JS.seq ?_
    refine JS.region ?_
    refine JO.reg ttOk 1 [] [] [(6, .v (.agg #[.int .i64 x0.1, .slice a3 x0.2.length c4]))] _ rfl ⟨⟨rfl, trivial⟩, rfl⟩ ?_
    obtain ⟨y7, hy8, h⟩ := bindO_some h
    refine JO.call rfl rfl rfl rfl (ok_i_HistOk x0 a3 c4 x0.2.length rfl _ hy8) rfl [0] rfl rfl ?_
    intro _ _
    refine JO.reg ttOk 12 [(W (x0.1 + (x0.2.length : Int))), (W ((W (x0.1 + (x0.2.length : Int))) - 1))] [] [(9, .v (.bool (!y7))), (10, .cd [(9, false)] (.v (.int .i64 x1))), (12, .cd [(9, false)] (.v (.int .i64 x0.1))), (19, .cd [(9, false)] (.v (.int .i64 (W ((W (x0.1 + (x0.2.length : Int))) - 1)))))] _ rfl ⟨(fun q17 => ⟨trivial, rfl⟩), (fun q18 => ⟨trivial, rfl⟩), ⟨rfl, rfl, rfl, rfl, trivial⟩, rfl⟩ ?_
    obtain ⟨y11, hy12, -, h⟩ := callO_some h
    refine JO.callg rfl rfl rfl rfl (fun q19 => ok_i_in x1 x0.1 (W ((W (x0.1 + (x0.2.length : Int))) - 1)) _ (hy12 q19)) rfl [] rfl rfl ?_
    refine JO.reg ttOk 2 [] [] [(22, .v (.bool (bif (!y7) then true else (!y11))))] _ rfl ⟨⟨rfl, trivial⟩, rfl⟩ ?_
    refine JO.done rfl ?_
    refine JS.cond rfl (fun ht21 => ?_) (fun ht21 => ?_)
    · have h := condT h ht21
      refine JS.seq ?_
      refine JS.region ?_
      refine JO.reg ttOk 2 [] [] [(4, .v (.string (bs []))), (5, .v (.bool false))] _ rfl ⟨⟨rfl, rfl, trivial⟩, rfl⟩ ?_
      refine JO.done rfl ?_
      cases h
      exact JS.ret ttOk () trivial rfl rfl [] rfl
    · have h := condF h ht21
      refine JS.skip ?_
      refine JS.seq ?_
      refine JS.region ?_
      refine JO.know 0 rfl fun hs20 => ?_
      obtain ⟨g15, h⟩ := guardO_some h
      refine JO.reg ttOk 7 [(W (x1 - x0.1))] [] [(29, .ep ⟨a3, x0.2.length, c4⟩ (Int.toNat (W (x1 - x0.1)) * 1))] _ rfl ⟨⟨trivial, rfl⟩, hs20.ix g15, ⟨rfl, trivial⟩, rfl⟩ ?_
      refine JO.load ttOk rfl rfl rfl rfl rfl rfl rfl 0 rfl rfl (Int.toNat (W (x1 - x0.1))) 0 (at' x0.2 (W (x1 - x0.1))) ⟨at_some g15, rfl⟩ rfl rfl ?_
      refine JO.reg ttOk 2 [] [] [(4, .v (.string (bs (at' x0.2 (W (x1 - x0.1)))))), (5, .v (.bool true))] _ rfl ⟨⟨rfl, rfl, trivial⟩, rfl⟩ ?_
      refine JO.done rfl ?_
      cases h
      exact JS.ret ttOk () trivial rfl rfl [] rfl

def M_i_RefLine (x0 : Int × List (List UInt8)) (x1 : Int × Int × List UInt8 × Int) : Option (List UInt8 × Bool) :=
  (bindO (M_i_HistLast x0) fun (y7 : Int) =>
  (bif (decide (x1.1 = 1)) then
  (bindO (M_i_HistGet x0 y7) fun (y9, y10) =>
  some (y9, y10))
  else
  (bif (decide (x1.1 = 2)) then
  (bindO (M_i_HistGet x0 x1.2.1) fun (y12, y13) =>
  some (y12, y13))
  else
  (bif (decide (x1.1 = 3)) then
  (bindO (M_i_in x1.2.1 1 60) fun (y15 : Bool) =>
  (bif (!y15) then
  some ([], false)
  else
  (bindO (M_i_HistGet x0 (W ((W (y7 + 1)) - x1.2.1))) fun (y17, y18) =>
  some (y17, y18))))
  else
  (bif (decide (x1.1 = 4)) then
  (bindO (M_i_HistFind x0 x1.2.2.1 y7 (-1) true) fun (y21 : Int) =>
  (bindO (M_i_HistGet x0 y21) fun (y23, y24) =>
  some (y23, y24)))
  else
  some ([], false))))))

theorem ok_i_RefLine (x0 : Int × List (List UInt8)) (x1 : Int × Int × List UInt8 × Int) (a3 : Option Addr) (c4 : Nat) (l5 : Nat) (hl6 : x0.2.length = l5) (r : List UInt8 × Bool) (h : M_i_RefLine x0 x1 = some r) :
    FC Try.prog 9 [.agg #[.int .i64 x0.1, .slice a3 l5 c4], .agg #[.int .i64 x1.1, .int .i64 x1.2.1, .string (bs x1.2.2.1), .int .i64 x1.2.2.2]] [⟨.str, ⟨a3, l5, c4⟩, x0.2⟩] (fun _ : Unit => True) (fun _ => .tuple #[.string (bs r.1), .bool r.2]) (fun _ => []) :=
  by
    subst hl6
    refine FC.of (T := TTx) Try.call9 Try.func9 rfl rfl fun w0 => ?_
    unfold M_i_RefLine at h
    refine JS.seq ?_
    refine JS.region ?_
    refine JO.regB ttOk 4 [] [2, 3] [(2, .bp 2 0), (3, .bp 3 0)] (.new 2 31 [.int .i64 x0.1, .slice a3 x0.2.length c4] (.new 3 33 [.int .i64 x1.1, .int .i64 x1.2.1, .string (bs x1.2.2.1), .int .i64 x1.2.2.2] .nil)) rfl ⟨⟨rfl, rfl, trivial⟩, ⟨rfl, rfl, rfl, rfl, rfl, rfl, rfl, rfl, trivial⟩⟩ ?_
    refine JO.done rfl ?_
    refine JS.seq ?_
    refine JS.region ?_
    refine JO.reg ttOk 1 [] [] [(7, .v (.agg #[.int .i64 x0.1, .slice a3 x0.2.length c4]))] _ rfl ⟨⟨rfl, trivial⟩, rfl⟩ ?_
    obtain ⟨y7, hy8, h⟩ := bindO_some h
    refine JO.call rfl rfl rfl rfl (ok_i_HistLast x0 a3 c4 x0.2.length rfl _ hy8) rfl [0] rfl rfl ?_
    intro _ _
    refine JO.reg ttOk 1 [] [] [(6, .v (.int .i64 y7))] _ rfl ⟨⟨rfl, trivial⟩, rfl⟩ ?_
    refine JO.done rfl ?_
    refine JS.seq ?_
    refine JS.seq ?_
    refine JS.region ?_
    refine JO.reg ttOk 2 [] [] [(10, .v (.int .i64 x1.1))] _ rfl ⟨⟨rfl, trivial⟩, rfl⟩ ?_
    refine JO.done rfl ?_
    refine JS.block ?_
    refine JS.seq ?_
    refine JS.region ?_
    refine JO.reg ttOk 2 [] [] [(11, .v (.bool (decide (x1.1 = 1))))] _ rfl ⟨⟨rfl, trivial⟩, rfl⟩ ?_
    refine JO.done rfl ?_
    refine JS.cond rfl (fun ht34 => ?_) (fun ht34 => ?_)
    · have h := condT h ht34
      refine JS.seq ?_
      refine JS.region ?_
      refine JO.reg ttOk 2 [] [] [(13, .v (.agg #[.int .i64 x0.1, .slice a3 x0.2.length c4])), (14, .v (.int .i64 y7))] _ rfl ⟨⟨rfl, rfl, trivial⟩, rfl⟩ ?_
      obtain ⟨⟨y9, y10⟩, hy11, h⟩ := bindO_some h
      refine JO.call rfl rfl rfl rfl (ok_i_HistGet x0 y7 a3 c4 x0.2.length rfl _ hy11) rfl [0] rfl rfl ?_
      intro _ _
      refine JO.reg ttOk 4 [] [] [(4, .v (.string (bs y9))), (5, .v (.bool y10))] _ rfl ⟨⟨rfl, rfl, trivial⟩, rfl⟩ ?_
      refine JO.done rfl ?_
      cases h
      exact JS.ret ttOk () trivial rfl rfl [] rfl
    · have h := condF h ht34
      refine JS.seq ?_
      refine JS.region ?_
      refine JO.reg ttOk 2 [] [] [(18, .v (.bool (decide (x1.1 = 2))))] _ rfl ⟨⟨rfl, trivial⟩, rfl⟩ ?_
      refine JO.done rfl ?_
      refine JS.cond rfl (fun ht33 => ?_) (fun ht33 => ?_)
      · have h := condT h ht33
        refine JS.seq ?_
        refine JS.region ?_
        refine JO.reg ttOk 3 [] [] [(20, .v (.agg #[.int .i64 x0.1, .slice a3 x0.2.length c4])), (22, .v (.int .i64 x1.2.1))] _ rfl ⟨⟨rfl, rfl, trivial⟩, rfl⟩ ?_
        obtain ⟨⟨y12, y13⟩, hy14, h⟩ := bindO_some h
        refine JO.call rfl rfl rfl rfl (ok_i_HistGet x0 x1.2.1 a3 c4 x0.2.length rfl _ hy14) rfl [0] rfl rfl ?_
        intro _ _
        refine JO.reg ttOk 4 [] [] [(4, .v (.string (bs y12))), (5, .v (.bool y13))] _ rfl ⟨⟨rfl, rfl, trivial⟩, rfl⟩ ?_
        refine JO.done rfl ?_
        cases h
        exact JS.ret ttOk () trivial rfl rfl [] rfl
      · have h := condF h ht33
        refine JS.seq ?_
        refine JS.region ?_
        refine JO.reg ttOk 2 [] [] [(26, .v (.bool (decide (x1.1 = 3))))] _ rfl ⟨⟨rfl, trivial⟩, rfl⟩ ?_
        refine JO.done rfl ?_
        refine JS.cond rfl (fun ht32 => ?_) (fun ht32 => ?_)
        · have h := condT h ht32
          refine JS.seq ?_
          refine JS.seq ?_
          refine JS.region ?_
          refine JO.reg ttOk 2 [] [] [(29, .v (.int .i64 x1.2.1))] _ rfl ⟨⟨rfl, trivial⟩, rfl⟩ ?_
          obtain ⟨y15, hy16, h⟩ := bindO_some h
          refine JO.call rfl rfl rfl rfl (ok_i_in x1.2.1 1 60 _ hy16) rfl [] rfl rfl ?_
          intro _ _
          refine JO.reg ttOk 1 [] [] [(31, .v (.bool (!y15)))] _ rfl ⟨⟨rfl, trivial⟩, rfl⟩ ?_
          refine JO.done rfl ?_
          refine JS.cond rfl (fun ht30 => ?_) (fun ht30 => ?_)
          · have h := condT h ht30
            refine JS.seq ?_
            refine JS.region ?_
            refine JO.reg ttOk 2 [] [] [(4, .v (.string (bs []))), (5, .v (.bool false))] _ rfl ⟨⟨rfl, rfl, trivial⟩, rfl⟩ ?_
            refine JO.done rfl ?_
            cases h
            exact JS.ret ttOk () trivial rfl rfl [] rfl
          · have h := condF h ht30
            refine JS.skip ?_
            refine JS.seq ?_
            refine JS.region ?_
            refine JO.reg ttOk 6 [(W (y7 + 1)), (W ((W (y7 + 1)) - x1.2.1))] [] [(32, .v (.agg #[.int .i64 x0.1, .slice a3 x0.2.length c4])), (37, .v (.int .i64 (W ((W (y7 + 1)) - x1.2.1))))] _ rfl ⟨⟨trivial, rfl⟩, ⟨trivial, rfl⟩, ⟨rfl, rfl, trivial⟩, rfl⟩ ?_
            obtain ⟨⟨y17, y18⟩, hy19, h⟩ := bindO_some h
            refine JO.call rfl rfl rfl rfl (ok_i_HistGet x0 (W ((W (y7 + 1)) - x1.2.1)) a3 c4 x0.2.length rfl _ hy19) rfl [0] rfl rfl ?_
            intro _ _
            refine JO.reg ttOk 4 [] [] [(4, .v (.string (bs y17))), (5, .v (.bool y18))] _ rfl ⟨⟨rfl, rfl, trivial⟩, rfl⟩ ?_
            refine JO.done rfl ?_
            cases h
            exact JS.ret ttOk () trivial rfl rfl [] rfl
        · have h := condF h ht32
          refine JS.seq ?_
          refine JS.region ?_
          refine JO.reg ttOk 2 [] [] [(41, .v (.bool (decide (x1.1 = 4))))] _ rfl ⟨⟨rfl, trivial⟩, rfl⟩ ?_
          refine JO.done rfl ?_
          refine JS.cond rfl (fun ht31 => ?_) (fun ht31 => ?_)
          · have h := condT h ht31
            refine JS.seq ?_
            obtain ⟨y21, hy22, h⟩ := bindO_some h
            obtain ⟨⟨y23, y24⟩, hy25, h⟩ := bindO_some h
            refine JS.regionQ rfl (by kernel_rfl) ?_
            refine JQ.reg ttOk 5 [] [(43, .v (.agg #[.int .i64 x0.1, .slice a3 x0.2.length c4])), (44, .v (.agg #[.int .i64 x0.1, .slice a3 x0.2.length c4])), (46, .v (.string (bs x1.2.2.1))), (47, .v (.int .i64 y7))] rfl ⟨rfl, rfl, rfl, rfl, trivial⟩ ?_
            refine JQ.call rfl rfl rfl rfl (ok_i_HistFind x0 x1.2.2.1 y7 (-1) true a3 c4 x0.2.length rfl _ hy22) rfl [0] rfl rfl ?_
            refine JQ.call rfl rfl rfl rfl (ok_i_HistGet x0 y21 a3 c4 x0.2.length rfl _ hy25) rfl [0] rfl rfl ?_
            refine JQ.reg ttOk 4 [] [(4, .v (.string (bs y23))), (5, .v (.bool y24))] rfl ⟨rfl, rfl, trivial⟩ ?_
            refine JQ.done rfl ?_
            cases h
            exact JS.ret ttOk () trivial rfl rfl [] rfl
          · have h := condF h ht31
            refine JS.skip ?_
            refine JS.endB ?_
            refine JS.seq ?_
            refine JS.region ?_
            refine JO.reg ttOk 2 [] [] [(4, .v (.string (bs []))), (5, .v (.bool false))] _ rfl ⟨⟨rfl, rfl, trivial⟩, rfl⟩ ?_
            refine JO.done rfl ?_
            cases h
            exact JS.ret ttOk () trivial rfl rfl [] rfl

def M_l_eqStringS_L1 (x0 : List (List UInt8)) (x1 : List (List UInt8)) (j28 : Unit → Option Bool) (k20 : Int → Option Bool) : Int → Option Bool := fun x11 =>
  (bif (decide (x11 < (x0.length : Int))) then
  (guardO (0 ≤ x11 ∧ x11 < (x0.length : Int)) <|
  (guardO (0 ≤ x11 ∧ x11 < (x1.length : Int)) <|
  (bif (!(decide ((at' x0 x11) = (at' x1 x11)))) then
  some false
  else
  k20 (W (x11 + 1)))))
  else
  j28 ())

def M_l_eqStringS (x0 : List (List UInt8)) (x1 : List (List UInt8)) : Option Bool :=
  (bif (!(decide ((x0.length : Int) = (x1.length : Int)))) then
  some false
  else
  (joinO (fun (_ : Unit) =>
  some true) fun j28 =>
  (fixF (M_l_eqStringS_L1 x0 x1 j28) FUEL 0)))

theorem ok_l_eqStringS (x0 : List (List UInt8)) (x1 : List (List UInt8)) (a3 : Option Addr) (c4 : Nat) (l5 : Nat) (hl6 : x0.length = l5) (a7 : Option Addr) (c8 : Nat) (l9 : Nat) (hl10 : x1.length = l9) (r : Bool) (h : M_l_eqStringS x0 x1 = some r) :
    FC Try.prog 20 [.slice a3 l5 c4, .slice a7 l9 c8] [⟨.str, ⟨a3, l5, c4⟩, x0⟩, ⟨.str, ⟨a7, l9, c8⟩, x1⟩] (fun _ : Unit => True) (fun _ => .bool r) (fun _ => []) :=
  by
    subst hl6
    subst hl10
    refine FC.of (T := TTx) Try.call20 Try.func20 rfl rfl fun w0 => ?_
    unfold M_l_eqStringS at h
    refine JS.seq ?_
    refine JS.region ?_
    refine JO.reg ttOk 1 [] [] [] _ rfl ⟨trivial, rfl⟩ ?_
    refine JO.done rfl ?_
    refine JS.seq ?_
    refine JS.seq ?_
    refine JS.region ?_
    refine JO.reg ttOk 5 [] [] [(10, .v (.bool (!(decide ((x0.length : Int) = (x1.length : Int))))))] _ rfl ⟨⟨rfl, trivial⟩, rfl⟩ ?_
    refine JO.done rfl ?_
    refine JS.cond rfl (fun ht44 => ?_) (fun ht44 => ?_)
    · have h := condT h ht44
      refine JS.seq ?_
      refine JS.region ?_
      refine JO.reg ttOk 1 [] [] [(4, .v (.bool false))] _ rfl ⟨⟨rfl, trivial⟩, rfl⟩ ?_
      refine JO.done rfl ?_
      cases h
      exact JS.ret ttOk () trivial rfl rfl [] rfl
    · have h := condF h ht44
      refine JS.skip ?_
      refine JS.seq ?_
      refine JS.seq ?_
      refine JS.region ?_
      refine JO.reg ttOk 1 [] [] [(5, .v (.int .i64 0))] _ rfl ⟨⟨rfl, trivial⟩, rfl⟩ ?_
      refine JO.done rfl ?_
      obtain ⟨j28, hj43, h⟩ := joinO_some h
      refine JS.blockJ (ι := Unit) ⟨fun _ => j28 () = some r, fun _ => [], fun _ => .nil, fun _ => [], fun _ => [], fun _ => 0⟩ ?_ ?_
      · refine JS.loop (ι := Nat × Int) ⟨fun z => fixF (M_l_eqStringS_L1 x0 x1 j28) z.1 z.2 = some r, fun z => [(0, .v (.slice a3 x0.length c4)), (1, .v (.slice a7 x1.length c8)), (5, .v (.int .i64 z.2))], fun z => .nil, fun z => [⟨.str, ⟨a3, x0.length, c4⟩, x0⟩, ⟨.str, ⟨a7, x1.length, c8⟩, x1⟩], fun z => [], fun z => z.1⟩ (FUEL, 0) h ⟨rfl, rfl, rfl, trivial⟩ trivial [0, 1] rfl [] rfl ?_
        rintro ⟨n21, x11⟩ h
        obtain ⟨n21, rfl, h⟩ := fixF_some h
        rw [M_l_eqStringS_L1] at h
        refine JS.seq ?_
        refine JS.seq ?_
        refine JS.region ?_
        refine JO.reg ttOk 4 [] [] [(14, .v (.bool (decide (x11 < (x0.length : Int)))))] _ rfl ⟨⟨rfl, trivial⟩, rfl⟩ ?_
        refine JO.done rfl ?_
        refine JS.cond rfl (fun ht42 => ?_) (fun ht42 => ?_)
        · have h := condT h ht42
          refine JS.skip ?_
          refine JS.seq ?_
          refine JS.block ?_
          refine JS.seq ?_
          obtain ⟨g13, h⟩ := guardO_some h
          obtain ⟨g15, h⟩ := guardO_some h
          refine JS.know 0 rfl fun hs39 => ?_
          refine JS.know 1 rfl fun hs40 => ?_
          refine JS.regionQ rfl (by kernel_rfl) ?_
          refine JQ.reg ttOk 3 [] [(19, .ep ⟨a3, x0.length, c4⟩ (Int.toNat x11 * 1))] rfl ⟨hs39.ix g13, ⟨rfl, trivial⟩⟩ ?_
          refine JQ.load ttOk rfl rfl rfl rfl rfl rfl rfl 0 rfl rfl (Int.toNat x11) 0 (at' x0 x11) ⟨at_some g13, rfl⟩ rfl rfl ?_
          refine JQ.reg ttOk 3 [] [(23, .ep ⟨a7, x1.length, c8⟩ (Int.toNat x11 * 1))] rfl ⟨hs40.ix g15, ⟨rfl, trivial⟩⟩ ?_
          refine JQ.load ttOk rfl rfl rfl rfl rfl rfl rfl 1 rfl rfl (Int.toNat x11) 0 (at' x1 x11) ⟨at_some g15, rfl⟩ rfl rfl ?_
          refine JQ.reg ttOk 1 [] [(25, .v (.bool (!(decide ((at' x0 x11) = (at' x1 x11))))))] rfl ⟨rfl, trivial⟩ ?_
          refine JQ.done rfl ?_
          refine JS.cond rfl (fun ht41 => ?_) (fun ht41 => ?_)
          · have h := condT h ht41
            refine JS.seq ?_
            refine JS.region ?_
            refine JO.reg ttOk 1 [] [] [(4, .v (.bool false))] _ rfl ⟨⟨rfl, trivial⟩, rfl⟩ ?_
            refine JO.done rfl ?_
            cases h
            exact JS.ret ttOk () trivial rfl rfl [] rfl
          · have h := condF h ht41
            refine JS.skip ?_
            refine JS.endB ?_
            refine JS.region ?_
            refine JO.reg ttOk 3 [(W (x11 + 1))] [] [(5, .v (.int .i64 (W (x11 + 1))))] _ rfl ⟨⟨trivial, rfl⟩, ⟨rfl, trivial⟩, rfl⟩ ?_
            refine JO.done rfl ?_
            exact JS.endL (n21, (W (x11 + 1))) h (Nat.lt_succ_self _) ⟨rfl, rfl, rfl, trivial⟩ trivial [0, 1] rfl [] rfl
        · have h := condF h ht42
          refine JS.exit rfl ?_
          exact JS.endJ () h trivial trivial [] rfl [] rfl
      · rintro _ h
        subst hj43
        refine JS.seq ?_
        refine JS.region ?_
        refine JO.reg ttOk 1 [] [] [(4, .v (.bool true))] _ rfl ⟨⟨rfl, trivial⟩, rfl⟩ ?_
        refine JO.done rfl ?_
        cases h
        exact JS.ret ttOk () trivial rfl rfl [] rfl

def M_l_eqHist (x0 : Int × List (List UInt8)) (x1 : Int × List (List UInt8)) : Option Bool :=
  (bif (!(decide (x0.1 = x1.1))) then
  some false
  else
  (bindO (M_l_eqStringS x0.2 x1.2) fun (y11 : Bool) =>
  (bif (!y11) then
  some false
  else
  some true)))

theorem ok_l_eqHist (x0 : Int × List (List UInt8)) (x1 : Int × List (List UInt8)) (a3 : Option Addr) (c4 : Nat) (l5 : Nat) (hl6 : x0.2.length = l5) (a7 : Option Addr) (c8 : Nat) (l9 : Nat) (hl10 : x1.2.length = l9) (r : Bool) (h : M_l_eqHist x0 x1 = some r) :
    FC Try.prog 10 [.agg #[.int .i64 x0.1, .slice a3 l5 c4], .agg #[.int .i64 x1.1, .slice a7 l9 c8]] [⟨.str, ⟨a3, l5, c4⟩, x0.2⟩, ⟨.str, ⟨a7, l9, c8⟩, x1.2⟩] (fun _ : Unit => True) (fun _ => .bool r) (fun _ => []) :=
  by
    subst hl6
    subst hl10
    refine FC.of (T := TTx) Try.call10 Try.func10 rfl rfl fun w0 => ?_
    unfold M_l_eqHist at h
    refine JS.seq ?_
    refine JS.region ?_
    refine JO.regB ttOk 3 [] [3, 4] [(2, .bp 3 0), (3, .bp 4 0)] (.new 3 31 [.int .i64 x0.1, .slice a3 x0.2.length c4] (.new 4 31 [.int .i64 x1.1, .slice a7 x1.2.length c8] .nil)) rfl ⟨⟨rfl, rfl, trivial⟩, ⟨rfl, rfl, rfl, rfl, rfl, rfl, rfl, rfl, trivial⟩⟩ ?_
    refine JO.done rfl ?_
    refine JS.seq ?_
    refine JS.seq ?_
    refine JS.region ?_
    refine JO.reg ttOk 5 [] [] [(9, .v (.bool (!(decide (x0.1 = x1.1)))))] _ rfl ⟨⟨rfl, trivial⟩, rfl⟩ ?_
    refine JO.done rfl ?_
    refine JS.cond rfl (fun ht16 => ?_) (fun ht16 => ?_)
    · have h := condT h ht16
      refine JS.seq ?_
      refine JS.region ?_
      refine JO.reg ttOk 1 [] [] [(4, .v (.bool false))] _ rfl ⟨⟨rfl, trivial⟩, rfl⟩ ?_
      refine JO.done rfl ?_
      cases h
      exact JS.ret ttOk () trivial rfl rfl [] rfl
    · have h := condF h ht16
      refine JS.skip ?_
      refine JS.seq ?_
      refine JS.seq ?_
      refine JS.region ?_
      refine JO.reg ttOk 4 [] [] [(11, .v (.slice a3 x0.2.length c4)), (13, .v (.slice a7 x1.2.length c8))] _ rfl ⟨⟨rfl, rfl, trivial⟩, rfl⟩ ?_
      obtain ⟨y11, hy12, h⟩ := bindO_some h
      refine JO.call rfl rfl rfl rfl (ok_l_eqStringS x0.2 x1.2 a3 c4 x0.2.length rfl a7 c8 x1.2.length rfl _ hy12) rfl [0, 1] rfl rfl ?_
      intro _ _
      refine JO.reg ttOk 1 [] [] [(15, .v (.bool (!y11)))] _ rfl ⟨⟨rfl, trivial⟩, rfl⟩ ?_
      refine JO.done rfl ?_
      refine JS.cond rfl (fun ht15 => ?_) (fun ht15 => ?_)
      · have h := condT h ht15
        refine JS.seq ?_
        refine JS.region ?_
        refine JO.reg ttOk 1 [] [] [(4, .v (.bool false))] _ rfl ⟨⟨rfl, trivial⟩, rfl⟩ ?_
        refine JO.done rfl ?_
        cases h
        exact JS.ret ttOk () trivial rfl rfl [] rfl
      · have h := condF h ht15
        refine JS.skip ?_
        refine JS.seq ?_
        refine JS.region ?_
        refine JO.reg ttOk 1 [] [] [(4, .v (.bool true))] _ rfl ⟨⟨rfl, trivial⟩, rfl⟩ ?_
        refine JO.done rfl ?_
        cases h
        exact JS.ret ttOk () trivial rfl rfl [] rfl

def M_l_FnExactRefLine (x0 : Int × List (List UInt8)) (x1 : Int × Int × List UInt8 × Int) : Option Bool :=
  (bindO (M_l_szHist x0 1048576) fun (y7 : Int) =>
  (bif (decide (y7 < 0)) then
  some true
  else
  (bindO (M_l_szRef x1 y7) fun (y9 : Int) =>
  (bif (decide (y9 < 0)) then
  some true
  else
  (bindO (M_l_toHist x0) fun (y11 : Int × List (List UInt8)) =>
  (bindO (M_l_toRef x1) fun (y15 : Int × Int × List UInt8 × Int) =>
  (bindO (M_s_RefLine y11 y15) fun (y17, y18) =>
  (bindO (M_l_toHist x0) fun (y21 : Int × List (List UInt8)) =>
  (bindO (M_l_toRef x1) fun (y25 : Int × Int × List UInt8 × Int) =>
  (bindO (M_i_RefLine y21 y25) fun (y27, y28) =>
  (bif (bif (!(decide (y27 = y17))) then true else (!(y28 == y18))) then
  some false
  else
  (bindO (M_l_toHist x0) fun (y30 : Int × List (List UInt8)) =>
  (bindO (M_l_eqHist y21 y30) fun (y34 : Bool) =>
  (bif (!y34) then
  some false
  else
  some true))))))))))))))

theorem ok_l_FnExactRefLine (x0 : Int × List (List UInt8)) (x1 : Int × Int × List UInt8 × Int) (a3 : Option Addr) (c4 : Nat) (l5 : Nat) (hl6 : x0.2.length = l5) (r : Bool) (h : M_l_FnExactRefLine x0 x1 = some r) :
    FC Try.prog 3 [.agg #[.int .i64 x0.1, .slice a3 l5 c4], .agg #[.int .i64 x1.1, .int .i64 x1.2.1, .string (bs x1.2.2.1), .int .i64 x1.2.2.2]] [⟨.str, ⟨a3, l5, c4⟩, x0.2⟩] (fun _ : Unit => True) (fun _ => .bool r) (fun _ => []) :=
  by
    subst hl6
    refine FC.of (T := TTx) Try.call3 Try.func3 rfl rfl fun w0 => ?_
    unfold M_l_FnExactRefLine at h
    refine JS.seq ?_
    refine JS.region ?_
    refine JO.regB ttOk 3 [] [2, 3] [(2, .bp 2 0), (3, .bp 3 0)] (.new 2 24 [.int .i64 x0.1, .slice a3 x0.2.length c4] (.new 3 26 [.int .i64 x1.1, .int .i64 x1.2.1, .string (bs x1.2.2.1), .int .i64 x1.2.2.2] .nil)) rfl ⟨⟨rfl, rfl, trivial⟩, ⟨rfl, rfl, rfl, rfl, rfl, rfl, rfl, rfl, trivial⟩⟩ ?_
    refine JO.done rfl ?_
    refine JS.seq ?_
    refine JS.region ?_
    refine JO.reg ttOk 1 [] [] [(5, .v (.int .i64 1048576))] _ rfl ⟨⟨rfl, trivial⟩, rfl⟩ ?_
    refine JO.done rfl ?_
    refine JS.seq ?_
    refine JS.region ?_
    refine JO.reg ttOk 2 [] [] [(11, .v (.agg #[.int .i64 x0.1, .slice a3 x0.2.length c4])), (12, .v (.int .i64 1048576))] _ rfl ⟨⟨rfl, rfl, trivial⟩, rfl⟩ ?_
    obtain ⟨y7, hy8, h⟩ := bindO_some h
    refine JO.call rfl rfl rfl rfl (ok_l_szHist x0 1048576 a3 c4 x0.2.length rfl _ hy8) rfl [0] rfl rfl ?_
    intro _ _
    refine JO.reg ttOk 1 [] [] [(5, .v (.int .i64 y7))] _ rfl ⟨⟨rfl, trivial⟩, rfl⟩ ?_
    refine JO.done rfl ?_
    refine JS.seq ?_
    refine JS.seq ?_
    refine JS.region ?_
    refine JO.reg ttOk 2 [] [] [(15, .v (.bool (decide (y7 < 0))))] _ rfl ⟨⟨rfl, trivial⟩, rfl⟩ ?_
    refine JO.done rfl ?_
    refine JS.cond rfl (fun ht44 => ?_) (fun ht44 => ?_)
    · have h := condT h ht44
      refine JS.seq ?_
      refine JS.region ?_
      refine JO.reg ttOk 1 [] [] [(4, .v (.bool true))] _ rfl ⟨⟨rfl, trivial⟩, rfl⟩ ?_
      refine JO.done rfl ?_
      cases h
      exact JS.ret ttOk () trivial rfl rfl [] rfl
    · have h := condF h ht44
      refine JS.skip ?_
      refine JS.seq ?_
      refine JS.region ?_
      refine JO.reg ttOk 2 [] [] [(16, .v (.agg #[.int .i64 x1.1, .int .i64 x1.2.1, .string (bs x1.2.2.1), .int .i64 x1.2.2.2])), (17, .v (.int .i64 y7))] _ rfl ⟨⟨rfl, rfl, trivial⟩, rfl⟩ ?_
      obtain ⟨y9, hy10, h⟩ := bindO_some h
      refine JO.call rfl rfl rfl rfl (ok_l_szRef x1 y7 _ hy10) rfl [] rfl rfl ?_
      intro _ _
      refine JO.reg ttOk 1 [] [] [(5, .v (.int .i64 y9))] _ rfl ⟨⟨rfl, trivial⟩, rfl⟩ ?_
      refine JO.done rfl ?_
      refine JS.seq ?_
      refine JS.seq ?_
      refine JS.region ?_
      refine JO.reg ttOk 2 [] [] [(20, .v (.bool (decide (y9 < 0))))] _ rfl ⟨⟨rfl, trivial⟩, rfl⟩ ?_
      refine JO.done rfl ?_
      refine JS.cond rfl (fun ht43 => ?_) (fun ht43 => ?_)
      · have h := condT h ht43
        refine JS.seq ?_
        refine JS.region ?_
        refine JO.reg ttOk 1 [] [] [(4, .v (.bool true))] _ rfl ⟨⟨rfl, trivial⟩, rfl⟩ ?_
        refine JO.done rfl ?_
        cases h
        exact JS.ret ttOk () trivial rfl rfl [] rfl
      · have h := condF h ht43
        refine JS.skip ?_
        refine JS.seq ?_
        obtain ⟨y11, hy12, h⟩ := bindO_some h
        obtain ⟨y15, hy16, h⟩ := bindO_some h
        obtain ⟨⟨y17, y18⟩, hy19, h⟩ := bindO_some h
        refine JS.regionA rfl (.new 2 24 [.int .i64 x0.1, .slice a3 x0.2.length c4] (.new 3 26 [.int .i64 x1.1, .int .i64 x1.2.1, .string (bs x1.2.2.1), .int .i64 x1.2.2.2] .nil)) [] [8, 9] ⟨rfl, rfl, rfl, rfl, rfl, rfl, rfl, rfl, trivial⟩ rfl (fun be20 => ?_)
        refine JA.reg ttOk panic_cx true 8 [0, 2] rfl (by kernel_rfl) [] [(22, .v (.agg #[.int .i64 x0.1, .slice a3 x0.2.length c4])), (24, .v (.agg #[.int .i64 x1.1, .int .i64 x1.2.1, .string (bs x1.2.2.1), .int .i64 x1.2.2.2]))] ⟨rfl, rfl, rfl, rfl, rfl, rfl, rfl, rfl, trivial⟩ [] rfl rfl ⟨rfl, rfl, trivial⟩ ?_
        refine JA.one 1 (by kernel_rfl) ?_
        refine JK.call rfl rfl rfl rfl (ok_l_toHist x0 a3 c4 x0.2.length rfl _ hy12) rfl [0] rfl rfl ?_
        rintro ⟨a13, c14⟩ -
        refine JA.next ⟨rfl, rfl, rfl, rfl, rfl, rfl, rfl, rfl, trivial⟩ [] rfl ?_
        refine JA.one 3 (by kernel_rfl) ?_
        refine JK.call rfl rfl rfl rfl (ok_l_toRef x1 _ hy16) rfl [] rfl rfl ?_
        intro _ _
        refine JA.next ⟨rfl, rfl, rfl, rfl, rfl, rfl, rfl, rfl, trivial⟩ [] rfl ?_
        refine JA.one 4 (by kernel_rfl) ?_
        refine JK.call rfl rfl rfl rfl (ok_s_RefLine y11 y15 a13 c14 y11.2.length rfl _ hy19) rfl [1] rfl rfl ?_
        intro _ _
        refine JA.next ⟨rfl, rfl, rfl, rfl, rfl, rfl, rfl, rfl, trivial⟩ [] rfl ?_
        refine JA.reg ttOk panic_cx true 3 [5, 6] rfl (by kernel_rfl) [] [(21, .v (.tuple #[.string (bs y17), .bool y18])), (22, .v (.agg #[.int .i64 x0.1, .slice a3 x0.2.length c4])), (23, .v (.agg #[.int .i64 y11.1, .slice a13 y11.2.length c14])), (24, .v (.agg #[.int .i64 x1.1, .int .i64 x1.2.1, .string (bs x1.2.2.1), .int .i64 x1.2.2.2])), (25, .v (.agg #[.int .i64 y15.1, .int .i64 y15.2.1, .string (bs y15.2.2.1), .int .i64 y15.2.2.2])), (26, .v (.tuple #[.string (bs y17), .bool y18])), (27, .v (.string (bs y17)))] ⟨rfl, rfl, rfl, rfl, rfl, rfl, rfl, rfl, trivial⟩ [] rfl rfl ⟨rfl, rfl, rfl, rfl, rfl, rfl, rfl, trivial⟩ ?_
        refine JA.regL ttOk panic_cx 0 [7, 8, 9] rfl (by kernel_rfl) [] [(6, .v (.string (bs y17))), (7, .v (.bool y18)), (21, .v (.tuple #[.string (bs y17), .bool y18])), (22, .v (.agg #[.int .i64 x0.1, .slice a3 x0.2.length c4])), (23, .v (.agg #[.int .i64 y11.1, .slice a13 y11.2.length c14])), (24, .v (.agg #[.int .i64 x1.1, .int .i64 x1.2.1, .string (bs x1.2.2.1), .int .i64 x1.2.2.2])), (25, .v (.agg #[.int .i64 y15.1, .int .i64 y15.2.1, .string (bs y15.2.2.1), .int .i64 y15.2.2.2])), (26, .v (.tuple #[.string (bs y17), .bool y18])), (27, .v (.string (bs y17))), (28, .v (.bool y18))] rfl ⟨rfl, rfl, rfl, rfl, rfl, rfl, rfl, rfl, rfl, rfl, trivial⟩ ?_
        refine JA.done (by kernel_rfl) ?_
        refine JS.boxes (B' := (.new 2 24 [.int .i64 x0.1, .slice a3 x0.2.length c4] (.new 3 26 [.int .i64 x1.1, .int .i64 x1.2.1, .string (bs x1.2.2.1), .int .i64 x1.2.2.2] .nil))) ⟨rfl, rfl, rfl, rfl, rfl, rfl, rfl, rfl, trivial⟩ ?_
        refine JS.seq ?_
        refine JS.region ?_
        refine JO.reg ttOk 1 [] [] [(29, .v (.agg #[.int .i64 x0.1, .slice a3 x0.2.length c4]))] _ rfl ⟨⟨rfl, trivial⟩, rfl⟩ ?_
        obtain ⟨y21, hy22, h⟩ := bindO_some h
        refine JO.call rfl rfl rfl rfl (ok_l_toHist x0 a3 c4 x0.2.length rfl _ hy22) rfl [0] rfl rfl ?_
        rintro ⟨a23, c24⟩ -
        refine JO.regB ttOk 2 [] [24] [(8, .bp 24 0)] (.new 2 24 [.int .i64 x0.1, .slice a3 x0.2.length c4] (.new 3 26 [.int .i64 x1.1, .int .i64 x1.2.1, .string (bs x1.2.2.1), .int .i64 x1.2.2.2] (.new 24 31 [.int .i64 y21.1, .slice a23 y21.2.length c24] .nil))) rfl ⟨⟨rfl, trivial⟩, ⟨rfl, rfl, rfl, rfl, rfl, rfl, rfl, rfl, rfl, rfl, rfl, rfl, trivial⟩⟩ ?_
        refine JO.done rfl ?_
        refine JS.seq ?_
        obtain ⟨y25, hy26, h⟩ := bindO_some h
        obtain ⟨⟨y27, y28⟩, hy29, h⟩ := bindO_some h
        refine JS.regionQ rfl (by kernel_rfl) ?_
        refine JQ.reg ttOk 2 [] [(32, .v (.agg #[.int .i64 y21.1, .slice a23 y21.2.length c24])), (33, .v (.agg #[.int .i64 x1.1, .int .i64 x1.2.1, .string (bs x1.2.2.1), .int .i64 x1.2.2.2]))] rfl ⟨rfl, rfl, trivial⟩ ?_
        refine JQ.call rfl rfl rfl rfl (ok_l_toRef x1 _ hy26) rfl [] rfl rfl ?_
        refine JQ.call rfl rfl rfl rfl (ok_i_RefLine y21 y25 a23 c24 y21.2.length rfl _ hy29) rfl [1] rfl rfl ?_
        refine JQ.reg ttOk 5 [] [(9, .v (.string (bs y27))), (10, .v (.bool y28))] rfl ⟨rfl, rfl, trivial⟩ ?_
        refine JQ.done rfl ?_
        refine JS.seq ?_
        refine JS.seq ?_
        refine JS.region ?_
        refine JO.reg ttOk 8 [] [] [(45, .v (.bool (bif (!(decide (y27 = y17))) then true else (!(y28 == y18)))))] _ rfl ⟨⟨rfl, trivial⟩, rfl⟩ ?_
        refine JO.done rfl ?_
        refine JS.cond rfl (fun ht42 => ?_) (fun ht42 => ?_)
        · have h := condT h ht42
          refine JS.seq ?_
          refine JS.region ?_
          refine JO.reg ttOk 1 [] [] [(4, .v (.bool false))] _ rfl ⟨⟨rfl, trivial⟩, rfl⟩ ?_
          refine JO.done rfl ?_
          cases h
          exact JS.ret ttOk () trivial rfl rfl [] rfl
        · have h := condF h ht42
          refine JS.skip ?_
          refine JS.seq ?_
          refine JS.seq ?_
          obtain ⟨y30, hy31, h⟩ := bindO_some h
          obtain ⟨y34, hy35, h⟩ := bindO_some h
          refine JS.regionA rfl (.new 2 24 [.int .i64 x0.1, .slice a3 x0.2.length c4] (.new 24 31 [.int .i64 y21.1, .slice a23 y21.2.length c24] .nil)) [] [] ⟨rfl, rfl, rfl, rfl, rfl, rfl, rfl, rfl, trivial⟩ rfl (fun be36 => ?_)
          refine JA.reg ttOk panic_cx true 3 [0, 1] rfl (by kernel_rfl) [] [(46, .v (.agg #[.int .i64 y21.1, .slice a23 y21.2.length c24])), (47, .v (.agg #[.int .i64 x0.1, .slice a3 x0.2.length c4]))] ⟨rfl, rfl, rfl, rfl, rfl, rfl, rfl, rfl, trivial⟩ [] rfl rfl ⟨rfl, rfl, trivial⟩ ?_
          refine JA.one 2 (by kernel_rfl) ?_
          refine JK.call rfl rfl rfl rfl (ok_l_toHist x0 a3 c4 x0.2.length rfl _ hy31) rfl [0] rfl rfl ?_
          rintro ⟨a32, c33⟩ -
          refine JA.next ⟨rfl, rfl, rfl, rfl, rfl, rfl, rfl, rfl, trivial⟩ [] rfl ?_
          refine JA.one 3 (by kernel_rfl) ?_
          refine JK.call rfl rfl rfl rfl (ok_l_eqHist y21 y30 a23 c24 y21.2.length rfl a32 c33 y30.2.length rfl _ hy35) rfl [2, 1] rfl rfl ?_
          intro _ _
          refine JA.next ⟨rfl, rfl, rfl, rfl, rfl, rfl, rfl, rfl, trivial⟩ [] rfl ?_
          refine JA.reg ttOk panic_cx true 0 [4] rfl (by kernel_rfl) [] [(46, .v (.agg #[.int .i64 y21.1, .slice a23 y21.2.length c24])), (47, .v (.agg #[.int .i64 x0.1, .slice a3 x0.2.length c4])), (48, .v (.agg #[.int .i64 y30.1, .slice a32 y30.2.length c33])), (49, .v (.bool y34)), (50, .v (.bool (!y34)))] ⟨rfl, rfl, rfl, rfl, rfl, rfl, rfl, rfl, trivial⟩ [] rfl rfl ⟨rfl, rfl, rfl, rfl, rfl, trivial⟩ ?_
          refine JA.done (by kernel_rfl) ?_
          refine JS.boxes (B' := .nil) trivial ?_
          refine JS.cond rfl (fun ht41 => ?_) (fun ht41 => ?_)
          · have h := condT h ht41
            refine JS.seq ?_
            refine JS.region ?_
            refine JO.reg ttOk 1 [] [] [(4, .v (.bool false))] _ rfl ⟨⟨rfl, trivial⟩, rfl⟩ ?_
            refine JO.done rfl ?_
            cases h
            exact JS.ret ttOk () trivial rfl rfl [] rfl
          · have h := condF h ht41
            refine JS.skip ?_
            refine JS.seq ?_
            refine JS.region ?_
            refine JO.reg ttOk 1 [] [] [(4, .v (.bool true))] _ rfl ⟨⟨rfl, trivial⟩, rfl⟩ ?_
            refine JO.done rfl ?_
            cases h
            exact JS.ret ttOk () trivial rfl rfl [] rfl

end
end Go.Eng
