/- The walks of the functions that FnExactOpAt reaches: what each computes, as a plain function (M_..), and that the model computes it (ok_..). Condition of each: that the plain function answers. -/
import Derived.Test.YtmgjbhlcejcjeaaDoorEngB
import Derived.Test.YtmgjbhlcejcjeaaDoorChecked
import Derived.Lib.Strings
import Derived.Lib.Slices
import Derived.Lib.Walk
import Derived.Lib.Bytealg
set_option linter.unusedVariables false
set_option linter.unusedSimpArgs false
namespace Go.Proofs

set_option maxHeartbeats 1000000 in
set_option maxRecDepth 100000 in
/-- internal/stringslite.IndexByte (what strings.IndexByte calls): IT RETURNS 'Lib.indexByte s c'; the world is as it was. -/
theorem Tryd.stringslite_IndexByte (s : ByteArray) (c : Int) (w : World) :
    Calls Tryd.prog 27 #[.string s, .int .u8 c] w fun e w' => e = .returned (.int .i64 (Lib.indexByte s.data.toList c.toNat.toUInt8)) ∧ w' = w := by
  go_enter Tryd.func27, Tryd.ntmps27
  go_wp2
  rw [run_callFunc_extern Tryd.func34 (by kernel_rfl) (by kernel_rfl) (by kernel_rfl) (e := Extern.BytealgIndexByte.indexByte) (by kernel_rfl), Lib.run_indexByteString]
  simp only [Result.andThen]
  rw [Oper.upon_value]
  go_wp2
  go_ret
  exact ⟨rfl, rfl⟩

end Go.Proofs

namespace Go.Proofs

set_option maxHeartbeats 2000000 in
set_option maxRecDepth 100000 in
/-- internal/stringslite.Index (what strings.Index calls) AT A substr OF ONE BYTE c: IT RETURNS 'Lib.indexByte s c'; the world is as it was. -/
theorem Tryd.stringslite_Index_one (s : ByteArray) (c : UInt8) (w : World) :
    Calls Tryd.prog 45 #[.string s, .string ⟨#[c]⟩] w fun e w' => e = .returned (.int .i64 (Lib.indexByte s.data.toList c)) ∧ w' = w := by
  go_enter Tryd.func45, Tryd.ntmps45
  go_wp2_with (go_at_call 27; refine (Tryd.stringslite_IndexByte _ _ _).mono ?_; rintro e w' ⟨rfl, rfl⟩)
  · have h : ([c] == s.toList) = true := by assumption
    go_ret
    refine ⟨?_, rfl⟩
    have e : s.data.toList = [c] := by rw [← Lib.toList_data]; exact (beq_iff_eq.1 h).symm
    rw [e]
    simp [Lib.indexByte]
  · go_ret
    exact ⟨rfl, rfl⟩

end Go.Proofs

namespace Go.Proofs

set_option maxHeartbeats 1000000 in
/-- strings.Index: "Index returns the index of the first instance of substr in s, or -1 if substr is not present in s.": AT A substr OF ONE BYTE c: IT RETURNS 'Lib.indexByte s c'; the world is as it was. -/
theorem Tryd.strings_Index_one (s : ByteArray) (c : UInt8) (w : World) :
    Calls Tryd.prog 40 #[.string s, .string ⟨#[c]⟩] w fun e w' => e = .returned (.int .i64 (Lib.indexByte s.data.toList c)) ∧ w' = w := by
  go_enter Tryd.func40, Tryd.ntmps40
  go_wp2_with (go_at_call 45; refine (Tryd.stringslite_Index_one _ _ _).mono ?_; rintro e w' ⟨rfl, rfl⟩)
  go_ret
  exact ⟨rfl, rfl⟩

end Go.Proofs

namespace Go.Proofs

set_option maxHeartbeats 1000000 in
set_option maxRecDepth 100000 in
/-- strings.Count AT A substr OF ONE BYTE ('hp'): "Count counts the number of non-overlapping instances of substr in s.": IT RETURNS 'Lib.countByte s (that byte)'; the world is as it was. ✋ NO CONTRACT HERE YET at an empty substr (utf8.RuneCountInString) or at a longer one (a loop over strings.Index). -/
theorem Tryd.strings_Count_one (s : ByteArray) (c : UInt8) (w : World) :
    Calls Tryd.prog 39 #[.string s, .string ⟨#[c]⟩] w fun e w' => e = .returned (.int .i64 (Lib.countByte s.data.toList c)) ∧ w' = w := by
  go_enter Tryd.func39, Tryd.ntmps39
  go_wp2
  rw [run_callFunc_extern Tryd.func44 (by kernel_rfl) (by kernel_rfl) (by kernel_rfl) (e := Extern.BytealgCount.count) (by kernel_rfl), Lib.run_countString]
  simp only [Result.andThen]
  rw [Oper.upon_value]
  go_wp2
  go_ret
  exact ⟨rfl, rfl⟩

end Go.Proofs

namespace Go.Proofs

set_option maxHeartbeats 1000000 in
/-- strings.HasPrefix: "HasPrefix reports whether the string s begins with prefix.": IT RETURNS 'Lib.hasPrefix s prefix'; the world is as it was. -/
theorem Tryd.strings_HasPrefix (s p : ByteArray) (w : World) :
    Calls Tryd.prog 26 #[.string s, .string p] w fun e w' => e = .returned (.bool (Lib.hasPrefix s.data.toList p.data.toList)) ∧ w' = w := by
  rw [← Lib.hasPrefix_of_take, ← Lib.size_eq, ← Lib.size_eq]
  go_enter Tryd.func26, Tryd.ntmps26
  go_wp2
  · rename_i h
    go_ret
    refine ⟨?_, rfl⟩
    show Ending.returned (Value.bool ((s.extract 0 p.size).toList == p.toList)) = _
    rw [Lib.extract_toList, Lib.toList_data]
    simp [h]
  · rename_i h
    go_ret
    refine ⟨?_, rfl⟩
    show Ending.returned (Value.bool false) = _
    simp [h]

end Go.Proofs

namespace Go.Eng
open Go Go.Proofs
noncomputable section

def TTx : TT := [
  (2, ⟨.int .i64, 1, 8, [.int .i64 0]⟩),
  (3, ⟨.int .i64, 1, 8, [.int .i64 0]⟩),
  (4, ⟨.bool, 1, 1, [.bool false]⟩),
  (5, ⟨.int .u8, 1, 1, [.int .u8 0]⟩),
  (6, ⟨.int .u8, 1, 1, [.int .u8 0]⟩),
  (7, ⟨.struct [(0, 2), (1, 3), (2, 4), (3, 6)], 4, 24, [.int .i64 0, .int .i64 0, .bool false, .int .u8 0]⟩),
  (8, ⟨.struct [(0, 2), (1, 3), (2, 4), (3, 6)], 4, 24, [.int .i64 0, .int .i64 0, .bool false, .int .u8 0]⟩),
  (9, ⟨.str, 1, 16, [.string ByteArray.empty]⟩),
  (10, ⟨.str, 1, 16, [.string ByteArray.empty]⟩),
  (11, ⟨.str, 1, 16, [.string ByteArray.empty]⟩),
  (12, ⟨.int .u64, 1, 8, [.int .u64 0]⟩),
  (13, ⟨.struct [(0, 9), (1, 12)], 2, 24, [.string ByteArray.empty, .int .u64 0]⟩),
  (14, ⟨.struct [(0, 9), (1, 12)], 2, 24, [.string ByteArray.empty, .int .u64 0]⟩),
  (21, ⟨.int .i32, 1, 4, [.int .i32 0]⟩),
  (28, ⟨.slice 9, 1, 24, [.slice none 0 0]⟩),
  (52, ⟨.int .u64, 1, 8, [.int .u64 0]⟩),
  (53, ⟨.struct [(0, 5), (1, 5)], 2, 2, [.int .u8 0, .int .u8 0]⟩),
  (54, ⟨.struct [(0, 5), (1, 5)], 2, 2, [.int .u8 0, .int .u8 0]⟩),
  (58, ⟨.int .u32, 1, 4, [.int .u32 0]⟩),
  (68, ⟨.int .u8, 1, 1, [.int .u8 0]⟩),
  (69, ⟨.int .u8, 1, 1, [.int .u8 0]⟩),
  (72, ⟨.int .i32, 1, 4, [.int .i32 0]⟩),
  (73, ⟨.int .i32, 1, 4, [.int .i32 0]⟩)]

set_option maxRecDepth 100000 in
theorem ttOk : TTok Tryd.prog TTx := TTok.of (by
  simp only [TTx, List.forall_mem_cons]
  exact ⟨⟨⟨_, _, rfl, rfl, rfl, rfl, rfl⟩, rfl⟩, ⟨⟨_, _, rfl, rfl, rfl, rfl, rfl⟩, rfl⟩, ⟨⟨_, _, rfl, rfl, rfl, rfl, rfl⟩, rfl⟩, ⟨⟨_, _, rfl, rfl, rfl, rfl, rfl⟩, rfl⟩, ⟨⟨_, _, rfl, rfl, rfl, rfl, rfl⟩, rfl⟩, ⟨⟨_, _, rfl, rfl, rfl, rfl, rfl⟩, ⟨_, rfl, rfl⟩⟩, ⟨⟨_, _, rfl, rfl, rfl, rfl, rfl⟩, ⟨_, rfl, rfl⟩⟩, ⟨⟨_, _, rfl, rfl, rfl, rfl, rfl⟩, rfl⟩, ⟨⟨_, _, rfl, rfl, rfl, rfl, rfl⟩, rfl⟩, ⟨⟨_, _, rfl, rfl, rfl, rfl, rfl⟩, rfl⟩, ⟨⟨_, _, rfl, rfl, rfl, rfl, rfl⟩, rfl⟩, ⟨⟨_, _, rfl, rfl, rfl, rfl, rfl⟩, ⟨_, rfl, rfl⟩⟩, ⟨⟨_, _, rfl, rfl, rfl, rfl, rfl⟩, ⟨_, rfl, rfl⟩⟩, ⟨⟨_, _, rfl, rfl, rfl, rfl, rfl⟩, rfl⟩, ⟨⟨_, _, rfl, rfl, rfl, rfl, rfl⟩, rfl⟩, ⟨⟨_, _, rfl, rfl, rfl, rfl, rfl⟩, rfl⟩, ⟨⟨_, _, rfl, rfl, rfl, rfl, rfl⟩, ⟨_, rfl, rfl⟩⟩, ⟨⟨_, _, rfl, rfl, rfl, rfl, rfl⟩, ⟨_, rfl, rfl⟩⟩, ⟨⟨_, _, rfl, rfl, rfl, rfl, rfl⟩, rfl⟩, ⟨⟨_, _, rfl, rfl, rfl, rfl, rfl⟩, rfl⟩, ⟨⟨_, _, rfl, rfl, rfl, rfl, rfl⟩, rfl⟩, ⟨⟨_, _, rfl, rfl, rfl, rfl, rfl⟩, rfl⟩, ⟨⟨_, _, rfl, rfl, rfl, rfl, rfl⟩, rfl⟩, by simp⟩)

def M_s_l17Ops : Option (List (List UInt8)) :=
  some ([[60, 60, 45], [38, 38], [124, 124], [59, 59], [60, 60], [60, 38], [60, 62], [62, 62], [62, 38], [62, 124], [38], [124], [59], [60], [62], [40], [41]] : List (List UInt8))

theorem ok_s_l17Ops (r : List (List UInt8)) (h : M_s_l17Ops = some r) :
    FC Tryd.prog 24 [] [] (fun _ : Option Addr × Nat => True) (fun q => .slice q.1 r.length q.2) (fun q => [⟨.str, ⟨q.1, r.length, q.2⟩, r⟩]) :=
  by
    refine FC.of (T := TTx) Tryd.call24 Tryd.func24 rfl rfl fun w0 => ?_
    unfold M_s_l17Ops at h
    refine JS.seq ?_
    refine JS.region ?_
    refine JO.reg ttOk 1 [] [] [] _ rfl ⟨trivial, rfl⟩ ?_
    refine JO.done rfl ?_
    refine JS.seq ?_
    refine JS.region ?_
    refine JO.ofK rfl (JK.buildSlice ttOk rfl rfl rfl rfl rfl rfl rfl rfl rfl rfl rfl [] rfl .str [[60, 60, 45], [38, 38], [124, 124], [59, 59], [60, 60], [60, 38], [60, 62], [62, 62], [62, 38], [62, 124], [38], [124], [59], [60], [62], [40], [41]] ⟨rfl, rfl⟩ rfl rfl fun a1 => JO.toK ?_)
    refine JO.reg ttOk 1 [] [] [(0, .v (.slice a1 ([[60, 60, 45], [38, 38], [124, 124], [59, 59], [60, 60], [60, 38], [60, 62], [62, 62], [62, 38], [62, 124], [38], [124], [59], [60], [62], [40], [41]] : List (List UInt8)).length ([[60, 60, 45], [38, 38], [124, 124], [59, 59], [60, 60], [60, 38], [60, 62], [62, 62], [62, 38], [62, 124], [38], [124], [59], [60], [62], [40], [41]] : List (List UInt8)).length))] _ rfl ⟨⟨rfl, trivial⟩, rfl⟩ ?_
    refine JO.done rfl ?_
    cases h
    exact JS.ret ttOk (a1, ([[60, 60, 45], [38, 38], [124, 124], [59, 59], [60, 60], [60, 38], [60, 62], [62, 62], [62, 38], [62, 124], [38], [124], [59], [60], [62], [40], [41]] : List (List UInt8)).length) trivial rfl rfl [0] rfl

def M_s_OpAt_L1 (x0 : List UInt8) (x1 : Int) (y3 : List (List UInt8)) (j30 : Unit → Option (List UInt8)) (k23 : Int → Option (List UInt8)) : Int → Option (List UInt8) := fun x10 =>
  (bif (decide (x10 < (y3.length : Int))) then
  (guardO (0 ≤ x10 ∧ x10 < (y3.length : Int)) <|
  (guardO (((decide (((at' y3 x10).length : Int) ≤ (W ((x0.length : Int) - x1)))) = true) → 0 ≤ x1 ∧ x1 ≤ (W (x1 + ((at' y3 x10).length : Int))) ∧ (W (x1 + ((at' y3 x10).length : Int))) ≤ (x0.length : Int)) <|
  (bif (bif (decide (((at' y3 x10).length : Int) ≤ (W ((x0.length : Int) - x1)))) then (decide ((sub' x0 x1 (W (x1 + ((at' y3 x10).length : Int)))) = (at' y3 x10))) else false) then
  some (at' y3 x10)
  else
  k23 (W (x10 + 1)))))
  else
  j30 ())

def M_s_OpAt (x0 : List UInt8) (x1 : Int) : Option (List UInt8) :=
  (bif (bif (decide (x1 < 0)) then true else (decide ((x0.length : Int) ≤ x1))) then
  some ([])
  else
  (bindO (M_s_l17Ops ) fun (y3 : List (List UInt8)) =>
  (joinO (fun (_ : Unit) =>
  some ([])) fun j30 =>
  (fixF (M_s_OpAt_L1 x0 x1 y3 j30) FUEL 0))))

theorem ok_s_OpAt (x0 : List UInt8) (x1 : Int) (r : List UInt8) (h : M_s_OpAt x0 x1 = some r) :
    FC Tryd.prog 16 [.string (bs x0), .int .i64 x1] [] (fun _ : Unit => True) (fun _ => .string (bs r)) (fun _ => []) :=
  by
    refine FC.of (T := TTx) Tryd.call16 Tryd.func16 rfl rfl fun w0 => ?_
    unfold M_s_OpAt at h
    refine JS.seq ?_
    refine JS.region ?_
    refine JO.reg ttOk 1 [] [] [] _ rfl ⟨trivial, rfl⟩ ?_
    refine JO.done rfl ?_
    refine JS.seq ?_
    refine JS.seq ?_
    refine JS.region ?_
    refine JO.reg ttOk 8 [] [] [(14, .v (.bool (bif (decide (x1 < 0)) then true else (decide ((x0.length : Int) ≤ x1)))))] _ rfl ⟨⟨rfl, trivial⟩, rfl⟩ ?_
    refine JO.done rfl ?_
    refine JS.cond rfl (fun ht44 => ?_) (fun ht44 => ?_)
    · have h := condT h ht44
      refine JS.seq ?_
      refine JS.region ?_
      refine JO.reg ttOk 1 [] [] [(4, .v (.string (bs [])))] _ rfl ⟨⟨rfl, trivial⟩, rfl⟩ ?_
      refine JO.done rfl ?_
      cases h
      exact JS.ret ttOk () trivial rfl rfl [] rfl
    · have h := condF h ht44
      refine JS.skip ?_
      refine JS.seq ?_
      refine JS.seq ?_
      refine JS.region ?_
      obtain ⟨y3, hy4, h⟩ := bindO_some h
      refine JO.call rfl rfl rfl rfl (ok_s_l17Ops  _ hy4) rfl [] rfl rfl ?_
      rintro ⟨a5, c6⟩ -
      refine JO.reg ttOk 2 [] [] [(16, .v (.int .i64 (y3.length : Int))), (17, .v (.int .i64 0))] _ rfl ⟨⟨rfl, rfl, trivial⟩, rfl⟩ ?_
      refine JO.done rfl ?_
      obtain ⟨j30, hj43, h⟩ := joinO_some h
      refine JS.blockJ (ι := Unit) ⟨fun _ => j30 () = some r, fun _ => [], fun _ => .nil, fun _ => [], fun _ => [], fun _ => 0⟩ ?_ ?_
      · refine JS.loop (ι := Nat × Int) ⟨fun z => fixF (M_s_OpAt_L1 x0 x1 y3 j30) z.1 z.2 = some r, fun z => [(0, .v (.string (bs x0))), (1, .v (.int .i64 x1)), (15, .v (.slice a5 y3.length c6)), (16, .v (.int .i64 (y3.length : Int))), (17, .v (.int .i64 z.2))], fun z => .nil, fun z => [], fun z => [⟨.str, ⟨a5, y3.length, c6⟩, y3⟩], fun z => z.1⟩ (FUEL, 0) h ⟨rfl, rfl, rfl, rfl, rfl, trivial⟩ trivial [] rfl [0] rfl ?_
        rintro ⟨n24, x10⟩ h
        obtain ⟨n24, rfl, h⟩ := fixF_some h
        rw [M_s_OpAt_L1] at h
        refine JS.seq ?_
        refine JS.region ?_
        refine JO.reg ttOk 1 [] [] [(18, .v (.bool (decide (x10 < (y3.length : Int)))))] _ rfl ⟨⟨rfl, trivial⟩, rfl⟩ ?_
        refine JO.done rfl ?_
        refine JS.seq ?_
        refine JS.cond rfl (fun ht42 => ?_) (fun ht42 => ?_)
        · have h := condT h ht42
          refine JS.skip ?_
          refine JS.seq ?_
          refine JS.block ?_
          refine JS.seq ?_
          refine JS.region ?_
          refine JO.know 0 rfl fun hs38 => ?_
          obtain ⟨g12, h⟩ := guardO_some h
          refine JO.reg ttOk 1 [] [] [(19, .ep ⟨a5, y3.length, c6⟩ (Int.toNat x10 * 1))] _ rfl ⟨hs38.ix g12, ⟨rfl, trivial⟩, rfl⟩ ?_
          refine JO.load ttOk rfl rfl rfl rfl rfl rfl rfl 0 rfl rfl (Int.toNat x10) 0 (at' y3 x10) ⟨at_some g12, rfl⟩ rfl rfl ?_
          refine JO.reg ttOk 1 [] [] [(6, .v (.string (bs (at' y3 x10))))] _ rfl ⟨⟨rfl, trivial⟩, rfl⟩ ?_
          refine JO.done rfl ?_
          refine JS.seq ?_
          refine JS.region ?_
          obtain ⟨g14, h⟩ := guardO_some h
          refine JO.reg ttOk 18 [(W ((x0.length : Int) - x1)), (W (x1 + ((at' y3 x10).length : Int)))] [] [(38, .v (.bool (bif (decide (((at' y3 x10).length : Int) ≤ (W ((x0.length : Int) - x1)))) then (decide ((sub' x0 x1 (W (x1 + ((at' y3 x10).length : Int)))) = (at' y3 x10))) else false)))] _ rfl ⟨⟨trivial, rfl⟩, (fun q39 => ⟨trivial, rfl⟩), (fun q40 => (g14 q40)), ⟨rfl, trivial⟩, rfl⟩ ?_
          refine JO.done rfl ?_
          refine JS.cond rfl (fun ht41 => ?_) (fun ht41 => ?_)
          · have h := condT h ht41
            refine JS.seq ?_
            refine JS.region ?_
            refine JO.reg ttOk 2 [] [] [(4, .v (.string (bs (at' y3 x10))))] _ rfl ⟨⟨rfl, trivial⟩, rfl⟩ ?_
            refine JO.done rfl ?_
            cases h
            exact JS.ret ttOk () trivial rfl rfl [] rfl
          · have h := condF h ht41
            refine JS.skip ?_
            refine JS.endB ?_
            refine JS.region ?_
            refine JO.reg ttOk 2 [(W (x10 + 1))] [] [(17, .v (.int .i64 (W (x10 + 1))))] _ rfl ⟨⟨trivial, rfl⟩, ⟨rfl, trivial⟩, rfl⟩ ?_
            refine JO.done rfl ?_
            exact JS.endL (n24, (W (x10 + 1))) h (Nat.lt_succ_self _) ⟨rfl, rfl, rfl, rfl, rfl, trivial⟩ trivial [] rfl [0] rfl
        · have h := condF h ht42
          refine JS.exit rfl ?_
          exact JS.endJ () h trivial trivial [] rfl [] rfl
      · rintro _ h
        subst hj43
        refine JS.seq ?_
        refine JS.region ?_
        refine JO.reg ttOk 1 [] [] [(4, .v (.string (bs [])))] _ rfl ⟨⟨rfl, trivial⟩, rfl⟩ ?_
        refine JO.done rfl ?_
        cases h
        exact JS.ret ttOk () trivial rfl rfl [] rfl

def M_unicode_utf8_RuneCountInString (x0 : List UInt8) : Option Int :=
  none

theorem ok_unicode_utf8_RuneCountInString (x0 : List UInt8) (r : Int) (h : M_unicode_utf8_RuneCountInString x0 = some r) :
    FC Tryd.prog 43 [.string (bs x0)] [] (fun _ : Unit => True) (fun _ => .int .i64 r) (fun _ => []) :=
  by
    refine FC.of (T := TTx) Tryd.call43 Tryd.func43 rfl rfl fun w0 => ?_
    unfold M_unicode_utf8_RuneCountInString at h
    refine JS.seq ?_
    refine JS.region ?_
    refine JO.reg ttOk 1 [] [] [(2, .v (.int .i64 0))] _ rfl ⟨⟨rfl, trivial⟩, rfl⟩ ?_
    refine JO.done rfl ?_
    refine JS.seq ?_
    refine JS.seq ?_
    cases h

def M_unicode_utf8_decodeRuneInStringSlow (x0 : List UInt8) : Option (Int × Int) :=
  (bif (decide ((x0.length : Int) < 1)) then
  some (65533, 0)
  else
  (guardO (0 ≤ (0 : Int) ∧ 0 < (x0.length : Int)) <|
  none))

theorem ok_unicode_utf8_decodeRuneInStringSlow (x0 : List UInt8) (r : Int × Int) (h : M_unicode_utf8_decodeRuneInStringSlow x0 = some r) :
    FC Tryd.prog 41 [.string (bs x0)] [] (fun _ : Unit => True) (fun _ => .tuple #[.int .i32 r.1, .int .i64 r.2]) (fun _ => []) :=
  by
    refine FC.of (T := TTx) Tryd.call41 Tryd.func41 rfl rfl fun w0 => ?_
    unfold M_unicode_utf8_decodeRuneInStringSlow at h
    refine JS.seq ?_
    refine JS.region ?_
    refine JO.reg ttOk 2 [] [] [] _ rfl ⟨trivial, rfl⟩ ?_
    refine JO.done rfl ?_
    refine JS.seq ?_
    refine JS.region ?_
    refine JO.reg ttOk 3 [] [] [(4, .v (.int .i64 (x0.length : Int)))] _ rfl ⟨⟨rfl, trivial⟩, rfl⟩ ?_
    refine JO.done rfl ?_
    refine JS.seq ?_
    refine JS.seq ?_
    refine JS.region ?_
    refine JO.reg ttOk 2 [] [] [(16, .v (.bool (decide ((x0.length : Int) < 1))))] _ rfl ⟨⟨rfl, trivial⟩, rfl⟩ ?_
    refine JO.done rfl ?_
    refine JS.cond rfl (fun ht4 => ?_) (fun ht4 => ?_)
    · have h := condT h ht4
      refine JS.seq ?_
      refine JS.region ?_
      refine JO.reg ttOk 2 [] [] [(2, .v (.int .i32 65533)), (3, .v (.int .i64 0))] _ rfl ⟨⟨rfl, rfl, trivial⟩, rfl⟩ ?_
      refine JO.done rfl ?_
      cases h
      exact JS.ret ttOk () trivial rfl rfl [] rfl
    · have h := condF h ht4
      refine JS.skip ?_
      refine JS.seq ?_
      refine JS.region ?_
      obtain ⟨g2, h⟩ := guardO_some h
      refine JO.reg ttOk 3 [] [] [(5, .v (.int .u8 ((at' x0 0).toNat : Int)))] _ rfl ⟨g2, ⟨rfl, trivial⟩, rfl⟩ ?_
      refine JO.done rfl ?_
      refine JS.seq ?_
      cases h

def M_unicode_utf8_DecodeRuneInString (x0 : List UInt8) : Option (Int × Int) :=
  (guardO (((!(decide (x0 = []))) = true) → 0 ≤ (0 : Int) ∧ 0 < (x0.length : Int)) <|
  (bif (bif (!(decide (x0 = []))) then (decide (((at' x0 0).toNat : Int) < (128 : Int))) else false) then
  (guardO (0 ≤ (0 : Int) ∧ 0 < (x0.length : Int)) <|
  some ((IntKind.i32.wrap (((at' x0 0).toNat : Int))), 1))
  else
  (bindO (M_unicode_utf8_decodeRuneInStringSlow x0) fun (y5, y6) =>
  some (y5, y6))))

theorem ok_unicode_utf8_DecodeRuneInString (x0 : List UInt8) (r : Int × Int) (h : M_unicode_utf8_DecodeRuneInString x0 = some r) :
    FC Tryd.prog 36 [.string (bs x0)] [] (fun _ : Unit => True) (fun _ => .tuple #[.int .i32 r.1, .int .i64 r.2]) (fun _ => []) :=
  by
    refine FC.of (T := TTx) Tryd.call36 Tryd.func36 rfl rfl fun w0 => ?_
    unfold M_unicode_utf8_DecodeRuneInString at h
    refine JS.seq ?_
    refine JS.region ?_
    refine JO.reg ttOk 2 [] [] [] _ rfl ⟨trivial, rfl⟩ ?_
    refine JO.done rfl ?_
    refine JS.seq ?_
    refine JS.seq ?_
    refine JS.region ?_
    obtain ⟨g2, h⟩ := guardO_some h
    refine JO.reg ttOk 7 [] [] [(10, .v (.bool (bif (!(decide (x0 = []))) then (decide (((at' x0 0).toNat : Int) < (128 : Int))) else false)))] _ rfl ⟨(fun q9 => (g2 q9)), ⟨rfl, trivial⟩, rfl⟩ ?_
    refine JO.done rfl ?_
    refine JS.cond rfl (fun ht10 => ?_) (fun ht10 => ?_)
    · have h := condT h ht10
      refine JS.seq ?_
      refine JS.region ?_
      obtain ⟨g4, h⟩ := guardO_some h
      refine JO.reg ttOk 5 [(IntKind.i32.wrap (((at' x0 0).toNat : Int)))] [] [(2, .v (.int .i32 (IntKind.i32.wrap (((at' x0 0).toNat : Int))))), (3, .v (.int .i64 1))] _ rfl ⟨g4, ⟨trivial, rfl⟩, ⟨rfl, rfl, trivial⟩, rfl⟩ ?_
      refine JO.done rfl ?_
      cases h
      exact JS.ret ttOk () trivial rfl rfl [] rfl
    · have h := condF h ht10
      refine JS.region ?_
      refine JO.reg ttOk 1 [] [] [(15, .v (.string (bs x0)))] _ rfl ⟨⟨rfl, trivial⟩, rfl⟩ ?_
      obtain ⟨⟨y5, y6⟩, hy7, h⟩ := bindO_some h
      refine JO.call rfl rfl rfl rfl (ok_unicode_utf8_decodeRuneInStringSlow x0 _ hy7) rfl [] rfl rfl ?_
      intro _ _
      refine JO.reg ttOk 5 [] [] [(2, .v (.int .i32 y5)), (3, .v (.int .i64 y6))] _ rfl ⟨⟨rfl, rfl, trivial⟩, rfl⟩ ?_
      refine JO.done rfl ?_
      cases h
      exact JS.ret ttOk () trivial rfl rfl [] rfl

def M_strings_explode_L1 (x6 : Int) (j32 : (List UInt8 × List (List UInt8)) → Option (List (List UInt8))) (k24 : (List UInt8 × List (List UInt8) × Int) → Option (List (List UInt8))) : (List UInt8 × List (List UInt8) × Int) → Option (List (List UInt8)) := fun (x11, x12, x15) =>
  (bif (decide (x15 < (W (x6 - 1)))) then
  (bindO (M_unicode_utf8_DecodeRuneInString x11) fun (y16, y17) =>
  (guardO (0 ≤ (0 : Int) ∧ 0 ≤ y17 ∧ y17 ≤ (x11.length : Int)) <|
  (guardO (0 ≤ x15 ∧ x15 < (x12.length : Int)) <|
  (guardO (0 ≤ y17 ∧ y17 ≤ (x11.length : Int) ∧ (x11.length : Int) ≤ (x11.length : Int)) <|
  k24 ((sub' x11 y17 (x11.length : Int)), (List.set x12 (Int.toNat x15) (sub' x11 0 y17)), (W (x15 + 1)))))))
  else
  j32 (x11, x12))

def M_strings_explode (x0 : List UInt8) (x1 : Int) : Option (List (List UInt8)) :=
  (bindO (M_unicode_utf8_RuneCountInString x0) fun (y3 : Int) =>
  (joinO (fun (x6 : Int) =>
  (guardO (0 ≤ x6 ∧ x6 ≤ 536870912) <|
  (joinO (fun ((x28, x29) : List UInt8 × List (List UInt8)) =>
  (joinO (fun (x38 : List (List UInt8)) =>
  some x38) fun j41 =>
  (bif (decide (0 < x6)) then
  (guardO (0 ≤ (W (x6 - 1)) ∧ (W (x6 - 1)) < (x29.length : Int)) <|
  j41 (List.set x29 (Int.toNat (W (x6 - 1))) x28))
  else
  j41 x29))) fun j32 =>
  (fixF (M_strings_explode_L1 x6 j32) FUEL (x0, (List.replicate (Int.toNat x6) []), 0))))) fun j7 =>
  (bif (bif (decide (x1 < 0)) then true else (decide (y3 < x1))) then
  j7 y3
  else
  j7 x1)))

theorem ok_strings_explode (x0 : List UInt8) (x1 : Int) (r : List (List UInt8)) (h : M_strings_explode x0 x1 = some r) :
    FC Tryd.prog 38 [.string (bs x0), .int .i64 x1] [] (fun _ : Option Addr × Nat => True) (fun q => .slice q.1 r.length q.2) (fun q => [⟨.str, ⟨q.1, r.length, q.2⟩, r⟩]) :=
  by
    refine FC.of (T := TTx) Tryd.call38 Tryd.func38 rfl rfl fun w0 => ?_
    unfold M_strings_explode at h
    refine JS.seq ?_
    refine JS.region ?_
    refine JO.reg ttOk 1 [] [] [] _ rfl ⟨trivial, rfl⟩ ?_
    refine JO.done rfl ?_
    refine JS.seq ?_
    refine JS.region ?_
    refine JO.reg ttOk 1 [] [] [(10, .v (.string (bs x0)))] _ rfl ⟨⟨rfl, trivial⟩, rfl⟩ ?_
    obtain ⟨y3, hy4, h⟩ := bindO_some h
    refine JO.call rfl rfl rfl rfl (ok_unicode_utf8_RuneCountInString x0 _ hy4) rfl [] rfl rfl ?_
    intro _ _
    refine JO.reg ttOk 1 [] [] [(5, .v (.int .i64 y3))] _ rfl ⟨⟨rfl, trivial⟩, rfl⟩ ?_
    refine JO.done rfl ?_
    obtain ⟨j7, hj54, h⟩ := joinO_some h
    refine JS.seqJ (ι := Int) ⟨fun z => j7 z = some r, fun z => [(0, .v (.string (bs x0))), (1, .v (.int .i64 z))], fun z => .nil, fun z => [], fun z => [], fun z => 0⟩ ?_ ?_
    · refine JS.seq ?_
      refine JS.region ?_
      refine JO.reg ttOk 7 [] [] [(18, .v (.bool (bif (decide (x1 < 0)) then true else (decide (y3 < x1)))))] _ rfl ⟨⟨rfl, trivial⟩, rfl⟩ ?_
      refine JO.done rfl ?_
      refine JS.cond rfl (fun ht47 => ?_) (fun ht47 => ?_)
      · have h := condT h ht47
        refine JS.region ?_
        refine JO.reg ttOk 2 [] [] [(1, .v (.int .i64 y3))] _ rfl ⟨⟨rfl, trivial⟩, rfl⟩ ?_
        refine JO.done rfl ?_
        exact JS.endJ y3 h ⟨rfl, rfl, trivial⟩ trivial [] rfl [] rfl
      · have h := condF h ht47
        refine JS.skip ?_
        exact JS.endJ x1 h ⟨rfl, rfl, trivial⟩ trivial [] rfl [] rfl
    · rintro x6 h
      subst hj54
      refine JS.seq ?_
      refine JS.region ?_
      refine JO.reg ttOk 1 [] [] [(20, .v (.int .i64 x6))] _ rfl ⟨⟨rfl, trivial⟩, rfl⟩ ?_
      obtain ⟨g9, h⟩ := guardO_some h
      refine JO.makeSlice ttOk rfl rfl rfl rfl rfl rfl rfl rfl (Int.toNat x6) (Int.toNat_of_nonneg g9.1).symm (by omega) .str rfl rfl rfl rfl rfl ?_
      intro a10
      refine JO.reg ttOk 1 [] [] [(6, .v (.slice a10 (Int.toNat x6) (Int.toNat x6)))] _ rfl ⟨⟨rfl, trivial⟩, rfl⟩ ?_
      refine JO.done rfl ?_
      refine JS.seq ?_
      refine JS.seq ?_
      refine JS.region ?_
      refine JO.reg ttOk 1 [] [] [(7, .v (.int .i64 0))] _ rfl ⟨⟨rfl, trivial⟩, rfl⟩ ?_
      refine JO.done rfl ?_
      obtain ⟨j32, hj53, h⟩ := joinO_some h
      refine JS.blockJ (ι := List UInt8 × List (List UInt8) × Option Addr × Nat) ⟨fun z => j32 (z.1, z.2.1) = some r, fun z => [(0, .v (.string (bs z.1))), (1, .v (.int .i64 x6)), (6, .v (.slice z.2.2.1 z.2.1.length z.2.2.2))], fun z => .nil, fun z => [], fun z => [⟨.str, ⟨z.2.2.1, z.2.1.length, z.2.2.2⟩, z.2.1⟩], fun z => 0⟩ ?_ ?_
      · refine JS.loop (ι := Nat × List UInt8 × List (List UInt8) × Int × Option Addr × Nat) ⟨fun z => fixF (M_strings_explode_L1 x6 j32) z.1 (z.2.1, z.2.2.1, z.2.2.2.1) = some r, fun z => [(0, .v (.string (bs z.2.1))), (1, .v (.int .i64 x6)), (6, .v (.slice z.2.2.2.2.1 z.2.2.1.length z.2.2.2.2.2)), (7, .v (.int .i64 z.2.2.2.1))], fun z => .nil, fun z => [], fun z => [⟨.str, ⟨z.2.2.2.2.1, z.2.2.1.length, z.2.2.2.2.2⟩, z.2.2.1⟩], fun z => z.1⟩ (FUEL, x0, (List.replicate (Int.toNat x6) []), 0, a10, (Int.toNat x6)) h ⟨rfl, rfl, (by simp only [List.length_set, List.length_replicate, pickO, getF]; rfl), rfl, trivial⟩ trivial [] rfl [0] (by simp only [List.length_set, List.length_replicate, pickO, getF]; rfl) ?_
        rintro ⟨n25, x11, x12, x15, a13, c14⟩ h
        obtain ⟨n25, rfl, h⟩ := fixF_some h
        rw [M_strings_explode_L1] at h
        refine JS.seq ?_
        refine JS.seq ?_
        refine JS.region ?_
        refine JO.reg ttOk 4 [(W (x6 - 1))] [] [(25, .v (.bool (decide (x15 < (W (x6 - 1))))))] _ rfl ⟨⟨trivial, rfl⟩, ⟨rfl, trivial⟩, rfl⟩ ?_
        refine JO.done rfl ?_
        refine JS.cond rfl (fun ht49 => ?_) (fun ht49 => ?_)
        · have h := condT h ht49
          refine JS.skip ?_
          refine JS.seq ?_
          refine JS.block ?_
          refine JS.seq ?_
          refine JS.region ?_
          refine JO.reg ttOk 1 [] [] [(29, .v (.string (bs x11)))] _ rfl ⟨⟨rfl, trivial⟩, rfl⟩ ?_
          obtain ⟨⟨y16, y17⟩, hy18, h⟩ := bindO_some h
          refine JO.call rfl rfl rfl rfl (ok_unicode_utf8_DecodeRuneInString x11 _ hy18) rfl [] rfl rfl ?_
          intro _ _
          refine JO.reg ttOk 5 [] [] [(9, .v (.int .i64 y17))] _ rfl ⟨⟨rfl, trivial⟩, rfl⟩ ?_
          refine JO.done rfl ?_
          refine JS.seq ?_
          refine JS.region ?_
          obtain ⟨g19, h⟩ := guardO_some h
          refine JO.know 0 rfl fun hs48 => ?_
          obtain ⟨g21, h⟩ := guardO_some h
          refine JO.reg ttOk 6 [] [] [(37, .v (.string (bs (sub' x11 0 y17)))), (38, .ep ⟨a13, x12.length, c14⟩ (Int.toNat x15 * 1))] _ rfl ⟨g19, hs48.ix g21, ⟨rfl, rfl, trivial⟩, rfl⟩ ?_
          refine JO.storeE ttOk rfl rfl rfl rfl rfl rfl rfl rfl rfl [0] (fs := []) rfl (Int.toNat x15) 0 (at' x12 x15) (sub' x11 0 y17) ⟨at_some g21, rfl⟩ ⟨rfl, rfl, rfl⟩ ?_
          refine JO.done rfl ?_
          refine JS.region ?_
          obtain ⟨g22, h⟩ := guardO_some h
          refine JO.reg ttOk 4 [] [] [(0, .v (.string (bs (sub' x11 y17 (x11.length : Int)))))] _ rfl ⟨g22, ⟨rfl, trivial⟩, rfl⟩ ?_
          refine JO.done rfl ?_
          refine JS.endB ?_
          refine JS.region ?_
          refine JO.reg ttOk 3 [(W (x15 + 1))] [] [(7, .v (.int .i64 (W (x15 + 1))))] _ rfl ⟨⟨trivial, rfl⟩, ⟨rfl, trivial⟩, rfl⟩ ?_
          refine JO.done rfl ?_
          exact JS.endL (n25, (sub' x11 y17 (x11.length : Int)), (List.set x12 (Int.toNat x15) (sub' x11 0 y17)), (W (x15 + 1)), a13, c14) h (Nat.lt_succ_self _) ⟨rfl, rfl, (by simp only [List.length_set, List.length_replicate, pickO, getF]; rfl), rfl, trivial⟩ trivial [] rfl [0] (by simp only [List.length_set, List.length_replicate, pickO, getF]; rfl)
        · have h := condF h ht49
          refine JS.exit rfl ?_
          exact JS.endJ (x11, x12, a13, c14) h ⟨rfl, rfl, rfl, trivial⟩ trivial [] rfl [0] rfl
      · rintro ⟨x28, x29, a30, c31⟩ h
        subst hj53
        obtain ⟨j41, hj52, h⟩ := joinO_some h
        refine JS.seqJ (ι := List (List UInt8) × Option Addr × Nat) ⟨fun z => j41 z.1 = some r, fun z => [(6, .v (.slice z.2.1 z.1.length z.2.2))], fun z => .nil, fun z => [], fun z => [⟨.str, ⟨z.2.1, z.1.length, z.2.2⟩, z.1⟩], fun z => 0⟩ ?_ ?_
        · refine JS.seq ?_
          refine JS.region ?_
          refine JO.reg ttOk 2 [] [] [(43, .v (.bool (decide (0 < x6))))] _ rfl ⟨⟨rfl, trivial⟩, rfl⟩ ?_
          refine JO.done rfl ?_
          refine JS.cond rfl (fun ht51 => ?_) (fun ht51 => ?_)
          · have h := condT h ht51
            refine JS.region ?_
            refine JO.know 0 rfl fun hs50 => ?_
            obtain ⟨g36, h⟩ := guardO_some h
            refine JO.reg ttOk 5 [(W (x6 - 1))] [] [(47, .v (.string (bs x28))), (48, .ep ⟨a30, x29.length, c31⟩ (Int.toNat (W (x6 - 1)) * 1))] _ rfl ⟨⟨trivial, rfl⟩, hs50.ix g36, ⟨rfl, rfl, trivial⟩, rfl⟩ ?_
            refine JO.storeE ttOk rfl rfl rfl rfl rfl rfl rfl rfl rfl [0] (fs := []) rfl (Int.toNat (W (x6 - 1))) 0 (at' x29 (W (x6 - 1))) x28 ⟨at_some g36, rfl⟩ ⟨rfl, rfl, rfl⟩ ?_
            refine JO.done rfl ?_
            exact JS.endJ ((List.set x29 (Int.toNat (W (x6 - 1))) x28), a30, c31) h ⟨(by simp only [List.length_set, List.length_replicate, pickO, getF]; rfl), trivial⟩ trivial [] rfl [0] (by simp only [List.length_set, List.length_replicate, pickO, getF]; rfl)
          · have h := condF h ht51
            refine JS.skip ?_
            exact JS.endJ (x29, a30, c31) h ⟨rfl, trivial⟩ trivial [] rfl [0] rfl
        · rintro ⟨x38, a39, c40⟩ h
          subst hj52
          refine JS.seq ?_
          refine JS.region ?_
          refine JO.reg ttOk 2 [] [] [(4, .v (.slice a39 x38.length c40))] _ rfl ⟨⟨rfl, trivial⟩, rfl⟩ ?_
          refine JO.done rfl ?_
          cases h
          exact JS.ret ttOk (a39, c40) trivial rfl rfl [0] rfl

def M_internal_stringslite_IndexByte (x0 : List UInt8) (x1 : UInt8) : Option Int :=
  none

theorem ok_internal_stringslite_IndexByte (x0 : List UInt8) (x1 : UInt8) (r : Int) (h : M_internal_stringslite_IndexByte x0 x1 = some r) :
    FC Tryd.prog 27 [.string (bs x0), .int .u8 (x1.toNat : Int)] [] (fun _ : Unit => True) (fun _ => .int .i64 r) (fun _ => []) :=
  by
    refine FC.of (T := TTx) Tryd.call27 Tryd.func27 rfl rfl fun w0 => ?_
    unfold M_internal_stringslite_IndexByte at h
    refine JS.seq ?_
    refine JS.region ?_
    refine JO.reg ttOk 1 [] [] [] _ rfl ⟨trivial, rfl⟩ ?_
    refine JO.done rfl ?_
    refine JS.seq ?_
    cases h

def M_internal_bytealg_Cutover (x0 : Int) : Option Int :=
  some (W (Int.tdiv (W (x0 + 16)) 8))

theorem ok_internal_bytealg_Cutover (x0 : Int) (r : Int) (h : M_internal_bytealg_Cutover x0 = some r) :
    FC Tryd.prog 47 [.int .i64 x0] [] (fun _ : Unit => True) (fun _ => .int .i64 r) (fun _ => []) :=
  by
    refine FC.of (T := TTx) Tryd.call47 Tryd.func47 rfl rfl fun w0 => ?_
    unfold M_internal_bytealg_Cutover at h
    refine JS.seq ?_
    refine JS.region ?_
    refine JO.reg ttOk 1 [] [] [] _ rfl ⟨trivial, rfl⟩ ?_
    refine JO.done rfl ?_
    refine JS.seq ?_
    refine JS.region ?_
    have g2 : (8 : Int) ≠ 0 := by decide
    refine JO.reg ttOk 4 [(W (x0 + 16)), (W (Int.tdiv (W (x0 + 16)) 8))] [] [(2, .v (.int .i64 (W (Int.tdiv (W (x0 + 16)) 8))))] _ rfl ⟨⟨trivial, rfl⟩, ⟨g2, rfl⟩, ⟨rfl, trivial⟩, rfl⟩ ?_
    refine JO.done rfl ?_
    cases h
    exact JS.ret ttOk () trivial rfl rfl [] rfl

def M_internal_bytealg_hashStrstring_L1 (x0 : List UInt8) (j10 : Int → Option (Int × Int)) (k6 : (Int × Int) → Option (Int × Int)) : (Int × Int) → Option (Int × Int) := fun (x2, x3) =>
  (bif (decide (x3 < (x0.length : Int))) then
  (guardO (0 ≤ x3 ∧ x3 < (x0.length : Int)) <|
  k6 ((IntKind.u32.wrap ((IntKind.u32.wrap (x2 * 16777619)) + (IntKind.u32.wrap (((at' x0 x3).toNat : Int))))), (W (x3 + 1))))
  else
  j10 x2)

def M_internal_bytealg_hashStrstring_L2 (j28 : Int → Option (Int × Int)) (k22 : (Int × Int × Int) → Option (Int × Int)) : (Int × Int × Int) → Option (Int × Int) := fun (x12, x13, x14) =>
  (bif (decide (0 < x14)) then
  (joinO (fun (x16 : Int) =>
  k22 (x16, (IntKind.u32.wrap (x13 * x13)), (Int.fdiv x14 (2 ^ (min (Int.toNat 1) (IntKind.bits .i64)))))) fun j17 =>
  (bif (!(decide ((W (((BitVec.ofInt (IntKind.bits .i64) x14 &&& BitVec.ofInt (IntKind.bits .i64) 1).toNat : Int))) = 0))) then
  j17 (IntKind.u32.wrap (x12 * x13))
  else
  j17 x12))
  else
  j28 x12)

def M_internal_bytealg_hashStrstring (x0 : List UInt8) : Option (Int × Int) :=
  (joinO (fun (x9 : Int) =>
  (joinO (fun (x27 : Int) =>
  some (x9, x27)) fun j28 =>
  (fixF (M_internal_bytealg_hashStrstring_L2 j28) FUEL (1, 16777619, (x0.length : Int))))) fun j10 =>
  (fixF (M_internal_bytealg_hashStrstring_L1 x0 j10) FUEL (0, 0)))

theorem ok_internal_bytealg_hashStrstring (x0 : List UInt8) (r : Int × Int) (h : M_internal_bytealg_hashStrstring x0 = some r) :
    FC Tryd.prog 50 [.string (bs x0)] [] (fun _ : Unit => True) (fun _ => .tuple #[.int .u32 r.1, .int .u32 r.2]) (fun _ => []) :=
  by
    refine FC.of (T := TTx) Tryd.call50 Tryd.func50 rfl rfl fun w0 => ?_
    unfold M_internal_bytealg_hashStrstring at h
    refine JS.seq ?_
    refine JS.region ?_
    refine JO.reg ttOk 2 [] [] [] _ rfl ⟨trivial, rfl⟩ ?_
    refine JO.done rfl ?_
    refine JS.seq ?_
    refine JS.region ?_
    refine JO.reg ttOk 1 [] [] [(4, .v (.int .u32 0))] _ rfl ⟨⟨rfl, trivial⟩, rfl⟩ ?_
    refine JO.done rfl ?_
    refine JS.seq ?_
    refine JS.seq ?_
    refine JS.region ?_
    refine JO.reg ttOk 1 [] [] [(5, .v (.int .i64 0))] _ rfl ⟨⟨rfl, trivial⟩, rfl⟩ ?_
    refine JO.done rfl ?_
    obtain ⟨j10, hj39, h⟩ := joinO_some h
    refine JS.blockJ (ι := Int) ⟨fun z => j10 z = some r, fun z => [(0, .v (.string (bs x0))), (4, .v (.int .u32 z))], fun z => .nil, fun z => [], fun z => [], fun z => 0⟩ ?_ ?_
    · refine JS.loop (ι := Nat × Int × Int) ⟨fun z => fixF (M_internal_bytealg_hashStrstring_L1 x0 j10) z.1 (z.2.1, z.2.2) = some r, fun z => [(0, .v (.string (bs x0))), (4, .v (.int .u32 z.2.1)), (5, .v (.int .i64 z.2.2))], fun z => .nil, fun z => [], fun z => [], fun z => z.1⟩ (FUEL, 0, 0) h ⟨rfl, rfl, rfl, trivial⟩ trivial [] rfl [] rfl ?_
      rintro ⟨n7, x2, x3⟩ h
      obtain ⟨n7, rfl, h⟩ := fixF_some h
      rw [M_internal_bytealg_hashStrstring_L1] at h
      refine JS.seq ?_
      refine JS.seq ?_
      refine JS.region ?_
      refine JO.reg ttOk 4 [] [] [(12, .v (.bool (decide (x3 < (x0.length : Int)))))] _ rfl ⟨⟨rfl, trivial⟩, rfl⟩ ?_
      refine JO.done rfl ?_
      refine JS.cond rfl (fun ht34 => ?_) (fun ht34 => ?_)
      · have h := condT h ht34
        refine JS.skip ?_
        refine JS.seq ?_
        refine JS.block ?_
        refine JS.region ?_
        obtain ⟨g4, h⟩ := guardO_some h
        refine JO.reg ttOk 8 [(IntKind.u32.wrap (x2 * 16777619)), (IntKind.u32.wrap (((at' x0 x3).toNat : Int))), (IntKind.u32.wrap ((IntKind.u32.wrap (x2 * 16777619)) + (IntKind.u32.wrap (((at' x0 x3).toNat : Int)))))] [] [(4, .v (.int .u32 (IntKind.u32.wrap ((IntKind.u32.wrap (x2 * 16777619)) + (IntKind.u32.wrap (((at' x0 x3).toNat : Int)))))))] _ rfl ⟨⟨trivial, rfl⟩, g4, ⟨trivial, rfl⟩, ⟨trivial, rfl⟩, ⟨rfl, trivial⟩, rfl⟩ ?_
        refine JO.done rfl ?_
        refine JS.endB ?_
        refine JS.region ?_
        refine JO.reg ttOk 3 [(W (x3 + 1))] [] [(5, .v (.int .i64 (W (x3 + 1))))] _ rfl ⟨⟨trivial, rfl⟩, ⟨rfl, trivial⟩, rfl⟩ ?_
        refine JO.done rfl ?_
        exact JS.endL (n7, (IntKind.u32.wrap ((IntKind.u32.wrap (x2 * 16777619)) + (IntKind.u32.wrap (((at' x0 x3).toNat : Int))))), (W (x3 + 1))) h (Nat.lt_succ_self _) ⟨rfl, rfl, rfl, trivial⟩ trivial [] rfl [] rfl
      · have h := condF h ht34
        refine JS.exit rfl ?_
        exact JS.endJ x2 h ⟨rfl, rfl, trivial⟩ trivial [] rfl [] rfl
    · rintro x9 h
      subst hj39
      refine JS.seq ?_
      refine JS.region ?_
      refine JO.reg ttOk 2 [] [] [(6, .v (.int .u32 1)), (7, .v (.int .u32 16777619))] _ rfl ⟨⟨rfl, rfl, trivial⟩, rfl⟩ ?_
      refine JO.done rfl ?_
      refine JS.seq ?_
      refine JS.seq ?_
      refine JS.region ?_
      refine JO.reg ttOk 3 [] [] [(8, .v (.int .i64 (x0.length : Int)))] _ rfl ⟨⟨rfl, trivial⟩, rfl⟩ ?_
      refine JO.done rfl ?_
      obtain ⟨j28, hj38, h⟩ := joinO_some h
      refine JS.blockJ (ι := Int) ⟨fun z => j28 z = some r, fun z => [(4, .v (.int .u32 x9)), (6, .v (.int .u32 z))], fun z => .nil, fun z => [], fun z => [], fun z => 0⟩ ?_ ?_
      · refine JS.loop (ι := Nat × Int × Int × Int) ⟨fun z => fixF (M_internal_bytealg_hashStrstring_L2 j28) z.1 (z.2.1, z.2.2.1, z.2.2.2) = some r, fun z => [(4, .v (.int .u32 x9)), (6, .v (.int .u32 z.2.1)), (7, .v (.int .u32 z.2.2.1)), (8, .v (.int .i64 z.2.2.2))], fun z => .nil, fun z => [], fun z => [], fun z => z.1⟩ (FUEL, 1, 16777619, (x0.length : Int)) h ⟨rfl, rfl, rfl, rfl, trivial⟩ trivial [] rfl [] rfl ?_
        rintro ⟨n23, x12, x13, x14⟩ h
        obtain ⟨n23, rfl, h⟩ := fixF_some h
        rw [M_internal_bytealg_hashStrstring_L2] at h
        refine JS.seq ?_
        refine JS.seq ?_
        refine JS.region ?_
        refine JO.reg ttOk 2 [] [] [(25, .v (.bool (decide (0 < x14))))] _ rfl ⟨⟨rfl, trivial⟩, rfl⟩ ?_
        refine JO.done rfl ?_
        refine JS.cond rfl (fun ht37 => ?_) (fun ht37 => ?_)
        · have h := condT h ht37
          refine JS.skip ?_
          refine JS.seq ?_
          refine JS.block ?_
          obtain ⟨j17, hj36, h⟩ := joinO_some h
          refine JS.seqJ (ι := Int) ⟨fun z => j17 z = some r, fun z => [(4, .v (.int .u32 x9)), (6, .v (.int .u32 z)), (7, .v (.int .u32 x13)), (8, .v (.int .i64 x14))], fun z => .nil, fun z => [], fun z => [], fun z => 0⟩ ?_ ?_
          · refine JS.seq ?_
            refine JS.region ?_
            refine JO.reg ttOk 3 [(W (((BitVec.ofInt (IntKind.bits .i64) x14 &&& BitVec.ofInt (IntKind.bits .i64) 1).toNat : Int)))] [] [(30, .v (.bool (!(decide ((W (((BitVec.ofInt (IntKind.bits .i64) x14 &&& BitVec.ofInt (IntKind.bits .i64) 1).toNat : Int))) = 0)))))] _ rfl ⟨⟨trivial, rfl⟩, ⟨rfl, trivial⟩, rfl⟩ ?_
            refine JO.done rfl ?_
            refine JS.cond rfl (fun ht35 => ?_) (fun ht35 => ?_)
            · have h := condT h ht35
              refine JS.region ?_
              refine JO.reg ttOk 4 [(IntKind.u32.wrap (x12 * x13))] [] [(6, .v (.int .u32 (IntKind.u32.wrap (x12 * x13))))] _ rfl ⟨⟨trivial, rfl⟩, ⟨rfl, trivial⟩, rfl⟩ ?_
              refine JO.done rfl ?_
              exact JS.endJ (IntKind.u32.wrap (x12 * x13)) h ⟨rfl, rfl, rfl, rfl, trivial⟩ trivial [] rfl [] rfl
            · have h := condF h ht35
              refine JS.skip ?_
              exact JS.endJ x12 h ⟨rfl, rfl, rfl, rfl, trivial⟩ trivial [] rfl [] rfl
          · rintro x16 h
            subst hj36
            refine JS.region ?_
            refine JO.reg ttOk 4 [(IntKind.u32.wrap (x13 * x13))] [] [(7, .v (.int .u32 (IntKind.u32.wrap (x13 * x13))))] _ rfl ⟨⟨trivial, rfl⟩, ⟨rfl, trivial⟩, rfl⟩ ?_
            refine JO.done rfl ?_
            refine JS.endB ?_
            refine JS.region ?_
            have g19 : (0 : Int) ≤ 1 := by decide
            refine JO.reg ttOk 3 [] [] [(8, .v (.int .i64 (Int.fdiv x14 (2 ^ (min (Int.toNat 1) (IntKind.bits .i64))))))] _ rfl ⟨g19, ⟨rfl, trivial⟩, rfl⟩ ?_
            refine JO.done rfl ?_
            exact JS.endL (n23, x16, (IntKind.u32.wrap (x13 * x13)), (Int.fdiv x14 (2 ^ (min (Int.toNat 1) (IntKind.bits .i64))))) h (Nat.lt_succ_self _) ⟨rfl, rfl, rfl, rfl, trivial⟩ trivial [] rfl [] rfl
        · have h := condF h ht37
          refine JS.exit rfl ?_
          exact JS.endJ x12 h ⟨rfl, rfl, trivial⟩ trivial [] rfl [] rfl
      · rintro x27 h
        subst hj38
        refine JS.seq ?_
        refine JS.region ?_
        refine JO.reg ttOk 4 [] [] [(2, .v (.int .u32 x9)), (3, .v (.int .u32 x27))] _ rfl ⟨⟨rfl, rfl, trivial⟩, rfl⟩ ?_
        refine JO.done rfl ?_
        cases h
        exact JS.ret ttOk () trivial rfl rfl [] rfl

def M_internal_bytealg_IndexRabinKarpstring_L1 (x0 : List UInt8) (x1 : List UInt8) (j14 : Int → Option Int) (k10 : (Int × Int) → Option Int) : (Int × Int) → Option Int := fun (x6, x7) =>
  (bif (decide (x7 < (x1.length : Int))) then
  (guardO (0 ≤ x7 ∧ x7 < (x0.length : Int)) <|
  k10 ((IntKind.u32.wrap ((IntKind.u32.wrap (x6 * 16777619)) + (IntKind.u32.wrap (((at' x0 x7).toNat : Int))))), (W (x7 + 1))))
  else
  j14 x6)

def M_internal_bytealg_IndexRabinKarpstring_L2 (x0 : List UInt8) (x1 : List UInt8) (y3 : Int) (y4 : Int) (j33 : Unit → Option Int) (k27 : (Int × Int) → Option Int) : (Int × Int) → Option Int := fun (x18, x19) =>
  (bif (decide (x19 < (x0.length : Int))) then
  (guardO (0 ≤ x19 ∧ x19 < (x0.length : Int)) <|
  (guardO (0 ≤ (W (x19 - (x1.length : Int))) ∧ (W (x19 - (x1.length : Int))) < (x0.length : Int)) <|
  (guardO (((decide ((IntKind.u32.wrap ((IntKind.u32.wrap ((IntKind.u32.wrap (x18 * 16777619)) + (IntKind.u32.wrap (((at' x0 x19).toNat : Int))))) - (IntKind.u32.wrap (y4 * (IntKind.u32.wrap (((at' x0 (W (x19 - (x1.length : Int)))).toNat : Int))))))) = y3)) = true) → 0 ≤ (W ((W (x19 + 1)) - (x1.length : Int))) ∧ (W ((W (x19 + 1)) - (x1.length : Int))) ≤ (W (x19 + 1)) ∧ (W (x19 + 1)) ≤ (x0.length : Int)) <|
  (bif (bif (decide ((IntKind.u32.wrap ((IntKind.u32.wrap ((IntKind.u32.wrap (x18 * 16777619)) + (IntKind.u32.wrap (((at' x0 x19).toNat : Int))))) - (IntKind.u32.wrap (y4 * (IntKind.u32.wrap (((at' x0 (W (x19 - (x1.length : Int)))).toNat : Int))))))) = y3)) then (decide ((sub' x0 (W ((W (x19 + 1)) - (x1.length : Int))) (W (x19 + 1))) = x1)) else false) then
  some (W ((W (x19 + 1)) - (x1.length : Int)))
  else
  k27 ((IntKind.u32.wrap ((IntKind.u32.wrap ((IntKind.u32.wrap (x18 * 16777619)) + (IntKind.u32.wrap (((at' x0 x19).toNat : Int))))) - (IntKind.u32.wrap (y4 * (IntKind.u32.wrap (((at' x0 (W (x19 - (x1.length : Int)))).toNat : Int))))))), (W (x19 + 1)))))))
  else
  j33 ())

def M_internal_bytealg_IndexRabinKarpstring (x0 : List UInt8) (x1 : List UInt8) : Option Int :=
  (bindO (M_internal_bytealg_hashStrstring x1) fun (y3, y4) =>
  (joinO (fun (x13 : Int) =>
  (guardO (((decide (x13 = y3)) = true) → 0 ≤ (0 : Int) ∧ 0 ≤ (x1.length : Int) ∧ (x1.length : Int) ≤ (x0.length : Int)) <|
  (bif (bif (decide (x13 = y3)) then (decide ((sub' x0 0 (x1.length : Int)) = x1)) else false) then
  some 0
  else
  (joinO (fun (_ : Unit) =>
  some (-1)) fun j33 =>
  (fixF (M_internal_bytealg_IndexRabinKarpstring_L2 x0 x1 y3 y4 j33) FUEL (x13, (x1.length : Int))))))) fun j14 =>
  (fixF (M_internal_bytealg_IndexRabinKarpstring_L1 x0 x1 j14) FUEL (0, 0))))

theorem ok_internal_bytealg_IndexRabinKarpstring (x0 : List UInt8) (x1 : List UInt8) (r : Int) (h : M_internal_bytealg_IndexRabinKarpstring x0 x1 = some r) :
    FC Tryd.prog 49 [.string (bs x0), .string (bs x1)] [] (fun _ : Unit => True) (fun _ => .int .i64 r) (fun _ => []) :=
  by
    refine FC.of (T := TTx) Tryd.call49 Tryd.func49 rfl rfl fun w0 => ?_
    unfold M_internal_bytealg_IndexRabinKarpstring at h
    refine JS.seq ?_
    refine JS.region ?_
    refine JO.reg ttOk 1 [] [] [] _ rfl ⟨trivial, rfl⟩ ?_
    refine JO.done rfl ?_
    refine JS.seq ?_
    refine JS.region ?_
    refine JO.reg ttOk 1 [] [] [(12, .v (.string (bs x1)))] _ rfl ⟨⟨rfl, trivial⟩, rfl⟩ ?_
    obtain ⟨⟨y3, y4⟩, hy5, h⟩ := bindO_some h
    refine JO.call rfl rfl rfl rfl (ok_internal_bytealg_hashStrstring x1 _ hy5) rfl [] rfl rfl ?_
    intro _ _
    refine JO.reg ttOk 5 [] [] [(5, .v (.int .u32 y3)), (6, .v (.int .u32 y4))] _ rfl ⟨⟨rfl, rfl, trivial⟩, rfl⟩ ?_
    refine JO.done rfl ?_
    refine JS.seq ?_
    refine JS.region ?_
    refine JO.reg ttOk 3 [] [] [(7, .v (.int .i64 (x1.length : Int)))] _ rfl ⟨⟨rfl, trivial⟩, rfl⟩ ?_
    refine JO.done rfl ?_
    refine JS.seq ?_
    refine JS.region ?_
    refine JO.reg ttOk 1 [] [] [(8, .v (.int .u32 0))] _ rfl ⟨⟨rfl, trivial⟩, rfl⟩ ?_
    refine JO.done rfl ?_
    refine JS.seq ?_
    refine JS.seq ?_
    refine JS.region ?_
    refine JO.reg ttOk 1 [] [] [(9, .v (.int .i64 0))] _ rfl ⟨⟨rfl, trivial⟩, rfl⟩ ?_
    refine JO.done rfl ?_
    obtain ⟨j14, hj49, h⟩ := joinO_some h
    refine JS.blockJ (ι := Int) ⟨fun z => j14 z = some r, fun z => [(0, .v (.string (bs x0))), (1, .v (.string (bs x1))), (5, .v (.int .u32 y3)), (6, .v (.int .u32 y4)), (7, .v (.int .i64 (x1.length : Int))), (8, .v (.int .u32 z))], fun z => .nil, fun z => [], fun z => [], fun z => 0⟩ ?_ ?_
    · refine JS.loop (ι := Nat × Int × Int) ⟨fun z => fixF (M_internal_bytealg_IndexRabinKarpstring_L1 x0 x1 j14) z.1 (z.2.1, z.2.2) = some r, fun z => [(0, .v (.string (bs x0))), (1, .v (.string (bs x1))), (5, .v (.int .u32 y3)), (6, .v (.int .u32 y4)), (7, .v (.int .i64 (x1.length : Int))), (8, .v (.int .u32 z.2.1)), (9, .v (.int .i64 z.2.2))], fun z => .nil, fun z => [], fun z => [], fun z => z.1⟩ (FUEL, 0, 0) h ⟨rfl, rfl, rfl, rfl, rfl, rfl, rfl, trivial⟩ trivial [] rfl [] rfl ?_
      rintro ⟨n11, x6, x7⟩ h
      obtain ⟨n11, rfl, h⟩ := fixF_some h
      rw [M_internal_bytealg_IndexRabinKarpstring_L1] at h
      refine JS.seq ?_
      refine JS.seq ?_
      refine JS.region ?_
      refine JO.reg ttOk 3 [] [] [(20, .v (.bool (decide (x7 < (x1.length : Int)))))] _ rfl ⟨⟨rfl, trivial⟩, rfl⟩ ?_
      refine JO.done rfl ?_
      refine JS.cond rfl (fun ht41 => ?_) (fun ht41 => ?_)
      · have h := condT h ht41
        refine JS.skip ?_
        refine JS.seq ?_
        refine JS.block ?_
        refine JS.region ?_
        obtain ⟨g8, h⟩ := guardO_some h
        refine JO.reg ttOk 8 [(IntKind.u32.wrap (x6 * 16777619)), (IntKind.u32.wrap (((at' x0 x7).toNat : Int))), (IntKind.u32.wrap ((IntKind.u32.wrap (x6 * 16777619)) + (IntKind.u32.wrap (((at' x0 x7).toNat : Int)))))] [] [(8, .v (.int .u32 (IntKind.u32.wrap ((IntKind.u32.wrap (x6 * 16777619)) + (IntKind.u32.wrap (((at' x0 x7).toNat : Int)))))))] _ rfl ⟨⟨trivial, rfl⟩, g8, ⟨trivial, rfl⟩, ⟨trivial, rfl⟩, ⟨rfl, trivial⟩, rfl⟩ ?_
        refine JO.done rfl ?_
        refine JS.endB ?_
        refine JS.region ?_
        refine JO.reg ttOk 3 [(W (x7 + 1))] [] [(9, .v (.int .i64 (W (x7 + 1))))] _ rfl ⟨⟨trivial, rfl⟩, ⟨rfl, trivial⟩, rfl⟩ ?_
        refine JO.done rfl ?_
        exact JS.endL (n11, (IntKind.u32.wrap ((IntKind.u32.wrap (x6 * 16777619)) + (IntKind.u32.wrap (((at' x0 x7).toNat : Int))))), (W (x7 + 1))) h (Nat.lt_succ_self _) ⟨rfl, rfl, rfl, rfl, rfl, rfl, rfl, trivial⟩ trivial [] rfl [] rfl
      · have h := condF h ht41
        refine JS.exit rfl ?_
        exact JS.endJ x6 h ⟨rfl, rfl, rfl, rfl, rfl, rfl, trivial⟩ trivial [] rfl [] rfl
    · rintro x13 h
      subst hj49
      refine JS.seq ?_
      refine JS.seq ?_
      refine JS.region ?_
      obtain ⟨g16, h⟩ := guardO_some h
      refine JO.reg ttOk 10 [] [] [(39, .v (.bool (bif (decide (x13 = y3)) then (decide ((sub' x0 0 (x1.length : Int)) = x1)) else false)))] _ rfl ⟨(fun q42 => (g16 q42)), ⟨rfl, trivial⟩, rfl⟩ ?_
      refine JO.done rfl ?_
      refine JS.cond rfl (fun ht48 => ?_) (fun ht48 => ?_)
      · have h := condT h ht48
        refine JS.seq ?_
        refine JS.region ?_
        refine JO.reg ttOk 1 [] [] [(4, .v (.int .i64 0))] _ rfl ⟨⟨rfl, trivial⟩, rfl⟩ ?_
        refine JO.done rfl ?_
        cases h
        exact JS.ret ttOk () trivial rfl rfl [] rfl
      · have h := condF h ht48
        refine JS.skip ?_
        refine JS.seq ?_
        refine JS.seq ?_
        refine JS.region ?_
        refine JO.reg ttOk 2 [] [] [(10, .v (.int .i64 (x1.length : Int)))] _ rfl ⟨⟨rfl, trivial⟩, rfl⟩ ?_
        refine JO.done rfl ?_
        obtain ⟨j33, hj47, h⟩ := joinO_some h
        refine JS.blockJ (ι := Unit) ⟨fun _ => j33 () = some r, fun _ => [], fun _ => .nil, fun _ => [], fun _ => [], fun _ => 0⟩ ?_ ?_
        · refine JS.loop (ι := Nat × Int × Int) ⟨fun z => fixF (M_internal_bytealg_IndexRabinKarpstring_L2 x0 x1 y3 y4 j33) z.1 (z.2.1, z.2.2) = some r, fun z => [(0, .v (.string (bs x0))), (1, .v (.string (bs x1))), (5, .v (.int .u32 y3)), (6, .v (.int .u32 y4)), (7, .v (.int .i64 (x1.length : Int))), (8, .v (.int .u32 z.2.1)), (10, .v (.int .i64 z.2.2))], fun z => .nil, fun z => [], fun z => [], fun z => z.1⟩ (FUEL, x13, (x1.length : Int)) h ⟨rfl, rfl, rfl, rfl, rfl, rfl, rfl, trivial⟩ trivial [] rfl [] rfl ?_
          rintro ⟨n28, x18, x19⟩ h
          obtain ⟨n28, rfl, h⟩ := fixF_some h
          rw [M_internal_bytealg_IndexRabinKarpstring_L2] at h
          refine JS.seq ?_
          refine JS.seq ?_
          refine JS.region ?_
          refine JO.reg ttOk 4 [] [] [(44, .v (.bool (decide (x19 < (x0.length : Int)))))] _ rfl ⟨⟨rfl, trivial⟩, rfl⟩ ?_
          refine JO.done rfl ?_
          refine JS.cond rfl (fun ht46 => ?_) (fun ht46 => ?_)
          · have h := condT h ht46
            refine JS.skip ?_
            refine JS.block ?_
            refine JS.seq ?_
            refine JS.region ?_
            refine JO.reg ttOk 3 [(IntKind.u32.wrap (x18 * 16777619))] [] [(8, .v (.int .u32 (IntKind.u32.wrap (x18 * 16777619))))] _ rfl ⟨⟨trivial, rfl⟩, ⟨rfl, trivial⟩, rfl⟩ ?_
            refine JO.done rfl ?_
            refine JS.seq ?_
            refine JS.region ?_
            obtain ⟨g20, h⟩ := guardO_some h
            refine JO.reg ttOk 7 [(IntKind.u32.wrap (((at' x0 x19).toNat : Int))), (IntKind.u32.wrap ((IntKind.u32.wrap (x18 * 16777619)) + (IntKind.u32.wrap (((at' x0 x19).toNat : Int)))))] [] [(8, .v (.int .u32 (IntKind.u32.wrap ((IntKind.u32.wrap (x18 * 16777619)) + (IntKind.u32.wrap (((at' x0 x19).toNat : Int)))))))] _ rfl ⟨g20, ⟨trivial, rfl⟩, ⟨trivial, rfl⟩, ⟨rfl, trivial⟩, rfl⟩ ?_
            refine JO.done rfl ?_
            refine JS.seq ?_
            refine JS.region ?_
            obtain ⟨g21, h⟩ := guardO_some h
            refine JO.reg ttOk 11 [(W (x19 - (x1.length : Int))), (IntKind.u32.wrap (((at' x0 (W (x19 - (x1.length : Int)))).toNat : Int))), (IntKind.u32.wrap (y4 * (IntKind.u32.wrap (((at' x0 (W (x19 - (x1.length : Int)))).toNat : Int))))), (IntKind.u32.wrap ((IntKind.u32.wrap ((IntKind.u32.wrap (x18 * 16777619)) + (IntKind.u32.wrap (((at' x0 x19).toNat : Int))))) - (IntKind.u32.wrap (y4 * (IntKind.u32.wrap (((at' x0 (W (x19 - (x1.length : Int)))).toNat : Int)))))))] [] [(8, .v (.int .u32 (IntKind.u32.wrap ((IntKind.u32.wrap ((IntKind.u32.wrap (x18 * 16777619)) + (IntKind.u32.wrap (((at' x0 x19).toNat : Int))))) - (IntKind.u32.wrap (y4 * (IntKind.u32.wrap (((at' x0 (W (x19 - (x1.length : Int)))).toNat : Int)))))))))] _ rfl ⟨⟨trivial, rfl⟩, g21, ⟨trivial, rfl⟩, ⟨trivial, rfl⟩, ⟨trivial, rfl⟩, ⟨rfl, trivial⟩, rfl⟩ ?_
            refine JO.done rfl ?_
            refine JS.seq ?_
            refine JS.region ?_
            refine JO.reg ttOk 3 [(W (x19 + 1))] [] [(10, .v (.int .i64 (W (x19 + 1))))] _ rfl ⟨⟨trivial, rfl⟩, ⟨rfl, trivial⟩, rfl⟩ ?_
            refine JO.done rfl ?_
            refine JS.seq ?_
            refine JS.region ?_
            obtain ⟨g23, h⟩ := guardO_some h
            refine JO.reg ttOk 13 [(W ((W (x19 + 1)) - (x1.length : Int)))] [] [(77, .v (.bool (bif (decide ((IntKind.u32.wrap ((IntKind.u32.wrap ((IntKind.u32.wrap (x18 * 16777619)) + (IntKind.u32.wrap (((at' x0 x19).toNat : Int))))) - (IntKind.u32.wrap (y4 * (IntKind.u32.wrap (((at' x0 (W (x19 - (x1.length : Int)))).toNat : Int))))))) = y3)) then (decide ((sub' x0 (W ((W (x19 + 1)) - (x1.length : Int))) (W (x19 + 1))) = x1)) else false)))] _ rfl ⟨(fun q43 => ⟨trivial, rfl⟩), (fun q44 => (g23 q44)), ⟨rfl, trivial⟩, rfl⟩ ?_
            refine JO.done rfl ?_
            refine JS.cond rfl (fun ht45 => ?_) (fun ht45 => ?_)
            · have h := condT h ht45
              refine JS.seq ?_
              refine JS.region ?_
              refine JO.reg ttOk 4 [(W ((W (x19 + 1)) - (x1.length : Int)))] [] [(4, .v (.int .i64 (W ((W (x19 + 1)) - (x1.length : Int)))))] _ rfl ⟨⟨trivial, rfl⟩, ⟨rfl, trivial⟩, rfl⟩ ?_
              refine JO.done rfl ?_
              cases h
              exact JS.ret ttOk () trivial rfl rfl [] rfl
            · have h := condF h ht45
              refine JS.skip ?_
              refine JS.endB ?_
              exact JS.endL (n28, (IntKind.u32.wrap ((IntKind.u32.wrap ((IntKind.u32.wrap (x18 * 16777619)) + (IntKind.u32.wrap (((at' x0 x19).toNat : Int))))) - (IntKind.u32.wrap (y4 * (IntKind.u32.wrap (((at' x0 (W (x19 - (x1.length : Int)))).toNat : Int))))))), (W (x19 + 1))) h (Nat.lt_succ_self _) ⟨rfl, rfl, rfl, rfl, rfl, rfl, rfl, trivial⟩ trivial [] rfl [] rfl
          · have h := condF h ht46
            refine JS.exit rfl ?_
            exact JS.endJ () h trivial trivial [] rfl [] rfl
        · rintro _ h
          subst hj47
          refine JS.seq ?_
          refine JS.region ?_
          refine JO.reg ttOk 1 [] [] [(4, .v (.int .i64 (-1)))] _ rfl ⟨⟨rfl, trivial⟩, rfl⟩ ?_
          refine JO.done rfl ?_
          cases h
          exact JS.ret ttOk () trivial rfl rfl [] rfl

def M_internal_stringslite_Index (x0 : List UInt8) (x1 : List UInt8) : Option Int :=
  (bif (bif (decide ((x1.length : Int) = 0)) then true else (decide (x1 = x0))) then
  some 0
  else
  (bif (decide ((x1.length : Int) = 1)) then
  (guardO (0 ≤ (0 : Int) ∧ 0 < (x1.length : Int)) <|
  (bindO (M_internal_stringslite_IndexByte x0 (at' x1 0)) fun (y4 : Int) =>
  some y4))
  else
  (bif (decide ((x0.length : Int) ≤ (x1.length : Int))) then
  some (-1)
  else
  none)))

theorem ok_internal_stringslite_Index (x0 : List UInt8) (x1 : List UInt8) (r : Int) (h : M_internal_stringslite_Index x0 x1 = some r) :
    FC Tryd.prog 45 [.string (bs x0), .string (bs x1)] [] (fun _ : Unit => True) (fun _ => .int .i64 r) (fun _ => []) :=
  by
    refine FC.of (T := TTx) Tryd.call45 Tryd.func45 rfl rfl fun w0 => ?_
    unfold M_internal_stringslite_Index at h
    refine JS.seq ?_
    refine JS.region ?_
    refine JO.reg ttOk 1 [] [] [] _ rfl ⟨trivial, rfl⟩ ?_
    refine JO.done rfl ?_
    refine JS.seq ?_
    refine JS.region ?_
    refine JO.reg ttOk 3 [] [] [(5, .v (.int .i64 (x1.length : Int)))] _ rfl ⟨⟨rfl, trivial⟩, rfl⟩ ?_
    refine JO.done rfl ?_
    refine JS.seq ?_
    refine JS.block ?_
    refine JS.seq ?_
    refine JS.region ?_
    refine JO.reg ttOk 8 [] [] [(16, .v (.bool (bif (decide ((x1.length : Int) = 0)) then true else (decide (x1 = x0)))))] _ rfl ⟨⟨rfl, trivial⟩, rfl⟩ ?_
    refine JO.done rfl ?_
    refine JS.cond rfl (fun ht11 => ?_) (fun ht11 => ?_)
    · have h := condT h ht11
      refine JS.seq ?_
      refine JS.region ?_
      refine JO.reg ttOk 1 [] [] [(4, .v (.int .i64 0))] _ rfl ⟨⟨rfl, trivial⟩, rfl⟩ ?_
      refine JO.done rfl ?_
      cases h
      exact JS.ret ttOk () trivial rfl rfl [] rfl
    · have h := condF h ht11
      refine JS.seq ?_
      refine JS.region ?_
      refine JO.reg ttOk 3 [] [] [(24, .v (.bool (decide ((x1.length : Int) = 1))))] _ rfl ⟨⟨rfl, trivial⟩, rfl⟩ ?_
      refine JO.done rfl ?_
      refine JS.cond rfl (fun ht10 => ?_) (fun ht10 => ?_)
      · have h := condT h ht10
        refine JS.seq ?_
        refine JS.region ?_
        obtain ⟨g3, h⟩ := guardO_some h
        refine JO.reg ttOk 3 [] [] [(27, .v (.string (bs x0))), (29, .v (.int .u8 ((at' x1 0).toNat : Int)))] _ rfl ⟨g3, ⟨rfl, rfl, trivial⟩, rfl⟩ ?_
        obtain ⟨y4, hy5, h⟩ := bindO_some h
        refine JO.call rfl rfl rfl rfl (ok_internal_stringslite_IndexByte x0 (at' x1 0) _ hy5) rfl [] rfl rfl ?_
        intro _ _
        refine JO.reg ttOk 1 [] [] [(4, .v (.int .i64 y4))] _ rfl ⟨⟨rfl, trivial⟩, rfl⟩ ?_
        refine JO.done rfl ?_
        cases h
        exact JS.ret ttOk () trivial rfl rfl [] rfl
      · have h := condF h ht10
        refine JS.seq ?_
        refine JS.region ?_
        refine JO.reg ttOk 5 [] [] [(31, .v (.bool (decide ((x0.length : Int) ≤ (x1.length : Int)))))] _ rfl ⟨⟨rfl, trivial⟩, rfl⟩ ?_
        refine JO.done rfl ?_
        refine JS.cond rfl (fun ht9 => ?_) (fun ht9 => ?_)
        · have h := condT h ht9
          refine JS.seq ?_
          refine JS.region ?_
          refine JO.reg ttOk 1 [] [] [(4, .v (.int .i64 (-1)))] _ rfl ⟨⟨rfl, trivial⟩, rfl⟩ ?_
          refine JO.done rfl ?_
          cases h
          exact JS.ret ttOk () trivial rfl rfl [] rfl
        · have h := condF h ht9
          refine JS.seq ?_
          cases h

def M_strings_Index (x0 : List UInt8) (x1 : List UInt8) : Option Int := match x1 with
  | [c] => some (Lib.indexByte x0 c)
  | _ => none

theorem ok_strings_Index (x0 : List UInt8) (x1 : List UInt8) (r : Int) (h : M_strings_Index x0 x1 = some r) : FV Tryd.prog 40 [.string (bs x0), .string (bs x1)] [] (.int .i64 r) := by
  match x1, h with
  | [c], h =>
    cases h
    refine FV.of_calls Tryd.call40 fun w => ?_
    exact Tryd.strings_Index_one (bs x0) c w
  | [], h => cases h
  | _ :: _ :: _, h => cases h

def M_strings_Count (x0 : List UInt8) (x1 : List UInt8) : Option Int := match x1 with
  | [c] => some (Lib.countByte x0 c : Int)
  | _ => none

theorem ok_strings_Count (x0 : List UInt8) (x1 : List UInt8) (r : Int) (h : M_strings_Count x0 x1 = some r) : FV Tryd.prog 39 [.string (bs x0), .string (bs x1)] [] (.int .i64 r) := by
  match x1, h with
  | [c], h =>
    cases h
    refine FV.of_calls Tryd.call39 fun w => ?_
    exact Tryd.strings_Count_one (bs x0) c w
  | [], h => cases h
  | _ :: _ :: _, h => cases h

def M_strings_genSplit_L1 (x0 : List UInt8) (x1 : List UInt8) (x2 : Int) (x12 : Int) (j40 : (List UInt8 × List (List UInt8) × Int) → Option (List (List UInt8))) (k30 : (List UInt8 × List (List UInt8) × Int) → Option (List (List UInt8))) : (List UInt8 × List (List UInt8) × Int) → Option (List (List UInt8)) := fun (x17, x18, x21) =>
  (bif (decide (x21 < (W ((min x12 (W ((x0.length : Int) + 1))) - 1)))) then
  (bindO (M_strings_Index x17 x1) fun (y22 : Int) =>
  (bif (decide (y22 < 0)) then
  j40 (x17, x18, x21)
  else
  (guardO (0 ≤ (0 : Int) ∧ 0 ≤ (W (y22 + x2)) ∧ (W (y22 + x2)) ≤ (x17.length : Int)) <|
  (guardO (0 ≤ x21 ∧ x21 < (x18.length : Int)) <|
  (guardO (0 ≤ (W (y22 + (x1.length : Int))) ∧ (W (y22 + (x1.length : Int))) ≤ (x17.length : Int) ∧ (x17.length : Int) ≤ (x17.length : Int)) <|
  k30 ((sub' x17 (W (y22 + (x1.length : Int))) (x17.length : Int)), (List.set x18 (Int.toNat x21) (sub' x17 0 (W (y22 + x2)))), (W (x21 + 1))))))))
  else
  j40 (x17, x18, x21))

def M_strings_genSplit (x0 : List UInt8) (x1 : List UInt8) (x2 : Int) (x3 : Int) : Option (List (List UInt8)) :=
  (bif (decide (x3 = 0)) then
  some ([])
  else
  (bif (decide (x1 = [])) then
  (bindO (M_strings_explode x0 x3) fun (y5 : List (List UInt8)) =>
  some y5)
  else
  (joinO (fun (x12 : Int) =>
  (guardO (0 ≤ (min x12 (W ((x0.length : Int) + 1))) ∧ (min x12 (W ((x0.length : Int) + 1))) ≤ 536870912) <|
  (joinO (fun ((x35, x36, x39) : List UInt8 × List (List UInt8) × Int) =>
  (guardO (0 ≤ x39 ∧ x39 < (x36.length : Int)) <|
  (guardO (0 ≤ (0 : Int) ∧ (0 : Int) ≤ (W (x39 + 1)) ∧ (W (x39 + 1)) ≤ ((List.set x36 (Int.toNat x39) x35).length : Int)) <|
  some (sub' (List.set x36 (Int.toNat x39) x35) 0 (W (x39 + 1)))))) fun j40 =>
  (fixF (M_strings_genSplit_L1 x0 x1 x2 x12 j40) FUEL (x0, (List.replicate (Int.toNat (min x12 (W ((x0.length : Int) + 1)))) []), 0))))) fun j13 =>
  (bif (decide (x3 < 0)) then
  (bindO (M_strings_Count x0 x1) fun (y9 : Int) =>
  j13 (W (y9 + 1)))
  else
  j13 x3))))

theorem ok_strings_genSplit (x0 : List UInt8) (x1 : List UInt8) (x2 : Int) (x3 : Int) (r : List (List UInt8)) (h : M_strings_genSplit x0 x1 x2 x3 = some r) :
    FC Tryd.prog 32 [.string (bs x0), .string (bs x1), .int .i64 x2, .int .i64 x3] [] (fun _ : Option Addr × Nat => True) (fun q => .slice q.1 r.length q.2) (fun q => [⟨.str, ⟨q.1, r.length, q.2⟩, r⟩]) :=
  by
    refine FC.of (T := TTx) Tryd.call32 Tryd.func32 rfl rfl fun w0 => ?_
    unfold M_strings_genSplit at h
    refine JS.seq ?_
    refine JS.region ?_
    refine JO.reg ttOk 1 [] [] [] _ rfl ⟨trivial, rfl⟩ ?_
    refine JO.done rfl ?_
    refine JS.seq ?_
    refine JS.seq ?_
    refine JS.region ?_
    refine JO.reg ttOk 2 [] [] [(13, .v (.bool (decide (x3 = 0))))] _ rfl ⟨⟨rfl, trivial⟩, rfl⟩ ?_
    refine JO.done rfl ?_
    refine JS.cond rfl (fun ht61 => ?_) (fun ht61 => ?_)
    · have h := condT h ht61
      refine JS.seq ?_
      refine JS.region ?_
      refine JO.reg ttOk 1 [] [] [(8, .v (.slice none 0 0))] _ rfl ⟨⟨rfl, trivial⟩, rfl⟩ ?_
      refine JO.done rfl ?_
      cases h
      refine JS.nilO .str Sl.nil rfl rfl ?_
      exact JS.ret ttOk (none, 0) trivial rfl rfl [0] rfl
    · have h := condF h ht61
      refine JS.skip ?_
      refine JS.seq ?_
      refine JS.seq ?_
      refine JS.region ?_
      refine JO.reg ttOk 2 [] [] [(15, .v (.bool (decide (x1 = []))))] _ rfl ⟨⟨rfl, trivial⟩, rfl⟩ ?_
      refine JO.done rfl ?_
      refine JS.cond rfl (fun ht60 => ?_) (fun ht60 => ?_)
      · have h := condT h ht60
        refine JS.seq ?_
        refine JS.region ?_
        refine JO.reg ttOk 2 [] [] [(16, .v (.string (bs x0))), (17, .v (.int .i64 x3))] _ rfl ⟨⟨rfl, rfl, trivial⟩, rfl⟩ ?_
        obtain ⟨y5, hy6, h⟩ := bindO_some h
        refine JO.call rfl rfl rfl rfl (ok_strings_explode x0 x3 _ hy6) rfl [] rfl rfl ?_
        rintro ⟨a7, c8⟩ -
        refine JO.reg ttOk 1 [] [] [(8, .v (.slice a7 y5.length c8))] _ rfl ⟨⟨rfl, trivial⟩, rfl⟩ ?_
        refine JO.done rfl ?_
        cases h
        exact JS.ret ttOk (a7, c8) trivial rfl rfl [0] rfl
      · have h := condF h ht60
        refine JS.skip ?_
        obtain ⟨j13, hj59, h⟩ := joinO_some h
        refine JS.seqJ (ι := Int) ⟨fun z => j13 z = some r, fun z => [(0, .v (.string (bs x0))), (1, .v (.string (bs x1))), (2, .v (.int .i64 x2)), (3, .v (.int .i64 z))], fun z => .nil, fun z => [], fun z => [], fun z => 0⟩ ?_ ?_
        · refine JS.seq ?_
          refine JS.region ?_
          refine JO.reg ttOk 2 [] [] [(20, .v (.bool (decide (x3 < 0))))] _ rfl ⟨⟨rfl, trivial⟩, rfl⟩ ?_
          refine JO.done rfl ?_
          refine JS.cond rfl (fun ht53 => ?_) (fun ht53 => ?_)
          · have h := condT h ht53
            refine JS.region ?_
            refine JO.reg ttOk 2 [] [] [(21, .v (.string (bs x0))), (22, .v (.string (bs x1)))] _ rfl ⟨⟨rfl, rfl, trivial⟩, rfl⟩ ?_
            obtain ⟨y9, hy10, h⟩ := bindO_some h
            refine JO.call rfl rfl rfl rfl (ok_strings_Count x0 x1 _ hy10) rfl [] rfl rfl ?_
            intro _ _
            refine JO.reg ttOk 2 [(W (y9 + 1))] [] [(3, .v (.int .i64 (W (y9 + 1))))] _ rfl ⟨⟨trivial, rfl⟩, ⟨rfl, trivial⟩, rfl⟩ ?_
            refine JO.done rfl ?_
            exact JS.endJ (W (y9 + 1)) h ⟨rfl, rfl, rfl, rfl, trivial⟩ trivial [] rfl [] rfl
          · have h := condF h ht53
            refine JS.skip ?_
            exact JS.endJ x3 h ⟨rfl, rfl, rfl, rfl, trivial⟩ trivial [] rfl [] rfl
        · rintro x12 h
          subst hj59
          refine JS.seq ?_
          refine JS.region ?_
          refine JO.reg ttOk 6 [(W ((x0.length : Int) + 1))] [] [(3, .v (.int .i64 (min x12 (W ((x0.length : Int) + 1)))))] _ rfl ⟨⟨trivial, rfl⟩, ⟨rfl, trivial⟩, rfl⟩ ?_
          refine JO.done rfl ?_
          refine JS.seq ?_
          refine JS.region ?_
          refine JO.reg ttOk 1 [] [] [(30, .v (.int .i64 (min x12 (W ((x0.length : Int) + 1)))))] _ rfl ⟨⟨rfl, trivial⟩, rfl⟩ ?_
          obtain ⟨g15, h⟩ := guardO_some h
          refine JO.makeSlice ttOk rfl rfl rfl rfl rfl rfl rfl rfl (Int.toNat (min x12 (W ((x0.length : Int) + 1)))) (Int.toNat_of_nonneg g15.1).symm (by omega) .str rfl rfl rfl rfl rfl ?_
          intro a16
          refine JO.reg ttOk 1 [] [] [(9, .v (.slice a16 (Int.toNat (min x12 (W ((x0.length : Int) + 1)))) (Int.toNat (min x12 (W ((x0.length : Int) + 1))))))] _ rfl ⟨⟨rfl, trivial⟩, rfl⟩ ?_
          refine JO.done rfl ?_
          refine JS.seq ?_
          refine JS.region ?_
          refine JO.reg ttOk 3 [(W ((min x12 (W ((x0.length : Int) + 1))) - 1))] [] [(3, .v (.int .i64 (W ((min x12 (W ((x0.length : Int) + 1))) - 1))))] _ rfl ⟨⟨trivial, rfl⟩, ⟨rfl, trivial⟩, rfl⟩ ?_
          refine JO.done rfl ?_
          refine JS.seq ?_
          refine JS.region ?_
          refine JO.reg ttOk 1 [] [] [(10, .v (.int .i64 0))] _ rfl ⟨⟨rfl, trivial⟩, rfl⟩ ?_
          refine JO.done rfl ?_
          refine JS.seq ?_
          obtain ⟨j40, hj58, h⟩ := joinO_some h
          refine JS.blockJ (ι := List UInt8 × List (List UInt8) × Int × Option Addr × Nat) ⟨fun z => j40 (z.1, z.2.1, z.2.2.1) = some r, fun z => [(0, .v (.string (bs z.1))), (9, .v (.slice z.2.2.2.1 z.2.1.length z.2.2.2.2)), (10, .v (.int .i64 z.2.2.1))], fun z => .nil, fun z => [], fun z => [⟨.str, ⟨z.2.2.2.1, z.2.1.length, z.2.2.2.2⟩, z.2.1⟩], fun z => 0⟩ ?_ ?_
          · refine JS.loop (ι := Nat × List UInt8 × List (List UInt8) × Int × Option Addr × Nat) ⟨fun z => fixF (M_strings_genSplit_L1 x0 x1 x2 x12 j40) z.1 (z.2.1, z.2.2.1, z.2.2.2.1) = some r, fun z => [(0, .v (.string (bs z.2.1))), (1, .v (.string (bs x1))), (2, .v (.int .i64 x2)), (3, .v (.int .i64 (W ((min x12 (W ((x0.length : Int) + 1))) - 1)))), (9, .v (.slice z.2.2.2.2.1 z.2.2.1.length z.2.2.2.2.2)), (10, .v (.int .i64 z.2.2.2.1))], fun z => .nil, fun z => [], fun z => [⟨.str, ⟨z.2.2.2.2.1, z.2.2.1.length, z.2.2.2.2.2⟩, z.2.2.1⟩], fun z => z.1⟩ (FUEL, x0, (List.replicate (Int.toNat (min x12 (W ((x0.length : Int) + 1)))) []), 0, a16, (Int.toNat (min x12 (W ((x0.length : Int) + 1))))) h ⟨rfl, rfl, rfl, rfl, (by simp only [List.length_set, List.length_replicate, pickO, getF]; rfl), rfl, trivial⟩ trivial [] rfl [0] (by simp only [List.length_set, List.length_replicate, pickO, getF]; rfl) ?_
            rintro ⟨n31, x17, x18, x21, a19, c20⟩ h
            obtain ⟨n31, rfl, h⟩ := fixF_some h
            rw [M_strings_genSplit_L1] at h
            refine JS.seq ?_
            refine JS.seq ?_
            refine JS.region ?_
            refine JO.reg ttOk 3 [] [] [(36, .v (.bool (decide (x21 < (W ((min x12 (W ((x0.length : Int) + 1))) - 1))))))] _ rfl ⟨⟨rfl, trivial⟩, rfl⟩ ?_
            refine JO.done rfl ?_
            refine JS.cond rfl (fun ht56 => ?_) (fun ht56 => ?_)
            · have h := condT h ht56
              refine JS.skip ?_
              refine JS.block ?_
              refine JS.seq ?_
              refine JS.region ?_
              refine JO.reg ttOk 2 [] [] [(37, .v (.string (bs x17))), (38, .v (.string (bs x1)))] _ rfl ⟨⟨rfl, rfl, trivial⟩, rfl⟩ ?_
              obtain ⟨y22, hy23, h⟩ := bindO_some h
              refine JO.call rfl rfl rfl rfl (ok_strings_Index x17 x1 _ hy23) rfl [] rfl rfl ?_
              intro _ _
              refine JO.reg ttOk 1 [] [] [(11, .v (.int .i64 y22))] _ rfl ⟨⟨rfl, trivial⟩, rfl⟩ ?_
              refine JO.done rfl ?_
              refine JS.seq ?_
              refine JS.seq ?_
              refine JS.region ?_
              refine JO.reg ttOk 2 [] [] [(41, .v (.bool (decide (y22 < 0))))] _ rfl ⟨⟨rfl, trivial⟩, rfl⟩ ?_
              refine JO.done rfl ?_
              refine JS.cond rfl (fun ht55 => ?_) (fun ht55 => ?_)
              · have h := condT h ht55
                refine JS.exit rfl ?_
                exact JS.endJ (x17, x18, x21, a19, c20) h ⟨rfl, rfl, rfl, trivial⟩ trivial [] rfl [0] rfl
              · have h := condF h ht55
                refine JS.skip ?_
                refine JS.seq ?_
                refine JS.region ?_
                obtain ⟨g24, h⟩ := guardO_some h
                refine JO.know 0 rfl fun hs54 => ?_
                obtain ⟨g26, h⟩ := guardO_some h
                refine JO.reg ttOk 8 [(W (y22 + x2))] [] [(48, .v (.string (bs (sub' x17 0 (W (y22 + x2)))))), (49, .ep ⟨a19, x18.length, c20⟩ (Int.toNat x21 * 1))] _ rfl ⟨⟨trivial, rfl⟩, g24, hs54.ix g26, ⟨rfl, rfl, trivial⟩, rfl⟩ ?_
                refine JO.storeE ttOk rfl rfl rfl rfl rfl rfl rfl rfl rfl [0] (fs := []) rfl (Int.toNat x21) 0 (at' x18 x21) (sub' x17 0 (W (y22 + x2))) ⟨at_some g26, rfl⟩ ⟨rfl, rfl, rfl⟩ ?_
                refine JO.done rfl ?_
                refine JS.seq ?_
                refine JS.region ?_
                obtain ⟨g27, h⟩ := guardO_some h
                refine JO.reg ttOk 7 [(W (y22 + (x1.length : Int)))] [] [(0, .v (.string (bs (sub' x17 (W (y22 + (x1.length : Int))) (x17.length : Int)))))] _ rfl ⟨⟨trivial, rfl⟩, g27, ⟨rfl, trivial⟩, rfl⟩ ?_
                refine JO.done rfl ?_
                refine JS.region ?_
                refine JO.reg ttOk 3 [(W (x21 + 1))] [] [(10, .v (.int .i64 (W (x21 + 1))))] _ rfl ⟨⟨trivial, rfl⟩, ⟨rfl, trivial⟩, rfl⟩ ?_
                refine JO.done rfl ?_
                refine JS.endB ?_
                exact JS.endL (n31, (sub' x17 (W (y22 + (x1.length : Int))) (x17.length : Int)), (List.set x18 (Int.toNat x21) (sub' x17 0 (W (y22 + x2)))), (W (x21 + 1)), a19, c20) h (Nat.lt_succ_self _) ⟨rfl, rfl, rfl, rfl, (by simp only [List.length_set, List.length_replicate, pickO, getF]; rfl), rfl, trivial⟩ trivial [] rfl [0] (by simp only [List.length_set, List.length_replicate, pickO, getF]; rfl)
            · have h := condF h ht56
              refine JS.exit rfl ?_
              exact JS.endJ (x17, x18, x21, a19, c20) h ⟨rfl, rfl, rfl, trivial⟩ trivial [] rfl [0] rfl
          · rintro ⟨x35, x36, x39, a37, c38⟩ h
            subst hj58
            refine JS.seq ?_
            refine JS.region ?_
            refine JO.know 0 rfl fun hs57 => ?_
            obtain ⟨g45, h⟩ := guardO_some h
            refine JO.reg ttOk 4 [] [] [(60, .v (.string (bs x35))), (61, .ep ⟨a37, x36.length, c38⟩ (Int.toNat x39 * 1))] _ rfl ⟨hs57.ix g45, ⟨rfl, rfl, trivial⟩, rfl⟩ ?_
            refine JO.storeE ttOk rfl rfl rfl rfl rfl rfl rfl rfl rfl [0] (fs := []) rfl (Int.toNat x39) 0 (at' x36 x39) x35 ⟨at_some g45, rfl⟩ ⟨rfl, rfl, rfl⟩ ?_
            refine JO.done rfl ?_
            refine JS.seq ?_
            refine JS.region ?_
            refine JO.reg ttOk 3 [(W (x39 + 1))] [] [(62, .v (.slice a37 x36.length c38)), (64, .v (.int .i64 (W (x39 + 1))))] _ rfl ⟨⟨trivial, rfl⟩, ⟨rfl, rfl, trivial⟩, rfl⟩ ?_
            obtain ⟨g46, h⟩ := guardO_some h
            refine JO.sliceO' ttOk rfl rfl rfl rfl rfl rfl rfl rfl [0] rfl (0 : Int) (W (x39 + 1)) rfl rfl g46 rfl ?_
            intro a47 c48
            refine JO.reg ttOk 1 [] [] [(8, .v (.slice a47 (sub' (List.set x36 (Int.toNat x39) x35) 0 (W (x39 + 1))).length c48))] _ rfl ⟨⟨rfl, trivial⟩, rfl⟩ ?_
            refine JO.done rfl ?_
            cases h
            exact JS.ret ttOk (a47, c48) trivial rfl rfl [0] rfl

def M_strings_Split (x0 : List UInt8) (x1 : List UInt8) : Option (List (List UInt8)) :=
  (bindO (M_strings_genSplit x0 x1 0 (-1)) fun (y3 : List (List UInt8)) =>
  some y3)

theorem ok_strings_Split (x0 : List UInt8) (x1 : List UInt8) (r : List (List UInt8)) (h : M_strings_Split x0 x1 = some r) :
    FC Tryd.prog 25 [.string (bs x0), .string (bs x1)] [] (fun _ : Option Addr × Nat => True) (fun q => .slice q.1 r.length q.2) (fun q => [⟨.str, ⟨q.1, r.length, q.2⟩, r⟩]) :=
  by
    refine FC.of (T := TTx) Tryd.call25 Tryd.func25 rfl rfl fun w0 => ?_
    unfold M_strings_Split at h
    refine JS.seq ?_
    refine JS.region ?_
    refine JO.reg ttOk 1 [] [] [] _ rfl ⟨trivial, rfl⟩ ?_
    refine JO.done rfl ?_
    refine JS.seq ?_
    refine JS.region ?_
    refine JO.reg ttOk 2 [] [] [(5, .v (.string (bs x0))), (6, .v (.string (bs x1)))] _ rfl ⟨⟨rfl, rfl, trivial⟩, rfl⟩ ?_
    obtain ⟨y3, hy4, h⟩ := bindO_some h
    refine JO.call rfl rfl rfl rfl (ok_strings_genSplit x0 x1 0 (-1) _ hy4) rfl [] rfl rfl ?_
    rintro ⟨a5, c6⟩ -
    refine JO.reg ttOk 1 [] [] [(4, .v (.slice a5 y3.length c6))] _ rfl ⟨⟨rfl, trivial⟩, rfl⟩ ?_
    refine JO.done rfl ?_
    cases h
    exact JS.ret ttOk (a5, c6) trivial rfl rfl [0] rfl

def M_internal_stringslite_HasPrefix (x0 : List UInt8) (x1 : List UInt8) : Option Bool :=
  (guardO (((decide ((x1.length : Int) ≤ (x0.length : Int))) = true) → 0 ≤ (0 : Int) ∧ 0 ≤ (x1.length : Int) ∧ (x1.length : Int) ≤ (x0.length : Int)) <|
  some (bif (decide ((x1.length : Int) ≤ (x0.length : Int))) then (decide ((sub' x0 0 (x1.length : Int)) = x1)) else false))

theorem ok_internal_stringslite_HasPrefix (x0 : List UInt8) (x1 : List UInt8) (r : Bool) (h : M_internal_stringslite_HasPrefix x0 x1 = some r) :
    FC Tryd.prog 33 [.string (bs x0), .string (bs x1)] [] (fun _ : Unit => True) (fun _ => .bool r) (fun _ => []) :=
  by
    refine FC.of (T := TTx) Tryd.call33 Tryd.func33 rfl rfl fun w0 => ?_
    unfold M_internal_stringslite_HasPrefix at h
    refine JS.seq ?_
    refine JS.region ?_
    refine JO.reg ttOk 1 [] [] [] _ rfl ⟨trivial, rfl⟩ ?_
    refine JO.done rfl ?_
    refine JS.seq ?_
    refine JS.region ?_
    obtain ⟨g3, h⟩ := guardO_some h
    refine JO.reg ttOk 14 [] [] [(4, .v (.bool (bif (decide ((x1.length : Int) ≤ (x0.length : Int))) then (decide ((sub' x0 0 (x1.length : Int)) = x1)) else false)))] _ rfl ⟨(fun q5 => (g3 q5)), ⟨rfl, trivial⟩, rfl⟩ ?_
    refine JO.done rfl ?_
    cases h
    exact JS.ret ttOk () trivial rfl rfl [] rfl

def M_strings_HasPrefix (x0 : List UInt8) (x1 : List UInt8) : Option Bool := some (Lib.hasPrefix x0 x1)

theorem ok_strings_HasPrefix (x0 : List UInt8) (x1 : List UInt8) (r : Bool) (h : M_strings_HasPrefix x0 x1 = some r) : FV Tryd.prog 26 [.string (bs x0), .string (bs x1)] [] (.bool r) := by
  cases h
  refine FV.of_calls Tryd.call26 fun w => ?_
  exact Tryd.strings_HasPrefix (bs x0) (bs x1) w

def M_i_OpAt_L1 (x0 : List UInt8) (x1 : Int) (y3 : List (List UInt8)) (j26 : Unit → Option (List UInt8)) (k21 : Int → Option (List UInt8)) : Int → Option (List UInt8) := fun x10 =>
  (bif (decide (x10 < (y3.length : Int))) then
  (guardO (0 ≤ x10 ∧ x10 < (y3.length : Int)) <|
  (guardO (0 ≤ x1 ∧ x1 ≤ (x0.length : Int) ∧ (x0.length : Int) ≤ (x0.length : Int)) <|
  (bindO (M_strings_HasPrefix (sub' x0 x1 (x0.length : Int)) (at' y3 x10)) fun (y14 : Bool) =>
  (bif y14 then
  some (at' y3 x10)
  else
  k21 (W (x10 + 1))))))
  else
  j26 ())

def M_i_OpAt (x0 : List UInt8) (x1 : Int) : Option (List UInt8) :=
  (bif (bif (decide (x1 < 0)) then true else (decide ((x0.length : Int) ≤ x1))) then
  some ([])
  else
  (bindO (M_strings_Split ([60, 60, 45, 32, 38, 38, 32, 124, 124, 32, 59, 59, 32, 60, 60, 32, 60, 38, 32, 60, 62, 32, 62, 62, 32, 62, 38, 32, 62, 124, 32, 38, 32, 124, 32, 59, 32, 60, 32, 62, 32, 40, 32, 41]) ([32])) fun (y3 : List (List UInt8)) =>
  (joinO (fun (_ : Unit) =>
  some ([])) fun j26 =>
  (fixF (M_i_OpAt_L1 x0 x1 y3 j26) FUEL 0))))

theorem ok_i_OpAt (x0 : List UInt8) (x1 : Int) (r : List UInt8) (h : M_i_OpAt x0 x1 = some r) :
    FC Tryd.prog 17 [.string (bs x0), .int .i64 x1] [] (fun _ : Unit => True) (fun _ => .string (bs r)) (fun _ => []) :=
  by
    refine FC.of (T := TTx) Tryd.call17 Tryd.func17 rfl rfl fun w0 => ?_
    unfold M_i_OpAt at h
    refine JS.seq ?_
    refine JS.region ?_
    refine JO.reg ttOk 1 [] [] [] _ rfl ⟨trivial, rfl⟩ ?_
    refine JO.done rfl ?_
    refine JS.seq ?_
    refine JS.seq ?_
    refine JS.region ?_
    refine JO.reg ttOk 8 [] [] [(14, .v (.bool (bif (decide (x1 < 0)) then true else (decide ((x0.length : Int) ≤ x1)))))] _ rfl ⟨⟨rfl, trivial⟩, rfl⟩ ?_
    refine JO.done rfl ?_
    refine JS.cond rfl (fun ht36 => ?_) (fun ht36 => ?_)
    · have h := condT h ht36
      refine JS.seq ?_
      refine JS.region ?_
      refine JO.reg ttOk 1 [] [] [(4, .v (.string (bs [])))] _ rfl ⟨⟨rfl, trivial⟩, rfl⟩ ?_
      refine JO.done rfl ?_
      cases h
      exact JS.ret ttOk () trivial rfl rfl [] rfl
    · have h := condF h ht36
      refine JS.skip ?_
      refine JS.seq ?_
      refine JS.seq ?_
      refine JS.region ?_
      obtain ⟨y3, hy4, h⟩ := bindO_some h
      refine JO.call rfl rfl rfl rfl (ok_strings_Split ([60, 60, 45, 32, 38, 38, 32, 124, 124, 32, 59, 59, 32, 60, 60, 32, 60, 38, 32, 60, 62, 32, 62, 62, 32, 62, 38, 32, 62, 124, 32, 38, 32, 124, 32, 59, 32, 60, 32, 62, 32, 40, 32, 41]) ([32]) _ hy4) rfl [] rfl rfl ?_
      rintro ⟨a5, c6⟩ -
      refine JO.reg ttOk 2 [] [] [(16, .v (.int .i64 (y3.length : Int))), (17, .v (.int .i64 0))] _ rfl ⟨⟨rfl, rfl, trivial⟩, rfl⟩ ?_
      refine JO.done rfl ?_
      obtain ⟨j26, hj35, h⟩ := joinO_some h
      refine JS.blockJ (ι := Unit) ⟨fun _ => j26 () = some r, fun _ => [], fun _ => .nil, fun _ => [], fun _ => [], fun _ => 0⟩ ?_ ?_
      · refine JS.loop (ι := Nat × Int) ⟨fun z => fixF (M_i_OpAt_L1 x0 x1 y3 j26) z.1 z.2 = some r, fun z => [(0, .v (.string (bs x0))), (1, .v (.int .i64 x1)), (15, .v (.slice a5 y3.length c6)), (16, .v (.int .i64 (y3.length : Int))), (17, .v (.int .i64 z.2))], fun z => .nil, fun z => [], fun z => [⟨.str, ⟨a5, y3.length, c6⟩, y3⟩], fun z => z.1⟩ (FUEL, 0) h ⟨rfl, rfl, rfl, rfl, rfl, trivial⟩ trivial [] rfl [0] rfl ?_
        rintro ⟨n22, x10⟩ h
        obtain ⟨n22, rfl, h⟩ := fixF_some h
        rw [M_i_OpAt_L1] at h
        refine JS.seq ?_
        refine JS.region ?_
        refine JO.reg ttOk 1 [] [] [(18, .v (.bool (decide (x10 < (y3.length : Int)))))] _ rfl ⟨⟨rfl, trivial⟩, rfl⟩ ?_
        refine JO.done rfl ?_
        refine JS.seq ?_
        refine JS.cond rfl (fun ht34 => ?_) (fun ht34 => ?_)
        · have h := condT h ht34
          refine JS.skip ?_
          refine JS.seq ?_
          refine JS.block ?_
          refine JS.seq ?_
          refine JS.region ?_
          refine JO.know 0 rfl fun hs32 => ?_
          obtain ⟨g12, h⟩ := guardO_some h
          refine JO.reg ttOk 1 [] [] [(19, .ep ⟨a5, y3.length, c6⟩ (Int.toNat x10 * 1))] _ rfl ⟨hs32.ix g12, ⟨rfl, trivial⟩, rfl⟩ ?_
          refine JO.load ttOk rfl rfl rfl rfl rfl rfl rfl 0 rfl rfl (Int.toNat x10) 0 (at' y3 x10) ⟨at_some g12, rfl⟩ rfl rfl ?_
          refine JO.reg ttOk 1 [] [] [(6, .v (.string (bs (at' y3 x10))))] _ rfl ⟨⟨rfl, trivial⟩, rfl⟩ ?_
          refine JO.done rfl ?_
          refine JS.seq ?_
          refine JS.region ?_
          obtain ⟨g13, h⟩ := guardO_some h
          refine JO.reg ttOk 4 [] [] [(23, .v (.string (bs (sub' x0 x1 (x0.length : Int))))), (24, .v (.string (bs (at' y3 x10))))] _ rfl ⟨g13, ⟨rfl, rfl, trivial⟩, rfl⟩ ?_
          obtain ⟨y14, hy15, h⟩ := bindO_some h
          refine JO.call rfl rfl rfl rfl (ok_strings_HasPrefix (sub' x0 x1 (x0.length : Int)) (at' y3 x10) _ hy15) rfl [] rfl rfl ?_
          intro _ _
          refine JO.done rfl ?_
          refine JS.cond rfl (fun ht33 => ?_) (fun ht33 => ?_)
          · have h := condT h ht33
            refine JS.seq ?_
            refine JS.region ?_
            refine JO.reg ttOk 2 [] [] [(4, .v (.string (bs (at' y3 x10))))] _ rfl ⟨⟨rfl, trivial⟩, rfl⟩ ?_
            refine JO.done rfl ?_
            cases h
            exact JS.ret ttOk () trivial rfl rfl [] rfl
          · have h := condF h ht33
            refine JS.skip ?_
            refine JS.endB ?_
            refine JS.region ?_
            refine JO.reg ttOk 2 [(W (x10 + 1))] [] [(17, .v (.int .i64 (W (x10 + 1))))] _ rfl ⟨⟨trivial, rfl⟩, ⟨rfl, trivial⟩, rfl⟩ ?_
            refine JO.done rfl ?_
            exact JS.endL (n22, (W (x10 + 1))) h (Nat.lt_succ_self _) ⟨rfl, rfl, rfl, rfl, rfl, trivial⟩ trivial [] rfl [0] rfl
        · have h := condF h ht34
          refine JS.exit rfl ?_
          exact JS.endJ () h trivial trivial [] rfl [] rfl
      · rintro _ h
        subst hj35
        refine JS.seq ?_
        refine JS.region ?_
        refine JO.reg ttOk 1 [] [] [(4, .v (.string (bs [])))] _ rfl ⟨⟨rfl, trivial⟩, rfl⟩ ?_
        refine JO.done rfl ?_
        cases h
        exact JS.ret ttOk () trivial rfl rfl [] rfl

def M_l_FnExactOpAt (x0 : List UInt8) (x1 : Int) : Option Bool :=
  (bif (decide (1048576 < (x0.length : Int))) then
  some true
  else
  (bindO (M_s_OpAt x0 x1) fun (y3 : List UInt8) =>
  (bindO (M_i_OpAt x0 x1) fun (y5 : List UInt8) =>
  (bif (!(decide (y5 = y3))) then
  some false
  else
  some true))))

theorem ok_l_FnExactOpAt (x0 : List UInt8) (x1 : Int) (r : Bool) (h : M_l_FnExactOpAt x0 x1 = some r) :
    FC Tryd.prog 7 [.string (bs x0), .int .i64 x1] [] (fun _ : Unit => True) (fun _ => .bool r) (fun _ => []) :=
  by
    refine FC.of (T := TTx) Tryd.call7 Tryd.func7 rfl rfl fun w0 => ?_
    unfold M_l_FnExactOpAt at h
    refine JS.seq ?_
    refine JS.region ?_
    refine JO.reg ttOk 1 [] [] [] _ rfl ⟨trivial, rfl⟩ ?_
    refine JO.done rfl ?_
    refine JS.seq ?_
    refine JS.seq ?_
    refine JS.region ?_
    refine JO.reg ttOk 3 [] [] [(9, .v (.bool (decide (1048576 < (x0.length : Int)))))] _ rfl ⟨⟨rfl, trivial⟩, rfl⟩ ?_
    refine JO.done rfl ?_
    refine JS.cond rfl (fun ht10 => ?_) (fun ht10 => ?_)
    · have h := condT h ht10
      refine JS.seq ?_
      refine JS.region ?_
      refine JO.reg ttOk 1 [] [] [(4, .v (.bool true))] _ rfl ⟨⟨rfl, trivial⟩, rfl⟩ ?_
      refine JO.done rfl ?_
      cases h
      exact JS.ret ttOk () trivial rfl rfl [] rfl
    · have h := condF h ht10
      refine JS.skip ?_
      refine JS.seq ?_
      refine JS.region ?_
      refine JO.reg ttOk 2 [] [] [(10, .v (.string (bs x0))), (11, .v (.int .i64 x1))] _ rfl ⟨⟨rfl, rfl, trivial⟩, rfl⟩ ?_
      obtain ⟨y3, hy4, h⟩ := bindO_some h
      refine JO.call rfl rfl rfl rfl (ok_s_OpAt x0 x1 _ hy4) rfl [] rfl rfl ?_
      intro _ _
      refine JO.reg ttOk 1 [] [] [(5, .v (.string (bs y3)))] _ rfl ⟨⟨rfl, trivial⟩, rfl⟩ ?_
      refine JO.done rfl ?_
      refine JS.seq ?_
      refine JS.region ?_
      refine JO.reg ttOk 2 [] [] [(13, .v (.string (bs x0))), (14, .v (.int .i64 x1))] _ rfl ⟨⟨rfl, rfl, trivial⟩, rfl⟩ ?_
      obtain ⟨y5, hy6, h⟩ := bindO_some h
      refine JO.call rfl rfl rfl rfl (ok_i_OpAt x0 x1 _ hy6) rfl [] rfl rfl ?_
      intro _ _
      refine JO.reg ttOk 1 [] [] [(6, .v (.string (bs y5)))] _ rfl ⟨⟨rfl, trivial⟩, rfl⟩ ?_
      refine JO.done rfl ?_
      refine JS.seq ?_
      refine JS.seq ?_
      refine JS.region ?_
      refine JO.reg ttOk 3 [] [] [(18, .v (.bool (!(decide (y5 = y3)))))] _ rfl ⟨⟨rfl, trivial⟩, rfl⟩ ?_
      refine JO.done rfl ?_
      refine JS.cond rfl (fun ht9 => ?_) (fun ht9 => ?_)
      · have h := condT h ht9
        refine JS.seq ?_
        refine JS.region ?_
        refine JO.reg ttOk 1 [] [] [(4, .v (.bool false))] _ rfl ⟨⟨rfl, trivial⟩, rfl⟩ ?_
        refine JO.done rfl ?_
        cases h
        exact JS.ret ttOk () trivial rfl rfl [] rfl
      · have h := condF h ht9
        refine JS.skip ?_
        refine JS.seq ?_
        refine JS.region ?_
        refine JO.reg ttOk 1 [] [] [(4, .v (.bool true))] _ rfl ⟨⟨rfl, trivial⟩, rfl⟩ ?_
        refine JO.done rfl ?_
        cases h
        exact JS.ret ttOk () trivial rfl rfl [] rfl

end
end Go.Eng
