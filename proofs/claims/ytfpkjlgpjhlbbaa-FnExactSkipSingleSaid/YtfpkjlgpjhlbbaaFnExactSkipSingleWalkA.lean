/- The walks of the functions that FnExactSkipSingle reaches: what each computes, as a plain function (M_..), and that the model computes it (ok_..). Condition of each: that the plain function answers. -/
import Derived.Test.YtfpkjlgpjhlbbaaEngA
import Derived.Test.YtfpkjlgpjhlbbaaChecked
import Derived.Lib.Strings
import Derived.Lib.Slices
import Derived.Lib.Walk
import Derived.Lib.Bytealg
set_option linter.unusedVariables false
set_option linter.unusedSimpArgs false
namespace Go.Proofs

set_option maxHeartbeats 1000000 in
set_option maxRecDepth 100000 in
/-- internal/stringslite.IndexByte (what strings.IndexByte calls): IT RETURNS 'Lib.indexByte s c'; the world is as it was. -/
theorem Try.stringslite_IndexByte (s : ByteArray) (c : Int) (w : World) :
    Calls Try.prog 40 #[.string s, .int .u8 c] w fun e w' => e = .returned (.int .i64 (Lib.indexByte s.data.toList c.toNat.toUInt8)) ∧ w' = w := by
  go_enter Try.func40, Try.ntmps40
  go_wp2
  rw [run_callFunc_extern Try.func41 (by kernel_rfl) (by kernel_rfl) (by kernel_rfl) (e := Extern.BytealgIndexByte.indexByte) (by kernel_rfl), Lib.run_indexByteString]
  simp only [Result.andThen]
  rw [Oper.upon_value]
  go_wp2
  go_ret
  exact ⟨rfl, rfl⟩

end Go.Proofs

namespace Go.Proofs

set_option maxHeartbeats 1000000 in
/-- strings.IndexByte: "IndexByte returns the index of the first instance of c in s, or -1 if c is not present in s.": IT RETURNS 'Lib.indexByte s c'; the world is as it was. -/
theorem Try.strings_IndexByte (s : ByteArray) (c : Int) (w : World) :
    Calls Try.prog 32 #[.string s, .int .u8 c] w fun e w' => e = .returned (.int .i64 (Lib.indexByte s.data.toList c.toNat.toUInt8)) ∧ w' = w := by
  go_enter Try.func32, Try.ntmps32
  go_wp2_with (go_at_call 40; refine (Try.stringslite_IndexByte _ _ _).mono ?_; rintro e w' ⟨rfl, rfl⟩)
  go_ret
  exact ⟨rfl, rfl⟩

end Go.Proofs

namespace Go.Eng
open Go Go.Proofs

def TTx : TT := [
  (2, ⟨.int .i64, 1, 8, [.int .i64 0]⟩),
  (3, ⟨.int .i64, 1, 8, [.int .i64 0]⟩),
  (4, ⟨.bool, 1, 1, [.bool false]⟩),
  (5, ⟨.int .u8, 1, 1, [.int .u8 0]⟩),
  (6, ⟨.int .u8, 1, 1, [.int .u8 0]⟩),
  (7, ⟨.struct [(0, 2), (1, 3), (2, 4), (3, 6)], 4, 24, [.int .i64 0, .int .i64 0, .bool false, .int .u8 0]⟩),
  (8, ⟨.struct [(0, 2), (1, 3), (2, 4), (3, 6)], 4, 24, [.int .i64 0, .int .i64 0, .bool false, .int .u8 0]⟩),
  (9, ⟨.str, 1, 16, [.string ByteArray.empty]⟩),
  (10, ⟨.str, 1, 16, [.string ByteArray.empty]⟩),
  (11, ⟨.str, 1, 16, [.string ByteArray.empty]⟩),
  (12, ⟨.int .u64, 1, 8, [.int .u64 0]⟩),
  (13, ⟨.struct [(0, 9), (1, 12)], 2, 24, [.string ByteArray.empty, .int .u64 0]⟩),
  (14, ⟨.struct [(0, 9), (1, 12)], 2, 24, [.string ByteArray.empty, .int .u64 0]⟩),
  (21, ⟨.int .i32, 1, 4, [.int .i32 0]⟩),
  (29, ⟨.struct [(0, 3), (1, 3), (2, 9), (3, 3)], 4, 40, [.int .i64 0, .int .i64 0, .string ByteArray.empty, .int .i64 0]⟩),
  (30, ⟨.struct [(0, 3), (1, 3), (2, 9), (3, 3)], 4, 40, [.int .i64 0, .int .i64 0, .string ByteArray.empty, .int .i64 0]⟩),
  (34, ⟨.slice 3, 1, 24, [.slice none 0 0]⟩),
  (52, ⟨.int .u32, 1, 4, [.int .u32 0]⟩),
  (53, ⟨.int .u8, 1, 1, [.int .u8 0]⟩),
  (54, ⟨.int .u8, 1, 1, [.int .u8 0]⟩),
  (57, ⟨.int .i32, 1, 4, [.int .i32 0]⟩),
  (58, ⟨.int .i32, 1, 4, [.int .i32 0]⟩)]

theorem ttOk : TTok Try.prog TTx := TTok.of (by
  simp only [TTx, List.forall_mem_cons]
  exact ⟨⟨⟨_, _, rfl, rfl, rfl, rfl, rfl⟩, rfl⟩, ⟨⟨_, _, rfl, rfl, rfl, rfl, rfl⟩, rfl⟩, ⟨⟨_, _, rfl, rfl, rfl, rfl, rfl⟩, rfl⟩, ⟨⟨_, _, rfl, rfl, rfl, rfl, rfl⟩, rfl⟩, ⟨⟨_, _, rfl, rfl, rfl, rfl, rfl⟩, rfl⟩, ⟨⟨_, _, rfl, rfl, rfl, rfl, rfl⟩, ⟨_, rfl, rfl⟩⟩, ⟨⟨_, _, rfl, rfl, rfl, rfl, rfl⟩, ⟨_, rfl, rfl⟩⟩, ⟨⟨_, _, rfl, rfl, rfl, rfl, rfl⟩, rfl⟩, ⟨⟨_, _, rfl, rfl, rfl, rfl, rfl⟩, rfl⟩, ⟨⟨_, _, rfl, rfl, rfl, rfl, rfl⟩, rfl⟩, ⟨⟨_, _, rfl, rfl, rfl, rfl, rfl⟩, rfl⟩, ⟨⟨_, _, rfl, rfl, rfl, rfl, rfl⟩, ⟨_, rfl, rfl⟩⟩, ⟨⟨_, _, rfl, rfl, rfl, rfl, rfl⟩, ⟨_, rfl, rfl⟩⟩, ⟨⟨_, _, rfl, rfl, rfl, rfl, rfl⟩, rfl⟩, ⟨⟨_, _, rfl, rfl, rfl, rfl, rfl⟩, ⟨_, rfl, rfl⟩⟩, ⟨⟨_, _, rfl, rfl, rfl, rfl, rfl⟩, ⟨_, rfl, rfl⟩⟩, ⟨⟨_, _, rfl, rfl, rfl, rfl, rfl⟩, rfl⟩, ⟨⟨_, _, rfl, rfl, rfl, rfl, rfl⟩, rfl⟩, ⟨⟨_, _, rfl, rfl, rfl, rfl, rfl⟩, rfl⟩, ⟨⟨_, _, rfl, rfl, rfl, rfl, rfl⟩, rfl⟩, ⟨⟨_, _, rfl, rfl, rfl, rfl, rfl⟩, rfl⟩, ⟨⟨_, _, rfl, rfl, rfl, rfl, rfl⟩, rfl⟩, by simp⟩)

def M_s_l08Clamp (x0 : Int) (x1 : Int) : Option Int :=
  (bif (decide (x0 < 0)) then
  some 0
  else
  (bif (decide (x1 < x0)) then
  some x1
  else
  some x0))

theorem ok_s_l08Clamp (x0 : Int) (x1 : Int) (r : Int) (h : M_s_l08Clamp x0 x1 = some r) :
    FC Try.prog 30 [.int .i64 x0, .int .i64 x1] [] (fun _ : Unit => True) (fun _ => .int .i64 r) (fun _ => []) :=
  FC.of (T := TTx) Try.call30 Try.func30 rfl rfl fun w0 => by
    unfold M_s_l08Clamp at h
    refine JS.seq ?_
    refine JS.region ?_
    refine JO.reg ttOk 1 [] [] [] _ rfl ⟨trivial, rfl⟩ ?_
    refine JO.done rfl ?_
    refine JS.seq ?_
    refine JS.seq ?_
    refine JS.region ?_
    refine JO.reg ttOk 2 [] [] [(6, .v (.bool (decide (x0 < 0))))] _ rfl ⟨⟨rfl, trivial⟩, rfl⟩ ?_
    refine JO.done rfl ?_
    refine JS.cond rfl (fun ht6 => ?_) (fun ht6 => ?_)
    · have h := condT h ht6
      refine JS.seq ?_
      refine JS.region ?_
      refine JO.reg ttOk 1 [] [] [(4, .v (.int .i64 0))] _ rfl ⟨⟨rfl, trivial⟩, rfl⟩ ?_
      refine JO.done rfl ?_
      cases h
      exact JS.ret ttOk () trivial rfl rfl [] rfl
    · have h := condF h ht6
      refine JS.skip ?_
      refine JS.seq ?_
      refine JS.seq ?_
      refine JS.region ?_
      refine JO.reg ttOk 3 [] [] [(9, .v (.bool (decide (x1 < x0))))] _ rfl ⟨⟨rfl, trivial⟩, rfl⟩ ?_
      refine JO.done rfl ?_
      refine JS.cond rfl (fun ht5 => ?_) (fun ht5 => ?_)
      · have h := condT h ht5
        refine JS.seq ?_
        refine JS.region ?_
        refine JO.reg ttOk 2 [] [] [(4, .v (.int .i64 x1))] _ rfl ⟨⟨rfl, trivial⟩, rfl⟩ ?_
        refine JO.done rfl ?_
        cases h
        exact JS.ret ttOk () trivial rfl rfl [] rfl
      · have h := condF h ht5
        refine JS.skip ?_
        refine JS.seq ?_
        refine JS.region ?_
        refine JO.reg ttOk 2 [] [] [(4, .v (.int .i64 x0))] _ rfl ⟨⟨rfl, trivial⟩, rfl⟩ ?_
        refine JO.done rfl ?_
        cases h
        exact JS.ret ttOk () trivial rfl rfl [] rfl

def M_s_SkipSingle_L1 (x0 : List UInt8) (j14 : Unit → Option Int) (k9 : Int → Option Int) : Int → Option Int := fun x5 =>
  (bif (decide (x5 < (x0.length : Int))) then
  (guardO (0 ≤ x5 ∧ x5 < (x0.length : Int)) <|
  (bif (decide (((at' x0 x5).toNat : Int) = (39 : Int))) then
  some (W (x5 + 1))
  else
  k9 (W (x5 + 1))))
  else
  j14 ())

def M_s_SkipSingle (x0 : List UInt8) (x1 : Int) : Option Int :=
  (bindO (M_s_l08Clamp x1 (x0.length : Int)) fun (y3 : Int) =>
  (joinO (fun (_ : Unit) =>
  some (-1)) fun j14 =>
  (fixF (M_s_SkipSingle_L1 x0 j14) FUEL y3)))

theorem ok_s_SkipSingle (x0 : List UInt8) (x1 : Int) (r : Int) (h : M_s_SkipSingle x0 x1 = some r) :
    FC Try.prog 16 [.string (bs x0), .int .i64 x1] [] (fun _ : Unit => True) (fun _ => .int .i64 r) (fun _ => []) :=
  FC.of (T := TTx) Try.call16 Try.func16 rfl rfl fun w0 => by
    unfold M_s_SkipSingle at h
    refine JS.seq ?_
    refine JS.region ?_
    refine JO.reg ttOk 1 [] [] [] _ rfl ⟨trivial, rfl⟩ ?_
    refine JO.done rfl ?_
    refine JS.seq ?_
    refine JS.seq ?_
    refine JS.region ?_
    refine JO.reg ttOk 3 [] [] [(6, .v (.int .i64 x1)), (8, .v (.int .i64 (x0.length : Int)))] _ rfl ⟨⟨rfl, rfl, trivial⟩, rfl⟩ ?_
    obtain ⟨y3, hy19, h⟩ := bindO_some h
    refine JO.call rfl rfl rfl rfl (ok_s_l08Clamp x1 (x0.length : Int) _ hy19) rfl [] rfl rfl ?_
    intro _ _
    refine JO.reg ttOk 1 [] [] [(5, .v (.int .i64 y3))] _ rfl ⟨⟨rfl, trivial⟩, rfl⟩ ?_
    refine JO.done rfl ?_
    obtain ⟨j14, hj23, h⟩ := joinO_some h
    refine JS.blockJ (ι := Unit) ⟨fun _ => j14 () = some r, fun _ => [], fun _ => .nil, fun _ => [], fun _ => [], fun _ => 0⟩ ?_ ?_
    · refine JS.loop (ι := Nat × Int) ⟨fun z => fixF (M_s_SkipSingle_L1 x0 j14) z.1 z.2 = some r, fun z => [(0, .v (.string (bs x0))), (5, .v (.int .i64 z.2))], fun z => .nil, fun z => [], fun z => [], fun z => z.1⟩ (FUEL, y3) h ⟨rfl, rfl, trivial⟩ trivial [] rfl [] rfl ?_
      rintro ⟨n10, x5⟩ h
      obtain ⟨n10, rfl, h⟩ := fixF_some h
      rw [M_s_SkipSingle_L1] at h
      refine JS.seq ?_
      refine JS.seq ?_
      refine JS.region ?_
      refine JO.reg ttOk 4 [] [] [(13, .v (.bool (decide (x5 < (x0.length : Int)))))] _ rfl ⟨⟨rfl, trivial⟩, rfl⟩ ?_
      refine JO.done rfl ?_
      refine JS.cond rfl (fun ht22 => ?_) (fun ht22 => ?_)
      · have h := condT h ht22
        refine JS.skip ?_
        refine JS.seq ?_
        refine JS.block ?_
        refine JS.seq ?_
        refine JS.region ?_
        obtain ⟨g20, h⟩ := guardO_some h
        refine JO.reg ttOk 4 [] [] [(19, .v (.bool (decide (((at' x0 x5).toNat : Int) = (39 : Int)))))] _ rfl ⟨g20, ⟨rfl, trivial⟩, rfl⟩ ?_
        refine JO.done rfl ?_
        refine JS.cond rfl (fun ht21 => ?_) (fun ht21 => ?_)
        · have h := condT h ht21
          refine JS.seq ?_
          refine JS.region ?_
          refine JO.reg ttOk 3 [(W (x5 + 1))] [] [(4, .v (.int .i64 (W (x5 + 1))))] _ rfl ⟨⟨trivial, rfl⟩, ⟨rfl, trivial⟩, rfl⟩ ?_
          refine JO.done rfl ?_
          cases h
          exact JS.ret ttOk () trivial rfl rfl [] rfl
        · have h := condF h ht21
          refine JS.skip ?_
          refine JS.endB ?_
          refine JS.region ?_
          refine JO.reg ttOk 3 [(W (x5 + 1))] [] [(5, .v (.int .i64 (W (x5 + 1))))] _ rfl ⟨⟨trivial, rfl⟩, ⟨rfl, trivial⟩, rfl⟩ ?_
          refine JO.done rfl ?_
          exact JS.endL (n10, (W (x5 + 1))) h (Nat.lt_succ_self _) ⟨rfl, rfl, trivial⟩ trivial [] rfl [] rfl
      · have h := condF h ht22
        refine JS.exit rfl ?_
        exact JS.endJ () h trivial trivial [] rfl [] rfl
    · rintro _ h
      subst hj23
      refine JS.seq ?_
      refine JS.region ?_
      refine JO.reg ttOk 1 [] [] [(4, .v (.int .i64 (-1)))] _ rfl ⟨⟨rfl, trivial⟩, rfl⟩ ?_
      refine JO.done rfl ?_
      cases h
      exact JS.ret ttOk () trivial rfl rfl [] rfl

def M_i_within (x0 : Int) (x1 : Int) : Option Int :=
  some (max (0 : Int) (min x0 x1))

theorem ok_i_within (x0 : Int) (x1 : Int) (r : Int) (h : M_i_within x0 x1 = some r) :
    FC Try.prog 31 [.int .i64 x0, .int .i64 x1] [] (fun _ : Unit => True) (fun _ => .int .i64 r) (fun _ => []) :=
  FC.of (T := TTx) Try.call31 Try.func31 rfl rfl fun w0 => by
    unfold M_i_within at h
    refine JS.seq ?_
    refine JS.region ?_
    refine JO.reg ttOk 1 [] [] [] _ rfl ⟨trivial, rfl⟩ ?_
    refine JO.done rfl ?_
    refine JS.seq ?_
    refine JS.region ?_
    refine JO.reg ttOk 5 [] [] [(4, .v (.int .i64 (max (0 : Int) (min x0 x1))))] _ rfl ⟨⟨rfl, trivial⟩, rfl⟩ ?_
    refine JO.done rfl ?_
    cases h
    exact JS.ret ttOk () trivial rfl rfl [] rfl

def M_strings_IndexByte (x0 : List UInt8) (x1 : UInt8) : Option Int := some (Lib.indexByte x0 x1)

theorem ok_strings_IndexByte (x0 : List UInt8) (x1 : UInt8) (r : Int) (h : M_strings_IndexByte x0 x1 = some r) : FV Try.prog 32 [.string (bs x0), .int .u8 (x1.toNat : Int)] [] (.int .i64 r) := by
  cases h
  refine FV.of_calls Try.call32 fun w => ?_
  have := Try.strings_IndexByte (bs x0) (x1.toNat : Int) w
  rw [u8_byte] at this
  exact this

def M_i_SkipSingle (x0 : List UInt8) (x1 : Int) : Option Int :=
  (bindO (M_i_within x1 (x0.length : Int)) fun (y3 : Int) =>
  (guardO (0 ≤ y3 ∧ y3 ≤ (x0.length : Int) ∧ (x0.length : Int) ≤ (x0.length : Int)) <|
  (bindO (M_strings_IndexByte (sub' x0 y3 (x0.length : Int)) (39 : UInt8)) fun (y6 : Int) =>
  (bif (decide (y6 < 0)) then
  some (-1)
  else
  some (W ((W (y3 + y6)) + 1))))))

theorem ok_i_SkipSingle (x0 : List UInt8) (x1 : Int) (r : Int) (h : M_i_SkipSingle x0 x1 = some r) :
    FC Try.prog 17 [.string (bs x0), .int .i64 x1] [] (fun _ : Unit => True) (fun _ => .int .i64 r) (fun _ => []) :=
  FC.of (T := TTx) Try.call17 Try.func17 rfl rfl fun w0 => by
    unfold M_i_SkipSingle at h
    refine JS.seq ?_
    refine JS.region ?_
    refine JO.reg ttOk 1 [] [] [] _ rfl ⟨trivial, rfl⟩ ?_
    refine JO.done rfl ?_
    refine JS.seq ?_
    refine JS.region ?_
    refine JO.reg ttOk 3 [] [] [(6, .v (.int .i64 x1)), (8, .v (.int .i64 (x0.length : Int)))] _ rfl ⟨⟨rfl, rfl, trivial⟩, rfl⟩ ?_
    obtain ⟨y3, hy9, h⟩ := bindO_some h
    refine JO.call rfl rfl rfl rfl (ok_i_within x1 (x0.length : Int) _ hy9) rfl [] rfl rfl ?_
    intro _ _
    refine JO.reg ttOk 1 [] [] [(1, .v (.int .i64 y3))] _ rfl ⟨⟨rfl, trivial⟩, rfl⟩ ?_
    refine JO.done rfl ?_
    refine JS.seq ?_
    refine JS.region ?_
    obtain ⟨g10, h⟩ := guardO_some h
    refine JO.reg ttOk 3 [] [] [(12, .v (.string (bs (sub' x0 y3 (x0.length : Int)))))] _ rfl ⟨g10, ⟨rfl, trivial⟩, rfl⟩ ?_
    obtain ⟨y6, hy11, h⟩ := bindO_some h
    refine JO.call rfl rfl rfl rfl (ok_strings_IndexByte (sub' x0 y3 (x0.length : Int)) (39 : UInt8) _ hy11) rfl [] rfl rfl ?_
    intro _ _
    refine JO.reg ttOk 1 [] [] [(5, .v (.int .i64 y6))] _ rfl ⟨⟨rfl, trivial⟩, rfl⟩ ?_
    refine JO.done rfl ?_
    refine JS.seq ?_
    refine JS.seq ?_
    refine JS.region ?_
    refine JO.reg ttOk 2 [] [] [(15, .v (.bool (decide (y6 < 0))))] _ rfl ⟨⟨rfl, trivial⟩, rfl⟩ ?_
    refine JO.done rfl ?_
    refine JS.cond rfl (fun ht12 => ?_) (fun ht12 => ?_)
    · have h := condT h ht12
      refine JS.seq ?_
      refine JS.region ?_
      refine JO.reg ttOk 1 [] [] [(4, .v (.int .i64 (-1)))] _ rfl ⟨⟨rfl, trivial⟩, rfl⟩ ?_
      refine JO.done rfl ?_
      cases h
      exact JS.ret ttOk () trivial rfl rfl [] rfl
    · have h := condF h ht12
      refine JS.skip ?_
      refine JS.seq ?_
      refine JS.region ?_
      refine JO.reg ttOk 5 [(W (y3 + y6)), (W ((W (y3 + y6)) + 1))] [] [(4, .v (.int .i64 (W ((W (y3 + y6)) + 1))))] _ rfl ⟨⟨trivial, rfl⟩, ⟨trivial, rfl⟩, ⟨rfl, trivial⟩, rfl⟩ ?_
      refine JO.done rfl ?_
      cases h
      exact JS.ret ttOk () trivial rfl rfl [] rfl

def M_l_FnExactSkipSingle (x0 : List UInt8) (x1 : Int) : Option Bool :=
  (bif (decide (1048576 < (x0.length : Int))) then
  some true
  else
  (bindO (M_s_SkipSingle x0 x1) fun (y3 : Int) =>
  (bindO (M_i_SkipSingle x0 x1) fun (y5 : Int) =>
  (bif (!(decide (y5 = y3))) then
  some false
  else
  some true))))

theorem ok_l_FnExactSkipSingle (x0 : List UInt8) (x1 : Int) (r : Bool) (h : M_l_FnExactSkipSingle x0 x1 = some r) :
    FC Try.prog 6 [.string (bs x0), .int .i64 x1] [] (fun _ : Unit => True) (fun _ => .bool r) (fun _ => []) :=
  FC.of (T := TTx) Try.call6 Try.func6 rfl rfl fun w0 => by
    unfold M_l_FnExactSkipSingle at h
    refine JS.seq ?_
    refine JS.region ?_
    refine JO.reg ttOk 1 [] [] [] _ rfl ⟨trivial, rfl⟩ ?_
    refine JO.done rfl ?_
    refine JS.seq ?_
    refine JS.seq ?_
    refine JS.region ?_
    refine JO.reg ttOk 3 [] [] [(9, .v (.bool (decide (1048576 < (x0.length : Int)))))] _ rfl ⟨⟨rfl, trivial⟩, rfl⟩ ?_
    refine JO.done rfl ?_
    refine JS.cond rfl (fun ht12 => ?_) (fun ht12 => ?_)
    · have h := condT h ht12
      refine JS.seq ?_
      refine JS.region ?_
      refine JO.reg ttOk 1 [] [] [(4, .v (.bool true))] _ rfl ⟨⟨rfl, trivial⟩, rfl⟩ ?_
      refine JO.done rfl ?_
      cases h
      exact JS.ret ttOk () trivial rfl rfl [] rfl
    · have h := condF h ht12
      refine JS.skip ?_
      refine JS.seq ?_
      refine JS.region ?_
      refine JO.reg ttOk 2 [] [] [(10, .v (.string (bs x0))), (11, .v (.int .i64 x1))] _ rfl ⟨⟨rfl, rfl, trivial⟩, rfl⟩ ?_
      obtain ⟨y3, hy9, h⟩ := bindO_some h
      refine JO.call rfl rfl rfl rfl (ok_s_SkipSingle x0 x1 _ hy9) rfl [] rfl rfl ?_
      intro _ _
      refine JO.reg ttOk 1 [] [] [(5, .v (.int .i64 y3))] _ rfl ⟨⟨rfl, trivial⟩, rfl⟩ ?_
      refine JO.done rfl ?_
      refine JS.seq ?_
      refine JS.region ?_
      refine JO.reg ttOk 2 [] [] [(13, .v (.string (bs x0))), (14, .v (.int .i64 x1))] _ rfl ⟨⟨rfl, rfl, trivial⟩, rfl⟩ ?_
      obtain ⟨y5, hy10, h⟩ := bindO_some h
      refine JO.call rfl rfl rfl rfl (ok_i_SkipSingle x0 x1 _ hy10) rfl [] rfl rfl ?_
      intro _ _
      refine JO.reg ttOk 1 [] [] [(6, .v (.int .i64 y5))] _ rfl ⟨⟨rfl, trivial⟩, rfl⟩ ?_
      refine JO.done rfl ?_
      refine JS.seq ?_
      refine JS.seq ?_
      refine JS.region ?_
      refine JO.reg ttOk 3 [] [] [(18, .v (.bool (!(decide (y5 = y3)))))] _ rfl ⟨⟨rfl, trivial⟩, rfl⟩ ?_
      refine JO.done rfl ?_
      refine JS.cond rfl (fun ht11 => ?_) (fun ht11 => ?_)
      · have h := condT h ht11
        refine JS.seq ?_
        refine JS.region ?_
        refine JO.reg ttOk 1 [] [] [(4, .v (.bool false))] _ rfl ⟨⟨rfl, trivial⟩, rfl⟩ ?_
        refine JO.done rfl ?_
        cases h
        exact JS.ret ttOk () trivial rfl rfl [] rfl
      · have h := condF h ht11
        refine JS.skip ?_
        refine JS.seq ?_
        refine JS.region ?_
        refine JO.reg ttOk 1 [] [] [(4, .v (.bool true))] _ rfl ⟨⟨rfl, trivial⟩, rfl⟩ ?_
        refine JO.done rfl ?_
        cases h
        exact JS.ret ttOk () trivial rfl rfl [] rfl

end Go.Eng
